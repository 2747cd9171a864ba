/- 'append(out, l...)' onto an own row of numbers; slices.Equal of two equal lists of numbers. -/
import Derived.Test.YtnhmdgkhmkeopaaGreatDoorBase
import Derived.Test.YtnhmdgkhmkeopaaGreatDoorPure
import Derived.Deep.QuietTactic
import Derived.BigQuiet
namespace Go.Proofs.YtnhmdgkhmkeopaaGreatDoor
open Go.RowKit

theorem Ints.grown {w w' : World} {B : Nat} {A : Option Addr} {l : List Int} {row : Option Nat} (h : Ints w B A l) (hg : w.grownBy w' row) (hB : B ≤ w.heap.size) (hne : ∀ a, A = some a → some a.block ≠ row) : Ints w' B A l := by
  intro hl
  obtain ⟨b, off, hA, hb, hc⟩ := h hl
  refine ⟨b, off, hA, hb, fun j x hx => ?_⟩
  obtain ⟨vs, h1, h2, h3⟩ := hc j x hx
  refine ⟨vs, h1, h2, fun i v hv => ?_⟩
  rw [World.cell?_of_block (hg.block b (by omega) (hne ⟨b, off, none⟩ hA))]
  exact h3 i v hv
theorem Row.base_le {w : World} {base : Nat} {e : TypeId} {A : Option Addr} {n c : Nat} {l : List Int} (h : Row w base e 1 encInt (.slice A n c) l) : ∀ a, A = some a → base ≤ a.block := by
  intro a ha
  rcases h.2 with ⟨hv, h0⟩ | ⟨g, cap, cur, hv, hb, _⟩
  · injection hv with hv
    rw [hv] at ha
    cases ha
  · injection hv with hv
    rw [hv] at ha
    injection ha with ha
    rw [← ha]
    exact hb
theorem append_none {P : Program} {w : World} (t ty e : TypeId) (i : TypeInfo) (ht : P.underlying t = some (.slice e)) (hi : P.info? e = some i) (bs : Option Addr) (n cc : Nat) (a : Addr) (c : Nat) (hnc : n ≤ cc) :
    (Builtin.append_ #[t, t] ty #[.slice bs n cc, .slice none 0 c]).run P w = (Builtin.append_ #[t, t] ty #[.slice bs n cc, .slice (some a) 0 c]).run P w := by
  simp [Builtin.append_, run_underlying ht, sizeOf, typeInfo, hi, Builtin.lenOf, Builtin.firstCells, loadCells, loadCellsFrom, hnc]
theorem own_cap {w : World} {base : Nat} {e : TypeId} {v : Value} {l : List Int} (h : Row w base e 1 encInt v l) : ∃ A c, v = .slice A l.length c ∧ l.length ≤ c := by
  rcases h.2 with ⟨hv, h0⟩ | ⟨g, cap, cur, hv, _, _, hnc, _⟩
  · exact ⟨none, 0, by rw [hv, h0], by omega⟩
  · exact ⟨some ⟨g, 0, none⟩, cap, hv, hnc⟩
/-- 'append(out, l...)': out an own row of numbers, l a list of numbers that lies anywhere. -/
theorem wp_appendN {P : Program} {w : World} {o : Oper} {a : Act} {K : Act → World → Prop} {Q : Exit → Act → World → Prop} (s x : Operand) (t : TypeId)
    (ho : o.op = .call { callee := .builtin .append, args := #[s, x], argTypes := #[t, t] }) (base : Nat) (e : TypeId)
    (ht : P.underlying t = some (.slice e)) (hi : (P.info? e).map (fun i => (i.zero, i.size, i.bytes)) = some (some (.int .i64 0), 1, 8))
    (v : Value) (l ys : List Int) (hs : a.eval s = v) (hown : Row w base e 1 encInt v l) (A : Option Addr) (m c : Nat) (hx : a.eval x = .slice A m c) (hm : m = ys.length) {B : Nat} (hys : Ints w B A ys)
    (hn : l.length ≤ 1000000) (hy : ys.length ≤ 1000000) (hbase : base ≤ w.heap.size)
    (h : ∀ A' c' w', Row w' base e 1 encInt (.slice A' (l.length + m) c') (l ++ ys) → Below base w w' → w.grownBy w' v.ownBlock → K (a.put o.dst (.slice A' (l.length + m) c')) w') : o.wp P a w K Q := by
  obtain ⟨i, hi0, hz, h2, h3⟩ := info_parts hi
  have hlen : (ys.flatMap encInt).length = ys.length * 1 := flatMap_len encInt_len ys
  have key : ∀ ad : Addr, (∀ j u, (ys.flatMap encInt)[j]? = some u → w.cell? (ad.add j) = some u) → ∃ v' w', (Builtin.append_ #[t, t] o.type #[v, .slice (some ad) m c]).run P w = .ok v' w' ∧ w'.ownsRow base e 1 v' (l.length + m) (l.flatMap encInt ++ ys.flatMap encInt) ∧ w.grownBy w' v.ownBlock := by
    intro ad hcells
    obtain ⟨v', w', r1, r2, r3, _⟩ := run_append_own (P := P) w base t o.type e i (.int .i64 0) 1 8 ht hi0 hz h2 h3 rfl (by omega) v l.length (l.flatMap encInt) hown ad m c (ys.flatMap encInt) (by rw [hlen, hm]) hcells
      (fun u hu => by
        obtain ⟨y, _, hy⟩ := List.mem_flatMap.1 hu
        exact encInt_one y u hy) (by unfold maxLen; omega) (by omega) hbase
    exact ⟨v', w', r1, r2, r3⟩
  have hrun : ∃ v' w', (Builtin.append_ #[t, t] o.type #[v, .slice A m c]).run P w = .ok v' w' ∧ w'.ownsRow base e 1 v' (l.length + m) (l.flatMap encInt ++ ys.flatMap encInt) ∧ w.grownBy w' v.ownBlock := by
    by_cases h0 : 0 < ys.length
    · obtain ⟨b, off, rfl, _, hc⟩ := hys h0
      refine key ⟨b, off, none⟩ (fun j u hu => ?_)
      have hadd : (⟨b, off, none⟩ : Addr).add j = ⟨b, off + j, none⟩ := by unfold Addr.add; split <;> simp_all
      have hj : j < ys.length := by have := lt_of_get hu; omega
      obtain ⟨y, hyj⟩ : ∃ y, ys[j]? = some y := ⟨_, List.getElem?_eq_getElem hj⟩
      obtain ⟨vs, _, hr, hcell⟩ := hc j y hyj
      have hr' : vs = encInt y := hr
      subst hr'
      have h9 := flatMap_get encInt_len ys j y hyj 0 (.int .i64 y) rfl
      simp only [Nat.mul_one, Nat.add_zero] at h9
      rw [h9] at hu
      rw [hadd, ← hu]
      simpa using hcell 0 (.int .i64 y) rfl
    · have hm0 : m = 0 := by omega
      have hys0 : ys = [] := List.eq_nil_of_length_eq_zero (by omega)
      have hk := fun ad => key ad (by intro j u hu; rw [hys0] at hu; simp at hu)
      cases A with
      | some ad => exact hk ad
      | none =>
        obtain ⟨v', w', r1, r2, r3⟩ := hk ⟨0, 0, none⟩
        refine ⟨v', w', ?_, r2, r3⟩
        rw [hm0] at r1 ⊢
        obtain ⟨A1, c1, hv1, hc1⟩ := own_cap hown
        rw [hv1] at r1 ⊢
        rw [append_none t o.type e i ht hi0 A1 l.length c1 ⟨0, 0, none⟩ c hc1]
        exact r1
  obtain ⟨v', w', hr, hown', hg⟩ := hrun
  have hR : Row w' base e 1 encInt v' (l ++ ys) := by
    unfold Row
    rw [List.flatMap_append, List.length_append, ← hm]
    exact hown'
  obtain ⟨A', c', hv⟩ := hR.val
  rw [List.length_append, ← hm] at hv
  subst hv
  unfold Oper.wp execOp
  simp only [ho, resolve, invoke, builtin, Sem.run_bind, Sem.run_pure, Result.andThen_ok, List.map_toArray, List.map_cons, List.map_nil, hs, hx, hr]
  exact h A' c' w' hR ((Below.refl base w).grown hg hbase (fun k hk => (hown.lt k hk).1)) hg
theorem wpList_appendN {P : Program} {w : World} {ops : Array Oper} {rest : List Oper} {o : Oper} {a : Act} {Q : Exit → Act → World → Prop} (hgd : o.guard = none) (s x : Operand) (t : TypeId)
    (ho : o.op = .call { callee := .builtin .append, args := #[s, x], argTypes := #[t, t] }) (base : Nat) (e : TypeId)
    (ht : P.underlying t = some (.slice e)) (hi : (P.info? e).map (fun i => (i.zero, i.size, i.bytes)) = some (some (.int .i64 0), 1, 8))
    (v : Value) (l ys : List Int) (hs : a.eval s = v) (hown : Row w base e 1 encInt v l) (A : Option Addr) (m c : Nat) (hx : a.eval x = .slice A m c) (hm : m = ys.length) {B : Nat} (hys : Ints w B A ys)
    (hn : l.length ≤ 1000000) (hy : ys.length ≤ 1000000) (hbase : base ≤ w.heap.size)
    (h : ∀ A' c' w', Row w' base e 1 encInt (.slice A' (l.length + m) c') (l ++ ys) → Below base w w' → w.grownBy w' v.ownBlock → wpList P ops Q rest (a.put o.dst (.slice A' (l.length + m) c')) w') : wpList P ops Q (o :: rest) a w :=
  wpList_plain hgd fun _ hK => wp_appendN s x t ho base e ht hi v l ys hs hown A m c hx hm hys hn hy hbase fun A' c' w' h2 h3 h4 => hK _ _ (h A' c' w' h2 h3 h4)
theorem step_appendN {P : Program} {w : World} {ops : Array Oper} {o : Oper} {a : Act} {K : Act → World → Prop} {Q : Exit → Act → World → Prop} {E : Prop} (hgd : o.guard = none) (s x : Operand) (t : TypeId)
    (ho : o.op = .call { callee := .builtin .append, args := #[s, x], argTypes := #[t, t] }) (base : Nat) (e : TypeId)
    (ht : P.underlying t = some (.slice e)) (hi : (P.info? e).map (fun i => (i.zero, i.size, i.bytes)) = some (some (.int .i64 0), 1, 8))
    (v : Value) (l ys : List Int) (hs : a.eval s = v) (hown : Row w base e 1 encInt v l) (A : Option Addr) (m c : Nat) (hx : a.eval x = .slice A m c) (hm : m = ys.length) {B : Nat} (hys : Ints w B A ys)
    (hn : l.length ≤ 1000000) (hy : ys.length ≤ 1000000) (hbase : base ≤ w.heap.size)
    (h : ∀ A' c' w', Row w' base e 1 encInt (.slice A' (l.length + m) c') (l ++ ys) → Below base w w' → w.grownBy w' v.ownBlock → K (a.put o.dst (.slice A' (l.length + m) c')) w') : if Region.wanted o (yielded ops a.tmps) = true then Oper.wp P o a w K Q else E := by
  have hw : Region.wanted o (yielded ops a.tmps) = true := by simp [Region.wanted, hgd]
  rw [if_pos hw]
  exact wp_appendN s x t ho base e ht hi v l ys hs hown A m c hx hm hys hn hy hbase h
set_option maxHeartbeats 1000000 in
theorem equalInts_any (A A' : Option Addr) (l : List Int) (n c c' : Nat) (w : World) {B B' : Nat} (h : Ints w B A l) (h' : Ints w B' A' l) (hn : n = l.length) (hm : n ≤ 300000) :
    Calls Tryz.prog 26 #[.slice A n c, .slice A' n c'] w fun e w' => e = .returned (.bool true) ∧ Below w.heap.size w w' := by
  have Hs := hide h
  have Hs' := hide h'
  have hn' := hide hn
  clear h h' hn
  go_enter Tryz.func26, Tryz.ntmps26
  go_wp2_with fail
  go_loopw [13] (fun i wr => ∃ k : Nat, k ≤ n ∧ i = .int .i64 k ∧ ∃ d, wr = w.drewN d) (fun i _ => n - (intOf i).toNat)
  case atStart => exact ⟨0, Nat.zero_le _, rfl, 0, rfl⟩
  case round =>
    obtain ⟨k, hk, rfl, d, rfl⟩ := hrel
    by_cases hlt : k < n
    · obtain ⟨b, off, x, rfl, _, hx, e0⟩ := Ints.get (k := k) Hs.out (by rw [← hn'.out]; exact hlt)
      obtain ⟨b2, off2, y, rfl, _, hy, e1⟩ := Ints.get (k := k) Hs'.out (by rw [← hn'.out]; exact hlt)
      rw [hx] at hy
      injection hy with hy
      subst hy
      clear hx
      go_wp2_with fail
      go_quiet (fail)
      go_wp2_with fail
      go_roundw
      case rel => exact ⟨k + 1, by omega, by go_num, _, rfl⟩
      case measure => simp [intOf]; omega
    · obtain rfl : k = n := by omega
      go_wp2_with fail
      go_ret
      exact ⟨rfl, ⟨rfl, rfl, rfl, Nat.le_refl _, fun _ _ => rfl⟩⟩
end Go.Proofs.YtnhmdgkhmkeopaaGreatDoor
