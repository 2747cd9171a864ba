/- 'append(out, l...)' onto an own row of numbers; slices.Equal of two equal lists of numbers. A set of whole numbers, kept as a map from int to bool that the call made. Plain: ascending, each once: what slices.Sort and slices.Compact leave. No walk stands here. What slices.Sort and slices.Compact of whole numbers are asked to do (the proofs stand in a text of their own, behind the shelf); an append that leaves another block alone. 'append(out, l...)' onto an own row, l a list that lies anywhere. A detail whose lists are the call's own. No walk stands here. Strings as keys of maps. A region that draws its order, whose first operations (the loads) yield the same in every world that keeps a condition, and whose last ones (the stores, which wait for all of the first) need not keep it. No walk stands here. A region that draws its order: where two operations, or three, may come up. No walk stands here. -/
import Derived.Test.YtkmpddaobncheaaGreatDoorQaa
import Derived.Deep.QuietTactic
import Derived.BigQuiet
import Derived.Maps.Own
import Derived.Maps.OwnOps
import Derived.Maps.Views
import Derived.Lib.SlicesCompact
import Derived.Lib.RowBridge
import Derived.Sort.OwnSortedInts
import Derived.Maps.AppendAt
import Derived.Test.YtkmpddaobncheaaGreatDoorQaf
import Derived.Test.YtkmpddaobncheaaGreatDoorQar
import Derived.Deep.RegionHeld
namespace Go.Proofs.YtkmpddaobncheaaGreatDoor
open Go.RowKit

theorem Ints.grown {w w' : World} {B : Nat} {A : Option Addr} {l : List Int} {row : Option Nat} (h : Ints w B A l) (hg : w.grownBy w' row) (hB : B ≤ w.heap.size) (hne : ∀ a, A = some a → some a.block ≠ row) : Ints w' B A l := by
  intro hl
  obtain ⟨b, off, hA, hb, hc⟩ := h hl
  refine ⟨b, off, hA, hb, fun j x hx => ?_⟩
  obtain ⟨vs, h1, h2, h3⟩ := hc j x hx
  refine ⟨vs, h1, h2, fun i v hv => ?_⟩
  rw [World.cell?_of_block (hg.block b (by omega) (hne ⟨b, off, none⟩ hA))]
  exact h3 i v hv
theorem append_none {P : Program} {w : World} (t ty e : TypeId) (i : TypeInfo) (ht : P.underlying t = some (.slice e)) (hi : P.info? e = some i) (bs : Option Addr) (n cc : Nat) (a : Addr) (c : Nat) (hnc : n ≤ cc) :
    (Builtin.append_ #[t, t] ty #[.slice bs n cc, .slice none 0 c]).run P w = (Builtin.append_ #[t, t] ty #[.slice bs n cc, .slice (some a) 0 c]).run P w := by
  simp [Builtin.append_, run_underlying ht, sizeOf, typeInfo, hi, Builtin.lenOf, Builtin.firstCells, loadCells, loadCellsFrom, hnc]
end Go.Proofs.YtkmpddaobncheaaGreatDoor
namespace Go.Proofs.YtkmpddaobncheaaGreatDoor
open Go.RowKit Go.Maps

theorem keyedInt : Keyed Tryz.prog 3 := int_keyed Tryz.underlying3
theorem zeroBool (w : World) : (zeroValue 4).run Tryz.prog w = .ok (.bool false) w := by kernel_rfl
/-- A number that an int holds. -/
def InInt (x : Int) : Prop := -9223372036854775808 ≤ x ∧ x ≤ 9223372036854775807
theorem InInt.wf {x : Int} (h : InInt x) : (Lit.int .i64 x).wf = true := WalkArith.wf_i64 h
/-- Block b is a map that holds 'true' at just the numbers of the list. -/
def BSet (w : World) (b n : Nat) (seen : List Int) : Prop :=
  ∃ D : DataW Unit, IsMap D ∧ w.ownsMap Tryz.prog 3 (plainElem Tryz.prog 4) b n D ∧ ∀ x : Int, InInt x → D.atKey (.int .i64 x) (.lit (.bool false)) = .lit (.bool (seen.contains x))
section
variable {w w' : World} {b n : Nat} {seen : List Int}
set_option maxRecDepth 100000 in
theorem BSet.new (w : World) : BSet (w.alloc (.map #[] 0)) w.heap.size 0 [] :=
  ⟨.map [], ⟨[], rfl⟩, World.ownsMap_made _ _ _ _, fun _ _ => rfl⟩
set_option maxRecDepth 100000 in
theorem BSet.lt (h : BSet w b n seen) : b < w.heap.size := by obtain ⟨D, _, ho, _⟩ := h; exact ho.lt
set_option maxRecDepth 100000 in
theorem BSet.keep (h : BSet w b n seen) (hb : Below w.heap.size w w') : BSet w' b n seen := by
  obtain ⟨D, hm, ho, ha⟩ := h
  exact ⟨D, hm, ho.kept (row := none) ⟨hb.os, hb.tape, hb.output, hb.size, fun k hk _ => hb.block k hk⟩ (by simp), ha⟩
theorem BSet.alloc (h : BSet w b n seen) (o : Obj) : BSet (w.alloc o) b n seen := h.keep (below_new w o)
set_option maxRecDepth 100000 in
theorem plainElem_bool_inv {v : Value} {z : DataW Unit × List MemPlace} (h : plainElem Tryz.prog 4 v = some z) : ∃ x, v = .bool x ∧ z = (.lit (.bool x), []) := by
  unfold plainElem at h
  rw [Tryz.underlying4] at h
  cases v <;> simp at h
  exact ⟨_, rfl, h.symm⟩
set_option maxRecDepth 100000 in
theorem BSet.look (h : BSet w b n seen) {x : Int} (hx : InInt x) : (Instr.lookup 161 (.map (some b)) (.int .i64 x) false).run Tryz.prog w = .ok (.bool (seen.contains x)) w := by
  obtain ⟨D, _, ho, ha⟩ := h
  obtain ⟨v, ps, hrun, hv⟩ := ho.lookup keyedInt Tryz.underlying161 (zeroBool w) (plainElem_bool Tryz.underlying4 false) (keyOf_int_mk Tryz.underlying3 hx.wf)
  obtain ⟨y, rfl, hz⟩ := plainElem_bool_inv hv
  rw [ha x hx] at hz
  simp only [Prod.mk.injEq, DataW.lit.injEq, Lit.bool.injEq] at hz
  rw [hrun, hz.1]
set_option maxRecDepth 100000 in
theorem BSet.store (h : BSet w b n seen) {x : Int} (hx : InInt x) (hn : n ≤ 1000000) :
    ∃ w', (Instr.mapUpdate 161 (.map (some b)) (.int .i64 x) (.bool true)).run Tryz.prog w = .ok () w' ∧ BSet w' b (n + 1) (x :: seen) ∧ w.grownBy w' (some b) := by
  obtain ⟨D, hm, ho, ha⟩ := h
  obtain ⟨w', hrun, ho', hg⟩ := ho.update keyedInt Tryz.underlying161 (by unfold maxLen; omega) (keyOf_int_mk Tryz.underlying3 hx.wf) (plainElem_bool Tryz.underlying4 true)
  refine ⟨w', hrun, ⟨D.put (.int .i64 x) (.lit (.bool true)), ?_, ho', fun y hy => ?_⟩, hg⟩
  · obtain ⟨es, rfl⟩ := hm
    exact ⟨_, rfl⟩
  · by_cases hxy : y = x
    · subst hxy
      rw [atKey_put_same hm (by trivial)]
      simp
    · rw [atKey_put_other (by intro he; injection he with _ he; exact hxy he), ha y hy]
      simp [hxy]
end
theorem below_grown {B b : Nat} {w0 w w' : World} (h : Below B w0 w) (hg : w.grownBy w' (some b)) (hB : B ≤ w.heap.size) (hb : B ≤ b) : Below B w0 w' := h.grown hg hB (fun k hk => by cases hk; exact hb)
theorem BSet.grown {w w' : World} {b n g : Nat} {seen : List Int} (h : BSet w b n seen) (hg : w.grownBy w' (some g)) (hb : b ≠ g) : BSet w' b n seen := by
  obtain ⟨D, hm, ho, ha⟩ := h
  exact ⟨D, hm, ho.kept hg (by simpa using hb), ha⟩
theorem BSet.drew {w : World} {b n : Nat} {seen : List Int} (h : BSet w b n seen) : BSet w.drew b n seen := h.keep (Below.drew (Below.refl _ _))
end Go.Proofs.YtkmpddaobncheaaGreatDoor
namespace Go.Proofs.YtkmpddaobncheaaGreatDoor
open Go.RowKit Go.Sort

/-! Ascending, each once: what slices.Sort and slices.Compact leave. -/
theorem compact_asc {zs : List Int} (h : zs.Pairwise (· ≤ ·)) : ∀ m, m ≤ zs.length → (Lib.compactUpTo zs.toArray m).Pairwise (· < ·) ∧ ∀ x, x ∈ Lib.compactUpTo zs.toArray m ↔ x ∈ zs.take m := by
  have hle : ∀ i j (hi : i < zs.length) (hj : j < zs.length), i ≤ j → zs[i] ≤ zs[j] := by
    intro i j hi hj hij
    rcases Nat.lt_or_ge i j with h9 | h9
    · exact List.pairwise_iff_getElem.1 h i j hi hj h9
    · have : i = j := by omega
      subst this
      omega
  have hget : ∀ i (hi : i < zs.length), (zs.toArray)[i]! = zs[i] := by
    intro i hi
    rw [getElem!_pos _ i (by simpa using hi)]
    simp
  intro m
  induction m with
  | zero => intro _; simp [Lib.compactUpTo]
  | succ m ih =>
    intro hm
    obtain ⟨ha, hb⟩ := ih (by omega)
    have hml : m < zs.length := by omega
    rw [Lib.compactUpTo_succ, List.take_succ_eq_append_getElem hml]
    by_cases hk : Lib.keeps zs.toArray m = true
    · rw [if_pos hk, hget m hml]
      refine ⟨?_, fun x => by simp only [List.mem_append, List.mem_singleton]; rw [hb]⟩
      rw [List.pairwise_append]
      refine ⟨ha, by simp, fun x hx y hy => ?_⟩
      simp only [List.mem_singleton] at hy
      subst hy
      obtain ⟨j, hj, rfl⟩ := List.getElem_of_mem ((hb x).1 hx)
      rw [List.length_take] at hj
      rw [List.getElem_take]
      simp only [Lib.keeps, decide_eq_true_eq] at hk
      rcases hk with hk | hk
      · omega
      · rw [hget m hml, hget (m - 1) (by omega)] at hk
        have h1 := hle j (m - 1) (by omega) (by omega) (by omega)
        have h2 := hle (m - 1) m (by omega) hml (by omega)
        omega
    · rw [if_neg hk, List.append_nil]
      refine ⟨ha, fun x => ?_⟩
      rw [hb]
      simp only [Lib.keeps, decide_eq_true_eq, not_or, Decidable.not_not] at hk
      obtain ⟨hk0, hk1⟩ := hk
      rw [hget m hml, hget (m - 1) (by omega)] at hk1
      simp only [List.mem_append, List.mem_singleton]
      refine ⟨fun h => .inl h, fun h => ?_⟩
      rcases h with h | h
      · exact h
      · rw [h, hk1]
        rw [List.mem_iff_getElem]
        exact ⟨m - 1, by rw [List.length_take]; omega, by rw [List.getElem_take]⟩
theorem compact_sorted (l : List Int) : (Lib.compact (l.mergeSort fun x y => decide (x ≤ y))).Pairwise (· < ·) ∧ ∀ x, x ∈ Lib.compact (l.mergeSort fun x y => decide (x ≤ y)) ↔ x ∈ l := by
  have hs : (l.mergeSort fun x y => decide (x ≤ y)).Pairwise (· ≤ ·) := by
    have h := List.pairwise_mergeSort (le := fun (x y : Int) => decide (x ≤ y)) (fun a b c h1 h2 => by simp at *; omega) (fun a b => by simp; omega) l
    exact h.imp (fun h => by simpa using h)
  obtain ⟨h1, h2⟩ := compact_asc hs _ (Nat.le_refl _)
  refine ⟨h1, fun x => ?_⟩
  have := h2 x
  rw [List.take_length] at this
  unfold Lib.compact
  rw [this]
  exact List.mem_mergeSort
end Go.Proofs.YtkmpddaobncheaaGreatDoor
namespace Go.Proofs.YtkmpddaobncheaaGreatDoor
open Go.RowKit

/-- slices.Sort, slices.Compact over a row of the call's own. -/
def SortLaw : Prop := ∀ (A : Option Addr) (l : List Int) (n c base : Nat) (w : World), Row w base 3 1 encInt (.slice A n c) l → l.length ≤ 300000 →
  Calls Tryz.prog 86 #[.slice A n c] w fun e w' => e = .returned (.tuple #[]) ∧ Row w' base 3 1 encInt (.slice A n c) (l.mergeSort fun x y => decide (x ≤ y)) ∧ Below base w w'
def CompLaw : Prop := ∀ (A : Option Addr) (l : List Int) (n c base : Nat) (w : World), Row w base 3 1 encInt (.slice A n c) l → l.length ≤ 300000 →
  Calls Tryz.prog 87 #[.slice A n c] w fun e w' => ∃ A', e = .returned (.slice A' (Lib.compact l).length c) ∧ Row w' base 3 1 encInt (.slice A' (Lib.compact l).length c) (Lib.compact l) ∧ Below base w w'

/-- A block lies apart from the row that a slice lies in. -/
def Apart (v : Value) (g : Nat) : Prop := v.ownBlock ≠ some g
theorem apart_new {α : Type} {w : World} {base size : Nat} {e : TypeId} {enc : α → List Value} {v : Value} {l : List α} (h : Row w base e size enc v l) {g : Nat} (hg : w.heap.size ≤ g) : Apart v g := by
  intro he
  rcases h.2 with ⟨hv, _⟩ | ⟨g2, cap, cur, hv, _, hh, _⟩
  · rw [hv] at he; simp [Value.ownBlock] at he
  · rw [hv] at he
    simp [Value.ownBlock] at he
    subst he
    have := (Array.getElem?_eq_some_iff.1 hh).1
    omega
end Go.Proofs.YtkmpddaobncheaaGreatDoor
namespace Go.Proofs.YtkmpddaobncheaaGreatDoor
open Go.RowKit

theorem own_capG {α : Type} {w : World} {base size : Nat} {e : TypeId} {enc : α → List Value} {v : Value} {l : List α} (h : Row w base e size enc v l) : ∃ A c, v = .slice A l.length c ∧ l.length ≤ c := by
  rcases h.2 with ⟨hv, h0⟩ | ⟨g, cap, cur, hv, _, _, hnc, _⟩
  · exact ⟨none, 0, by rw [hv, h0], by omega⟩
  · exact ⟨some ⟨g, 0, none⟩, cap, hv, hnc⟩
/-- 'append(out, l...)': out an own row of numbers, l a list of numbers that lies anywhere. -/
theorem wp_appendG {α : Type} {P : Program} {w : World} {o : Oper} {a : Act} {K : Act → World → Prop} {Q : Exit → Act → World → Prop} (s x : Operand) (t : TypeId)
    (ho : o.op = .call { callee := .builtin .append, args := #[s, x], argTypes := #[t, t] }) (base : Nat) (e : TypeId) (z : Value) (size bytes : Nat) (enc : α → List Value)
    (ht : P.underlying t = some (.slice e)) (hi : (P.info? e).map (fun i => (i.zero, i.size, i.bytes)) = some (some z, size, bytes)) (hzs : z.cells.size = size) (hsz : 0 < size) (he : ∀ x, (enc x).length = size) (h1 : ∀ x, ∀ u ∈ enc x, u.oneCell' = true)
    (v : Value) (l ys : List α) (hs : a.eval s = v) (hown : Row w base e size enc v l) (A : Option Addr) (m c : Nat) (hx : a.eval x = .slice A m c) (hm : m = ys.length) {B : Nat} (hys : SlOf w B size (Flat enc) A ys)
    (hn : l.length ≤ 1000000) (hy : ys.length ≤ 1000000) (hby : bytes ≤ 1000) (hbase : base ≤ w.heap.size)
    (h : ∀ A' c' w', Row w' base e size enc (.slice A' (l.length + m) c') (l ++ ys) → Below base w w' → w.grownBy w' v.ownBlock → K (a.put o.dst (.slice A' (l.length + m) c')) w') : o.wp P a w K Q := by
  obtain ⟨i, hi0, hz, h2, h3⟩ := info_parts hi
  have hlen : (ys.flatMap enc).length = ys.length * size := flatMap_len he ys
  have hmm : (l.length + ys.length) * bytes ≤ 2000000 * 1000 := Nat.mul_le_mul (by omega) hby
  have key : ∀ ad : Addr, (∀ j u, (ys.flatMap enc)[j]? = some u → w.cell? (ad.add j) = some u) → ∃ v' w', (Builtin.append_ #[t, t] o.type #[v, .slice (some ad) m c]).run P w = .ok v' w' ∧ w'.ownsRow base e size v' (l.length + m) (l.flatMap enc ++ ys.flatMap enc) ∧ w.grownBy w' v.ownBlock := by
    intro ad hcells
    obtain ⟨v', w', r1, r2, r3, _⟩ := run_append_own (P := P) w base t o.type e i z size bytes ht hi0 hz h2 h3 hzs hsz v l.length (l.flatMap enc) hown ad m c (ys.flatMap enc) (by rw [hlen, hm]) hcells
      (fun u hu => by
        obtain ⟨y, _, hy⟩ := List.mem_flatMap.1 hu
        exact h1 y u hy) (by unfold maxLen; omega) (by rw [hm]; omega) hbase
    exact ⟨v', w', r1, r2, r3⟩
  have hrun : ∃ v' w', (Builtin.append_ #[t, t] o.type #[v, .slice A m c]).run P w = .ok v' w' ∧ w'.ownsRow base e size v' (l.length + m) (l.flatMap enc ++ ys.flatMap enc) ∧ w.grownBy w' v.ownBlock := by
    by_cases h0 : 0 < ys.length
    · obtain ⟨b, off, rfl, _, hc⟩ := hys h0
      refine key ⟨b, off, none⟩ (fun j u hu => ?_)
      have hadd : (⟨b, off, none⟩ : Addr).add j = ⟨b, off + j, none⟩ := by unfold Addr.add; split <;> simp_all
      have hj : j < (ys.flatMap enc).length := lt_of_get hu
      rw [hlen] at hj
      have hdm : j / size < ys.length := Nat.div_lt_of_lt_mul (by rw [Nat.mul_comm]; exact hj)
      obtain ⟨y, hyj⟩ : ∃ y, ys[j / size]? = some y := ⟨_, List.getElem?_eq_getElem hdm⟩
      obtain ⟨vs, _, hr, hcell⟩ := hc (j / size) y hyj
      have hr' : vs = enc y := hr
      subst hr'
      have hmod : j % size < (enc y).length := by rw [he]; exact Nat.mod_lt _ hsz
      have h8 : (enc y)[j % size]? = some (enc y)[j % size] := List.getElem?_eq_getElem hmod
      have h9 := flatMap_get he ys (j / size) y hyj (j % size) _ h8
      have hsum : j / size * size + j % size = j := by rw [Nat.mul_comm]; exact Nat.div_add_mod j size
      rw [hsum, hu] at h9
      injection h9 with h9
      have h7 := hcell (j % size) _ h8
      rw [Nat.add_assoc, hsum] at h7
      rw [hadd, h7, h9]
    · have hm0 : m = 0 := by omega
      have hys0 : ys = [] := List.eq_nil_of_length_eq_zero (by omega)
      have hk := fun ad => key ad (by intro j u hu; rw [hys0] at hu; simp at hu)
      cases A with
      | some ad => exact hk ad
      | none =>
        obtain ⟨v', w', r1, r2, r3⟩ := hk ⟨0, 0, none⟩
        refine ⟨v', w', ?_, r2, r3⟩
        rw [hm0] at r1 ⊢
        obtain ⟨A1, c1, hv1, hc1⟩ := own_capG hown
        rw [hv1] at r1 ⊢
        rw [append_none t o.type e i ht hi0 A1 l.length c1 ⟨0, 0, none⟩ c hc1]
        exact r1
  obtain ⟨v', w', hr, hown', hg⟩ := hrun
  have hR : Row w' base e size enc v' (l ++ ys) := by
    unfold Row
    rw [List.flatMap_append, List.length_append, ← hm]
    exact hown'
  obtain ⟨A', c', hv⟩ := hR.val
  rw [List.length_append, ← hm] at hv
  subst hv
  unfold Oper.wp execOp
  simp only [ho, resolve, invoke, builtin, Sem.run_bind, Sem.run_pure, Result.andThen_ok, List.map_toArray, List.map_cons, List.map_nil, hs, hx, hr]
  exact h A' c' w' hR ((Below.refl base w).grown hg hbase (fun k hk => (hown.lt k hk).1)) hg
theorem wpList_appendG {α : Type} {P : Program} {w : World} {ops : Array Oper} {rest : List Oper} {o : Oper} {a : Act} {Q : Exit → Act → World → Prop} (hgd : o.guard = none) (s x : Operand) (t : TypeId)
    (ho : o.op = .call { callee := .builtin .append, args := #[s, x], argTypes := #[t, t] }) (base : Nat) (e : TypeId) (z : Value) (size bytes : Nat) (enc : α → List Value)
    (ht : P.underlying t = some (.slice e)) (hi : (P.info? e).map (fun i => (i.zero, i.size, i.bytes)) = some (some z, size, bytes)) (hzs : z.cells.size = size) (hsz : 0 < size) (he : ∀ x, (enc x).length = size) (h1 : ∀ x, ∀ u ∈ enc x, u.oneCell' = true)
    (v : Value) (l ys : List α) (hs : a.eval s = v) (hown : Row w base e size enc v l) (A : Option Addr) (m c : Nat) (hx : a.eval x = .slice A m c) (hm : m = ys.length) {B : Nat} (hys : SlOf w B size (Flat enc) A ys)
    (hn : l.length ≤ 1000000) (hy : ys.length ≤ 1000000) (hby : bytes ≤ 1000) (hbase : base ≤ w.heap.size)
    (h : ∀ A' c' w', Row w' base e size enc (.slice A' (l.length + m) c') (l ++ ys) → Below base w w' → w.grownBy w' v.ownBlock → wpList P ops Q rest (a.put o.dst (.slice A' (l.length + m) c')) w') : wpList P ops Q (o :: rest) a w :=
  wpList_plain hgd fun _ hK => wp_appendG s x t ho base e z size bytes enc ht hi hzs hsz he h1 v l ys hs hown A m c hx hm hys hn hy hby hbase fun A' c' w' h2 h3 h4 => hK _ _ (h A' c' w' h2 h3 h4)
end Go.Proofs.YtkmpddaobncheaaGreatDoor
namespace Go.Proofs.YtkmpddaobncheaaGreatDoor
open Go.RowKit

/-- A bar, a demand, with the slice that it holds. -/
abbrev BarX := BarD × Option Addr × Nat
def encBarX (p : BarX) : List Value := [.string p.1.mark, .int .i64 p.1.size, .int .i64 p.1.count, .int .i64 p.1.code, .slice p.2.1 p.1.dims.length p.2.2]
theorem encBarX_len (p : BarX) : (encBarX p).length = 5 := rfl
abbrev DemX := DemD × Option Addr × Nat
def encDemX (p : DemX) : List Value := [.string p.1.name] ++ encB p.1.zone ++ [.slice p.2.1 p.1.steps.length p.2.2]
theorem encDemX_len (p : DemX) : (encDemX p).length = 8 := rfl
theorem encStp_one (p : Int × Int) : ∀ u ∈ encStp p, u.oneCell' = true := by
  intro u hu
  simp only [encStp, List.mem_cons, List.not_mem_nil, or_false] at hu
  rcases hu with rfl | rfl <;> rfl

theorem join_rows {α β : Type} {enc : α × β → List Value} {S : World → Nat → α × β → Prop} {w : World} {B size : Nat} {R : World → Nat → List Value → α → Prop} {A : Option Addr} {L : List (α × β)}
    (hR : ∀ p, S w B p → R w B (enc p) p.1) (h : SlOf w B size (Flat enc) A L) (hS : ∀ p ∈ L, S w B p) : SlOf w B size R A (L.map (·.1)) := by
  intro hl
  rw [List.length_map] at hl
  obtain ⟨b, off, hA, hb, hc⟩ := h hl
  refine ⟨b, off, hA, hb, fun k x hx => ?_⟩
  rw [List.getElem?_map] at hx
  cases hp : L[k]? with
  | none => rw [hp] at hx; cases hx
  | some p =>
    rw [hp] at hx
    simp at hx
    subst hx
    obtain ⟨vs, hs, hr, hv⟩ := hc k p hp
    have hr' : vs = enc p := hr
    subst hr'
    exact ⟨_, hs, hR p (hS p (mem_of_get hp)), hv⟩
theorem bars_join {w : World} {B : Nat} {A : Option Addr} {L : List BarX} (h : SlOf w B 5 (Flat encBarX) A L) (hL : ∀ p ∈ L, Ints w B p.2.1 p.1.dims) : BarsAt w B A (L.map (·.1)) :=
  join_rows (β := Option Addr × Nat) (enc := encBarX) (S := fun w B p => Ints w B p.2.1 p.1.dims) (fun p hp => ⟨p.2.1, p.2.2, rfl, hp⟩) h hL
theorem dems_join {w : World} {B : Nat} {A : Option Addr} {L : List DemX} (h : SlOf w B 8 (Flat encDemX) A L) (hL : ∀ p ∈ L, StpsAt w B p.2.1 p.1.steps) : DemsAt w B A (L.map (·.1)) :=
  join_rows (β := Option Addr × Nat) (enc := encDemX) (S := fun w B p => StpsAt w B p.2.1 p.1.steps) (fun p hp => ⟨p.2.1, p.2.2, rfl, hp⟩) h hL
end Go.Proofs.YtkmpddaobncheaaGreatDoor
namespace Go.Proofs.YtkmpddaobncheaaGreatDoor
open Go.RowKit Go.Maps

def sKey (s : ByteArray) : Lit := .string s.data.toList
end Go.Proofs.YtkmpddaobncheaaGreatDoor
namespace Go.Proofs.YtkmpddaobncheaaGreatDoor
section
variable {P : Program} {ops : Array Oper} {Q : Exit → Act → World → Prop} {md : Region.Mode} {S : World → Prop} {n : Nat}

def HeldTo (P : Program) (md : Region.Mode) (ops : Array Oper) (Q : Exit → Act → World → Prop) (S : World → Prop) (n : Nat) : Nat → Array Bool → Act → World → Prop
  | 0, listed, a, w => Region.ready md ops listed = [] ∧ Q .normal a w
  | fuel + 1, listed, a, w =>
    (Region.ready md ops listed = [] → Q .normal a w) ∧
    ∀ i ∈ Region.ready md ops listed, wpOp P ops Q i (fun a' w' => (i < n → S w') ∧ HeldTo P md ops Q S n fuel (listed.setIfInBounds i true) a' w') a w
theorem HeldTo.any : ∀ (fuel : Nat) (listed : Array Bool) (a : Act) (w : World), HeldTo P md ops Q S n fuel listed a w → wpAny P md ops Q fuel listed a w
  | 0, _, _, _, h => h
  | fuel + 1, _, _, _, h => ⟨h.1, fun i hi => wpOp_mono (fun a' w' h' => HeldTo.any fuel _ a' w' h'.2) (h.2 i hi)⟩
def waitsOn (md : Region.Mode) (ops : Array Oper) (j i : Nat) : Bool := ((ops[j]?).map fun o => o.after.any fun e => Region.binds md e && e.on == i).getD true
def lateB (md : Region.Mode) (ops : Array Oper) (n i : Nat) : Bool := (List.range ops.size).all fun j => decide (j < n) || decide (j = i) || waitsOn md ops j i
theorem lateB_spec {i j : Nat} {o : Oper} (h : lateB md ops n i = true) (hj : ops[j]? = some o) (hn : n ≤ j) (hne : j ≠ i) : ∃ e ∈ o.after, Region.binds md e = true ∧ e.on = i := by
  have hlt : j < ops.size := (Array.getElem?_eq_some_iff.1 hj).1
  have h1 := List.all_eq_true.1 h j (List.mem_range.2 hlt)
  simp only [Bool.or_eq_true, decide_eq_true_eq] at h1
  rcases h1 with (h1 | h1) | h1
  · omega
  · exact absurd h1 hne
  · unfold waitsOn at h1
    rw [hj] at h1
    simp only [Option.map_some, Option.getD_some] at h1
    obtain ⟨e, he, hb⟩ := Array.any_eq_true'.1 h1
    simp only [Bool.and_eq_true, beq_iff_eq] at hb
    exact ⟨e, he, hb.1, hb.2⟩
theorem HeldTo.first {i : Nat} {oi : Oper} {v : Value} (hi : ops[i]? = some oi) (hsel : ∀ (j : Nat) (o : Oper) cs b, ops[j]? = some o → o.op ≠ .select cs b)
    (hQ : ∀ c a w, Q (.panic c) (a.put oi.dst v) w → Q (.panic c) a w) (hlate : lateB md ops n i = true) :
    ∀ (fuel : Nat) (listed : Array Bool) (a : Act) (w : World),
      (∀ j oj, ops[j]? = some oj → j ≠ i → listed.getD j true = false → (∀ e ∈ oj.after, Region.binds md e = true → e.on ≠ i) → oi.apart ops oj = true) →
      i ∈ Region.ready md ops listed → YieldsIf P ops S oi v a → S w →
      HeldTo P md ops Q S n fuel (listed.setIfInBounds i true) (a.put oi.dst v) w → HeldTo P md ops Q S n (fuel + 1) listed a w := by
  intro fuel
  induction fuel with
  | zero =>
    intro listed a w _ hr hy hS H
    refine ⟨fun h => (by rw [h] at hr; cases hr), fun j hj => ?_⟩
    by_cases hji : j = i
    · subst hji
      exact hy.wpOp hi hS ⟨fun _ => hS, H⟩
    · have := ready_mono hj hji
      rw [H.1] at this
      cases this
  | succ fuel ih =>
    intro listed a w hfree hr hy hS H
    refine ⟨fun h => (by rw [h] at hr; cases hr), fun j hj => ?_⟩
    by_cases hji : j = i
    · subst hji
      exact hy.wpOp hi hS ⟨fun _ => hS, H⟩
    · obtain ⟨hun, oj, hoj, hall⟩ := mem_ready.1 hj
      have hno : ∀ e ∈ oj.after, Region.binds md e = true → e.on ≠ i := fun e he hb heq => by
        have h1 := hall e he hb
        rw [heq] at h1
        have h0 := (mem_ready.1 hr).1
        rcases Nat.lt_or_ge i listed.size with h' | h'
        · simp [h'] at h0 h1
          rw [h0] at h1
          cases h1
        · simp [Array.getElem?_eq_none h'] at h1
      have hjn : j < n := by
        rcases Nat.lt_or_ge j n with h9 | h9
        · exact h9
        · obtain ⟨e, he, hb, hon⟩ := lateB_spec hlate hoj h9 hji
          exact absurd hon (hno e he hb)
      refine wpOp_mono (fun a' w' h3 => ⟨h3.2.1, ih (listed.setIfInBounds j true) a' w' ?_ (ready_mono hr (Ne.symm hji)) h3.1 (h3.2.1 hjn) ?_⟩)
        (wpOp_putIf hoj (hfree j oj hoj hji hun hno) (fun cs b => hsel i oi cs b hi) (fun cs b => hsel j oj cs b hoj) hQ hy (H.2 j (ready_mono hj hji)))
      · intro k ok hk hki hku hkn
        refine hfree k ok hk hki ?_ hkn
        by_cases hjk : j = k
        · subst hjk
          exact hun
        · rw [getD_set_ne true hjk] at hku
          exact hku
      · rw [Array.setIfInBounds_comm _ _ hji]
        exact h3.2.2
theorem HeldTo.take {i : Nat} {oi : Oper} {v : Value} {fuel : Nat} {listed : Array Bool} {a : Act} {w : World} (hi : ops[i]? = some oi)
    (hs : Region.noSelect ops = true) (hf : Region.free md ops listed i = true) (hr : (Region.ready md ops listed).contains i = true) (hl : lateB md ops n i = true)
    (hQ : ∀ c a w, Q (.panic c) (a.put oi.dst v) w → Q (.panic c) a w) (hy : YieldsIf P ops S oi v a) (hS : S w)
    (h : HeldTo P md ops Q S n fuel (listed.setIfInBounds i true) (a.put oi.dst v) w) : HeldTo P md ops Q S n (fuel + 1) listed a w :=
  HeldTo.first hi (Region.noSelect_spec hs) hQ hl fuel listed a w (Region.free_spec hi hf) (by simpa using hr) hy hS h
theorem HeldTo.done {listed : Array Bool} {a : Act} {w : World} (hr : Region.ready md ops listed = []) (h : Q .normal a w) : ∀ fuel, HeldTo P md ops Q S n fuel listed a w
  | 0 => ⟨hr, h⟩
  | _ + 1 => ⟨fun _ => h, by rw [hr]; simp⟩
/-- One operation alone may come up. -/
theorem HeldTo.one {i : Nat} {o : Oper} {fuel : Nat} {listed : Array Bool} {a : Act} {w : World} (hr : Region.ready md ops listed = [i]) (ho : ops[i]? = some o)
    (h : ∀ K' : Act → World → Prop, Shut (∀ a w, (i < n → S w) → (S w ∨ n ≤ i → HeldTo P md ops Q S n fuel (listed.setIfInBounds i true) a w) → K' a w) → if Region.wanted o (yielded ops a.tmps) = true then Oper.wp P o a w K' Q else K' (a.put o.dst undef) w) :
    HeldTo P md ops Q S n (fuel + 1) listed a w := by
  refine ⟨fun h0 => (by rw [hr] at h0; cases h0), fun j hj => ?_⟩
  rw [hr, List.mem_singleton] at hj
  subst hj
  refine wpOp_step ho (fun K' hK => h K' (fun a w hS hW => hK a w ⟨hS, hW ?_⟩))
  by_cases hn : j < n
  · exact .inl (hS hn)
  · exact .inr (by omega)
theorem wp_region_heldTo {id : Nat} {a : Act} {w : World} (hm : P.follows .mixedOrders = true) (h : HeldTo P .any ops Q S n ops.size (Array.replicate ops.size false) a w.drew) : (Code.region id ops true).wp P Q a w :=
  wp_region_any hm (HeldTo.any _ _ _ _ h)
end
end Go.Proofs.YtkmpddaobncheaaGreatDoor
namespace Go.Proofs.YtkmpddaobncheaaGreatDoor
section
variable {P : Program} {ops : Array Oper} {Q : Exit → Act → World → Prop} {md : Region.Mode} {S : World → Prop} {n : Nat}
def StepTo (P : Program) (md : Region.Mode) (ops : Array Oper) (Q : Exit → Act → World → Prop) (S : World → Prop) (n fuel : Nat) (listed : Array Bool) (a : Act) (w : World) (i : Nat) (o : Oper) : Prop :=
  ∀ K' : Act → World → Prop, Shut (∀ a w, (i < n → S w) → (S w ∨ n ≤ i → HeldTo P md ops Q S n fuel (listed.setIfInBounds i true) a w) → K' a w) → if Region.wanted o (yielded ops a.tmps) = true then Oper.wp P o a w K' Q else K' (a.put o.dst undef) w
theorem StepTo.go {fuel : Nat} {listed : Array Bool} {a : Act} {w : World} {i : Nat} {o : Oper} (ho : ops[i]? = some o) (h : StepTo P md ops Q S n fuel listed a w i o) :
    wpOp P ops Q i (fun a' w' => (i < n → S w') ∧ HeldTo P md ops Q S n fuel (listed.setIfInBounds i true) a' w') a w := by
  refine wpOp_step ho (fun K' hK => h K' (fun a w hS hW => hK a w ⟨hS, hW ?_⟩))
  by_cases hn : i < n
  · exact .inl (hS hn)
  · exact .inr (by omega)
theorem HeldTo.pair {i j : Nat} {oi oj : Oper} {fuel : Nat} {listed : Array Bool} {a : Act} {w : World} (hr : Region.ready md ops listed = [i, j]) (hi : ops[i]? = some oi) (hj : ops[j]? = some oj)
    (h : StepTo P md ops Q S n fuel listed a w i oi) (h' : StepTo P md ops Q S n fuel listed a w j oj) : HeldTo P md ops Q S n (fuel + 1) listed a w := by
  refine ⟨fun h0 => (by rw [h0] at hr; cases hr), fun k hk => ?_⟩
  rw [hr] at hk
  rcases List.mem_cons.1 hk with rfl | hk
  · exact h.go hi
  · rw [List.mem_singleton] at hk
    subst hk
    exact h'.go hj
end
end Go.Proofs.YtkmpddaobncheaaGreatDoor
