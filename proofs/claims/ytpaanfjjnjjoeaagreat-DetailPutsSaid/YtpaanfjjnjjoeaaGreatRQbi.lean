/- The list of a check's findings: (*list).add. -/
import Derived.Test.YtpaanfjjnjjoeaaGreatRQaa
import Derived.Test.YtpaanfjjnjjoeaaGreatRQbe
import Derived.Test.YtpaanfjjnjjoeaaGreatRQat
import Derived.Deep.RegionLaw
import Derived.Deep.CutRange
namespace Go.Proofs.YtpaanfjjnjjoeaaGreat
open Go.RowKit
theorem apart_type {α : Type} {w : World} {base size : Nat} {e : TypeId} {enc : α → List Value} {v : Value} {l : List α} (h : Row w base e size enc v l) {g : Nat} {t : TypeId} {cs : Array Value} (hg : Blk w g t cs) (hne : t ≠ e) : Apart v g := by
 intro he
 rcases h.2 with ⟨hv, _⟩ | ⟨g2, cap, cur, hv, _, hh, _⟩
 ·rw [hv] at he; simp [Value.ownBlock] at he
 ·rw [hv] at he
  simp [Value.ownBlock] at he
  subst he
  unfold Blk at hg
  rw [hh] at hg
  injection hg with hg
  injection hg with _ ht
  exact hne ht.symm
theorem rowSetB {α : Type} {w : World} {base size : Nat} {e : TypeId} {enc : α → List Value} {v : Value} {l : List α} (h : Row w base e size enc v l) {a : Addr} (ha : a.block < base) (u : Value) : Row (w.setCell a u) base e size enc v l := ownsRow_setCell_below h ha u
theorem step_append1x {α : Type} {P : Program} {w : World} {ops : Array Oper} {o : Oper} {a : Act} {K : Act → World → Prop} {Q : Exit → Act → World → Prop} {E : Prop} (hgd : o.guard = none) (s x : Operand) (t : TypeId)
  (ho : o.op = .call { callee := .builtin .append, args := #[s, x], argTypes := #[t, t] }) (base : Nat) (e : TypeId) (z : Value) (size bytes : Nat) (enc : α → List Value)
  (ht : P.underlying t = some (.slice e)) (hi : (P.info? e).map (fun i => (i.zero, i.size, i.bytes)) = some (some z, size, bytes)) (hzs : z.cells.size = size) (hsz : 0 < size) (he : ∀ x, (enc x).length = size) (h1 : ∀ x, ∀ u ∈ enc x, u.oneCell' = true)
  (v : Value) (l : List α) (y : α) (hs : a.eval s = v) (hown : Row w base e size enc v l) (g : Nat) (hx : a.eval x = .slice (some ⟨g, 0, none⟩) 1 1) (hblk : Blk w g e (enc y).toArray)
  (hn : l.length ≤ 1000000) (hby : bytes ≤ 1000) (hbase : base ≤ w.heap.size)
  (h : ∀ A c w', Row w' base e size enc (.slice A (l.length + 1) c) (l ++ [y]) → Below base w w' → (∀ g' t' cs', Apart v g' → Blk w g' t' cs' → Blk w' g' t' cs') → (∀ g', g' < w.heap.size → Apart v g' → Apart (.slice A (l.length + 1) c) g') → K (a.put o.dst (.slice A (l.length + 1) c)) w') : if Region.wanted o (yielded ops a.tmps) = true then Oper.wp P o a w K Q else E := by
 have hw : Region.wanted o (yielded ops a.tmps) = true := by simp [Region.wanted, hgd]
 rw [if_pos hw]
 obtain ⟨i, hi0, hz, h2, h3⟩ := info_parts hi
 have hm : (l.length + 1) * bytes ≤ 1000001 * 1000 := Nat.mul_le_mul (by omega) hby
 obtain ⟨v', w', hr, hown', hg, _, hat⟩ := run_append_own_at (P := P) w base t o.type e i z size bytes ht hi0 hz h2 h3 hzs hsz v l.length (l.flatMap enc) hown ⟨g, 0, none⟩ 1 1 (enc y) (by rw [he]; omega) (by
  intro j u hu
  have hadd : (⟨g, 0, none⟩ : Addr).add j = ⟨g, j, none⟩ := by unfold Addr.add; split <;> simp_all
  rw [hadd, hblk.cell]
  simpa using hu) (h1 y) (by unfold maxLen; omega) (by omega) hbase
 unfold Oper.wp execOp
 simp only [ho, resolve, invoke, builtin, Sem.run_bind, Sem.run_pure, Result.andThen_ok, List.map_toArray, List.map_cons, List.map_nil, hs, hx, hr]
 have hR : Row w' base e size enc v' (l ++ [y]) := by
  unfold Row
  rw [List.flatMap_append]
  simpa using hown'
 obtain ⟨A, c, hv⟩ := hR.val
 rw [List.length_append, List.length_singleton] at hv
 subst hv
 refine h A c w' hR ((Below.refl base w).grown hg hbase (fun k hk => (hown.lt k hk).1)) (fun g' t' cs' hne hb' => hb'.grown hg (fun he' => hne he'.symm)) (fun g' hlt hne he' => ?_)
 rcases hat with h9 | h9
 ·exact hne (h9.symm.trans he')
 ·have := h9.symm.trans he'
  injection this with this
  omega
def addTo (acc l : List FinD) (more : Int) (k : Nat) : List FinD := acc ++ (l.take k).map (moreF more)
theorem addTo_succ {acc l : List FinD} {more : Int} {k : Nat} {f : FinD} (h : l[k]? = some f) : addTo acc l more (k + 1) = addTo acc l more k ++ [moreF more f] := by
 rw [addTo, addTo, take_snoc' h, List.map_append, List.append_assoc]
 rfl
set_option maxHeartbeats 4000000 in
set_option maxRecDepth 100000 in
theorem add_ok (g : Nat) (Av : Option Addr) (cv : Nat) (acc : List FinD) (A : Option Addr) (n c : Nat) (l : List FinD) (er more : Int) (base lb B : Nat) (w : World) (hg : Blk w g 94 #[.slice Av acc.length cv, .int .i64 0]) (hrow : Row w base 47 2 encFin (.slice Av acc.length cv) acc) (hl : FinRow lb w A n c l) (hn : n = l.length)
  (hap : ∀ k, A = some ⟨k, 0, none⟩ → Apart (.slice Av acc.length cv) k) (hgb : g < base) (hbw : base ≤ w.heap.size) (hB : B ≤ g) (hm : acc.length + l.length ≤ 100000) (hk : ∀ f ∈ l, 0 ≤ f.kind ∧ f.kind ≤ 10) (h0 : 0 ≤ more) (h1 : more ≤ 10) :
  Calls Tryz.prog 39 #[.pointer (some ⟨g, 0, none⟩), .slice A n c, .int .i64 er, .int .i64 more] w fun e w' => ∃ A' c', e = .returned (.tuple #[]) ∧ Blk w' g 94 #[.slice A' (addTo acc l more n).length c', .int .i64 er] ∧ Row w' base 47 2 encFin (.slice A' (addTo acc l more n).length c') (addTo acc l more n) ∧ Below B w w' := by
 have hgw := hg.lt
 have hn1 : n ≤ 100000 := by omega
 have h00 : addTo acc l more 0 = acc := by simp [addTo]
 have KG := hide hg
 have c1 := KG.out.cell 1
 simp at c1
 have f1 := KG.out.frozen 1
 obtain ⟨w2, hw2⟩ : ∃ q, q = w.setCell ⟨g, 1, none⟩ (.int .i64 er) := ⟨_, rfl⟩
 have kg2 := KG.out.set_ 1 (.int .i64 er)
 have hr2 := rowSetB hrow (show (⟨g, 1, none⟩ : Addr).block < base from hgb) (.int .i64 er)
 have hb2 := (Below.refl B w).setCell (p := ⟨g, 1, none⟩) hB (.int .i64 er)
 have hs2 : w2.heap.size = w.heap.size := by rw [hw2, zzG]
 simp only [zzD, zzE, zzF] at kg2
 have hlb : n = 0 ∨ ∃ gl cs, A = some ⟨gl, 0, none⟩ ∧ Blk w2 gl 47 cs ∧ Hid (∀ (j : Nat) (u : Value), (l.flatMap encFin)[j]? = some u → cs[j]? = some u) := by
  by_cases hz : n = 0
  ·exact .inl hz
  ·obtain ⟨gl, cs, hA, hgl, hbk, hcs⟩ := row_blk hl (by omega)
   refine .inr ⟨gl, cs, hA, ?_, hide hcs⟩
   rw [hw2]
   refine hbk.far (p := ⟨g, 1, none⟩) (fun he => ?_) _
   have he' : gl = g := he
   subst he'
   unfold Blk at hbk hg
   rw [hbk] at hg
   injection hg with hg
   injection hg with _ ht
   exact absurd ht (by decide)
 rw [← hw2] at kg2 hr2 hb2
 have KG2 := hide kg2
 have HR2 := hide hr2
 have HB2 := hide hb2
 have HW2 := hide hw2
 have Hn := hide hn
 have Hap := hide hap
 have Hk := hide hk
 have Hts := hide (fun (k : Nat) (f : FinD) (h : l[k]? = some f) => addTo_succ (acc := acc) (more := more) h)
 have Htl := hide (fun (k : Nat) (hk : k ≤ l.length) => show (addTo acc l more k).length = acc.length + k by rw [addTo, List.length_append, List.length_map, List.length_take, Nat.min_eq_left hk])
 have H00 := hide h00
 generalize addTo acc l more = AT at *
 have hbw2 : base ≤ w2.heap.size := by rw [hs2]; exact hbw
 clear hg hrow hl hn hap hk h00 KG hw2 kg2 hr2 hb2 hs2
 rcases hlb with h9 | ⟨gl, cs, hA, hbk, hcs⟩
 ·subst h9
  have hat := H00.out
  go_enter Tryz.func39, Tryz.ntmps39
  go_wp2_with fail
  rw [← HW2.out]
  refine wp_loop_rounds 1 ?_
  rw [rounds_succ]
  go_wp2_with fail
  refine bodyPost_end (v := .tuple #[]) (by kernel_rfl) rfl ?_
  rw [hat]
  exact ⟨Av, cv, rfl, KG2.out, HR2.out, HB2.out⟩
 ·have Hcs := hide hcs.out
  have Hbk := hide hbk
  have HA := hide (Hap.out gl hA)
  subst hA
  clear hbk hcs Hap
  have hBb : B ≤ base := by omega
  go_enter Tryz.func39, Tryz.ntmps39
  go_wp2_with fail
  rw [← HW2.out]
  clear c1 f1 HW2
  go_loopw [21] (fun iv wr => ∃ k : Nat, k ≤ n ∧ iv = .int .i64 k ∧ (∃ (A1 : Option Addr) (c1 : Nat), Hid (Blk wr g 94 #[.slice A1 (AT k).length c1, .int .i64 er]) ∧ Hid (Row wr base 47 2 encFin (.slice A1 (AT k).length c1) (AT k)) ∧ Hid (Apart (.slice A1 (AT k).length c1) gl)) ∧ Hid (Blk wr gl 47 cs) ∧ Hid (Below B w wr) ∧ Hid (base ≤ wr.heap.size)) (fun iv _ => n - (intOf iv).toNat)
  case atStart => exact ⟨0, Nat.zero_le _, rfl, ⟨Av, cv, by rw [H00.out]; exact KG2, by rw [H00.out]; exact HR2, by rw [H00.out]; exact HA⟩, Hbk, HB2, hide hbw2⟩
  case round =>
   clear KG2 HR2 HA Hbk HB2
   obtain ⟨k, hk, rfl, ⟨A1, c1, KG, HR, HA⟩, Hbk, HB, hbb⟩ := hrel
   by_cases hlt : k < n
   ·obtain ⟨b', o', f, hA9, hbl, hf, e0, e1⟩ := FinsAt.get (k := k) (blk_sl (B := gl + 1) encFin_len Hbk.out Hcs.out (by omega)) (by rw [← Hn.out]; exact hlt)
    injection hA9 with hA9
    injection hA9 with hA7 hA8
    subst hA7
    subst hA8
    obtain ⟨hk0, hk1⟩ := Hk.out f (mem_of_get hf)
    have Hnx := hide (Hts.out k f hf)
    have hlen := Htl.out k (by rw [← Hn.out]; exact hk)
    have hal : (AT k).length ≤ 100000 := by have := Hn.out; omega
    clear hlen
    have hng := apart_type HR.out KG.out (by decide)
    have HAg := hide hng
    obtain ⟨kind, nam⟩ := f
    simp only [Nat.zero_add] at e0 e1 hk0 hk1 Hnx
    have lgl := Hbk.out.lt
    have hbs := hbb.out
    have K3 := hide (KG.out.alloc (.cells #[.int .i64 kind, .string nam] 47))
    have KT := hide (Blk.new wr 47 #[.int .i64 kind, .string nam])
    have R3 := hide (HR.out.alloc (.cells #[.int .i64 kind, .string nam] 47))
    have L3 := hide (Hbk.out.alloc (.cells #[.int .i64 kind, .string nam] 47))
    have hsB : B ≤ wr.heap.size := by omega
    have B3 := hide (HB.out.alloc hsB (.cells #[.int .i64 kind, .string nam] 47))
    obtain ⟨w3, hw3⟩ : ∃ q, q = wr.alloc (.cells #[.int .i64 kind, .string nam] 47) := ⟨_, rfl⟩
    obtain ⟨gT, hgT⟩ : ∃ q, q = wr.heap.size := ⟨_, rfl⟩
    have hs3 : base ≤ w3.heap.size := by rw [hw3]; exact le_alloc hbs _
    have hl3 : gl < w3.heap.size := by rw [hw3]; exact Nat.lt_of_lt_of_le lgl (by simp)
    rw [← hw3] at K3 KT R3 L3 B3
    rw [← hgT] at KT
    clear hf hbl hng KG HR Hbk HB hbb
    go_upto_region 5 with fail
    rw [← hw3, ← hgT]
    clear hw3 hgT e0 e1 lgl hbs hsB
    have g0 := K3.out.cell 0
    have t0 := KT.out.cell 0
    have t1 := KT.out.cell 1
    simp at g0 t0 t1
    have lg := K3.out.lt
    have lt := KT.out.lt
    have z1 : IntKind.i64.wrap (kind + more) = kind + more := IntWalk.i64_in _ (by omega)
    have R3 := hide (R3.out.drew)
    have K3 := hide (K3.out.drew)
    have L3 := hide (L3.out.drew)
    have B3 := hide (B3.out.drew)
    have hs3 : base ≤ w3.drew.heap.size := hs3
    have hl3 : gl < w3.drew.heap.size := hl3
    go_region_law ((refine step_append1x (by rfl) (.tmp 29) (.tmp 37) 37 (by rfl) base 47 (.agg #[.int .i64 0, .string .empty]) 2 24 encFin Tryz.underlying37 (by kernel_rfl) rfl (by omega) encFin_len encFin_one _ (AT k) ⟨kind + more, nam⟩ (by rfl) (R3.out.alloc _) _ (by rfl) (Blk.new _ _ _) (by omega) (by omega) (le_alloc hs3 _) ?_; intro A9 c9 w9 hrow9 hb9 hkeep9 hap9; have KG9 := hide (hkeep9 g 94 _ HAg.out (K3.out.alloc _)); have c9x := KG9.out.cell 0; simp at c9x; have f9x := KG9.out.frozen 0; have l9x := KG9.out.lt))
    all_goals
     have hL : (AT (k + 1)).length = (AT k).length + 1 := by rw [Hnx.out]; simp
     have kg := KG9.out.set_ 0 (.slice A9 ((AT k).length + 1) c9)
     simp only [zzD, zzE] at kg
     have KGn := hide (show Blk (w9.setCell ⟨g, 0, none⟩ (.slice A9 ((AT k).length + 1) c9)) g 94 #[.slice A9 (AT (k + 1)).length c9, .int .i64 er] by rw [hL]; exact kg)
     have HRn := hide (show Row (w9.setCell ⟨g, 0, none⟩ (.slice A9 ((AT k).length + 1) c9)) base 47 2 encFin (.slice A9 (AT (k + 1)).length c9) (AT (k + 1)) by rw [hL, Hnx.out]; exact rowSetB hrow9 (show (⟨g, 0, none⟩ : Addr).block < base from hgb) _)
     have HAn := hide (show Apart (.slice A9 (AT (k + 1)).length c9) gl by rw [hL]; exact hap9 gl (by simp; omega) HA.out)
     have hne : gl ≠ g := by
      intro he
      have h1 := L3.out
      have h2 := K3.out
      subst he
      unfold Blk at h1 h2
      rw [h1] at h2
      injection h2 with h2
      injection h2 with _ ht
      exact absurd ht (by decide)
     have HLn := hide ((hkeep9 gl _ _ HA.out (L3.out.alloc _)).far (p := ⟨g, 0, none⟩) hne (.slice A9 ((AT k).length + 1) c9))
     have hs9 := Nat.le_trans (le_alloc hs3 (.cells #[.int .i64 (kind + more), .string nam] 47)) hb9.size
     have HBn := hide (((B3.out.alloc (Nat.le_trans hBb hs3) (.cells #[.int .i64 (kind + more), .string nam] 47)).trans (hb9.mono hBb)).setCell (p := ⟨g, 0, none⟩) hB (.slice A9 ((AT k).length + 1) c9))
     have hfs := hide (show base ≤ (w9.setCell ⟨g, 0, none⟩ (.slice A9 ((AT k).length + 1) c9)).heap.size by rw [zzG]; exact hs9)
     clear hrow9 hb9 hkeep9 hap9 kg KG9 c9x f9x l9x hs9 hL
     go_wp2_with fail
     go_roundw
     case rel => exact ⟨k + 1, by omega, by go_num, ⟨A9, c9, KGn, HRn, HAn⟩, HLn, HBn, hfs⟩
     case measure => simp [intOf]; omega
   ·obtain rfl : k = n := by omega
    go_wp2_with fail
    refine bodyPost_end (v := .tuple #[]) (by kernel_rfl) rfl ?_
    exact ⟨A1, c1, rfl, KG.out, HR.out, HB.out⟩
end Go.Proofs.YtpaanfjjnjjoeaaGreat
