/- The main legs of all laid bars. -/
import Derived.Test.YtkmpddaobncheaaGreatDoorQau
import Derived.BigRegion
namespace Go.Proofs.YtkmpddaobncheaaGreatDoor
open Go.RowKit

abbrev mainCells (m : MainD) : Array Value := #[.int .i64 m.leg.lo.1, .int .i64 m.leg.lo.2.1, .int .i64 m.leg.lo.2.2, .int .i64 m.leg.hi.1, .int .i64 m.leg.hi.2.1, .int .i64 m.leg.hi.2.2, .bool m.has, .int .i64 m.size, .string m.mark]
theorem blk_found {w : World} {g : Nat} {t : TypeId} {x1 x2 x3 z1 sz : Int} {mk : ByteArray} (h : Blk w g t (mainCells ⟨⟨(0, 0, 0), (0, 0, 0)⟩, false, sz, mk⟩)) :
    Blk (((((((w.setCell ⟨g, 0, none⟩ (.int .i64 (if z1 < x1 then z1 else x1))).setCell ⟨g, 1, none⟩ (.int .i64 x2)).setCell ⟨g, 2, none⟩ (.int .i64 x3)).setCell ⟨g, 3, none⟩ (.int .i64 (if x1 < z1 then z1 else x1))).setCell ⟨g, 4, none⟩ (.int .i64 x2)).setCell ⟨g, 5, none⟩ (.int .i64 x3)).setCell ⟨g, 6, none⟩ (.bool true)) g t (mainCells ⟨legBox (x1, x2, x3) (z1, x2, x3), true, sz, mk⟩) := by
  have h9 := ((((((h.set_ 0 (.int .i64 (if z1 < x1 then z1 else x1))).set_ 1 (.int .i64 x2)).set_ 2 (.int .i64 x3)).set_ 3 (.int .i64 (if x1 < z1 then z1 else x1))).set_ 4 (.int .i64 x2)).set_ 5 (.int .i64 x3)).set_ 6 (.bool true)
  simp only [mainCells, List.setIfInBounds_toArray, List.set_cons_zero, List.set_cons_succ, if_max, if_min] at h9
  simp only [mainCells, legBox, minP, maxP, if_max, if_min, Int.min_self, Int.max_self]
  exact h9
/-- What the main leg of a bar is, the first legs being looked at. -/
def mainState (y : BarD) (pts : List Pt) (k : Nat) (m : MainD) : Prop :=
  (m = ⟨⟨(0, 0, 0), (0, 0, 0)⟩, false, y.size, y.mark⟩ ∧ NoneTo isMain (legsOfPts pts) k) ∨ (m = mainOf ⟨y, pts⟩ ∧ m.has = true)
theorem NoneTo.find {α : Type} {p : α → Bool} {l : List α} {k : Nat} {y : α} (h : NoneTo p l k) (hy : l[k]? = some y) (hp : p y = true) : l.find? p = some y := by
  have hk := lt_of_get hy
  rw [List.find?_eq_some_iff_getElem]
  refine ⟨hp, k, hk, by rw [List.getElem?_eq_getElem hk] at hy; injection hy, fun j hj => ?_⟩
  rw [h j _ hj (List.getElem?_eq_getElem (by omega))]
  rfl
theorem NoneTo.none {α : Type} {p : α → Bool} {l : List α} (h : NoneTo p l l.length) : l.find? p = none := by
  rw [List.find?_eq_none]
  intro x hx
  obtain ⟨j, hj, rfl⟩ := List.getElem_of_mem hx
  rw [h j _ hj (List.getElem?_eq_getElem hj)]
  simp
theorem mainState_zero (y : BarD) (pts : List Pt) : mainState y pts 0 ⟨⟨(0, 0, 0), (0, 0, 0)⟩, false, y.size, y.mark⟩ := .inl ⟨rfl, NoneTo.zero _ _⟩
theorem mainState_no {y : BarD} {pts : List Pt} {k : Nat} {p q : Pt} (h : NoneTo isMain (legsOfPts pts) k) (hp : pts[k]? = some p) (hq : pts[k + 1]? = some q) (hm : isMain (legBox p q) = false) :
    mainState y pts (k + 1) ⟨⟨(0, 0, 0), (0, 0, 0)⟩, false, y.size, y.mark⟩ := .inl ⟨rfl, h.succ (legsOfPts_at pts k p q hp hq) hm⟩
theorem mainState_yes {y : BarD} {pts : List Pt} {k j : Nat} {p q : Pt} (h : NoneTo isMain (legsOfPts pts) k) (hp : pts[k]? = some p) (hq : pts[k + 1]? = some q) (hm : isMain (legBox p q) = true) :
    mainState y pts j ⟨legBox p q, true, y.size, y.mark⟩ := by
  refine .inr ⟨?_, rfl⟩
  simp only [mainOf, mainLeg, h.find (legsOfPts_at pts k p q hp hq) hm]
theorem mainState_end {y : BarD} {pts : List Pt} {m : MainD} (h : mainState y pts (pts.length - 1) m) : m = mainOf ⟨y, pts⟩ := by
  rcases h with ⟨h, hn⟩ | ⟨h, _⟩
  · rw [← legsOfPts_len] at hn
    simp only [mainOf, mainLeg, hn.none, h]
  · exact h
theorem mainState_has {y : BarD} {pts : List Pt} {k : Nat} {m : MainD} (h : mainState y pts k m) (ht : m.has = true) : m = mainOf ⟨y, pts⟩ := by
  rcases h with ⟨rfl, _⟩ | ⟨h, _⟩
  · cases ht
  · exact h
theorem mainState_hasnt {y : BarD} {pts : List Pt} {k : Nat} {m : MainD} (h : mainState y pts k m) (ht : m.has = false) : m = ⟨⟨(0, 0, 0), (0, 0, 0)⟩, false, y.size, y.mark⟩ ∧ NoneTo isMain (legsOfPts pts) k := by
  rcases h with h | ⟨_, h⟩
  · exact h
  · rw [h] at ht; cases ht
set_option maxHeartbeats 4000000 in
set_option maxRecDepth 100000 in
theorem mains_ok (x : DetD) (s : DetS) (w : World) {B : Nat} (h : DetAt w B x s) (hB : B ≤ w.heap.size) (hf : DetFit x s) (hok : laidOk x.bars x.runs = true) :
    Calls Tryz.prog 80 #[detV x s] w fun e w' => ∃ A c, e = .returned (.slice A (laidAll x.bars x.runs).length c) ∧ MainsAt w' w'.heap.size A ((laidAll x.bars x.runs).map mainOf) ∧ Below w.heap.size w w' := by
  obtain ⟨mem, bars, runs, laps, dems, rule⟩ := x
  obtain ⟨a1, n1, c1, a2, n2, c2, a3, n3, c3, a4, n4, c4, a5, n5, c5, a6, n6, c6⟩ := s
  obtain ⟨name, boxes, holes, cover, agg, poker⟩ := mem
  obtain ⟨r1, r2, r3, r4, r5, r6, r7, r8, r9⟩ := rule
  simp only at hok
  have hsch : schedOk bars = true := by simp only [laidOk, Bool.and_eq_true] at hok; exact hok.1.1
  obtain ⟨hbars, h60, hruns⟩ := laidOk_mem hok
  have hm3 : n3 ≤ 60000 := hf.m3
  have htame : Tame bars := hf.tame
  have l3 : n3 = bars.length := hf.l3
  have L4 := hide (show n4 = runs.length from hf.l4)
  have H3 := hide (show BarsAt w B a3 bars from h.h3)
  have H4 := hide (show RunsAt w B a4 runs from h.h4)
  have HSF := hide (fun (W : World) (hz : Below w.heap.size w W) (mk : ByteArray) (j : Nat) (hj : idx (markIs mk) bars = (j : Int)) => schedFind_any a3 bars n3 c3 mk W (H3.out.carry (hz.mono hB) (Nat.le_refl _)) (Nat.le_trans hB hz.size) l3 hm3 htame hsch j hj)
  have HP := hide (fun (W : World) (y : BarD) (hy : y ∈ bars) (A' : Option Addr) (c' : Nat) (hA : Ints W B A' y.dims) (hb : B ≤ W.heap.size) => shapePath_row y A' c' W hA hb (htame y hy).1 (htame y hy).2 (hbars y hy))
  have HQ := hide (fun (W : World) (t : Int) (u : Int) (ht : turnOk t u = true) (a : Pt) (ha : nearBy 1048576 a = true) (y : BarD) (hy : y ∈ bars) (m : Nat) (hm : m = (pathOf y).length) (A' : Option Addr) (c' : Nat) (hA : PtsAt W W.heap.size A' (pathOf y)) => framePath_ok t u a A' (pathOf y) m c' W hA (Nat.le_refl _) hm ht (by rw [hm, pathOf_len]; have := legsOf_len y.code; omega) ha (fun p hp => nearBy_mono (path_near (hbars y hy) p hp) (by omega)))
  have Hruns := hide hruns
  have Hlen := hide (show (laidAll bars runs).length ≤ 2000 from (laidOk_len hok).2)
  have L3 := hide l3
  have hn60 : n4 ≤ 60 := by rw [L4.out]; exact h60
  obtain ⟨W0, hW0⟩ : ∃ W0, W0 = w.alloc (.cells #[.string name, .slice a1 n1 c1, .slice a2 n2 c2, .int .i64 cover, .int .i64 agg, .int .i64 poker, .slice a3 n3 c3, .slice a4 n4 c4, .slice a5 n5 c5, .slice a6 n6 c6, .int .i64 r1, .int .i64 r2, .int .i64 r3, .int .i64 r4, .int .i64 r5, .int .i64 r6, .int .i64 r7, .int .i64 r8, .int .i64 r9] 34) := ⟨_, rfl⟩
  have K0 := hide (Blk.new w 34 #[.string name, .slice a1 n1 c1, .slice a2 n2 c2, .int .i64 cover, .int .i64 agg, .int .i64 poker, .slice a3 n3 c3, .slice a4 n4 c4, .slice a5 n5 c5, .slice a6 n6 c6, .int .i64 r1, .int .i64 r2, .int .i64 r3, .int .i64 r4, .int .i64 r5, .int .i64 r6, .int .i64 r7, .int .i64 r8, .int .i64 r9])
  have HW0 := hide (below_new w (.cells #[.string name, .slice a1 n1 c1, .slice a2 n2 c2, .int .i64 cover, .int .i64 agg, .int .i64 poker, .slice a3 n3 c3, .slice a4 n4 c4, .slice a5 n5 c5, .slice a6 n6 c6, .int .i64 r1, .int .i64 r2, .int .i64 r3, .int .i64 r4, .int .i64 r5, .int .i64 r6, .int .i64 r7, .int .i64 r8, .int .i64 r9] 34))
  rw [← hW0] at K0 HW0
  have hs0 : W0.heap.size = w.heap.size + 1 := by rw [hW0]; simp
  have HW00 := hide hW0
  clear h hf hok hsch hbars h60 hruns hm3 htame l3 hW0
  show Calls Tryz.prog 80 #[.agg #[.string name, .slice a1 n1 c1, .slice a2 n2 c2, .int .i64 cover, .int .i64 agg, .int .i64 poker, .slice a3 n3 c3, .slice a4 n4 c4, .slice a5 n5 c5, .slice a6 n6 c6, .int .i64 r1, .int .i64 r2, .int .i64 r3, .int .i64 r4, .int .i64 r5, .int .i64 r6, .int .i64 r7, .int .i64 r8, .int .i64 r9]] w _
  go_enter Tryz.func80, Tryz.ntmps80
  go_wp2_with fail
  rw [← HW00.out]
  go_loopw [3, 21] (fun v i wr => ∃ k : Nat, k ≤ n4 ∧ i = .int .i64 k ∧ (∃ acc : List MainD, Row wr W0.heap.size 206 9 encMain v acc ∧ Hid (acc = (laidAll bars (runs.take k)).map mainOf)) ∧ Below W0.heap.size W0 wr) (fun _ i _ => n4 - (intOf i).toNat)
  case atStart => exact ⟨0, Nat.zero_le _, rfl, ⟨[], Row.nil _ _ _ _ _, hide rfl⟩, Below.refl _ _⟩
  case round =>
    obtain ⟨k, hk, rfl, ⟨acc, hrow, hacc⟩, hbr⟩ := hrel
    obtain ⟨A0, c0, rfl⟩ := hrow.val
    by_cases hlt : k < n4
    · have HWr := hide (below_step HW0.out hbr (Nat.le_refl _))
      obtain ⟨b, off, r, rfl, hbl, hx, hc⟩ := RunsAt.get (k := k) (H4.out.carry (Flat.carried _) (HWr.out.mono hB) (Nat.le_refl _)) (by rw [← L4.out]; exact hlt)
      have hrk := Hruns.out r (mem_of_get hx)
      obtain ⟨j, y, hj, hy, hrb, htn⟩ := runOk_bar hrk
      obtain ⟨hcn0, hcn1⟩ := runOk_count hrk
      have hyb := mem_of_get hy
      have hjn : j < n3 := by rw [L3.out]; exact lt_of_get hy
      have hal : (acc.length : Int) + r.count ≤ 2000 := by
        have h9 := Hlen.out
        rw [laidAll_split hx, List.length_append, List.length_append, laidRun_of hrb, laidTo_len] at h9
        rw [hacc.out, List.length_map]
        omega
      have Hn := hide (show (laidAll bars (runs.take (k + 1))).map mainOf = acc ++ (laidTo y r r.count.toNat).map mainOf by rw [laidAll_snoc hx, laidRun_of hrb, List.map_append, hacc.out])
      have Hat := hide (fun (q : Int) (h0 : 0 ≤ q) (h1 : q < r.count) => runOk_at hrk hrb h0 h1)
      have Hmu := hide (fun (q : Int) (h0 : 0 ≤ q) (h1 : q < r.count) => runOk_mul hrk h0 h1)
      have Hpe := hide (fun (q : Int) => show ptsOf y r q = mapPts r.tx r.ty (addP r.place (mulP q r.step)) (pathOf y) from ptsOf_eq y r q)
      have Hlt := hide (fun (q : Nat) => show (laidTo y r (q + 1)).map mainOf = (laidTo y r q).map mainOf ++ [mainOf ⟨y, ptsOf y r (q : Int)⟩] by rw [laidTo_succ, List.map_append]; rfl)
      have Hj := hide hj
      have Hy := hide hy
      have Htn := hide htn
      have Hyb := hide hyb
      have Hrow := hide hrow
      have Hpln := hide (show 1 ≤ (pathOf y).length ∧ (pathOf y).length ≤ 7 by rw [pathOf_len]; have := legsOf_len y.code; omega)
      obtain ⟨LT, hLT⟩ : ∃ LT : Nat → List MainD, LT = fun q => (laidTo y r q).map mainOf := ⟨_, rfl⟩
      have HL0 := hide (show LT 0 = [] by rw [hLT]; rfl)
      have HLn := hide (show (laidAll bars (runs.take (k + 1))).map mainOf = acc ++ LT r.count.toNat by rw [hLT]; exact Hn.out)
      have HLs := hide (fun (q : Nat) => show LT (q + 1) = LT q ++ [mainOf ⟨y, ptsOf y r (q : Int)⟩] by rw [hLT]; exact Hlt.out q)
      have HLl := hide (fun (q : Nat) => show (LT q).length = q by rw [hLT]; simp only [List.length_map, laidTo_len])
      obtain ⟨PT, hPT⟩ : ∃ PT : Int → List Pt, PT = fun q => ptsOf y r q := ⟨_, rfl⟩
      have HPe := hide (fun (q : Int) => show PT q = mapPts r.tx r.ty (addP r.place (mulP q r.step)) (pathOf y) by rw [hPT]; exact Hpe.out q)
      have HLq := hide (fun (q : Nat) => show LT (q + 1) = LT q ++ [mainOf ⟨y, PT (q : Int)⟩] by rw [hPT]; exact HLs.out q)
      clear HLs
      obtain ⟨mark, tx, ty, ⟨p1, p2, p3⟩, ⟨s1, s2, s3⟩, cnt⟩ := r
      have q0 := hc 0 _ rfl
      have q1 := hc 1 _ rfl
      have q2 := hc 2 _ rfl
      have q3 := hc 3 _ rfl
      have q4 := hc 4 _ rfl
      have q5 := hc 5 _ rfl
      have q6 := hc 6 _ rfl
      have q7 := hc 7 _ rfl
      have q8 := hc 8 _ rfl
      have q9 := hc 9 _ rfl
      simp only [Nat.add_zero] at q0 q1 q2 q3 q4 q5 q6 q7 q8 q9 hcn0 hcn1 hal HLn Hat Hmu HPe Hj Htn
      have hbw : b < wr.heap.size := by have := HWr.out.size; omega
      have kk0 := K0.out.below hbr K0.out.lt
      have e6 := kk0.cell 6
      have e7 := kk0.cell 7
      simp at e6 e7
      have hkl0 := kk0.lt
      have HR := hide hbr
      clear hx hbl hc hrk hrb hLT hPT Hn Hpe Hlt hj hy htn hyb hrow kk0 hbr
      go_wp2_with fail
      refine (HSF.out _ (HWr.out.alloc HWr.out.size (.cells #[.string mark, .int .i64 tx, .int .i64 ty, .int .i64 p1, .int .i64 p2, .int .i64 p3, .int .i64 s1, .int .i64 s2, .int .i64 s3, .int .i64 cnt] 120)) mark j Hj.out).mono ?_
      rintro e w2 ⟨rfl, hb2⟩
      have K1 := hide ((Blk.new wr 120 #[.string mark, .int .i64 tx, .int .i64 ty, .int .i64 p1, .int .i64 p2, .int .i64 p3, .int .i64 s1, .int .i64 s2, .int .i64 s3, .int .i64 cnt]).keep hb2)
      have HR2 := hide (below_step (HR.out.alloc HR.out.size (.cells #[.string mark, .int .i64 tx, .int .i64 ty, .int .i64 p1, .int .i64 p2, .int .i64 p3, .int .i64 s1, .int .i64 s2, .int .i64 s3, .int .i64 cnt] 120)) hb2 (Nat.le_refl _))
      have Hrow2 := hide ((Hrow.out.alloc (.cells #[.string mark, .int .i64 tx, .int .i64 ty, .int .i64 p1, .int .i64 p2, .int .i64 p3, .int .i64 s1, .int .i64 s2, .int .i64 s3, .int .i64 cnt] 120)).keep hb2)
      have HW2 := hide (below_step HW0.out HR2.out (Nat.le_refl _))
      obtain ⟨b3, off3, y', A', c', hA3, hbl3, hy3, hi3, f0, f1, f2, f3, f4⟩ := BarsAt.get (k := j) (H3.out.carry (HW2.out.mono hB) (Nat.le_refl _)) (by rw [← L3.out]; exact hjn)
      subst hA3
      have hyy : y' = y := by rw [Hy.out] at hy3; injection hy3 with hy3; exact hy3.symm
      subst hyy
      have kk0 := K0.out.below HR2.out K0.out.lt
      have e6 := kk0.cell 6
      simp at e6
      have hkl2 := kk0.lt
      have hb3w : b3 < w2.heap.size := by have := HW2.out.size; omega
      have i0 : (0 : Int) ≤ (j : Int) := by omega
      have Hi := hide (hi3.carry ((Below.refl B w2).alloc (Nat.le_trans hB HW2.out.size) (.cells #[.string y'.mark, .int .i64 y'.size, .int .i64 y'.count, .int .i64 y'.code, .slice A' y'.dims.length c'] 68)) (Nat.le_refl _))
      have hBw := hide (Nat.le_trans hB (le_alloc HW2.out.size (.cells #[.string y'.mark, .int .i64 y'.size, .int .i64 y'.count, .int .i64 y'.code, .slice A' y'.dims.length c'] 68)))
      clear hb2 hbl3 hy3 hi3 kk0 q0 q1 q2 q3 q4 q5 q6 q7 q8 q9
      go_wp2_with fail
      refine (HP.out _ y' Hyb.out A' c' Hi.out hBw.out).mono ?_
      rintro e w3 ⟨A3, c3', rfl, hrow3, hb3⟩
      obtain ⟨gP, cs, hAP, hgP, kP, hcsP⟩ := row_blk hrow3 (by have := Hpln.out; omega)
      subst hAP
      have hpl := Hpln.out
      generalize hln : (pathOf y').length = ln at *
      have Hln := hide hln
      have K1 := hide ((K1.out.alloc (.cells #[.string y'.mark, .int .i64 y'.size, .int .i64 y'.count, .int .i64 y'.code, .slice A' y'.dims.length c'] 68)).keep hb3)
      have K2 := hide ((Blk.new w2 68 #[.string y'.mark, .int .i64 y'.size, .int .i64 y'.count, .int .i64 y'.code, .slice A' y'.dims.length c']).keep hb3)
      have HR3 := hide (below_step (HR2.out.alloc HR2.out.size (.cells #[.string y'.mark, .int .i64 y'.size, .int .i64 y'.count, .int .i64 y'.code, .slice A' y'.dims.length c'] 68)) hb3 (Nat.le_refl _))
      have Hrow3 := hide ((Hrow2.out.alloc (.cells #[.string y'.mark, .int .i64 y'.size, .int .i64 y'.count, .int .i64 y'.code, .slice A' y'.dims.length c'] 68)).keep hb3)
      have KP := hide kP
      have HcsP := hide hcsP
      have k9 := K1.out.cell 9
      simp at k9
      have hkl3 := K1.out.lt
      clear hrow3 hgP kP hcsP hln hb3 f0 f1 f2 f3 f4 e6 Hrow Hrow2 HSF Hi
      go_wp2_with fail
      go_loopw [3, 49] (fun v i wi => ∃ q : Nat, (q : Int) ≤ cnt ∧ i = .int .i64 q ∧ (∃ acc2 : List MainD, Row wi W0.heap.size 206 9 encMain v acc2 ∧ Hid (acc2 = acc ++ LT q)) ∧ Blk wi wr.heap.size 120 #[.string mark, .int .i64 tx, .int .i64 ty, .int .i64 p1, .int .i64 p2, .int .i64 p3, .int .i64 s1, .int .i64 s2, .int .i64 s3, .int .i64 cnt] ∧ Blk wi w2.heap.size 68 #[.string y'.mark, .int .i64 y'.size, .int .i64 y'.count, .int .i64 y'.code, .slice A' y'.dims.length c'] ∧ Blk wi gP 49 cs ∧ Below W0.heap.size W0 wi) (fun _ i _ => cnt.toNat - (intOf i).toNat)
      case atStart => exact ⟨0, by omega, rfl, ⟨acc, Hrow3.out, hide (by rw [HL0.out, List.append_nil])⟩, K1.out, K2.out, KP.out, HR3.out⟩
      case round =>
        clear K1 K2 KP HR3 Hrow3 k9 hkl3
        obtain ⟨q, hq, rfl, ⟨acc2, hrow2, hacc2⟩, k1, k2, kP, hbi⟩ := hrel
        obtain ⟨A2, c2', rfl⟩ := hrow2.val
        have hal2 := hide (show acc2.length = acc.length + q by rw [hacc2.out, List.length_append, HLl.out])
        by_cases hql : (q : Int) < cnt
        · have hat := hide (Hat.out (q : Int) (by omega) hql)
          obtain ⟨⟨u1, u2⟩, ⟨u3, u4⟩, u5, u6⟩ := nearBy_iff.1 hat.out
          obtain ⟨⟨v1, v2⟩, ⟨v3, v4⟩, v5, v6⟩ := nearBy_iff.1 (Hmu.out (q : Int) (by omega) hql)
          simp only [addP, mulP] at u1 u2 u3 u4 u5 u6 v1 v2 v3 v4 v5 v6
          have g1 : IntKind.i64.wrap ((q : Int) * s1) = (q : Int) * s1 := IntWalk.i64_in _ (by omega)
          have g2 : IntKind.i64.wrap ((q : Int) * s2) = (q : Int) * s2 := IntWalk.i64_in _ (by omega)
          have g3 : IntKind.i64.wrap ((q : Int) * s3) = (q : Int) * s3 := IntWalk.i64_in _ (by omega)
          have g4 : IntKind.i64.wrap (p1 + (q : Int) * s1) = p1 + (q : Int) * s1 := IntWalk.i64_in _ (by omega)
          have g5 : IntKind.i64.wrap (p2 + (q : Int) * s2) = p2 + (q : Int) * s2 := IntWalk.i64_in _ (by omega)
          have g6 : IntKind.i64.wrap (p3 + (q : Int) * s3) = p3 + (q : Int) * s3 := IntWalk.i64_in _ (by omega)
          have d1 := k1.cell 1
          have d2 := k1.cell 2
          have d3 := k1.cell 3
          have d4 := k1.cell 4
          have d5 := k1.cell 5
          have d6 := k1.cell 6
          have d7 := k1.cell 7
          have d8 := k1.cell 8
          simp at d1 d2 d3 d4 d5 d6 d7 d8
          have l1 := k1.lt
          have K1 := hide k1
          have K2 := hide k2
          have KP := hide kP
          have HPts := hide (blk_sl (w := wr.alloc (.cells #[.int .i64 (p1 + (q : Int) * s1), .int .i64 (p2 + (q : Int) * s2), .int .i64 (p3 + (q : Int) * s3)] 49)) (B := (wr.alloc (.cells #[.int .i64 (p1 + (q : Int) * s1), .int .i64 (p2 + (q : Int) * s2), .int .i64 (p3 + (q : Int) * s3)] 49)).heap.size) encPt_len (kP.alloc _) HcsP.out (by have := kP.lt; simp; omega))
          have Hbi := hide hbi
          have Hrow2 := hide hrow2
          clear k1 k2 kP u1 u2 u3 u4 u5 u6 v1 v2 v3 v4 v5 v6 hbi hrow2
          go_wp2_with fail
          refine (HQ.out _ tx ty Htn.out (p1 + (q : Int) * s1, p2 + (q : Int) * s2, p3 + (q : Int) * s3) hat.out y' Hyb.out ln Hln.out.symm _ c3' HPts.out).mono ?_
          rintro e w5 ⟨A5, c5, rfl, hpts, hb5⟩
          have K1 := hide ((K1.out.alloc (.cells #[.int .i64 (p1 + (q : Int) * s1), .int .i64 (p2 + (q : Int) * s2), .int .i64 (p3 + (q : Int) * s3)] 49)).keep hb5)
          have K2 := hide ((K2.out.alloc (.cells #[.int .i64 (p1 + (q : Int) * s1), .int .i64 (p2 + (q : Int) * s2), .int .i64 (p3 + (q : Int) * s3)] 49)).keep hb5)
          have KP := hide ((KP.out.alloc (.cells #[.int .i64 (p1 + (q : Int) * s1), .int .i64 (p2 + (q : Int) * s2), .int .i64 (p3 + (q : Int) * s3)] 49)).keep hb5)
          have Hbi := hide (below_step (Hbi.out.alloc Hbi.out.size (.cells #[.int .i64 (p1 + (q : Int) * s1), .int .i64 (p2 + (q : Int) * s2), .int .i64 (p3 + (q : Int) * s3)] 49)) hb5 (Nat.le_refl _))
          have Hrow2 := hide ((Hrow2.out.alloc (.cells #[.int .i64 (p1 + (q : Int) * s1), .int .i64 (p2 + (q : Int) * s2), .int .i64 (p3 + (q : Int) * s3)] 49)).keep hb5)
          obtain ⟨pts, hpt⟩ : ∃ pts, pts = PT (q : Int) := ⟨_, rfl⟩
          have Hpts := hide (show PtsAt w5 w5.heap.size A5 pts by rw [hpt, HPe.out]; exact hpts)
          have HpL := hide (show pts.length = ln by rw [hpt, HPe.out, mapPts_len, Hln.out])
          have HLs2 := hide (show LT (q + 1) = LT q ++ [mainOf ⟨y', pts⟩] by rw [hpt]; exact HLq.out q)
          have d0 := K2.out.cell 0
          have d1 := K2.out.cell 1
          simp at d0 d1
          have l2 := K2.out.lt
          have hM := hide (Blk.new w5 206 #[.int .i64 0, .int .i64 0, .int .i64 0, .int .i64 0, .int .i64 0, .int .i64 0, .bool false, .int .i64 y'.size, .string y'.mark])
          clear hb5 hpts hpt HPts g1 g2 g3 g4 g5 g6 d2 d3 d4 d5 d6 d7 d8
          go_wp2_with fail
          go_loopw [15] (fun i wz => ∃ (j : Nat) (mm : MainD), j + 1 ≤ ln ∧ i = .int .i64 ((j : Int) + 1) ∧ Blk wz w5.heap.size 206 (mainCells mm) ∧ Hid (mainState y' pts j mm) ∧ Below w5.heap.size w5 wz) (fun i _ => ln - (intOf i).toNat)
          case atStart => exact ⟨0, ⟨⟨(0, 0, 0), (0, 0, 0)⟩, false, y'.size, y'.mark⟩, by omega, rfl, hM.out, hide (mainState_zero _ _), below_new w5 _⟩
          case round =>
            clear hM d0 d1
            obtain ⟨j, mm, hj, rfl, kM, hst, hbz⟩ := hrel
            have m0 := kM.cell 0
            have m1 := kM.cell 1
            have m2 := kM.cell 2
            have m3 := kM.cell 3
            have m4 := kM.cell 4
            have m5 := kM.cell 5
            have m6 := kM.cell 6
            have m7 := kM.cell 7
            have m8 := kM.cell 8
            simp at m0 m1 m2 m3 m4 m5 m6 m7 m8
            have lM := kM.lt
            have Hbz := hide hbz
            by_cases hjl : j + 1 < ln
            · cases hh : mm.has
              · obtain ⟨rfl, hno⟩ := mainState_hasnt hst.out hh
                obtain ⟨b5, o5, ⟨x1, x2, x3⟩, rfl, hbl5, hx5, x4, x5, x6⟩ := PtsAt.get (k := j) (Hpts.out.carry (Flat.carried _) hbz (Nat.le_refl _)) (by rw [HpL.out]; omega)
                obtain ⟨b6, o6, ⟨z1, z2, z3⟩, hA6, hbl6, hx6, z4, z5, z6⟩ := PtsAt.get (k := j + 1) (Hpts.out.carry (Flat.carried _) hbz (Nat.le_refl _)) (by rw [HpL.out]; exact hjl)
                injection hA6 with hA6
                injection hA6 with hA7 hA8
                subst hA7
                subst hA8
                have sn : IntKind.i64.wrap ((j : Int) + 1 - 1) = (j : Int) := by rw [Int.add_sub_cancel]; exact IntWalk.i64_in _ (by omega)
                have sn2 : IntKind.i64.wrap (j : Int) = (j : Int) := IntWalk.i64_in _ (by omega)
                have hbw5 : b5 < wr.heap.size := by have := Hbz.out.size; omega
                simp only at x4 x5 x6 z4 z5 z6
                have z0 := kM.frozen 0
                have y1 := kM.frozen 1
                have y2 := kM.frozen 2
                have y3 := kM.frozen 3
                have y4 := kM.frozen 4
                have y5 := kM.frozen 5
                have y6 := kM.frozen 6
                have Hno := hide hno
                have Hx5 := hide hx5
                have Hx6 := hide hx6
                have KM := hide kM
                clear hno hx5 hx6 hbl5 hbl6 kM hst hh
                go_wp2_with fail
                go_region
                all_goals
                  clear x4 x5 x6 z4 z5 z6
                  go_wp2_with fail
                all_goals
                  clear y1 y2 y3 y4 y5 y6 m0 m1 m2 m3 m4 m5 m6 m7 m8 z0
                  go_roundw
                  case rel =>
                    apply Exists.intro (j + 1)
                    first
                    | (have h9 := ‹(x1 != z1) = true ∧ (x3 == z3) = true›
                       have h8 := ‹x2 = z2›
                       simp only [bne_iff_ne, beq_iff_eq] at h9
                       obtain ⟨h91, h92⟩ := h9
                       subst h8
                       subst h92
                       with_reducible exact ⟨_, by omega, by go_num, (((blk_found KM.out).alloc _).alloc _).drew, hide (mainState_yes Hno.out Hx5.out Hx6.out (by rw [isMain_leg]; simp; omega)), by (repeat (first | with_reducible assumption | with_reducible exact Below.refl _ _ | with_reducible apply Below.al | with_reducible apply Below.dr | (with_reducible refine Below.sc ?_ _ _ _ (by (try simp only [size_alloc', World.size_setCell, World.size_drew]); omega))))⟩)
                    | (have h9 := ‹(x1 != z1) = false ∨ (x3 == z3) = false›
                       have key : isMain (legBox (x1, x2, x3) (z1, z2, z3)) = false := by
                         rw [isMain_leg]
                         simp only [bne_eq_false_iff_eq, beq_eq_false_iff_ne] at h9
                         simp only [Bool.and_eq_false_iff, Bool.not_eq_false', decide_eq_true_eq, decide_eq_false_iff_not]
                         omega
                       with_reducible exact ⟨_, by omega, by go_num, ((KM.out.alloc _).alloc _).drew, hide (mainState_no Hno.out Hx5.out Hx6.out key), by (repeat (first | with_reducible assumption | with_reducible exact Below.refl _ _ | with_reducible apply Below.al | with_reducible apply Below.dr | (with_reducible refine Below.sc ?_ _ _ _ (by (try simp only [size_alloc', World.size_setCell, World.size_drew]); omega))))⟩)
                    | (have key : isMain (legBox (x1, x2, x3) (z1, z2, z3)) = false := by
                         rw [isMain_leg]
                         simp only [Bool.and_eq_false_iff, Bool.not_eq_false', decide_eq_true_eq, decide_eq_false_iff_not]
                         omega
                       with_reducible exact ⟨_, by omega, by go_num, ((KM.out.alloc _).alloc _).drew, hide (mainState_no Hno.out Hx5.out Hx6.out key), by (repeat (first | with_reducible assumption | with_reducible exact Below.refl _ _ | with_reducible apply Below.al | with_reducible apply Below.dr | (with_reducible refine Below.sc ?_ _ _ _ (by (try simp only [size_alloc', World.size_setCell, World.size_drew]); omega))))⟩)
                    | skip
                  case measure => simp [intOf]; omega
              · obtain ⟨lg, hs, sz, mk⟩ := mm
                simp only at hh m0 m1 m2 m3 m4 m5 m6 m7 m8
                subst hh
                have hmm := hide (show (⟨lg, true, sz, mk⟩ : MainD) = mainOf ⟨y', pts⟩ from mainState_has hst.out rfl)
                have Hr1 := hide ((Hrow2.out.keep hbz).alloc (.cells (mainCells (⟨lg, true, sz, mk⟩ : MainD)) 206))
                have Hr2 := hide (show Blk (wr.alloc (.cells (mainCells (⟨lg, true, sz, mk⟩ : MainD)) 206)) wr.heap.size 206 (encMain (⟨lg, true, sz, mk⟩ : MainD)).toArray from Blk.new wr _ _)
                have Hr3 := hide (((K1.out.below hbz K1.out.lt).alloc (.cells (mainCells (⟨lg, true, sz, mk⟩ : MainD)) 206)))
                have Hr4 := hide (((K2.out.below hbz K2.out.lt).alloc (.cells (mainCells (⟨lg, true, sz, mk⟩ : MainD)) 206)))
                have Hr5 := hide (((KP.out.below hbz KP.out.lt).alloc (.cells (mainCells (⟨lg, true, sz, mk⟩ : MainD)) 206)))
                have Hr6 := hide ((below_step Hbi.out hbz (Nat.le_refl _)).alloc (below_step Hbi.out hbz (Nat.le_refl _)).size (.cells (mainCells (⟨lg, true, sz, mk⟩ : MainD)) 206))
                have hal3 : acc2.length ≤ 1000000 := by have := hal2.out; omega
                have hs3 := Hr6.out.size
                have hq9 := hide hq
                clear hst kM hbz
                go_wp2_with (at_builtin; refine wpList_append1 rfl (.tmp 157) (.tmp 159) 128 rfl W0.heap.size 206 (.agg #[.int .i64 0, .int .i64 0, .int .i64 0, .int .i64 0, .int .i64 0, .int .i64 0, .bool false, .int .i64 0, .string ByteArray.empty]) 9 80 encMain Tryz.underlying128 (by kernel_rfl) rfl (by omega) encMain_len encMain_one _ acc2 (⟨lg, true, sz, mk⟩ : MainD) rfl Hr1.out _ rfl Hr2.out hal3 (by omega) hs3 ?_; intro A9 c9 w9 hrow9 hb9 hkeep9)
                go_roundw
                case rel => exact ⟨q + 1, by omega, by go_num, ⟨acc2 ++ [(⟨lg, true, sz, mk⟩ : MainD)], by simpa using hrow9, hide (by rw [hacc2.out, HLs2.out, hmm.out, List.append_assoc])⟩, hkeep9 _ _ _ (by decide) Hr3.out, hkeep9 _ _ _ (by decide) Hr4.out, hkeep9 _ _ _ (by decide) Hr5.out, Hr6.out.trans hb9⟩
                case measure => simp [intOf]; omega
            · have hj9 : j + 1 = ln := by omega
              have hmm := hide (show mm = mainOf ⟨y', pts⟩ from mainState_end (by rw [HpL.out, ← hj9]; exact hst.out))
              have Hr1 := hide ((Hrow2.out.keep hbz).alloc (.cells (mainCells mm) 206))
              have Hr2 := hide (show Blk (wr.alloc (.cells (mainCells mm) 206)) wr.heap.size 206 (encMain mm).toArray from Blk.new wr _ _)
              have Hr3 := hide (((K1.out.below hbz K1.out.lt).alloc (.cells (mainCells mm) 206)))
              have Hr4 := hide (((K2.out.below hbz K2.out.lt).alloc (.cells (mainCells mm) 206)))
              have Hr5 := hide (((KP.out.below hbz KP.out.lt).alloc (.cells (mainCells mm) 206)))
              have Hr6 := hide ((below_step Hbi.out hbz (Nat.le_refl _)).alloc (below_step Hbi.out hbz (Nat.le_refl _)).size (.cells (mainCells mm) 206))
              have hal3 : acc2.length ≤ 1000000 := by have := hal2.out; omega
              have hs3 := Hr6.out.size
              have hq9 := hide hq
              clear hst kM hbz
              go_wp2_with (at_builtin; refine wpList_append1 rfl (.tmp 157) (.tmp 159) 128 rfl W0.heap.size 206 (.agg #[.int .i64 0, .int .i64 0, .int .i64 0, .int .i64 0, .int .i64 0, .int .i64 0, .bool false, .int .i64 0, .string ByteArray.empty]) 9 80 encMain Tryz.underlying128 (by kernel_rfl) rfl (by omega) encMain_len encMain_one _ acc2 mm rfl Hr1.out _ rfl Hr2.out hal3 (by omega) hs3 ?_; intro A9 c9 w9 hrow9 hb9 hkeep9)
              go_roundw
              case rel => exact ⟨q + 1, by omega, by go_num, ⟨acc2 ++ [mm], by simpa using hrow9, hide (by rw [hacc2.out, HLs2.out, hmm.out, List.append_assoc])⟩, hkeep9 _ _ _ (by decide) Hr3.out, hkeep9 _ _ _ (by decide) Hr4.out, hkeep9 _ _ _ (by decide) Hr5.out, Hr6.out.trans hb9⟩
              case measure => simp [intOf]; omega
        · have hq9 : (q : Int) = cnt := by omega
          have hfin := hide (show (laidAll bars (runs.take (k + 1))).map mainOf = acc2 by rw [HLn.out, hacc2.out]; congr 2; omega)
          have Hr := hide hrow2
          have Hb := hide hbi
          clear k1 k2 kP hrow2 hbi
          go_wp2_with fail
          go_roundw
          case rel => exact ⟨k + 1, by omega, by go_num, ⟨acc2, Hr.out, hide hfin.out.symm⟩, Hb.out⟩
          case measure => simp [intOf]; omega
    · obtain rfl : k = n4 := by omega
      have hf : acc = (laidAll bars runs).map mainOf := by rw [hacc.out, L4.out, List.take_length]
      have hl := hide (show (laidAll bars runs).length = acc.length by rw [hf, List.length_map])
      have Hr := hide (show MainsAt wr wr.heap.size A0 ((laidAll bars runs).map mainOf) by rw [← hf]; exact Row.read hrow encMain_len (by omega))
      have Hb := hide (below_step HW0.out hbr (Nat.le_refl _))
      clear hrow hacc hf hbr
      generalize acc.length = na at *
      go_wp2_with fail
      go_ret
      exact ⟨A0, c0, by rw [hl.out]; rfl, Hr.out, Hb.out⟩
end Go.Proofs.YtkmpddaobncheaaGreatDoor
