/- Plain: the findings of laps; those of a detail without a run. No walk stands here. Anchorage and lap lengths, poor bond, the distance of boxes: anchor.Length, anchor.Poor, lap.Length, box.Square. Poor bond, the distance of boxes: anchor.Poor, box.along, box.Square. Findings in memory; slices.Equal of two lists of findings. demand.In: whether a leg lies in a demand's zone. detail.Copy. -/
import Derived.Test.YtkmpddaobncheaaGreatDoorQax
import Derived.Test.YtkmpddaobncheaaGreatDoorQaf
import Derived.Test.YtkmpddaobncheaaGreatDoorQas
import Derived.Test.YtkmpddaobncheaaGreatDoorQai
import Derived.Lib.QuietBelow
import Derived.Test.YtkmpddaobncheaaGreatDoorQac
import Derived.Test.YtkmpddaobncheaaGreatDoorQaa
import Derived.Deep.CutRange
import Derived.Test.YtkmpddaobncheaaGreatDoorQah
import Derived.Deep.QuietTactic
import Derived.BigQuiet
import Derived.Test.YtkmpddaobncheaaGreatDoorQal
import Derived.Test.YtkmpddaobncheaaGreatDoorQar
import Derived.StillTailTactics
import Derived.Lib.SliceRun
import Derived.Test.YtkmpddaobncheaaGreatDoorQau
import Derived.Deep.RegionLaw
import Derived.Maps.OwnSet
namespace Go.Proofs.YtkmpddaobncheaaGreatDoor
open Go.RowKit

def upN (n num den : Int) : Int := (n * num + den - 1) / den
def basicL (r : RuleD) (d : Int) : Int := max r.least (upN d r.num r.den)
def anchP (r : RuleD) (d : Int) (poor : Bool) : Int := if poor then upN (basicL r d) r.poorNum r.poorDen else basicL r d
def anchL (r : RuleD) (d : Int) (poor bent : Bool) : Int := max (if bent then upN (anchP r d poor) r.bendNum r.bendDen else anchP r d poor) r.least
def poorB (m : MemD) (leg : BoxD) : Bool := decide (250 < leg.lo.2.2 - (hullOf m.boxes).lo.2.2)
def noMain : MainD := ⟨⟨(0, 0, 0), (0, 0, 0)⟩, false, 0, .empty⟩
def mainsOf (x : DetD) : List MainD := (laidAll x.bars x.runs).map mainOf
def mainAt (ms : List MainD) (i : Int) : MainD := ms.getD i.toNat noMain
end Go.Proofs.YtkmpddaobncheaaGreatDoor
namespace Go.Proofs.YtkmpddaobncheaaGreatDoor
open Go.RowKit

theorem up_mul {n d : Int} {a b : Int} (h0 : 0 ≤ n) (h1 : n ≤ a) (h2 : 0 ≤ d) (h3 : d ≤ b) (hb : 0 ≤ a) : 0 ≤ n * d ∧ n * d ≤ a * b :=
  ⟨Int.mul_nonneg h0 h2, Int.mul_le_mul h1 h3 h2 hb⟩
theorem upN_rng {n num den : Int} (h : 0 ≤ n * num) (hd : 1 ≤ den) : 0 ≤ upN n num den ∧ upN n num den ≤ n * num + den - 1 := by
  unfold upN
  refine ⟨Int.ediv_nonneg (by omega) (by omega), ?_⟩
  exact Int.ediv_le_self _ (by omega)
structure RuleR (r : RuleD) : Prop where
  n1 : 1 ≤ r.num
  n2 : r.num ≤ 1000
  d1 : 1 ≤ r.den
  d2 : r.den ≤ 1000
  pn1 : 1 ≤ r.poorNum
  pn2 : r.poorNum ≤ 1000
  pd1 : 1 ≤ r.poorDen
  pd2 : r.poorDen ≤ 1000
  bn1 : 1 ≤ r.bendNum
  bn2 : r.bendNum ≤ 1000
  bd1 : 1 ≤ r.bendDen
  bd2 : r.bendDen ≤ 1000
  ln1 : 1 ≤ r.lapNum
  ln2 : r.lapNum ≤ 1000
  ld1 : 1 ≤ r.lapDen
  ld2 : r.lapDen ≤ 1000
  l1 : 0 ≤ r.least
  l2 : r.least ≤ 1000
theorem rule_rng {r : RuleD} (h : ruleOk r = true) : RuleR r := by
  simp only [ruleOk, List.all_cons, List.all_nil, Bool.and_true, ratOk, within, Bool.and_eq_true, decide_eq_true_eq] at h
  constructor <;> omega
theorem basic_rng {r : RuleD} (h : RuleR r) {d : Int} (h1 : 0 ≤ d) (h2 : d ≤ 40) : (0 ≤ d * r.num ∧ d * r.num ≤ 40000) ∧ 0 ≤ basicL r d ∧ basicL r d ≤ 41000 := by
  have a := h.n1; have b := h.n2; have c := h.d1; have e := h.d2; have f := h.l1; have g := h.l2
  have m := up_mul h1 h2 (show 0 ≤ r.num by omega) b (by omega)
  have u := upN_rng (den := r.den) m.1 c
  unfold basicL
  omega
theorem anchP_rng {r : RuleD} (h : RuleR r) {d : Int} (h1 : 0 ≤ d) (h2 : d ≤ 40) (p : Bool) : (0 ≤ basicL r d * r.poorNum ∧ basicL r d * r.poorNum ≤ 41000000) ∧ 0 ≤ anchP r d p ∧ anchP r d p ≤ 41001000 := by
  have hb := (basic_rng h h1 h2).2
  have a := h.pn1; have b := h.pn2; have c := h.pd1; have e := h.pd2
  have m := up_mul hb.1 hb.2 (show 0 ≤ r.poorNum by omega) b (by omega)
  have u := upN_rng (den := r.poorDen) m.1 c
  unfold anchP
  cases p <;> simp <;> omega
theorem anchL_rng {r : RuleD} (h : RuleR r) {d : Int} (h1 : 0 ≤ d) (h2 : d ≤ 40) (p b : Bool) : (0 ≤ anchP r d p * r.bendNum ∧ anchP r d p * r.bendNum ≤ 41001000000) ∧ 0 ≤ anchL r d p b ∧ anchL r d p b ≤ 41002000000 := by
  have hb := (anchP_rng h h1 h2 p).2
  have a := h.bn1; have b' := h.bn2; have c := h.bd1; have e := h.bd2; have f := h.l1; have g := h.l2
  have m := up_mul hb.1 hb.2 (show 0 ≤ r.bendNum by omega) b' (by omega)
  have u := upN_rng (den := r.bendDen) m.1 c
  unfold anchL
  cases b <;> simp <;> omega
set_option maxHeartbeats 1000000 in
theorem up_ok (n num den : Int) (w : World) (h0 : 0 ≤ n * num) (h1 : n * num ≤ 1000000000000000) (hd : 1 ≤ den) (hd2 : den ≤ 1000) :
    Calls Tryz.prog 308 #[.int .i64 n, .int .i64 num, .int .i64 den] w fun e w' => e = .returned (.int .i64 (upN n num den)) ∧ w = w' := by
  have Hu := hide (show upN n num den = (n * num + den - 1) / den from rfl)
  generalize upN n num den = u at *
  have z1 : wrap64 (n * num) = n * num := IntWalk.wrap64_in (n * num) (by omega)
  have z4 : 0 ≤ n * num + den - 1 := by omega
  go_enter Tryz.func308, Tryz.ntmps308
  go_wp2_with fail
  go_ret
  exact ⟨ret_int Hu.out.symm, rfl⟩
set_option maxHeartbeats 2000000 in
theorem basic_ok (r : RuleD) (d : Int) (w : World) (hr : RuleR r) (h1 : 0 ≤ d) (h2 : d ≤ 40) :
    Calls Tryz.prog 307 #[rlV r, .int .i64 d] w fun e w' => e = .returned (.int .i64 (basicL r d)) ∧ Below w.heap.size w w' := by
  have hm := (basic_rng hr h1 h2).1
  have HU := hide (fun (q : Nat) (os : Array Obj) => up_ok d r.num r.den (Go.Sort.grow (redrawn (w.alloc (.cells #[.int .i64 r.num, .int .i64 r.den, .int .i64 r.poorNum, .int .i64 r.poorDen, .int .i64 r.bendNum, .int .i64 r.bendDen, .int .i64 r.lapNum, .int .i64 r.lapDen, .int .i64 r.least] 32)) q) os) hm.1 (by omega) hr.d1 hr.d2)
  have Hb := hide (show basicL r d = max r.least (upN d r.num r.den) from rfl)
  generalize upN d r.num r.den = u at *
  generalize basicL r d = bl at *
  obtain ⟨a1, a2, a3, a4, a5, a6, a7, a8, a9⟩ := r
  simp only at HU Hb
  have kr := Blk.new w 32 #[.int .i64 a1, .int .i64 a2, .int .i64 a3, .int .i64 a4, .int .i64 a5, .int .i64 a6, .int .i64 a7, .int .i64 a8, .int .i64 a9]
  have e0 := cell_regrown (kr.cell 0)
  have e1 := cell_regrown (kr.cell 1)
  have e8 := cell_regrown (kr.cell 8)
  simp at e0 e1 e8
  have HW := hide (below_new w (.cells #[.int .i64 a1, .int .i64 a2, .int .i64 a3, .int .i64 a4, .int .i64 a5, .int .i64 a6, .int .i64 a7, .int .i64 a8, .int .i64 a9] 32))
  clear hm hr h1 h2 kr
  rcases Int.lt_or_le a9 u with hc | hc
  all_goals
    go_enter Tryz.func307, Tryz.ntmps307
    go_wp2_with fail
    refine wp_region_quiet_below (by kernel_rfl) (by kernel_rfl) ?_
    repeat (go_big_quiet_step (first
      | (go_at_call 308; with_reducible exact regrown_same (HU.out _ _))))
    refine wpQuiet_nil ?_
    intro wq9 hw'
    have hbq := hide (show Below _ _ wq9 by obtain ⟨p9, rfl⟩ := hw'; exact below_regrown _ _ _)
    clear hw'
    go_wp2_with fail
    go_ret
    exact ⟨ret_int (by rw [Hb.out]; omega), below_step HW.out hbq.out (Nat.le_refl _)⟩
set_option maxHeartbeats 4000000 in
theorem length_ok (r : RuleD) (d : Int) (p b : Bool) (w : World) (hr : RuleR r) (h1 : 0 ≤ d) (h2 : d ≤ 40) :
    Calls Tryz.prog 286 #[rlV r, .int .i64 d, .bool p, .bool b] w fun e w' => e = .returned (.int .i64 (anchL r d p b)) ∧ Below w.heap.size w w' := by
  have HB := hide (fun W => basic_ok r d W hr h1 h2)
  have hm1 := (anchP_rng hr h1 h2 p).1
  have hm2 := (anchL_rng hr h1 h2 p b).1
  have HU1 := hide (fun W => up_ok (basicL r d) r.poorNum r.poorDen W hm1.1 (by omega) hr.pd1 hr.pd2)
  have HU2 := hide (fun W => up_ok (anchP r d p) r.bendNum r.bendDen W hm2.1 (by omega) hr.bd1 hr.bd2)
  have Hp := hide (show anchP r d p = if p then upN (basicL r d) r.poorNum r.poorDen else basicL r d from rfl)
  have Hl := hide (show anchL r d p b = max (if b then upN (anchP r d p) r.bendNum r.bendDen else anchP r d p) r.least from rfl)
  generalize anchL r d p b = al at *
  generalize upN (basicL r d) r.poorNum r.poorDen = u1 at *
  generalize upN (anchP r d p) r.bendNum r.bendDen = u2 at *
  generalize anchP r d p = ap at *
  generalize basicL r d = bl at *
  obtain ⟨a1, a2, a3, a4, a5, a6, a7, a8, a9⟩ := r
  simp only at HU1 HU2 Hl
  have KR := hide (Blk.new w 32 #[.int .i64 a1, .int .i64 a2, .int .i64 a3, .int .i64 a4, .int .i64 a5, .int .i64 a6, .int .i64 a7, .int .i64 a8, .int .i64 a9])
  have HW := hide (below_new w (.cells #[.int .i64 a1, .int .i64 a2, .int .i64 a3, .int .i64 a4, .int .i64 a5, .int .i64 a6, .int .i64 a7, .int .i64 a8, .int .i64 a9] 32))
  have Hq := hide (show (if b then u2 else ap) = (if b then u2 else ap) from rfl)
  obtain ⟨fin, hfin⟩ : ∃ q, q = (if b then u2 else ap) := ⟨_, rfl⟩
  rw [← hfin] at Hl
  clear hm1 hm2 hr h1 h2 Hq
  cases p
  · have hap : ap = bl := Hp.out
    subst hap
    clear Hp HU1
    cases b
    · obtain rfl : fin = ap := hfin
      clear HU2
      rcases Int.lt_or_le fin a9 with hc | hc
      all_goals
        go_enter Tryz.func286, Tryz.ntmps286
        go_wp2_with fail
        refine (HB.out _).mono ?_
        rintro e w1 ⟨rfl, hb⟩
        replace KR := hide (KR.out.keep hb)
        replace HW := hide (below_step HW.out hb (Nat.le_refl _))
        clear hb HB
        have c0 := KR.out.cell 0
        have c1 := KR.out.cell 1
        have c2 := KR.out.cell 2
        have c3 := KR.out.cell 3
        have c4 := KR.out.cell 4
        have c5 := KR.out.cell 5
        have c6 := KR.out.cell 6
        have c7 := KR.out.cell 7
        have c8 := KR.out.cell 8
        simp at c0 c1 c2 c3 c4 c5 c6 c7 c8
        have lr := KR.out.lt
        go_wp2_with fail
        go_ret
        exact ⟨ret_int (by rw [Hl.out]; omega), HW.out⟩
    · obtain rfl : fin = u2 := hfin
      rcases Int.lt_or_le fin a9 with hc | hc
      all_goals
        go_enter Tryz.func286, Tryz.ntmps286
        go_wp2_with fail
        refine (HB.out _).mono ?_
        rintro e w1 ⟨rfl, hb⟩
        replace KR := hide (KR.out.keep hb)
        replace HW := hide (below_step HW.out hb (Nat.le_refl _))
        clear hb HB
        have c0 := KR.out.cell 0
        have c1 := KR.out.cell 1
        have c2 := KR.out.cell 2
        have c3 := KR.out.cell 3
        have c4 := KR.out.cell 4
        have c5 := KR.out.cell 5
        have c6 := KR.out.cell 6
        have c7 := KR.out.cell 7
        have c8 := KR.out.cell 8
        simp at c0 c1 c2 c3 c4 c5 c6 c7 c8
        have lr := KR.out.lt
        go_wp2_with fail
        refine (HU2.out _).mono ?_
        rintro e w2 ⟨rfl, rfl⟩
        go_wp2_with fail
        go_ret
        exact ⟨ret_int (by rw [Hl.out]; omega), HW.out⟩
  · have hap : ap = u1 := Hp.out
    subst hap
    clear Hp
    cases b
    · obtain rfl : fin = ap := hfin
      clear HU2
      rcases Int.lt_or_le fin a9 with hc | hc
      all_goals
        go_enter Tryz.func286, Tryz.ntmps286
        go_wp2_with fail
        refine (HB.out _).mono ?_
        rintro e w1 ⟨rfl, hb⟩
        replace KR := hide (KR.out.keep hb)
        replace HW := hide (below_step HW.out hb (Nat.le_refl _))
        clear hb HB
        have c0 := KR.out.cell 0
        have c1 := KR.out.cell 1
        have c2 := KR.out.cell 2
        have c3 := KR.out.cell 3
        have c4 := KR.out.cell 4
        have c5 := KR.out.cell 5
        have c6 := KR.out.cell 6
        have c7 := KR.out.cell 7
        have c8 := KR.out.cell 8
        simp at c0 c1 c2 c3 c4 c5 c6 c7 c8
        have lr := KR.out.lt
        go_wp2_with fail
        refine (HU1.out _).mono ?_
        rintro e w2 ⟨rfl, rfl⟩
        go_wp2_with fail
        go_ret
        exact ⟨ret_int (by rw [Hl.out]; omega), HW.out⟩
    · obtain rfl : fin = u2 := hfin
      rcases Int.lt_or_le fin a9 with hc | hc
      all_goals
        go_enter Tryz.func286, Tryz.ntmps286
        go_wp2_with fail
        refine (HB.out _).mono ?_
        rintro e w1 ⟨rfl, hb⟩
        replace KR := hide (KR.out.keep hb)
        replace HW := hide (below_step HW.out hb (Nat.le_refl _))
        clear hb HB
        have c0 := KR.out.cell 0
        have c1 := KR.out.cell 1
        have c2 := KR.out.cell 2
        have c3 := KR.out.cell 3
        have c4 := KR.out.cell 4
        have c5 := KR.out.cell 5
        have c6 := KR.out.cell 6
        have c7 := KR.out.cell 7
        have c8 := KR.out.cell 8
        simp at c0 c1 c2 c3 c4 c5 c6 c7 c8
        have lr := KR.out.lt
        go_wp2_with fail
        refine (HU1.out _).mono ?_
        rintro e w2 ⟨rfl, rfl⟩
        go_wp2_with fail
        refine (HU2.out _).mono ?_
        rintro e w3 ⟨rfl, rfl⟩
        go_wp2_with fail
        go_ret
        exact ⟨ret_int (by rw [Hl.out]; omega), HW.out⟩
end Go.Proofs.YtkmpddaobncheaaGreatDoor
namespace Go.Proofs.YtkmpddaobncheaaGreatDoor
open Go.RowKit

set_option maxHeartbeats 2000000 in
theorem poor_ok (m : MemD) (A1 A2 : Option Addr) (n1 n2 c1 c2 : Nat) (leg : BoxD) (w : World) {B : Nat} (h1 : BoxesAt w B A1 m.boxes) (h2 : BoxesAt w B A2 m.holes) (hB : B ≤ w.heap.size) (hn1 : n1 = m.boxes.length) (hn2 : n2 = m.holes.length) (hok : solidOk m.boxes m.holes = true) (hlk : boxOk leg = true) :
    Calls Tryz.prog 285 #[memV m A1 n1 c1 A2 n2 c2, bx leg] w fun e w' => e = .returned (.bool (poorB m leg)) ∧ Below w.heap.size w w' := by
  have HH := hide (fun (W : World) (hz : Below w.heap.size w W) => solidHull_ok m.boxes m.holes A1 A2 n1 n2 c1 c2 W (h1.carry (Flat.carried _) (hz.mono hB) (Nat.le_refl _)) (h2.carry (Flat.carried _) (hz.mono hB) (Nat.le_refl _)) (Nat.le_trans hB hz.size) hn1 hn2 hok)
  obtain ⟨q1, _, q3⟩ := solid_boxes hok
  have hhb := boxOk_iff.1 (hullOf_ok q1 q3)
  have hlb := boxOk_iff.1 hlk
  have Hr := hide (show poorB m leg = decide (250 < leg.lo.2.2 - (hullOf m.boxes).lo.2.2) from rfl)
  generalize poorB m leg = r at *
  generalize hullOf m.boxes = hb at *
  obtain ⟨⟨x, y, z⟩, x2, y2, z2⟩ := leg
  obtain ⟨⟨u, v, t⟩, u2, v2, t2⟩ := hb
  obtain ⟨name, boxes, holes, cover, agg, poker⟩ := m
  simp only at hhb hlb Hr
  obtain ⟨_, _, k1, k2, k3⟩ := hhb
  obtain ⟨_, _, l1, l2, l3⟩ := hlb
  have KM := hide ((Blk.new w 26 #[.string name, .slice A1 n1 c1, .slice A2 n2 c2, .int .i64 cover, .int .i64 agg, .int .i64 poker]).alloc (.cells #[.int .i64 x, .int .i64 y, .int .i64 z, .int .i64 x2, .int .i64 y2, .int .i64 z2] 51))
  have KB := hide (Blk.new1 w (.cells #[.string name, .slice A1 n1 c1, .slice A2 n2 c2, .int .i64 cover, .int .i64 agg, .int .i64 poker] 26) 51 #[.int .i64 x, .int .i64 y, .int .i64 z, .int .i64 x2, .int .i64 y2, .int .i64 z2])
  have HW := hide (below_new2 w (.cells #[.string name, .slice A1 n1 c1, .slice A2 n2 c2, .int .i64 cover, .int .i64 agg, .int .i64 poker] 26) (.cells #[.int .i64 x, .int .i64 y, .int .i64 z, .int .i64 x2, .int .i64 y2, .int .i64 z2] 51))
  clear h1 h2 hB hn1 hn2 hok hlk q1 q3
  go_enter Tryz.func285, Tryz.ntmps285
  go_wp2_with fail
  refine (HH.out _ HW.out).mono ?_
  rintro e w1 ⟨rfl, hb⟩
  replace KB := hide (KB.out.keep hb)
  replace HW := hide (below_step HW.out hb (Nat.le_refl _))
  have hs := HW.out.size
  clear hb HH KM
  have b0 := KB.out.cell 0
  have b1 := KB.out.cell 1
  have b2 := KB.out.cell 2
  have b3 := KB.out.cell 3
  have b4 := KB.out.cell 4
  have b5 := KB.out.cell 5
  simp at b0 b1 b2 b3 b4 b5
  have lb := KB.out.lt
  go_wp2_with fail
  go_ret
  exact ⟨ret_bool Hr.out.symm, HW.out.alloc hs _⟩
end Go.Proofs.YtkmpddaobncheaaGreatDoor
namespace Go.Proofs.YtkmpddaobncheaaGreatDoor
open Go.RowKit

theorem rowLow {α : Type} {w : World} {base base' : Nat} {e : TypeId} {size : Nat} {enc : α → List Value} {v : Value} {l : List α} (hb : base' ≤ base) (h : Row w base e size enc v l) : Row w base' e size enc v l := by
  refine ⟨h.1, ?_⟩
  rcases h.2 with h | ⟨g, cap, cur, h1, h2, h3, r⟩
  · exact .inl h
  · exact .inr ⟨g, cap, cur, h1, Nat.le_trans hb h2, h3, r⟩
/-- Findings in a row that was made behind a world. -/
abbrev FinRow (base : Nat) (w : World) (A : Option Addr) (n c : Nat) (l : List FinD) : Prop := Row w base 71 2 encFin (.slice A n c) l
theorem FinRow.read {base : Nat} {w : World} {A : Option Addr} {n c : Nat} {l : List FinD} (h : FinRow base w A n c l) : FinsAt w w.heap.size A l := Row.read h encFin_len (by omega)
end Go.Proofs.YtkmpddaobncheaaGreatDoor
namespace Go.Proofs.YtkmpddaobncheaaGreatDoor
open Go.RowKit

def liesIn (lo hi frm til : Int) : Bool := decide (frm ≤ lo) && decide (hi ≤ til)
def insideB (a b : BoxD) : Bool := liesIn a.lo.2.1 a.hi.2.1 b.lo.2.1 b.hi.2.1 && liesIn a.lo.2.2 a.hi.2.2 b.lo.2.2 b.hi.2.2
def inZone (d : DemD) (leg : BoxD) : Bool := (leg.lo.2.1 == leg.hi.2.1) && ((leg.lo.2.2 == leg.hi.2.2) && insideB leg d.zone)
set_option maxHeartbeats 400000 in
theorem dmWithin_any (lo hi frm til : Int) (w : World) : Calls Tryz.prog 287 #[.int .i64 lo, .int .i64 hi, .int .i64 frm, .int .i64 til] w fun e w' => e = .returned (.bool (liesIn lo hi frm til)) ∧ w' = w := by
  have Hr := hide (show liesIn lo hi frm til = (decide (frm ≤ lo) && decide (hi ≤ til)) from rfl)
  generalize liesIn lo hi frm til = t at *
  cases h1 : decide (frm ≤ lo)
  · rw [h1] at Hr
    go_enter Tryz.func287, Tryz.ntmps287
    go_wp2_with fail
    go_ret
    exact ⟨ret_bool (by rw [Hr.out]; rfl), rfl⟩
  · rw [h1] at Hr
    go_enter Tryz.func287, Tryz.ntmps287
    go_wp2_with fail
    go_ret
    exact ⟨ret_bool (by rw [Hr.out]; rfl), rfl⟩
set_option maxHeartbeats 1000000 in
theorem dmInside_any (a b : BoxD) (w : World) : Calls Tryz.prog 246 #[bx a, bx b] w fun e w' => e = .returned (.bool (insideB a b)) ∧ Below w.heap.size w w' := by
  have H1 := hide (fun W => dmWithin_any a.lo.2.1 a.hi.2.1 b.lo.2.1 b.hi.2.1 W)
  have H2 := hide (fun W => dmWithin_any a.lo.2.2 a.hi.2.2 b.lo.2.2 b.hi.2.2 W)
  have Hr := hide (show insideB a b = (liesIn a.lo.2.1 a.hi.2.1 b.lo.2.1 b.hi.2.1 && liesIn a.lo.2.2 a.hi.2.2 b.lo.2.2 b.hi.2.2) from rfl)
  generalize insideB a b = t at *
  obtain ⟨⟨a1, a2, a3⟩, a4, a5, a6⟩ := a
  obtain ⟨⟨b1, b2, b3⟩, b4, b5, b6⟩ := b
  simp only at H1 H2 Hr
  have HW := hide (below_new2 w (.cells #[.int .i64 a1, .int .i64 a2, .int .i64 a3, .int .i64 a4, .int .i64 a5, .int .i64 a6] 51) (.cells #[.int .i64 b1, .int .i64 b2, .int .i64 b3, .int .i64 b4, .int .i64 b5, .int .i64 b6] 51))
  generalize liesIn a2 a5 b2 b5 = t1 at *
  generalize liesIn a3 a6 b3 b6 = t2 at *
  show Calls Tryz.prog 246 #[.agg #[.int .i64 a1, .int .i64 a2, .int .i64 a3, .int .i64 a4, .int .i64 a5, .int .i64 a6], .agg #[.int .i64 b1, .int .i64 b2, .int .i64 b3, .int .i64 b4, .int .i64 b5, .int .i64 b6]] w _
  go_enter Tryz.func246, Tryz.ntmps246
  go_wp2_with fail
  refine (H1.out _).mono ?_
  rintro e wz ⟨rfl, rfl⟩
  cases t1
  · go_wp2_with fail
    go_ret
    exact ⟨ret_bool (by rw [Hr.out]; rfl), HW.out⟩
  · go_wp2_with fail
    refine (H2.out _).mono ?_
    rintro e wz ⟨rfl, rfl⟩
    go_wp2_with fail
    go_ret
    exact ⟨ret_bool (by rw [Hr.out]; rfl), HW.out⟩
set_option maxHeartbeats 2000000 in
/-- For a demand that is right, and a leg that is a box. -/
theorem dmIn_ok (d : DemD) (A : Option Addr) (c : Nat) (leg : BoxD) (w : World) {B : Nat} (h : StpsAt w B A d.steps) (hB : B ≤ w.heap.size) (hm : d.name.size ≤ maxLen) (hl : (d.steps.length : Int) ≤ 9223372036854775807) (hd : demOk d = true) (hb : boxOk leg = true) :
    Calls Tryz.prog 187 #[dmV d A d.steps.length c, bx leg] w fun e w' => e = .returned (.tuple #[.bool (inZone d leg), .int .i64 0]) ∧ Below w.heap.size w w' := by
  have HR := hide (fun (W : World) (hz : Below w.heap.size w W) => demandRight_any d A c W (SlOf.carry (Flat.carried _) h (hz.mono hB) (Nat.le_refl _)) (Nat.le_trans hB hz.size) hm hl)
  rw [hd] at HR
  have HV := hide (fun W => boxValid_any leg W)
  rw [hb] at HV
  have HI := hide (fun W => dmInside_any leg d.zone W)
  have Hr := hide (show inZone d leg = ((leg.lo.2.1 == leg.hi.2.1) && ((leg.lo.2.2 == leg.hi.2.2) && insideB leg d.zone)) from rfl)
  generalize inZone d leg = t at *
  generalize insideB leg d.zone = q at *
  clear h hB hm hl hd hb
  obtain ⟨name, ⟨⟨x1, x2, x3⟩, x4, x5, x6⟩, l⟩ := d
  obtain ⟨⟨a1, a2, a3⟩, a4, a5, a6⟩ := leg
  simp only at HR HV HI Hr
  have K0 := hide ((Blk.new w 54 #[.string name, .int .i64 x1, .int .i64 x2, .int .i64 x3, .int .i64 x4, .int .i64 x5, .int .i64 x6, .slice A l.length c]).alloc (.cells #[.int .i64 a1, .int .i64 a2, .int .i64 a3, .int .i64 a4, .int .i64 a5, .int .i64 a6] 51))
  have K1 := hide (Blk.new1 w (.cells #[.string name, .int .i64 x1, .int .i64 x2, .int .i64 x3, .int .i64 x4, .int .i64 x5, .int .i64 x6, .slice A l.length c] 54) 51 #[.int .i64 a1, .int .i64 a2, .int .i64 a3, .int .i64 a4, .int .i64 a5, .int .i64 a6])
  have HW := hide (below_new2 w (.cells #[.string name, .int .i64 x1, .int .i64 x2, .int .i64 x3, .int .i64 x4, .int .i64 x5, .int .i64 x6, .slice A l.length c] 54) (.cells #[.int .i64 a1, .int .i64 a2, .int .i64 a3, .int .i64 a4, .int .i64 a5, .int .i64 a6] 51))
  show Calls Tryz.prog 187 #[.agg #[.string name, .int .i64 x1, .int .i64 x2, .int .i64 x3, .int .i64 x4, .int .i64 x5, .int .i64 x6, .slice A l.length c], .agg #[.int .i64 a1, .int .i64 a2, .int .i64 a3, .int .i64 a4, .int .i64 a5, .int .i64 a6]] w _
  go_enter Tryz.func187, Tryz.ntmps187
  go_wp2_with fail
  refine (HR.out _ HW.out).mono ?_
  rintro e w1 ⟨rfl, hb⟩
  replace K0 := hide (K0.out.keep hb)
  replace K1 := hide (K1.out.keep hb)
  replace HW := hide (below_step HW.out hb (Nat.le_refl _))
  clear hb HR
  have e0 := K1.out.cell 0
  have e1 := K1.out.cell 1
  have e2 := K1.out.cell 2
  have e3 := K1.out.cell 3
  have e4 := K1.out.cell 4
  have e5 := K1.out.cell 5
  simp at e0 e1 e2 e3 e4 e5
  have l1 := K1.out.lt
  go_wp2_with fail
  refine (HV.out _).mono ?_
  rintro e w2 ⟨rfl, hb⟩
  replace K0 := hide (K0.out.keep hb)
  replace K1 := hide (K1.out.keep hb)
  replace HW := hide (below_step HW.out hb (Nat.le_refl _))
  clear hb HV e0 e1 e2 e3 e4 e5 l1
  have e0 := K1.out.cell 0
  have e1 := K1.out.cell 1
  have e2 := K1.out.cell 2
  have e3 := K1.out.cell 3
  have e4 := K1.out.cell 4
  have e5 := K1.out.cell 5
  have f1 := K0.out.cell 1
  have f2 := K0.out.cell 2
  have f3 := K0.out.cell 3
  have f4 := K0.out.cell 4
  have f5 := K0.out.cell 5
  have f6 := K0.out.cell 6
  simp at e0 e1 e2 e3 e4 e5 f1 f2 f3 f4 f5 f6
  have l0 := K0.out.lt
  have l1 := K1.out.lt
  cases q1 : (a2 == a5)
  · rw [q1] at Hr
    go_wp2_with fail
    go_ret2
    exact ⟨by rw [Hr.out]; rfl, HW.out⟩
  cases q2 : (a3 == a6)
  · rw [q1, q2] at Hr
    go_wp2_with fail
    go_ret2
    exact ⟨by rw [Hr.out]; rfl, HW.out⟩
  rw [q1, q2] at Hr
  go_wp2_with fail
  refine (HI.out _).mono ?_
  rintro e w3 ⟨rfl, hb⟩
  replace HW := hide (below_step HW.out hb (Nat.le_refl _))
  clear hb
  go_wp2_with fail
  go_ret2
  exact ⟨by rw [Hr.out]; rfl, HW.out⟩
end Go.Proofs.YtkmpddaobncheaaGreatDoor
namespace Go.Proofs.YtkmpddaobncheaaGreatDoor
open Go.RowKit

def SameLen (s' s : DetS) : Prop := s'.n1 = s.n1 ∧ s'.n2 = s.n2 ∧ s'.n3 = s.n3 ∧ s'.n4 = s.n4 ∧ s'.n5 = s.n5 ∧ s'.n6 = s.n6
def Copied (lo : Nat) (w' : World) (x : DetD) (s s' : DetS) : Prop := SameLen s' s ∧ ∃ (b : Nat → Nat) (LB : List BarX) (LD : List DemX), OwnDet w' lo x s' b LB LD
end Go.Proofs.YtkmpddaobncheaaGreatDoor
