/- sections.Fails: where the steel fails first. -/
import Derived.Test.YtkmpddaobncheaaGreatDoorTelP
namespace Go.Proofs.YtkmpddaobncheaaGreatDoor
open Go.RowKit

def failP (x : DetD) (d : DemD) : Int := if supErr x d = 0 then (if shortB x d then failPt x d else 0) else 0
def failE (x : DetD) (d : DemD) : Int := if supErr x d = 0 then (if shortB x d then 0 else 12) else supErr x d
set_option maxHeartbeats 8000000 in
set_option maxRecDepth 100000 in
theorem fails_ok (HSL : SortLaw) (HCL : CompLaw) (x : DetD) (s : DetS) (q : Nat) (d : DemD) (w : World) {B : Nat} (h : DetAt w B x s) (hB : B ≤ w.heap.size) (hf : DetFit x s) (hd : detOk x = true) (hq : x.dems[q]? = some d)
    (hdem : ∀ d ∈ x.dems, d.name.size ≤ maxLen ∧ (d.steps.length : Int) ≤ 9223372036854775807 ∧ demOk d = true) :
    Calls Tryz.prog 11 #[detV x s, .int .i64 (q : Int)] w fun e w' => e = .returned (.tuple #[.int .i64 (failP x d), .int .i64 (failE x d)]) ∧ Below w.heap.size w w' := by
  have HSp := hide (fun (W : World) (hz : Below w.heap.size w W) => show Calls Tryz.prog 25 #[.agg (detCells x.mem x.rule s), .int .i64 (q : Int)] W fun e w' => SpnPost x d W e w' from spans_ok HSL HCL x s q d W (h.carry (hz.mono hB) (Nat.le_refl _)) (Nat.le_trans hB hz.size) hf hd hq hdem)
  have K0 := hide (Blk.new w 34 (detCells x.mem x.rule s))
  have HW := hide (below_new w (.cells (detCells x.mem x.rule s) 34))
  have Hi := hide (show (Tryz.prog.info? 34).map (·.size) = some 19 by kernel_rfl)
  have Hsz := hide (show (detCells x.mem x.rule s).size = 19 from rfl)
  show Calls Tryz.prog 11 #[.agg (detCells x.mem x.rule s), .int .i64 (q : Int)] w _
  generalize detCells x.mem x.rule s = C at *
  clear h hB hf hd hq hdem
  go_enter Tryz.func11, Tryz.ntmps11
  go_wp2_with (refine wpList_load_row rfl 34 (.tmp 2) rfl w.heap.size rfl 34 _ (0, 0) _ K0.out Tryz.underlying34 rfl (by rw [Hsz.out]; exact Hi.out) ?_)
  refine (HSp.out _ HW.out).mono ?_
  clear HSp Hi K0
  rintro e w1 (⟨hse, rfl, hb⟩ | ⟨hse, A, n, c, rfl, hn, hdec, hfst, hb⟩)
  · have HB := hide (below_step HW.out hb (Nat.le_refl _))
    have h1 : failP x d = 0 := by rw [failP, if_neg hse]
    have h2 : failE x d = supErr x d := by rw [failE, if_neg hse]
    have H1 := hide h1
    have H2 := hide h2
    have dse : (supErr x d != 0) = true := by simpa using hse
    generalize supErr x d = SE at *
    clear hb h1 h2 hse
    go_wp2_with fail
    go_ret2
    exact ⟨by rw [H1.out, H2.out]; rfl, HB.out⟩
  have HB := hide (below_step HW.out hb (Nat.le_refl _))
  cases hs : shortB x d
  · have h1 : failP x d = 0 := by rw [failP, if_pos hse, if_neg (by rw [hs]; simp)]
    have h2 : failE x d = 12 := by rw [failE, if_pos hse, if_neg (by rw [hs]; simp)]
    have H1 := hide h1
    have H2 := hide h2
    rw [hs] at hdec
    obtain rfl : n = 0 := by have := of_decide_eq_false hdec; omega
    clear hb h1 h2 hse hdec hfst hs
    go_wp2_with fail
    go_ret2
    exact ⟨by rw [H1.out, H2.out]; rfl, HB.out⟩
  · have h1 : failP x d = failPt x d := by rw [failP, if_pos hse, if_pos hs]
    have h2 : failE x d = 0 := by rw [failE, if_pos hse, if_pos hs]
    obtain ⟨b, off, rfl, hbl, hc⟩ := hfst _ (first_pt hs)
    have H1 := hide h1
    have H2 := hide h2
    rw [hs] at hdec
    have hn0 : 0 < n := of_decide_eq_true hdec
    have t1 : ((n : Int) == 0) = false := by rw [beq_eq_false_iff_ne]; omega
    generalize failPt x d = p at *
    clear hb h1 h2 hse hdec hfst hs
    go_wp2_with fail
    go_ret2
    exact ⟨by rw [H1.out, H2.out]; rfl, HB.out⟩
end Go.Proofs.YtkmpddaobncheaaGreatDoor
