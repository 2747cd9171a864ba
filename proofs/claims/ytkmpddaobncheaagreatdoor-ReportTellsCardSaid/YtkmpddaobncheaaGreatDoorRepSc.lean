/- report.Sections: the report of sections. -/
import Derived.Test.YtkmpddaobncheaaGreatDoorFlsW
import Derived.Test.YtkmpddaobncheaaGreatDoorQae
namespace Go.Proofs.YtkmpddaobncheaaGreatDoor
open Go.RowKit

set_option maxHeartbeats 2000000 in
set_option maxRecDepth 100000 in
theorem builderString_nil (T : Nat) (b : Nat) (p : Value) (w : World) (hbk : w.heap[b]? = some (.cells #[p, .slice none 0 0] T (0, 0))) :
    Calls Tryz.prog 23 #[.pointer (some ⟨b, 0, none⟩)] w fun e w' => e = .returned (.string ⟨#[]⟩) ∧ Below w.heap.size w w' := by
  have hUS : (Builtin.unsafeString_ #[127, 3] 9 #[.pointer none, .int .i64 0]).run Tryz.prog w.drew = .ok (.string .empty) w.drew := Lib.run_unsafeString_none _ _ _ _ none
  have c1 : w.drew.cell? ⟨b, 1, none⟩ = some (.slice none 0 0) := by
    have : w.drew.heap[b]? = some (.cells #[p, .slice none 0 0] T (0, 0)) := hbk
    rw [Lib.cell_of_heap this]; rfl
  have hSD : (Builtin.unsafeSliceData_ #[76] 127 #[.slice none 0 0]).run Tryz.prog w.drew = .ok (.pointer none) w.drew := rfl
  go_enter Tryz.func23, Tryz.ntmps23
  go_wp2
  go_region
  all_goals (go_wp2; go_ret; exact ⟨rfl, Below.drew (Below.refl _ w)⟩)
theorem errFrom_zero (x : DetD) : ∀ (l : List DemD), errFrom x l = 0 → ∀ d ∈ l, supErr x d = 0 := by
  intro l
  induction l with
  | nil => intro _ d hd; cases hd
  | cons y r ih =>
    intro h d hd
    rw [errFrom] at h
    by_cases h0 : supErr x y = 0
    · rw [if_pos h0] at h
      rcases List.mem_cons.1 hd with rfl | hd
      · exact h0
      · exact ih h d hd
    · rw [if_neg h0] at h
      exact absurd h h0
theorem dems_all {x : DetD} {s : DetS} (hf : DetFit x s) (hd : detOk x = true) : (∀ d ∈ x.dems, d.name.size ≤ maxLen ∧ (d.steps.length : Int) ≤ 9223372036854775807 ∧ demOk d = true) ∧ x.dems.length ≤ 20 := by
  have hdo : demsOk x.dems = true := by
    simp only [detOk, detHead, Bool.and_eq_true] at hd
    exact hd.1.1.1.2
  have hdm : ∀ (l done : List DemD), demsFrom done l = true → ∀ d ∈ l, demOk d = true := by
    intro l
    induction l with
    | nil => intro _ _ d hd; cases hd
    | cons y l ih =>
      intro done h9 d hd
      simp only [demsFrom, Bool.and_eq_true] at h9
      rcases List.mem_cons.1 hd with rfl | hd
      · exact h9.1.1
      · exact ih _ h9.2 d hd
  refine ⟨fun d hm => ⟨(hf.dems d hm).1, (hf.dems d hm).2, hdm _ _ (by simp only [demsOk, Bool.and_eq_true] at hdo; exact hdo.2) d hm⟩, ?_⟩
  simp only [demsOk, Bool.and_eq_true, decide_eq_true_eq] at hdo
  exact hdo.1
set_option maxHeartbeats 2000000 in
set_option maxRecDepth 100000 in
theorem secCheck_bad (x : DetD) (s : DetS) (w : World) {B : Nat} (h : DetAt w B x s) (hB : B ≤ w.heap.size) (hf : DetFit x s) (hd : detOk x = false) :
    Calls Tryz.prog 8 #[detV x s] w fun e w' => e = .returned (.tuple #[.slice none 0 0, .int .i64 1]) ∧ Below w.heap.size w w' := by
  have HV := hide (fun (W : World) (hz : Below w.heap.size w W) => show Calls Tryz.prog 24 #[.agg (detCells x.mem x.rule s)] W _ from lapValid_any x s W (h.carry (hz.mono hB) (Nat.le_refl _)) (Nat.le_trans hB hz.size) hf)
  rw [hd] at HV
  have K0 := hide (Blk.new w 34 (detCells x.mem x.rule s))
  have HW := hide (below_new w (.cells (detCells x.mem x.rule s) 34))
  have Hi := hide (show (Tryz.prog.info? 34).map (·.size) = some 19 by kernel_rfl)
  have Hsz := hide (show (detCells x.mem x.rule s).size = 19 from rfl)
  show Calls Tryz.prog 8 #[.agg (detCells x.mem x.rule s)] w _
  generalize detCells x.mem x.rule s = C at *
  clear h hB hf hd
  go_enter Tryz.func8, Tryz.ntmps8
  go_wp2_with (refine wpList_load_row rfl 34 (.tmp 1) rfl w.heap.size rfl 34 _ (0, 0) _ K0.out Tryz.underlying34 rfl (by rw [Hsz.out]; exact Hi.out) ?_)
  refine (HV.out _ HW.out).mono ?_
  rintro e w1 ⟨rfl, hb⟩
  replace HW := hide (below_step HW.out hb (Nat.le_refl _))
  clear hb HV K0 Hi Hsz
  go_wp2_with fail
  go_ret2
  exact ⟨rfl, HW.out⟩
set_option maxHeartbeats 2000000 in
set_option maxRecDepth 100000 in
theorem repSec_bad (x : DetD) (s : DetS) (w : World) {B : Nat} (h : DetAt w B x s) (hB : B ≤ w.heap.size) (hf : DetFit x s) (hd : detOk x = false) :
    Calls Tryz.prog 7 #[detV x s] w fun e w' => e = .returned (.tuple #[.string ⟨#[]⟩, .int .i64 1]) ∧ Below w.heap.size w w' := by
  have HV := hide (fun (W : World) (hz : Below w.heap.size w W) => show Calls Tryz.prog 8 #[.agg (detCells x.mem x.rule s)] W _ from secCheck_bad x s W (h.carry (hz.mono hB) (Nat.le_refl _)) (Nat.le_trans hB hz.size) hf hd)
  have K0 := hide (Blk.new w 34 (detCells x.mem x.rule s))
  have HW := hide (below_new w (.cells (detCells x.mem x.rule s) 34))
  have Hi := hide (show (Tryz.prog.info? 34).map (·.size) = some 19 by kernel_rfl)
  have Hsz := hide (show (detCells x.mem x.rule s).size = 19 from rfl)
  show Calls Tryz.prog 7 #[.agg (detCells x.mem x.rule s)] w _
  generalize detCells x.mem x.rule s = C at *
  clear h hB hf hd
  go_enter Tryz.func7, Tryz.ntmps7
  go_wp2_with (refine wpList_load_row rfl 34 (.tmp 1) rfl w.heap.size rfl 34 _ (0, 0) _ K0.out Tryz.underlying34 rfl (by rw [Hsz.out]; exact Hi.out) ?_)
  refine (HV.out _ HW.out).mono ?_
  rintro e w1 ⟨rfl, hb⟩
  replace HW := hide (below_step HW.out hb (Nat.le_refl _))
  clear hb HV K0 Hi Hsz
  go_wp2_with fail
  go_ret2
  exact ⟨rfl, HW.out⟩
set_option maxHeartbeats 2000000 in
set_option maxRecDepth 100000 in
theorem repSec_err (HSL : SortLaw) (HCL : CompLaw) (x : DetD) (s : DetS) (w : World) {B : Nat} (h : DetAt w B x s) (hB : B ≤ w.heap.size) (hf : DetFit x s) (hd : detOk x = true) (he : shortErr x ≠ 0) :
    Calls Tryz.prog 7 #[detV x s] w fun e w' => e = .returned (.tuple #[.string ⟨#[]⟩, .int .i64 (shortErr x)]) ∧ Below w.heap.size w w' := by
  have HV := hide (fun (W : World) (hz : Below w.heap.size w W) => show Calls Tryz.prog 8 #[.agg (detCells x.mem x.rule s)] W _ from secCheck_ok HSL HCL x s W (h.carry (hz.mono hB) (Nat.le_refl _)) (Nat.le_trans hB hz.size) hf hd)
  have K0 := hide (Blk.new w 34 (detCells x.mem x.rule s))
  have HW := hide (below_new w (.cells (detCells x.mem x.rule s) 34))
  have Hi := hide (show (Tryz.prog.info? 34).map (·.size) = some 19 by kernel_rfl)
  have Hsz := hide (show (detCells x.mem x.rule s).size = 19 from rfl)
  show Calls Tryz.prog 7 #[.agg (detCells x.mem x.rule s)] w _
  have dse : (shortErr x != 0) = true := by simpa using he
  generalize detCells x.mem x.rule s = C at *
  generalize shortErr x = SE at *
  clear h hB hf hd he
  go_enter Tryz.func7, Tryz.ntmps7
  go_wp2_with (refine wpList_load_row rfl 34 (.tmp 1) rfl w.heap.size rfl 34 _ (0, 0) _ K0.out Tryz.underlying34 rfl (by rw [Hsz.out]; exact Hi.out) ?_)
  refine (HV.out _ HW.out).mono ?_
  rintro e w1 ⟨A, c, rfl, _, hb⟩
  replace HW := hide (below_step HW.out hb (Nat.le_refl _))
  clear hb HV K0 Hi Hsz
  go_wp2_with fail
  go_ret2
  exact ⟨rfl, HW.out⟩
set_option maxHeartbeats 8000000 in
set_option maxRecDepth 100000 in
theorem repSec_ok (HSL : SortLaw) (HCL : CompLaw) (x : DetD) (s : DetS) (w : World) {B : Nat} (h : DetAt w B x s) (hB : B ≤ w.heap.size) (hf : DetFit x s) (hd : detOk x = true) (he : shortErr x = 0) (ht : TB B w) :
    Calls Tryz.prog 7 #[detV x s] w fun e w' => e = .returned (.tuple #[.string ⟨(tellText x x.dems).toArray⟩, .int .i64 0]) ∧ Below w.heap.size w w' := by
  obtain ⟨hdem, hdl⟩ := dems_all hf hd
  have HV := hide (fun (W : World) (hz : Below w.heap.size w W) => show Calls Tryz.prog 8 #[.agg (detCells x.mem x.rule s)] W _ from secCheck_ok HSL HCL x s W (h.carry (hz.mono hB) (Nat.le_refl _)) (Nat.le_trans hB hz.size) hf hd)
  rw [he] at HV
  have HFl := hide (fun (W : World) (hz : Below w.heap.size w W) (q : Nat) (d : DemD) (hq : x.dems[q]? = some d) => show Calls Tryz.prog 11 #[.agg (detCells x.mem x.rule s), .int .i64 (q : Int)] W _ from fails_ok HSL HCL x s q d W (h.carry (hz.mono hB) (Nat.le_refl _)) (Nat.le_trans hB hz.size) hf hd hq hdem)
  have Hsup := hide (fun d hm => errFrom_zero x x.dems he d hm)
  have Hdm := hide (fun d hm => (hdem d hm).2.2)
  have H6 := hide (fun (W : World) (hz : Below w.heap.size w W) => SlOf.carry demR_carried h.h6 (hz.mono hB) (Nat.le_refl B))
  have L6 := hide hf.l6
  have hn6 : s.n6 ≤ 20 := by rw [hf.l6]; exact hdl
  have HBB := hide hB
  have Ht := hide ht
  have Hlen := hide (fun (k : Nat) => show (tellText x (x.dems.take k)).length ≤ 6000000 * (x.dems.take k).length from tellText_len _ (fun d hm => (hdem d (List.mem_of_mem_take hm)).2.2))
  have HC9 := hide (show (detCells x.mem x.rule s)[9]? = some (.slice s.a6 s.n6 s.c6) from rfl)
  have K0 := hide (Blk.new w 34 (detCells x.mem x.rule s))
  have HW := hide (below_new w (.cells (detCells x.mem x.rule s) 34))
  have Hi := hide (show (Tryz.prog.info? 34).map (·.size) = some 19 by kernel_rfl)
  have Hsz := hide (show (detCells x.mem x.rule s).size = 19 from rfl)
  show Calls Tryz.prog 7 #[.agg (detCells x.mem x.rule s)] w _
  generalize detCells x.mem x.rule s = C at *
  obtain ⟨a1, n1, c1, a2, n2, c2, a3, n3, c3, a4, n4, c4, a5, n5, c5, a6, n6, c6⟩ := s
  simp only at H6 L6 hn6 HC9
  clear h hB hf hd hdl hdem he ht
  go_enter Tryz.func7, Tryz.ntmps7
  go_wp2_with (refine wpList_load_row rfl 34 (.tmp 1) rfl w.heap.size rfl 34 _ (0, 0) _ K0.out Tryz.underlying34 rfl (by rw [Hsz.out]; exact Hi.out) ?_)
  refine (HV.out _ HW.out).mono ?_
  rintro e w3 ⟨A, c, rfl, _, hb⟩
  have K03 := hide (K0.out.keep hb)
  replace K0 := hide ((K0.out.keep hb).alloc (.cells #[.pointer none, .slice none 0 0] 80))
  replace HW := hide (below_step HW.out hb (Nat.le_refl _))
  have Hbd := hide (fresh_text w3)
  have Hbn := hide (Blk.new w3 80 #[.pointer none, .slice none 0 0])
  have Hb3 := hide (below_new w3 (.cells #[.pointer none, .slice none 0 0] 80))
  have e9 := K0.out.cell 9 |>.trans HC9.out
  have lk0 := K0.out.lt
  have hw3 : w.heap.size < w3.heap.size := by have := hb.size; simp at this; omega
  clear hb HV
  go_wp2_with fail
  clear e9 lk0
  go_loopw [22] (fun i wr => ∃ k : Nat, k ≤ n6 ∧ i = .int .i64 k ∧ Bld wr 80 w3.heap.size w3.heap.size (tellText x (x.dems.take k)) ∧ Hid (k = 0 → Blk wr w3.heap.size 80 #[.pointer none, .slice none 0 0]) ∧ Below w3.heap.size w3 wr) (fun i _ => n6 - (intOf i).toNat)
  case atStart => exact ⟨0, Nat.zero_le _, rfl, by simpa [tellText] using Hbd.out, hide (fun _ => Hbn.out), Hb3.out⟩
  case round =>
    rename World => wr
    clear Hbd Hbn Hb3
    obtain ⟨k, hk, rfl, hbd, hfr, hbr⟩ := hrel
    have Hbd := hide hbd
    have hBr := hbr.size
    have HWr := hide (below_step HW.out hbr (Nat.le_refl _))
    have hzw : w.heap.size ≤ wr.heap.size := HWr.out.size
    have K0r := hide (K03.out.below hbr hw3)
    have Ht3 := hide (Ht.out.carry (HWr.out.mono HBB.out))
    have hB3 := Nat.le_trans HBB.out hzw
    have hl9 := hide (show (tellText x (x.dems.take k)).length ≤ 50000000000 by
      have h9 := Hlen.out k
      rw [List.length_take] at h9
      omega)
    clear hbd
    by_cases hlt : k < n6
    · obtain ⟨b, off, d, A9, c9, hA, hbl, hx, _, hc⟩ := DemsAt.get (k := k) (H6.out _ HWr.out) (by rw [← L6.out]; exact hlt)
      subst hA
      have hse := Hsup.out d (mem_of_get hx)
      have Hok := hide (tellWords_ok (x := x) (Hdm.out d (mem_of_get hx)))
      have Hnx := hide (show tellText x (x.dems.take (k + 1)) = tellText x (x.dems.take k) ++ lineBytes (tellWords x d) by rw [take_snoc' hx, tellText_snoc])
      have HSk := hide (fun (W : World) (hz : Below w.heap.size w W) => HFl.out W hz k d hx)
      have lb : b < wr.heap.size := Nat.lt_of_lt_of_le hbl (Nat.le_trans HBB.out HWr.out.size)
      have e0 := hc 0 _ rfl
      have e1 := hc 1 _ rfl
      have e2 := hc 2 _ rfl
      have e3 := hc 3 _ rfl
      have e4 := hc 4 _ rfl
      have e5 := hc 5 _ rfl
      have e6 := hc 6 _ rfl
      have e7 := hc 7 _ rfl
      simp only [Nat.add_zero] at e0
      have KD := hide (Blk.new wr 54 #[.string d.name, .int .i64 d.zone.lo.1, .int .i64 d.zone.lo.2.1, .int .i64 d.zone.lo.2.2, .int .i64 d.zone.hi.1, .int .i64 d.zone.hi.2.1, .int .i64 d.zone.hi.2.2, .slice A9 d.steps.length c9])
      have HX := hide (below_new wr (.cells #[.string d.name, .int .i64 d.zone.lo.1, .int .i64 d.zone.lo.2.1, .int .i64 d.zone.lo.2.2, .int .i64 d.zone.hi.1, .int .i64 d.zone.hi.2.1, .int .i64 d.zone.hi.2.2, .slice A9 d.steps.length c9] 54))
      have K0q := hide (K0r.out.keep HX.out)
      have h1 : shortB x d = true → failP x d = failPt x d ∧ failE x d = 0 ∧ tellWords x d = [.str wDemand, .str d.name, .str wFails, .str wAt, .num (failPt x d)] := fun hs => ⟨by rw [failP, if_pos hse, if_pos hs], by rw [failE, if_pos hse, if_pos hs], by rw [tellWords, if_pos hs]⟩
      have h2 : shortB x d = false → failP x d = 0 ∧ failE x d = 12 ∧ tellWords x d = [.str wDemand, .str d.name, .str wSuff] := fun hs => ⟨by rw [failP, if_pos hse, if_neg (by rw [hs]; simp)], by rw [failE, if_pos hse, if_neg (by rw [hs]; simp)], by rw [tellWords, if_neg (by rw [hs]; simp)]⟩
      clear hx hc hbl hfr hse
      go_wp2_with (refine wpList_load_row rfl 34 (.tmp 1) rfl w.heap.size rfl 34 _ (0, 0) _ K0q.out Tryz.underlying34 rfl (by rw [Hsz.out]; exact Hi.out) ?_)
      refine (HSk.out _ (below_step HWr.out HX.out (Nat.le_refl _))).mono ?_
      clear e0 e1 e2 e3 e4 e5 e6 e7 lb HSk
      rintro e w5 ⟨rfl, hb⟩
      have HX5 := hide (below_step HX.out hb (Nat.le_refl _))
      have KD5 := hide (KD.out.keep hb)
      have Hbd5 := hide (IsBuilder.keep Hbd.out HX5.out)
      have hb5 := hide (hbr.trans (HX5.out.mono hBr))
      have Ht5 := hide (Ht3.out.carry (HX5.out.mono hB3))
      have hB5 := Nat.le_trans hB3 HX5.out.size
      have c0 := KD5.out.cell 0
      simp at c0
      have lf := KD5.out.lt
      clear hb KD HX5 Hbd K0q HX
      cases hs : shortB x d
      · obtain ⟨q1, q2, q3⟩ := h2 hs
        rw [q1, q2]
        rw [q3] at Hok Hnx
        clear h1 h2 hs q1 q2 q3
        go_wp2_with fail
        refine (line_any [.str wDemand, .str d.name, .str wSuff] w5.heap.size 3 3 _ B w3.heap.size w3.heap.size _ _ (IsBuilder.keep Hbd5.out (below_new w5 _)) (le_alloc hb5.out.size _) (Nat.le_trans HBB.out (Nat.le_of_lt hw3))
          (Ht5.out.carry ((Below.refl B w5).alloc hB5 _)) (Blk.new w5 _ _) rfl ?_ Hok.out (by omega) hl9.out).mono ?_
        · intro i y hi
          rcases i with _ | _ | _ | i <;> simp at hi <;> (try subst hi) <;> rfl
        rintro e w6 ⟨rfl, hb6, hbe6, _⟩
        have Hb6 := hide hb6
        have Hb9 := hide ((hb5.out.alloc hb5.out.size _).trans hbe6)
        clear hb6 c0 hbe6
        go_wp2_with fail
        go_roundw
        case rel => exact ⟨k + 1, by omega, by go_num, by rw [Hnx.out]; exact Hb6.out, hide (fun h => by omega), Hb9.out⟩
        case measure => simp [intOf]; omega
      · obtain ⟨q1, q2, q3⟩ := h1 hs
        rw [q1, q2]
        rw [q3] at Hok Hnx
        generalize failPt x d = p at *
        clear h1 h2 hs q1 q2 q3
        go_wp2_with fail
        refine (line_any [.str wDemand, .str d.name, .str wFails, .str wAt, .num p] w5.heap.size 5 5 _ B w3.heap.size w3.heap.size _ _ (IsBuilder.keep Hbd5.out (below_new w5 _)) (le_alloc hb5.out.size _) (Nat.le_trans HBB.out (Nat.le_of_lt hw3))
          (Ht5.out.carry ((Below.refl B w5).alloc hB5 _)) (Blk.new w5 _ _) rfl ?_ Hok.out (by omega) hl9.out).mono ?_
        · intro i y hi
          rcases i with _ | _ | _ | _ | _ | i <;> simp at hi <;> (try subst hi) <;> rfl
        rintro e w6 ⟨rfl, hb6, hbe6, _⟩
        have Hb6 := hide hb6
        have Hb9 := hide ((hb5.out.alloc hb5.out.size _).trans hbe6)
        clear hb6 c0 hbe6
        go_wp2_with fail
        go_roundw
        case rel => exact ⟨k + 1, by omega, by go_num, by rw [Hnx.out]; exact Hb6.out, hide (fun h => by omega), Hb9.out⟩
        case measure => simp [intOf]; omega
    · obtain rfl : k = n6 := by omega
      have Hbd5 := hide (show Bld wr 80 w3.heap.size w3.heap.size (tellText x x.dems) by have h9 := Hbd.out; rwa [L6.out, List.take_length] at h9)
      clear Hbd
      cases hk0 : k with
      | zero =>
        have hnil : x.dems = [] := List.length_eq_zero_iff.1 (by rw [← L6.out]; exact hk0)
        have Hfr := hide (hfr.out hk0)
        have Ht0 := hide (show (⟨(tellText x x.dems).toArray⟩ : ByteArray) = ⟨#[]⟩ by rw [hnil]; rfl)
        subst hk0
        clear hfr hnil
        go_wp2_with fail
        refine (builderString_nil 80 w3.heap.size _ _ Hfr.out).mono ?_
        rintro e w7 ⟨rfl, hb7⟩
        have HW7 := hide (below_step HWr.out hb7 (Nat.le_refl _))
        go_wp2_with fail
        go_ret2
        exact ⟨by rw [Ht0.out]; rfl, HW7.out⟩
      | succ j =>
        have Hl0 := hide (show tellText x x.dems ≠ [] by
          cases h : x.dems with
          | nil => rw [L6.out, h] at hk0; simp at hk0
          | cons y r => simp [tellText, lineBytes])
        clear hk0 hfr
        go_wp2_with fail
        refine (builderString_some 80 w3.heap.size w3.heap.size _ _ Hbd5.out Hl0.out).mono ?_
        rintro e w7 ⟨rfl, hb7⟩
        have HW7 := hide (HWr.out.trans (hb7.mono (Nat.le_of_lt hw3)))
        go_wp2_with fail
        go_ret2
        exact ⟨rfl, HW7.out⟩
end Go.Proofs.YtkmpddaobncheaaGreatDoor
