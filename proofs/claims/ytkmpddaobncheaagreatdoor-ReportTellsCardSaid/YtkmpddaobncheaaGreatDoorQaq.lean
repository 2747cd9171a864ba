/- Whether a run is right. -/
import Derived.Test.YtkmpddaobncheaaGreatDoorQap
namespace Go.Proofs.YtkmpddaobncheaaGreatDoor
open Go.RowKit

def placeOf (r : RunD) (k : Int) (q : Pt) : Pt := addP (addP q r.place) (mulP k r.step)
def nearAt (r : RunD) (k : Int) (q : Pt) : Bool := nearBy 1048576 (placeOf r k q)
theorem addP_zero (p : Pt) : addP (0, 0, 0) p = p := by simp [addP]
theorem mulP_one (p : Pt) : mulP 1 p = p := by simp [mulP]
theorem addP_mul0 (p s : Pt) : addP p (mulP 0 s) = p := by simp [addP, mulP]
theorem ptsOf_turned (x : BarD) (r : RunD) (k : Int) : ptsOf x r k = (turnedOf r x).map (placeOf r k) := by
  rw [ptsOf, turnedOf, mapPts, List.map_map]
  apply List.map_congr_left
  intro p _
  simp [placeOf, addP_zero]
theorem runBar_of {bars : List BarD} {r : RunD} {j : Nat} {x : BarD} (hj : idx (markIs r.mark) bars = (j : Int)) (hx : bars[j]? = some x) : runBar bars r = some x := by
  obtain ⟨y, hy, hp, hno⟩ := idx_spec hj
  rw [hx] at hy
  injection hy with hy
  subst hy
  rw [runBar, List.find?_eq_some_iff_getElem]
  have hl := lt_of_get hx
  refine ⟨hp, j, hl, by rw [List.getElem?_eq_getElem hl] at hx; injection hx, fun i hi => ?_⟩
  have := hno i _ hi (List.getElem?_eq_getElem (by omega))
  rw [this]
  rfl
theorem turned_near {r : RunD} {x : BarD} (hok : barOk x = true) (ht : turnOk r.tx r.ty = true) : ∀ q ∈ turnedOf r x, nearBy 1572864 q = true := by
  intro q hq
  obtain ⟨p, hp, rfl⟩ := List.mem_map.1 hq
  rw [addP_zero]
  exact img_range ht (path_near hok p hp) (by omega)
theorem nearBy_sum {a b : Pt} (ha : nearBy 1572864 a = true) (hb : nearBy 1048576 b = true) : nearBy 1099511627776 (addP a b) = true := by
  rw [nearBy_iff] at ha hb ⊢
  simp only [addP]
  omega
theorem step_near {s : Pt} {k : Int} (h : nearBy 2097152 s = true) (h0 : 0 ≤ k) (h1 : k ≤ 999) : nearBy 1099511627776 (mulP k s) = true := by
  obtain ⟨a, b, c⟩ := nearBy_iff.1 h
  have key : ∀ v : Int, -2097152 ≤ v ∧ v ≤ 2097152 → -1099511627776 ≤ k * v ∧ k * v ≤ 1099511627776 := by
    intro v hv
    obtain ⟨f, g⟩ := mul_between (s := v) h0 h1
    rcases Int.le_total 0 v with hs | hs
    · have := f hs; omega
    · have := g hs; omega
  rw [nearBy_iff, mulP]
  exact ⟨key _ a, key _ b, key _ c⟩
def stepOk (r : RunD) : Bool := decide (r.count ≤ 1) || (!noStep r.step && nearBy 2097152 r.step)
theorem runOk_of {bars : List BarD} {r : RunD} {j : Nat} {x : BarD} (hj : idx (markIs r.mark) bars = (j : Int)) (hx : bars[j]? = some x) (h2 : turnOk r.tx r.ty = true) (h3 : 1 ≤ r.count) (h4 : r.count ≤ 1000) (h5 : nearBy 1048576 r.place = true) :
    runOk bars r = (stepOk r && ((turnedOf r x).all (nearAt r 0) && ((turnedOf r x).all (nearAt r (r.count - 1)) && true))) := by
  rw [runOk, runHead, runPts, runPts, runBar_of hj hx, hj, h2, h5, decide_eq_true h3, decide_eq_true h4, decide_eq_true (show (0 : Int) ≤ (j : Int) by omega)]
  simp only [Bool.true_and, Bool.and_true]
  rw [ptsOf_turned, ptsOf_turned, List.all_map, List.all_map, Bool.and_assoc]
  rfl
def rest2 (na : Int → Pt → Bool) (tl : List Pt) (cnt : Int) : Nat → Bool
  | 0 => tl.all (na 0) && (tl.all (na (cnt - 1)) && true)
  | 1 => tl.all (na (cnt - 1)) && true
  | _ => true
set_option maxHeartbeats 4000000 in
set_option maxRecDepth 100000 in
theorem right_any (A : Option Addr) (bars : List BarD) (n c : Nat) (r : RunD) (w : World) {B : Nat} (h : BarsAt w B A bars) (hB : B ≤ w.heap.size) (hn : n = bars.length) (hm : n ≤ 60000) (htame : Tame bars) (hall : ∀ x ∈ bars, barOk x = true) :
    Calls Tryz.prog 123 #[.slice A n c, runV r] w fun e w' => e = .returned (.bool (runOk bars r)) ∧ Below w.heap.size w w' := by
  have HF := fun (W : World) (hz : Below w.heap.size w W) => laidFind_any A bars n c r.mark W (h.carry (hz.mono hB) (Nat.le_refl _)) (Nat.le_trans hB hz.size) hn hm
  by_cases hno : idx (markIs r.mark) bars < 0
  · have hres := hide (show runOk bars r = false by rw [runOk, runHead, decide_eq_false (by omega)]; rfl)
    have d0 : decide (idx (markIs r.mark) bars < 0) = true := by simpa using hno
    generalize runOk bars r = res at *
    obtain ⟨mark, tx, ty, ⟨a1, a2, a3⟩, ⟨s1, s2, s3⟩, cnt⟩ := r
    simp only at HF d0
    generalize idx (markIs mark) bars = ix at *
    have HF := hide HF
    have HW := hide (below_new w (.cells #[.string mark, .int .i64 tx, .int .i64 ty, .int .i64 a1, .int .i64 a2, .int .i64 a3, .int .i64 s1, .int .i64 s2, .int .i64 s3, .int .i64 cnt] 120))
    clear h hB hn hm htame hall hno
    show Calls Tryz.prog 123 #[.slice A n c, .agg #[.string mark, .int .i64 tx, .int .i64 ty, .int .i64 a1, .int .i64 a2, .int .i64 a3, .int .i64 s1, .int .i64 s2, .int .i64 s3, .int .i64 cnt]] w _
    go_enter Tryz.func123, Tryz.ntmps123
    go_wp2_with fail
    refine (HF.out _ HW.out).mono ?_
    rintro e w2 ⟨rfl, hb2⟩
    have HW2 := hide (below_step HW.out hb2 (Nat.le_refl _))
    clear hb2 HF
    go_wp2_with fail
    go_ret
    exact ⟨ret_bool hres.out.symm, HW2.out⟩
  obtain ⟨j, hj⟩ := Int.eq_ofNat_of_zero_le (show 0 ≤ idx (markIs r.mark) bars by omega)
  have hrange := idx_range (markIs r.mark) bars
  obtain ⟨x, hx⟩ : ∃ x, bars[j]? = some x := ⟨_, List.getElem?_eq_getElem (by omega)⟩
  have hok := hall x (mem_of_get hx)
  have HV := hide (fun (W : World) => frameValid_any r.tx r.ty W)
  have HI := hide (fun (W : World) => isPlace_any r.place 1048576 W (by omega))
  have HI2 := hide (fun (W : World) => isPlace_any r.step 2097152 W (by omega))
  rw [hj] at HF
  have HF := hide HF
  -- the head fails
  by_cases hhead : turnOk r.tx r.ty = true ∧ 1 ≤ r.count ∧ r.count ≤ 1000 ∧ nearBy 1048576 r.place = true
  rotate_left
  · have hres := hide (show runOk bars r = false by
      rw [runOk, runHead]
      cases q2 : turnOk r.tx r.ty
      · simp
      by_cases q3 : 1 ≤ r.count
      · by_cases q4 : r.count ≤ 1000
        · cases q5 : nearBy 1048576 r.place
          · simp
          · exact absurd ⟨q2, q3, q4, q5⟩ hhead
        · simp [q4]
      · simp [q3])
    have hways : turnOk r.tx r.ty = false ∨ (turnOk r.tx r.ty = true ∧ decide (r.count < 1) = true) ∨ (turnOk r.tx r.ty = true ∧ decide (r.count < 1) = false ∧ decide (1000 < r.count) = true) ∨ (turnOk r.tx r.ty = true ∧ decide (r.count < 1) = false ∧ decide (1000 < r.count) = false ∧ nearBy 1048576 r.place = false) := by
      cases q2 : turnOk r.tx r.ty
      · exact .inl rfl
      right
      by_cases q3 : r.count < 1
      · exact .inl ⟨rfl, by simpa using q3⟩
      right
      by_cases q4 : 1000 < r.count
      · exact .inl ⟨rfl, by simpa using q3, by simpa using q4⟩
      right
      refine ⟨rfl, by simpa using q3, by simpa using q4, ?_⟩
      cases q5 : nearBy 1048576 r.place
      · rfl
      · exact absurd ⟨q2, by omega, by omega, q5⟩ hhead
    generalize runOk bars r = res at *
    obtain ⟨mark, tx, ty, ⟨a1, a2, a3⟩, ⟨s1, s2, s3⟩, cnt⟩ := r
    simp only at HF HV HI HI2 hways
    have B0 := hide (Blk.new w 120 #[.string mark, .int .i64 tx, .int .i64 ty, .int .i64 a1, .int .i64 a2, .int .i64 a3, .int .i64 s1, .int .i64 s2, .int .i64 s3, .int .i64 cnt])
    have HW := hide (below_new w (.cells #[.string mark, .int .i64 tx, .int .i64 ty, .int .i64 a1, .int .i64 a2, .int .i64 a3, .int .i64 s1, .int .i64 s2, .int .i64 s3, .int .i64 cnt] 120))
    clear h hB hn hm htame hall hno hj hrange hx hok hhead HI2
    rcases hways with q0 | ⟨q0, q1⟩ | ⟨q0, q1, q2⟩ | ⟨q0, q1, q2, q3⟩
    · rw [q0] at HV
      clear q0 HI
      show Calls Tryz.prog 123 #[.slice A n c, .agg #[.string mark, .int .i64 tx, .int .i64 ty, .int .i64 a1, .int .i64 a2, .int .i64 a3, .int .i64 s1, .int .i64 s2, .int .i64 s3, .int .i64 cnt]] w _
      go_enter Tryz.func123, Tryz.ntmps123
      go_wp2_with fail
      refine (HF.out _ HW.out).mono ?_
      rintro e w2 ⟨rfl, hb2⟩
      have HW2 := hide (below_step HW.out hb2 (Nat.le_refl _))
      have k0 := B0.out.keep hb2
      have K0 := hide k0
      have e1 := k0.cell 1
      have e2 := k0.cell 2
      have i0 : decide ((j : Int) < 0) = false := by simp
      simp at e1 e2
      clear hb2 HF k0
      go_wp2_with fail
      refine (HV.out _).mono ?_
      rintro e w3 ⟨rfl, hb3⟩
      have HW3 := hide (below_step HW2.out hb3 (Nat.le_refl _))
      have k0 := K0.out.keep hb3
      have K0 := hide k0
      have e3 := k0.cell 3
      have e4 := k0.cell 4
      have e5 := k0.cell 5
      have e9 := k0.cell 9
      simp at e3 e4 e5 e9
      clear hb3 HV k0 e1 e2
      go_wp2_with fail
      go_ret
      exact ⟨ret_bool hres.out.symm, HW3.out⟩
    · rw [q0] at HV
      clear q0 HI
      show Calls Tryz.prog 123 #[.slice A n c, .agg #[.string mark, .int .i64 tx, .int .i64 ty, .int .i64 a1, .int .i64 a2, .int .i64 a3, .int .i64 s1, .int .i64 s2, .int .i64 s3, .int .i64 cnt]] w _
      go_enter Tryz.func123, Tryz.ntmps123
      go_wp2_with fail
      refine (HF.out _ HW.out).mono ?_
      rintro e w2 ⟨rfl, hb2⟩
      have HW2 := hide (below_step HW.out hb2 (Nat.le_refl _))
      have k0 := B0.out.keep hb2
      have K0 := hide k0
      have e1 := k0.cell 1
      have e2 := k0.cell 2
      have i0 : decide ((j : Int) < 0) = false := by simp
      simp at e1 e2
      clear hb2 HF k0
      go_wp2_with fail
      refine (HV.out _).mono ?_
      rintro e w3 ⟨rfl, hb3⟩
      have HW3 := hide (below_step HW2.out hb3 (Nat.le_refl _))
      have k0 := K0.out.keep hb3
      have K0 := hide k0
      have e3 := k0.cell 3
      have e4 := k0.cell 4
      have e5 := k0.cell 5
      have e9 := k0.cell 9
      simp at e3 e4 e5 e9
      clear hb3 HV k0 e1 e2
      go_wp2_with fail
      go_ret
      exact ⟨ret_bool hres.out.symm, HW3.out⟩
    · rw [q0] at HV
      clear q0 HI
      show Calls Tryz.prog 123 #[.slice A n c, .agg #[.string mark, .int .i64 tx, .int .i64 ty, .int .i64 a1, .int .i64 a2, .int .i64 a3, .int .i64 s1, .int .i64 s2, .int .i64 s3, .int .i64 cnt]] w _
      go_enter Tryz.func123, Tryz.ntmps123
      go_wp2_with fail
      refine (HF.out _ HW.out).mono ?_
      rintro e w2 ⟨rfl, hb2⟩
      have HW2 := hide (below_step HW.out hb2 (Nat.le_refl _))
      have k0 := B0.out.keep hb2
      have K0 := hide k0
      have e1 := k0.cell 1
      have e2 := k0.cell 2
      have i0 : decide ((j : Int) < 0) = false := by simp
      simp at e1 e2
      clear hb2 HF k0
      go_wp2_with fail
      refine (HV.out _).mono ?_
      rintro e w3 ⟨rfl, hb3⟩
      have HW3 := hide (below_step HW2.out hb3 (Nat.le_refl _))
      have k0 := K0.out.keep hb3
      have K0 := hide k0
      have e3 := k0.cell 3
      have e4 := k0.cell 4
      have e5 := k0.cell 5
      have e9 := k0.cell 9
      simp at e3 e4 e5 e9
      clear hb3 HV k0 e1 e2
      go_wp2_with fail
      go_ret
      exact ⟨ret_bool hres.out.symm, HW3.out⟩
    · rw [q0] at HV
      rw [q3] at HI
      clear q0 q3
      show Calls Tryz.prog 123 #[.slice A n c, .agg #[.string mark, .int .i64 tx, .int .i64 ty, .int .i64 a1, .int .i64 a2, .int .i64 a3, .int .i64 s1, .int .i64 s2, .int .i64 s3, .int .i64 cnt]] w _
      go_enter Tryz.func123, Tryz.ntmps123
      go_wp2_with fail
      refine (HF.out _ HW.out).mono ?_
      rintro e w2 ⟨rfl, hb2⟩
      have HW2 := hide (below_step HW.out hb2 (Nat.le_refl _))
      have k0 := B0.out.keep hb2
      have K0 := hide k0
      have e1 := k0.cell 1
      have e2 := k0.cell 2
      have i0 : decide ((j : Int) < 0) = false := by simp
      simp at e1 e2
      clear hb2 HF k0
      go_wp2_with fail
      refine (HV.out _).mono ?_
      rintro e w3 ⟨rfl, hb3⟩
      have HW3 := hide (below_step HW2.out hb3 (Nat.le_refl _))
      have k0 := K0.out.keep hb3
      have K0 := hide k0
      have e3 := k0.cell 3
      have e4 := k0.cell 4
      have e5 := k0.cell 5
      have e9 := k0.cell 9
      simp at e3 e4 e5 e9
      clear hb3 HV k0 e1 e2
      go_wp2_with fail
      refine (HI.out _).mono ?_
      rintro e w4 ⟨rfl, hb4⟩
      have HW4 := hide (below_step HW3.out hb4 (Nat.le_refl _))
      clear hb4 HI
      go_wp2_with fail
      go_ret
      exact ⟨ret_bool hres.out.symm, HW4.out⟩
  obtain ⟨h2, h3, h4, h5⟩ := hhead
  have hro := runOk_of hj hx h2 h3 h4 h5
  have hways : decide (r.count < 1) = false ∧ decide (1000 < r.count) = false := by simp; omega
  rw [h2] at HV
  rw [h5] at HI
  have HT := hide (fun (W : World) (hz : Below w.heap.size w W) => turned_ok A bars n c r x j W (h.carry (hz.mono hB) (Nat.le_refl _)) (Nat.le_trans hB hz.size) hn hm htame hj hx hok h2)
  have HTn := hide (turned_near hok h2)
  have HPl := hide (fun (q : Pt) (k : Int) => (show placeOf r k q = addP (addP q r.place) (mulP k r.step) from rfl))
  have Hna := hide (fun (k : Int) (q : Pt) => (show nearAt r k q = nearBy 1048576 (placeOf r k q) from rfl))
  have Hro := hide hro
  have Hpl := hide h5
  have Htl7 := hide (show (turnedOf r x).length ≤ 7 by rw [turnedOf_len, pathOf_len]; have := legsOf_len x.code; omega)
  have Hst := hide (show stepOk r = (decide (r.count ≤ 1) || (!noStep r.step && nearBy 2097152 r.step)) from rfl)
  generalize runOk bars r = res at *
  generalize placeOf r = pl at *
  generalize nearAt r = na at *
  generalize stepOk r = so at *
  generalize turnedOf r x = tl at *
  obtain ⟨mark, tx, ty, ⟨a1, a2, a3⟩, ⟨s1, s2, s3⟩, cnt⟩ := r
  simp only at HF HV HI HI2 hways
  have B0 := hide (Blk.new w 120 #[.string mark, .int .i64 tx, .int .i64 ty, .int .i64 a1, .int .i64 a2, .int .i64 a3, .int .i64 s1, .int .i64 s2, .int .i64 s3, .int .i64 cnt])
  have HW := hide (below_new w (.cells #[.string mark, .int .i64 tx, .int .i64 ty, .int .i64 a1, .int .i64 a2, .int .i64 a3, .int .i64 s1, .int .i64 s2, .int .i64 s3, .int .i64 cnt] 120))
  obtain ⟨q1, q2⟩ := hways
  simp only at HT HPl Hro Hst h3 h4
  clear h hB hn hm htame hall hno hj hrange hx hok h2 h5 hro
  show Calls Tryz.prog 123 #[.slice A n c, .agg #[.string mark, .int .i64 tx, .int .i64 ty, .int .i64 a1, .int .i64 a2, .int .i64 a3, .int .i64 s1, .int .i64 s2, .int .i64 s3, .int .i64 cnt]] w _
  go_enter Tryz.func123, Tryz.ntmps123
  go_wp2_with fail
  refine (HF.out _ HW.out).mono ?_
  rintro e w2 ⟨rfl, hb2⟩
  have HW2 := hide (below_step HW.out hb2 (Nat.le_refl _))
  have k0 := B0.out.keep hb2
  have K0 := hide k0
  have e1 := k0.cell 1
  have e2 := k0.cell 2
  have i0 : decide ((j : Int) < 0) = false := by simp
  simp at e1 e2
  clear hb2 HF k0
  go_wp2_with fail
  refine (HV.out _).mono ?_
  rintro e w3 ⟨rfl, hb3⟩
  have HW3 := hide (below_step HW2.out hb3 (Nat.le_refl _))
  have k0 := K0.out.keep hb3
  have K0 := hide k0
  have e3 := k0.cell 3
  have e4 := k0.cell 4
  have e5 := k0.cell 5
  have e9 := k0.cell 9
  simp at e3 e4 e5 e9
  clear hb3 HV k0 e1 e2
  go_wp2_with fail
  refine (HI.out _).mono ?_
  rintro e w4 ⟨rfl, hb4⟩
  have HW4 := hide (below_step HW3.out hb4 (Nat.le_refl _))
  have k0 := K0.out.keep hb4
  have K0 := hide k0
  have e6 := k0.cell 6
  have e7 := k0.cell 7
  have e8 := k0.cell 8
  have e9 := k0.cell 9
  simp at e6 e7 e8 e9
  clear hb4 HI k0 e3 e4 e5
  go_upto_region 3 with fail
  go_cut [52] from 38 (fun v W => v = .bool (!so) ∧ Below w4.heap.size w4 W)
  case first =>
    by_cases hc1 : 1 < cnt
    · have d1 : decide (1 < cnt) = true := by simpa using hc1
      have Hso := hide (show so = (!noStep (s1, s2, s3) && nearBy 2097152 (s1, s2, s3)) by rw [Hst.out, decide_eq_false (by omega)]; rfl)
      by_cases z0 : s1 = 0 ∧ s2 = 0 ∧ s3 = 0
      · obtain ⟨rfl, rfl, rfl⟩ := z0
        have Hs2 := hide (show (!so) = true by rw [Hso.out]; rfl)
        clear Hso Hst HI2 HT HPl Hna Hro
        go_wp2_with fail
        go_meet
        exact ⟨by rw [Hs2.out], Below.refl _ _⟩
      · have hns : noStep (s1, s2, s3) = false := by
          rw [Bool.eq_false_iff]
          intro hq
          simp only [noStep, Bool.and_eq_true, decide_eq_true_eq] at hq
          exact z0 ⟨hq.1.1, hq.1.2, hq.2⟩
        have Hs2 := hide (show (!so) = !(nearBy 2097152 (s1, s2, s3)) by rw [Hso.out, hns]; rfl)
        obtain ⟨nb, hnb⟩ : ∃ nb, nb = nearBy 2097152 (s1, s2, s3) := ⟨_, rfl⟩
        rw [← hnb] at Hs2 HI2
        clear hnb Hso Hst HT HPl Hna Hro hns
        have Hz0 := hide z0
        clear z0
        go_wp2_with fail
        all_goals subst_vars
        · exact absurd ⟨rfl, rfl, rfl⟩ Hz0.out
        all_goals
          refine (HI2.out _).mono ?_
          rintro e w5 ⟨rfl, hb5⟩
          clear HI2
          go_wp2_with fail
          go_meet
          exact ⟨by rw [Hs2.out], hb5⟩
    · have d1 : decide (1 < cnt) = false := by simpa using hc1
      have Hso := hide (show so = true by rw [Hst.out, decide_eq_true (by omega)]; rfl)
      go_wp2_with fail
      go_meet
      exact ⟨by rw [Hso.out]; rfl, Below.refl _ _⟩
  case rest =>
    obtain ⟨rfl, hbc⟩ := hcut
    have HWc := hide (below_step HW4.out hbc (Nat.le_refl _))
    have K0 := hide (K0.out.keep hbc)
    clear hbc HI2 e6 e7 e8 e9
    cases so
    · have hres := hide (show res = false by rw [Hro.out]; rfl)
      clear HT HPl Hna Hro
      go_wp2_with fail
      go_ret
      exact ⟨ret_bool hres.out.symm, HWc.out⟩
    have HTc := hide (HT.out _ HWc.out)
    have r0 := K0.out.cell 0
    have r1 := K0.out.cell 1
    have r2 := K0.out.cell 2
    have r3 := K0.out.cell 3
    have r4 := K0.out.cell 4
    have r5 := K0.out.cell 5
    have r6 := K0.out.cell 6
    have r7 := K0.out.cell 7
    have r8 := K0.out.cell 8
    have r9 := K0.out.cell 9
    simp at r0 r1 r2 r3 r4 r5 r6 r7 r8 r9
    have Hstep := hide (fun (hc : 1 < cnt) => (show nearBy 2097152 (s1, s2, s3) = true by
      have h9 := Hst.out
      rw [decide_eq_false (by omega), Bool.false_or] at h9
      exact (Bool.and_eq_true_iff.1 h9.symm).2))
    have Hr0 := hide (show res = (tl.all (na 0) && (tl.all (na (cnt - 1)) && true)) by rw [Hro.out]; rfl)
    clear HT Hro Hst
    go_wp2_with fail
    refine HTc.out.mono ?_
    rintro e w6 ⟨A5, c5, rfl, hpts, hb6⟩
    have HW6 := hide (below_step HWc.out hb6 (Nat.le_refl _))
    have k0 := K0.out.keep hb6
    have e9 := k0.cell 9
    simp at e9
    have K0 := hide k0
    have Hpts := hide hpts
    have sw : IntKind.i64.wrap (cnt - 1) = cnt - 1 := IntWalk.i64_in _ (by omega)
    have hl0 := k0.lt
    obtain ⟨ln, hln⟩ : ∃ ln, ln = tl.length := ⟨_, rfl⟩
    rw [← hln]
    have hln7 : ln ≤ 7 := by rw [hln]; exact Htl7.out
    have Hln := hide hln
    clear hb6 hpts HTc k0 hln r0 r1 r2 r3 r4 r5 r6 r7 r8 r9
    go_wp2_with fail
    have ks := Blk.new w6 3 #[.int .i64 0, .int .i64 (cnt - 1)]
    have h67 := below_new w6 (.cells #[.int .i64 0, .int .i64 (cnt - 1)] 3)
    obtain ⟨w7, hw7⟩ : ∃ w7, w7 = w6.alloc (.cells #[.int .i64 0, .int .i64 (cnt - 1)] 3) := ⟨_, rfl⟩
    rw [← hw7] at ks h67 ⊢
    have KS0 := hide ks
    have H67 := hide h67
    clear ks h67 hw7 e9 sw
    go_loopw [61] (fun i wr => ∃ k : Nat, k ≤ 2 ∧ i = .int .i64 k ∧ Hid (res = rest2 na tl cnt k) ∧ Below w7.heap.size w7 wr) (fun i _ => 2 - (intOf i).toNat)
    case atStart => exact ⟨0, by omega, rfl, Hr0, Below.refl _ _⟩
    case round =>
      clear Hr0
      obtain ⟨k, hk, rfl, hres, hbo⟩ := hrel
      have KS := hide (KS0.out.below hbo KS0.out.lt)
      have hq := hres.out
      rcases k with _ | _ | _ | k
      · have u0 := KS.out.cell 0
        simp at u0
        go_wp2_with fail
        go_loopw [67] (fun i wi => ∃ m : Nat, m ≤ ln ∧ i = .int .i64 m ∧ Hid (res = ((tl.drop m).all (na (0)) && (tl.all (na (cnt - 1)) && true))) ∧ Below w7.heap.size w7 wi) (fun i _ => ln - (intOf i).toNat)
        case atStart => exact ⟨0, Nat.zero_le _, rfl, hide hq, hbo⟩
        case round =>
          clear u0 hq hbo KS
          obtain ⟨m, hm, rfl, hq, hbi⟩ := hrel
          have HWi := hide (H67.out.trans (hbi.mono H67.out.size))
          by_cases hmt : m < ln
          · obtain ⟨bq, oq, ⟨x1, x2, x3⟩, rfl, hbl, hxq, p0, p1, p2⟩ := PtsAt.get (k := m) (Hpts.out.carry (Flat.carried _) HWi.out (Nat.le_refl _)) (by rw [← Hln.out]; exact hmt)
            have kk := (K0.out.below HWi.out K0.out.lt)
            have e3 := kk.cell 3
            have e4 := kk.cell 4
            have e5 := kk.cell 5
            have e6 := kk.cell 6
            have e7 := kk.cell 7
            have e8 := kk.cell 8
            simp at e3 e4 e5 e6 e7 e8
            have hkl := kk.lt
            have hbq : bq < wr.heap.size := by have := HWi.out.size; omega
            have Hq2 := hide (hq.out.trans (by rw [drop_at' hxq, List.all_cons, Hna.out, HPl.out]))
            have Hxn := hide (HTn.out _ (mem_of_get hxq))
            have HP1 := hide (fun (W : World) => plus_any (x1, x2, x3) (a1, a2, a3) 1 W (nearBy_mono (HTn.out _ (mem_of_get hxq)) (by omega)) (by rw [mulP_one]; exact nearBy_mono Hpl.out (by omega)))
            simp only at p0 p1 p2
            clear hq hxq hbl kk
            go_wp2_with fail
            refine (HP1.out _).mono ?_
            rintro e wj ⟨q1, rfl, hq1, hbj⟩
            have hwrj := ((below_new wr (.cells #[.int .i64 x1, .int .i64 x2, .int .i64 x3] 49)).trans (hbj.mono (by simp)))
            have HWj := hide (below_step HWi.out hwrj (Nat.le_refl _))
            have Hbj := hide (below_step hbi hwrj (Nat.le_refl _))
            have hzz := hq1.out
            rw [mulP_one] at hzz
            rw [← hzz] at Hq2
            have Hzz := hide hzz
            obtain ⟨z1, z2, z3⟩ := q1
            clear hbj hq1 hwrj e3 e4 e5 e6 e7 e8 p0 p1 p2 HP1 hzz
            have Hq3 := hide (show res = (nearBy 1048576 (z1, z2, z3) && ((tl.drop (m + 1)).all (na (0)) && (tl.all (na (cnt - 1)) && true))) by rw [Hq2.out, addP_mul0, Bool.and_assoc])
            have HI3 := hide (fun (W : World) => isPlace_any (z1, z2, z3) 1048576 W (by omega))
            obtain ⟨nb, hnb⟩ : ∃ nb, nb = nearBy 1048576 (z1, z2, z3) := ⟨_, rfl⟩
            rw [← hnb] at Hq3 HI3
            have HWk := hide (HWj.out.alloc HWj.out.size (.cells #[.int .i64 z1, .int .i64 z2, .int .i64 z3] 49))
            have Hbk := hide (Hbj.out.alloc Hbj.out.size (.cells #[.int .i64 z1, .int .i64 z2, .int .i64 z3] 49))
            clear hnb Hq2 Hzz
            go_wp2_with fail
            refine (HI3.out _).mono ?_
            rintro e wl ⟨rfl, hbl2⟩
            have Hbl := hide (below_step Hbk.out hbl2 (Nat.le_refl _))
            have HWl := hide (below_step HWk.out hbl2 (Nat.le_refl _))
            clear hbl2 HI3 HWj Hbj HWk Hbk
            cases nb
            · have hres2 := hide (show res = false by rw [Hq3.out]; rfl)
              go_wp2_with fail
              go_ret
              exact ⟨ret_bool hres2.out.symm, below_step HW6.out HWl.out (Nat.le_refl _)⟩
            · have Hq4 := hide (Hq3.out.trans (Bool.true_and _))
              clear Hq3
              go_wp2_with fail
              go_roundw
              case rel => (first | exact ⟨m + 1, by omega, by go_num, Hq4, Hbl.out⟩ | ((repeat apply Exists.intro); exact ⟨⟨m + 1, by omega, by go_num, Hq4, Hbl.out⟩, rfl⟩))
              case measure => simp [intOf]; omega
          · obtain rfl : m = ln := by omega
            have hend := hide (show res = (tl.all (na (cnt - 1)) && true) by rw [hq.out, Hln.out, List.drop_length]; rfl)
            have Hbi := hide hbi
            clear hq hbi
            go_wp2_with fail
            go_roundw
            case rel => (first | exact ⟨1, by omega, by go_num, hend, Hbi.out⟩ | ((repeat apply Exists.intro); exact ⟨⟨1, by omega, by go_num, hend, Hbi.out⟩, rfl⟩))
            case measure => simp [intOf]
      · by_cases hc1 : 1 < cnt
        · have u0 := KS.out.cell 1
          simp at u0
          go_wp2_with fail
          go_loopw [67] (fun i wi => ∃ m : Nat, m ≤ ln ∧ i = .int .i64 m ∧ Hid (res = ((tl.drop m).all (na (cnt - 1)) && true)) ∧ Below w7.heap.size w7 wi) (fun i _ => ln - (intOf i).toNat)
          case atStart => exact ⟨0, Nat.zero_le _, rfl, hide hq, hbo⟩
          case round =>
            clear u0 hq hbo KS
            obtain ⟨m, hm, rfl, hq, hbi⟩ := hrel
            have HWi := hide (H67.out.trans (hbi.mono H67.out.size))
            by_cases hmt : m < ln
            · obtain ⟨bq, oq, ⟨x1, x2, x3⟩, rfl, hbl, hxq, p0, p1, p2⟩ := PtsAt.get (k := m) (Hpts.out.carry (Flat.carried _) HWi.out (Nat.le_refl _)) (by rw [← Hln.out]; exact hmt)
              have kk := (K0.out.below HWi.out K0.out.lt)
              have e3 := kk.cell 3
              have e4 := kk.cell 4
              have e5 := kk.cell 5
              have e6 := kk.cell 6
              have e7 := kk.cell 7
              have e8 := kk.cell 8
              simp at e3 e4 e5 e6 e7 e8
              have hkl := kk.lt
              have hbq : bq < wr.heap.size := by have := HWi.out.size; omega
              have Hq2 := hide (hq.out.trans (by rw [drop_at' hxq, List.all_cons, Hna.out, HPl.out]))
              have Hxn := hide (HTn.out _ (mem_of_get hxq))
              have HP1 := hide (fun (W : World) => plus_any (x1, x2, x3) (a1, a2, a3) 1 W (nearBy_mono (HTn.out _ (mem_of_get hxq)) (by omega)) (by rw [mulP_one]; exact nearBy_mono Hpl.out (by omega)))
              simp only at p0 p1 p2
              clear hq hxq hbl kk
              go_wp2_with fail
              refine (HP1.out _).mono ?_
              rintro e wj ⟨q1, rfl, hq1, hbj⟩
              have hwrj := ((below_new wr (.cells #[.int .i64 x1, .int .i64 x2, .int .i64 x3] 49)).trans (hbj.mono (by simp)))
              have HWj := hide (below_step HWi.out hwrj (Nat.le_refl _))
              have Hbj := hide (below_step hbi hwrj (Nat.le_refl _))
              have hzz := hq1.out
              rw [mulP_one] at hzz
              rw [← hzz] at Hq2
              have Hzz := hide hzz
              obtain ⟨z1, z2, z3⟩ := q1
              clear hbj hq1 hwrj e3 e4 e5 e6 e7 e8 p0 p1 p2 HP1 hzz
              have HP2 := hide (fun (W : World) => plus_any (z1, z2, z3) (s1, s2, s3) (cnt - 1) W (by rw [Hzz.out]; exact nearBy_sum Hxn.out Hpl.out) (step_near (Hstep.out hc1) (by omega) (by omega)))
              have dk : decide (0 < cnt - 1) = true := by simp; omega
              have kk := K0.out.below HWj.out K0.out.lt
              have f6 := kk.cell 6
              have f7 := kk.cell 7
              have f8 := kk.cell 8
              simp at f6 f7 f8
              have hkl2 := kk.lt
              have KT := hide (Blk.new wj 49 #[.int .i64 z1, .int .i64 z2, .int .i64 z3])
              have HWk := hide (HWj.out.alloc HWj.out.size (.cells #[.int .i64 z1, .int .i64 z2, .int .i64 z3] 49))
              have Hbk := hide (Hbj.out.alloc Hbj.out.size (.cells #[.int .i64 z1, .int .i64 z2, .int .i64 z3] 49))
              have hwj7 := hide Hbj.out.size
              have hwj6 := hide HWj.out.size
              clear kk
              go_wp2_with fail
              refine (HP2.out _).mono ?_
              rintro e wk ⟨q2, rfl, hq2, hbk⟩
              have kt := KT.out.keep hbk
              have t0 := kt.cell 0
              have t1 := kt.cell 1
              have t2 := kt.cell 2
              have t3 := kt.frozen 0
              have t4 := kt.frozen 1
              have t5 := kt.frozen 2
              simp at t0 t1 t2
              have HWl := hide (below_step HWk.out hbk (Nat.le_refl _))
              have Hbl := hide (below_step Hbk.out hbk (Nat.le_refl _))
              have h2 := hq2.out
              rw [Hzz.out] at h2
              have Hq3 := hide (show res = (nearBy 1048576 q2 && ((tl.drop (m + 1)).all (na (cnt - 1)) && true)) by rw [Hq2.out, Bool.and_assoc, h2, Hzz.out])
              obtain ⟨y1, y2, y3⟩ := q2
              have HI3 := hide (fun (W : World) => isPlace_any (y1, y2, y3) 1048576 W (by omega))
              obtain ⟨nb, hnb⟩ : ∃ nb, nb = nearBy 1048576 (y1, y2, y3) := ⟨_, rfl⟩
              rw [← hnb] at Hq3 HI3
              clear hnb Hq2 Hzz h2 hq2 hbk kt f6 f7 f8 HP2 KT HWj Hbj HWk Hbk
              go_wp2_with fail
              refine (HI3.out _).mono ?_
              rintro e wl ⟨rfl, hbl2⟩
              have HWm := hide (below_step (((HWl.out.setCell (p := ⟨wj.heap.size, 0, none⟩) hwj6.out (.int .i64 y1)).setCell (p := ⟨wj.heap.size, 1, none⟩) hwj6.out (.int .i64 y2)).setCell (p := ⟨wj.heap.size, 2, none⟩) hwj6.out (.int .i64 y3)) hbl2 (Nat.le_refl _))
              have Hbm := hide (below_step (((Hbl.out.setCell (p := ⟨wj.heap.size, 0, none⟩) hwj7.out (.int .i64 y1)).setCell (p := ⟨wj.heap.size, 1, none⟩) hwj7.out (.int .i64 y2)).setCell (p := ⟨wj.heap.size, 2, none⟩) hwj7.out (.int .i64 y3)) hbl2 (Nat.le_refl _))
              clear hbl2 HI3 HWl Hbl t0 t1 t2 t3 t4 t5
              cases nb
              · have hres2 := hide (show res = false by rw [Hq3.out]; rfl)
                go_wp2_with fail
                go_ret
                exact ⟨ret_bool hres2.out.symm, below_step HW6.out HWm.out (Nat.le_refl _)⟩
              · have Hq4 := hide (Hq3.out.trans (Bool.true_and _))
                clear Hq3
                go_wp2_with fail
                go_roundw
                case rel => (first | exact ⟨m + 1, by omega, by go_num, Hq4, Hbm.out⟩ | ((repeat apply Exists.intro); exact ⟨⟨m + 1, by omega, by go_num, Hq4, Hbm.out⟩, rfl⟩))
                case measure => simp [intOf]; omega
            · obtain rfl : m = ln := by omega
              have hend := hide (show res = true by rw [hq.out, Hln.out, List.drop_length]; rfl)
              have Hbi := hide hbi
              clear hq hbi
              go_wp2_with fail
              go_roundw
              case rel => (first | exact ⟨2, by omega, by go_num, hend, Hbi.out⟩ | ((repeat apply Exists.intro); exact ⟨⟨2, by omega, by go_num, hend, Hbi.out⟩, rfl⟩))
              case measure => simp [intOf]
        · have hk0 : cnt - 1 = 0 := by omega
          have hq0 : res = (tl.all (na 0) && true) := by rw [← hk0]; exact hq
          rw [hk0] at KS
          clear hq hk0
          have hq := hq0
          clear hq0
          have u0 := KS.out.cell 1
          simp at u0
          go_wp2_with fail
          go_loopw [67] (fun i wi => ∃ m : Nat, m ≤ ln ∧ i = .int .i64 m ∧ Hid (res = ((tl.drop m).all (na (0)) && true)) ∧ Below w7.heap.size w7 wi) (fun i _ => ln - (intOf i).toNat)
          case atStart => exact ⟨0, Nat.zero_le _, rfl, hide hq, hbo⟩
          case round =>
            clear u0 hq hbo KS
            obtain ⟨m, hm, rfl, hq, hbi⟩ := hrel
            have HWi := hide (H67.out.trans (hbi.mono H67.out.size))
            by_cases hmt : m < ln
            · obtain ⟨bq, oq, ⟨x1, x2, x3⟩, rfl, hbl, hxq, p0, p1, p2⟩ := PtsAt.get (k := m) (Hpts.out.carry (Flat.carried _) HWi.out (Nat.le_refl _)) (by rw [← Hln.out]; exact hmt)
              have kk := (K0.out.below HWi.out K0.out.lt)
              have e3 := kk.cell 3
              have e4 := kk.cell 4
              have e5 := kk.cell 5
              have e6 := kk.cell 6
              have e7 := kk.cell 7
              have e8 := kk.cell 8
              simp at e3 e4 e5 e6 e7 e8
              have hkl := kk.lt
              have hbq : bq < wr.heap.size := by have := HWi.out.size; omega
              have Hq2 := hide (hq.out.trans (by rw [drop_at' hxq, List.all_cons, Hna.out, HPl.out]))
              have Hxn := hide (HTn.out _ (mem_of_get hxq))
              have HP1 := hide (fun (W : World) => plus_any (x1, x2, x3) (a1, a2, a3) 1 W (nearBy_mono (HTn.out _ (mem_of_get hxq)) (by omega)) (by rw [mulP_one]; exact nearBy_mono Hpl.out (by omega)))
              simp only at p0 p1 p2
              clear hq hxq hbl kk
              go_wp2_with fail
              refine (HP1.out _).mono ?_
              rintro e wj ⟨q1, rfl, hq1, hbj⟩
              have hwrj := ((below_new wr (.cells #[.int .i64 x1, .int .i64 x2, .int .i64 x3] 49)).trans (hbj.mono (by simp)))
              have HWj := hide (below_step HWi.out hwrj (Nat.le_refl _))
              have Hbj := hide (below_step hbi hwrj (Nat.le_refl _))
              have hzz := hq1.out
              rw [mulP_one] at hzz
              rw [← hzz] at Hq2
              have Hzz := hide hzz
              obtain ⟨z1, z2, z3⟩ := q1
              clear hbj hq1 hwrj e3 e4 e5 e6 e7 e8 p0 p1 p2 HP1 hzz
              have Hq3 := hide (show res = (nearBy 1048576 (z1, z2, z3) && ((tl.drop (m + 1)).all (na (0)) && true)) by rw [Hq2.out, addP_mul0, Bool.and_assoc])
              have HI3 := hide (fun (W : World) => isPlace_any (z1, z2, z3) 1048576 W (by omega))
              obtain ⟨nb, hnb⟩ : ∃ nb, nb = nearBy 1048576 (z1, z2, z3) := ⟨_, rfl⟩
              rw [← hnb] at Hq3 HI3
              have HWk := hide (HWj.out.alloc HWj.out.size (.cells #[.int .i64 z1, .int .i64 z2, .int .i64 z3] 49))
              have Hbk := hide (Hbj.out.alloc Hbj.out.size (.cells #[.int .i64 z1, .int .i64 z2, .int .i64 z3] 49))
              clear hnb Hq2 Hzz
              go_wp2_with fail
              refine (HI3.out _).mono ?_
              rintro e wl ⟨rfl, hbl2⟩
              have Hbl := hide (below_step Hbk.out hbl2 (Nat.le_refl _))
              have HWl := hide (below_step HWk.out hbl2 (Nat.le_refl _))
              clear hbl2 HI3 HWj Hbj HWk Hbk
              cases nb
              · have hres2 := hide (show res = false by rw [Hq3.out]; rfl)
                go_wp2_with fail
                go_ret
                exact ⟨ret_bool hres2.out.symm, below_step HW6.out HWl.out (Nat.le_refl _)⟩
              · have Hq4 := hide (Hq3.out.trans (Bool.true_and _))
                clear Hq3
                go_wp2_with fail
                go_roundw
                case rel => (first | exact ⟨m + 1, by omega, by go_num, Hq4, Hbl.out⟩ | ((repeat apply Exists.intro); exact ⟨⟨m + 1, by omega, by go_num, Hq4, Hbl.out⟩, rfl⟩))
                case measure => simp [intOf]; omega
            · obtain rfl : m = ln := by omega
              have hend := hide (show res = true by rw [hq.out, Hln.out, List.drop_length]; rfl)
              have Hbi := hide hbi
              clear hq hbi
              go_wp2_with fail
              go_roundw
              case rel => (first | exact ⟨2, by omega, by go_num, hend, Hbi.out⟩ | ((repeat apply Exists.intro); exact ⟨⟨2, by omega, by go_num, hend, Hbi.out⟩, rfl⟩))
              case measure => simp [intOf]
      · have hres2 := hide (show res = true by rw [hq]; rfl)
        go_wp2_with fail
        go_ret
        exact ⟨ret_bool hres2.out.symm, below_step HW6.out (H67.out.trans (hbo.mono H67.out.size)) (Nat.le_refl _)⟩
      · omega
end Go.Proofs.YtkmpddaobncheaaGreatDoor
