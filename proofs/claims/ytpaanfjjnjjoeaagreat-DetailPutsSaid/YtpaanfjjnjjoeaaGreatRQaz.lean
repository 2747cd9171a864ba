/- The reference of layer 16: whether a run is right; whether runs are valid. -/
import Derived.Test.YtpaanfjjnjjoeaaGreatRQay
import Derived.Test.YtpaanfjjnjjoeaaGreatRQat
namespace Go.Proofs.YtpaanfjjnjjoeaaGreat
open Go.RowKit
theorem runOk_ref {bars : List BarD} {r : RunD} {j : Nat} {x : BarD} (hj : idx (markIs r.mark) bars = (j : Int)) (hx : bars[j]? = some x) (h2 : turnOk r.tx r.ty = true) (h3 : 1 ≤ r.count) (h4 : r.count ≤ 1000) (h5 : nearBy 1048576 r.place = true) :
  runOk bars r = (stepOk r && ((ptsOf x r 0).all (nearBy 1048576) && (ptsOf x r (r.count - 1)).all (nearBy 1048576))) := by
 rw [runOk, runHead, runPts, runPts, runBar_of hj hx, hj, h2, h5, decide_eq_true h3, decide_eq_true h4, decide_eq_true (show (0 : Int) ≤ (j : Int) by omega)]
 simp only [Bool.true_and, Bool.and_true]
 rw [Bool.and_assoc]
 rfl
theorem step_far {s : Pt} {k : Int} (h : nearBy 2097152 s = true) (h0 : 0 ≤ k) (h1 : k ≤ 999) : nearBy 4294967296 (mulP k s) = true := by
 obtain ⟨a, b, c⟩ := nearBy_iff.1 h
 have key : ∀ v : Int, -2097152 ≤ v ∧ v ≤ 2097152 → -4294967296 ≤ k * v ∧ k * v ≤ 4294967296 := by
  intro v hv
  obtain ⟨f, g⟩ := mul_between (s := v) h0 h1
  rcases Int.le_total 0 v with hs | hs
  ·have := f hs; omega
  ·have := g hs; omega
 rw [nearBy_iff, mulP]
 exact ⟨key _ a, key _ b, key _ c⟩
theorem mul0_far (s : Pt) : nearBy 4294967296 (mulP 0 s) = true := by simp [mulP, nearBy_iff]
set_option maxHeartbeats 4000000 in
set_option maxRecDepth 100000 in
theorem refRun_any (A : Option Addr) (bars : List BarD) (n c : Nat) (r : RunD) (w : World) {B : Nat} (h : BarsAt w B A bars) (hB : B ≤ w.heap.size) (hn : n = bars.length) (hm : n ≤ 60000) (hall : ∀ x ∈ bars, barOk x = true) :
    Calls Tryz.prog 88 #[.slice A n c, runV r] w fun e w' => e = .returned (.bool (runOk bars r)) ∧ Below w.heap.size w w' := by
  have HF := fun (W : World) (hz : Below w.heap.size w W) => refFind_any A bars n c r.mark W (h.carry (hz.mono hB) (Nat.le_refl _)) hn hm
  by_cases hno : idx (markIs r.mark) bars < 0
  · have hres := hide (show runOk bars r = false by rw [runOk, runHead, decide_eq_false (by omega)]; rfl)
    have d0 : decide (idx (markIs r.mark) bars < 0) = true := by simpa using hno
    generalize runOk bars r = res at *
    obtain ⟨mark, tx, ty, ⟨a1, a2, a3⟩, ⟨s1, s2, s3⟩, cnt⟩ := r
    simp only at HF d0
    generalize idx (markIs mark) bars = ix at *
    have HF := hide HF
    have HW := hide (below_new w (.cells #[.string mark, .int .i64 tx, .int .i64 ty, .int .i64 a1, .int .i64 a2, .int .i64 a3, .int .i64 s1, .int .i64 s2, .int .i64 s3, .int .i64 cnt] 66))
    clear h hB hn hm hall hno
    show Calls Tryz.prog 88 #[.slice A n c, .agg #[.string mark, .int .i64 tx, .int .i64 ty, .int .i64 a1, .int .i64 a2, .int .i64 a3, .int .i64 s1, .int .i64 s2, .int .i64 s3, .int .i64 cnt]] w _
    go_enter Tryz.func88, Tryz.ntmps88
    go_wp2_with fail
    refine (HF.out _ HW.out).mono ?_
    rintro e w2 ⟨rfl, rfl⟩
    clear HF
    go_wp2_with fail
    go_ret
    exact ⟨ret_bool hres.out.symm, HW.out⟩
  obtain ⟨j, hj⟩ := Int.eq_ofNat_of_zero_le (show 0 ≤ idx (markIs r.mark) bars by omega)
  have hrange := idx_range (markIs r.mark) bars
  obtain ⟨x, hx⟩ : ∃ x, bars[j]? = some x := ⟨_, List.getElem?_eq_getElem (by omega)⟩
  have hok := hall x (mem_of_get hx)
  have HV := hide (fun (W : World) => refTurn_any r.tx r.ty W)
  have HI := hide (fun (W : World) => refNear_any r.place W)
  have HI2 := hide (fun (W : World) => refTwice_any r.step W)
  rw [hj] at HF
  have HF := hide HF
  by_cases hhead : turnOk r.tx r.ty = true ∧ 1 ≤ r.count ∧ r.count ≤ 1000 ∧ nearBy 1048576 r.place = true
  rotate_left
  · have hres := hide (show runOk bars r = false by
      rw [runOk, runHead]
      cases q2 : turnOk r.tx r.ty
      · simp
      by_cases q3 : 1 ≤ r.count
      · by_cases q4 : r.count ≤ 1000
        · cases q5 : nearBy 1048576 r.place
          · simp
          · exact absurd ⟨q2, q3, q4, q5⟩ hhead
        · simp [q4]
      · simp [q3])
    have hways : turnOk r.tx r.ty = false ∨ (turnOk r.tx r.ty = true ∧ decide (r.count < 1) = true) ∨ (turnOk r.tx r.ty = true ∧ decide (r.count < 1) = false ∧ decide (1000 < r.count) = true) ∨ (turnOk r.tx r.ty = true ∧ decide (r.count < 1) = false ∧ decide (1000 < r.count) = false ∧ nearBy 1048576 r.place = false) := by
      cases q2 : turnOk r.tx r.ty
      · exact .inl rfl
      right
      by_cases q3 : r.count < 1
      · exact .inl ⟨rfl, by simpa using q3⟩
      right
      by_cases q4 : 1000 < r.count
      · exact .inl ⟨rfl, by simpa using q3, by simpa using q4⟩
      right
      refine ⟨rfl, by simpa using q3, by simpa using q4, ?_⟩
      cases q5 : nearBy 1048576 r.place
      · rfl
      · exact absurd ⟨q2, by omega, by omega, q5⟩ hhead
    generalize runOk bars r = res at *
    obtain ⟨mark, tx, ty, ⟨a1, a2, a3⟩, ⟨s1, s2, s3⟩, cnt⟩ := r
    simp only at HF HV HI HI2 hways
    have B0 := hide (Blk.new w 66 #[.string mark, .int .i64 tx, .int .i64 ty, .int .i64 a1, .int .i64 a2, .int .i64 a3, .int .i64 s1, .int .i64 s2, .int .i64 s3, .int .i64 cnt])
    have HW := hide (below_new w (.cells #[.string mark, .int .i64 tx, .int .i64 ty, .int .i64 a1, .int .i64 a2, .int .i64 a3, .int .i64 s1, .int .i64 s2, .int .i64 s3, .int .i64 cnt] 66))
    clear h hB hn hm hall hno hj hrange hx hok hhead HI2
    rcases hways with q0 | ⟨q0, q1⟩ | ⟨q0, q1, q2⟩ | ⟨q0, q1, q2, q3⟩
    · rw [q0] at HV
      clear q0 HI
      show Calls Tryz.prog 88 #[.slice A n c, .agg #[.string mark, .int .i64 tx, .int .i64 ty, .int .i64 a1, .int .i64 a2, .int .i64 a3, .int .i64 s1, .int .i64 s2, .int .i64 s3, .int .i64 cnt]] w _
      go_enter Tryz.func88, Tryz.ntmps88
      go_wp2_with fail
      refine (HF.out _ HW.out).mono ?_
      rintro e w2 ⟨rfl, rfl⟩
      have k0 := B0.out
      have K0 := hide k0
      have e1 := k0.cell 1
      have e2 := k0.cell 2
      have i0 : decide ((j : Int) < 0) = false := by simp
      simp at e1 e2
      clear HF k0
      go_wp2_with fail
      refine (HV.out _).mono ?_
      rintro e w3 ⟨rfl, hb3⟩
      have HW3 := hide (below_step HW.out hb3 (Nat.le_refl _))
      have k0 := K0.out.keep hb3
      have K0 := hide k0
      have e3 := k0.cell 3
      have e4 := k0.cell 4
      have e5 := k0.cell 5
      have e9 := k0.cell 9
      simp at e3 e4 e5 e9
      clear hb3 HV k0 e1 e2
      go_wp2_with fail
      go_ret
      exact ⟨ret_bool hres.out.symm, HW3.out⟩
    · rw [q0] at HV
      clear q0 HI
      show Calls Tryz.prog 88 #[.slice A n c, .agg #[.string mark, .int .i64 tx, .int .i64 ty, .int .i64 a1, .int .i64 a2, .int .i64 a3, .int .i64 s1, .int .i64 s2, .int .i64 s3, .int .i64 cnt]] w _
      go_enter Tryz.func88, Tryz.ntmps88
      go_wp2_with fail
      refine (HF.out _ HW.out).mono ?_
      rintro e w2 ⟨rfl, rfl⟩
      have k0 := B0.out
      have K0 := hide k0
      have e1 := k0.cell 1
      have e2 := k0.cell 2
      have i0 : decide ((j : Int) < 0) = false := by simp
      simp at e1 e2
      clear HF k0
      go_wp2_with fail
      refine (HV.out _).mono ?_
      rintro e w3 ⟨rfl, hb3⟩
      have HW3 := hide (below_step HW.out hb3 (Nat.le_refl _))
      have k0 := K0.out.keep hb3
      have K0 := hide k0
      have e3 := k0.cell 3
      have e4 := k0.cell 4
      have e5 := k0.cell 5
      have e9 := k0.cell 9
      simp at e3 e4 e5 e9
      clear hb3 HV k0 e1 e2
      go_wp2_with fail
      go_ret
      exact ⟨ret_bool hres.out.symm, HW3.out⟩
    · rw [q0] at HV
      clear q0 HI
      show Calls Tryz.prog 88 #[.slice A n c, .agg #[.string mark, .int .i64 tx, .int .i64 ty, .int .i64 a1, .int .i64 a2, .int .i64 a3, .int .i64 s1, .int .i64 s2, .int .i64 s3, .int .i64 cnt]] w _
      go_enter Tryz.func88, Tryz.ntmps88
      go_wp2_with fail
      refine (HF.out _ HW.out).mono ?_
      rintro e w2 ⟨rfl, rfl⟩
      have k0 := B0.out
      have K0 := hide k0
      have e1 := k0.cell 1
      have e2 := k0.cell 2
      have i0 : decide ((j : Int) < 0) = false := by simp
      simp at e1 e2
      clear HF k0
      go_wp2_with fail
      refine (HV.out _).mono ?_
      rintro e w3 ⟨rfl, hb3⟩
      have HW3 := hide (below_step HW.out hb3 (Nat.le_refl _))
      have k0 := K0.out.keep hb3
      have K0 := hide k0
      have e3 := k0.cell 3
      have e4 := k0.cell 4
      have e5 := k0.cell 5
      have e9 := k0.cell 9
      simp at e3 e4 e5 e9
      clear hb3 HV k0 e1 e2
      go_wp2_with fail
      go_ret
      exact ⟨ret_bool hres.out.symm, HW3.out⟩
    · rw [q0] at HV
      simp only [ptA] at HI
      rw [q3] at HI
      clear q0 q3
      show Calls Tryz.prog 88 #[.slice A n c, .agg #[.string mark, .int .i64 tx, .int .i64 ty, .int .i64 a1, .int .i64 a2, .int .i64 a3, .int .i64 s1, .int .i64 s2, .int .i64 s3, .int .i64 cnt]] w _
      go_enter Tryz.func88, Tryz.ntmps88
      go_wp2_with fail
      refine (HF.out _ HW.out).mono ?_
      rintro e w2 ⟨rfl, rfl⟩
      have k0 := B0.out
      have K0 := hide k0
      have e1 := k0.cell 1
      have e2 := k0.cell 2
      have i0 : decide ((j : Int) < 0) = false := by simp
      simp at e1 e2
      clear HF k0
      go_wp2_with fail
      refine (HV.out _).mono ?_
      rintro e w3 ⟨rfl, hb3⟩
      have HW3 := hide (below_step HW.out hb3 (Nat.le_refl _))
      have k0 := K0.out.keep hb3
      have K0 := hide k0
      have e3 := k0.cell 3
      have e4 := k0.cell 4
      have e5 := k0.cell 5
      have e9 := k0.cell 9
      simp at e3 e4 e5 e9
      clear hb3 HV k0 e1 e2
      go_wp2_with fail
      refine (HI.out _).mono ?_
      rintro e w4 ⟨rfl, hb4⟩
      have HW4 := hide (below_step HW3.out hb4 (Nat.le_refl _))
      clear hb4 HI
      go_wp2_with fail
      go_ret
      exact ⟨ret_bool hres.out.symm, HW4.out⟩
  obtain ⟨h2, h3, h4, h5⟩ := hhead
  have hro := runOk_ref hj hx h2 h3 h4 h5
  have hways : decide (r.count < 1) = false ∧ decide (1000 < r.count) = false := by simp; omega
  rw [h2] at HV
  have Hro := hide hro
  have HPt := hide (fun (k : Int) (hk : 0 ≤ k) (hfar : nearBy 4294967296 (mulP k r.step) = true) (A' : Option Addr) (c' : Nat) (W : World) (hi : Ints W B A' x.dims) (hz : Below w.heap.size w W) => refPoints_ok x A' c' r k W hi (Nat.le_trans hB hz.size) hok h2 h5 hk hfar)
  have Hpn := hide (fun (k : Int) => show (ptsOf x r k).length ≤ 60000 by rw [ptsOf_len, pathOf_len]; have := legsOf_len x.code; omega)
  have Hst := hide (show stepOk r = (decide (r.count ≤ 1) || (!noStep r.step && nearBy 2097152 r.step)) from rfl)
  have HB0 := hide (fun (W : World) (hz : Below w.heap.size w W) => BarsAt.get (k := j) (h.carry (hz.mono hB) (Nat.le_refl B)) (by omega))
  have Hx := hide hx
  simp only [ptA] at HI
  rw [h5] at HI
  generalize runOk bars r = res at *
  generalize stepOk r = so at *
  generalize ptsOf x r = pts at *
  obtain ⟨mark, tx, ty, ⟨a1, a2, a3⟩, ⟨s1, s2, s3⟩, cnt⟩ := r
  simp only at HF HV HI HI2 hways
  have B0 := hide (Blk.new w 66 #[.string mark, .int .i64 tx, .int .i64 ty, .int .i64 a1, .int .i64 a2, .int .i64 a3, .int .i64 s1, .int .i64 s2, .int .i64 s3, .int .i64 cnt])
  have HW := hide (below_new w (.cells #[.string mark, .int .i64 tx, .int .i64 ty, .int .i64 a1, .int .i64 a2, .int .i64 a3, .int .i64 s1, .int .i64 s2, .int .i64 s3, .int .i64 cnt] 66))
  obtain ⟨q1, q2⟩ := hways
  simp only at HPt Hro Hst h3 h4
  have hjn : j < n := by rw [hn]; omega
  have hB0 := hB
  clear h hB hn hall hno hj hrange hx hok h2 h5 hro
  show Calls Tryz.prog 88 #[.slice A n c, .agg #[.string mark, .int .i64 tx, .int .i64 ty, .int .i64 a1, .int .i64 a2, .int .i64 a3, .int .i64 s1, .int .i64 s2, .int .i64 s3, .int .i64 cnt]] w _
  go_enter Tryz.func88, Tryz.ntmps88
  go_wp2_with fail
  refine (HF.out _ HW.out).mono ?_
  rintro e w2 ⟨rfl, rfl⟩
  have k0 := B0.out
  have K0 := hide k0
  have e1 := k0.cell 1
  have e2 := k0.cell 2
  have i0 : decide ((j : Int) < 0) = false := by simp
  simp at e1 e2
  clear HF k0
  go_wp2_with fail
  refine (HV.out _).mono ?_
  rintro e w3 ⟨rfl, hb3⟩
  have HW3 := hide (below_step HW.out hb3 (Nat.le_refl _))
  have k0 := K0.out.keep hb3
  have K0 := hide k0
  have e3 := k0.cell 3
  have e4 := k0.cell 4
  have e5 := k0.cell 5
  have e9 := k0.cell 9
  simp at e3 e4 e5 e9
  clear hb3 HV k0 e1 e2
  go_wp2_with fail
  refine (HI.out _).mono ?_
  rintro e w4 ⟨rfl, hb4⟩
  have HW4 := hide (below_step HW3.out hb4 (Nat.le_refl _))
  have k0 := K0.out.keep hb4
  have K0 := hide k0
  clear hb4 HI k0 e3 e4 e5 e9
  have e6 := K0.out.cell 6
  have e7 := K0.out.cell 7
  have e8 := K0.out.cell 8
  have e9 := K0.out.cell 9
  simp at e6 e7 e8 e9
  generalize hnb : nearBy 2097152 (s1, s2, s3) = nb at HI2 Hst
  have Hnb := hide hnb
  have K4 := K0
  clear hnb
  go_upto_region 4 with fail
  go_cut [48] from 34 (fun t48 wx => t48 = .bool (!so) ∧ Hid (Below w4.heap.size w4 wx))
  case first =>
    clear HPt HB0 Hx Hpn Hro
    by_cases hc : cnt ≤ 1
    · have d1 : decide (1 < cnt) = false := by simp; omega
      have Hso := hide (show so = true by rw [Hst.out, decide_eq_true hc]; rfl)
      clear hc h3 h4
      go_wp2_with fail
      go_meet
      exact ⟨by rw [Hso.out]; rfl, hide (Below.refl _ _)⟩
    have d1 : decide (1 < cnt) = true := by simp; omega
    have d2 : decide (cnt ≤ 1) = false := by simp; omega
    rw [d2] at Hst
    clear hc h3 h4 d2
    by_cases hz1 : s1 = 0
    · subst hz1
      by_cases hz2 : s2 = 0
      · subst hz2
        by_cases hz3 : s3 = 0
        · subst hz3
          have Hso := hide (show so = false by rw [Hst.out]; rfl)
          clear Hst
          go_wp2_with fail
          go_meet
          exact ⟨by rw [Hso.out]; rfl, hide (Below.refl _ _)⟩
        · have Hso := hide (show so = nb by rw [Hst.out, noStep, decide_eq_false hz3]; simp)
          clear Hst
          go_wp2_with fail
          refine (HI2.out _).mono ?_
          rintro e w5 ⟨rfl, hb5⟩
          go_wp2_with fail
          go_meet
          exact ⟨by rw [Hso.out], hide hb5⟩
      · have Hso := hide (show so = nb by rw [Hst.out, noStep, decide_eq_false hz2]; simp)
        clear Hst
        go_wp2_with fail
        refine (HI2.out _).mono ?_
        rintro e w5 ⟨rfl, hb5⟩
        go_wp2_with fail
        go_meet
        exact ⟨by rw [Hso.out], hide hb5⟩
    · have Hso := hide (show so = nb by rw [Hst.out, noStep, decide_eq_false hz1]; simp)
      clear Hst
      go_wp2_with fail
      refine (HI2.out _).mono ?_
      rintro e w5 ⟨rfl, hb5⟩
      go_wp2_with fail
      go_meet
      exact ⟨by rw [Hso.out], hide hb5⟩
  case rest =>
    obtain ⟨rfl, hbx⟩ := hcut
    rename World => wx
    have HW5 := hide (below_step HW4.out hbx.out (Nat.le_refl _))
    have K5 := hide (K4.out.keep hbx.out)
    clear hbx HW HW3 HW4 B0 K0 K4 HF HI2 e6 e7 e8 e9
    cases so
    · have Hres := hide (show res = false by rw [Hro.out]; rfl)
      clear HPt HB0 Hx Hpn Hro Hst
      go_wp2_with fail
      go_ret
      exact ⟨ret_bool Hres.out.symm, HW5.out⟩
    have Hres := hide (show res = ((pts 0).all (nearBy 1048576) && (pts (cnt - 1)).all (nearBy 1048576)) by rw [Hro.out]; rfl)
    have hfar : nearBy 4294967296 (mulP (cnt - 1) (s1, s2, s3)) = true := by
      by_cases hc : cnt ≤ 1
      · obtain rfl : cnt = 1 := by omega
        exact mul0_far _
      · have h9 := Hst.out
        rw [decide_eq_false hc, Bool.false_or] at h9
        exact step_far (by rw [Hnb.out]; exact (Bool.and_eq_true_iff.1 h9.symm).2) (by omega) (by omega)
    obtain ⟨b, off, x', A', c', rfl, hbl, hx', hdi, f0, f1, f2, f3, f4⟩ := HB0.out wx HW5.out
    rw [Hx.out] at hx'
    injection hx' with hx'
    subst hx'
    have Hdi := hide hdi
    have HP0 := hide (fun (W : World) (h : Below wx.heap.size wx W) => HPt.out 0 (by omega) (mul0_far _) A' c' W (Hdi.out.carry (h.mono (Nat.le_trans hB0 HW5.out.size)) (Nat.le_refl _)) (below_step HW5.out h (Nat.le_refl _)))
    have HP1 := hide (fun (W : World) (h : Below wx.heap.size wx W) => HPt.out (cnt - 1) (by omega) hfar A' c' W (Hdi.out.carry (h.mono (Nat.le_trans hB0 HW5.out.size)) (Nat.le_refl _)) (below_step HW5.out h (Nat.le_refl _)))
    have lb : b < wx.heap.size := Nat.lt_of_lt_of_le hbl (Nat.le_trans hB0 HW5.out.size)
    have z1 : IntKind.i64.wrap (cnt - 1) = cnt - 1 := IntWalk.i64_in _ (by omega)
    have Hl0 := hide (Hpn.out 0)
    have Hl1 := hide (Hpn.out (cnt - 1))
    generalize pts (cnt - 1) = q1 at *
    generalize pts 0 = q0 at *
    obtain ⟨a0, ha0⟩ : ∃ a, a = q0.all (nearBy 1048576) := ⟨_, rfl⟩
    obtain ⟨a1', ha1⟩ : ∃ a, a = q1.all (nearBy 1048576) := ⟨_, rfl⟩
    rw [← ha0, ← ha1] at Hres
    have HN0 := hide (fun (A : Option Addr) (c : Nat) (W : World) (h : PtsAt W W.heap.size A q0) => show Calls Tryz.prog 146 #[.slice A q0.length c] W fun e w' => e = .returned (.bool a0) ∧ Below W.heap.size W w' by rw [ha0]; exact refNears_any A q0 q0.length c W h (Nat.le_refl _) rfl Hl0.out)
    have HN1 := hide (fun (A : Option Addr) (c : Nat) (W : World) (h : PtsAt W W.heap.size A q1) => show Calls Tryz.prog 146 #[.slice A q1.length c] W fun e w' => e = .returned (.bool a1') ∧ Below W.heap.size W w' by rw [ha1]; exact refNears_any A q1 q1.length c W h (Nat.le_refl _) rfl Hl1.out)
    have k0 := K5.out
    have lk := k0.lt
    have r0 := k0.cell 0
    have r1 := k0.cell 1
    have r2 := k0.cell 2
    have r3 := k0.cell 3
    have r4 := k0.cell 4
    have r5 := k0.cell 5
    have r6 := k0.cell 6
    have r7 := k0.cell 7
    have r8 := k0.cell 8
    have r9 := k0.cell 9
    simp at r0 r1 r2 r3 r4 r5 r6 r7 r8 r9
    obtain ⟨mk, sz, ct, cd, dims⟩ := x
    simp only at f0 f1 f2 f3 f4 HP0 HP1
    have HC := hide (fun (W : World) (h : Below wx.heap.size wx W) => show W.cell? ⟨w.heap.size, 0, none⟩ = some (.string mark) ∧ W.cell? ⟨w.heap.size, 1, none⟩ = some (.int .i64 tx) ∧ W.cell? ⟨w.heap.size, 2, none⟩ = some (.int .i64 ty) ∧ W.cell? ⟨w.heap.size, 3, none⟩ = some (.int .i64 a1) ∧ W.cell? ⟨w.heap.size, 4, none⟩ = some (.int .i64 a2) ∧ W.cell? ⟨w.heap.size, 5, none⟩ = some (.int .i64 a3) ∧ W.cell? ⟨w.heap.size, 6, none⟩ = some (.int .i64 s1) ∧ W.cell? ⟨w.heap.size, 7, none⟩ = some (.int .i64 s2) ∧ W.cell? ⟨w.heap.size, 8, none⟩ = some (.int .i64 s3) ∧ W.cell? ⟨w.heap.size, 9, none⟩ = some (.int .i64 cnt) ∧ W.cell? ⟨b, off + j * 5, none⟩ = some (.string mk) ∧ W.cell? ⟨b, off + j * 5 + 1, none⟩ = some (.int .i64 sz) ∧ W.cell? ⟨b, off + j * 5 + 2, none⟩ = some (.int .i64 ct) ∧ W.cell? ⟨b, off + j * 5 + 3, none⟩ = some (.int .i64 cd) ∧ W.cell? ⟨b, off + j * 5 + 4, none⟩ = some (.slice A' dims.length c') ∧ Below w.heap.size w W from
      ⟨(h.cell (p := ⟨w.heap.size, 0, none⟩) lk).trans r0, (h.cell (p := ⟨w.heap.size, 1, none⟩) lk).trans r1, (h.cell (p := ⟨w.heap.size, 2, none⟩) lk).trans r2, (h.cell (p := ⟨w.heap.size, 3, none⟩) lk).trans r3, (h.cell (p := ⟨w.heap.size, 4, none⟩) lk).trans r4, (h.cell (p := ⟨w.heap.size, 5, none⟩) lk).trans r5, (h.cell (p := ⟨w.heap.size, 6, none⟩) lk).trans r6, (h.cell (p := ⟨w.heap.size, 7, none⟩) lk).trans r7, (h.cell (p := ⟨w.heap.size, 8, none⟩) lk).trans r8, (h.cell (p := ⟨w.heap.size, 9, none⟩) lk).trans r9, (h.cell (p := ⟨b, off + j * 5, none⟩) lb).trans f0, (h.cell (p := ⟨b, off + j * 5 + 1, none⟩) lb).trans f1, (h.cell (p := ⟨b, off + j * 5 + 2, none⟩) lb).trans f2, (h.cell (p := ⟨b, off + j * 5 + 3, none⟩) lb).trans f3, (h.cell (p := ⟨b, off + j * 5 + 4, none⟩) lb).trans f4, below_step HW5.out h (Nat.le_refl _)⟩)
    clear HPt HB0 Hx Hpn Hro Hst hdi hbl hfar Hdi ha0 ha1 Hl0 Hl1 k0
    have hS0 := HC.out _ (Below.drew (Below.refl wx.heap.size wx))
    have hBx := Below.drew (Below.refl wx.heap.size wx)
    cases a0
    · go_wp2_with fail
      refine wp_region_held_drew (S := (fun W => W.cell? ⟨w.heap.size, 0, none⟩ = some (.string mark) ∧ W.cell? ⟨w.heap.size, 1, none⟩ = some (.int .i64 tx) ∧ W.cell? ⟨w.heap.size, 2, none⟩ = some (.int .i64 ty) ∧ W.cell? ⟨w.heap.size, 3, none⟩ = some (.int .i64 a1) ∧ W.cell? ⟨w.heap.size, 4, none⟩ = some (.int .i64 a2) ∧ W.cell? ⟨w.heap.size, 5, none⟩ = some (.int .i64 a3) ∧ W.cell? ⟨w.heap.size, 6, none⟩ = some (.int .i64 s1) ∧ W.cell? ⟨w.heap.size, 7, none⟩ = some (.int .i64 s2) ∧ W.cell? ⟨w.heap.size, 8, none⟩ = some (.int .i64 s3) ∧ W.cell? ⟨w.heap.size, 9, none⟩ = some (.int .i64 cnt) ∧ W.cell? ⟨b, off + j * 5, none⟩ = some (.string mk) ∧ W.cell? ⟨b, off + j * 5 + 1, none⟩ = some (.int .i64 sz) ∧ W.cell? ⟨b, off + j * 5 + 2, none⟩ = some (.int .i64 ct) ∧ W.cell? ⟨b, off + j * 5 + 3, none⟩ = some (.int .i64 cd) ∧ W.cell? ⟨b, off + j * 5 + 4, none⟩ = some (.slice A' dims.length c') ∧ Below w.heap.size w W)) (by kernel_rfl) hS0 (fun hHeld => ?_)
      refine wpAnyH_take (i := 0) (v := ?_) rfl (by kernel_rfl) (by kernel_rfl) (by kernel_rfl) (fun _ _ _ h => h) (Or.inl ⟨by rfl, ?_⟩) (by assumption) ?_
      rotate_left
      · intro w hSw
        (try dsimp only at hSw)
        go_simp
        first | done | with_reducible rfl
      (try simp only [zzA, zzC, Act.put, zzD, zzE, zzF])
      refine wpAnyH_take (i := 1) (v := ?_) rfl (by kernel_rfl) (by kernel_rfl) (by kernel_rfl) (fun _ _ _ h => h) (Or.inl ⟨by rfl, ?_⟩) (by assumption) ?_
      rotate_left
      · intro w hSw
        (try dsimp only at hSw)
        go_simp
        first | done | with_reducible rfl
      (try simp only [zzA, zzB, zzC, Act.put, zzD, zzE, zzF])
      refine wpAnyH_take (i := 2) (v := ?_) rfl (by kernel_rfl) (by kernel_rfl) (by kernel_rfl) (fun _ _ _ h => h) (Or.inl ⟨by rfl, ?_⟩) (by assumption) ?_
      rotate_left
      · intro w hSw
        (try dsimp only at hSw)
        go_simp
        first | done | with_reducible rfl
      (try simp only [zzA, zzB, zzC, Act.put, zzD, zzE, zzF])
      refine wpAnyH_take (i := 3) (v := ?_) rfl (by kernel_rfl) (by kernel_rfl) (by kernel_rfl) (fun _ _ _ h => h) (Or.inl ⟨by rfl, ?_⟩) (by assumption) ?_
      rotate_left
      · intro w hSw
        (try dsimp only at hSw)
        go_simp
        first | done | with_reducible rfl
      (try simp only [zzA, zzB, zzC, Act.put, zzD, zzE, zzF])
      refine wpAnyH_take (i := 4) (v := ?_) rfl (by kernel_rfl) (by kernel_rfl) (by kernel_rfl) (fun _ _ _ h => h) (Or.inl ⟨by rfl, ?_⟩) (by assumption) ?_
      rotate_left
      · intro w hSw
        (try dsimp only at hSw)
        go_simp
        first | done | with_reducible rfl
      (try simp only [zzA, zzB, zzC, Act.put, zzD, zzE, zzF])
      refine wpAnyH_ready (rs := [5]) (by kernel_rfl) (by simp) (AllReadyH.cons rfl (fun K hK => ?_) AllReadyH.nil)
      go_simp
      refine (HP0.out _ hBx).mono ?_
      rintro e wz ⟨A5, c5, rfl, hp5, _, hbz⟩
      have hBx := below_step hBx hbz (Nat.le_refl _)
      clear hHeld
      go_wp2_with fail
      refine hK.out _ _ (HC.out _ hBx) (fun hHeld => ?_)
      clear hK K
      refine wpAnyH_ready (rs := [6]) (by kernel_rfl) (by simp) (AllReadyH.cons rfl (fun K hK => ?_) AllReadyH.nil)
      go_simp
      refine (HN0.out _ _ _ hp5).mono ?_
      rintro e wy ⟨rfl, hbz⟩
      have hBx := below_step hBx hbz (Nat.le_refl _)
      clear hHeld
      go_wp2_with fail
      refine hK.out _ _ (HC.out _ hBx) (fun hHeld => ?_)
      clear hK K
      refine wpAnyH_take (i := 7) (v := ?_) rfl (by kernel_rfl) (by kernel_rfl) (by kernel_rfl) (fun _ _ _ h => h) (Or.inl ⟨by rfl, ?_⟩) (by assumption) ?_
      rotate_left
      · intro w hSw
        (try dsimp only at hSw)
        go_simp
        first | done | with_reducible rfl
      (try simp only [zzA, zzB, zzC, Act.put, zzD, zzE, zzF])
      refine wpAnyH_take (i := 8) (v := undef) rfl (by kernel_rfl) (by kernel_rfl) (by kernel_rfl) (fun _ _ _ h => h) (Or.inr ⟨by rfl, rfl⟩) (by assumption) ?_
      (try simp only [zzA, zzB, zzC, Act.put, zzD, zzE, zzF])
      refine wpAnyH_take (i := 9) (v := undef) rfl (by kernel_rfl) (by kernel_rfl) (by kernel_rfl) (fun _ _ _ h => h) (Or.inr ⟨by rfl, rfl⟩) (by assumption) ?_
      (try simp only [zzA, zzB, zzC, Act.put, zzD, zzE, zzF])
      refine wpAnyH_take (i := 10) (v := undef) rfl (by kernel_rfl) (by kernel_rfl) (by kernel_rfl) (fun _ _ _ h => h) (Or.inr ⟨by rfl, rfl⟩) (by assumption) ?_
      (try simp only [zzA, zzB, zzC, Act.put, zzD, zzE, zzF])
      refine wpAnyH_take (i := 11) (v := undef) rfl (by kernel_rfl) (by kernel_rfl) (by kernel_rfl) (fun _ _ _ h => h) (Or.inr ⟨by rfl, rfl⟩) (by assumption) ?_
      (try simp only [zzA, zzB, zzC, Act.put, zzD, zzE, zzF])
      refine wpAnyH_take (i := 12) (v := undef) rfl (by kernel_rfl) (by kernel_rfl) (by kernel_rfl) (fun _ _ _ h => h) (Or.inr ⟨by rfl, rfl⟩) (by assumption) ?_
      (try simp only [zzA, zzB, zzC, Act.put, zzD, zzE, zzF])
      refine wpAnyH_take (i := 13) (v := undef) rfl (by kernel_rfl) (by kernel_rfl) (by kernel_rfl) (fun _ _ _ h => h) (Or.inr ⟨by rfl, rfl⟩) (by assumption) ?_
      (try simp only [zzA, zzB, zzC, Act.put, zzD, zzE, zzF])
      refine wpAnyH_take (i := 14) (v := undef) rfl (by kernel_rfl) (by kernel_rfl) (by kernel_rfl) (fun _ _ _ h => h) (Or.inr ⟨by rfl, rfl⟩) (by assumption) ?_
      (try simp only [zzA, zzB, zzC, Act.put, zzD, zzE, zzF])
      refine wpAnyH_take (i := 15) (v := undef) rfl (by kernel_rfl) (by kernel_rfl) (by kernel_rfl) (fun _ _ _ h => h) (Or.inr ⟨by rfl, rfl⟩) (by assumption) ?_
      (try simp only [zzA, zzB, zzC, Act.put, zzD, zzE, zzF])
      refine wpAnyH_take (i := 16) (v := undef) rfl (by kernel_rfl) (by kernel_rfl) (by kernel_rfl) (fun _ _ _ h => h) (Or.inr ⟨by rfl, rfl⟩) (by assumption) ?_
      (try simp only [zzA, zzB, zzC, Act.put, zzD, zzE, zzF])
      refine wpAnyH_take (i := 17) (v := undef) rfl (by kernel_rfl) (by kernel_rfl) (by kernel_rfl) (fun _ _ _ h => h) (Or.inr ⟨by rfl, rfl⟩) (by assumption) ?_
      (try simp only [zzA, zzB, zzC, Act.put, zzD, zzE, zzF])
      refine wpAnyH_take (i := 18) (v := ?_) rfl (by kernel_rfl) (by kernel_rfl) (by kernel_rfl) (fun _ _ _ h => h) (Or.inl ⟨by rfl, ?_⟩) (by assumption) ?_
      rotate_left
      · intro w hSw
        (try dsimp only at hSw)
        go_simp
        first | done | with_reducible rfl
      (try simp only [zzA, zzB, zzC, Act.put, zzD, zzE, zzF])
      refine wpAnyH_take (i := 19) (v := ?_) rfl (by kernel_rfl) (by kernel_rfl) (by kernel_rfl) (fun _ _ _ h => h) (Or.inl ⟨by rfl, ?_⟩) (by assumption) ?_
      rotate_left
      · intro w hSw
        (try dsimp only at hSw)
        go_simp
        first | done | with_reducible rfl
      (try simp only [zzA, zzB, zzC, Act.put, zzD, zzE, zzF])
      refine wpAnyH_done (by kernel_rfl) ?_ _
      go_wp2_with fail
      go_ret
      exact ⟨ret_bool (by rw [Hres.out]; rfl), below_step HW5.out hBx (Nat.le_refl _)⟩
    cases a1'
    · go_wp2_with fail
      go_region_held3 (fun W => W.cell? ⟨w.heap.size, 0, none⟩ = some (.string mark) ∧ W.cell? ⟨w.heap.size, 1, none⟩ = some (.int .i64 tx) ∧ W.cell? ⟨w.heap.size, 2, none⟩ = some (.int .i64 ty) ∧ W.cell? ⟨w.heap.size, 3, none⟩ = some (.int .i64 a1) ∧ W.cell? ⟨w.heap.size, 4, none⟩ = some (.int .i64 a2) ∧ W.cell? ⟨w.heap.size, 5, none⟩ = some (.int .i64 a3) ∧ W.cell? ⟨w.heap.size, 6, none⟩ = some (.int .i64 s1) ∧ W.cell? ⟨w.heap.size, 7, none⟩ = some (.int .i64 s2) ∧ W.cell? ⟨w.heap.size, 8, none⟩ = some (.int .i64 s3) ∧ W.cell? ⟨w.heap.size, 9, none⟩ = some (.int .i64 cnt) ∧ W.cell? ⟨b, off + j * 5, none⟩ = some (.string mk) ∧ W.cell? ⟨b, off + j * 5 + 1, none⟩ = some (.int .i64 sz) ∧ W.cell? ⟨b, off + j * 5 + 2, none⟩ = some (.int .i64 ct) ∧ W.cell? ⟨b, off + j * 5 + 3, none⟩ = some (.int .i64 cd) ∧ W.cell? ⟨b, off + j * 5 + 4, none⟩ = some (.slice A' dims.length c') ∧ Below w.heap.size w W)
        (first | (with_reducible assumption) | go_keep)
        (first
          | (go_at_call 147; have hS := ‹_ ∧ _ ∧ _ ∧ _ ∧ _ ∧ _ ∧ _ ∧ _ ∧ _ ∧ _ ∧ _ ∧ _ ∧ _ ∧ _ ∧ _ ∧ Below w.heap.size w _›
             (first
               | ((with_reducible refine (HP0.out _ hBx).mono ?_); rintro e wz ⟨A5, c5, rfl, hp5, _, hbz⟩)
               | ((with_reducible refine (HP1.out _ hBx).mono ?_); rintro e wz ⟨A6, c6, rfl, hp6, _, hbz⟩))
             have hBx := below_step hBx hbz (Nat.le_refl _)
             have hS' := HC.out _ hBx)
          | (go_at_call 146
             (first
               | ((with_reducible refine (HN0.out _ _ _ hp5).mono ?_); rintro e wz ⟨rfl, hbz⟩)
               | ((with_reducible refine (HN1.out _ _ _ hp6).mono ?_); rintro e wz ⟨rfl, hbz⟩))
             have hBx := below_step hBx hbz (Nat.le_refl _)
             have hS' := HC.out _ hBx))
      all_goals
        go_wp2_with fail
        go_ret
        exact ⟨ret_bool (by rw [Hres.out]; rfl), below_step HW5.out hBx (Nat.le_refl _)⟩
    · go_wp2_with fail
      go_region_held3 (fun W => W.cell? ⟨w.heap.size, 0, none⟩ = some (.string mark) ∧ W.cell? ⟨w.heap.size, 1, none⟩ = some (.int .i64 tx) ∧ W.cell? ⟨w.heap.size, 2, none⟩ = some (.int .i64 ty) ∧ W.cell? ⟨w.heap.size, 3, none⟩ = some (.int .i64 a1) ∧ W.cell? ⟨w.heap.size, 4, none⟩ = some (.int .i64 a2) ∧ W.cell? ⟨w.heap.size, 5, none⟩ = some (.int .i64 a3) ∧ W.cell? ⟨w.heap.size, 6, none⟩ = some (.int .i64 s1) ∧ W.cell? ⟨w.heap.size, 7, none⟩ = some (.int .i64 s2) ∧ W.cell? ⟨w.heap.size, 8, none⟩ = some (.int .i64 s3) ∧ W.cell? ⟨w.heap.size, 9, none⟩ = some (.int .i64 cnt) ∧ W.cell? ⟨b, off + j * 5, none⟩ = some (.string mk) ∧ W.cell? ⟨b, off + j * 5 + 1, none⟩ = some (.int .i64 sz) ∧ W.cell? ⟨b, off + j * 5 + 2, none⟩ = some (.int .i64 ct) ∧ W.cell? ⟨b, off + j * 5 + 3, none⟩ = some (.int .i64 cd) ∧ W.cell? ⟨b, off + j * 5 + 4, none⟩ = some (.slice A' dims.length c') ∧ Below w.heap.size w W)
        (first | (with_reducible assumption) | go_keep)
        (first
          | (go_at_call 147; have hS := ‹_ ∧ _ ∧ _ ∧ _ ∧ _ ∧ _ ∧ _ ∧ _ ∧ _ ∧ _ ∧ _ ∧ _ ∧ _ ∧ _ ∧ _ ∧ Below w.heap.size w _›
             (first
               | ((with_reducible refine (HP0.out _ hBx).mono ?_); rintro e wz ⟨A5, c5, rfl, hp5, _, hbz⟩)
               | ((with_reducible refine (HP1.out _ hBx).mono ?_); rintro e wz ⟨A6, c6, rfl, hp6, _, hbz⟩))
             have hBx := below_step hBx hbz (Nat.le_refl _)
             have hS' := HC.out _ hBx)
          | (go_at_call 146
             (first
               | ((with_reducible refine (HN0.out _ _ _ hp5).mono ?_); rintro e wz ⟨rfl, hbz⟩)
               | ((with_reducible refine (HN1.out _ _ _ hp6).mono ?_); rintro e wz ⟨rfl, hbz⟩))
             have hBx := below_step hBx hbz (Nat.le_refl _)
             have hS' := HC.out _ hBx))
      all_goals
        go_wp2_with fail
        go_ret
        exact ⟨ret_bool (by rw [Hres.out]; rfl), below_step HW5.out hBx (Nat.le_refl _)⟩
end Go.Proofs.YtpaanfjjnjjoeaaGreat
