/- The image of a point. Turns: whether they are valid; points, turned and moved; paths, turned and moved. Paths, turned and moved. -/
import Derived.Test.YtpmipoljnchheaaGreatMae
import Derived.BigRegion
import Derived.StillTailTactics
namespace Go.Proofs.YtpmipoljnchheaaGreat
open Go.RowKit

def vRow (q : Pt) : Nat → Array Value
  | 0 => #[.int .i64 0, .int .i64 0, .int .i64 0]
  | 1 => #[.int .i64 q.1, .int .i64 0, .int .i64 0]
  | 2 => #[.int .i64 q.1, .int .i64 q.2.1, .int .i64 0]
  | _ => #[.int .i64 q.1, .int .i64 q.2.1, .int .i64 q.2.2]
set_option maxHeartbeats 4000000 in
set_option maxRecDepth 100000 in
theorem image_any (x y : Int) (p : Pt) (w : World) (h : turnOk x y = true) (hp : nearBy 1099511627776 p = true) :
    Calls Tryz.prog 191 #[.agg #[.int .i64 x, .int .i64 y], .agg #[.int .i64 p.1, .int .i64 p.2.1, .int .i64 p.2.2]] w fun e w' => ∃ q : Pt, e = .returned (.agg #[.int .i64 q.1, .int .i64 q.2.1, .int .i64 q.2.2]) ∧ Hid (q = imgV x y p) ∧ Below w.heap.size w w' := by
  have HC := hide (fun (w : World) => columns_any x y w h)
  obtain ⟨HP1, HP2, HP3⟩ := nearBy_iff.1 hp
  have hx : axis6 x := by
    simp only [turnOk, Bool.and_eq_true] at h
    exact axis6_of h.1.1.1
  have hy : axis6 y := by
    simp only [turnOk, Bool.and_eq_true] at h
    exact axis6_of h.1.1.2
  have HU := hide (And.intro (unitish_of hx) (And.intro (unitish_of hy) (cross_unit h)))
  have Hi := hide (show imgV x y p = linV (unitV x) (unitV y) (crossV (unitV x) (unitV y)) p from rfl)
  obtain ⟨p1, p2, p3⟩ := p
  simp only at HP1 HP2 HP3
  have g3 := Blk.new1 w (.cells #[.int .i64 x, .int .i64 y] 77) 44 #[.int .i64 p1, .int .i64 p2, .int .i64 p3]
  clear h hx hy hp
  go_enter Tryz.func191, Tryz.ntmps191
  go_wp2_with (go_at_call 193; refine (HC.out _).mono ?_; rintro e w2 ⟨a, b, c, rfl, hres, hb2⟩)
  obtain ⟨ha, hb, hc⟩ := hres.out
  obtain ⟨⟨HA1, HA2, HA3⟩, ⟨HB1, HB2, HB3⟩, HG1, HG2, HG3⟩ := HU.out
  rw [← ha] at HA1 HA2 HA3
  rw [← hb] at HB1 HB2 HB3
  rw [← hc] at HG1 HG2 HG3
  have Hq := hide (show imgV x y (p1, p2, p3) = linV a b c (p1, p2, p3) by rw [Hi.out, ha, hb, hc])
  clear ha hb hc hres HU Hi HC
  obtain ⟨a1, a2, a3⟩ := a
  obtain ⟨b1, b2, b3⟩ := b
  obtain ⟨c1, c2, c3⟩ := c
  simp only at HA1 HA2 HA3 HB1 HB2 HB3 HG1 HG2 HG3
  obtain ⟨q, hq⟩ : ∃ q, q = linV (a1, a2, a3) (b1, b2, b3) (c1, c2, c3) (p1, p2, p3) := ⟨_, rfl⟩
  rw [← hq] at Hq
  have hq1 : q.1 = a1 * p1 + b1 * p2 + c1 * p3 := by rw [hq]; rfl
  have hq2 : q.2.1 = a2 * p1 + b2 * p2 + c2 * p3 := by rw [hq]; rfl
  have hq3 : q.2.2 = a3 * p1 + b3 * p2 + c3 * p3 := by rw [hq]; rfl
  have HQ := hide (And.intro hq1 (And.intro hq2 hq3))
  clear hq hq1 hq2 hq3
  obtain ⟨w3, hw3⟩ : ∃ w3, w3 = (w2.alloc (.cells #[.int .i64 a1, .int .i64 a2, .int .i64 a3, .int .i64 b1, .int .i64 b2, .int .i64 b3, .int .i64 c1, .int .i64 c2, .int .i64 c3] 241)).alloc (.cells #[.int .i64 0, .int .i64 0, .int .i64 0] 234) := ⟨_, rfl⟩
  have k5 := (Blk.new w2 241 #[.int .i64 a1, .int .i64 a2, .int .i64 a3, .int .i64 b1, .int .i64 b2, .int .i64 b3, .int .i64 c1, .int .i64 c2, .int .i64 c3]).alloc (.cells #[.int .i64 0, .int .i64 0, .int .i64 0] 234)
  have k6 := Blk.new1 w2 (.cells #[.int .i64 a1, .int .i64 a2, .int .i64 a3, .int .i64 b1, .int .i64 b2, .int .i64 b3, .int .i64 c1, .int .i64 c2, .int .i64 c3] 241) 234 #[.int .i64 0, .int .i64 0, .int .i64 0]
  rw [← hw3] at k5 k6 ⊢
  have kP := (((g3.alloc (.cells #[.int .i64 0, .int .i64 0, .int .i64 0] 44)).keep hb2).alloc (.cells #[.int .i64 a1, .int .i64 a2, .int .i64 a3, .int .i64 b1, .int .i64 b2, .int .i64 b3, .int .i64 c1, .int .i64 c2, .int .i64 c3] 241)).alloc (.cells #[.int .i64 0, .int .i64 0, .int .i64 0] 234)
  have kR := (((Blk.new2 w (.cells #[.int .i64 x, .int .i64 y] 77) (.cells #[.int .i64 p1, .int .i64 p2, .int .i64 p3] 44) 44 #[.int .i64 0, .int .i64 0, .int .i64 0]).keep hb2).alloc (.cells #[.int .i64 a1, .int .i64 a2, .int .i64 a3, .int .i64 b1, .int .i64 b2, .int .i64 b3, .int .i64 c1, .int .i64 c2, .int .i64 c3] 241)).alloc (.cells #[.int .i64 0, .int .i64 0, .int .i64 0] 234)
  have hbw := (below_step ((below_new2 w (.cells #[.int .i64 x, .int .i64 y] 77) (.cells #[.int .i64 p1, .int .i64 p2, .int .i64 p3] 44)).alloc (by simp; omega) (.cells #[.int .i64 0, .int .i64 0, .int .i64 0] 44)) hb2 (Nat.le_refl _)).trans ((below_new2 w2 (.cells #[.int .i64 a1, .int .i64 a2, .int .i64 a3, .int .i64 b1, .int .i64 b2, .int .i64 b3, .int .i64 c1, .int .i64 c2, .int .i64 c3] 241) (.cells #[.int .i64 0, .int .i64 0, .int .i64 0] 234)).mono (by have := hb2.size; simp at this; omega))
  have hsz : w.heap.size + 3 ≤ w2.heap.size := by have := hb2.size; simp at this; omega
  rw [← hw3] at kP kR hbw
  have KP := hide kP
  have KR := hide kR
  have K5 := hide k5
  have K6 := hide k6
  have Hbw := hide hbw
  obtain ⟨g5, hg5⟩ : ∃ g5, g5 = w2.heap.size := ⟨_, rfl⟩
  rw [← hg5] at K5 K6 ⊢
  have h5w : w.heap.size + 3 ≤ g5 := by omega
  clear kP kR k5 k6 hbw hw3 hb2 g3 hg5 hsz
  go_loopw [10] (fun i wr => ∃ j : Nat, j ≤ 3 ∧ i = .int .i64 j ∧ Blk wr (w.heap.size + 1) 44 #[.int .i64 p1, .int .i64 p2, .int .i64 p3] ∧ Blk wr (w.heap.size + 2) 44 #[.int .i64 0, .int .i64 0, .int .i64 0] ∧ Blk wr g5 241 #[.int .i64 a1, .int .i64 a2, .int .i64 a3, .int .i64 b1, .int .i64 b2, .int .i64 b3, .int .i64 c1, .int .i64 c2, .int .i64 c3] ∧ Blk wr (g5 + 1) 234 (vRow q j) ∧ Below w.heap.size w wr) (fun i _ => 3 - (intOf i).toNat)
  case atStart => exact ⟨0, by omega, rfl, KP.out, KR.out, K5.out, K6.out, Hbw.out⟩
  case round =>
    clear KP KR K5 K6 Hbw
    obtain ⟨j, hj, rfl, kP, kR, k5, k6, hbw⟩ := hrel
    have uP := hide kP
    have uR := hide kR
    have u5 := hide k5
    have u6 := hide k6
    clear kP kR k5 k6
    rcases j with _ | _ | _ | _ | j
    · have u1 := mulM_bound (m := 1099511627776) HA1 HP1 (by omega)
      have u2 := mulM_bound (m := 1099511627776) HB1 HP2 (by omega)
      have u3 := mulM_bound (m := 1099511627776) HG1 HP3 (by omega)
      have s1 : IntKind.i64.wrap (a1 * p1) = a1 * p1 := IntWalk.i64_in _ (by omega)
      have s2 : IntKind.i64.wrap (b1 * p2) = b1 * p2 := IntWalk.i64_in _ (by omega)
      have s3 : IntKind.i64.wrap (a1 * p1 + b1 * p2) = a1 * p1 + b1 * p2 := IntWalk.i64_in _ (by omega)
      have s4 : IntKind.i64.wrap (c1 * p3) = c1 * p3 := IntWalk.i64_in _ (by omega)
      have s5 : IntKind.i64.wrap (a1 * p1 + b1 * p2 + c1 * p3) = a1 * p1 + b1 * p2 + c1 * p3 := IntWalk.i64_in _ (by omega)
      have e1 := u5.out.cell 0
      have e2 := u5.out.cell 3
      have e3 := u5.out.cell 6
      have e4 := u6.out.cell 0
      have e5 := u6.out.frozen 0
      have e6 := uP.out.cell 0
      have e7 := uP.out.cell 1
      have e8 := uP.out.cell 2
      simp [vRow] at e1 e2 e3 e4 e6 e7 e8
      clear u1 u2 u3
      go_wp2_with fail
      go_still_tail 25, (by kernel_rfl)
      change wpList _ _ _ _ _ (World.drew wr)
      go_wp2_with fail
      have hv := (show (vRow q 0).setIfInBounds 0 (.int .i64 (a1 * p1 + b1 * p2 + c1 * p3)) = vRow q 1 by rw [← HQ.out.1]; simp only [vRow, List.setIfInBounds_toArray, List.set_cons_zero, List.set_cons_succ])
      have n6 := (u6.out.set_ 0 (.int .i64 (a1 * p1 + b1 * p2 + c1 * p3))).drew
      rw [hv] at n6
      go_roundw
      case rel => exact ⟨1, by omega, by go_num, (uP.out.far (p := ⟨g5 + 1, 0, none⟩) (by show w.heap.size + 1 ≠ g5 + 1; omega) _).drew, (uR.out.far (p := ⟨g5 + 1, 0, none⟩) (by show w.heap.size + 2 ≠ g5 + 1; omega) _).drew, (u5.out.far (p := ⟨g5 + 1, 0, none⟩) (by show g5 ≠ g5 + 1; omega) _).drew, n6, (hbw.setCell (p := ⟨g5 + 1, 0, none⟩) (by show w.heap.size ≤ g5 + 1; omega) _).drew⟩
      case measure => simp [intOf]
    · have u1 := mulM_bound (m := 1099511627776) HA2 HP1 (by omega)
      have u2 := mulM_bound (m := 1099511627776) HB2 HP2 (by omega)
      have u3 := mulM_bound (m := 1099511627776) HG2 HP3 (by omega)
      have s1 : IntKind.i64.wrap (a2 * p1) = a2 * p1 := IntWalk.i64_in _ (by omega)
      have s2 : IntKind.i64.wrap (b2 * p2) = b2 * p2 := IntWalk.i64_in _ (by omega)
      have s3 : IntKind.i64.wrap (a2 * p1 + b2 * p2) = a2 * p1 + b2 * p2 := IntWalk.i64_in _ (by omega)
      have s4 : IntKind.i64.wrap (c2 * p3) = c2 * p3 := IntWalk.i64_in _ (by omega)
      have s5 : IntKind.i64.wrap (a2 * p1 + b2 * p2 + c2 * p3) = a2 * p1 + b2 * p2 + c2 * p3 := IntWalk.i64_in _ (by omega)
      have e1 := u5.out.cell 1
      have e2 := u5.out.cell 4
      have e3 := u5.out.cell 7
      have e4 := u6.out.cell 1
      have e5 := u6.out.frozen 1
      have e6 := uP.out.cell 0
      have e7 := uP.out.cell 1
      have e8 := uP.out.cell 2
      simp [vRow] at e1 e2 e3 e4 e6 e7 e8
      clear u1 u2 u3
      go_wp2_with fail
      go_still_tail 25, (by kernel_rfl)
      change wpList _ _ _ _ _ (World.drew wr)
      go_wp2_with fail
      have hv := (show (vRow q 1).setIfInBounds 1 (.int .i64 (a2 * p1 + b2 * p2 + c2 * p3)) = vRow q 2 by rw [← HQ.out.2.1]; simp only [vRow, List.setIfInBounds_toArray, List.set_cons_zero, List.set_cons_succ])
      have n6 := (u6.out.set_ 1 (.int .i64 (a2 * p1 + b2 * p2 + c2 * p3))).drew
      rw [hv] at n6
      go_roundw
      case rel => exact ⟨2, by omega, by go_num, (uP.out.far (p := ⟨g5 + 1, 1, none⟩) (by show w.heap.size + 1 ≠ g5 + 1; omega) _).drew, (uR.out.far (p := ⟨g5 + 1, 1, none⟩) (by show w.heap.size + 2 ≠ g5 + 1; omega) _).drew, (u5.out.far (p := ⟨g5 + 1, 1, none⟩) (by show g5 ≠ g5 + 1; omega) _).drew, n6, (hbw.setCell (p := ⟨g5 + 1, 1, none⟩) (by show w.heap.size ≤ g5 + 1; omega) _).drew⟩
      case measure => simp [intOf]
    · have u1 := mulM_bound (m := 1099511627776) HA3 HP1 (by omega)
      have u2 := mulM_bound (m := 1099511627776) HB3 HP2 (by omega)
      have u3 := mulM_bound (m := 1099511627776) HG3 HP3 (by omega)
      have s1 : IntKind.i64.wrap (a3 * p1) = a3 * p1 := IntWalk.i64_in _ (by omega)
      have s2 : IntKind.i64.wrap (b3 * p2) = b3 * p2 := IntWalk.i64_in _ (by omega)
      have s3 : IntKind.i64.wrap (a3 * p1 + b3 * p2) = a3 * p1 + b3 * p2 := IntWalk.i64_in _ (by omega)
      have s4 : IntKind.i64.wrap (c3 * p3) = c3 * p3 := IntWalk.i64_in _ (by omega)
      have s5 : IntKind.i64.wrap (a3 * p1 + b3 * p2 + c3 * p3) = a3 * p1 + b3 * p2 + c3 * p3 := IntWalk.i64_in _ (by omega)
      have e1 := u5.out.cell 2
      have e2 := u5.out.cell 5
      have e3 := u5.out.cell 8
      have e4 := u6.out.cell 2
      have e5 := u6.out.frozen 2
      have e6 := uP.out.cell 0
      have e7 := uP.out.cell 1
      have e8 := uP.out.cell 2
      simp [vRow] at e1 e2 e3 e4 e6 e7 e8
      clear u1 u2 u3
      go_wp2_with fail
      go_still_tail 25, (by kernel_rfl)
      change wpList _ _ _ _ _ (World.drew wr)
      go_wp2_with fail
      have hv := (show (vRow q 2).setIfInBounds 2 (.int .i64 (a3 * p1 + b3 * p2 + c3 * p3)) = vRow q 3 by rw [← HQ.out.2.2]; simp only [vRow, List.setIfInBounds_toArray, List.set_cons_zero, List.set_cons_succ])
      have n6 := (u6.out.set_ 2 (.int .i64 (a3 * p1 + b3 * p2 + c3 * p3))).drew
      rw [hv] at n6
      go_roundw
      case rel => exact ⟨3, by omega, by go_num, (uP.out.far (p := ⟨g5 + 1, 2, none⟩) (by show w.heap.size + 1 ≠ g5 + 1; omega) _).drew, (uR.out.far (p := ⟨g5 + 1, 2, none⟩) (by show w.heap.size + 2 ≠ g5 + 1; omega) _).drew, (u5.out.far (p := ⟨g5 + 1, 2, none⟩) (by show g5 ≠ g5 + 1; omega) _).drew, n6, (hbw.setCell (p := ⟨g5 + 1, 2, none⟩) (by show w.heap.size ≤ g5 + 1; omega) _).drew⟩
      case measure => simp [intOf]
    · have e4 := u6.out.cell 0
      have e5 := u6.out.cell 1
      have e6 := u6.out.cell 2
      have e7 := uR.out.cell 0
      have e8 := uR.out.cell 1
      have e9 := uR.out.cell 2
      have f7 := uR.out.frozen 0
      have f8 := uR.out.frozen 1
      have f9 := uR.out.frozen 2
      simp [vRow] at e4 e5 e6 e7 e8 e9
      go_wp2_with fail
      have hfin := hide (((hbw.setCell (p := ⟨w.heap.size + 1 + 1, 0, none⟩) (by show w.heap.size ≤ w.heap.size + 1 + 1; omega) (.int .i64 q.1)).setCell (p := ⟨w.heap.size + 1 + 1, 1, none⟩) (by show w.heap.size ≤ w.heap.size + 1 + 1; omega) (.int .i64 q.2.1)).setCell (p := ⟨w.heap.size + 1 + 1, 2, none⟩) (by show w.heap.size ≤ w.heap.size + 1 + 1; omega) (.int .i64 q.2.2))
      have hR : Blk wr (w.heap.size + 1 + 1) 44 #[.int .i64 0, .int .i64 0, .int .i64 0] := uR.out
      refine bodyPost_ret (results_c rfl rfl (((hR.set_ 0 _).set_ 1 _).set_ 2 _) Tryz.underlying44 rfl (by kernel_rfl)) rfl ?_
      refine ⟨q, ?_, hide Hq.out.symm, hfin.out⟩
      simp only [List.setIfInBounds_toArray, List.set_cons_zero, List.set_cons_succ]
    · omega
end Go.Proofs.YtpmipoljnchheaaGreat
namespace Go.Proofs.YtpmipoljnchheaaGreat
open Go.RowKit

set_option maxHeartbeats 1000000 in
theorem frameValid_any (x y : Int) (w : World) : Calls Tryz.prog 123 #[.agg #[.int .i64 x, .int .i64 y]] w fun e w' => e = .returned (.bool (turnOk x y)) ∧ Below w.heap.size w w' := by
  have HX := hide (fun (W : World) => axis_any x W)
  have HY := hide (fun (W : World) => axis_any y W)
  cases hx : axisN x
  · have Hr := hide (show turnOk x y = false by rw [turnOk, hx]; rfl)
    rw [hx] at HX
    clear hx
    go_enter Tryz.func123, Tryz.ntmps123
    go_wp2_with fail
    refine (HX.out _).mono ?_
    rintro e w2 ⟨rfl, rfl⟩
    go_wp2_with fail
    go_ret
    exact ⟨ret_bool Hr.out.symm, below_new w _⟩
  cases hy : axisN y
  · have Hr := hide (show turnOk x y = false by rw [turnOk, hx, hy]; rfl)
    rw [hx] at HX
    rw [hy] at HY
    clear hx hy
    go_enter Tryz.func123, Tryz.ntmps123
    go_wp2_with fail
    refine (HX.out _).mono ?_
    rintro e w2 ⟨rfl, rfl⟩
    go_wp2_with fail
    refine (HY.out _).mono ?_
    rintro e w2 ⟨rfl, rfl⟩
    go_wp2_with fail
    go_ret
    exact ⟨ret_bool Hr.out.symm, below_new w _⟩
  have hry : -3 ≤ y ∧ y ≤ 3 := by
    simp [axisN] at hy
    omega
  have Hr := hide (show turnOk x y = (!decide (x = y) && !decide (x = -y)) by rw [turnOk, hx, hy]; rfl)
  have sn : IntKind.i64.wrap (-y) = -y := IntWalk.i64_in _ (by omega)
  rw [hx] at HX
  rw [hy] at HY
  clear hx hy
  go_enter Tryz.func123, Tryz.ntmps123
  go_wp2_with fail
  refine (HX.out _).mono ?_
  rintro e w2 ⟨rfl, rfl⟩
  go_wp2_with fail
  refine (HY.out _).mono ?_
  rintro e w2 ⟨rfl, rfl⟩
  go_wp2_with fail
  all_goals
    go_ret
    exact ⟨ret_bool (by rw [Hr.out, Bool.eq_iff_iff]; simp_all), below_new w _⟩

theorem img_range {x y : Int} {p : Pt} {m : Int} (h : turnOk x y = true) (hp : nearBy m p = true) (hm : 0 ≤ m) : nearBy (3 * m) (imgV x y p) = true := by
  obtain ⟨HP1, HP2, HP3⟩ := nearBy_iff.1 hp
  have hx : axis6 x := by
    simp only [turnOk, Bool.and_eq_true] at h
    exact axis6_of h.1.1.1
  have hy : axis6 y := by
    simp only [turnOk, Bool.and_eq_true] at h
    exact axis6_of h.1.1.2
  obtain ⟨A1, A2, A3⟩ := unitish_of hx
  obtain ⟨B1, B2, B3⟩ := unitish_of hy
  obtain ⟨C1, C2, C3⟩ := cross_unit h
  rw [nearBy_iff, imgV, linV]
  have a1 := mulM_bound A1 HP1 hm
  have a2 := mulM_bound A2 HP1 hm
  have a3 := mulM_bound A3 HP1 hm
  have b1 := mulM_bound B1 HP2 hm
  have b2 := mulM_bound B2 HP2 hm
  have b3 := mulM_bound B3 HP2 hm
  have c1 := mulM_bound C1 HP3 hm
  have c2 := mulM_bound C2 HP3 hm
  have c3 := mulM_bound C3 HP3 hm
  simp only
  omega
abbrev ptA (p : Pt) : Value := .agg #[.int .i64 p.1, .int .i64 p.2.1, .int .i64 p.2.2]
set_option maxHeartbeats 4000000 in
set_option maxRecDepth 100000 in
theorem placed_any (x y : Int) (a p : Pt) (w : World) (h : turnOk x y = true) (ha : nearBy 1099511627776 a = true) (hp : nearBy 1099511627776 p = true) :
    Calls Tryz.prog 178 #[.agg #[.int .i64 x, .int .i64 y], ptA a, ptA p] w fun e w' => ∃ q : Pt, e = .returned (ptA q) ∧ Hid (q = addP a (imgV x y p)) ∧ Below w.heap.size w w' := by
  have HI := hide (fun (W : World) => image_any x y p W h hp)
  have hr := img_range h hp (by omega)
  obtain ⟨v, hv⟩ : ∃ v, v = imgV x y p := ⟨_, rfl⟩
  rw [← hv] at HI hr
  have Hv := hide hv
  obtain ⟨⟨r1, r2⟩, ⟨r3, r4⟩, r5, r6⟩ := nearBy_iff.1 hr
  obtain ⟨⟨t1, t2⟩, ⟨t3, t4⟩, t5, t6⟩ := nearBy_iff.1 ha
  obtain ⟨v1, v2, v3⟩ := v
  obtain ⟨a1, a2, a3⟩ := a
  obtain ⟨p1, p2, p3⟩ := p
  simp only at r1 r2 r3 r4 r5 r6 t1 t2 t3 t4 t5 t6 HI
  have g4 := (Blk.new1 w (.cells #[.int .i64 x, .int .i64 y] 77) 44 #[.int .i64 a1, .int .i64 a2, .int .i64 a3])
  have z1 : IntKind.i64.wrap (a1 + v1) = a1 + v1 := IntWalk.i64_in _ (by omega)
  have z2 : IntKind.i64.wrap (a2 + v2) = a2 + v2 := IntWalk.i64_in _ (by omega)
  have z3 : IntKind.i64.wrap (a3 + v3) = a3 + v3 := IntWalk.i64_in _ (by omega)
  obtain ⟨o1, ho1⟩ : ∃ o1 : Obj, o1 = .cells #[.int .i64 x, .int .i64 y] 77 := ⟨_, rfl⟩
  obtain ⟨o3, ho3⟩ : ∃ o3 : Obj, o3 = .cells #[.int .i64 p1, .int .i64 p2, .int .i64 p3] 44 := ⟨_, rfl⟩
  have hB := hide ((((below_new2 w (.cells #[.int .i64 x, .int .i64 y] 77) (.cells #[.int .i64 a1, .int .i64 a2, .int .i64 a3] 44)).alloc (by simp; omega) (.cells #[.int .i64 p1, .int .i64 p2, .int .i64 p3] 44)).alloc (by simp; omega) (.cells #[.int .i64 0, .int .i64 0, .int .i64 0] 44)))
  have kA := hide ((g4.alloc (.cells #[.int .i64 p1, .int .i64 p2, .int .i64 p3] 44)).alloc (.cells #[.int .i64 0, .int .i64 0, .int .i64 0] 44))
  have kR0 := Blk.new (((w.alloc (.cells #[.int .i64 x, .int .i64 y] 77)).alloc (.cells #[.int .i64 a1, .int .i64 a2, .int .i64 a3] 44)).alloc (.cells #[.int .i64 p1, .int .i64 p2, .int .i64 p3] 44)) 44 #[.int .i64 0, .int .i64 0, .int .i64 0]
  rw [size_alloc', size_alloc', size_alloc'] at kR0
  have kR := hide kR0
  clear h ha hp hr hv g4 kR0 ho1 ho3 o1 o3
  show Calls Tryz.prog 178 #[.agg #[.int .i64 x, .int .i64 y], .agg #[.int .i64 a1, .int .i64 a2, .int .i64 a3], .agg #[.int .i64 p1, .int .i64 p2, .int .i64 p3]] w _
  go_enter Tryz.func178, Tryz.ntmps178
  go_wp2_with fail
  refine (HI.out _).mono ?_
  rintro e w2 ⟨q, rfl, hq, hb2⟩
  obtain rfl := hq.out
  have bA := kA.out.keep hb2
  have bR := kR.out.keep hb2
  have hw2 := below_step hB.out hb2 (Nat.le_refl _)
  have hsz : w.heap.size + 1 + 1 + 1 < w2.heap.size := bR.lt
  clear hb2 hB kA kR HI hq
  have c0 := bA.cell 0
  have c1 := bA.cell 1
  have c2 := bA.cell 2
  have d0 := bR.cell 0
  have d1 := bR.cell 1
  have d2 := bR.cell 2
  have f0 := bR.frozen 0
  have f1 := bR.frozen 1
  have f2 := bR.frozen 2
  simp at c0 c1 c2 d0 d1 d2
  have hl1 := bA.lt
  have hw3 := hide hw2
  have hR3 := hide bR
  clear bA bR hw2
  go_wp2_with fail
  have hfin := hide ((((hw3.out.setCell (p := ⟨w.heap.size + 1 + 1 + 1, 0, none⟩) (by show w.heap.size ≤ w.heap.size + 1 + 1 + 1; omega) (.int .i64 (a1 + v1))).setCell (p := ⟨w.heap.size + 1 + 1 + 1, 1, none⟩) (by show w.heap.size ≤ w.heap.size + 1 + 1 + 1; omega) (.int .i64 (a2 + v2))).setCell (p := ⟨w.heap.size + 1 + 1 + 1, 2, none⟩) (by show w.heap.size ≤ w.heap.size + 1 + 1 + 1; omega) (.int .i64 (a3 + v3))).alloc (by have := hw3.out.size; simpa using this) (.cells #[.int .i64 v1, .int .i64 v2, .int .i64 v3] 44))
  refine bodyPost_ret (results_c rfl rfl ((((hR3.out.set_ 0 _).set_ 1 _).set_ 2 _).alloc _) Tryz.underlying44 rfl (by kernel_rfl)) rfl ?_
  refine ⟨(a1 + v1, a2 + v2, a3 + v3), ?_, hide (by rw [← Hv.out]; rfl), hfin.out⟩
  simp only [List.setIfInBounds_toArray, List.set_cons_zero, List.set_cons_succ]
end Go.Proofs.YtpmipoljnchheaaGreat
namespace Go.Proofs.YtpmipoljnchheaaGreat
open Go.RowKit

def mapPts (x y : Int) (a : Pt) (l : List Pt) : List Pt := l.map fun p => addP a (imgV x y p)
theorem mapPts_snoc (x y : Int) (a : Pt) (l : List Pt) (p : Pt) : mapPts x y a (l ++ [p]) = mapPts x y a l ++ [addP a (imgV x y p)] := by simp [mapPts]
theorem mapPts_len (x y : Int) (a : Pt) (l : List Pt) : (mapPts x y a l).length = l.length := by simp [mapPts]
theorem encPt_flat (p : Pt) : [p].flatMap encPt = encPt p := by simp
set_option maxHeartbeats 4000000 in
set_option maxRecDepth 100000 in
theorem framePath_ok (x y : Int) (a : Pt) (A : Option Addr) (l : List Pt) (n c : Nat) (w : World) {B : Nat} (h : PtsAt w B A l) (hB : B ≤ w.heap.size) (hn : n = l.length) (ht : turnOk x y = true) (hl : n ≤ 1000) (ha : nearBy 1048576 a = true) (hp : ∀ p ∈ l, nearBy 1048576 p = true) :
    Calls Tryz.prog 146 #[.agg #[.int .i64 x, .int .i64 y], ptA a, .slice A n c] w fun e w' => ∃ A' c', e = .returned (.tuple #[.slice A' n c', .int .i64 0]) ∧ PtsAt w' w'.heap.size A' (mapPts x y a l) ∧ Below w.heap.size w w' := by
  have HV := fun (W : World) => frameValid_any x y W
  rw [ht] at HV
  have HV := hide HV
  have HPl := hide (fun (W : World) (p : Pt) (hpl : p ∈ l) => placed_any x y a p W ht (nearBy_mono ha (by omega)) (nearBy_mono (hp p hpl) (by omega)))
  have hnl : l.all (nearBy 1048576) = true := List.all_eq_true.2 hp
  have HNl := fun (W : World) (hz : Below w.heap.size w W) => near_any A l n c W (h.carry (Flat.carried _) (hz.mono hB) (Nat.le_refl _)) (Nat.le_trans hB hz.size) hn (by omega)
  rw [hnl] at HNl
  have HNl := hide HNl
  have HNa := fun (W : World) => near_any (some ⟨W.heap.size, 0, none⟩) [a] 1 1 (W.alloc (.cells #[.int .i64 a.1, .int .i64 a.2.1, .int .i64 a.2.2] 44)) (B := W.heap.size + 1) (SlOf.lit encPt_len W 44 _ [a] rfl (Nat.lt_succ_self _)) (by simp) rfl (by omega)
  rw [show [a].all (nearBy 1048576) = true by simp [ha]] at HNa
  have HNa := hide HNa
  have Hs := hide h
  have hn' := hide hn
  have d0 : decide (1000 < (n : Int)) = false := by simp; omega
  obtain ⟨a1, a2, a3⟩ := a
  have b0 := (Blk.new w 77 #[.int .i64 x, .int .i64 y]).alloc (.cells #[.int .i64 a1, .int .i64 a2, .int .i64 a3] 44)
  have b1 := Blk.new1 w (.cells #[.int .i64 x, .int .i64 y] 77) 44 #[.int .i64 a1, .int .i64 a2, .int .i64 a3]
  have hw0 := below_new2 w (.cells #[.int .i64 x, .int .i64 y] 77) (.cells #[.int .i64 a1, .int .i64 a2, .int .i64 a3] 44)
  have K0 := hide b0
  have K1 := hide b1
  have HW0 := hide hw0
  clear h hn ht ha hp hnl b0 b1 hw0
  show Calls Tryz.prog 146 #[.agg #[.int .i64 x, .int .i64 y], .agg #[.int .i64 a1, .int .i64 a2, .int .i64 a3], .slice A n c] w _
  go_enter Tryz.func146, Tryz.ntmps146
  go_wp2_with fail
  refine (HV.out _).mono ?_
  rintro e w2 ⟨rfl, hb2⟩
  have k0 := K0.out.keep hb2
  have k1 := K1.out.keep hb2
  have hw2 := hide (below_step HW0.out hb2 (Nat.le_refl _))
  have c0 := k1.cell 0
  have c1 := k1.cell 1
  have c2 := k1.cell 2
  simp at c0 c1 c2
  have K0 := hide k0
  have K1 := hide k1
  clear hb2 k0 k1 HV HW0
  go_wp2_with fail
  refine (HNa.out _).mono ?_
  rintro e w3 ⟨rfl, hb3⟩
  have hb23 := (below_new w2 (.cells #[.int .i64 a1, .int .i64 a2, .int .i64 a3] 44)).trans (hb3.mono (by simp))
  have K0 := hide (K0.out.keep hb23)
  have K1 := hide (K1.out.keep hb23)
  have hw3 := hide (below_step hw2.out hb23 (Nat.le_refl _))
  clear hb3 hb23 c0 c1 c2 hw2 HNa
  go_wp2_with fail
  refine (HNl.out _ hw3.out).mono ?_
  rintro e w4 ⟨rfl, hb4⟩
  have K0 := hide (K0.out.keep hb4)
  have K1 := hide (K1.out.keep hb4)
  have hw4 := hide (below_step hw3.out hb4 (Nat.le_refl _))
  clear hb4 hw3 HNl
  go_wp2_with fail
  go_loopw [8, 31] (fun v i wr => ∃ k : Nat, k ≤ n ∧ i = .int .i64 k ∧ Row wr w4.heap.size 44 3 encPt v (mapPts x y (a1, a2, a3) (l.take k)) ∧ Below w4.heap.size w4 wr) (fun _ i _ => n - (intOf i).toNat)
  case atStart => exact ⟨0, Nat.zero_le _, rfl, Row.nil _ _ _ _ _, Below.refl _ _⟩
  case round =>
    obtain ⟨k, hk, rfl, hrow, hbr⟩ := hrel
    obtain ⟨A0, c0, rfl⟩ := hrow.val
    have hacc : (mapPts x y (a1, a2, a3) (l.take k)).length ≤ 1000 := by rw [mapPts_len, List.length_take]; omega
    have Hrow := hide hrow
    clear hrow
    by_cases hlt : k < n
    · have Hbw := hide (below_step hw4.out hbr (Nat.le_refl _))
      obtain ⟨b, off, p, rfl, hbl, hx, e0, e1, e2⟩ := PtsAt.get (k := k) (Hs.out.carry (Flat.carried _) (Hbw.out.mono hB) (Nat.le_refl _)) (by rw [← hn'.out]; exact hlt)
      have hbw : b < wr.heap.size := by have := Hbw.out.size; omega
      have Hn := hide (show mapPts x y (a1, a2, a3) (l.take (k + 1)) = mapPts x y (a1, a2, a3) (l.take k) ++ [addP (a1, a2, a3) (imgV x y p)] by rw [take_snoc' hx, mapPts_snoc])
      have HPp := hide (fun W => HPl.out W p (mem_of_get hx))
      generalize mapPts x y (a1, a2, a3) (l.take k) = acc at *
      have kk0 := K0.out.below hbr K0.out.lt
      have kk1 := K1.out.below hbr K1.out.lt
      have f0 := kk0.cell 0
      have f1 := kk0.cell 1
      have g0 := kk1.cell 0
      have g1 := kk1.cell 1
      have g2 := kk1.cell 2
      simp at f0 f1 g0 g1 g2
      have hl0 := kk0.lt
      have hl1 := kk1.lt
      obtain ⟨p1, p2, p3⟩ := p
      simp only at e0 e1 e2
      clear hx hbl kk0 kk1
      go_wp2_with fail
      refine (HPp.out _).mono ?_
      rintro e w5 ⟨q, rfl, hq, hb5⟩
      obtain ⟨q1, q2, q3⟩ := q
      have hbr5 := hide (hbr.trans ((below_new wr (.cells #[.int .i64 p1, .int .i64 p2, .int .i64 p3] 44)).trans (hb5.mono (by simp)) |>.mono hbr.size))
      have Hrow5 := hide (Hrow.out.keep ((below_new wr (.cells #[.int .i64 p1, .int .i64 p2, .int .i64 p3] 44)).trans (hb5.mono (by simp))))
      clear hb5 f0 f1 g0 g1 g2 e0 e1 e2
      go_wp2_with (at_builtin; refine wpList_append1 rfl (.tmp 35) (.tmp 40) 74 rfl w4.heap.size 44 (.agg #[.int .i64 0, .int .i64 0, .int .i64 0]) 3 24 encPt Tryz.underlying74 (by kernel_rfl) rfl (by omega) encPt_len encPt_one _ acc (q1, q2, q3) rfl (Hrow5.out.alloc _) _ rfl (Blk.new w5 _ _) (by omega) (by omega) (le_alloc hbr5.out.size _) ?_; intro A1 c1 w6 hrow6 hb6 _)
      go_roundw
      case rel => exact ⟨k + 1, by omega, by go_num, by rw [Hn.out, ← hq.out]; simpa using hrow6, (hbr5.out.alloc hbr5.out.size _).trans hb6⟩
      case measure => simp [intOf]; omega
    · obtain rfl : k = n := by omega
      have hfull := (show mapPts x y (a1, a2, a3) (l.take k) = mapPts x y (a1, a2, a3) l by rw [hn'.out, List.take_length])
      have hlen : (mapPts x y (a1, a2, a3) (l.take k)).length = k := by rw [mapPts_len, List.length_take]; have := hn'.out; omega
      have Hread := hide (show PtsAt wr wr.heap.size A0 (mapPts x y (a1, a2, a3) l) by rw [← hfull]; exact Row.read Hrow.out encPt_len (by omega))
      have Hlen := hide hlen
      clear hfull Hrow
      generalize (mapPts x y (a1, a2, a3) (l.take k)).length = m at *
      go_wp2_with fail
      go_ret2
      exact ⟨A0, c0, by rw [Hlen.out]; rfl, Hread.out, below_step hw4.out hbr (Nat.le_refl _)⟩
end Go.Proofs.YtpmipoljnchheaaGreat
