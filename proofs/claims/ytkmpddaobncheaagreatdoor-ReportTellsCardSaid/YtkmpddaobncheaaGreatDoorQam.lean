/- The image of a point. -/
import Derived.Test.YtkmpddaobncheaaGreatDoorQak
import Derived.Test.YtkmpddaobncheaaGreatDoorQaf
import Derived.BigRegion
import Derived.StillTailTactics
namespace Go.Proofs.YtkmpddaobncheaaGreatDoor
open Go.RowKit

def vRow (q : Pt) : Nat → Array Value
  | 0 => #[.int .i64 0, .int .i64 0, .int .i64 0]
  | 1 => #[.int .i64 q.1, .int .i64 0, .int .i64 0]
  | 2 => #[.int .i64 q.1, .int .i64 q.2.1, .int .i64 0]
  | _ => #[.int .i64 q.1, .int .i64 q.2.1, .int .i64 q.2.2]
set_option maxHeartbeats 4000000 in
set_option maxRecDepth 100000 in
theorem image_any (x y : Int) (p : Pt) (w : World) (h : turnOk x y = true) (hp : nearBy 1099511627776 p = true) :
    Calls Tryz.prog 238 #[.agg #[.int .i64 x, .int .i64 y], .agg #[.int .i64 p.1, .int .i64 p.2.1, .int .i64 p.2.2]] w fun e w' => ∃ q : Pt, e = .returned (.agg #[.int .i64 q.1, .int .i64 q.2.1, .int .i64 q.2.2]) ∧ Hid (q = imgV x y p) ∧ Below w.heap.size w w' := by
  have HC := hide (fun (w : World) => columns_any x y w h)
  obtain ⟨HP1, HP2, HP3⟩ := nearBy_iff.1 hp
  have hx : axis6 x := by
    simp only [turnOk, Bool.and_eq_true] at h
    exact axis6_of h.1.1.1
  have hy : axis6 y := by
    simp only [turnOk, Bool.and_eq_true] at h
    exact axis6_of h.1.1.2
  have HU := hide (And.intro (unitish_of hx) (And.intro (unitish_of hy) (cross_unit h)))
  have Hi := hide (show imgV x y p = linV (unitV x) (unitV y) (crossV (unitV x) (unitV y)) p from rfl)
  obtain ⟨p1, p2, p3⟩ := p
  simp only at HP1 HP2 HP3
  have g3 := Blk.new1 w (.cells #[.int .i64 x, .int .i64 y] 118) 49 #[.int .i64 p1, .int .i64 p2, .int .i64 p3]
  clear h hx hy hp
  go_enter Tryz.func238, Tryz.ntmps238
  go_wp2_with (go_at_call 273; refine (HC.out _).mono ?_; rintro e w2 ⟨a, b, c, rfl, hres, hb2⟩)
  obtain ⟨ha, hb, hc⟩ := hres.out
  obtain ⟨⟨HA1, HA2, HA3⟩, ⟨HB1, HB2, HB3⟩, HG1, HG2, HG3⟩ := HU.out
  rw [← ha] at HA1 HA2 HA3
  rw [← hb] at HB1 HB2 HB3
  rw [← hc] at HG1 HG2 HG3
  have Hq := hide (show imgV x y (p1, p2, p3) = linV a b c (p1, p2, p3) by rw [Hi.out, ha, hb, hc])
  clear ha hb hc hres HU Hi HC
  obtain ⟨a1, a2, a3⟩ := a
  obtain ⟨b1, b2, b3⟩ := b
  obtain ⟨c1, c2, c3⟩ := c
  simp only at HA1 HA2 HA3 HB1 HB2 HB3 HG1 HG2 HG3
  obtain ⟨q, hq⟩ : ∃ q, q = linV (a1, a2, a3) (b1, b2, b3) (c1, c2, c3) (p1, p2, p3) := ⟨_, rfl⟩
  rw [← hq] at Hq
  have hq1 : q.1 = a1 * p1 + b1 * p2 + c1 * p3 := by rw [hq]; rfl
  have hq2 : q.2.1 = a2 * p1 + b2 * p2 + c2 * p3 := by rw [hq]; rfl
  have hq3 : q.2.2 = a3 * p1 + b3 * p2 + c3 * p3 := by rw [hq]; rfl
  have HQ := hide (And.intro hq1 (And.intro hq2 hq3))
  clear hq hq1 hq2 hq3
  obtain ⟨w3, hw3⟩ : ∃ w3, w3 = (w2.alloc (.cells #[.int .i64 a1, .int .i64 a2, .int .i64 a3, .int .i64 b1, .int .i64 b2, .int .i64 b3, .int .i64 c1, .int .i64 c2, .int .i64 c3] 325)).alloc (.cells #[.int .i64 0, .int .i64 0, .int .i64 0] 297) := ⟨_, rfl⟩
  have k5 := (Blk.new w2 325 #[.int .i64 a1, .int .i64 a2, .int .i64 a3, .int .i64 b1, .int .i64 b2, .int .i64 b3, .int .i64 c1, .int .i64 c2, .int .i64 c3]).alloc (.cells #[.int .i64 0, .int .i64 0, .int .i64 0] 297)
  have k6 := Blk.new1 w2 (.cells #[.int .i64 a1, .int .i64 a2, .int .i64 a3, .int .i64 b1, .int .i64 b2, .int .i64 b3, .int .i64 c1, .int .i64 c2, .int .i64 c3] 325) 297 #[.int .i64 0, .int .i64 0, .int .i64 0]
  rw [← hw3] at k5 k6 ⊢
  have kP := (((g3.alloc (.cells #[.int .i64 0, .int .i64 0, .int .i64 0] 49)).keep hb2).alloc (.cells #[.int .i64 a1, .int .i64 a2, .int .i64 a3, .int .i64 b1, .int .i64 b2, .int .i64 b3, .int .i64 c1, .int .i64 c2, .int .i64 c3] 325)).alloc (.cells #[.int .i64 0, .int .i64 0, .int .i64 0] 297)
  have kR := (((Blk.new2 w (.cells #[.int .i64 x, .int .i64 y] 118) (.cells #[.int .i64 p1, .int .i64 p2, .int .i64 p3] 49) 49 #[.int .i64 0, .int .i64 0, .int .i64 0]).keep hb2).alloc (.cells #[.int .i64 a1, .int .i64 a2, .int .i64 a3, .int .i64 b1, .int .i64 b2, .int .i64 b3, .int .i64 c1, .int .i64 c2, .int .i64 c3] 325)).alloc (.cells #[.int .i64 0, .int .i64 0, .int .i64 0] 297)
  have hbw := (below_step ((below_new2 w (.cells #[.int .i64 x, .int .i64 y] 118) (.cells #[.int .i64 p1, .int .i64 p2, .int .i64 p3] 49)).alloc (by simp; omega) (.cells #[.int .i64 0, .int .i64 0, .int .i64 0] 49)) hb2 (Nat.le_refl _)).trans ((below_new2 w2 (.cells #[.int .i64 a1, .int .i64 a2, .int .i64 a3, .int .i64 b1, .int .i64 b2, .int .i64 b3, .int .i64 c1, .int .i64 c2, .int .i64 c3] 325) (.cells #[.int .i64 0, .int .i64 0, .int .i64 0] 297)).mono (by have := hb2.size; simp at this; omega))
  have hsz : w.heap.size + 3 ≤ w2.heap.size := by have := hb2.size; simp at this; omega
  rw [← hw3] at kP kR hbw
  have KP := hide kP
  have KR := hide kR
  have K5 := hide k5
  have K6 := hide k6
  have Hbw := hide hbw
  obtain ⟨g5, hg5⟩ : ∃ g5, g5 = w2.heap.size := ⟨_, rfl⟩
  rw [← hg5] at K5 K6 ⊢
  have h5w : w.heap.size + 3 ≤ g5 := by omega
  clear kP kR k5 k6 hbw hw3 hb2 g3 hg5 hsz
  go_loopw [10] (fun i wr => ∃ j : Nat, j ≤ 3 ∧ i = .int .i64 j ∧ Blk wr (w.heap.size + 1) 49 #[.int .i64 p1, .int .i64 p2, .int .i64 p3] ∧ Blk wr (w.heap.size + 2) 49 #[.int .i64 0, .int .i64 0, .int .i64 0] ∧ Blk wr g5 325 #[.int .i64 a1, .int .i64 a2, .int .i64 a3, .int .i64 b1, .int .i64 b2, .int .i64 b3, .int .i64 c1, .int .i64 c2, .int .i64 c3] ∧ Blk wr (g5 + 1) 297 (vRow q j) ∧ Below w.heap.size w wr) (fun i _ => 3 - (intOf i).toNat)
  case atStart => exact ⟨0, by omega, rfl, KP.out, KR.out, K5.out, K6.out, Hbw.out⟩
  case round =>
    clear KP KR K5 K6 Hbw
    obtain ⟨j, hj, rfl, kP, kR, k5, k6, hbw⟩ := hrel
    have uP := hide kP
    have uR := hide kR
    have u5 := hide k5
    have u6 := hide k6
    clear kP kR k5 k6
    rcases j with _ | _ | _ | _ | j
    · have u1 := mulM_bound (m := 1099511627776) HA1 HP1 (by omega)
      have u2 := mulM_bound (m := 1099511627776) HB1 HP2 (by omega)
      have u3 := mulM_bound (m := 1099511627776) HG1 HP3 (by omega)
      have s1 : IntKind.i64.wrap (a1 * p1) = a1 * p1 := IntWalk.i64_in _ (by omega)
      have s2 : IntKind.i64.wrap (b1 * p2) = b1 * p2 := IntWalk.i64_in _ (by omega)
      have s3 : IntKind.i64.wrap (a1 * p1 + b1 * p2) = a1 * p1 + b1 * p2 := IntWalk.i64_in _ (by omega)
      have s4 : IntKind.i64.wrap (c1 * p3) = c1 * p3 := IntWalk.i64_in _ (by omega)
      have s5 : IntKind.i64.wrap (a1 * p1 + b1 * p2 + c1 * p3) = a1 * p1 + b1 * p2 + c1 * p3 := IntWalk.i64_in _ (by omega)
      have e1 := u5.out.cell 0
      have e2 := u5.out.cell 3
      have e3 := u5.out.cell 6
      have e4 := u6.out.cell 0
      have e5 := u6.out.frozen 0
      have e6 := uP.out.cell 0
      have e7 := uP.out.cell 1
      have e8 := uP.out.cell 2
      simp [vRow] at e1 e2 e3 e4 e6 e7 e8
      clear u1 u2 u3
      go_wp2_with fail
      go_still_tail 25, (by kernel_rfl)
      change wpList _ _ _ _ _ (World.drew wr)
      go_wp2_with fail
      have hv := (show (vRow q 0).setIfInBounds 0 (.int .i64 (a1 * p1 + b1 * p2 + c1 * p3)) = vRow q 1 by rw [← HQ.out.1]; first | (simp only [vRow, List.setIfInBounds_toArray, List.set_cons_zero]; done) | simp only [vRow, List.setIfInBounds_toArray, List.set_cons_zero, List.set_cons_succ])
      have n6 := (u6.out.set_ 0 (.int .i64 (a1 * p1 + b1 * p2 + c1 * p3))).drew
      rw [hv] at n6
      go_roundw
      case rel => exact ⟨1, by omega, by go_num, (uP.out.far (p := ⟨g5 + 1, 0, none⟩) (by show w.heap.size + 1 ≠ g5 + 1; omega) _).drew, (uR.out.far (p := ⟨g5 + 1, 0, none⟩) (by show w.heap.size + 2 ≠ g5 + 1; omega) _).drew, (u5.out.far (p := ⟨g5 + 1, 0, none⟩) (by show g5 ≠ g5 + 1; omega) _).drew, n6, (hbw.setCell (p := ⟨g5 + 1, 0, none⟩) (by show w.heap.size ≤ g5 + 1; omega) _).drew⟩
      case measure => simp [intOf]
    · have u1 := mulM_bound (m := 1099511627776) HA2 HP1 (by omega)
      have u2 := mulM_bound (m := 1099511627776) HB2 HP2 (by omega)
      have u3 := mulM_bound (m := 1099511627776) HG2 HP3 (by omega)
      have s1 : IntKind.i64.wrap (a2 * p1) = a2 * p1 := IntWalk.i64_in _ (by omega)
      have s2 : IntKind.i64.wrap (b2 * p2) = b2 * p2 := IntWalk.i64_in _ (by omega)
      have s3 : IntKind.i64.wrap (a2 * p1 + b2 * p2) = a2 * p1 + b2 * p2 := IntWalk.i64_in _ (by omega)
      have s4 : IntKind.i64.wrap (c2 * p3) = c2 * p3 := IntWalk.i64_in _ (by omega)
      have s5 : IntKind.i64.wrap (a2 * p1 + b2 * p2 + c2 * p3) = a2 * p1 + b2 * p2 + c2 * p3 := IntWalk.i64_in _ (by omega)
      have e1 := u5.out.cell 1
      have e2 := u5.out.cell 4
      have e3 := u5.out.cell 7
      have e4 := u6.out.cell 1
      have e5 := u6.out.frozen 1
      have e6 := uP.out.cell 0
      have e7 := uP.out.cell 1
      have e8 := uP.out.cell 2
      simp [vRow] at e1 e2 e3 e4 e6 e7 e8
      clear u1 u2 u3
      go_wp2_with fail
      go_still_tail 25, (by kernel_rfl)
      change wpList _ _ _ _ _ (World.drew wr)
      go_wp2_with fail
      have hv := (show (vRow q 1).setIfInBounds 1 (.int .i64 (a2 * p1 + b2 * p2 + c2 * p3)) = vRow q 2 by rw [← HQ.out.2.1]; first | (simp only [vRow, List.setIfInBounds_toArray]; done) | simp only [vRow, List.setIfInBounds_toArray, List.set_cons_zero, List.set_cons_succ])
      have n6 := (u6.out.set_ 1 (.int .i64 (a2 * p1 + b2 * p2 + c2 * p3))).drew
      rw [hv] at n6
      go_roundw
      case rel => exact ⟨2, by omega, by go_num, (uP.out.far (p := ⟨g5 + 1, 1, none⟩) (by show w.heap.size + 1 ≠ g5 + 1; omega) _).drew, (uR.out.far (p := ⟨g5 + 1, 1, none⟩) (by show w.heap.size + 2 ≠ g5 + 1; omega) _).drew, (u5.out.far (p := ⟨g5 + 1, 1, none⟩) (by show g5 ≠ g5 + 1; omega) _).drew, n6, (hbw.setCell (p := ⟨g5 + 1, 1, none⟩) (by show w.heap.size ≤ g5 + 1; omega) _).drew⟩
      case measure => simp [intOf]
    · have u1 := mulM_bound (m := 1099511627776) HA3 HP1 (by omega)
      have u2 := mulM_bound (m := 1099511627776) HB3 HP2 (by omega)
      have u3 := mulM_bound (m := 1099511627776) HG3 HP3 (by omega)
      have s1 : IntKind.i64.wrap (a3 * p1) = a3 * p1 := IntWalk.i64_in _ (by omega)
      have s2 : IntKind.i64.wrap (b3 * p2) = b3 * p2 := IntWalk.i64_in _ (by omega)
      have s3 : IntKind.i64.wrap (a3 * p1 + b3 * p2) = a3 * p1 + b3 * p2 := IntWalk.i64_in _ (by omega)
      have s4 : IntKind.i64.wrap (c3 * p3) = c3 * p3 := IntWalk.i64_in _ (by omega)
      have s5 : IntKind.i64.wrap (a3 * p1 + b3 * p2 + c3 * p3) = a3 * p1 + b3 * p2 + c3 * p3 := IntWalk.i64_in _ (by omega)
      have e1 := u5.out.cell 2
      have e2 := u5.out.cell 5
      have e3 := u5.out.cell 8
      have e4 := u6.out.cell 2
      have e5 := u6.out.frozen 2
      have e6 := uP.out.cell 0
      have e7 := uP.out.cell 1
      have e8 := uP.out.cell 2
      simp [vRow] at e1 e2 e3 e4 e6 e7 e8
      clear u1 u2 u3
      go_wp2_with fail
      go_still_tail 25, (by kernel_rfl)
      change wpList _ _ _ _ _ (World.drew wr)
      go_wp2_with fail
      have hv := (show (vRow q 2).setIfInBounds 2 (.int .i64 (a3 * p1 + b3 * p2 + c3 * p3)) = vRow q 3 by rw [← HQ.out.2.2]; first | (simp only [vRow, List.setIfInBounds_toArray]; done) | simp only [vRow, List.setIfInBounds_toArray, List.set_cons_zero, List.set_cons_succ])
      have n6 := (u6.out.set_ 2 (.int .i64 (a3 * p1 + b3 * p2 + c3 * p3))).drew
      rw [hv] at n6
      go_roundw
      case rel => exact ⟨3, by omega, by go_num, (uP.out.far (p := ⟨g5 + 1, 2, none⟩) (by show w.heap.size + 1 ≠ g5 + 1; omega) _).drew, (uR.out.far (p := ⟨g5 + 1, 2, none⟩) (by show w.heap.size + 2 ≠ g5 + 1; omega) _).drew, (u5.out.far (p := ⟨g5 + 1, 2, none⟩) (by show g5 ≠ g5 + 1; omega) _).drew, n6, (hbw.setCell (p := ⟨g5 + 1, 2, none⟩) (by show w.heap.size ≤ g5 + 1; omega) _).drew⟩
      case measure => simp [intOf]
    · have e4 := u6.out.cell 0
      have e5 := u6.out.cell 1
      have e6 := u6.out.cell 2
      have e7 := uR.out.cell 0
      have e8 := uR.out.cell 1
      have e9 := uR.out.cell 2
      have f7 := uR.out.frozen 0
      have f8 := uR.out.frozen 1
      have f9 := uR.out.frozen 2
      simp [vRow] at e4 e5 e6 e7 e8 e9
      go_wp2_with fail
      have hfin := hide (((hbw.setCell (p := ⟨w.heap.size + 1 + 1, 0, none⟩) (by show w.heap.size ≤ w.heap.size + 1 + 1; omega) (.int .i64 q.1)).setCell (p := ⟨w.heap.size + 1 + 1, 1, none⟩) (by show w.heap.size ≤ w.heap.size + 1 + 1; omega) (.int .i64 q.2.1)).setCell (p := ⟨w.heap.size + 1 + 1, 2, none⟩) (by show w.heap.size ≤ w.heap.size + 1 + 1; omega) (.int .i64 q.2.2))
      have hR : Blk wr (w.heap.size + 1 + 1) 49 #[.int .i64 0, .int .i64 0, .int .i64 0] := uR.out
      refine bodyPost_ret (results_c rfl rfl (((hR.set_ 0 _).set_ 1 _).set_ 2 _) Tryz.underlying49 rfl (by kernel_rfl)) rfl ?_
      refine ⟨q, ?_, hide Hq.out.symm, hfin.out⟩
      simp only [List.setIfInBounds_toArray, List.set_cons_zero, List.set_cons_succ]
    · omega
end Go.Proofs.YtkmpddaobncheaaGreatDoor
