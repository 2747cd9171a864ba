/- The reference of layer 15: sums, multiples, directions, images of points. -/
import Derived.Test.YtmcjpdlkkpnhfaaGreatQao
import Derived.Test.YtmcjpdlkkpnhfaaGreatQas
namespace Go.Proofs.YtmcjpdlkkpnhfaaGreat
open Go.RowKit

theorem refPlus_any (p s : Pt) (w : World) (hp : nearBy 1099511627776 p = true) (hs : nearBy 1099511627776 s = true) :
    Calls Tryz.prog 156 #[ptA p, ptA s] w fun e w' => e = .returned (ptA (addP p s)) ∧ Below w.heap.size w w' := by
  obtain ⟨p1, p2, p3⟩ := p
  obtain ⟨x1, x2, x3⟩ := s
  obtain ⟨⟨r1, r2⟩, ⟨r3, r4⟩, r5, r6⟩ := nearBy_iff.1 hp
  obtain ⟨⟨t1, t2⟩, ⟨t3, t4⟩, t5, t6⟩ := nearBy_iff.1 hs
  simp only at r1 r2 r3 r4 r5 r6 t1 t2 t3 t4 t5 t6
  have z1 : IntKind.i64.wrap (p1 + x1) = p1 + x1 := IntWalk.i64_in _ (by omega)
  have z2 : IntKind.i64.wrap (p2 + x2) = p2 + x2 := IntWalk.i64_in _ (by omega)
  have z3 : IntKind.i64.wrap (p3 + x3) = p3 + x3 := IntWalk.i64_in _ (by omega)
  have kR := hide (Blk.new2 w (.cells #[.int .i64 p1, .int .i64 p2, .int .i64 p3] 61) (.cells #[.int .i64 x1, .int .i64 x2, .int .i64 x3] 61) 61 #[.int .i64 (p1 + x1), .int .i64 (p2 + x2), .int .i64 (p3 + x3)])
  have hB := hide ((below_new2 w (.cells #[.int .i64 p1, .int .i64 p2, .int .i64 p3] 61) (.cells #[.int .i64 x1, .int .i64 x2, .int .i64 x3] 61)).alloc (by simp; omega) (.cells #[.int .i64 (p1 + x1), .int .i64 (p2 + x2), .int .i64 (p3 + x3)] 61))
  clear hp hs
  show Calls Tryz.prog 156 #[.agg #[.int .i64 p1, .int .i64 p2, .int .i64 p3], .agg #[.int .i64 x1, .int .i64 x2, .int .i64 x3]] w _
  go_enter Tryz.func156, Tryz.ntmps156
  go_wp2_with fail
  refine bodyPost_ret (results_c rfl rfl kR.out Tryz.underlying61 rfl (by kernel_rfl)) rfl ?_
  exact ⟨rfl, hB.out⟩
theorem refTimes_any (n : Int) (p : Pt) (w : World) (hs : nearBy 1099511627776 (mulP n p) = true) :
    Calls Tryz.prog 179 #[.int .i64 n, ptA p] w fun e w' => e = .returned (ptA (mulP n p)) ∧ Below w.heap.size w w' := by
  obtain ⟨x1, x2, x3⟩ := p
  obtain ⟨⟨t1, t2⟩, ⟨t3, t4⟩, t5, t6⟩ := nearBy_iff.1 hs
  simp only [mulP] at t1 t2 t3 t4 t5 t6
  have s1 : IntKind.i64.wrap (n * x1) = n * x1 := IntWalk.i64_in _ (by omega)
  have s2 : IntKind.i64.wrap (n * x2) = n * x2 := IntWalk.i64_in _ (by omega)
  have s3 : IntKind.i64.wrap (n * x3) = n * x3 := IntWalk.i64_in _ (by omega)
  have kR := hide (Blk.new1 w (.cells #[.int .i64 x1, .int .i64 x2, .int .i64 x3] 61) 61 #[.int .i64 (n * x1), .int .i64 (n * x2), .int .i64 (n * x3)])
  have hB := hide (below_new2 w (.cells #[.int .i64 x1, .int .i64 x2, .int .i64 x3] 61) (.cells #[.int .i64 (n * x1), .int .i64 (n * x2), .int .i64 (n * x3)] 61))
  clear hs
  show Calls Tryz.prog 179 #[.int .i64 n, .agg #[.int .i64 x1, .int .i64 x2, .int .i64 x3]] w _
  go_enter Tryz.func179, Tryz.ntmps179
  go_wp2_with fail
  refine bodyPost_ret (results_c rfl rfl kR.out Tryz.underlying61 rfl (by kernel_rfl)) rfl ?_
  exact ⟨rfl, hB.out⟩
theorem refTimes16_any (n : Int) (p : Pt) (w : World) (hs : nearBy 1099511627776 (mulP n p) = true) :
    Calls Tryz.prog 157 #[ptA p, .int .i64 n] w fun e w' => e = .returned (ptA (mulP n p)) ∧ Below w.heap.size w w' := by
  obtain ⟨x1, x2, x3⟩ := p
  obtain ⟨⟨t1, t2⟩, ⟨t3, t4⟩, t5, t6⟩ := nearBy_iff.1 hs
  simp only [mulP] at t1 t2 t3 t4 t5 t6
  have m1 : x1 * n = n * x1 := Int.mul_comm _ _
  have m2 : x2 * n = n * x2 := Int.mul_comm _ _
  have m3 : x3 * n = n * x3 := Int.mul_comm _ _
  rw [← m1] at t1 t2
  rw [← m2] at t3 t4
  rw [← m3] at t5 t6
  have s1 : IntKind.i64.wrap (x1 * n) = x1 * n := IntWalk.i64_in _ (by omega)
  have s2 : IntKind.i64.wrap (x2 * n) = x2 * n := IntWalk.i64_in _ (by omega)
  have s3 : IntKind.i64.wrap (x3 * n) = x3 * n := IntWalk.i64_in _ (by omega)
  have kR := hide (Blk.new1 w (.cells #[.int .i64 x1, .int .i64 x2, .int .i64 x3] 61) 61 #[.int .i64 (x1 * n), .int .i64 (x2 * n), .int .i64 (x3 * n)])
  have hB := hide (below_new2 w (.cells #[.int .i64 x1, .int .i64 x2, .int .i64 x3] 61) (.cells #[.int .i64 (x1 * n), .int .i64 (x2 * n), .int .i64 (x3 * n)] 61))
  have hM := hide (show mulP n (x1, x2, x3) = (x1 * n, x2 * n, x3 * n) by simp only [mulP, m1, m2, m3])
  clear hs m1 m2 m3
  show Calls Tryz.prog 157 #[.agg #[.int .i64 x1, .int .i64 x2, .int .i64 x3], .int .i64 n] w _
  go_enter Tryz.func157, Tryz.ntmps157
  go_wp2_with fail
  refine bodyPost_ret (results_c rfl rfl kR.out Tryz.underlying61 rfl (by kernel_rfl)) rfl ?_
  refine ⟨?_, hB.out⟩
  rw [hM.out]
set_option maxHeartbeats 1000000 in
theorem refUnitP_any (n : Int) (w : World) (h : n = 1 ∨ n = 2 ∨ n = 3) : Calls Tryz.prog 178 #[.int .i64 n] w fun e w' => e = .returned (ptA (unitV n)) ∧ Below w.heap.size w w' := by
  rcases h with rfl | rfl | rfl
  all_goals
    go_enter Tryz.func178, Tryz.ntmps178
    go_wp2_with fail
    refine bodyPost_ret (results_c rfl rfl (Blk.new w _ _) Tryz.underlying61 rfl (by kernel_rfl)) rfl ?_
    exact ⟨rfl, below_new w _⟩
theorem unit_neg {n : Int} (h : n = 1 ∨ n = 2 ∨ n = 3) : unitV (-n) = (0 - (unitV n).1, 0 - (unitV n).2.1, 0 - (unitV n).2.2) := by
  rcases h with rfl | rfl | rfl <;> rfl
set_option maxHeartbeats 1000000 in
theorem refUnit_any (n : Int) (w : World) (h : axis6 n) : Calls Tryz.prog 178 #[.int .i64 n] w fun e w' => e = .returned (ptA (unitV n)) ∧ Below w.heap.size w w' := by
  by_cases hp : 0 < n
  · refine refUnitP_any n w ?_
    unfold axis6 at h
    omega
  have H1 := hide (fun W => (show Calls Tryz.prog 178 #[.int .i64 1] W fun e w' => e = .returned (.agg #[.int .i64 1, .int .i64 0, .int .i64 0]) ∧ Below W.heap.size W w' from refUnitP_any 1 W (.inl rfl)))
  have H2 := hide (fun W => (show Calls Tryz.prog 178 #[.int .i64 2] W fun e w' => e = .returned (.agg #[.int .i64 0, .int .i64 1, .int .i64 0]) ∧ Below W.heap.size W w' from refUnitP_any 2 W (.inr (.inl rfl))))
  have H3 := hide (fun W => (show Calls Tryz.prog 178 #[.int .i64 3] W fun e w' => e = .returned (.agg #[.int .i64 0, .int .i64 0, .int .i64 1]) ∧ Below W.heap.size W w' from refUnitP_any 3 W (.inr (.inr rfl))))
  have hn : n = -1 ∨ n = -2 ∨ n = -3 := by unfold axis6 at h; omega
  clear h hp
  have KR := hide (Blk.new w 61 #[.int .i64 0, .int .i64 0, .int .i64 0])
  have HW := hide (below_new w (.cells #[.int .i64 0, .int .i64 0, .int .i64 0] 61))
  rcases hn with rfl | rfl | rfl
  all_goals
    go_enter Tryz.func178, Tryz.ntmps178
    go_wp2_with fail
    first | with_reducible refine (H1.out _).mono ?_ | with_reducible refine (H2.out _).mono ?_ | with_reducible refine (H3.out _).mono ?_
    rintro e w1 ⟨rfl, hb⟩
    have KR := hide (KR.out.keep hb)
    have HW := hide (below_step HW.out hb (Nat.le_refl _))
    clear hb H1 H2 H3
    have d0 := KR.out.cell 0
    have d1 := KR.out.cell 1
    have d2 := KR.out.cell 2
    have f0 := KR.out.frozen 0
    have f1 := KR.out.frozen 1
    have f2 := KR.out.frozen 2
    simp at d0 d1 d2
    have lk := KR.out.lt
    go_wp2_with fail
    refine bodyPost_ret (results_c rfl rfl ((((KR.out.set_ 0 _).set_ 1 _).set_ 2 _).alloc _) Tryz.underlying61 rfl (by kernel_rfl)) rfl ?_
    refine ⟨?_, (((HW.out.setCell (p := ⟨w.heap.size, 0, none⟩) (Nat.le_refl _) _).setCell (p := ⟨w.heap.size, 1, none⟩) (Nat.le_refl _) _).setCell (p := ⟨w.heap.size, 2, none⟩) (Nat.le_refl _) _).alloc (by have := HW.out.size; simpa using this) _⟩
    simp only [List.setIfInBounds_toArray, List.set_cons_zero, List.set_cons_succ]
    rfl
set_option maxHeartbeats 4000000 in
set_option maxRecDepth 100000 in
theorem refCross_any (a b : Pt) (w : World) (ha : unitish a) (hb : unitish b) :
    Calls Tryz.prog 180 #[ptA a, ptA b] w fun e w' => e = .returned (ptA (crossV a b)) ∧ Below w.heap.size w w' := by
  obtain ⟨a1, a2, a3⟩ := a
  obtain ⟨b1, b2, b3⟩ := b
  obtain ⟨x1, x2, x3⟩ := ha
  obtain ⟨y1, y2, y3⟩ := hb
  simp only at x1 x2 x3 y1 y2 y3
  have m1 := mul1_bound x2 y3
  have m2 := mul1_bound x3 y2
  have m3 := mul1_bound x3 y1
  have m4 := mul1_bound x1 y3
  have m5 := mul1_bound x1 y2
  have m6 := mul1_bound x2 y1
  go_enter Tryz.func180, Tryz.ntmps180
  go_wp2_with fail
  refine bodyPost_ret (results_c rfl rfl (Blk.new2 w _ _ _ _) Tryz.underlying61 rfl (by kernel_rfl)) rfl ?_
  exact ⟨rfl, (below_new2 w _ _).alloc (by simp; omega) _⟩
end Go.Proofs.YtmcjpdlkkpnhfaaGreat
