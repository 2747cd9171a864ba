/- The reference of layer 15: sums, multiples, directions, images of points. The reference of layer 15: images of points. The references of layers 9, 17: whether a box, a solid, a member is valid. Plain: the references' words of validity say the same as ours. No walk stands here. The references of layers 16, 17, 24: members, near points, main legs, the place of a laid bar. -/
import Derived.Test.YtmcjpdlkkpnhfaaGreatDoorQan
import Derived.Test.YtmcjpdlkkpnhfaaGreatDoorQad
import Derived.Deep.RegionHeld3
import Derived.Deep.Cut
import Derived.Test.YtmcjpdlkkpnhfaaGreatDoorQav
import Derived.Test.YtmcjpdlkkpnhfaaGreatDoorQar
namespace Go.Proofs.YtmcjpdlkkpnhfaaGreatDoor
open Go.RowKit

theorem refPlus_any (p s : Pt) (w : World) (hp : nearBy 1099511627776 p = true) (hs : nearBy 1099511627776 s = true) :
    Calls Tryz.prog 147 #[ptA p, ptA s] w fun e w' => e = .returned (ptA (addP p s)) ∧ Below w.heap.size w w' := by
  obtain ⟨p1, p2, p3⟩ := p
  obtain ⟨x1, x2, x3⟩ := s
  obtain ⟨⟨r1, r2⟩, ⟨r3, r4⟩, r5, r6⟩ := nearBy_iff.1 hp
  obtain ⟨⟨t1, t2⟩, ⟨t3, t4⟩, t5, t6⟩ := nearBy_iff.1 hs
  simp only at r1 r2 r3 r4 r5 r6 t1 t2 t3 t4 t5 t6
  have z1 : IntKind.i64.wrap (p1 + x1) = p1 + x1 := IntWalk.i64_in _ (by omega)
  have z2 : IntKind.i64.wrap (p2 + x2) = p2 + x2 := IntWalk.i64_in _ (by omega)
  have z3 : IntKind.i64.wrap (p3 + x3) = p3 + x3 := IntWalk.i64_in _ (by omega)
  have kR := hide (Blk.new2 w (.cells #[.int .i64 p1, .int .i64 p2, .int .i64 p3] 58) (.cells #[.int .i64 x1, .int .i64 x2, .int .i64 x3] 58) 58 #[.int .i64 (p1 + x1), .int .i64 (p2 + x2), .int .i64 (p3 + x3)])
  have hB := hide ((below_new2 w (.cells #[.int .i64 p1, .int .i64 p2, .int .i64 p3] 58) (.cells #[.int .i64 x1, .int .i64 x2, .int .i64 x3] 58)).alloc (by simp; omega) (.cells #[.int .i64 (p1 + x1), .int .i64 (p2 + x2), .int .i64 (p3 + x3)] 58))
  clear hp hs
  show Calls Tryz.prog 147 #[.agg #[.int .i64 p1, .int .i64 p2, .int .i64 p3], .agg #[.int .i64 x1, .int .i64 x2, .int .i64 x3]] w _
  go_enter Tryz.func147, Tryz.ntmps147
  go_wp2_with fail
  refine bodyPost_ret (results_c rfl rfl kR.out Tryz.underlying58 rfl (by kernel_rfl)) rfl ?_
  exact ⟨rfl, hB.out⟩
theorem refTimes_any (n : Int) (p : Pt) (w : World) (hs : nearBy 1099511627776 (mulP n p) = true) :
    Calls Tryz.prog 176 #[.int .i64 n, ptA p] w fun e w' => e = .returned (ptA (mulP n p)) ∧ Below w.heap.size w w' := by
  obtain ⟨x1, x2, x3⟩ := p
  obtain ⟨⟨t1, t2⟩, ⟨t3, t4⟩, t5, t6⟩ := nearBy_iff.1 hs
  simp only [mulP] at t1 t2 t3 t4 t5 t6
  have s1 : IntKind.i64.wrap (n * x1) = n * x1 := IntWalk.i64_in _ (by omega)
  have s2 : IntKind.i64.wrap (n * x2) = n * x2 := IntWalk.i64_in _ (by omega)
  have s3 : IntKind.i64.wrap (n * x3) = n * x3 := IntWalk.i64_in _ (by omega)
  have kR := hide (Blk.new1 w (.cells #[.int .i64 x1, .int .i64 x2, .int .i64 x3] 58) 58 #[.int .i64 (n * x1), .int .i64 (n * x2), .int .i64 (n * x3)])
  have hB := hide (below_new2 w (.cells #[.int .i64 x1, .int .i64 x2, .int .i64 x3] 58) (.cells #[.int .i64 (n * x1), .int .i64 (n * x2), .int .i64 (n * x3)] 58))
  clear hs
  show Calls Tryz.prog 176 #[.int .i64 n, .agg #[.int .i64 x1, .int .i64 x2, .int .i64 x3]] w _
  go_enter Tryz.func176, Tryz.ntmps176
  go_wp2_with fail
  refine bodyPost_ret (results_c rfl rfl kR.out Tryz.underlying58 rfl (by kernel_rfl)) rfl ?_
  exact ⟨rfl, hB.out⟩
theorem refTimes16_any (n : Int) (p : Pt) (w : World) (hs : nearBy 1099511627776 (mulP n p) = true) :
    Calls Tryz.prog 148 #[ptA p, .int .i64 n] w fun e w' => e = .returned (ptA (mulP n p)) ∧ Below w.heap.size w w' := by
  obtain ⟨x1, x2, x3⟩ := p
  obtain ⟨⟨t1, t2⟩, ⟨t3, t4⟩, t5, t6⟩ := nearBy_iff.1 hs
  simp only [mulP] at t1 t2 t3 t4 t5 t6
  have m1 : x1 * n = n * x1 := Int.mul_comm _ _
  have m2 : x2 * n = n * x2 := Int.mul_comm _ _
  have m3 : x3 * n = n * x3 := Int.mul_comm _ _
  rw [← m1] at t1 t2
  rw [← m2] at t3 t4
  rw [← m3] at t5 t6
  have s1 : IntKind.i64.wrap (x1 * n) = x1 * n := IntWalk.i64_in _ (by omega)
  have s2 : IntKind.i64.wrap (x2 * n) = x2 * n := IntWalk.i64_in _ (by omega)
  have s3 : IntKind.i64.wrap (x3 * n) = x3 * n := IntWalk.i64_in _ (by omega)
  have kR := hide (Blk.new1 w (.cells #[.int .i64 x1, .int .i64 x2, .int .i64 x3] 58) 58 #[.int .i64 (x1 * n), .int .i64 (x2 * n), .int .i64 (x3 * n)])
  have hB := hide (below_new2 w (.cells #[.int .i64 x1, .int .i64 x2, .int .i64 x3] 58) (.cells #[.int .i64 (x1 * n), .int .i64 (x2 * n), .int .i64 (x3 * n)] 58))
  have hM := hide (show mulP n (x1, x2, x3) = (x1 * n, x2 * n, x3 * n) by simp only [mulP, m1, m2, m3])
  clear hs m1 m2 m3
  show Calls Tryz.prog 148 #[.agg #[.int .i64 x1, .int .i64 x2, .int .i64 x3], .int .i64 n] w _
  go_enter Tryz.func148, Tryz.ntmps148
  go_wp2_with fail
  refine bodyPost_ret (results_c rfl rfl kR.out Tryz.underlying58 rfl (by kernel_rfl)) rfl ?_
  refine ⟨?_, hB.out⟩
  rw [hM.out]
set_option maxHeartbeats 1000000 in
theorem refUnitP_any (n : Int) (w : World) (h : n = 1 ∨ n = 2 ∨ n = 3) : Calls Tryz.prog 175 #[.int .i64 n] w fun e w' => e = .returned (ptA (unitV n)) ∧ Below w.heap.size w w' := by
  rcases h with rfl | rfl | rfl
  all_goals
    go_enter Tryz.func175, Tryz.ntmps175
    go_wp2_with fail
    refine bodyPost_ret (results_c rfl rfl (Blk.new w _ _) Tryz.underlying58 rfl (by kernel_rfl)) rfl ?_
    exact ⟨rfl, below_new w _⟩
theorem unit_neg {n : Int} (h : n = 1 ∨ n = 2 ∨ n = 3) : unitV (-n) = (0 - (unitV n).1, 0 - (unitV n).2.1, 0 - (unitV n).2.2) := by
  rcases h with rfl | rfl | rfl <;> rfl
set_option maxHeartbeats 1000000 in
theorem refUnit_any (n : Int) (w : World) (h : axis6 n) : Calls Tryz.prog 175 #[.int .i64 n] w fun e w' => e = .returned (ptA (unitV n)) ∧ Below w.heap.size w w' := by
  by_cases hp : 0 < n
  · refine refUnitP_any n w ?_
    unfold axis6 at h
    omega
  have H1 := hide (fun W => (show Calls Tryz.prog 175 #[.int .i64 1] W fun e w' => e = .returned (.agg #[.int .i64 1, .int .i64 0, .int .i64 0]) ∧ Below W.heap.size W w' from refUnitP_any 1 W (.inl rfl)))
  have H2 := hide (fun W => (show Calls Tryz.prog 175 #[.int .i64 2] W fun e w' => e = .returned (.agg #[.int .i64 0, .int .i64 1, .int .i64 0]) ∧ Below W.heap.size W w' from refUnitP_any 2 W (.inr (.inl rfl))))
  have H3 := hide (fun W => (show Calls Tryz.prog 175 #[.int .i64 3] W fun e w' => e = .returned (.agg #[.int .i64 0, .int .i64 0, .int .i64 1]) ∧ Below W.heap.size W w' from refUnitP_any 3 W (.inr (.inr rfl))))
  have hn : n = -1 ∨ n = -2 ∨ n = -3 := by unfold axis6 at h; omega
  clear h hp
  have KR := hide (Blk.new w 58 #[.int .i64 0, .int .i64 0, .int .i64 0])
  have HW := hide (below_new w (.cells #[.int .i64 0, .int .i64 0, .int .i64 0] 58))
  rcases hn with rfl | rfl | rfl
  all_goals
    go_enter Tryz.func175, Tryz.ntmps175
    go_wp2_with fail
    first | with_reducible refine (H1.out _).mono ?_ | with_reducible refine (H2.out _).mono ?_ | with_reducible refine (H3.out _).mono ?_
    rintro e w1 ⟨rfl, hb⟩
    have KR := hide (KR.out.keep hb)
    have HW := hide (below_step HW.out hb (Nat.le_refl _))
    clear hb H1 H2 H3
    have d0 := KR.out.cell 0
    have d1 := KR.out.cell 1
    have d2 := KR.out.cell 2
    have f0 := KR.out.frozen 0
    have f1 := KR.out.frozen 1
    have f2 := KR.out.frozen 2
    simp at d0 d1 d2
    have lk := KR.out.lt
    go_wp2_with fail
    refine bodyPost_ret (results_c rfl rfl ((((KR.out.set_ 0 _).set_ 1 _).set_ 2 _).alloc _) Tryz.underlying58 rfl (by kernel_rfl)) rfl ?_
    refine ⟨?_, (((HW.out.setCell (p := ⟨w.heap.size, 0, none⟩) (Nat.le_refl _) _).setCell (p := ⟨w.heap.size, 1, none⟩) (Nat.le_refl _) _).setCell (p := ⟨w.heap.size, 2, none⟩) (Nat.le_refl _) _).alloc (by have := HW.out.size; simpa using this) _⟩
    simp only [List.setIfInBounds_toArray, List.set_cons_zero, List.set_cons_succ]
    rfl
set_option maxHeartbeats 4000000 in
set_option maxRecDepth 100000 in
theorem refCross_any (a b : Pt) (w : World) (ha : unitish a) (hb : unitish b) :
    Calls Tryz.prog 177 #[ptA a, ptA b] w fun e w' => e = .returned (ptA (crossV a b)) ∧ Below w.heap.size w w' := by
  obtain ⟨a1, a2, a3⟩ := a
  obtain ⟨b1, b2, b3⟩ := b
  obtain ⟨x1, x2, x3⟩ := ha
  obtain ⟨y1, y2, y3⟩ := hb
  simp only at x1 x2 x3 y1 y2 y3
  have m1 := mul1_bound x2 y3
  have m2 := mul1_bound x3 y2
  have m3 := mul1_bound x3 y1
  have m4 := mul1_bound x1 y3
  have m5 := mul1_bound x1 y2
  have m6 := mul1_bound x2 y1
  go_enter Tryz.func177, Tryz.ntmps177
  go_wp2_with fail
  refine bodyPost_ret (results_c rfl rfl (Blk.new2 w _ _ _ _) Tryz.underlying58 rfl (by kernel_rfl)) rfl ?_
  exact ⟨rfl, (below_new2 w _ _).alloc (by simp; omega) _⟩
end Go.Proofs.YtmcjpdlkkpnhfaaGreatDoor
namespace Go.Proofs.YtmcjpdlkkpnhfaaGreatDoor
open Go.RowKit

theorem lin_sum {x y : Int} (p : Pt) : imgV x y p = addP (mulP p.1 (unitV x)) (addP (mulP p.2.1 (unitV y)) (mulP p.2.2 (crossV (unitV x) (unitV y)))) := by
  simp only [imgV, linV, addP, mulP, Prod.mk.injEq]
  refine ⟨?_, ?_, ?_⟩ <;> rw [Int.mul_comm p.1, Int.mul_comm p.2.1, Int.mul_comm p.2.2, Int.add_assoc]
theorem near_mul {n m : Int} {a : Pt} (ha : unitish a) (hn : -m ≤ n ∧ n ≤ m) (hm : 0 ≤ m) : nearBy m (mulP n a) = true := by
  obtain ⟨a1, a2, a3⟩ := ha
  have h1 := mulM_bound a1 hn hm
  have h2 := mulM_bound a2 hn hm
  have h3 := mulM_bound a3 hn hm
  rw [nearBy_iff]
  simp only [mulP]
  rw [Int.mul_comm n, Int.mul_comm n, Int.mul_comm n]
  exact ⟨h1, h2, h3⟩
theorem near_add {m n : Int} {p q : Pt} (hp : nearBy m p = true) (hq : nearBy n q = true) : nearBy (m + n) (addP p q) = true := by
  have h1 := nearBy_iff.1 hp
  have h2 := nearBy_iff.1 hq
  rw [nearBy_iff]
  simp only [addP]
  omega
/-- The result's block, and what was there ahead of the call. -/
def ImgR (w W : World) : Prop := (∃ u0 u1 u2, Blk W (w.heap.size + 1 + 1) 58 #[u0, u1, u2]) ∧ Below w.heap.size w W
theorem ImgR.step {w W wz : World} (h : ImgR w W) (hb : Below W.heap.size W wz) : ImgR w wz := by
  obtain ⟨⟨u0, u1, u2, hk⟩, hw⟩ := h
  exact ⟨⟨u0, u1, u2, hk.keep hb⟩, below_step hw hb (Nat.le_refl _)⟩
theorem ImgR.drew {w W : World} (h : ImgR w W) : ImgR w W.drew := by
  obtain ⟨⟨u0, u1, u2, hk⟩, hw⟩ := h
  exact ⟨⟨u0, u1, u2, hk.drew⟩, hw.drew⟩
theorem ImgR.store {w W : World} (h : ImgR w W) (x y z : Value) : ImgR w (((W.setCell ⟨w.heap.size + 1 + 1, 0, none⟩ x).setCell ⟨w.heap.size + 1 + 1, 1, none⟩ y).setCell ⟨w.heap.size + 1 + 1, 2, none⟩ z) := by
  obtain ⟨⟨u0, u1, u2, hk⟩, hw⟩ := h
  have h1 := ((hk.set_ 0 x).set_ 1 y).set_ 2 z
  simp only [List.setIfInBounds_toArray, List.set_cons_zero, List.set_cons_succ] at h1
  exact ⟨⟨x, y, z, h1⟩, ((hw.setCell (p := ⟨w.heap.size + 1 + 1, 0, none⟩) (by show w.heap.size ≤ w.heap.size + 1 + 1; omega) x).setCell (p := ⟨w.heap.size + 1 + 1, 1, none⟩) (by show w.heap.size ≤ w.heap.size + 1 + 1; omega) y).setCell (p := ⟨w.heap.size + 1 + 1, 2, none⟩) (by show w.heap.size ≤ w.heap.size + 1 + 1; omega) z⟩
theorem ImgR.facts {w W : World} (h : ImgR w W) : ∃ u0 u1 u2, W.cell? ⟨w.heap.size + 1 + 1, 0, none⟩ = some u0 ∧ W.cell? ⟨w.heap.size + 1 + 1, 1, none⟩ = some u1 ∧ W.cell? ⟨w.heap.size + 1 + 1, 2, none⟩ = some u2 ∧ W.frozen? ⟨w.heap.size + 1 + 1, 0, none⟩ = false ∧ W.frozen? ⟨w.heap.size + 1 + 1, 1, none⟩ = false ∧ W.frozen? ⟨w.heap.size + 1 + 1, 2, none⟩ = false := by
  obtain ⟨⟨u0, u1, u2, hk⟩, hw⟩ := h
  exact ⟨u0, u1, u2, hk.cell 0, hk.cell 1, hk.cell 2, hk.frozen 0, hk.frozen 1, hk.frozen 2⟩
theorem kc {W wz : World} {g i : Nat} {v : Value} (h : W.cell? ⟨g, i, none⟩ = some v) (hb : Below W.heap.size W wz) : wz.cell? ⟨g, i, none⟩ = some v := (hb.cell (p := ⟨g, i, none⟩) (lt_of_cell h)).trans h
theorem ks {W : World} {k g i : Nat} {v : Value} (hne : k ≠ g) (h : W.cell? ⟨g, i, none⟩ = some v) (x y z : Value) : (((W.setCell ⟨k, 0, none⟩ x).setCell ⟨k, 1, none⟩ y).setCell ⟨k, 2, none⟩ z).cell? ⟨g, i, none⟩ = some v :=
  cell_oth (.inl (Ne.symm hne)) (cell_oth (.inl (Ne.symm hne)) (cell_oth (.inl (Ne.symm hne)) h))
set_option maxHeartbeats 4000000 in
set_option maxRecDepth 100000 in
theorem refImage_any (x y : Int) (p : Pt) (w : World) (h : turnOk x y = true) (hp : nearBy 1048576 p = true) :
    Calls Tryz.prog 149 #[.agg #[.int .i64 x, .int .i64 y], ptA p] w fun e w' => e = .returned (ptA (imgV x y p)) ∧ Below w.heap.size w w' := by
  have hx : axis6 x := by
    simp only [turnOk, Bool.and_eq_true] at h
    exact axis6_of h.1.1.1
  have hy : axis6 y := by
    simp only [turnOk, Bool.and_eq_true] at h
    exact axis6_of h.1.1.2
  obtain ⟨HP1, HP2, HP3⟩ := nearBy_iff.1 hp
  have n1 := near_mul (unitish_of hx) HP1 (by omega)
  have n2 := near_mul (unitish_of hy) HP2 (by omega)
  have n3 := near_mul (cross_unit h) HP3 (by omega)
  have n4 := near_add n2 n3
  have HX := hide (fun (w : World) => refUnit_any x w hx)
  have HY := hide (fun (w : World) => refUnit_any y w hy)
  have HC := hide (fun (w : World) => refCross_any (unitV x) (unitV y) w (unitish_of hx) (unitish_of hy))
  have HT1 := hide (fun (w : World) => refTimes_any p.1 (unitV x) w (nearBy_mono n1 (by omega)))
  have HT2 := hide (fun (w : World) => refTimes_any p.2.1 (unitV y) w (nearBy_mono n2 (by omega)))
  have HT3 := hide (fun (w : World) => refTimes_any p.2.2 (crossV (unitV x) (unitV y)) w (nearBy_mono n3 (by omega)))
  have HS1 := hide (fun (w : World) => refPlus_any (mulP p.2.1 (unitV y)) (mulP p.2.2 (crossV (unitV x) (unitV y))) w (nearBy_mono n2 (by omega)) (nearBy_mono n3 (by omega)))
  have HS2 := hide (fun (w : World) => refPlus_any (mulP p.1 (unitV x)) (addP (mulP p.2.1 (unitV y)) (mulP p.2.2 (crossV (unitV x) (unitV y)))) w (nearBy_mono n1 (by omega)) (nearBy_mono n4 (by omega)))
  rw [lin_sum]
  generalize addP (mulP p.1 (unitV x)) (addP (mulP p.2.1 (unitV y)) (mulP p.2.2 (crossV (unitV x) (unitV y)))) = R at *
  generalize addP (mulP p.2.1 (unitV y)) (mulP p.2.2 (crossV (unitV x) (unitV y))) = S at *
  generalize mulP p.1 (unitV x) = T1 at *
  generalize mulP p.2.1 (unitV y) = T2 at *
  generalize mulP p.2.2 (crossV (unitV x) (unitV y)) = T3 at *
  generalize crossV (unitV x) (unitV y) = c at *
  generalize unitV x = a at *
  generalize unitV y = b at *
  clear n1 n2 n3 n4 h hp hx hy HP1 HP2 HP3
  obtain ⟨p1, p2, p3⟩ := p
  obtain ⟨a1, a2, a3⟩ := a
  obtain ⟨b1, b2, b3⟩ := b
  obtain ⟨c1, c2, c3⟩ := c
  obtain ⟨t1, t2, t3⟩ := T1
  obtain ⟨u1, u2, u3⟩ := T2
  obtain ⟨v1, v2, v3⟩ := T3
  obtain ⟨s1, s2, s3⟩ := S
  obtain ⟨r1, r2, r3⟩ := R
  simp only [ptA] at HX HY HC HT1 HT2 HT3 HS1 HS2 ⊢
  have KT := hide ((((Blk.new w 88 #[.int .i64 x, .int .i64 y]).alloc (.cells #[.int .i64 p1, .int .i64 p2, .int .i64 p3] 58)).alloc (.cells #[.int .i64 0, .int .i64 0, .int .i64 0] 58)))
  have KP := hide ((Blk.new1 w (.cells #[.int .i64 x, .int .i64 y] 88) 58 #[.int .i64 p1, .int .i64 p2, .int .i64 p3]).alloc (.cells #[.int .i64 0, .int .i64 0, .int .i64 0] 58))
  have KR := hide (Blk.new2 w (.cells #[.int .i64 x, .int .i64 y] 88) (.cells #[.int .i64 p1, .int .i64 p2, .int .i64 p3] 58) 58 #[.int .i64 0, .int .i64 0, .int .i64 0])
  have HW := hide ((below_new2 w (.cells #[.int .i64 x, .int .i64 y] 88) (.cells #[.int .i64 p1, .int .i64 p2, .int .i64 p3] 58)).alloc (by simp; omega) (.cells #[.int .i64 0, .int .i64 0, .int .i64 0] 58))
  go_enter Tryz.func149, Tryz.ntmps149
  go_wp2_with fail
  refine (HX.out _).mono ?_
  rintro e w1 ⟨rfl, hb⟩
  have KT := hide ((KT.out.keep hb).alloc (.cells #[.int .i64 a1, .int .i64 a2, .int .i64 a3] 58))
  have KP := hide ((KP.out.keep hb).alloc (.cells #[.int .i64 a1, .int .i64 a2, .int .i64 a3] 58))
  have KR := hide ((KR.out.keep hb).alloc (.cells #[.int .i64 a1, .int .i64 a2, .int .i64 a3] 58))
  have KA := hide (Blk.new w1 58 #[.int .i64 a1, .int .i64 a2, .int .i64 a3])
  have HW1 := hide (below_step HW.out hb (Nat.le_refl _))
  have HW := hide (HW1.out.alloc HW1.out.size (.cells #[.int .i64 a1, .int .i64 a2, .int .i64 a3] 58))
  have hb1' := hb.size
  clear hb HX HW1
  have e1 := KT.out.cell 1
  simp at e1
  have lt := KT.out.lt
  go_wp2_with fail
  refine (HY.out _).mono ?_
  rintro e w2 ⟨rfl, hb⟩
  have KP := hide ((KP.out.keep hb).alloc (.cells #[.int .i64 b1, .int .i64 b2, .int .i64 b3] 58))
  have KR := hide ((KR.out.keep hb).alloc (.cells #[.int .i64 b1, .int .i64 b2, .int .i64 b3] 58))
  have KA := hide ((KA.out.keep hb).alloc (.cells #[.int .i64 b1, .int .i64 b2, .int .i64 b3] 58))
  have KB := hide (Blk.new w2 58 #[.int .i64 b1, .int .i64 b2, .int .i64 b3])
  have HW1 := hide (below_step HW.out hb (Nat.le_refl _))
  have HW := hide (HW1.out.alloc HW1.out.size (.cells #[.int .i64 b1, .int .i64 b2, .int .i64 b3] 58))
  have hgA : w.heap.size + 2 < w1.heap.size := by
    have := hb1'
    simp at this
    omega
  have hgB : w1.heap.size < w2.heap.size := by
    have := hb.size
    simp at this
    omega
  clear hb HY e1 lt KT HW1
  obtain ⟨wa, hwa⟩ : ∃ wa, wa = w2.alloc (.cells #[.int .i64 b1, .int .i64 b2, .int .i64 b3] 58) := ⟨_, rfl⟩
  go_wp2_with fail
  rw [← hwa] at KP KR KA KB HW ⊢
  clear hwa
  have x0 := KP.out.cell 0
  have x1 := KP.out.cell 1
  have x2 := KP.out.cell 2
  have y0 := KA.out.cell 0
  have y1 := KA.out.cell 1
  have y2 := KA.out.cell 2
  have z0 := KB.out.cell 0
  have z1 := KB.out.cell 1
  have z2 := KB.out.cell 2
  simp at x0 x1 x2 y0 y1 y2 z0 z1 z2
  have KR := hide (show Blk wa (w.heap.size + 1 + 1) 58 #[.int .i64 0, .int .i64 0, .int .i64 0] from KR.out)
  have l1 := KP.out.lt
  have l2 := KA.out.lt
  have l3 := KB.out.lt
  have hR0 : ImgR w wa := ⟨⟨_, _, _, KR.out⟩, HW.out⟩
  have hg1 : w.heap.size + 1 + 1 ≠ w1.heap.size := by have := hgA; omega
  have hg2 : w.heap.size + 1 + 1 ≠ w2.heap.size := by have := hgB; omega
  have KC := hide (fun (W wz : World) (hS : W.cell? ⟨w.heap.size + 1, 0, none⟩ = some (.int .i64 p1) ∧ W.cell? ⟨w.heap.size + 1, 1, none⟩ = some (.int .i64 p2) ∧ W.cell? ⟨w.heap.size + 1, 2, none⟩ = some (.int .i64 p3) ∧ W.cell? ⟨w1.heap.size, 0, none⟩ = some (.int .i64 a1) ∧ W.cell? ⟨w1.heap.size, 1, none⟩ = some (.int .i64 a2) ∧ W.cell? ⟨w1.heap.size, 2, none⟩ = some (.int .i64 a3) ∧ W.cell? ⟨w2.heap.size, 0, none⟩ = some (.int .i64 b1) ∧ W.cell? ⟨w2.heap.size, 1, none⟩ = some (.int .i64 b2) ∧ W.cell? ⟨w2.heap.size, 2, none⟩ = some (.int .i64 b3) ∧ ImgR w W) (hbz : Below W.heap.size W wz) => show wz.cell? ⟨w.heap.size + 1, 0, none⟩ = some (.int .i64 p1) ∧ wz.cell? ⟨w.heap.size + 1, 1, none⟩ = some (.int .i64 p2) ∧ wz.cell? ⟨w.heap.size + 1, 2, none⟩ = some (.int .i64 p3) ∧ wz.cell? ⟨w1.heap.size, 0, none⟩ = some (.int .i64 a1) ∧ wz.cell? ⟨w1.heap.size, 1, none⟩ = some (.int .i64 a2) ∧ wz.cell? ⟨w1.heap.size, 2, none⟩ = some (.int .i64 a3) ∧ wz.cell? ⟨w2.heap.size, 0, none⟩ = some (.int .i64 b1) ∧ wz.cell? ⟨w2.heap.size, 1, none⟩ = some (.int .i64 b2) ∧ wz.cell? ⟨w2.heap.size, 2, none⟩ = some (.int .i64 b3) ∧ ImgR w wz from
    ⟨kc hS.1 hbz, kc hS.2.1 hbz, kc hS.2.2.1 hbz, kc hS.2.2.2.1 hbz, kc hS.2.2.2.2.1 hbz, kc hS.2.2.2.2.2.1 hbz, kc hS.2.2.2.2.2.2.1 hbz, kc hS.2.2.2.2.2.2.2.1 hbz, kc hS.2.2.2.2.2.2.2.2.1 hbz, hS.2.2.2.2.2.2.2.2.2.step hbz⟩)
  have KS := hide (fun (W : World) (x y z : Value) (hS : W.cell? ⟨w.heap.size + 1, 0, none⟩ = some (.int .i64 p1) ∧ W.cell? ⟨w.heap.size + 1, 1, none⟩ = some (.int .i64 p2) ∧ W.cell? ⟨w.heap.size + 1, 2, none⟩ = some (.int .i64 p3) ∧ W.cell? ⟨w1.heap.size, 0, none⟩ = some (.int .i64 a1) ∧ W.cell? ⟨w1.heap.size, 1, none⟩ = some (.int .i64 a2) ∧ W.cell? ⟨w1.heap.size, 2, none⟩ = some (.int .i64 a3) ∧ W.cell? ⟨w2.heap.size, 0, none⟩ = some (.int .i64 b1) ∧ W.cell? ⟨w2.heap.size, 1, none⟩ = some (.int .i64 b2) ∧ W.cell? ⟨w2.heap.size, 2, none⟩ = some (.int .i64 b3) ∧ ImgR w W) => show (((W.setCell ⟨w.heap.size + 1 + 1, 0, none⟩ x).setCell ⟨w.heap.size + 1 + 1, 1, none⟩ y).setCell ⟨w.heap.size + 1 + 1, 2, none⟩ z).cell? ⟨w.heap.size + 1, 0, none⟩ = some (.int .i64 p1) ∧ (((W.setCell ⟨w.heap.size + 1 + 1, 0, none⟩ x).setCell ⟨w.heap.size + 1 + 1, 1, none⟩ y).setCell ⟨w.heap.size + 1 + 1, 2, none⟩ z).cell? ⟨w.heap.size + 1, 1, none⟩ = some (.int .i64 p2) ∧ (((W.setCell ⟨w.heap.size + 1 + 1, 0, none⟩ x).setCell ⟨w.heap.size + 1 + 1, 1, none⟩ y).setCell ⟨w.heap.size + 1 + 1, 2, none⟩ z).cell? ⟨w.heap.size + 1, 2, none⟩ = some (.int .i64 p3) ∧ (((W.setCell ⟨w.heap.size + 1 + 1, 0, none⟩ x).setCell ⟨w.heap.size + 1 + 1, 1, none⟩ y).setCell ⟨w.heap.size + 1 + 1, 2, none⟩ z).cell? ⟨w1.heap.size, 0, none⟩ = some (.int .i64 a1) ∧ (((W.setCell ⟨w.heap.size + 1 + 1, 0, none⟩ x).setCell ⟨w.heap.size + 1 + 1, 1, none⟩ y).setCell ⟨w.heap.size + 1 + 1, 2, none⟩ z).cell? ⟨w1.heap.size, 1, none⟩ = some (.int .i64 a2) ∧ (((W.setCell ⟨w.heap.size + 1 + 1, 0, none⟩ x).setCell ⟨w.heap.size + 1 + 1, 1, none⟩ y).setCell ⟨w.heap.size + 1 + 1, 2, none⟩ z).cell? ⟨w1.heap.size, 2, none⟩ = some (.int .i64 a3) ∧ (((W.setCell ⟨w.heap.size + 1 + 1, 0, none⟩ x).setCell ⟨w.heap.size + 1 + 1, 1, none⟩ y).setCell ⟨w.heap.size + 1 + 1, 2, none⟩ z).cell? ⟨w2.heap.size, 0, none⟩ = some (.int .i64 b1) ∧ (((W.setCell ⟨w.heap.size + 1 + 1, 0, none⟩ x).setCell ⟨w.heap.size + 1 + 1, 1, none⟩ y).setCell ⟨w.heap.size + 1 + 1, 2, none⟩ z).cell? ⟨w2.heap.size, 1, none⟩ = some (.int .i64 b2) ∧ (((W.setCell ⟨w.heap.size + 1 + 1, 0, none⟩ x).setCell ⟨w.heap.size + 1 + 1, 1, none⟩ y).setCell ⟨w.heap.size + 1 + 1, 2, none⟩ z).cell? ⟨w2.heap.size, 2, none⟩ = some (.int .i64 b3) ∧ ImgR w (((W.setCell ⟨w.heap.size + 1 + 1, 0, none⟩ x).setCell ⟨w.heap.size + 1 + 1, 1, none⟩ y).setCell ⟨w.heap.size + 1 + 1, 2, none⟩ z) from
    ⟨ks (by omega) hS.1 x y z, ks (by omega) hS.2.1 x y z, ks (by omega) hS.2.2.1 x y z, ks hg1 hS.2.2.2.1 x y z, ks hg1 hS.2.2.2.2.1 x y z, ks hg1 hS.2.2.2.2.2.1 x y z, ks hg2 hS.2.2.2.2.2.2.1 x y z, ks hg2 hS.2.2.2.2.2.2.2.1 x y z, ks hg2 hS.2.2.2.2.2.2.2.2.1 x y z, hS.2.2.2.2.2.2.2.2.2.store x y z⟩)
  go_region_held3 (fun W => W.cell? ⟨w.heap.size + 1, 0, none⟩ = some (.int .i64 p1) ∧ W.cell? ⟨w.heap.size + 1, 1, none⟩ = some (.int .i64 p2) ∧ W.cell? ⟨w.heap.size + 1, 2, none⟩ = some (.int .i64 p3) ∧ W.cell? ⟨w1.heap.size, 0, none⟩ = some (.int .i64 a1) ∧ W.cell? ⟨w1.heap.size, 1, none⟩ = some (.int .i64 a2) ∧ W.cell? ⟨w1.heap.size, 2, none⟩ = some (.int .i64 a3) ∧ W.cell? ⟨w2.heap.size, 0, none⟩ = some (.int .i64 b1) ∧ W.cell? ⟨w2.heap.size, 1, none⟩ = some (.int .i64 b2) ∧ W.cell? ⟨w2.heap.size, 2, none⟩ = some (.int .i64 b3) ∧ ImgR w W)
    (first
      | (with_reducible assumption)
      | (refine KS.out _ _ _ _ ?_; with_reducible assumption)
      | (exact ⟨x0, x1, x2, y0, y1, y2, z0, z1, z2, ImgR.drew hR0⟩)
      | (exact ⟨x0, x1, x2, y0, y1, y2, z0, z1, z2, hR0⟩)
      | go_keep)
    (first
      | (go_at_call 176; have hS := ‹_ ∧ _ ∧ _ ∧ _ ∧ _ ∧ _ ∧ _ ∧ _ ∧ _ ∧ ImgR w _›; (first | (with_reducible refine (HT1.out _).mono ?_) | (with_reducible refine (HT2.out _).mono ?_) | (with_reducible refine (HT3.out _).mono ?_)); rintro e wz ⟨rfl, hbz⟩; have hS2 := KC.out _ _ hS hbz; obtain ⟨u0, u1, u2, d0, d1, d2, g0, g1, g2⟩ := hS2.2.2.2.2.2.2.2.2.2.facts)
      | (go_at_call 177; have hS := ‹_ ∧ _ ∧ _ ∧ _ ∧ _ ∧ _ ∧ _ ∧ _ ∧ _ ∧ ImgR w _›; (with_reducible refine (HC.out _).mono ?_); rintro e wz ⟨rfl, hbz⟩; have hS2 := KC.out _ _ hS hbz; obtain ⟨u0, u1, u2, d0, d1, d2, g0, g1, g2⟩ := hS2.2.2.2.2.2.2.2.2.2.facts)
      | (go_at_call 147; have hS := ‹_ ∧ _ ∧ _ ∧ _ ∧ _ ∧ _ ∧ _ ∧ _ ∧ _ ∧ ImgR w _›; (first | (with_reducible refine (HS1.out _).mono ?_) | (with_reducible refine (HS2.out _).mono ?_)); rintro e wz ⟨rfl, hbz⟩; have hS2 := KC.out _ _ hS hbz; obtain ⟨u0, u1, u2, d0, d1, d2, g0, g1, g2⟩ := hS2.2.2.2.2.2.2.2.2.2.facts))
  go_goals
  have hSz := ‹_ ∧ _ ∧ _ ∧ _ ∧ _ ∧ _ ∧ _ ∧ _ ∧ _ ∧ ImgR w wz›
  obtain ⟨⟨i0, i1, i2, hk⟩, hwz⟩ := hSz.2.2.2.2.2.2.2.2.2
  have Hk := hide hk
  have Hwz := hide hwz
  go_wp2_with fail
  refine bodyPost_ret (results_c rfl rfl (((Hk.out.set_ 0 _).set_ 1 _).set_ 2 _) Tryz.underlying58 rfl (by kernel_rfl)) rfl ?_
  refine ⟨?_, ((Hwz.out.setCell (p := ⟨w.heap.size + 1 + 1, 0, none⟩) (by show w.heap.size ≤ w.heap.size + 1 + 1; omega) _).setCell (p := ⟨w.heap.size + 1 + 1, 1, none⟩) (by show w.heap.size ≤ w.heap.size + 1 + 1; omega) _).setCell (p := ⟨w.heap.size + 1 + 1, 2, none⟩) (by show w.heap.size ≤ w.heap.size + 1 + 1; omega) _⟩
  simp only [List.setIfInBounds_toArray, List.set_cons_zero, List.set_cons_succ]
end Go.Proofs.YtmcjpdlkkpnhfaaGreatDoor
namespace Go.Proofs.YtmcjpdlkkpnhfaaGreatDoor
open Go.RowKit

def axAt (b : BoxD) (k : Nat) : Int × Int := (nthC b.lo k, nthC b.hi k)
theorem axes_at (b : BoxD) (k : Nat) (hk : k < 3) : (axes b).drop k = axAt b k :: (axes b).drop (k + 1) := by
  rcases (show k = 0 ∨ k = 1 ∨ k = 2 by omega) with rfl | rfl | rfl <;> rfl
set_option maxHeartbeats 2000000 in
theorem refBox_any (b : BoxD) (w : World) :
    Calls Tryz.prog 70 #[bxV b] w fun e w' => e = .returned (.bool (boxOk b)) ∧ Below w.heap.size w w' := by
  obtain ⟨⟨x1, x2, x3⟩, x4, x5, x6⟩ := b
  have K0 := hide (Blk.new w 60 #[.int .i64 x1, .int .i64 x2, .int .i64 x3, .int .i64 x4, .int .i64 x5, .int .i64 x6])
  have HW := hide (below_new w (.cells #[.int .i64 x1, .int .i64 x2, .int .i64 x3, .int .i64 x4, .int .i64 x5, .int .i64 x6] 60))
  have hb : boxOk ⟨(x1, x2, x3), (x4, x5, x6)⟩ = ((axes ⟨(x1, x2, x3), (x4, x5, x6)⟩).drop 0).all axisFine := rfl
  rw [hb]
  clear hb
  go_enter Tryz.func70, Tryz.ntmps70
  go_wp2_with fail
  go_loopw [3] (fun i wr => ∃ k : Nat, k ≤ 3 ∧ i = .int .i64 k ∧ Hid (((axes ⟨(x1, x2, x3), (x4, x5, x6)⟩).drop 0).all axisFine = ((axes ⟨(x1, x2, x3), (x4, x5, x6)⟩).drop k).all axisFine) ∧ Hid (Blk wr w.heap.size 60 #[.int .i64 x1, .int .i64 x2, .int .i64 x3, .int .i64 x4, .int .i64 x5, .int .i64 x6]) ∧ Below w.heap.size w wr) (fun i _ => 3 - (intOf i).toNat)
  case atStart => exact ⟨0, by omega, rfl, hide rfl, K0, HW.out⟩
  case round =>
    obtain ⟨k, hk, rfl, hq, hK, hbr⟩ := hrel
    by_cases hlt : k < 3
    · have Hq := hide (hq.out.trans (by rw [axes_at _ k hlt, List.all_cons]))
      have CL := fun W => refCoord_any x1 x2 x3 k hlt W
      have CH := fun W => refCoord_any x4 x5 x6 k hlt W
      have hax : axisFine (axAt ⟨(x1, x2, x3), (x4, x5, x6)⟩ k) = axisOk (nthC (x1, x2, x3) k) (nthC (x4, x5, x6) k) := rfl
      rw [hax] at Hq
      generalize nthC (x1, x2, x3) k = lo at *
      generalize nthC (x4, x5, x6) k = hi at *
      have HL := fun W => refIsLength_any lo W
      have HH := fun W => refIsLength_any hi W
      have hao : axisOk lo hi = (coordOk lo && coordOk hi && !decide (hi < lo)) := by
        rw [Bool.eq_iff_iff]
        simp only [axisOk, coordOk, Bool.and_eq_true, decide_eq_true_eq, Bool.not_eq_true', decide_eq_false_iff_not]
        omega
      rw [hao] at Hq
      generalize coordOk lo = a1 at *
      generalize coordOk hi = a2 at *
      have CL := hide CL
      have CH := hide CH
      have HL := hide HL
      have HH := hide HH
      have Hbr := hide hbr
      have HK := hide hK.out
      have c0 := cell_regrown (hK.out.cell 0)
      have c1 := cell_regrown (hK.out.cell 1)
      have c2 := cell_regrown (hK.out.cell 2)
      have c3 := cell_regrown (hK.out.cell 3)
      have c4 := cell_regrown (hK.out.cell 4)
      have c5 := cell_regrown (hK.out.cell 5)
      simp at c0 c1 c2 c3 c4 c5
      clear hq hax hao hbr hK
      cases a1
      · go_wp2_with fail
        refine wp_region_quiet_below (by kernel_rfl) (by kernel_rfl) ?_
        repeat (go_big_quiet_step (first
          | (go_at_call 111; first | with_reducible exact regrown_same (HL.out _) | with_reducible exact regrown_same (HH.out _))
          | (go_at_call 112; first | with_reducible exact Calls.regrown_of (CL.out _) | with_reducible exact Calls.regrown_of (CH.out _))))
        refine wpQuiet_nil ?_
        intro w2 hw'
        have hbq := hide (show Below _ _ w2 by obtain ⟨p, rfl⟩ := hw'; exact below_regrown _ _ _)
        clear hw'
        go_wp2_with fail
        go_ret
        exact ⟨ret_bool (by rw [Hq.out]; rfl), below_step Hbr.out hbq.out (Nat.le_refl _)⟩
      cases a2
      · go_wp2_with fail
        refine wp_region_quiet_below (by kernel_rfl) (by kernel_rfl) ?_
        repeat (go_big_quiet_step (first
          | (go_at_call 111; first | with_reducible exact regrown_same (HL.out _) | with_reducible exact regrown_same (HH.out _))
          | (go_at_call 112; first | with_reducible exact Calls.regrown_of (CL.out _) | with_reducible exact Calls.regrown_of (CH.out _))))
        refine wpQuiet_nil ?_
        intro w2 hw'
        have hbq := hide (show Below _ _ w2 by obtain ⟨p, rfl⟩ := hw'; exact below_regrown _ _ _)
        clear hw'
        go_wp2_with fail
        go_ret
        exact ⟨ret_bool (by rw [Hq.out]; rfl), below_step Hbr.out hbq.out (Nat.le_refl _)⟩
      cases hd : decide (hi < lo)
      · have Hd := hide hd
        go_wp2_with fail
        refine wp_region_quiet_below (by kernel_rfl) (by kernel_rfl) ?_
        repeat (go_big_quiet_step (first
          | (go_at_call 111; first | with_reducible exact regrown_same (HL.out _) | with_reducible exact regrown_same (HH.out _))
          | (go_at_call 112; first | with_reducible exact Calls.regrown_of (CL.out _) | with_reducible exact Calls.regrown_of (CH.out _))))
        refine wpQuiet_nil ?_
        intro w2 hw'
        have hbq := hide (show Below _ _ w2 by obtain ⟨p, rfl⟩ := hw'; exact below_regrown _ _ _)
        clear hw'
        go_wp2_with fail
        go_roundw
        case rel => exact ⟨k + 1, by omega, by go_num, hide (by rw [Hq.out, Hd.out]; rfl), hide (HK.out.keep hbq.out), below_step Hbr.out hbq.out (Nat.le_refl _)⟩
        case measure => simp [intOf]; omega
      · have Hd := hide hd
        go_wp2_with fail
        refine wp_region_quiet_below (by kernel_rfl) (by kernel_rfl) ?_
        repeat (go_big_quiet_step (first
          | (go_at_call 111; first | with_reducible exact regrown_same (HL.out _) | with_reducible exact regrown_same (HH.out _))
          | (go_at_call 112; first | with_reducible exact Calls.regrown_of (CL.out _) | with_reducible exact Calls.regrown_of (CH.out _))))
        refine wpQuiet_nil ?_
        intro w2 hw'
        have hbq := hide (show Below _ _ w2 by obtain ⟨p, rfl⟩ := hw'; exact below_regrown _ _ _)
        clear hw'
        go_wp2_with fail
        go_ret
        exact ⟨ret_bool (by rw [Hq.out, Hd.out]; rfl), below_step Hbr.out hbq.out (Nat.le_refl _)⟩
    · obtain rfl : k = 3 := by omega
      go_wp2_with fail
      go_ret
      exact ⟨ret_bool (by rw [hq.out]; rfl), hbr⟩
set_option maxHeartbeats 1000000 in
theorem refThick_any (b : BoxD) (w : World) :
    Calls Tryz.prog 103 #[bxV b] w fun e w' => e = .returned (.bool (thickOk b)) ∧ Below w.heap.size w w' := by
  have HB := fun W => refBox_any b W
  have hr : thickOk b = (boxOk b && (decide (b.lo.1 < b.hi.1) && (decide (b.lo.2.1 < b.hi.2.1) && decide (b.lo.2.2 < b.hi.2.2)))) := by simp only [thickOk, Bool.and_assoc]
  rw [hr]
  clear hr
  generalize boxOk b = a at *
  obtain ⟨⟨x1, x2, x3⟩, x4, x5, x6⟩ := b
  simp only
  have HB := hide HB
  have K0 := hide (Blk.new w 60 #[.int .i64 x1, .int .i64 x2, .int .i64 x3, .int .i64 x4, .int .i64 x5, .int .i64 x6])
  have HW := hide (below_new w (.cells #[.int .i64 x1, .int .i64 x2, .int .i64 x3, .int .i64 x4, .int .i64 x5, .int .i64 x6] 60))
  go_enter Tryz.func103, Tryz.ntmps103
  go_wp2_with fail
  refine (HB.out _).mono ?_
  rintro e w1 ⟨rfl, hb⟩
  have K0 := hide (K0.out.keep hb)
  have HW := hide (below_step HW.out hb (Nat.le_refl _))
  clear hb HB
  have c0 := K0.out.cell 0
  have c1 := K0.out.cell 1
  have c2 := K0.out.cell 2
  have c3 := K0.out.cell 3
  have c4 := K0.out.cell 4
  have c5 := K0.out.cell 5
  simp at c0 c1 c2 c3 c4 c5
  have lk := K0.out.lt
  cases a
  · go_wp2_with fail
    go_ret
    exact ⟨ret_bool (by first | rfl | (rw [q0]; rfl) | (rw [q0, q1]; rfl) | (rw [q0, q1, q2]; rfl)), HW.out⟩
  cases q0 : decide (x1 < x4)
  · go_wp2_with fail
    go_ret
    exact ⟨ret_bool (by first | rfl | (rw [q0]; rfl) | (rw [q0, q1]; rfl) | (rw [q0, q1, q2]; rfl)), HW.out⟩
  cases q1 : decide (x2 < x5)
  · go_wp2_with fail
    go_ret
    exact ⟨ret_bool (by first | rfl | (rw [q0]; rfl) | (rw [q0, q1]; rfl) | (rw [q0, q1, q2]; rfl)), HW.out⟩
  cases q2 : decide (x3 < x6)
  all_goals
    go_wp2_with fail
    go_ret
    exact ⟨ret_bool (by first | rfl | (rw [q0]; rfl) | (rw [q0, q1]; rfl) | (rw [q0, q1, q2]; rfl)), HW.out⟩
theorem all_at {α : Type} {p : α → Bool} {l : List α} {k : Nat} {x : α} (h : l[k]? = some x) : (l.drop k).all p = (p x && (l.drop (k + 1)).all p) := by
  rw [drop_at' h, List.all_cons]
set_option maxHeartbeats 2000000 in
theorem refSolid_any (bs hs : List BoxD) (A1 A2 : Option Addr) (n1 n2 c1 c2 : Nat) (w : World) {B : Nat} (h1 : BoxesAt w B A1 bs) (h2 : BoxesAt w B A2 hs) (hB : B ≤ w.heap.size) (l1 : n1 = bs.length) (l2 : n2 = hs.length) :
    Calls Tryz.prog 65 #[.agg #[.slice A1 n1 c1, .slice A2 n2 c2]] w fun e w' => e = .returned (.bool (solidOk bs hs)) ∧ Below w.heap.size w w' := by
  have L1 := hide l1
  have L2 := hide l2
  have H1 := hide h1
  have H2 := hide h2
  have K0 := hide (Blk.new w 24 #[.slice A1 n1 c1, .slice A2 n2 c2])
  have HW := hide (below_new w (.cells #[.slice A1 n1 c1, .slice A2 n2 c2] 24))
  by_cases hlen : ¬(1 ≤ n1 ∧ n1 ≤ 20 ∧ n2 ≤ 20)
  · have hr := hide (show solidOk bs hs = false by
      cases hx : solidOk bs hs with
      | false => rfl
      | true => simp only [solidOk, Bool.and_eq_true, decide_eq_true_eq] at hx; omega)
    clear h1 h2 l1 l2
    by_cases a : n1 < 1
    · obtain rfl : n1 = 0 := by omega
      go_enter Tryz.func65, Tryz.ntmps65
      go_wp2_with fail
      go_ret
      exact ⟨ret_bool hr.out.symm, HW.out⟩
    have d0 : decide ((n1 : Int) < 1) = false := by simp; omega
    by_cases b : 20 < n1
    · have d1 : decide (20 < (n1 : Int)) = true := by simp; omega
      clear hlen a b
      go_enter Tryz.func65, Tryz.ntmps65
      go_wp2_with fail
      go_ret
      exact ⟨ret_bool hr.out.symm, HW.out⟩
    have d1 : decide (20 < (n1 : Int)) = false := by simp; omega
    have d2 : decide (20 < (n2 : Int)) = true := by simp; omega
    clear hlen a b
    go_enter Tryz.func65, Tryz.ntmps65
    go_wp2_with fail
    go_ret
    exact ⟨ret_bool hr.out.symm, HW.out⟩
  have hl1 : 1 ≤ n1 ∧ n1 ≤ 20 ∧ n2 ≤ 20 := by omega
  obtain ⟨m1, m20, m2⟩ := hl1
  have hr := hide (show solidOk bs hs = ((bs.drop 0).all thickOk && (hs.drop 0).all thickOk) by
    rw [solidOk, decide_eq_true (by omega), decide_eq_true (by omega), decide_eq_true (by omega)]; rfl)
  have d0 : decide ((n1 : Int) < 1) = false := by simp; omega
  have d1 : decide (20 < (n1 : Int)) = false := by simp; omega
  have d2 : decide (20 < (n2 : Int)) = false := by simp; omega
  clear hlen h1 h2 l1 l2
  go_enter Tryz.func65, Tryz.ntmps65
  go_wp2_with fail
  go_loopw [3] (fun i wr => ∃ k : Nat, k ≤ n1 ∧ i = .int .i64 k ∧ Hid ((bs.drop 0).all thickOk = (bs.drop k).all thickOk) ∧ Hid (Blk wr w.heap.size 24 #[.slice A1 n1 c1, .slice A2 n2 c2]) ∧ Below w.heap.size w wr) (fun i _ => n1 - (intOf i).toNat)
  case atStart => exact ⟨0, Nat.zero_le _, rfl, hide rfl, K0, HW.out⟩
  case round =>
    obtain ⟨k, hk, rfl, hq, hK, hbr⟩ := hrel
    have e0 := hK.out.cell 0
    simp at e0
    have lk := hK.out.lt
    by_cases hlt : k < n1
    · obtain ⟨b, off, x, rfl, hbl, hx, f0, f1, f2, f3, f4, f5⟩ := BoxesAt.get (k := k) (H1.out.carry (Flat.carried _) (hbr.mono hB) (Nat.le_refl _)) (by rw [← L1.out]; exact hlt)
      have Hq := hide (hq.out.trans (all_at hx))
      have HT := hide (fun W => refThick_any x W)
      generalize thickOk x = a at *
      obtain ⟨⟨x1, x2, x3⟩, x4, x5, x6⟩ := x
      simp only at f0 f1 f2 f3 f4 f5
      have HK := hide hK.out
      have Hbr := hide hbr
      clear hx hbl hq hK hbr
      go_wp2_with fail
      refine (HT.out _).mono ?_
      rintro e w1 ⟨rfl, hb⟩
      have HK := hide (HK.out.keep hb)
      have Hbr := hide (below_step Hbr.out hb (Nat.le_refl _))
      clear hb HT f0 f1 f2 f3 f4 f5 e0 lk
      cases a
      · go_wp2_with fail
        go_ret
        exact ⟨ret_bool (by rw [hr.out, Hq.out]; rfl), Hbr.out⟩
      · go_wp2_with fail
        go_roundw
        case rel => exact ⟨k + 1, by omega, by go_num, hide (by rw [Hq.out]; rfl), HK, Hbr.out⟩
        case measure => simp [intOf]; omega
    · obtain rfl : n1 = k := by omega
      have hf := hide (show (bs.drop 0).all thickOk = true by rw [hq.out, L1.out, List.drop_length]; rfl)
      have K1 := hK
      have HW1 := hide hbr
      rename World => wo
      clear hq hbr
      go_wp2_with fail
      go_loopw [4] (fun i wr => ∃ k : Nat, k ≤ n2 ∧ i = .int .i64 k ∧ Hid ((hs.drop 0).all thickOk = (hs.drop k).all thickOk) ∧ Hid (Blk wr w.heap.size 24 #[.slice A1 n1 c1, .slice A2 n2 c2]) ∧ Below w.heap.size w wr) (fun i _ => n2 - (intOf i).toNat)
      case atStart => exact ⟨0, Nat.zero_le _, rfl, hide rfl, K1, HW1.out⟩
      case round =>
        obtain ⟨k, hk, rfl, hq, hK, hbr⟩ := hrel
        have e1 := hK.out.cell 1
        simp at e1
        have lk := hK.out.lt
        by_cases hlt : k < n2
        · obtain ⟨b, off, x, rfl, hbl, hx, f0, f1, f2, f3, f4, f5⟩ := BoxesAt.get (k := k) (H2.out.carry (Flat.carried _) (hbr.mono hB) (Nat.le_refl _)) (by rw [← L2.out]; exact hlt)
          have Hq := hide (hq.out.trans (all_at hx))
          have HT := hide (fun W => refThick_any x W)
          generalize thickOk x = a at *
          obtain ⟨⟨x1, x2, x3⟩, x4, x5, x6⟩ := x
          simp only at f0 f1 f2 f3 f4 f5
          have HK := hide hK.out
          have Hbr := hide hbr
          clear hx hbl hq hK hbr
          go_wp2_with fail
          refine (HT.out _).mono ?_
          rintro e w1 ⟨rfl, hb⟩
          have HK := hide (HK.out.keep hb)
          have Hbr := hide (below_step Hbr.out hb (Nat.le_refl _))
          clear hb HT f0 f1 f2 f3 f4 f5 e1 lk
          cases a
          · go_wp2_with fail
            go_ret
            exact ⟨ret_bool (by rw [hr.out, Hq.out, hf.out]; rfl), Hbr.out⟩
          · go_wp2_with fail
            go_roundw
            case rel => exact ⟨k + 1, by omega, by go_num, hide (by rw [Hq.out]; rfl), HK, Hbr.out⟩
            case measure => simp [intOf]; omega
        · obtain rfl : n2 = k := by omega
          have hf2 := hide (show (hs.drop 0).all thickOk = true by rw [hq.out, L2.out, List.drop_length]; rfl)
          go_wp2_with fail
          go_ret
          exact ⟨ret_bool (by rw [hr.out, hf.out, hf2.out]; rfl), hbr⟩
end Go.Proofs.YtmcjpdlkkpnhfaaGreatDoor
namespace Go.Proofs.YtmcjpdlkkpnhfaaGreatDoor
open Go.RowKit

theorem countRuns_cons (r : RunD) (l : List RunD) : countRuns (r :: l) = r.count + countRuns l := by
  have key : ∀ (l : List RunD) (a : Int), l.foldl (fun s r => s + r.count) a = a + countRuns l := by
    intro l
    induction l with
    | nil => intro a; simp [countRuns]
    | cons x l ih =>
      intro a
      have h1 := ih (a + x.count)
      have h2 := ih x.count
      simp only [countRuns, List.foldl_cons, Int.zero_add] at h1 h2 ⊢
      rw [h1, h2]
      omega
  have h := key l r.count
  simp only [countRuns, List.foldl_cons, Int.zero_add] at h ⊢
  exact h
theorem countRuns_nonneg {bars : List BarD} : ∀ (l : List RunD), l.all (runOk bars) = true → 0 ≤ countRuns l := by
  intro l
  induction l with
  | nil => intro _; simp [countRuns]
  | cons r l ih =>
    intro h
    rw [List.all_cons, Bool.and_eq_true] at h
    have := ih h.2
    have := runOk_count h.1
    rw [countRuns_cons]
    omega
theorem runsFit_all {bars : List BarD} : ∀ (l : List RunD) (rest : Int), 0 ≤ rest → runsFit bars rest l = (l.all (runOk bars) && decide (countRuns l ≤ rest)) := by
  intro l
  induction l with
  | nil => intro rest h; simp [runsFit, countRuns, h]
  | cons r l ih =>
    intro rest h
    rw [runsFit, List.all_cons, countRuns_cons]
    cases h1 : runOk bars r
    · rfl
    have hc := runOk_count h1
    by_cases h2 : r.count ≤ rest
    · rw [decide_eq_true h2, ih _ (by omega), Bool.and_self, Bool.true_and, Bool.true_and]
      congr 1
      exact decide_eq_decide.2 (by omega)
    · rw [decide_eq_false h2]
      cases h3 : l.all (runOk bars)
      · rfl
      have := countRuns_nonneg l h3
      rw [decide_eq_false (by omega)]
      rfl
theorem laidOk_ref (bars : List BarD) (runs : List RunD) : laidOk bars runs = (schedOk bars && decide (runs.length ≤ 60) && runs.all (runOk bars) && decide (countRuns runs ≤ 2000)) := by
  rw [laidOk, runsFit_all _ _ (by decide), Bool.and_assoc, Bool.and_assoc, Bool.and_assoc]
def demsBy (l : List DemD) : Nat → List DemD → Bool
  | _, [] => true
  | k, d :: r => isName d.name && decide (idx (nameIs d.name) l = k) && boxOk d.zone && stepsOk d.steps && demsBy l (k + 1) r
theorem idx_mid {done r : List DemD} {d : DemD} : decide (idx (nameIs d.name) (done ++ d :: r) = (done.length : Nat)) = !done.any (nameIs d.name) := by
  cases h : done.any (nameIs d.name)
  · rw [Bool.not_false, decide_eq_true_eq]
    refine NoneTo.hit (y := d) (fun j y hj hy => ?_) (by simp) (by simp [nameIs])
    rw [List.getElem?_append_left hj] at hy
    rw [List.any_eq_false] at h
    simpa using h y (mem_of_get hy)
  · rw [Bool.not_true, decide_eq_false_iff_not]
    intro h2
    obtain ⟨y, _, _, h3⟩ := idx_spec h2
    obtain ⟨z, hz, hp⟩ := List.any_eq_true.1 h
    obtain ⟨j, hj, rfl⟩ := List.getElem_of_mem hz
    have := h3 j _ hj (by rw [List.getElem?_append_left hj]; exact List.getElem?_eq_getElem hj)
    rw [hp] at this
    cases this
theorem demsBy_eq : ∀ (r done : List DemD), demsBy (done ++ r) done.length r = demsFrom done r := by
  intro r
  induction r with
  | nil => intro done; rfl
  | cons d r ih =>
    intro done
    have h := ih (done ++ [d])
    rw [List.append_assoc, List.singleton_append, List.length_append, List.length_singleton] at h
    rw [demsBy, demsFrom, idx_mid, h, demOk]
    cases isName d.name <;> cases boxOk d.zone <;> cases stepsOk d.steps <;> cases done.any (nameIs d.name) <;> rfl
theorem demsOk_ref (l : List DemD) : demsOk l = (decide (l.length ≤ 20) && demsBy l 0 l) := by
  rw [demsOk, ← demsBy_eq l []]
  rfl
/-- A lap beside those ahead of it. -/
def lapNew (done : List JoinD) (j : JoinD) : Bool := !done.any fun i => decide (i.first = j.first) || decide (i.second = j.second)
def lapsBy (ms : List (Option BoxD)) : List JoinD → List JoinD → Bool
  | _, [] => true
  | done, j :: r => lapsFit ms j && lapNew done j && lapsBy ms (done ++ [j]) r
theorem lapNew_eq (done : List JoinD) (f s : List Int) (j : JoinD) (hf : ∀ n, n ∈ f ↔ ∃ i ∈ done, i.first = n) (hs : ∀ n, n ∈ s ↔ ∃ i ∈ done, i.second = n) : lapNew done j = (!f.contains j.first && !s.contains j.second) := by
  have h1 : (f.contains j.first || s.contains j.second) = done.any fun i => decide (i.first = j.first) || decide (i.second = j.second) := by
    rw [Bool.eq_iff_iff, Bool.or_eq_true, List.contains_iff_mem, List.contains_iff_mem, hf, hs, List.any_eq_true]
    simp only [Bool.or_eq_true, decide_eq_true_eq]
    constructor
    · rintro (⟨i, h1, h2⟩ | ⟨i, h1, h2⟩)
      · exact ⟨i, h1, .inl h2⟩
      · exact ⟨i, h1, .inr h2⟩
    · rintro ⟨i, h1, h2 | h2⟩
      · exact .inl ⟨i, h1, h2⟩
      · exact .inr ⟨i, h1, h2⟩
  rw [lapNew, ← h1, Bool.not_or]
theorem lapsBy_eq (ms : List (Option BoxD)) : ∀ (r done : List JoinD) (f s : List Int), (∀ n, n ∈ f ↔ ∃ i ∈ done, i.first = n) → (∀ n, n ∈ s ↔ ∃ i ∈ done, i.second = n) → lapsBy ms done r = lapsFrom ms f s r := by
  intro r
  induction r with
  | nil => intro done f s _ _; rfl
  | cons j r ih =>
    intro done f s hf hs
    rw [lapsBy, lapsFrom, lapNew_eq done f s j hf hs, ih (done ++ [j]) (j.first :: f) (j.second :: s)]
    · cases lapsFit ms j <;> cases f.contains j.first <;> cases s.contains j.second <;> rfl
    · intro n
      rw [List.mem_cons, hf]
      simp only [List.mem_append, List.mem_singleton]
      constructor
      · rintro (rfl | ⟨i, h1, h2⟩)
        · exact ⟨j, .inr rfl, rfl⟩
        · exact ⟨i, .inl h1, h2⟩
      · rintro ⟨i, h1 | rfl, h2⟩
        · exact .inr ⟨i, h1, h2⟩
        · exact .inl h2.symm
    · intro n
      rw [List.mem_cons, hs]
      simp only [List.mem_append, List.mem_singleton]
      constructor
      · rintro (rfl | ⟨i, h1, h2⟩)
        · exact ⟨j, .inr rfl, rfl⟩
        · exact ⟨i, .inl h1, h2⟩
      · rintro ⟨i, h1 | rfl, h2⟩
        · exact .inr ⟨i, h1, h2⟩
        · exact .inl h2.symm
theorem detOk_ref (x : DetD) : detOk x = (memOk x.mem && laidOk x.bars x.runs && demsOk x.dems && ruleOk x.rule && decide (x.laps.length ≤ 1000) && lapsBy ((laidAll x.bars x.runs).map mainLeg) [] x.laps) := by
  rw [detOk, detHead, lapsBy_eq _ x.laps [] [] [] (by simp) (by simp)]
end Go.Proofs.YtmcjpdlkkpnhfaaGreatDoor
namespace Go.Proofs.YtmcjpdlkkpnhfaaGreatDoor
open Go.RowKit

set_option maxHeartbeats 4000000 in
theorem refMember_any (m : MemD) (A1 A2 : Option Addr) (n1 n2 c1 c2 : Nat) (w : World) {B : Nat} (h1 : BoxesAt w B A1 m.boxes) (h2 : BoxesAt w B A2 m.holes) (hB : B ≤ w.heap.size) (l1 : n1 = m.boxes.length) (l2 : n2 = m.holes.length) (hnm : m.name.size ≤ maxLen) :
    Calls Tryz.prog 40 #[.agg #[.string m.name, .slice A1 n1 c1, .slice A2 n2 c2, .int .i64 m.cover, .int .i64 m.aggregate, .int .i64 m.poker]] w fun e w' => e = .returned (.bool (memOk m)) ∧ Below w.heap.size w w' := by
  have HI := hide (fun (W : World) => refIsName_any m.name W hnm)
  have HS := hide (fun (W : World) (hz : Below w.heap.size w W) => refSolid_any m.boxes m.holes A1 A2 n1 n2 c1 c2 W (h1.carry (Flat.carried _) (hz.mono hB) (Nat.le_refl _)) (h2.carry (Flat.carried _) (hz.mono hB) (Nat.le_refl _)) (Nat.le_trans hB hz.size) l1 l2)
  have hr : memOk m = (isName m.name && (solidOk m.boxes m.holes && (decide (0 ≤ m.cover) && (decide (m.cover ≤ 200) && (decide (1 ≤ m.aggregate) && (decide (m.aggregate ≤ 100) && (decide (1 ≤ m.poker) && decide (m.poker ≤ 200)))))))) := by
    simp only [memOk, within, Bool.and_assoc]
  rw [hr]
  clear hr h1 h2 l1 l2 hB hnm
  generalize isName m.name = a1 at *
  generalize solidOk m.boxes m.holes = a2 at *
  obtain ⟨name, boxes, holes, cover, agg, poker⟩ := m
  simp only at HI HS ⊢
  have K0 := hide (Blk.new w 26 #[.string name, .slice A1 n1 c1, .slice A2 n2 c2, .int .i64 cover, .int .i64 agg, .int .i64 poker])
  have HW := hide (below_new w (.cells #[.string name, .slice A1 n1 c1, .slice A2 n2 c2, .int .i64 cover, .int .i64 agg, .int .i64 poker] 26))
  go_enter Tryz.func40, Tryz.ntmps40
  go_wp2_with fail
  refine (HI.out _).mono ?_
  rintro e w1 ⟨rfl, rfl⟩
  cases a1
  · go_wp2_with fail
    go_ret
    exact ⟨rfl, HW.out⟩
  go_wp2_with fail
  refine (HS.out _ HW.out).mono ?_
  rintro e w1 ⟨rfl, hb⟩
  have K0 := hide (K0.out.keep hb)
  have HW := hide (below_step HW.out hb (Nat.le_refl _))
  clear hb HS HI
  have e3 := K0.out.cell 3
  have e4 := K0.out.cell 4
  have e5 := K0.out.cell 5
  simp at e3 e4 e5
  have lk := K0.out.lt
  cases a2
  · go_wp2_with fail
    go_ret
    exact ⟨rfl, HW.out⟩
  cases q0 : decide (0 ≤ cover)
  · go_wp2_with fail
    go_ret
    exact ⟨ret_bool (by first | rfl | (rw [q0]; rfl) | (rw [q0, q1]; rfl) | (rw [q0, q1, q2]; rfl) | (rw [q0, q1, q2, q3]; rfl) | (rw [q0, q1, q2, q3, q4]; rfl) | (rw [q0, q1, q2, q3, q4, q5]; rfl)), HW.out⟩
  cases q1 : decide (cover ≤ 200)
  · go_wp2_with fail
    go_ret
    exact ⟨ret_bool (by first | rfl | (rw [q0]; rfl) | (rw [q0, q1]; rfl) | (rw [q0, q1, q2]; rfl) | (rw [q0, q1, q2, q3]; rfl) | (rw [q0, q1, q2, q3, q4]; rfl) | (rw [q0, q1, q2, q3, q4, q5]; rfl)), HW.out⟩
  cases q2 : decide (1 ≤ agg)
  · go_wp2_with fail
    go_ret
    exact ⟨ret_bool (by first | rfl | (rw [q0]; rfl) | (rw [q0, q1]; rfl) | (rw [q0, q1, q2]; rfl) | (rw [q0, q1, q2, q3]; rfl) | (rw [q0, q1, q2, q3, q4]; rfl) | (rw [q0, q1, q2, q3, q4, q5]; rfl)), HW.out⟩
  cases q3 : decide (agg ≤ 100)
  · go_wp2_with fail
    go_ret
    exact ⟨ret_bool (by first | rfl | (rw [q0]; rfl) | (rw [q0, q1]; rfl) | (rw [q0, q1, q2]; rfl) | (rw [q0, q1, q2, q3]; rfl) | (rw [q0, q1, q2, q3, q4]; rfl) | (rw [q0, q1, q2, q3, q4, q5]; rfl)), HW.out⟩
  cases q4 : decide (1 ≤ poker)
  · go_wp2_with fail
    go_ret
    exact ⟨ret_bool (by first | rfl | (rw [q0]; rfl) | (rw [q0, q1]; rfl) | (rw [q0, q1, q2]; rfl) | (rw [q0, q1, q2, q3]; rfl) | (rw [q0, q1, q2, q3, q4]; rfl) | (rw [q0, q1, q2, q3, q4, q5]; rfl)), HW.out⟩
  cases q5 : decide (poker ≤ 200)
  all_goals
    go_wp2_with fail
    go_ret
    exact ⟨ret_bool (by first | rfl | (rw [q0]; rfl) | (rw [q0, q1]; rfl) | (rw [q0, q1, q2]; rfl) | (rw [q0, q1, q2, q3]; rfl) | (rw [q0, q1, q2, q3, q4]; rfl) | (rw [q0, q1, q2, q3, q4, q5]; rfl)), HW.out⟩
theorem nears_at {l : List Pt} {k : Nat} {x : Pt} (h : l[k]? = some x) : (l.drop k).all (nearBy 1048576) = (nearBy 1048576 x && (l.drop (k + 1)).all (nearBy 1048576)) := all_at h
set_option maxHeartbeats 1000000 in
theorem refNears_any (A : Option Addr) (l : List Pt) (n c : Nat) (w : World) {B : Nat} (h : PtsAt w B A l) (hB : B ≤ w.heap.size) (hn : n = l.length) (hm : n ≤ 60000) :
    Calls Tryz.prog 109 #[.slice A n c] w fun e w' => e = .returned (.bool (l.all (nearBy 1048576))) ∧ Below w.heap.size w w' := by
  have hn' := hide hn
  have Hs := hide h
  have hr := hide (show l.all (nearBy 1048576) = (l.drop 0).all (nearBy 1048576) from rfl)
  clear hn h
  go_enter Tryz.func109, Tryz.ntmps109
  go_wp2_with fail
  go_loopw [3] (fun i wr => ∃ k : Nat, k ≤ n ∧ i = .int .i64 k ∧ Hid ((l.drop 0).all (nearBy 1048576) = (l.drop k).all (nearBy 1048576)) ∧ Below w.heap.size w wr) (fun i _ => n - (intOf i).toNat)
  case atStart => exact ⟨0, Nat.zero_le _, rfl, hide rfl, Below.refl _ _⟩
  case round =>
    obtain ⟨k, hk, rfl, hq, hbr⟩ := hrel
    by_cases hlt : k < n
    · obtain ⟨b, off, x, rfl, hbl, hx, f0, f1, f2⟩ := PtsAt.get (k := k) (Hs.out.carry (Flat.carried _) (hbr.mono hB) (Nat.le_refl _)) (by rw [← hn'.out]; exact hlt)
      have Hq := hide (hq.out.trans (nears_at hx))
      have HT := hide (fun W => refNear_any x W)
      generalize nearBy 1048576 x = a at *
      obtain ⟨x1, x2, x3⟩ := x
      simp only [ptA] at f0 f1 f2 HT
      have Hbr := hide hbr
      clear hx hbl hq hbr
      go_wp2_with fail
      refine (HT.out _).mono ?_
      rintro e w1 ⟨rfl, hb⟩
      have Hbr := hide (below_step Hbr.out hb (Nat.le_refl _))
      clear hb HT f0 f1 f2
      cases a
      · go_wp2_with fail
        go_ret
        exact ⟨ret_bool (by rw [hr.out, Hq.out]; rfl), Hbr.out⟩
      · go_wp2_with fail
        go_roundw
        case rel => exact ⟨k + 1, by omega, by go_num, hide (by rw [Hq.out]; rfl), Hbr.out⟩
        case measure => simp [intOf]; omega
    · obtain rfl : k = n := by omega
      go_wp2_with fail
      go_ret
      exact ⟨ret_bool (by rw [hr.out, hq.out, List.drop_of_length_le (by rw [← hn'.out]; exact Nat.le_refl _)]; rfl), hbr⟩
set_option maxHeartbeats 1000000 in
theorem refMain_any (b : BoxD) (w : World) :
    Calls Tryz.prog 152 #[bxV b] w fun e w' => e = .returned (.bool (isMain b)) ∧ Below w.heap.size w w' := by
  obtain ⟨⟨x1, x2, x3⟩, x4, x5, x6⟩ := b
  have hr : isMain ⟨(x1, x2, x3), (x4, x5, x6)⟩ = (decide (x1 < x4) && (decide (x2 = x5) && decide (x3 = x6))) := by simp only [isMain, Bool.and_assoc]
  have h1 : (x2 == x5) = decide (x2 = x5) := rfl
  have h2 : (x3 == x6) = decide (x3 = x6) := rfl
  rw [hr]
  clear hr
  cases q0 : decide (x1 < x4)
  · clear h1 h2
    go_enter Tryz.func152, Tryz.ntmps152
    go_wp2_with fail
    go_ret
    exact ⟨rfl, below_new _ _⟩
  cases q1 : decide (x2 = x5)
  · rw [q1] at h1
    clear h2
    go_enter Tryz.func152, Tryz.ntmps152
    go_wp2_with fail
    go_ret
    exact ⟨rfl, below_new _ _⟩
  cases q2 : decide (x3 = x6)
  all_goals
    rw [q1] at h1
    rw [q2] at h2
    go_enter Tryz.func152, Tryz.ntmps152
    go_wp2_with fail
    go_ret
    exact ⟨rfl, below_new _ _⟩
set_option maxHeartbeats 1000000 in
theorem refMainLeg_any (A : Option Addr) (l : List BoxD) (n c : Nat) (w : World) {B : Nat} (h : BoxesAt w B A l) (hB : B ≤ w.heap.size) (hn : n = l.length) (hm : n ≤ 60000) :
    Calls Tryz.prog 116 #[.slice A n c] w fun e w' => e = .returned (.int .i64 (idx isMain l)) ∧ Below w.heap.size w w' := by
  have hn' := hide hn
  have Hs := hide h
  clear hn h
  go_enter Tryz.func116, Tryz.ntmps116
  go_wp2_with fail
  go_loopw [3] (fun i wr => ∃ k : Nat, k ≤ n ∧ i = .int .i64 k ∧ NoneTo isMain l k ∧ Below w.heap.size w wr) (fun i _ => n - (intOf i).toNat)
  case atStart => exact ⟨0, Nat.zero_le _, rfl, NoneTo.zero _ _, Below.refl _ _⟩
  case round =>
    obtain ⟨k, hk, rfl, hq, hbr⟩ := hrel
    by_cases hlt : k < n
    · obtain ⟨b, off, x, rfl, hbl, hx, f0, f1, f2, f3, f4, f5⟩ := BoxesAt.get (k := k) (Hs.out.carry (Flat.carried _) (hbr.mono hB) (Nat.le_refl _)) (by rw [← hn'.out]; exact hlt)
      have Hx := hide hx
      have HT := hide (fun W => refMain_any x W)
      obtain ⟨a, ha⟩ : ∃ a, a = isMain x := ⟨_, rfl⟩
      rw [← ha] at HT
      have Ha := hide ha.symm
      obtain ⟨⟨x1, x2, x3⟩, x4, x5, x6⟩ := x
      simp only [bxV] at f0 f1 f2 f3 f4 f5 HT
      have Hbr := hide hbr
      clear hx hbl hbr ha
      go_wp2_with fail
      refine (HT.out _).mono ?_
      rintro e w1 ⟨rfl, hb⟩
      have Hbr := hide (below_step Hbr.out hb (Nat.le_refl _))
      clear hb HT f0 f1 f2 f3 f4 f5
      cases a
      · go_wp2_with fail
        go_roundw
        case rel => exact ⟨k + 1, by omega, by go_num, hq.succ Hx.out Ha.out, Hbr.out⟩
        case measure => simp [intOf]; omega
      · go_wp2_with fail
        go_ret
        exact ⟨ret_int (hq.hit Hx.out Ha.out).symm, Hbr.out⟩
    · obtain rfl : k = n := by omega
      go_wp2_with fail
      go_ret
      exact ⟨ret_int (NoneTo.miss (by rw [← hn'.out]; exact hq)).symm, hbr⟩
end Go.Proofs.YtmcjpdlkkpnhfaaGreatDoor
