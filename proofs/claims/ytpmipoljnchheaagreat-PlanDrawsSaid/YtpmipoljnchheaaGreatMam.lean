/- The reference of layer 15: images of points. Plain: the references' words of validity say the same as ours. No walk stands here. The references of layers 16, 17, 24: members, near points, main legs, the place of a laid bar. The reference of layer 16: the points of a bar of a run. -/
import Derived.Test.YtpmipoljnchheaaGreatMak
import Derived.Deep.RegionHeld3
import Derived.Deep.Cut
import Derived.Test.YtpmipoljnchheaaGreatMag
import Derived.Test.YtpmipoljnchheaaGreatMaj
import Derived.Test.YtpmipoljnchheaaGreatMal
import Derived.Deep.RegionWith
namespace Go.Proofs.YtpmipoljnchheaaGreat
open Go.RowKit

theorem lin_sum {x y : Int} (p : Pt) : imgV x y p = addP (mulP p.1 (unitV x)) (addP (mulP p.2.1 (unitV y)) (mulP p.2.2 (crossV (unitV x) (unitV y)))) := by
  simp only [imgV, linV, addP, mulP, Prod.mk.injEq]
  refine ⟨?_, ?_, ?_⟩ <;> rw [Int.mul_comm p.1, Int.mul_comm p.2.1, Int.mul_comm p.2.2, Int.add_assoc]
theorem near_mul {n m : Int} {a : Pt} (ha : unitish a) (hn : -m ≤ n ∧ n ≤ m) (hm : 0 ≤ m) : nearBy m (mulP n a) = true := by
  obtain ⟨a1, a2, a3⟩ := ha
  have h1 := mulM_bound a1 hn hm
  have h2 := mulM_bound a2 hn hm
  have h3 := mulM_bound a3 hn hm
  rw [nearBy_iff]
  simp only [mulP]
  rw [Int.mul_comm n, Int.mul_comm n, Int.mul_comm n]
  exact ⟨h1, h2, h3⟩
theorem near_add {m n : Int} {p q : Pt} (hp : nearBy m p = true) (hq : nearBy n q = true) : nearBy (m + n) (addP p q) = true := by
  have h1 := nearBy_iff.1 hp
  have h2 := nearBy_iff.1 hq
  rw [nearBy_iff]
  simp only [addP]
  omega
/-- The result's block, and what was there ahead of the call. -/
def ImgR (w W : World) : Prop := (∃ u0 u1 u2, Blk W (w.heap.size + 1 + 1) 44 #[u0, u1, u2]) ∧ Below w.heap.size w W
theorem ImgR.step {w W wz : World} (h : ImgR w W) (hb : Below W.heap.size W wz) : ImgR w wz := by
  obtain ⟨⟨u0, u1, u2, hk⟩, hw⟩ := h
  exact ⟨⟨u0, u1, u2, hk.keep hb⟩, below_step hw hb (Nat.le_refl _)⟩
theorem ImgR.drew {w W : World} (h : ImgR w W) : ImgR w W.drew := by
  obtain ⟨⟨u0, u1, u2, hk⟩, hw⟩ := h
  exact ⟨⟨u0, u1, u2, hk.drew⟩, hw.drew⟩
theorem ImgR.store {w W : World} (h : ImgR w W) (x y z : Value) : ImgR w (((W.setCell ⟨w.heap.size + 1 + 1, 0, none⟩ x).setCell ⟨w.heap.size + 1 + 1, 1, none⟩ y).setCell ⟨w.heap.size + 1 + 1, 2, none⟩ z) := by
  obtain ⟨⟨u0, u1, u2, hk⟩, hw⟩ := h
  have h1 := ((hk.set_ 0 x).set_ 1 y).set_ 2 z
  simp only [List.setIfInBounds_toArray, List.set_cons_zero, List.set_cons_succ] at h1
  exact ⟨⟨x, y, z, h1⟩, ((hw.setCell (p := ⟨w.heap.size + 1 + 1, 0, none⟩) (by show w.heap.size ≤ w.heap.size + 1 + 1; omega) x).setCell (p := ⟨w.heap.size + 1 + 1, 1, none⟩) (by show w.heap.size ≤ w.heap.size + 1 + 1; omega) y).setCell (p := ⟨w.heap.size + 1 + 1, 2, none⟩) (by show w.heap.size ≤ w.heap.size + 1 + 1; omega) z⟩
theorem ImgR.facts {w W : World} (h : ImgR w W) : ∃ u0 u1 u2, W.cell? ⟨w.heap.size + 1 + 1, 0, none⟩ = some u0 ∧ W.cell? ⟨w.heap.size + 1 + 1, 1, none⟩ = some u1 ∧ W.cell? ⟨w.heap.size + 1 + 1, 2, none⟩ = some u2 ∧ W.frozen? ⟨w.heap.size + 1 + 1, 0, none⟩ = false ∧ W.frozen? ⟨w.heap.size + 1 + 1, 1, none⟩ = false ∧ W.frozen? ⟨w.heap.size + 1 + 1, 2, none⟩ = false := by
  obtain ⟨⟨u0, u1, u2, hk⟩, hw⟩ := h
  exact ⟨u0, u1, u2, hk.cell 0, hk.cell 1, hk.cell 2, hk.frozen 0, hk.frozen 1, hk.frozen 2⟩
theorem kc {W wz : World} {g i : Nat} {v : Value} (h : W.cell? ⟨g, i, none⟩ = some v) (hb : Below W.heap.size W wz) : wz.cell? ⟨g, i, none⟩ = some v := (hb.cell (p := ⟨g, i, none⟩) (lt_of_cell h)).trans h
theorem ks {W : World} {k g i : Nat} {v : Value} (hne : k ≠ g) (h : W.cell? ⟨g, i, none⟩ = some v) (x y z : Value) : (((W.setCell ⟨k, 0, none⟩ x).setCell ⟨k, 1, none⟩ y).setCell ⟨k, 2, none⟩ z).cell? ⟨g, i, none⟩ = some v :=
  cell_oth (.inl (Ne.symm hne)) (cell_oth (.inl (Ne.symm hne)) (cell_oth (.inl (Ne.symm hne)) h))
set_option maxHeartbeats 4000000 in
set_option maxRecDepth 100000 in
theorem refImage_any (x y : Int) (p : Pt) (w : World) (h : turnOk x y = true) (hp : nearBy 1048576 p = true) :
    Calls Tryz.prog 155 #[.agg #[.int .i64 x, .int .i64 y], ptA p] w fun e w' => e = .returned (ptA (imgV x y p)) ∧ Below w.heap.size w w' := by
  have hx : axis6 x := by
    simp only [turnOk, Bool.and_eq_true] at h
    exact axis6_of h.1.1.1
  have hy : axis6 y := by
    simp only [turnOk, Bool.and_eq_true] at h
    exact axis6_of h.1.1.2
  obtain ⟨HP1, HP2, HP3⟩ := nearBy_iff.1 hp
  have n1 := near_mul (unitish_of hx) HP1 (by omega)
  have n2 := near_mul (unitish_of hy) HP2 (by omega)
  have n3 := near_mul (cross_unit h) HP3 (by omega)
  have n4 := near_add n2 n3
  have HX := hide (fun (w : World) => refUnit_any x w hx)
  have HY := hide (fun (w : World) => refUnit_any y w hy)
  have HC := hide (fun (w : World) => refCross_any (unitV x) (unitV y) w (unitish_of hx) (unitish_of hy))
  have HT1 := hide (fun (w : World) => refTimes_any p.1 (unitV x) w (nearBy_mono n1 (by omega)))
  have HT2 := hide (fun (w : World) => refTimes_any p.2.1 (unitV y) w (nearBy_mono n2 (by omega)))
  have HT3 := hide (fun (w : World) => refTimes_any p.2.2 (crossV (unitV x) (unitV y)) w (nearBy_mono n3 (by omega)))
  have HS1 := hide (fun (w : World) => refPlus_any (mulP p.2.1 (unitV y)) (mulP p.2.2 (crossV (unitV x) (unitV y))) w (nearBy_mono n2 (by omega)) (nearBy_mono n3 (by omega)))
  have HS2 := hide (fun (w : World) => refPlus_any (mulP p.1 (unitV x)) (addP (mulP p.2.1 (unitV y)) (mulP p.2.2 (crossV (unitV x) (unitV y)))) w (nearBy_mono n1 (by omega)) (nearBy_mono n4 (by omega)))
  rw [lin_sum]
  generalize addP (mulP p.1 (unitV x)) (addP (mulP p.2.1 (unitV y)) (mulP p.2.2 (crossV (unitV x) (unitV y)))) = R at *
  generalize addP (mulP p.2.1 (unitV y)) (mulP p.2.2 (crossV (unitV x) (unitV y))) = S at *
  generalize mulP p.1 (unitV x) = T1 at *
  generalize mulP p.2.1 (unitV y) = T2 at *
  generalize mulP p.2.2 (crossV (unitV x) (unitV y)) = T3 at *
  generalize crossV (unitV x) (unitV y) = c at *
  generalize unitV x = a at *
  generalize unitV y = b at *
  clear n1 n2 n3 n4 h hp hx hy HP1 HP2 HP3
  obtain ⟨p1, p2, p3⟩ := p
  obtain ⟨a1, a2, a3⟩ := a
  obtain ⟨b1, b2, b3⟩ := b
  obtain ⟨c1, c2, c3⟩ := c
  obtain ⟨t1, t2, t3⟩ := T1
  obtain ⟨u1, u2, u3⟩ := T2
  obtain ⟨v1, v2, v3⟩ := T3
  obtain ⟨s1, s2, s3⟩ := S
  obtain ⟨r1, r2, r3⟩ := R
  simp only [ptA] at HX HY HC HT1 HT2 HT3 HS1 HS2 ⊢
  have KT := hide ((((Blk.new w 77 #[.int .i64 x, .int .i64 y]).alloc (.cells #[.int .i64 p1, .int .i64 p2, .int .i64 p3] 44)).alloc (.cells #[.int .i64 0, .int .i64 0, .int .i64 0] 44)))
  have KP := hide ((Blk.new1 w (.cells #[.int .i64 x, .int .i64 y] 77) 44 #[.int .i64 p1, .int .i64 p2, .int .i64 p3]).alloc (.cells #[.int .i64 0, .int .i64 0, .int .i64 0] 44))
  have KR := hide (Blk.new2 w (.cells #[.int .i64 x, .int .i64 y] 77) (.cells #[.int .i64 p1, .int .i64 p2, .int .i64 p3] 44) 44 #[.int .i64 0, .int .i64 0, .int .i64 0])
  have HW := hide ((below_new2 w (.cells #[.int .i64 x, .int .i64 y] 77) (.cells #[.int .i64 p1, .int .i64 p2, .int .i64 p3] 44)).alloc (by simp; omega) (.cells #[.int .i64 0, .int .i64 0, .int .i64 0] 44))
  go_enter Tryz.func155, Tryz.ntmps155
  go_wp2_with fail
  refine (HX.out _).mono ?_
  rintro e w1 ⟨rfl, hb⟩
  have KT := hide ((KT.out.keep hb).alloc (.cells #[.int .i64 a1, .int .i64 a2, .int .i64 a3] 44))
  have KP := hide ((KP.out.keep hb).alloc (.cells #[.int .i64 a1, .int .i64 a2, .int .i64 a3] 44))
  have KR := hide ((KR.out.keep hb).alloc (.cells #[.int .i64 a1, .int .i64 a2, .int .i64 a3] 44))
  have KA := hide (Blk.new w1 44 #[.int .i64 a1, .int .i64 a2, .int .i64 a3])
  have HW1 := hide (below_step HW.out hb (Nat.le_refl _))
  have HW := hide (HW1.out.alloc HW1.out.size (.cells #[.int .i64 a1, .int .i64 a2, .int .i64 a3] 44))
  have hb1' := hb.size
  clear hb HX HW1
  have e1 := KT.out.cell 1
  simp at e1
  have lt := KT.out.lt
  go_wp2_with fail
  refine (HY.out _).mono ?_
  rintro e w2 ⟨rfl, hb⟩
  have KP := hide ((KP.out.keep hb).alloc (.cells #[.int .i64 b1, .int .i64 b2, .int .i64 b3] 44))
  have KR := hide ((KR.out.keep hb).alloc (.cells #[.int .i64 b1, .int .i64 b2, .int .i64 b3] 44))
  have KA := hide ((KA.out.keep hb).alloc (.cells #[.int .i64 b1, .int .i64 b2, .int .i64 b3] 44))
  have KB := hide (Blk.new w2 44 #[.int .i64 b1, .int .i64 b2, .int .i64 b3])
  have HW1 := hide (below_step HW.out hb (Nat.le_refl _))
  have HW := hide (HW1.out.alloc HW1.out.size (.cells #[.int .i64 b1, .int .i64 b2, .int .i64 b3] 44))
  have hgA : w.heap.size + 2 < w1.heap.size := by
    have := hb1'
    simp at this
    omega
  have hgB : w1.heap.size < w2.heap.size := by
    have := hb.size
    simp at this
    omega
  clear hb HY e1 lt KT HW1
  obtain ⟨wa, hwa⟩ : ∃ wa, wa = w2.alloc (.cells #[.int .i64 b1, .int .i64 b2, .int .i64 b3] 44) := ⟨_, rfl⟩
  go_wp2_with fail
  rw [← hwa] at KP KR KA KB HW ⊢
  clear hwa
  have x0 := KP.out.cell 0
  have x1 := KP.out.cell 1
  have x2 := KP.out.cell 2
  have y0 := KA.out.cell 0
  have y1 := KA.out.cell 1
  have y2 := KA.out.cell 2
  have z0 := KB.out.cell 0
  have z1 := KB.out.cell 1
  have z2 := KB.out.cell 2
  simp at x0 x1 x2 y0 y1 y2 z0 z1 z2
  have KR := hide (show Blk wa (w.heap.size + 1 + 1) 44 #[.int .i64 0, .int .i64 0, .int .i64 0] from KR.out)
  have l1 := KP.out.lt
  have l2 := KA.out.lt
  have l3 := KB.out.lt
  have hR0 : ImgR w wa := ⟨⟨_, _, _, KR.out⟩, HW.out⟩
  have hg1 : w.heap.size + 1 + 1 ≠ w1.heap.size := by have := hgA; omega
  have hg2 : w.heap.size + 1 + 1 ≠ w2.heap.size := by have := hgB; omega
  have KC := hide (fun (W wz : World) (hS : W.cell? ⟨w.heap.size + 1, 0, none⟩ = some (.int .i64 p1) ∧ W.cell? ⟨w.heap.size + 1, 1, none⟩ = some (.int .i64 p2) ∧ W.cell? ⟨w.heap.size + 1, 2, none⟩ = some (.int .i64 p3) ∧ W.cell? ⟨w1.heap.size, 0, none⟩ = some (.int .i64 a1) ∧ W.cell? ⟨w1.heap.size, 1, none⟩ = some (.int .i64 a2) ∧ W.cell? ⟨w1.heap.size, 2, none⟩ = some (.int .i64 a3) ∧ W.cell? ⟨w2.heap.size, 0, none⟩ = some (.int .i64 b1) ∧ W.cell? ⟨w2.heap.size, 1, none⟩ = some (.int .i64 b2) ∧ W.cell? ⟨w2.heap.size, 2, none⟩ = some (.int .i64 b3) ∧ ImgR w W) (hbz : Below W.heap.size W wz) => show wz.cell? ⟨w.heap.size + 1, 0, none⟩ = some (.int .i64 p1) ∧ wz.cell? ⟨w.heap.size + 1, 1, none⟩ = some (.int .i64 p2) ∧ wz.cell? ⟨w.heap.size + 1, 2, none⟩ = some (.int .i64 p3) ∧ wz.cell? ⟨w1.heap.size, 0, none⟩ = some (.int .i64 a1) ∧ wz.cell? ⟨w1.heap.size, 1, none⟩ = some (.int .i64 a2) ∧ wz.cell? ⟨w1.heap.size, 2, none⟩ = some (.int .i64 a3) ∧ wz.cell? ⟨w2.heap.size, 0, none⟩ = some (.int .i64 b1) ∧ wz.cell? ⟨w2.heap.size, 1, none⟩ = some (.int .i64 b2) ∧ wz.cell? ⟨w2.heap.size, 2, none⟩ = some (.int .i64 b3) ∧ ImgR w wz from
    ⟨kc hS.1 hbz, kc hS.2.1 hbz, kc hS.2.2.1 hbz, kc hS.2.2.2.1 hbz, kc hS.2.2.2.2.1 hbz, kc hS.2.2.2.2.2.1 hbz, kc hS.2.2.2.2.2.2.1 hbz, kc hS.2.2.2.2.2.2.2.1 hbz, kc hS.2.2.2.2.2.2.2.2.1 hbz, hS.2.2.2.2.2.2.2.2.2.step hbz⟩)
  have KS := hide (fun (W : World) (x y z : Value) (hS : W.cell? ⟨w.heap.size + 1, 0, none⟩ = some (.int .i64 p1) ∧ W.cell? ⟨w.heap.size + 1, 1, none⟩ = some (.int .i64 p2) ∧ W.cell? ⟨w.heap.size + 1, 2, none⟩ = some (.int .i64 p3) ∧ W.cell? ⟨w1.heap.size, 0, none⟩ = some (.int .i64 a1) ∧ W.cell? ⟨w1.heap.size, 1, none⟩ = some (.int .i64 a2) ∧ W.cell? ⟨w1.heap.size, 2, none⟩ = some (.int .i64 a3) ∧ W.cell? ⟨w2.heap.size, 0, none⟩ = some (.int .i64 b1) ∧ W.cell? ⟨w2.heap.size, 1, none⟩ = some (.int .i64 b2) ∧ W.cell? ⟨w2.heap.size, 2, none⟩ = some (.int .i64 b3) ∧ ImgR w W) => show (((W.setCell ⟨w.heap.size + 1 + 1, 0, none⟩ x).setCell ⟨w.heap.size + 1 + 1, 1, none⟩ y).setCell ⟨w.heap.size + 1 + 1, 2, none⟩ z).cell? ⟨w.heap.size + 1, 0, none⟩ = some (.int .i64 p1) ∧ (((W.setCell ⟨w.heap.size + 1 + 1, 0, none⟩ x).setCell ⟨w.heap.size + 1 + 1, 1, none⟩ y).setCell ⟨w.heap.size + 1 + 1, 2, none⟩ z).cell? ⟨w.heap.size + 1, 1, none⟩ = some (.int .i64 p2) ∧ (((W.setCell ⟨w.heap.size + 1 + 1, 0, none⟩ x).setCell ⟨w.heap.size + 1 + 1, 1, none⟩ y).setCell ⟨w.heap.size + 1 + 1, 2, none⟩ z).cell? ⟨w.heap.size + 1, 2, none⟩ = some (.int .i64 p3) ∧ (((W.setCell ⟨w.heap.size + 1 + 1, 0, none⟩ x).setCell ⟨w.heap.size + 1 + 1, 1, none⟩ y).setCell ⟨w.heap.size + 1 + 1, 2, none⟩ z).cell? ⟨w1.heap.size, 0, none⟩ = some (.int .i64 a1) ∧ (((W.setCell ⟨w.heap.size + 1 + 1, 0, none⟩ x).setCell ⟨w.heap.size + 1 + 1, 1, none⟩ y).setCell ⟨w.heap.size + 1 + 1, 2, none⟩ z).cell? ⟨w1.heap.size, 1, none⟩ = some (.int .i64 a2) ∧ (((W.setCell ⟨w.heap.size + 1 + 1, 0, none⟩ x).setCell ⟨w.heap.size + 1 + 1, 1, none⟩ y).setCell ⟨w.heap.size + 1 + 1, 2, none⟩ z).cell? ⟨w1.heap.size, 2, none⟩ = some (.int .i64 a3) ∧ (((W.setCell ⟨w.heap.size + 1 + 1, 0, none⟩ x).setCell ⟨w.heap.size + 1 + 1, 1, none⟩ y).setCell ⟨w.heap.size + 1 + 1, 2, none⟩ z).cell? ⟨w2.heap.size, 0, none⟩ = some (.int .i64 b1) ∧ (((W.setCell ⟨w.heap.size + 1 + 1, 0, none⟩ x).setCell ⟨w.heap.size + 1 + 1, 1, none⟩ y).setCell ⟨w.heap.size + 1 + 1, 2, none⟩ z).cell? ⟨w2.heap.size, 1, none⟩ = some (.int .i64 b2) ∧ (((W.setCell ⟨w.heap.size + 1 + 1, 0, none⟩ x).setCell ⟨w.heap.size + 1 + 1, 1, none⟩ y).setCell ⟨w.heap.size + 1 + 1, 2, none⟩ z).cell? ⟨w2.heap.size, 2, none⟩ = some (.int .i64 b3) ∧ ImgR w (((W.setCell ⟨w.heap.size + 1 + 1, 0, none⟩ x).setCell ⟨w.heap.size + 1 + 1, 1, none⟩ y).setCell ⟨w.heap.size + 1 + 1, 2, none⟩ z) from
    ⟨ks (by omega) hS.1 x y z, ks (by omega) hS.2.1 x y z, ks (by omega) hS.2.2.1 x y z, ks hg1 hS.2.2.2.1 x y z, ks hg1 hS.2.2.2.2.1 x y z, ks hg1 hS.2.2.2.2.2.1 x y z, ks hg2 hS.2.2.2.2.2.2.1 x y z, ks hg2 hS.2.2.2.2.2.2.2.1 x y z, ks hg2 hS.2.2.2.2.2.2.2.2.1 x y z, hS.2.2.2.2.2.2.2.2.2.store x y z⟩)
  go_region_held3 (fun W => W.cell? ⟨w.heap.size + 1, 0, none⟩ = some (.int .i64 p1) ∧ W.cell? ⟨w.heap.size + 1, 1, none⟩ = some (.int .i64 p2) ∧ W.cell? ⟨w.heap.size + 1, 2, none⟩ = some (.int .i64 p3) ∧ W.cell? ⟨w1.heap.size, 0, none⟩ = some (.int .i64 a1) ∧ W.cell? ⟨w1.heap.size, 1, none⟩ = some (.int .i64 a2) ∧ W.cell? ⟨w1.heap.size, 2, none⟩ = some (.int .i64 a3) ∧ W.cell? ⟨w2.heap.size, 0, none⟩ = some (.int .i64 b1) ∧ W.cell? ⟨w2.heap.size, 1, none⟩ = some (.int .i64 b2) ∧ W.cell? ⟨w2.heap.size, 2, none⟩ = some (.int .i64 b3) ∧ ImgR w W)
    (first
      | (with_reducible assumption)
      | (refine KS.out _ _ _ _ ?_; with_reducible assumption)
      | (exact ⟨x0, x1, x2, y0, y1, y2, z0, z1, z2, ImgR.drew hR0⟩)
      | (exact ⟨x0, x1, x2, y0, y1, y2, z0, z1, z2, hR0⟩)
      | go_keep)
    (first
      | (go_at_call 182; have hS := ‹_ ∧ _ ∧ _ ∧ _ ∧ _ ∧ _ ∧ _ ∧ _ ∧ _ ∧ ImgR w _›; (first | (with_reducible refine (HT1.out _).mono ?_) | (with_reducible refine (HT2.out _).mono ?_) | (with_reducible refine (HT3.out _).mono ?_)); rintro e wz ⟨rfl, hbz⟩; have hS2 := KC.out _ _ hS hbz; obtain ⟨u0, u1, u2, d0, d1, d2, g0, g1, g2⟩ := hS2.2.2.2.2.2.2.2.2.2.facts)
      | (go_at_call 183; have hS := ‹_ ∧ _ ∧ _ ∧ _ ∧ _ ∧ _ ∧ _ ∧ _ ∧ _ ∧ ImgR w _›; (with_reducible refine (HC.out _).mono ?_); rintro e wz ⟨rfl, hbz⟩; have hS2 := KC.out _ _ hS hbz; obtain ⟨u0, u1, u2, d0, d1, d2, g0, g1, g2⟩ := hS2.2.2.2.2.2.2.2.2.2.facts)
      | (go_at_call 153; have hS := ‹_ ∧ _ ∧ _ ∧ _ ∧ _ ∧ _ ∧ _ ∧ _ ∧ _ ∧ ImgR w _›; (first | (with_reducible refine (HS1.out _).mono ?_) | (with_reducible refine (HS2.out _).mono ?_)); rintro e wz ⟨rfl, hbz⟩; have hS2 := KC.out _ _ hS hbz; obtain ⟨u0, u1, u2, d0, d1, d2, g0, g1, g2⟩ := hS2.2.2.2.2.2.2.2.2.2.facts))
  go_goals
  have hSz := ‹_ ∧ _ ∧ _ ∧ _ ∧ _ ∧ _ ∧ _ ∧ _ ∧ _ ∧ ImgR w wz›
  obtain ⟨⟨i0, i1, i2, hk⟩, hwz⟩ := hSz.2.2.2.2.2.2.2.2.2
  have Hk := hide hk
  have Hwz := hide hwz
  go_wp2_with fail
  refine bodyPost_ret (results_c rfl rfl (((Hk.out.set_ 0 _).set_ 1 _).set_ 2 _) Tryz.underlying44 rfl (by kernel_rfl)) rfl ?_
  refine ⟨?_, ((Hwz.out.setCell (p := ⟨w.heap.size + 1 + 1, 0, none⟩) (by show w.heap.size ≤ w.heap.size + 1 + 1; omega) _).setCell (p := ⟨w.heap.size + 1 + 1, 1, none⟩) (by show w.heap.size ≤ w.heap.size + 1 + 1; omega) _).setCell (p := ⟨w.heap.size + 1 + 1, 2, none⟩) (by show w.heap.size ≤ w.heap.size + 1 + 1; omega) _⟩
  simp only [List.setIfInBounds_toArray, List.set_cons_zero, List.set_cons_succ]
end Go.Proofs.YtpmipoljnchheaaGreat
namespace Go.Proofs.YtpmipoljnchheaaGreat
open Go.RowKit

theorem countRuns_cons (r : RunD) (l : List RunD) : countRuns (r :: l) = r.count + countRuns l := by
  have key : ∀ (l : List RunD) (a : Int), l.foldl (fun s r => s + r.count) a = a + countRuns l := by
    intro l
    induction l with
    | nil => intro a; simp [countRuns]
    | cons x l ih =>
      intro a
      have h1 := ih (a + x.count)
      have h2 := ih x.count
      simp only [countRuns, List.foldl_cons, Int.zero_add] at h1 h2 ⊢
      rw [h1, h2]
      omega
  have h := key l r.count
  simp only [countRuns, List.foldl_cons, Int.zero_add] at h ⊢
  exact h
theorem countRuns_nonneg {bars : List BarD} : ∀ (l : List RunD), l.all (runOk bars) = true → 0 ≤ countRuns l := by
  intro l
  induction l with
  | nil => intro _; simp [countRuns]
  | cons r l ih =>
    intro h
    rw [List.all_cons, Bool.and_eq_true] at h
    have := ih h.2
    have := runOk_count h.1
    rw [countRuns_cons]
    omega
theorem runsFit_all {bars : List BarD} : ∀ (l : List RunD) (rest : Int), 0 ≤ rest → runsFit bars rest l = (l.all (runOk bars) && decide (countRuns l ≤ rest)) := by
  intro l
  induction l with
  | nil => intro rest h; simp [runsFit, countRuns, h]
  | cons r l ih =>
    intro rest h
    rw [runsFit, List.all_cons, countRuns_cons]
    cases h1 : runOk bars r
    · rfl
    have hc := runOk_count h1
    by_cases h2 : r.count ≤ rest
    · rw [decide_eq_true h2, ih _ (by omega), Bool.and_self, Bool.true_and, Bool.true_and]
      congr 1
      exact decide_eq_decide.2 (by omega)
    · rw [decide_eq_false h2]
      cases h3 : l.all (runOk bars)
      · rfl
      have := countRuns_nonneg l h3
      rw [decide_eq_false (by omega)]
      rfl
theorem laidOk_ref (bars : List BarD) (runs : List RunD) : laidOk bars runs = (schedOk bars && decide (runs.length ≤ 60) && runs.all (runOk bars) && decide (countRuns runs ≤ 2000)) := by
  rw [laidOk, runsFit_all _ _ (by decide), Bool.and_assoc, Bool.and_assoc, Bool.and_assoc]
def demsBy (l : List DemD) : Nat → List DemD → Bool
  | _, [] => true
  | k, d :: r => isName d.name && decide (idx (nameIs d.name) l = k) && boxOk d.zone && stepsOk d.steps && demsBy l (k + 1) r
theorem idx_mid {done r : List DemD} {d : DemD} : decide (idx (nameIs d.name) (done ++ d :: r) = (done.length : Nat)) = !done.any (nameIs d.name) := by
  cases h : done.any (nameIs d.name)
  · rw [Bool.not_false, decide_eq_true_eq]
    refine NoneTo.hit (y := d) (fun j y hj hy => ?_) (by simp) (by simp [nameIs])
    rw [List.getElem?_append_left hj] at hy
    rw [List.any_eq_false] at h
    simpa using h y (mem_of_get hy)
  · rw [Bool.not_true, decide_eq_false_iff_not]
    intro h2
    obtain ⟨y, _, _, h3⟩ := idx_spec h2
    obtain ⟨z, hz, hp⟩ := List.any_eq_true.1 h
    obtain ⟨j, hj, rfl⟩ := List.getElem_of_mem hz
    have := h3 j _ hj (by rw [List.getElem?_append_left hj]; exact List.getElem?_eq_getElem hj)
    rw [hp] at this
    cases this
theorem demsBy_eq : ∀ (r done : List DemD), demsBy (done ++ r) done.length r = demsFrom done r := by
  intro r
  induction r with
  | nil => intro done; rfl
  | cons d r ih =>
    intro done
    have h := ih (done ++ [d])
    rw [List.append_assoc, List.singleton_append, List.length_append, List.length_singleton] at h
    rw [demsBy, demsFrom, idx_mid, h, demOk]
    cases isName d.name <;> cases boxOk d.zone <;> cases stepsOk d.steps <;> cases done.any (nameIs d.name) <;> rfl
theorem demsOk_ref (l : List DemD) : demsOk l = (decide (l.length ≤ 20) && demsBy l 0 l) := by
  rw [demsOk, ← demsBy_eq l []]
  rfl
/-- A lap beside those ahead of it. -/
def lapNew (done : List JoinD) (j : JoinD) : Bool := !done.any fun i => decide (i.first = j.first) || decide (i.second = j.second)
def lapsBy (ms : List (Option BoxD)) : List JoinD → List JoinD → Bool
  | _, [] => true
  | done, j :: r => lapsFit ms j && lapNew done j && lapsBy ms (done ++ [j]) r
theorem lapNew_eq (done : List JoinD) (f s : List Int) (j : JoinD) (hf : ∀ n, n ∈ f ↔ ∃ i ∈ done, i.first = n) (hs : ∀ n, n ∈ s ↔ ∃ i ∈ done, i.second = n) : lapNew done j = (!f.contains j.first && !s.contains j.second) := by
  have h1 : (f.contains j.first || s.contains j.second) = done.any fun i => decide (i.first = j.first) || decide (i.second = j.second) := by
    rw [Bool.eq_iff_iff, Bool.or_eq_true, List.contains_iff_mem, List.contains_iff_mem, hf, hs, List.any_eq_true]
    simp only [Bool.or_eq_true, decide_eq_true_eq]
    constructor
    · rintro (⟨i, h1, h2⟩ | ⟨i, h1, h2⟩)
      · exact ⟨i, h1, .inl h2⟩
      · exact ⟨i, h1, .inr h2⟩
    · rintro ⟨i, h1, h2 | h2⟩
      · exact .inl ⟨i, h1, h2⟩
      · exact .inr ⟨i, h1, h2⟩
  rw [lapNew, ← h1, Bool.not_or]
theorem lapsBy_eq (ms : List (Option BoxD)) : ∀ (r done : List JoinD) (f s : List Int), (∀ n, n ∈ f ↔ ∃ i ∈ done, i.first = n) → (∀ n, n ∈ s ↔ ∃ i ∈ done, i.second = n) → lapsBy ms done r = lapsFrom ms f s r := by
  intro r
  induction r with
  | nil => intro done f s _ _; rfl
  | cons j r ih =>
    intro done f s hf hs
    rw [lapsBy, lapsFrom, lapNew_eq done f s j hf hs, ih (done ++ [j]) (j.first :: f) (j.second :: s)]
    · cases lapsFit ms j <;> cases f.contains j.first <;> cases s.contains j.second <;> rfl
    · intro n
      rw [List.mem_cons, hf]
      simp only [List.mem_append, List.mem_singleton]
      constructor
      · rintro (rfl | ⟨i, h1, h2⟩)
        · exact ⟨j, .inr rfl, rfl⟩
        · exact ⟨i, .inl h1, h2⟩
      · rintro ⟨i, h1 | rfl, h2⟩
        · exact .inr ⟨i, h1, h2⟩
        · exact .inl h2.symm
    · intro n
      rw [List.mem_cons, hs]
      simp only [List.mem_append, List.mem_singleton]
      constructor
      · rintro (rfl | ⟨i, h1, h2⟩)
        · exact ⟨j, .inr rfl, rfl⟩
        · exact ⟨i, .inl h1, h2⟩
      · rintro ⟨i, h1 | rfl, h2⟩
        · exact .inr ⟨i, h1, h2⟩
        · exact .inl h2.symm
theorem detOk_ref (x : DetD) : detOk x = (memOk x.mem && laidOk x.bars x.runs && demsOk x.dems && ruleOk x.rule && decide (x.laps.length ≤ 1000) && lapsBy ((laidAll x.bars x.runs).map mainLeg) [] x.laps) := by
  rw [detOk, detHead, lapsBy_eq _ x.laps [] [] [] (by simp) (by simp)]
end Go.Proofs.YtpmipoljnchheaaGreat
namespace Go.Proofs.YtpmipoljnchheaaGreat
open Go.RowKit

set_option maxHeartbeats 4000000 in
theorem refMember_any (m : MemD) (A1 A2 : Option Addr) (n1 n2 c1 c2 : Nat) (w : World) {B : Nat} (h1 : BoxesAt w B A1 m.boxes) (h2 : BoxesAt w B A2 m.holes) (hB : B ≤ w.heap.size) (l1 : n1 = m.boxes.length) (l2 : n2 = m.holes.length) (hnm : m.name.size ≤ maxLen) :
    Calls Tryz.prog 41 #[.agg #[.string m.name, .slice A1 n1 c1, .slice A2 n2 c2, .int .i64 m.cover, .int .i64 m.aggregate, .int .i64 m.poker]] w fun e w' => e = .returned (.bool (memOk m)) ∧ Below w.heap.size w w' := by
  have HI := hide (fun (W : World) => refIsName_any m.name W hnm)
  have HS := hide (fun (W : World) (hz : Below w.heap.size w W) => refSolid_any m.boxes m.holes A1 A2 n1 n2 c1 c2 W (h1.carry (Flat.carried _) (hz.mono hB) (Nat.le_refl _)) (h2.carry (Flat.carried _) (hz.mono hB) (Nat.le_refl _)) (Nat.le_trans hB hz.size) l1 l2)
  have hr : memOk m = (isName m.name && (solidOk m.boxes m.holes && (decide (0 ≤ m.cover) && (decide (m.cover ≤ 200) && (decide (1 ≤ m.aggregate) && (decide (m.aggregate ≤ 100) && (decide (1 ≤ m.poker) && decide (m.poker ≤ 200)))))))) := by
    simp only [memOk, within, Bool.and_assoc]
  rw [hr]
  clear hr h1 h2 l1 l2 hB hnm
  generalize isName m.name = a1 at *
  generalize solidOk m.boxes m.holes = a2 at *
  obtain ⟨name, boxes, holes, cover, agg, poker⟩ := m
  simp only at HI HS ⊢
  have K0 := hide (Blk.new w 26 #[.string name, .slice A1 n1 c1, .slice A2 n2 c2, .int .i64 cover, .int .i64 agg, .int .i64 poker])
  have HW := hide (below_new w (.cells #[.string name, .slice A1 n1 c1, .slice A2 n2 c2, .int .i64 cover, .int .i64 agg, .int .i64 poker] 26))
  go_enter Tryz.func41, Tryz.ntmps41
  go_wp2_with fail
  refine (HI.out _).mono ?_
  rintro e w1 ⟨rfl, rfl⟩
  cases a1
  · go_wp2_with fail
    go_ret
    exact ⟨rfl, HW.out⟩
  go_wp2_with fail
  refine (HS.out _ HW.out).mono ?_
  rintro e w1 ⟨rfl, hb⟩
  have K0 := hide (K0.out.keep hb)
  have HW := hide (below_step HW.out hb (Nat.le_refl _))
  clear hb HS HI
  have e3 := K0.out.cell 3
  have e4 := K0.out.cell 4
  have e5 := K0.out.cell 5
  simp at e3 e4 e5
  have lk := K0.out.lt
  cases a2
  · go_wp2_with fail
    go_ret
    exact ⟨rfl, HW.out⟩
  cases q0 : decide (0 ≤ cover)
  · go_wp2_with fail
    go_ret
    exact ⟨ret_bool (by first | rfl | (rw [q0]; rfl) | (rw [q0, q1]; rfl) | (rw [q0, q1, q2]; rfl) | (rw [q0, q1, q2, q3]; rfl) | (rw [q0, q1, q2, q3, q4]; rfl) | (rw [q0, q1, q2, q3, q4, q5]; rfl)), HW.out⟩
  cases q1 : decide (cover ≤ 200)
  · go_wp2_with fail
    go_ret
    exact ⟨ret_bool (by first | rfl | (rw [q0]; rfl) | (rw [q0, q1]; rfl) | (rw [q0, q1, q2]; rfl) | (rw [q0, q1, q2, q3]; rfl) | (rw [q0, q1, q2, q3, q4]; rfl) | (rw [q0, q1, q2, q3, q4, q5]; rfl)), HW.out⟩
  cases q2 : decide (1 ≤ agg)
  · go_wp2_with fail
    go_ret
    exact ⟨ret_bool (by first | rfl | (rw [q0]; rfl) | (rw [q0, q1]; rfl) | (rw [q0, q1, q2]; rfl) | (rw [q0, q1, q2, q3]; rfl) | (rw [q0, q1, q2, q3, q4]; rfl) | (rw [q0, q1, q2, q3, q4, q5]; rfl)), HW.out⟩
  cases q3 : decide (agg ≤ 100)
  · go_wp2_with fail
    go_ret
    exact ⟨ret_bool (by first | rfl | (rw [q0]; rfl) | (rw [q0, q1]; rfl) | (rw [q0, q1, q2]; rfl) | (rw [q0, q1, q2, q3]; rfl) | (rw [q0, q1, q2, q3, q4]; rfl) | (rw [q0, q1, q2, q3, q4, q5]; rfl)), HW.out⟩
  cases q4 : decide (1 ≤ poker)
  · go_wp2_with fail
    go_ret
    exact ⟨ret_bool (by first | rfl | (rw [q0]; rfl) | (rw [q0, q1]; rfl) | (rw [q0, q1, q2]; rfl) | (rw [q0, q1, q2, q3]; rfl) | (rw [q0, q1, q2, q3, q4]; rfl) | (rw [q0, q1, q2, q3, q4, q5]; rfl)), HW.out⟩
  cases q5 : decide (poker ≤ 200)
  all_goals
    go_wp2_with fail
    go_ret
    exact ⟨ret_bool (by first | rfl | (rw [q0]; rfl) | (rw [q0, q1]; rfl) | (rw [q0, q1, q2]; rfl) | (rw [q0, q1, q2, q3]; rfl) | (rw [q0, q1, q2, q3, q4]; rfl) | (rw [q0, q1, q2, q3, q4, q5]; rfl)), HW.out⟩
theorem nears_at {l : List Pt} {k : Nat} {x : Pt} (h : l[k]? = some x) : (l.drop k).all (nearBy 1048576) = (nearBy 1048576 x && (l.drop (k + 1)).all (nearBy 1048576)) := all_at h
set_option maxHeartbeats 1000000 in
theorem refNears_any (A : Option Addr) (l : List Pt) (n c : Nat) (w : World) {B : Nat} (h : PtsAt w B A l) (hB : B ≤ w.heap.size) (hn : n = l.length) (hm : n ≤ 60000) :
    Calls Tryz.prog 106 #[.slice A n c] w fun e w' => e = .returned (.bool (l.all (nearBy 1048576))) ∧ Below w.heap.size w w' := by
  have hn' := hide hn
  have Hs := hide h
  have hr := hide (show l.all (nearBy 1048576) = (l.drop 0).all (nearBy 1048576) from rfl)
  clear hn h
  go_enter Tryz.func106, Tryz.ntmps106
  go_wp2_with fail
  go_loopw [3] (fun i wr => ∃ k : Nat, k ≤ n ∧ i = .int .i64 k ∧ Hid ((l.drop 0).all (nearBy 1048576) = (l.drop k).all (nearBy 1048576)) ∧ Below w.heap.size w wr) (fun i _ => n - (intOf i).toNat)
  case atStart => exact ⟨0, Nat.zero_le _, rfl, hide rfl, Below.refl _ _⟩
  case round =>
    obtain ⟨k, hk, rfl, hq, hbr⟩ := hrel
    by_cases hlt : k < n
    · obtain ⟨b, off, x, rfl, hbl, hx, f0, f1, f2⟩ := PtsAt.get (k := k) (Hs.out.carry (Flat.carried _) (hbr.mono hB) (Nat.le_refl _)) (by rw [← hn'.out]; exact hlt)
      have Hq := hide (hq.out.trans (nears_at hx))
      have HT := hide (fun W => refNear_any x W)
      generalize nearBy 1048576 x = a at *
      obtain ⟨x1, x2, x3⟩ := x
      simp only [ptA] at f0 f1 f2 HT
      have Hbr := hide hbr
      clear hx hbl hq hbr
      go_wp2_with fail
      refine (HT.out _).mono ?_
      rintro e w1 ⟨rfl, hb⟩
      have Hbr := hide (below_step Hbr.out hb (Nat.le_refl _))
      clear hb HT f0 f1 f2
      cases a
      · go_wp2_with fail
        go_ret
        exact ⟨ret_bool (by rw [hr.out, Hq.out]; rfl), Hbr.out⟩
      · go_wp2_with fail
        go_roundw
        case rel => exact ⟨k + 1, by omega, by go_num, hide (by rw [Hq.out]; rfl), Hbr.out⟩
        case measure => simp [intOf]; omega
    · obtain rfl : k = n := by omega
      go_wp2_with fail
      go_ret
      exact ⟨ret_bool (by rw [hr.out, hq.out, List.drop_of_length_le (by rw [← hn'.out]; exact Nat.le_refl _)]; rfl), hbr⟩
set_option maxHeartbeats 1000000 in
theorem refMain_any (b : BoxD) (w : World) :
    Calls Tryz.prog 156 #[bxV b] w fun e w' => e = .returned (.bool (isMain b)) ∧ Below w.heap.size w w' := by
  obtain ⟨⟨x1, x2, x3⟩, x4, x5, x6⟩ := b
  have hr : isMain ⟨(x1, x2, x3), (x4, x5, x6)⟩ = (decide (x1 < x4) && (decide (x2 = x5) && decide (x3 = x6))) := by simp only [isMain, Bool.and_assoc]
  have h1 : (x2 == x5) = decide (x2 = x5) := rfl
  have h2 : (x3 == x6) = decide (x3 = x6) := rfl
  rw [hr]
  clear hr
  cases q0 : decide (x1 < x4)
  · clear h1 h2
    go_enter Tryz.func156, Tryz.ntmps156
    go_wp2_with fail
    go_ret
    exact ⟨rfl, below_new _ _⟩
  cases q1 : decide (x2 = x5)
  · rw [q1] at h1
    clear h2
    go_enter Tryz.func156, Tryz.ntmps156
    go_wp2_with fail
    go_ret
    exact ⟨rfl, below_new _ _⟩
  cases q2 : decide (x3 = x6)
  all_goals
    rw [q1] at h1
    rw [q2] at h2
    go_enter Tryz.func156, Tryz.ntmps156
    go_wp2_with fail
    go_ret
    exact ⟨rfl, below_new _ _⟩
set_option maxHeartbeats 1000000 in
theorem refMainLeg_any (A : Option Addr) (l : List BoxD) (n c : Nat) (w : World) {B : Nat} (h : BoxesAt w B A l) (hB : B ≤ w.heap.size) (hn : n = l.length) (hm : n ≤ 60000) :
    Calls Tryz.prog 112 #[.slice A n c] w fun e w' => e = .returned (.int .i64 (idx isMain l)) ∧ Below w.heap.size w w' := by
  have hn' := hide hn
  have Hs := hide h
  clear hn h
  go_enter Tryz.func112, Tryz.ntmps112
  go_wp2_with fail
  go_loopw [3] (fun i wr => ∃ k : Nat, k ≤ n ∧ i = .int .i64 k ∧ NoneTo isMain l k ∧ Below w.heap.size w wr) (fun i _ => n - (intOf i).toNat)
  case atStart => exact ⟨0, Nat.zero_le _, rfl, NoneTo.zero _ _, Below.refl _ _⟩
  case round =>
    obtain ⟨k, hk, rfl, hq, hbr⟩ := hrel
    by_cases hlt : k < n
    · obtain ⟨b, off, x, rfl, hbl, hx, f0, f1, f2, f3, f4, f5⟩ := BoxesAt.get (k := k) (Hs.out.carry (Flat.carried _) (hbr.mono hB) (Nat.le_refl _)) (by rw [← hn'.out]; exact hlt)
      have Hx := hide hx
      have HT := hide (fun W => refMain_any x W)
      obtain ⟨a, ha⟩ : ∃ a, a = isMain x := ⟨_, rfl⟩
      rw [← ha] at HT
      have Ha := hide ha.symm
      obtain ⟨⟨x1, x2, x3⟩, x4, x5, x6⟩ := x
      simp only [bxV] at f0 f1 f2 f3 f4 f5 HT
      have Hbr := hide hbr
      clear hx hbl hbr ha
      go_wp2_with fail
      refine (HT.out _).mono ?_
      rintro e w1 ⟨rfl, hb⟩
      have Hbr := hide (below_step Hbr.out hb (Nat.le_refl _))
      clear hb HT f0 f1 f2 f3 f4 f5
      cases a
      · go_wp2_with fail
        go_roundw
        case rel => exact ⟨k + 1, by omega, by go_num, hq.succ Hx.out Ha.out, Hbr.out⟩
        case measure => simp [intOf]; omega
      · go_wp2_with fail
        go_ret
        exact ⟨ret_int (hq.hit Hx.out Ha.out).symm, Hbr.out⟩
    · obtain rfl : k = n := by omega
      go_wp2_with fail
      go_ret
      exact ⟨ret_int (NoneTo.miss (by rw [← hn'.out]; exact hq)).symm, hbr⟩
end Go.Proofs.YtpmipoljnchheaaGreat
namespace Go.Proofs.YtpmipoljnchheaaGreat
open Go.RowKit

theorem near_image {x y : Int} {p : Pt} (h : turnOk x y = true) (hp : nearBy 524288 p = true) : nearBy 1048576 p = true ∧ nearBy 2097152 (imgV x y p) = true :=
  ⟨nearBy_mono hp (by omega), nearBy_mono (img_range h hp (by omega)) (by omega)⟩
theorem ptsOf_len (x : BarD) (r : RunD) (k : Int) : (ptsOf x r k).length = (pathOf x).length := by rw [ptsOf_eq, List.length_map]
theorem ptsOf_at {x : BarD} {r : RunD} {k : Int} {j : Nat} {p : Pt} (h : (pathOf x)[j]? = some p) : (ptsOf x r k)[j]? = some (addP (addP r.place (mulP k r.step)) (imgV r.tx r.ty p)) := by
  rw [ptsOf_eq, List.getElem?_map, h]; rfl
theorem row_cap {α : Type} {w : World} {base size n c : Nat} {e : TypeId} {enc : α → List Value} {A : Option Addr} {l : List α} (h : Row w base e size enc (.slice A n c) l) : l.length ≤ c := by
  rcases h.2 with ⟨hv, h0⟩ | ⟨g, cap, cur, hv, _, _, hnc, _⟩
  · omega
  · injection hv with _ _ h3
    omega
set_option maxHeartbeats 8000000 in
set_option maxRecDepth 100000 in
theorem refPoints_ok (x : BarD) (A : Option Addr) (c : Nat) (r : RunD) (k : Int) (w : World) {B : Nat} (hA : Ints w B A x.dims) (hB : B ≤ w.heap.size) (hok : barOk x = true) (ht : turnOk r.tx r.ty = true) (hpl : nearBy 1048576 r.place = true) (hk : 0 ≤ k) (hst : nearBy 4294967296 (mulP k r.step) = true) :
    Calls Tryz.prog 107 #[.agg #[.string x.mark, .int .i64 x.size, .int .i64 x.count, .int .i64 x.code, .slice A x.dims.length c], runV r, .int .i64 k] w fun e w' =>
      ∃ A' c', e = .returned (.slice A' (ptsOf x r k).length c') ∧ PtsAt w' w'.heap.size A' (ptsOf x r k) ∧ (ptsOf x r k).length ≤ c' ∧ Below w.heap.size w w' := by
  have Hnear := hide (path_near hok)
  have Htu := hide ht
  have HN0 := hide (pathOf_len x)
  have hle := legsOf_len x.code
  have HPT0 := hide (fun (j : Nat) (p : Pt) (h : (pathOf x)[j]? = some p) => ptsOf_at (r := r) (k := k) h)
  have HPl0 := hide (ptsOf_len x r k)
  have Hna0 := hide (nearBy_mono (near_add hpl hst) (show (1048576 + 4294967296 : Int) ≤ 1099511627776 by omega))
  have Hplus := hide (fun (W : World) => refPlus_any r.place (mulP k r.step) W (nearBy_mono hpl (by omega)) (nearBy_mono hst (by omega)))
  have Htim := hide (fun (W : World) => refTimes16_any k r.step W (nearBy_mono hst (by omega)))
  have hbo := fun o o' => ((Below.refl B w).alloc hB o).alloc (le_alloc hB o) o'
  have HM := hide (refPath_ok x A c _ (hA.carry (hbo (.cells #[.string x.mark, .int .i64 x.size, .int .i64 x.count, .int .i64 x.code, .slice A x.dims.length c] 65) (.cells #[.string r.mark, .int .i64 r.tx, .int .i64 r.ty, .int .i64 r.place.1, .int .i64 r.place.2.1, .int .i64 r.place.2.2, .int .i64 r.step.1, .int .i64 r.step.2.1, .int .i64 r.step.2.2, .int .i64 r.count] 79)) (Nat.le_refl _)) (le_alloc (le_alloc hB _) _) hok)
  have HW := hide (below_new2 w (.cells #[.string x.mark, .int .i64 x.size, .int .i64 x.count, .int .i64 x.code, .slice A x.dims.length c] 65) (.cells #[.string r.mark, .int .i64 r.tx, .int .i64 r.ty, .int .i64 r.place.1, .int .i64 r.place.2.1, .int .i64 r.place.2.2, .int .i64 r.step.1, .int .i64 r.step.2.1, .int .i64 r.step.2.2, .int .i64 r.count] 79))
  have KRn := hide (Blk.new1 w (.cells #[.string x.mark, .int .i64 x.size, .int .i64 x.count, .int .i64 x.code, .slice A x.dims.length c] 65) 79 #[.string r.mark, .int .i64 r.tx, .int .i64 r.ty, .int .i64 r.place.1, .int .i64 r.place.2.1, .int .i64 r.place.2.2, .int .i64 r.step.1, .int .i64 r.step.2.1, .int .i64 r.step.2.2, .int .i64 r.count])
  clear hA hB hok ht hbo
  obtain ⟨mark, tx, ty, ⟨q1, q2, q3⟩, ⟨s1, s2, s3⟩, cnt⟩ := r
  obtain ⟨PT, hPT⟩ : ∃ PT, PT = ptsOf x ⟨mark, tx, ty, (q1, q2, q3), (s1, s2, s3), cnt⟩ k := ⟨_, rfl⟩
  obtain ⟨n, hn⟩ : ∃ n, n = (pathOf x).length := ⟨_, rfl⟩
  simp only at HPT0 HPl0 Hna0 Hplus Htim HM HW KRn Htu
  rw [← hPT] at HPT0 HPl0 ⊢
  rw [← hn] at HN0 HPl0 HM
  rw [HPl0.out]
  have HN := hide hn
  have hn7 : n ≤ 7 := by rw [HN0.out]; omega
  clear hPT hn HN0 hpl hst
  go_enter Tryz.func107, Tryz.ntmps107
  go_wp2_with fail
  refine HM.out.mono ?_
  rintro e w1 ⟨A1, c1, rfl, hp1, hb1⟩
  have KRn := hide (KRn.out.keep hb1)
  have HW1 := hide (below_step HW.out hb1 (Nat.le_refl _))
  have HPath := hide hp1
  clear hb1 hp1 HM HW
  have lrn := KRn.out.lt
  by_cases hk0 : 0 < k
  case neg =>
    obtain rfl : k = 0 := by omega
    have hz : addP (q1, q2, q3) (mulP 0 (s1, s2, s3)) = (q1, q2, q3) := by simp [addP, mulP]
    rw [hz] at HPT0 Hna0
    obtain ⟨a1, ha1⟩ : ∃ a, a = q1 := ⟨_, rfl⟩
    obtain ⟨a2, ha2⟩ : ∃ a, a = q2 := ⟨_, rfl⟩
    obtain ⟨a3, ha3⟩ : ∃ a, a = q3 := ⟨_, rfl⟩
    have KAt := hide (Blk.new w1 44 #[.int .i64 q1, .int .i64 q2, .int .i64 q3])
    have KAt := hide (show Blk (w1.alloc (.cells #[.int .i64 q1, .int .i64 q2, .int .i64 q3] 44)) w1.heap.size 44 #[.int .i64 a1, .int .i64 a2, .int .i64 a3] by rw [ha1, ha2, ha3]; exact KAt.out)
    have HWX := hide (below_new w1 (.cells #[.int .i64 q1, .int .i64 q2, .int .i64 q3] 44))
    rw [← ha1, ← ha2, ← ha3] at HPT0 Hna0
    have HPT := HPT0
    have Hna := Hna0
    have u3 := KRn.out.cell 3
    have u4 := KRn.out.cell 4
    have u5 := KRn.out.cell 5
    simp at u3 u4 u5
    clear hz hk0 hk Hplus Htim HPT0 Hna0 ha1 ha2 ha3
    go_wp2_with fail
    go_loopw [9, 10] (fun v iv wr => ∃ j : Nat, j ≤ n ∧ iv = .int .i64 j ∧ (∃ acc : List Pt, Row wr (w1.heap.size + 1) 44 3 encPt v acc ∧ Hid (acc = PT.take j)) ∧ Hid (Blk wr w1.heap.size 44 #[.int .i64 a1, .int .i64 a2, .int .i64 a3]) ∧ Hid (Below w1.heap.size w1 wr)) (fun _ iv _ => n - (intOf iv).toNat)
    case atStart => exact ⟨0, Nat.zero_le _, rfl, ⟨[], Row.nil _ _ _ _ _, hide rfl⟩, KAt, HWX⟩
    case round =>
      obtain ⟨j, hj, rfl, ⟨acc, hrow, hacc⟩, hK, hbr⟩ := hrel
      obtain ⟨A0, c0, rfl⟩ := hrow.val
      have hbs := hbr.out.size
      have hbase : w1.heap.size + 1 ≤ wr.heap.size := hK.out.lt
      by_cases hlt : j < n
      · obtain ⟨b, off, pj, hAe, hbl, hx, g0, g1, g2⟩ := PtsAt.get (k := j) (HPath.out.carry (Flat.carried _) hbr.out (Nat.le_refl w1.heap.size)) (by rw [← HN.out]; exact hlt)
        subst hAe
        have hni := near_image Htu.out (Hnear.out _ (mem_of_get hx))
        have HIm := hide (fun (W : World) => refImage_any tx ty pj W Htu.out hni.1)
        have HPl := hide (fun (W : World) => refPlus_any (a1, a2, a3) (imgV tx ty pj) W Hna.out (nearBy_mono hni.2 (by omega)))
        have HQ := hide (HPT.out j pj hx)
        obtain ⟨im, him⟩ : ∃ im, im = imgV tx ty pj := ⟨_, rfl⟩
        rw [← him] at HIm HPl HQ
        obtain ⟨pj1, pj2, pj3⟩ := pj
        obtain ⟨im1, im2, im3⟩ := im
        simp only [ptA, addP] at HIm HPl HQ g0 g1 g2
        have hal : acc.length ≤ 1000 := by rw [hacc.out, List.length_take]; omega
        have Htk := hide (show PT.take (j + 1) = acc ++ [(a1 + im1, a2 + im2, a3 + im3)] by rw [take_snoc' HQ.out, hacc.out])
        have krn := KRn.out.below hbr.out lrn
        have t1 := krn.cell 1
        have t2 := krn.cell 2
        have e0 := hK.out.cell 0
        have e1 := hK.out.cell 1
        have e2 := hK.out.cell 2
        simp at t1 t2 e0 e1 e2
        have hbl1 : b < w1.heap.size := hbl
        have l1 := krn.lt
        have l2 := hK.out.lt
        have l3 : b < wr.heap.size := Nat.lt_of_lt_of_le hbl hbs
        have ColS := hide (fun (W : World) (h : Below (w1.heap.size + 1) wr W) => show W.cell? ⟨w1.heap.size, 0, none⟩ = some (.int .i64 a1) ∧ W.cell? ⟨w1.heap.size, 1, none⟩ = some (.int .i64 a2) ∧ W.cell? ⟨w1.heap.size, 2, none⟩ = some (.int .i64 a3) ∧ W.cell? ⟨w.heap.size + 1, 1, none⟩ = some (.int .i64 tx) ∧ W.cell? ⟨w.heap.size + 1, 2, none⟩ = some (.int .i64 ty) ∧ W.cell? ⟨b, off + j * 3, none⟩ = some (.int .i64 pj1) ∧ W.cell? ⟨b, off + j * 3 + 1, none⟩ = some (.int .i64 pj2) ∧ W.cell? ⟨b, off + j * 3 + 2, none⟩ = some (.int .i64 pj3) ∧ Below (w1.heap.size + 1) wr W from
          ⟨(h.cell (p := ⟨w1.heap.size, 0, none⟩) (Nat.lt_succ_self _)).trans e0, (h.cell (p := ⟨w1.heap.size, 1, none⟩) (Nat.lt_succ_self _)).trans e1, (h.cell (p := ⟨w1.heap.size, 2, none⟩) (Nat.lt_succ_self _)).trans e2, (h.cell (p := ⟨w.heap.size + 1, 1, none⟩) (Nat.lt_succ_of_lt lrn)).trans t1, (h.cell (p := ⟨w.heap.size + 1, 2, none⟩) (Nat.lt_succ_of_lt lrn)).trans t2, (h.cell (p := ⟨b, off + j * 3, none⟩) (Nat.lt_succ_of_lt hbl1)).trans g0, (h.cell (p := ⟨b, off + j * 3 + 1, none⟩) (Nat.lt_succ_of_lt hbl1)).trans g1, (h.cell (p := ⟨b, off + j * 3 + 2, none⟩) (Nat.lt_succ_of_lt hbl1)).trans g2, h⟩)
        have Hrow := hide hrow
        have hS0 := ColS.out _ (Below.drew (Below.refl (w1.heap.size + 1) wr))
        have hB0 := Below.drew (Below.refl wr.heap.size wr)
        clear hrow hx hbl him hni krn
        go_wp2_with fail
        go_region_held3 (fun W => W.cell? ⟨w1.heap.size, 0, none⟩ = some (.int .i64 a1) ∧ W.cell? ⟨w1.heap.size, 1, none⟩ = some (.int .i64 a2) ∧ W.cell? ⟨w1.heap.size, 2, none⟩ = some (.int .i64 a3) ∧ W.cell? ⟨w.heap.size + 1, 1, none⟩ = some (.int .i64 tx) ∧ W.cell? ⟨w.heap.size + 1, 2, none⟩ = some (.int .i64 ty) ∧ W.cell? ⟨b, off + j * 3, none⟩ = some (.int .i64 pj1) ∧ W.cell? ⟨b, off + j * 3 + 1, none⟩ = some (.int .i64 pj2) ∧ W.cell? ⟨b, off + j * 3 + 2, none⟩ = some (.int .i64 pj3) ∧ Below (w1.heap.size + 1) wr W)
          (first
            | (with_reducible assumption)
            | (refine ColS.out _ (Below.alloc (Below.mono hB hbase) (Nat.le_trans hbase hB.size) _))
            | (refine ColS.out _ (Below.trans (Below.alloc (Below.mono hB hbase) (Nat.le_trans hbase hB.size) _) hb5))
            | go_keep)
          (first
            | (go_at_call 155; (with_reducible refine (HIm.out _).mono ?_); rintro e wz ⟨rfl, hbz⟩; have hB := below_step (by assumption) hbz (Nat.le_refl wr.heap.size); have hS2 := ColS.out _ (Below.mono hB hbase))
            | (go_at_call 153; (with_reducible refine (HPl.out _).mono ?_); rintro e wz ⟨rfl, hbz⟩; have hB := below_step (by assumption) hbz (Nat.le_refl wr.heap.size); have hS2 := ColS.out _ (Below.mono hB hbase))
            | (refine step_append1 (by rfl) (.tmp 29) (.tmp 39) 74 (by rfl) (w1.heap.size + 1) 44 (.agg #[.int .i64 0, .int .i64 0, .int .i64 0]) 3 24 encPt Tryz.underlying74 (by kernel_rfl) rfl (by omega) encPt_len encPt_one _ acc (a1 + im1, a2 + im2, a3 + im3) (by rfl) ((Hrow.out.keep hB).alloc _) _ (by rfl) (Blk.new _ _ _) (by omega) (by omega) (le_alloc (Nat.le_trans hbase hB.size) _) ?_; intro A1 c1 w5 hrow5 hb5 hkeep5))
        go_goals
        have hN5 := hide (((hK.out.keep hB).alloc (.cells #[.int .i64 (a1 + im1), .int .i64 (a2 + im2), .int .i64 (a3 + im3)] 44)).below hb5 (Nat.lt_succ_self _))
        have h1 := hbr.out.trans (hB.mono hbs)
        have hB5 := hide ((h1.alloc h1.size (.cells #[.int .i64 (a1 + im1), .int .i64 (a2 + im2), .int .i64 (a3 + im3)] 44)).trans (hb5.mono (Nat.le_succ _)))
        have hrow6 := hide hrow5
        clear hrow5 hkeep5 hb5 h1
        go_wp2_with fail
        go_roundw
        case rel => exact ⟨j + 1, by omega, by go_num, ⟨acc ++ [(a1 + im1, a2 + im2, a3 + im3)], by simpa using hrow6.out, hide Htk.out.symm⟩, hN5, hB5⟩
        case measure => simp [intOf]; omega
      · obtain rfl : j = n := by omega
        have hf : acc = PT := by rw [hacc.out]; exact List.take_of_length_le (by rw [HPl0.out]; exact Nat.le_refl _)
        have hlen := hide (show j = acc.length by rw [hf, HPl0.out])
        have Hr := hide (show PtsAt wr wr.heap.size A0 PT by rw [← hf]; exact Row.read hrow encPt_len (by omega))
        have Hcp := hide (show j ≤ c0 by rw [hlen.out]; exact row_cap hrow)
        have Hb := hide (below_step HW1.out hbr.out (Nat.le_refl _))
        clear hf hacc hrow
        generalize acc.length = m at *
        go_wp2_with fail
        go_ret
        exact ⟨A0, c0, by rw [hlen.out]; rfl, Hr.out, Hcp.out, Hb.out⟩
  case pos =>
    have d0 : decide (0 < k) = true := by simpa using hk0
    obtain ⟨⟨m1, m2, m3⟩, hm⟩ : ∃ m : Pt, m = mulP k (s1, s2, s3) := ⟨_, rfl⟩
    rw [← hm] at Hplus Htim HPT0 Hna0
    simp only [ptA, addP] at Hplus Htim HPT0 Hna0
    obtain ⟨a1, ha1⟩ : ∃ a, a = q1 + m1 := ⟨_, rfl⟩
    obtain ⟨a2, ha2⟩ : ∃ a, a = q2 + m2 := ⟨_, rfl⟩
    obtain ⟨a3, ha3⟩ : ∃ a, a = q3 + m3 := ⟨_, rfl⟩
    rw [← ha1, ← ha2, ← ha3] at Hplus HPT0 Hna0
    have HPT := hide (fun (j : Nat) (p : Pt) (h : (pathOf x)[j]? = some p) => show PT[j]? = some (addP (a1, a2, a3) (imgV tx ty p)) from HPT0.out j p h)
    have Hna := Hna0
    obtain ⟨wX, hwX⟩ : ∃ wX, wX = w1.alloc (.cells #[.int .i64 q1, .int .i64 q2, .int .i64 q3] 44) := ⟨_, rfl⟩
    have KAt := hide (Blk.new w1 44 #[.int .i64 q1, .int .i64 q2, .int .i64 q3])
    have KR2 := hide (KRn.out.alloc (.cells #[.int .i64 q1, .int .i64 q2, .int .i64 q3] 44))
    have HWX := hide (below_new w1 (.cells #[.int .i64 q1, .int .i64 q2, .int .i64 q3] 44))
    rw [← hwX] at KAt KR2 HWX
    have u3 := KRn.out.cell 3
    have u4 := KRn.out.cell 4
    have u5 := KRn.out.cell 5
    have u6 := KRn.out.cell 6
    have u7 := KRn.out.cell 7
    have u8 := KRn.out.cell 8
    have y6 := KR2.out.cell 6
    have y7 := KR2.out.cell 7
    have y8 := KR2.out.cell 8
    have x0 := KAt.out.cell 0
    have x1 := KAt.out.cell 1
    have x2 := KAt.out.cell 2
    have z0 := KAt.out.frozen 0
    have z1 := KAt.out.frozen 1
    have z2 := KAt.out.frozen 2
    simp at u3 u4 u5 u6 u7 u8 x0 x1 x2 y6 y7 y8
    have lA := KAt.out.lt
    have lR := KR2.out.lt
    have RS := hide (fun (W : World) (h : Below wX.heap.size wX W) => show W.cell? ⟨w1.heap.size, 0, none⟩ = some (.int .i64 q1) ∧ W.cell? ⟨w1.heap.size, 1, none⟩ = some (.int .i64 q2) ∧ W.cell? ⟨w1.heap.size, 2, none⟩ = some (.int .i64 q3) ∧ W.frozen? ⟨w1.heap.size, 0, none⟩ = false ∧ W.frozen? ⟨w1.heap.size, 1, none⟩ = false ∧ W.frozen? ⟨w1.heap.size, 2, none⟩ = false from
      ⟨(h.cell (p := ⟨w1.heap.size, 0, none⟩) lA).trans x0, (h.cell (p := ⟨w1.heap.size, 1, none⟩) lA).trans x1, (h.cell (p := ⟨w1.heap.size, 2, none⟩) lA).trans x2, (h.frozen (p := ⟨w1.heap.size, 0, none⟩) lA).trans z0, (h.frozen (p := ⟨w1.heap.size, 1, none⟩) lA).trans z1, (h.frozen (p := ⟨w1.heap.size, 2, none⟩) lA).trans z2⟩)
    clear hk0 hk HPT0 Hna0 hm ha1 ha2 ha3
    go_wp2_with fail
    rw [← hwX]
    go_cut [8] from 17 (fun s8 wx => s8 = .pointer (some ⟨w1.heap.size, 0, none⟩) ∧ Hid (Blk wx w1.heap.size 44 #[.int .i64 a1, .int .i64 a2, .int .i64 a3]) ∧ Hid (Below w1.heap.size w1 wx))
    case first =>
      have HK := hide (fun (W : World) (h : Below w1.heap.size w1 W) => show W.cell? ⟨w.heap.size + 1, 6, none⟩ = some (.int .i64 s1) ∧ W.cell? ⟨w.heap.size + 1, 7, none⟩ = some (.int .i64 s2) ∧ W.cell? ⟨w.heap.size + 1, 8, none⟩ = some (.int .i64 s3) from
        ⟨(h.cell (p := ⟨w.heap.size + 1, 6, none⟩) lrn).trans u6, (h.cell (p := ⟨w.heap.size + 1, 7, none⟩) lrn).trans u7, (h.cell (p := ⟨w.heap.size + 1, 8, none⟩) lrn).trans u8⟩)
      have hB := Below.drew (Below.refl wX.heap.size wX)
      have hS := HK.out _ (Below.drew HWX.out)
      have hXs := HWX.out.size
      clear y6 y7 y8 u3 u4 u5 u6 u7 u8 hwX
      refine wp_region_held_drew (S := fun W => W.cell? ⟨w.heap.size + 1, 6, none⟩ = some (.int .i64 s1) ∧ W.cell? ⟨w.heap.size + 1, 7, none⟩ = some (.int .i64 s2) ∧ W.cell? ⟨w.heap.size + 1, 8, none⟩ = some (.int .i64 s3)) (by kernel_rfl) hS (fun hHeld => ?_)
      refine wpAnyH_take (i := 1) (v := ?_) rfl (by kernel_rfl) (by kernel_rfl) (by kernel_rfl) (fun _ _ _ h => h) (Or.inl ⟨by rfl, ?_⟩) (by assumption) ?_
      rotate_left
      · intro w hSw
        (try dsimp only at hSw)
        go_simp
        first | done | with_reducible rfl
      (try simp only [List.getElem_toArray, List.getElem_cons_succ, List.getElem_cons_zero, Act.put, List.setIfInBounds_toArray, List.set_cons_zero, List.set_cons_succ])
      refine wpAnyH_take (i := 2) (v := ?_) rfl (by kernel_rfl) (by kernel_rfl) (by kernel_rfl) (fun _ _ _ h => h) (Or.inl ⟨by rfl, ?_⟩) (by assumption) ?_
      rotate_left
      · intro w hSw
        (try dsimp only at hSw)
        go_simp
        first | done | with_reducible rfl
      (try simp only [List.getElem_toArray, List.getElem_cons_succ, List.getElem_cons_zero, Act.put, List.setIfInBounds_toArray, List.set_cons_zero, List.set_cons_succ])
      refine wpAnyH_take (i := 3) (v := ?_) rfl (by kernel_rfl) (by kernel_rfl) (by kernel_rfl) (fun _ _ _ h => h) (Or.inl ⟨by rfl, ?_⟩) (by assumption) ?_
      rotate_left
      · intro w hSw
        (try dsimp only at hSw)
        go_simp
        first | done | with_reducible rfl
      (try simp only [List.getElem_toArray, List.getElem_cons_succ, List.getElem_cons_zero, Act.put, List.setIfInBounds_toArray, List.set_cons_zero, List.set_cons_succ])
      refine wpAnyH_ready (rs := [0, 4]) (by kernel_rfl) (by simp) (AllReadyH.cons rfl (fun K hK => ?_) (AllReadyH.cons rfl (fun K hK => ?_) AllReadyH.nil))
      · skip
        go_simp
        refine hK.out _ _ hS (fun hHeld => ?_)
        clear hK K
        (try simp only [List.getElem_toArray, List.getElem_cons_succ, List.getElem_cons_zero, Act.put, List.setIfInBounds_toArray, List.set_cons_zero, List.set_cons_succ])
        refine wpAnyH_ready (rs := [4]) (by kernel_rfl) (by simp) (AllReadyH.cons rfl (fun K hK => ?_) AllReadyH.nil)
        · skip
          go_simp
          refine (Htim.out _).mono ?_
          rintro e wz ⟨rfl, hbz⟩
          have hB := below_step hB hbz (Nat.le_refl wX.heap.size)
          obtain ⟨d0, d1, d2, e0, e1, e2⟩ := RS.out _ hB
          have hS := HK.out _ (HWX.out.trans (hB.mono hXs))
          go_wp2_with fail
          refine hK.out _ _ hS (fun hHeld => ?_)
          clear hK K
          (try simp only [List.getElem_toArray, List.getElem_cons_succ, List.getElem_cons_zero, Act.put, List.setIfInBounds_toArray, List.set_cons_zero, List.set_cons_succ])
          refine wpAnyH_ready (rs := [5]) (by kernel_rfl) (by simp) (AllReadyH.cons rfl (fun K hK => ?_) AllReadyH.nil)
          · skip
            go_simp
            refine (Hplus.out _).mono ?_
            rintro e wz ⟨rfl, hbz⟩
            have hB := below_step hB hbz (Nat.le_refl wX.heap.size)
            obtain ⟨d0, d1, d2, e0, e1, e2⟩ := RS.out _ hB
            have hS := HK.out _ (HWX.out.trans (hB.mono hXs))
            go_wp2_with fail
            refine hK.out _ _ hS (fun hHeld => ?_)
            clear hK K
            (try simp only [List.getElem_toArray, List.getElem_cons_succ, List.getElem_cons_zero, Act.put, List.setIfInBounds_toArray, List.set_cons_zero, List.set_cons_succ])
            refine wpAnyH_ready (rs := [6]) (by kernel_rfl) (by simp) (AllReadyH.cons rfl (fun K hK => ?_) AllReadyH.nil)
            · skip
              go_simp
              refine hK.out _ _ (HK.out _ (below3 (g := w1.heap.size) (HWX.out.trans (hB.mono hXs)) (Nat.le_refl _) _ _ _)) (fun hHeld => ?_)
              clear hK K
              (try simp only [List.getElem_toArray, List.getElem_cons_succ, List.getElem_cons_zero, Act.put, List.setIfInBounds_toArray, List.set_cons_zero, List.set_cons_succ])
              refine wpAnyH_done (by kernel_rfl) ?_ _
              go_wp2_with fail
              go_meet
              exact ⟨rfl, hide (blk3 (KAt.out.below hB lA) _ _ _), hide (below3 (g := w1.heap.size) (HWX.out.trans (hB.mono hXs)) (Nat.le_refl _) _ _ _)⟩
      · skip
        go_simp
        refine (Htim.out _).mono ?_
        rintro e wz ⟨rfl, hbz⟩
        have hB := below_step hB hbz (Nat.le_refl wX.heap.size)
        obtain ⟨d0, d1, d2, e0, e1, e2⟩ := RS.out _ hB
        have hS := HK.out _ (HWX.out.trans (hB.mono hXs))
        go_wp2_with fail
        refine hK.out _ _ hS (fun hHeld => ?_)
        clear hK K
        (try simp only [List.getElem_toArray, List.getElem_cons_succ, List.getElem_cons_zero, Act.put, List.setIfInBounds_toArray, List.set_cons_zero, List.set_cons_succ])
        refine wpAnyH_ready (rs := [0]) (by kernel_rfl) (by simp) (AllReadyH.cons rfl (fun K hK => ?_) AllReadyH.nil)
        · skip
          go_simp
          refine hK.out _ _ hS (fun hHeld => ?_)
          clear hK K
          (try simp only [List.getElem_toArray, List.getElem_cons_succ, List.getElem_cons_zero, Act.put, List.setIfInBounds_toArray, List.set_cons_zero, List.set_cons_succ])
          refine wpAnyH_ready (rs := [5]) (by kernel_rfl) (by simp) (AllReadyH.cons rfl (fun K hK => ?_) AllReadyH.nil)
          · skip
            go_simp
            refine (Hplus.out _).mono ?_
            rintro e wz ⟨rfl, hbz⟩
            have hB := below_step hB hbz (Nat.le_refl wX.heap.size)
            obtain ⟨d0, d1, d2, e0, e1, e2⟩ := RS.out _ hB
            have hS := HK.out _ (HWX.out.trans (hB.mono hXs))
            go_wp2_with fail
            refine hK.out _ _ hS (fun hHeld => ?_)
            clear hK K
            (try simp only [List.getElem_toArray, List.getElem_cons_succ, List.getElem_cons_zero, Act.put, List.setIfInBounds_toArray, List.set_cons_zero, List.set_cons_succ])
            refine wpAnyH_ready (rs := [6]) (by kernel_rfl) (by simp) (AllReadyH.cons rfl (fun K hK => ?_) AllReadyH.nil)
            · skip
              go_simp
              refine hK.out _ _ (HK.out _ (below3 (g := w1.heap.size) (HWX.out.trans (hB.mono hXs)) (Nat.le_refl _) _ _ _)) (fun hHeld => ?_)
              clear hK K
              (try simp only [List.getElem_toArray, List.getElem_cons_succ, List.getElem_cons_zero, Act.put, List.setIfInBounds_toArray, List.set_cons_zero, List.set_cons_succ])
              refine wpAnyH_done (by kernel_rfl) ?_ _
              go_wp2_with fail
              go_meet
              exact ⟨rfl, hide (blk3 (KAt.out.below hB lA) _ _ _), hide (below3 (g := w1.heap.size) (HWX.out.trans (hB.mono hXs)) (Nat.le_refl _) _ _ _)⟩
    case rest =>
      obtain ⟨rfl, KAt', HWX'⟩ := hcut
      have KAt := KAt'
      have HWX := HWX'
      clear u3 u4 u5 u6 u7 u8 y6 y7 y8 x0 x1 x2 z0 z1 z2 lA lR RS Hplus Htim KR2 hwX
      go_wp2_with fail
      go_loopw [9, 10] (fun v iv wr => ∃ j : Nat, j ≤ n ∧ iv = .int .i64 j ∧ (∃ acc : List Pt, Row wr (w1.heap.size + 1) 44 3 encPt v acc ∧ Hid (acc = PT.take j)) ∧ Hid (Blk wr w1.heap.size 44 #[.int .i64 a1, .int .i64 a2, .int .i64 a3]) ∧ Hid (Below w1.heap.size w1 wr)) (fun _ iv _ => n - (intOf iv).toNat)
      case atStart => exact ⟨0, Nat.zero_le _, rfl, ⟨[], Row.nil _ _ _ _ _, hide rfl⟩, KAt, HWX⟩
      case round =>
        obtain ⟨j, hj, rfl, ⟨acc, hrow, hacc⟩, hK, hbr⟩ := hrel
        obtain ⟨A0, c0, rfl⟩ := hrow.val
        have hbs := hbr.out.size
        have hbase : w1.heap.size + 1 ≤ wr.heap.size := hK.out.lt
        by_cases hlt : j < n
        · obtain ⟨b, off, pj, hAe, hbl, hx, g0, g1, g2⟩ := PtsAt.get (k := j) (HPath.out.carry (Flat.carried _) hbr.out (Nat.le_refl w1.heap.size)) (by rw [← HN.out]; exact hlt)
          subst hAe
          have hni := near_image Htu.out (Hnear.out _ (mem_of_get hx))
          have HIm := hide (fun (W : World) => refImage_any tx ty pj W Htu.out hni.1)
          have HPl := hide (fun (W : World) => refPlus_any (a1, a2, a3) (imgV tx ty pj) W Hna.out (nearBy_mono hni.2 (by omega)))
          have HQ := hide (HPT.out j pj hx)
          obtain ⟨im, him⟩ : ∃ im, im = imgV tx ty pj := ⟨_, rfl⟩
          rw [← him] at HIm HPl HQ
          obtain ⟨pj1, pj2, pj3⟩ := pj
          obtain ⟨im1, im2, im3⟩ := im
          simp only [ptA, addP] at HIm HPl HQ g0 g1 g2
          have hal : acc.length ≤ 1000 := by rw [hacc.out, List.length_take]; omega
          have Htk := hide (show PT.take (j + 1) = acc ++ [(a1 + im1, a2 + im2, a3 + im3)] by rw [take_snoc' HQ.out, hacc.out])
          have krn := KRn.out.below hbr.out lrn
          have t1 := krn.cell 1
          have t2 := krn.cell 2
          have e0 := hK.out.cell 0
          have e1 := hK.out.cell 1
          have e2 := hK.out.cell 2
          simp at t1 t2 e0 e1 e2
          have hbl1 : b < w1.heap.size := hbl
          have l1 := krn.lt
          have l2 := hK.out.lt
          have l3 : b < wr.heap.size := Nat.lt_of_lt_of_le hbl hbs
          have ColS := hide (fun (W : World) (h : Below (w1.heap.size + 1) wr W) => show W.cell? ⟨w1.heap.size, 0, none⟩ = some (.int .i64 a1) ∧ W.cell? ⟨w1.heap.size, 1, none⟩ = some (.int .i64 a2) ∧ W.cell? ⟨w1.heap.size, 2, none⟩ = some (.int .i64 a3) ∧ W.cell? ⟨w.heap.size + 1, 1, none⟩ = some (.int .i64 tx) ∧ W.cell? ⟨w.heap.size + 1, 2, none⟩ = some (.int .i64 ty) ∧ W.cell? ⟨b, off + j * 3, none⟩ = some (.int .i64 pj1) ∧ W.cell? ⟨b, off + j * 3 + 1, none⟩ = some (.int .i64 pj2) ∧ W.cell? ⟨b, off + j * 3 + 2, none⟩ = some (.int .i64 pj3) ∧ Below (w1.heap.size + 1) wr W from
            ⟨(h.cell (p := ⟨w1.heap.size, 0, none⟩) (Nat.lt_succ_self _)).trans e0, (h.cell (p := ⟨w1.heap.size, 1, none⟩) (Nat.lt_succ_self _)).trans e1, (h.cell (p := ⟨w1.heap.size, 2, none⟩) (Nat.lt_succ_self _)).trans e2, (h.cell (p := ⟨w.heap.size + 1, 1, none⟩) (Nat.lt_succ_of_lt lrn)).trans t1, (h.cell (p := ⟨w.heap.size + 1, 2, none⟩) (Nat.lt_succ_of_lt lrn)).trans t2, (h.cell (p := ⟨b, off + j * 3, none⟩) (Nat.lt_succ_of_lt hbl1)).trans g0, (h.cell (p := ⟨b, off + j * 3 + 1, none⟩) (Nat.lt_succ_of_lt hbl1)).trans g1, (h.cell (p := ⟨b, off + j * 3 + 2, none⟩) (Nat.lt_succ_of_lt hbl1)).trans g2, h⟩)
          have Hrow := hide hrow
          have hS0 := ColS.out _ (Below.drew (Below.refl (w1.heap.size + 1) wr))
          have hB0 := Below.drew (Below.refl wr.heap.size wr)
          clear hrow hx hbl him hni krn
          go_wp2_with fail
          go_region_held3 (fun W => W.cell? ⟨w1.heap.size, 0, none⟩ = some (.int .i64 a1) ∧ W.cell? ⟨w1.heap.size, 1, none⟩ = some (.int .i64 a2) ∧ W.cell? ⟨w1.heap.size, 2, none⟩ = some (.int .i64 a3) ∧ W.cell? ⟨w.heap.size + 1, 1, none⟩ = some (.int .i64 tx) ∧ W.cell? ⟨w.heap.size + 1, 2, none⟩ = some (.int .i64 ty) ∧ W.cell? ⟨b, off + j * 3, none⟩ = some (.int .i64 pj1) ∧ W.cell? ⟨b, off + j * 3 + 1, none⟩ = some (.int .i64 pj2) ∧ W.cell? ⟨b, off + j * 3 + 2, none⟩ = some (.int .i64 pj3) ∧ Below (w1.heap.size + 1) wr W)
            (first
              | (with_reducible assumption)
              | (refine ColS.out _ (Below.alloc (Below.mono hB hbase) (Nat.le_trans hbase hB.size) _))
              | (refine ColS.out _ (Below.trans (Below.alloc (Below.mono hB hbase) (Nat.le_trans hbase hB.size) _) hb5))
              | go_keep)
            (first
              | (go_at_call 155; (with_reducible refine (HIm.out _).mono ?_); rintro e wz ⟨rfl, hbz⟩; have hB := below_step (by assumption) hbz (Nat.le_refl wr.heap.size); have hS2 := ColS.out _ (Below.mono hB hbase))
              | (go_at_call 153; (with_reducible refine (HPl.out _).mono ?_); rintro e wz ⟨rfl, hbz⟩; have hB := below_step (by assumption) hbz (Nat.le_refl wr.heap.size); have hS2 := ColS.out _ (Below.mono hB hbase))
              | (refine step_append1 (by rfl) (.tmp 29) (.tmp 39) 74 (by rfl) (w1.heap.size + 1) 44 (.agg #[.int .i64 0, .int .i64 0, .int .i64 0]) 3 24 encPt Tryz.underlying74 (by kernel_rfl) rfl (by omega) encPt_len encPt_one _ acc (a1 + im1, a2 + im2, a3 + im3) (by rfl) ((Hrow.out.keep hB).alloc _) _ (by rfl) (Blk.new _ _ _) (by omega) (by omega) (le_alloc (Nat.le_trans hbase hB.size) _) ?_; intro A1 c1 w5 hrow5 hb5 hkeep5))
          go_goals
          have hN5 := hide (((hK.out.keep hB).alloc (.cells #[.int .i64 (a1 + im1), .int .i64 (a2 + im2), .int .i64 (a3 + im3)] 44)).below hb5 (Nat.lt_succ_self _))
          have h1 := hbr.out.trans (hB.mono hbs)
          have hB5 := hide ((h1.alloc h1.size (.cells #[.int .i64 (a1 + im1), .int .i64 (a2 + im2), .int .i64 (a3 + im3)] 44)).trans (hb5.mono (Nat.le_succ _)))
          have hrow6 := hide hrow5
          clear hrow5 hkeep5 hb5 h1
          go_wp2_with fail
          go_roundw
          case rel => exact ⟨j + 1, by omega, by go_num, ⟨acc ++ [(a1 + im1, a2 + im2, a3 + im3)], by simpa using hrow6.out, hide Htk.out.symm⟩, hN5, hB5⟩
          case measure => simp [intOf]; omega
        · obtain rfl : j = n := by omega
          have hf : acc = PT := by rw [hacc.out]; exact List.take_of_length_le (by rw [HPl0.out]; exact Nat.le_refl _)
          have hlen := hide (show j = acc.length by rw [hf, HPl0.out])
          have Hr := hide (show PtsAt wr wr.heap.size A0 PT by rw [← hf]; exact Row.read hrow encPt_len (by omega))
          have Hcp := hide (show j ≤ c0 by rw [hlen.out]; exact row_cap hrow)
          have Hb := hide (below_step HW1.out hbr.out (Nat.le_refl _))
          clear hf hacc hrow
          generalize acc.length = m at *
          go_wp2_with fail
          go_ret
          exact ⟨A0, c0, by rw [hlen.out]; rfl, Hr.out, Hcp.out, Hb.out⟩
end Go.Proofs.YtpmipoljnchheaaGreat
