/- The reference of layer 15: images of points. -/
import Derived.Test.YtmcjpdlkkpnhfaaGreatQat
import Derived.Deep.RegionHeld3
import Derived.Deep.Cut
namespace Go.Proofs.YtmcjpdlkkpnhfaaGreat
open Go.RowKit

theorem lin_sum {x y : Int} (p : Pt) : imgV x y p = addP (mulP p.1 (unitV x)) (addP (mulP p.2.1 (unitV y)) (mulP p.2.2 (crossV (unitV x) (unitV y)))) := by
  simp only [imgV, linV, addP, mulP, Prod.mk.injEq]
  refine ⟨?_, ?_, ?_⟩ <;> rw [Int.mul_comm p.1, Int.mul_comm p.2.1, Int.mul_comm p.2.2, Int.add_assoc]
theorem near_mul {n m : Int} {a : Pt} (ha : unitish a) (hn : -m ≤ n ∧ n ≤ m) (hm : 0 ≤ m) : nearBy m (mulP n a) = true := by
  obtain ⟨a1, a2, a3⟩ := ha
  have h1 := mulM_bound a1 hn hm
  have h2 := mulM_bound a2 hn hm
  have h3 := mulM_bound a3 hn hm
  rw [nearBy_iff]
  simp only [mulP]
  rw [Int.mul_comm n, Int.mul_comm n, Int.mul_comm n]
  exact ⟨h1, h2, h3⟩
theorem near_add {m n : Int} {p q : Pt} (hp : nearBy m p = true) (hq : nearBy n q = true) : nearBy (m + n) (addP p q) = true := by
  have h1 := nearBy_iff.1 hp
  have h2 := nearBy_iff.1 hq
  rw [nearBy_iff]
  simp only [addP]
  omega
/-- The result's block, and what was there ahead of the call. -/
def ImgR (w W : World) : Prop := (∃ u0 u1 u2, Blk W (w.heap.size + 1 + 1) 61 #[u0, u1, u2]) ∧ Below w.heap.size w W
theorem ImgR.step {w W wz : World} (h : ImgR w W) (hb : Below W.heap.size W wz) : ImgR w wz := by
  obtain ⟨⟨u0, u1, u2, hk⟩, hw⟩ := h
  exact ⟨⟨u0, u1, u2, hk.keep hb⟩, below_step hw hb (Nat.le_refl _)⟩
theorem ImgR.drew {w W : World} (h : ImgR w W) : ImgR w W.drew := by
  obtain ⟨⟨u0, u1, u2, hk⟩, hw⟩ := h
  exact ⟨⟨u0, u1, u2, hk.drew⟩, hw.drew⟩
theorem ImgR.store {w W : World} (h : ImgR w W) (x y z : Value) : ImgR w (((W.setCell ⟨w.heap.size + 1 + 1, 0, none⟩ x).setCell ⟨w.heap.size + 1 + 1, 1, none⟩ y).setCell ⟨w.heap.size + 1 + 1, 2, none⟩ z) := by
  obtain ⟨⟨u0, u1, u2, hk⟩, hw⟩ := h
  have h1 := ((hk.set_ 0 x).set_ 1 y).set_ 2 z
  simp only [List.setIfInBounds_toArray, List.set_cons_zero, List.set_cons_succ] at h1
  exact ⟨⟨x, y, z, h1⟩, ((hw.setCell (p := ⟨w.heap.size + 1 + 1, 0, none⟩) (by show w.heap.size ≤ w.heap.size + 1 + 1; omega) x).setCell (p := ⟨w.heap.size + 1 + 1, 1, none⟩) (by show w.heap.size ≤ w.heap.size + 1 + 1; omega) y).setCell (p := ⟨w.heap.size + 1 + 1, 2, none⟩) (by show w.heap.size ≤ w.heap.size + 1 + 1; omega) z⟩
theorem ImgR.facts {w W : World} (h : ImgR w W) : ∃ u0 u1 u2, W.cell? ⟨w.heap.size + 1 + 1, 0, none⟩ = some u0 ∧ W.cell? ⟨w.heap.size + 1 + 1, 1, none⟩ = some u1 ∧ W.cell? ⟨w.heap.size + 1 + 1, 2, none⟩ = some u2 ∧ W.frozen? ⟨w.heap.size + 1 + 1, 0, none⟩ = false ∧ W.frozen? ⟨w.heap.size + 1 + 1, 1, none⟩ = false ∧ W.frozen? ⟨w.heap.size + 1 + 1, 2, none⟩ = false := by
  obtain ⟨⟨u0, u1, u2, hk⟩, hw⟩ := h
  exact ⟨u0, u1, u2, hk.cell 0, hk.cell 1, hk.cell 2, hk.frozen 0, hk.frozen 1, hk.frozen 2⟩
theorem kc {W wz : World} {g i : Nat} {v : Value} (h : W.cell? ⟨g, i, none⟩ = some v) (hb : Below W.heap.size W wz) : wz.cell? ⟨g, i, none⟩ = some v := (hb.cell (p := ⟨g, i, none⟩) (lt_of_cell h)).trans h
theorem ks {W : World} {k g i : Nat} {v : Value} (hne : k ≠ g) (h : W.cell? ⟨g, i, none⟩ = some v) (x y z : Value) : (((W.setCell ⟨k, 0, none⟩ x).setCell ⟨k, 1, none⟩ y).setCell ⟨k, 2, none⟩ z).cell? ⟨g, i, none⟩ = some v :=
  cell_oth (.inl (Ne.symm hne)) (cell_oth (.inl (Ne.symm hne)) (cell_oth (.inl (Ne.symm hne)) h))
set_option maxHeartbeats 4000000 in
set_option maxRecDepth 100000 in
theorem refImage_any (x y : Int) (p : Pt) (w : World) (h : turnOk x y = true) (hp : nearBy 1048576 p = true) :
    Calls Tryz.prog 158 #[.agg #[.int .i64 x, .int .i64 y], ptA p] w fun e w' => e = .returned (ptA (imgV x y p)) ∧ Below w.heap.size w w' := by
  have hx : axis6 x := by
    simp only [turnOk, Bool.and_eq_true] at h
    exact axis6_of h.1.1.1
  have hy : axis6 y := by
    simp only [turnOk, Bool.and_eq_true] at h
    exact axis6_of h.1.1.2
  obtain ⟨HP1, HP2, HP3⟩ := nearBy_iff.1 hp
  have n1 := near_mul (unitish_of hx) HP1 (by omega)
  have n2 := near_mul (unitish_of hy) HP2 (by omega)
  have n3 := near_mul (cross_unit h) HP3 (by omega)
  have n4 := near_add n2 n3
  have HX := hide (fun (w : World) => refUnit_any x w hx)
  have HY := hide (fun (w : World) => refUnit_any y w hy)
  have HC := hide (fun (w : World) => refCross_any (unitV x) (unitV y) w (unitish_of hx) (unitish_of hy))
  have HT1 := hide (fun (w : World) => refTimes_any p.1 (unitV x) w (nearBy_mono n1 (by omega)))
  have HT2 := hide (fun (w : World) => refTimes_any p.2.1 (unitV y) w (nearBy_mono n2 (by omega)))
  have HT3 := hide (fun (w : World) => refTimes_any p.2.2 (crossV (unitV x) (unitV y)) w (nearBy_mono n3 (by omega)))
  have HS1 := hide (fun (w : World) => refPlus_any (mulP p.2.1 (unitV y)) (mulP p.2.2 (crossV (unitV x) (unitV y))) w (nearBy_mono n2 (by omega)) (nearBy_mono n3 (by omega)))
  have HS2 := hide (fun (w : World) => refPlus_any (mulP p.1 (unitV x)) (addP (mulP p.2.1 (unitV y)) (mulP p.2.2 (crossV (unitV x) (unitV y)))) w (nearBy_mono n1 (by omega)) (nearBy_mono n4 (by omega)))
  rw [lin_sum]
  generalize addP (mulP p.1 (unitV x)) (addP (mulP p.2.1 (unitV y)) (mulP p.2.2 (crossV (unitV x) (unitV y)))) = R at *
  generalize addP (mulP p.2.1 (unitV y)) (mulP p.2.2 (crossV (unitV x) (unitV y))) = S at *
  generalize mulP p.1 (unitV x) = T1 at *
  generalize mulP p.2.1 (unitV y) = T2 at *
  generalize mulP p.2.2 (crossV (unitV x) (unitV y)) = T3 at *
  generalize crossV (unitV x) (unitV y) = c at *
  generalize unitV x = a at *
  generalize unitV y = b at *
  clear n1 n2 n3 n4 h hp hx hy HP1 HP2 HP3
  obtain ⟨p1, p2, p3⟩ := p
  obtain ⟨a1, a2, a3⟩ := a
  obtain ⟨b1, b2, b3⟩ := b
  obtain ⟨c1, c2, c3⟩ := c
  obtain ⟨t1, t2, t3⟩ := T1
  obtain ⟨u1, u2, u3⟩ := T2
  obtain ⟨v1, v2, v3⟩ := T3
  obtain ⟨s1, s2, s3⟩ := S
  obtain ⟨r1, r2, r3⟩ := R
  simp only [ptA] at HX HY HC HT1 HT2 HT3 HS1 HS2 ⊢
  have KT := hide ((((Blk.new w 104 #[.int .i64 x, .int .i64 y]).alloc (.cells #[.int .i64 p1, .int .i64 p2, .int .i64 p3] 61)).alloc (.cells #[.int .i64 0, .int .i64 0, .int .i64 0] 61)))
  have KP := hide ((Blk.new1 w (.cells #[.int .i64 x, .int .i64 y] 104) 61 #[.int .i64 p1, .int .i64 p2, .int .i64 p3]).alloc (.cells #[.int .i64 0, .int .i64 0, .int .i64 0] 61))
  have KR := hide (Blk.new2 w (.cells #[.int .i64 x, .int .i64 y] 104) (.cells #[.int .i64 p1, .int .i64 p2, .int .i64 p3] 61) 61 #[.int .i64 0, .int .i64 0, .int .i64 0])
  have HW := hide ((below_new2 w (.cells #[.int .i64 x, .int .i64 y] 104) (.cells #[.int .i64 p1, .int .i64 p2, .int .i64 p3] 61)).alloc (by simp; omega) (.cells #[.int .i64 0, .int .i64 0, .int .i64 0] 61))
  go_enter Tryz.func158, Tryz.ntmps158
  go_wp2_with fail
  refine (HX.out _).mono ?_
  rintro e w1 ⟨rfl, hb⟩
  have KT := hide ((KT.out.keep hb).alloc (.cells #[.int .i64 a1, .int .i64 a2, .int .i64 a3] 61))
  have KP := hide ((KP.out.keep hb).alloc (.cells #[.int .i64 a1, .int .i64 a2, .int .i64 a3] 61))
  have KR := hide ((KR.out.keep hb).alloc (.cells #[.int .i64 a1, .int .i64 a2, .int .i64 a3] 61))
  have KA := hide (Blk.new w1 61 #[.int .i64 a1, .int .i64 a2, .int .i64 a3])
  have HW1 := hide (below_step HW.out hb (Nat.le_refl _))
  have HW := hide (HW1.out.alloc HW1.out.size (.cells #[.int .i64 a1, .int .i64 a2, .int .i64 a3] 61))
  have hb1' := hb.size
  clear hb HX HW1
  have e1 := KT.out.cell 1
  simp at e1
  have lt := KT.out.lt
  go_wp2_with fail
  refine (HY.out _).mono ?_
  rintro e w2 ⟨rfl, hb⟩
  have KP := hide ((KP.out.keep hb).alloc (.cells #[.int .i64 b1, .int .i64 b2, .int .i64 b3] 61))
  have KR := hide ((KR.out.keep hb).alloc (.cells #[.int .i64 b1, .int .i64 b2, .int .i64 b3] 61))
  have KA := hide ((KA.out.keep hb).alloc (.cells #[.int .i64 b1, .int .i64 b2, .int .i64 b3] 61))
  have KB := hide (Blk.new w2 61 #[.int .i64 b1, .int .i64 b2, .int .i64 b3])
  have HW1 := hide (below_step HW.out hb (Nat.le_refl _))
  have HW := hide (HW1.out.alloc HW1.out.size (.cells #[.int .i64 b1, .int .i64 b2, .int .i64 b3] 61))
  have hgA : w.heap.size + 2 < w1.heap.size := by
    have := hb1'
    simp at this
    omega
  have hgB : w1.heap.size < w2.heap.size := by
    have := hb.size
    simp at this
    omega
  clear hb HY e1 lt KT HW1
  obtain ⟨wa, hwa⟩ : ∃ wa, wa = w2.alloc (.cells #[.int .i64 b1, .int .i64 b2, .int .i64 b3] 61) := ⟨_, rfl⟩
  go_wp2_with fail
  rw [← hwa] at KP KR KA KB HW ⊢
  clear hwa
  have x0 := KP.out.cell 0
  have x1 := KP.out.cell 1
  have x2 := KP.out.cell 2
  have y0 := KA.out.cell 0
  have y1 := KA.out.cell 1
  have y2 := KA.out.cell 2
  have z0 := KB.out.cell 0
  have z1 := KB.out.cell 1
  have z2 := KB.out.cell 2
  simp at x0 x1 x2 y0 y1 y2 z0 z1 z2
  have KR := hide (show Blk wa (w.heap.size + 1 + 1) 61 #[.int .i64 0, .int .i64 0, .int .i64 0] from KR.out)
  have l1 := KP.out.lt
  have l2 := KA.out.lt
  have l3 := KB.out.lt
  have hR0 : ImgR w wa := ⟨⟨_, _, _, KR.out⟩, HW.out⟩
  have hg1 : w.heap.size + 1 + 1 ≠ w1.heap.size := by have := hgA; omega
  have hg2 : w.heap.size + 1 + 1 ≠ w2.heap.size := by have := hgB; omega
  have KC := hide (fun (W wz : World) (hS : W.cell? ⟨w.heap.size + 1, 0, none⟩ = some (.int .i64 p1) ∧ W.cell? ⟨w.heap.size + 1, 1, none⟩ = some (.int .i64 p2) ∧ W.cell? ⟨w.heap.size + 1, 2, none⟩ = some (.int .i64 p3) ∧ W.cell? ⟨w1.heap.size, 0, none⟩ = some (.int .i64 a1) ∧ W.cell? ⟨w1.heap.size, 1, none⟩ = some (.int .i64 a2) ∧ W.cell? ⟨w1.heap.size, 2, none⟩ = some (.int .i64 a3) ∧ W.cell? ⟨w2.heap.size, 0, none⟩ = some (.int .i64 b1) ∧ W.cell? ⟨w2.heap.size, 1, none⟩ = some (.int .i64 b2) ∧ W.cell? ⟨w2.heap.size, 2, none⟩ = some (.int .i64 b3) ∧ ImgR w W) (hbz : Below W.heap.size W wz) => show wz.cell? ⟨w.heap.size + 1, 0, none⟩ = some (.int .i64 p1) ∧ wz.cell? ⟨w.heap.size + 1, 1, none⟩ = some (.int .i64 p2) ∧ wz.cell? ⟨w.heap.size + 1, 2, none⟩ = some (.int .i64 p3) ∧ wz.cell? ⟨w1.heap.size, 0, none⟩ = some (.int .i64 a1) ∧ wz.cell? ⟨w1.heap.size, 1, none⟩ = some (.int .i64 a2) ∧ wz.cell? ⟨w1.heap.size, 2, none⟩ = some (.int .i64 a3) ∧ wz.cell? ⟨w2.heap.size, 0, none⟩ = some (.int .i64 b1) ∧ wz.cell? ⟨w2.heap.size, 1, none⟩ = some (.int .i64 b2) ∧ wz.cell? ⟨w2.heap.size, 2, none⟩ = some (.int .i64 b3) ∧ ImgR w wz from
    ⟨kc hS.1 hbz, kc hS.2.1 hbz, kc hS.2.2.1 hbz, kc hS.2.2.2.1 hbz, kc hS.2.2.2.2.1 hbz, kc hS.2.2.2.2.2.1 hbz, kc hS.2.2.2.2.2.2.1 hbz, kc hS.2.2.2.2.2.2.2.1 hbz, kc hS.2.2.2.2.2.2.2.2.1 hbz, hS.2.2.2.2.2.2.2.2.2.step hbz⟩)
  have KS := hide (fun (W : World) (x y z : Value) (hS : W.cell? ⟨w.heap.size + 1, 0, none⟩ = some (.int .i64 p1) ∧ W.cell? ⟨w.heap.size + 1, 1, none⟩ = some (.int .i64 p2) ∧ W.cell? ⟨w.heap.size + 1, 2, none⟩ = some (.int .i64 p3) ∧ W.cell? ⟨w1.heap.size, 0, none⟩ = some (.int .i64 a1) ∧ W.cell? ⟨w1.heap.size, 1, none⟩ = some (.int .i64 a2) ∧ W.cell? ⟨w1.heap.size, 2, none⟩ = some (.int .i64 a3) ∧ W.cell? ⟨w2.heap.size, 0, none⟩ = some (.int .i64 b1) ∧ W.cell? ⟨w2.heap.size, 1, none⟩ = some (.int .i64 b2) ∧ W.cell? ⟨w2.heap.size, 2, none⟩ = some (.int .i64 b3) ∧ ImgR w W) => show (((W.setCell ⟨w.heap.size + 1 + 1, 0, none⟩ x).setCell ⟨w.heap.size + 1 + 1, 1, none⟩ y).setCell ⟨w.heap.size + 1 + 1, 2, none⟩ z).cell? ⟨w.heap.size + 1, 0, none⟩ = some (.int .i64 p1) ∧ (((W.setCell ⟨w.heap.size + 1 + 1, 0, none⟩ x).setCell ⟨w.heap.size + 1 + 1, 1, none⟩ y).setCell ⟨w.heap.size + 1 + 1, 2, none⟩ z).cell? ⟨w.heap.size + 1, 1, none⟩ = some (.int .i64 p2) ∧ (((W.setCell ⟨w.heap.size + 1 + 1, 0, none⟩ x).setCell ⟨w.heap.size + 1 + 1, 1, none⟩ y).setCell ⟨w.heap.size + 1 + 1, 2, none⟩ z).cell? ⟨w.heap.size + 1, 2, none⟩ = some (.int .i64 p3) ∧ (((W.setCell ⟨w.heap.size + 1 + 1, 0, none⟩ x).setCell ⟨w.heap.size + 1 + 1, 1, none⟩ y).setCell ⟨w.heap.size + 1 + 1, 2, none⟩ z).cell? ⟨w1.heap.size, 0, none⟩ = some (.int .i64 a1) ∧ (((W.setCell ⟨w.heap.size + 1 + 1, 0, none⟩ x).setCell ⟨w.heap.size + 1 + 1, 1, none⟩ y).setCell ⟨w.heap.size + 1 + 1, 2, none⟩ z).cell? ⟨w1.heap.size, 1, none⟩ = some (.int .i64 a2) ∧ (((W.setCell ⟨w.heap.size + 1 + 1, 0, none⟩ x).setCell ⟨w.heap.size + 1 + 1, 1, none⟩ y).setCell ⟨w.heap.size + 1 + 1, 2, none⟩ z).cell? ⟨w1.heap.size, 2, none⟩ = some (.int .i64 a3) ∧ (((W.setCell ⟨w.heap.size + 1 + 1, 0, none⟩ x).setCell ⟨w.heap.size + 1 + 1, 1, none⟩ y).setCell ⟨w.heap.size + 1 + 1, 2, none⟩ z).cell? ⟨w2.heap.size, 0, none⟩ = some (.int .i64 b1) ∧ (((W.setCell ⟨w.heap.size + 1 + 1, 0, none⟩ x).setCell ⟨w.heap.size + 1 + 1, 1, none⟩ y).setCell ⟨w.heap.size + 1 + 1, 2, none⟩ z).cell? ⟨w2.heap.size, 1, none⟩ = some (.int .i64 b2) ∧ (((W.setCell ⟨w.heap.size + 1 + 1, 0, none⟩ x).setCell ⟨w.heap.size + 1 + 1, 1, none⟩ y).setCell ⟨w.heap.size + 1 + 1, 2, none⟩ z).cell? ⟨w2.heap.size, 2, none⟩ = some (.int .i64 b3) ∧ ImgR w (((W.setCell ⟨w.heap.size + 1 + 1, 0, none⟩ x).setCell ⟨w.heap.size + 1 + 1, 1, none⟩ y).setCell ⟨w.heap.size + 1 + 1, 2, none⟩ z) from
    ⟨ks (by omega) hS.1 x y z, ks (by omega) hS.2.1 x y z, ks (by omega) hS.2.2.1 x y z, ks hg1 hS.2.2.2.1 x y z, ks hg1 hS.2.2.2.2.1 x y z, ks hg1 hS.2.2.2.2.2.1 x y z, ks hg2 hS.2.2.2.2.2.2.1 x y z, ks hg2 hS.2.2.2.2.2.2.2.1 x y z, ks hg2 hS.2.2.2.2.2.2.2.2.1 x y z, hS.2.2.2.2.2.2.2.2.2.store x y z⟩)
  go_region_held3 (fun W => W.cell? ⟨w.heap.size + 1, 0, none⟩ = some (.int .i64 p1) ∧ W.cell? ⟨w.heap.size + 1, 1, none⟩ = some (.int .i64 p2) ∧ W.cell? ⟨w.heap.size + 1, 2, none⟩ = some (.int .i64 p3) ∧ W.cell? ⟨w1.heap.size, 0, none⟩ = some (.int .i64 a1) ∧ W.cell? ⟨w1.heap.size, 1, none⟩ = some (.int .i64 a2) ∧ W.cell? ⟨w1.heap.size, 2, none⟩ = some (.int .i64 a3) ∧ W.cell? ⟨w2.heap.size, 0, none⟩ = some (.int .i64 b1) ∧ W.cell? ⟨w2.heap.size, 1, none⟩ = some (.int .i64 b2) ∧ W.cell? ⟨w2.heap.size, 2, none⟩ = some (.int .i64 b3) ∧ ImgR w W)
    (first
      | (with_reducible assumption)
      | (refine KS.out _ _ _ _ ?_; with_reducible assumption)
      | (exact ⟨x0, x1, x2, y0, y1, y2, z0, z1, z2, ImgR.drew hR0⟩)
      | (exact ⟨x0, x1, x2, y0, y1, y2, z0, z1, z2, hR0⟩)
      | go_keep)
    (first
      | (go_at_call 179; have hS := ‹_ ∧ _ ∧ _ ∧ _ ∧ _ ∧ _ ∧ _ ∧ _ ∧ _ ∧ ImgR w _›; (first | (with_reducible refine (HT1.out _).mono ?_) | (with_reducible refine (HT2.out _).mono ?_) | (with_reducible refine (HT3.out _).mono ?_)); rintro e wz ⟨rfl, hbz⟩; have hS2 := KC.out _ _ hS hbz; obtain ⟨u0, u1, u2, d0, d1, d2, g0, g1, g2⟩ := hS2.2.2.2.2.2.2.2.2.2.facts)
      | (go_at_call 180; have hS := ‹_ ∧ _ ∧ _ ∧ _ ∧ _ ∧ _ ∧ _ ∧ _ ∧ _ ∧ ImgR w _›; (with_reducible refine (HC.out _).mono ?_); rintro e wz ⟨rfl, hbz⟩; have hS2 := KC.out _ _ hS hbz; obtain ⟨u0, u1, u2, d0, d1, d2, g0, g1, g2⟩ := hS2.2.2.2.2.2.2.2.2.2.facts)
      | (go_at_call 156; have hS := ‹_ ∧ _ ∧ _ ∧ _ ∧ _ ∧ _ ∧ _ ∧ _ ∧ _ ∧ ImgR w _›; (first | (with_reducible refine (HS1.out _).mono ?_) | (with_reducible refine (HS2.out _).mono ?_)); rintro e wz ⟨rfl, hbz⟩; have hS2 := KC.out _ _ hS hbz; obtain ⟨u0, u1, u2, d0, d1, d2, g0, g1, g2⟩ := hS2.2.2.2.2.2.2.2.2.2.facts))
  go_goals
  have hSz := ‹_ ∧ _ ∧ _ ∧ _ ∧ _ ∧ _ ∧ _ ∧ _ ∧ _ ∧ ImgR w wz›
  obtain ⟨⟨i0, i1, i2, hk⟩, hwz⟩ := hSz.2.2.2.2.2.2.2.2.2
  have Hk := hide hk
  have Hwz := hide hwz
  go_wp2_with fail
  refine bodyPost_ret (results_c rfl rfl (((Hk.out.set_ 0 _).set_ 1 _).set_ 2 _) Tryz.underlying61 rfl (by kernel_rfl)) rfl ?_
  refine ⟨?_, ((Hwz.out.setCell (p := ⟨w.heap.size + 1 + 1, 0, none⟩) (by show w.heap.size ≤ w.heap.size + 1 + 1; omega) _).setCell (p := ⟨w.heap.size + 1 + 1, 1, none⟩) (by show w.heap.size ≤ w.heap.size + 1 + 1; omega) _).setCell (p := ⟨w.heap.size + 1 + 1, 2, none⟩) (by show w.heap.size ≤ w.heap.size + 1 + 1; omega) _⟩
  simp only [List.setIfInBounds_toArray, List.set_cons_zero, List.set_cons_succ]
end Go.Proofs.YtmcjpdlkkpnhfaaGreat
