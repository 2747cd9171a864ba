/- The cover of a leg: box.Grown, cover.core, cover.held, cover.all, cover.greatest, cover.of. -/
import Derived.Test.YtpaanfjjnjjoeaaGreatRQbh
import Derived.Test.YtpaanfjjnjjoeaaGreatRQbc
import Derived.Test.YtpaanfjjnjjoeaaGreatRQac
import Derived.Test.YtpaanfjjnjjoeaaGreatRQbe
import Derived.Deep.CutRange
namespace Go.Proofs.YtpaanfjjnjjoeaaGreat
open Go.RowKit
def zeroB : BoxD := ⟨(0, 0, 0), (0, 0, 0)⟩
set_option maxHeartbeats 4000000 in
set_option maxRecDepth 100000 in
theorem grown_ok (b : BoxD) (r : Int) (w : World) (hok : boxOk b = true) (h0 : 0 ≤ r) (h1 : r ≤ 1048576) :
  Calls Tryz.prog 237 #[bx b, .int .i64 r] w fun e w' => ((boxOk (growBy b r) = true ∧ e = .returned (.tuple #[bx (growBy b r), .int .i64 0])) ∨ (boxOk (growBy b r) = false ∧ e = .returned (.tuple #[bx zeroB, .int .i64 2]))) ∧ Below w.heap.size w w' := by
 have HV := hide (fun W => boxValid_any b W)
 rw [hok] at HV
 have HV2 := hide (fun W => boxValid_any (growBy b r) W)
 obtain ⟨⟨i1, i2, i3⟩, ⟨j1, j2, j3⟩, k1, k2, k3⟩ := boxOk_iff.1 hok
 obtain ⟨⟨x, y, z⟩, x2, y2, z2⟩ := b
 simp only [growBy] at HV2 i1 i2 i3 j1 j2 j3 k1 k2 k3 ⊢
 obtain ⟨t, ht⟩ : ∃ t, t = boxOk ⟨(x - r, y - r, z - r), (x2 + r, y2 + r, z2 + r)⟩ := ⟨_, rfl⟩
 rw [← ht] at HV2 ⊢
 have d0 : decide (r < 0) = false := by simp; omega
 have d1 : decide (1048576 < r) = false := by simp; omega
 have KB := hide ((Blk.new w 62 #[.int .i64 x, .int .i64 y, .int .i64 z, .int .i64 x2, .int .i64 y2, .int .i64 z2]).alloc (.cells #[.int .i64 0, .int .i64 0, .int .i64 0, .int .i64 0, .int .i64 0, .int .i64 0] 62))
 have KR := hide (Blk.new1 w (.cells #[.int .i64 x, .int .i64 y, .int .i64 z, .int .i64 x2, .int .i64 y2, .int .i64 z2] 62) 62 #[.int .i64 0, .int .i64 0, .int .i64 0, .int .i64 0, .int .i64 0, .int .i64 0])
 have HW := hide (below_new2 w (.cells #[.int .i64 x, .int .i64 y, .int .i64 z, .int .i64 x2, .int .i64 y2, .int .i64 z2] 62) (.cells #[.int .i64 0, .int .i64 0, .int .i64 0, .int .i64 0, .int .i64 0, .int .i64 0] 62))
 clear hok ht
 go_enter Tryz.func237, Tryz.ntmps237
 go_wp2_with fail
 refine (HV.out _).mono ?_
 rintro e w1 ⟨rfl, hb⟩
 replace KB := hide (KB.out.keep hb)
 replace KR := hide (KR.out.keep hb)
 replace HW := hide (below_step HW.out hb (Nat.le_refl _))
 have c0 := KB.out.cell 0
 have c1 := KB.out.cell 1
 have c2 := KB.out.cell 2
 have c3 := KB.out.cell 3
 have c4 := KB.out.cell 4
 have c5 := KB.out.cell 5
 simp at c0 c1 c2 c3 c4 c5
 have f0 := KB.out.frozen 0
 have f1 := KB.out.frozen 1
 have f2 := KB.out.frozen 2
 have f3 := KB.out.frozen 3
 have f4 := KB.out.frozen 4
 have f5 := KB.out.frozen 5
 have lb := KB.out.lt
 clear hb HV
 go_upto_region 7 with fail
 obtain ⟨w3, hw3⟩ : ∃ w3, w3 = (((((w1.setCell ⟨w.heap.size, 0, none⟩ (.int .i64 (x - r))).setCell ⟨w.heap.size, 1, none⟩ (.int .i64 (y - r))).setCell ⟨w.heap.size, 2, none⟩ (.int .i64 (z - r))).setCell ⟨w.heap.size, 3, none⟩ (.int .i64 (x2 + r))).setCell ⟨w.heap.size, 4, none⟩ (.int .i64 (y2 + r))).setCell ⟨w.heap.size, 5, none⟩ (.int .i64 (z2 + r)) := ⟨_, rfl⟩
 have kb3 := (((((KB.out.set_ 0 (.int .i64 (x - r))).set_ 1 (.int .i64 (y - r))).set_ 2 (.int .i64 (z - r))).set_ 3 (.int .i64 (x2 + r))).set_ 4 (.int .i64 (y2 + r))).set_ 5 (.int .i64 (z2 + r))
 have hne : w.heap.size + 1 ≠ w.heap.size := by omega
 have kr3 := (((((KR.out.far (p := ⟨w.heap.size, 0, none⟩) hne (.int .i64 (x - r))).far (p := ⟨w.heap.size, 1, none⟩) hne (.int .i64 (y - r))).far (p := ⟨w.heap.size, 2, none⟩) hne (.int .i64 (z - r))).far (p := ⟨w.heap.size, 3, none⟩) hne (.int .i64 (x2 + r))).far (p := ⟨w.heap.size, 4, none⟩) hne (.int .i64 (y2 + r))).far (p := ⟨w.heap.size, 5, none⟩) hne (.int .i64 (z2 + r))
 have hb3 := (((((HW.out.setCell (p := ⟨w.heap.size, 0, none⟩) (Nat.le_refl _) (.int .i64 (x - r))).setCell (p := ⟨w.heap.size, 1, none⟩) (Nat.le_refl _) (.int .i64 (y - r))).setCell (p := ⟨w.heap.size, 2, none⟩) (Nat.le_refl _) (.int .i64 (z - r))).setCell (p := ⟨w.heap.size, 3, none⟩) (Nat.le_refl _) (.int .i64 (x2 + r))).setCell (p := ⟨w.heap.size, 4, none⟩) (Nat.le_refl _) (.int .i64 (y2 + r))).setCell (p := ⟨w.heap.size, 5, none⟩) (Nat.le_refl _) (.int .i64 (z2 + r))
 rw [← hw3] at kb3 kr3 hb3 ⊢
 simp only [zzD, zzE, zzF] at kb3
 replace KB := hide kb3
 replace KR := hide kr3
 replace HW := hide hb3
 clear hw3 kb3 kr3 hb3 c0 c1 c2 c3 c4 c5 f0 f1 f2 f3 f4 f5 lb
 have c0 := KB.out.cell 0
 have c1 := KB.out.cell 1
 have c2 := KB.out.cell 2
 have c3 := KB.out.cell 3
 have c4 := KB.out.cell 4
 have c5 := KB.out.cell 5
 simp at c0 c1 c2 c3 c4 c5
 have lb := KB.out.lt
 go_wp2_with fail
 refine (HV2.out _).mono ?_
 rintro e w4 ⟨rfl, hb⟩
 replace KB := hide (KB.out.keep hb)
 replace KR := hide (KR.out.keep hb)
 replace HW := hide (below_step HW.out hb (Nat.le_refl _))
 clear hb HV2 c0 c1 c2 c3 c4 c5 lb
 have c0 := KB.out.cell 0
 have c1 := KB.out.cell 1
 have c2 := KB.out.cell 2
 have c3 := KB.out.cell 3
 have c4 := KB.out.cell 4
 have c5 := KB.out.cell 5
 simp at c0 c1 c2 c3 c4 c5
 have lb := KB.out.lt
 have f0 := KR.out.frozen 0
 have f1 := KR.out.frozen 1
 have f2 := KR.out.frozen 2
 have f3 := KR.out.frozen 3
 have f4 := KR.out.frozen 4
 have f5 := KR.out.frozen 5
 have r0 := KR.out.cell 0
 have r1 := KR.out.cell 1
 have r2 := KR.out.cell 2
 have r3 := KR.out.cell 3
 have r4 := KR.out.cell 4
 have r5 := KR.out.cell 5
 simp at r0 r1 r2 r3 r4 r5
 have lr := KR.out.lt
 cases t
 ·go_wp2_with fail
  refine bodyPost_ret (results_ct rfl rfl ((((((KR.out.set_ 0 _).set_ 1 _).set_ 2 _).set_ 3 _).set_ 4 _).set_ 5 _) Tryz.underlying62 rfl (by kernel_rfl)) rfl ?_
  refine ⟨?_, (((((HW.out.setCell (p := ⟨w.heap.size + 1, 0, none⟩) (Nat.le_add_right _ _) _).setCell (p := ⟨w.heap.size + 1, 1, none⟩) (Nat.le_add_right _ _) _).setCell (p := ⟨w.heap.size + 1, 2, none⟩) (Nat.le_add_right _ _) _).setCell (p := ⟨w.heap.size + 1, 3, none⟩) (Nat.le_add_right _ _) _).setCell (p := ⟨w.heap.size + 1, 4, none⟩) (Nat.le_add_right _ _) _).setCell (p := ⟨w.heap.size + 1, 5, none⟩) (Nat.le_add_right _ _) _⟩
  simp only [zzD, zzE, zzF]
  try rfl
 ·go_wp2_with fail
  refine bodyPost_ret (results_ct rfl rfl ((((((KR.out.set_ 0 _).set_ 1 _).set_ 2 _).set_ 3 _).set_ 4 _).set_ 5 _) Tryz.underlying62 rfl (by kernel_rfl)) rfl ?_
  refine ⟨?_, (((((HW.out.setCell (p := ⟨w.heap.size + 1, 0, none⟩) (Nat.le_add_right _ _) _).setCell (p := ⟨w.heap.size + 1, 1, none⟩) (Nat.le_add_right _ _) _).setCell (p := ⟨w.heap.size + 1, 2, none⟩) (Nat.le_add_right _ _) _).setCell (p := ⟨w.heap.size + 1, 3, none⟩) (Nat.le_add_right _ _) _).setCell (p := ⟨w.heap.size + 1, 4, none⟩) (Nat.le_add_right _ _) _).setCell (p := ⟨w.heap.size + 1, 5, none⟩) (Nat.le_add_right _ _) _⟩
  simp only [zzD, zzE, zzF]
  try rfl
set_option maxHeartbeats 4000000 in
set_option maxRecDepth 100000 in
theorem all_ok (b : BoxD) (r : Int) (w : World) (hok : boxOk b = true) (h0 : 0 ≤ r) (h1 : r ≤ 4194304) (hB : -1048576 ≤ b.lo.1) :
  Calls Tryz.prog 183 #[bx b, .int .i64 r] w fun e w' => e = .returned (bx (growBy b r)) ∧ Below w.heap.size w w' := by
 obtain ⟨⟨i1, i2, i3⟩, ⟨j1, j2, j3⟩, k1, k2, k3⟩ := boxOk_iff.1 hok
 obtain ⟨⟨x, y, z⟩, x2, y2, z2⟩ := b
 simp only [growBy] at i1 i2 i3 j1 j2 j3 k1 k2 k3 ⊢
 have KB := hide ((Blk.new w 62 #[.int .i64 x, .int .i64 y, .int .i64 z, .int .i64 x2, .int .i64 y2, .int .i64 z2]).alloc (.cells #[.int .i64 0, .int .i64 0, .int .i64 0, .int .i64 0, .int .i64 0, .int .i64 0] 62))
 have KR := hide (Blk.new1 w (.cells #[.int .i64 x, .int .i64 y, .int .i64 z, .int .i64 x2, .int .i64 y2, .int .i64 z2] 62) 62 #[.int .i64 0, .int .i64 0, .int .i64 0, .int .i64 0, .int .i64 0, .int .i64 0])
 have HW := hide (below_new2 w (.cells #[.int .i64 x, .int .i64 y, .int .i64 z, .int .i64 x2, .int .i64 y2, .int .i64 z2] 62) (.cells #[.int .i64 0, .int .i64 0, .int .i64 0, .int .i64 0, .int .i64 0, .int .i64 0] 62))
 clear hok hB
 go_enter Tryz.func183, Tryz.ntmps183
 go_upto_region 1 with fail
 obtain ⟨w1, hw1⟩ : ∃ w1, w1 = (w.alloc (.cells #[.int .i64 x, .int .i64 y, .int .i64 z, .int .i64 x2, .int .i64 y2, .int .i64 z2] 62)).alloc (.cells #[.int .i64 0, .int .i64 0, .int .i64 0, .int .i64 0, .int .i64 0, .int .i64 0] 62) := ⟨_, rfl⟩
 rw [← hw1] at KB KR HW ⊢
 clear hw1
 have c0 := KB.out.cell 0
 have c1 := KB.out.cell 1
 have c2 := KB.out.cell 2
 have c3 := KB.out.cell 3
 have c4 := KB.out.cell 4
 have c5 := KB.out.cell 5
 simp at c0 c1 c2 c3 c4 c5
 have f0 := KB.out.frozen 0
 have f1 := KB.out.frozen 1
 have f2 := KB.out.frozen 2
 have f3 := KB.out.frozen 3
 have f4 := KB.out.frozen 4
 have f5 := KB.out.frozen 5
 have lb := KB.out.lt
 go_upto_region 3 with fail
 obtain ⟨w3, hw3⟩ : ∃ w3, w3 = (((((w1.setCell ⟨w.heap.size, 0, none⟩ (.int .i64 (x - r))).setCell ⟨w.heap.size, 1, none⟩ (.int .i64 (y - r))).setCell ⟨w.heap.size, 2, none⟩ (.int .i64 (z - r))).setCell ⟨w.heap.size, 3, none⟩ (.int .i64 (x2 + r))).setCell ⟨w.heap.size, 4, none⟩ (.int .i64 (y2 + r))).setCell ⟨w.heap.size, 5, none⟩ (.int .i64 (z2 + r)) := ⟨_, rfl⟩
 have kb3 := (((((KB.out.set_ 0 (.int .i64 (x - r))).set_ 1 (.int .i64 (y - r))).set_ 2 (.int .i64 (z - r))).set_ 3 (.int .i64 (x2 + r))).set_ 4 (.int .i64 (y2 + r))).set_ 5 (.int .i64 (z2 + r))
 have hne : w.heap.size + 1 ≠ w.heap.size := by omega
 have kr3 := (((((KR.out.far (p := ⟨w.heap.size, 0, none⟩) hne (.int .i64 (x - r))).far (p := ⟨w.heap.size, 1, none⟩) hne (.int .i64 (y - r))).far (p := ⟨w.heap.size, 2, none⟩) hne (.int .i64 (z - r))).far (p := ⟨w.heap.size, 3, none⟩) hne (.int .i64 (x2 + r))).far (p := ⟨w.heap.size, 4, none⟩) hne (.int .i64 (y2 + r))).far (p := ⟨w.heap.size, 5, none⟩) hne (.int .i64 (z2 + r))
 have hb3 := (((((HW.out.setCell (p := ⟨w.heap.size, 0, none⟩) (Nat.le_refl _) (.int .i64 (x - r))).setCell (p := ⟨w.heap.size, 1, none⟩) (Nat.le_refl _) (.int .i64 (y - r))).setCell (p := ⟨w.heap.size, 2, none⟩) (Nat.le_refl _) (.int .i64 (z - r))).setCell (p := ⟨w.heap.size, 3, none⟩) (Nat.le_refl _) (.int .i64 (x2 + r))).setCell (p := ⟨w.heap.size, 4, none⟩) (Nat.le_refl _) (.int .i64 (y2 + r))).setCell (p := ⟨w.heap.size, 5, none⟩) (Nat.le_refl _) (.int .i64 (z2 + r))
 rw [← hw3] at kb3 kr3 hb3 ⊢
 simp only [zzD, zzE, zzF] at kb3
 replace KB := hide kb3
 replace KR := hide kr3
 replace HW := hide hb3
 clear hw3 kb3 kr3 hb3 c0 c1 c2 c3 c4 c5 f0 f1 f2 f3 f4 f5 lb
 have c0 := KB.out.cell 0
 have c1 := KB.out.cell 1
 have c2 := KB.out.cell 2
 have c3 := KB.out.cell 3
 have c4 := KB.out.cell 4
 have c5 := KB.out.cell 5
 simp at c0 c1 c2 c3 c4 c5
 have lb := KB.out.lt
 have f0 := KR.out.frozen 0
 have f1 := KR.out.frozen 1
 have f2 := KR.out.frozen 2
 have f3 := KR.out.frozen 3
 have f4 := KR.out.frozen 4
 have f5 := KR.out.frozen 5
 have r0 := KR.out.cell 0
 have r1 := KR.out.cell 1
 have r2 := KR.out.cell 2
 have r3 := KR.out.cell 3
 have r4 := KR.out.cell 4
 have r5 := KR.out.cell 5
 simp at r0 r1 r2 r3 r4 r5
 have lr := KR.out.lt
 go_wp2_with fail
 refine bodyPost_ret (results_c rfl rfl ((((((KR.out.set_ 0 _).set_ 1 _).set_ 2 _).set_ 3 _).set_ 4 _).set_ 5 _) Tryz.underlying62 rfl (by kernel_rfl)) rfl ?_
 refine ⟨?_, (((((HW.out.setCell (p := ⟨w.heap.size + 1, 0, none⟩) (Nat.le_add_right _ _) _).setCell (p := ⟨w.heap.size + 1, 1, none⟩) (Nat.le_add_right _ _) _).setCell (p := ⟨w.heap.size + 1, 2, none⟩) (Nat.le_add_right _ _) _).setCell (p := ⟨w.heap.size + 1, 3, none⟩) (Nat.le_add_right _ _) _).setCell (p := ⟨w.heap.size + 1, 4, none⟩) (Nat.le_add_right _ _) _).setCell (p := ⟨w.heap.size + 1, 5, none⟩) (Nat.le_add_right _ _) _⟩
 simp only [zzD, zzE, zzF]
 try rfl
set_option maxHeartbeats 1000000 in
theorem of1_ok (b : BoxD) (r : Int) (g : Nat) (w : World) (hok : boxOk b = true) (h0 : 0 ≤ r) (h1 : r ≤ 4194304) (hg : Blk w g 62 #[.int .i64 b.lo.1, .int .i64 b.lo.2.1, .int .i64 b.lo.2.2, .int .i64 b.hi.1, .int .i64 b.hi.2.1, .int .i64 b.hi.2.2]) :
  Calls Tryz.prog 182 #[.int .i64 r, .pointer (some ⟨g, 0, none⟩)] w fun e w' => e = .returned (bx (growBy b r)) ∧ Below w.heap.size w w' := by
 have HA := hide (fun W => all_ok b r W hok h0 h1 (boxOk_iff.1 hok).1.2.1)
 obtain ⟨gb, hgb⟩ : ∃ gb, gb = growBy b r := ⟨_, rfl⟩
 rw [← hgb] at HA ⊢
 obtain ⟨⟨x, y, z⟩, x2, y2, z2⟩ := b
 obtain ⟨⟨u, v, t⟩, u2, v2, t2⟩ := gb
 simp only at hg
 have KB := hide (hg.alloc (.cells #[.int .i64 0, .int .i64 0, .int .i64 0, .int .i64 0, .int .i64 0, .int .i64 0] 62))
 have KR := hide (Blk.new w 62 #[.int .i64 0, .int .i64 0, .int .i64 0, .int .i64 0, .int .i64 0, .int .i64 0])
 have HW := hide (below_new w (.cells #[.int .i64 0, .int .i64 0, .int .i64 0, .int .i64 0, .int .i64 0, .int .i64 0] 62))
 have c0 := KB.out.cell 0
 have c1 := KB.out.cell 1
 have c2 := KB.out.cell 2
 have c3 := KB.out.cell 3
 have c4 := KB.out.cell 4
 have c5 := KB.out.cell 5
 simp at c0 c1 c2 c3 c4 c5
 have lb := hg.lt
 clear hok h0 h1 hg hgb
 go_enter Tryz.func182, Tryz.ntmps182
 go_wp2_with fail
 refine (HA.out _).mono ?_
 rintro e w1 ⟨rfl, hb⟩
 replace KR := hide (KR.out.keep hb)
 replace HW := hide (below_step HW.out hb (Nat.le_refl _))
 clear hb HA c0 c1 c2 c3 c4 c5 lb KB
 have f0 := KR.out.frozen 0
 have f1 := KR.out.frozen 1
 have f2 := KR.out.frozen 2
 have f3 := KR.out.frozen 3
 have f4 := KR.out.frozen 4
 have f5 := KR.out.frozen 5
 have r0 := KR.out.cell 0
 have r1 := KR.out.cell 1
 have r2 := KR.out.cell 2
 have r3 := KR.out.cell 3
 have r4 := KR.out.cell 4
 have r5 := KR.out.cell 5
 simp at r0 r1 r2 r3 r4 r5
 have lr := KR.out.lt
 go_wp2_with fail
 refine bodyPost_ret (results_c rfl rfl ((((((KR.out.set_ 0 _).set_ 1 _).set_ 2 _).set_ 3 _).set_ 4 _).set_ 5 _) Tryz.underlying62 rfl (by kernel_rfl)) rfl ?_
 refine ⟨?_, (((((HW.out.setCell (p := ⟨w.heap.size, 0, none⟩) (Nat.le_refl _) _).setCell (p := ⟨w.heap.size, 1, none⟩) (Nat.le_refl _) _).setCell (p := ⟨w.heap.size, 2, none⟩) (Nat.le_refl _) _).setCell (p := ⟨w.heap.size, 3, none⟩) (Nat.le_refl _) _).setCell (p := ⟨w.heap.size, 4, none⟩) (Nat.le_refl _) _).setCell (p := ⟨w.heap.size, 5, none⟩) (Nat.le_refl _) _⟩
 simp only [zzD, zzE, zzF]
 try rfl
def coreBox (leg : BoxD) (d : Int) : BoxD := if boxOk (growBy leg (roundOf d)) = true then growBy leg (roundOf d) else zeroB
set_option maxHeartbeats 2000000 in
theorem core_ok (d : Int) (leg : BoxD) (w : World) (hd : isSize d = true) (hok : boxOk leg = true) :
  Calls Tryz.prog 180 #[.int .i64 d, bx leg] w fun e w' => e = .returned (.tuple #[bx (coreBox leg d), .bool (boxOk (growBy leg (roundOf d)))]) ∧ Below w.heap.size w w' := by
 have hr := isSize_range hd
 have HR := hide (fun W => round_ok d W hd)
 have HG := hide (fun W => grown_ok leg (roundOf d) W hok (by unfold roundOf; omega) (by unfold roundOf; omega))
 rw [show halfUp d = roundOf d from rfl] at HR
 have Hc1 := hide (fun (h : boxOk (growBy leg (roundOf d)) = true) => show coreBox leg d = growBy leg (roundOf d) by rw [coreBox, if_pos h])
 have Hc2 := hide (fun (h : boxOk (growBy leg (roundOf d)) = false) => show coreBox leg d = zeroB by rw [coreBox, if_neg (by rw [h]; simp)])
 obtain ⟨zb, hzb⟩ : ∃ q, q = zeroB := ⟨_, rfl⟩
 rw [← hzb] at HG Hc2
 generalize coreBox leg d = cb at *
 generalize growBy leg (roundOf d) = gb at *
 generalize roundOf d = rd at *
 obtain ⟨⟨x, y, z⟩, x2, y2, z2⟩ := leg
 have KB := hide ((Blk.new w 62 #[.int .i64 x, .int .i64 y, .int .i64 z, .int .i64 x2, .int .i64 y2, .int .i64 z2]).alloc (.cells #[.int .i64 0, .int .i64 0, .int .i64 0, .int .i64 0, .int .i64 0, .int .i64 0] 62))
 have KR := hide (Blk.new1 w (.cells #[.int .i64 x, .int .i64 y, .int .i64 z, .int .i64 x2, .int .i64 y2, .int .i64 z2] 62) 62 #[.int .i64 0, .int .i64 0, .int .i64 0, .int .i64 0, .int .i64 0, .int .i64 0])
 have HW := hide (below_new2 w (.cells #[.int .i64 x, .int .i64 y, .int .i64 z, .int .i64 x2, .int .i64 y2, .int .i64 z2] 62) (.cells #[.int .i64 0, .int .i64 0, .int .i64 0, .int .i64 0, .int .i64 0, .int .i64 0] 62))
 clear hd hok hr
 go_enter Tryz.func180, Tryz.ntmps180
 go_wp2_with fail
 refine (HR.out _).mono ?_
 rintro e w1 ⟨rfl, hb⟩
 replace KB := hide (KB.out.keep hb)
 replace KR := hide (KR.out.keep hb)
 replace HW := hide (below_step HW.out hb (Nat.le_refl _))
 clear hb HR
 have c0 := KB.out.cell 0
 have c1 := KB.out.cell 1
 have c2 := KB.out.cell 2
 have c3 := KB.out.cell 3
 have c4 := KB.out.cell 4
 have c5 := KB.out.cell 5
 simp at c0 c1 c2 c3 c4 c5
 have lb := KB.out.lt
 go_wp2_with fail
 refine (HG.out _).mono ?_
 rintro e w2 ⟨hways, hb⟩
 replace KR := hide (KR.out.keep hb)
 replace HW := hide (below_step HW.out hb (Nat.le_refl _))
 clear hb HG c0 c1 c2 c3 c4 c5 lb KB
 rcases hways with ⟨hg, rfl⟩ | ⟨hg, rfl⟩
 ·have Hcb := hide (Hc1.out hg)
  have Hg := hide hg
  clear Hc1 Hc2 hg
  obtain ⟨⟨u, v, t⟩, u2, v2, t2⟩ := gb
  replace KR := hide (KR.out.alloc (.cells #[.int .i64 u, .int .i64 v, .int .i64 t, .int .i64 u2, .int .i64 v2, .int .i64 t2] 62))
  replace HW := hide (HW.out.alloc HW.out.size (.cells #[.int .i64 u, .int .i64 v, .int .i64 t, .int .i64 u2, .int .i64 v2, .int .i64 t2] 62))
  have f0 := KR.out.frozen 0
  have f1 := KR.out.frozen 1
  have f2 := KR.out.frozen 2
  have f3 := KR.out.frozen 3
  have f4 := KR.out.frozen 4
  have f5 := KR.out.frozen 5
  have r0 := KR.out.cell 0
  have r1 := KR.out.cell 1
  have r2 := KR.out.cell 2
  have r3 := KR.out.cell 3
  have r4 := KR.out.cell 4
  have r5 := KR.out.cell 5
  simp at r0 r1 r2 r3 r4 r5
  have lr := KR.out.lt
  go_wp2_with fail
  rw [Hg.out, Hcb.out]
  refine bodyPost_ret (results_ct rfl rfl ((((((KR.out.set_ 0 _).set_ 1 _).set_ 2 _).set_ 3 _).set_ 4 _).set_ 5 _) Tryz.underlying62 rfl (by kernel_rfl)) rfl ?_
  refine ⟨?_, (((((HW.out.setCell (p := ⟨w.heap.size + 1, 0, none⟩) (Nat.le_add_right _ _) _).setCell (p := ⟨w.heap.size + 1, 1, none⟩) (Nat.le_add_right _ _) _).setCell (p := ⟨w.heap.size + 1, 2, none⟩) (Nat.le_add_right _ _) _).setCell (p := ⟨w.heap.size + 1, 3, none⟩) (Nat.le_add_right _ _) _).setCell (p := ⟨w.heap.size + 1, 4, none⟩) (Nat.le_add_right _ _) _).setCell (p := ⟨w.heap.size + 1, 5, none⟩) (Nat.le_add_right _ _) _⟩
  simp only [zzD, zzE, zzF]
  try rfl
 ·have Hcb := hide (Hc2.out hg)
  have Hg := hide hg
  clear Hc1 Hc2 hg hzb
  obtain ⟨⟨u, v, t⟩, u2, v2, t2⟩ := zb
  replace KR := hide (KR.out.alloc (.cells #[.int .i64 u, .int .i64 v, .int .i64 t, .int .i64 u2, .int .i64 v2, .int .i64 t2] 62))
  replace HW := hide (HW.out.alloc HW.out.size (.cells #[.int .i64 u, .int .i64 v, .int .i64 t, .int .i64 u2, .int .i64 v2, .int .i64 t2] 62))
  have f0 := KR.out.frozen 0
  have f1 := KR.out.frozen 1
  have f2 := KR.out.frozen 2
  have f3 := KR.out.frozen 3
  have f4 := KR.out.frozen 4
  have f5 := KR.out.frozen 5
  have r0 := KR.out.cell 0
  have r1 := KR.out.cell 1
  have r2 := KR.out.cell 2
  have r3 := KR.out.cell 3
  have r4 := KR.out.cell 4
  have r5 := KR.out.cell 5
  simp at r0 r1 r2 r3 r4 r5
  have lr := KR.out.lt
  go_wp2_with fail
  rw [Hg.out, Hcb.out]
  refine bodyPost_ret (results_ct rfl rfl ((((((KR.out.set_ 0 _).set_ 1 _).set_ 2 _).set_ 3 _).set_ 4 _).set_ 5 _) Tryz.underlying62 rfl (by kernel_rfl)) rfl ?_
  refine ⟨?_, (((((HW.out.setCell (p := ⟨w.heap.size + 1, 0, none⟩) (Nat.le_add_right _ _) _).setCell (p := ⟨w.heap.size + 1, 1, none⟩) (Nat.le_add_right _ _) _).setCell (p := ⟨w.heap.size + 1, 2, none⟩) (Nat.le_add_right _ _) _).setCell (p := ⟨w.heap.size + 1, 3, none⟩) (Nat.le_add_right _ _) _).setCell (p := ⟨w.heap.size + 1, 4, none⟩) (Nat.le_add_right _ _) _).setCell (p := ⟨w.heap.size + 1, 5, none⟩) (Nat.le_add_right _ _) _⟩
  simp only [zzD, zzE, zzF]
  try rfl
set_option maxHeartbeats 2000000 in
theorem held_any (HSL : SortLaw) (HCL : CompLaw) (m : MemD) (A1 A2 : Option Addr) (n1 n2 c1 c2 : Nat) (b : BoxD) (w : World) {B : Nat} (h1 : BoxesAt w B A1 m.boxes) (h2 : BoxesAt w B A2 m.holes) (hB : B ≤ w.heap.size) (hn1 : n1 = m.boxes.length) (hn2 : n2 = m.holes.length) (hok : solidOk m.boxes m.holes = true) :
  Calls Tryz.prog 240 #[memV m A1 n1 c1 A2 n2 c2, bx b] w fun e w' => e = .returned (.bool (heldB m.boxes m.holes b)) ∧ Below w.heap.size w w' := by
 have HV := hide (fun W => boxValid_any b W)
 have HC := hide (fun (hb : boxOk b = true) (W : World) (hz : Below w.heap.size w W) => containsBox_any HSL HCL m.boxes m.holes A1 A2 n1 n2 c1 c2 b W (h1.carry (Flat.carried _) (hz.mono hB) (Nat.le_refl _)) (h2.carry (Flat.carried _) (hz.mono hB) (Nat.le_refl _)) (Nat.le_trans hB hz.size) hn1 hn2 hok hb)
 have Hr := hide (show heldB m.boxes m.holes b = (boxOk b && (!someOf (opensAt b) m.holes && coversB m.boxes b)) from rfl)
 generalize heldB m.boxes m.holes b = r at *
 generalize (!someOf (opensAt b) m.holes && coversB m.boxes b) = r2 at *
 obtain ⟨t, ht⟩ : ∃ t, t = boxOk b := ⟨_, rfl⟩
 rw [← ht] at HV HC Hr
 obtain ⟨⟨x, y, z⟩, x2, y2, z2⟩ := b
 obtain ⟨name, boxes, holes, cover, agg, poker⟩ := m
 have KB := hide (Blk.new1 w (.cells #[.string name, .slice A1 n1 c1, .slice A2 n2 c2, .int .i64 cover, .int .i64 agg, .int .i64 poker] 26) 62 #[.int .i64 x, .int .i64 y, .int .i64 z, .int .i64 x2, .int .i64 y2, .int .i64 z2])
 have KM := hide ((Blk.new w 26 #[.string name, .slice A1 n1 c1, .slice A2 n2 c2, .int .i64 cover, .int .i64 agg, .int .i64 poker]).alloc (.cells #[.int .i64 x, .int .i64 y, .int .i64 z, .int .i64 x2, .int .i64 y2, .int .i64 z2] 62))
 have HW := hide (below_new2 w (.cells #[.string name, .slice A1 n1 c1, .slice A2 n2 c2, .int .i64 cover, .int .i64 agg, .int .i64 poker] 26) (.cells #[.int .i64 x, .int .i64 y, .int .i64 z, .int .i64 x2, .int .i64 y2, .int .i64 z2] 62))
 clear h1 h2 hB hn1 hn2 hok ht
 go_enter Tryz.func240, Tryz.ntmps240
 go_wp2_with fail
 refine (HV.out _).mono ?_
 rintro e w1 ⟨rfl, hb⟩
 replace KB := hide (KB.out.keep hb)
 replace KM := hide (KM.out.keep hb)
 replace HW := hide (below_step HW.out hb (Nat.le_refl _))
 clear hb HV
 cases t
 ·go_wp2_with fail
  go_ret
  exact ⟨ret_bool (by rw [Hr.out]; rfl), HW.out⟩
 ·have c0 := KB.out.cell 0
  have c1 := KB.out.cell 1
  have c2 := KB.out.cell 2
  have c3 := KB.out.cell 3
  have c4 := KB.out.cell 4
  have c5 := KB.out.cell 5
  simp at c0 c1 c2 c3 c4 c5
  have lb := KB.out.lt
  have s1 := KM.out.cell 1
  have s2 := KM.out.cell 2
  simp at s1 s2
  have lm := KM.out.lt
  have HCx := hide (HC.out rfl)
  clear HC
  go_wp2_with fail
  refine (HCx.out _ HW.out).mono ?_
  rintro e w2 ⟨rfl, hb⟩
  replace HW := hide (below_step HW.out hb (Nat.le_refl _))
  clear hb HCx lb s1 s2 lm KB KM
  cases r2
  ·go_wp2_with fail
   go_ret
   exact ⟨ret_bool (by rw [Hr.out]; rfl), HW.out⟩
  ·go_wp2_with fail
   go_ret
   exact ⟨ret_bool (by rw [Hr.out]; rfl), HW.out⟩
abbrev boxCells (b : BoxD) : Array Value := #[.int .i64 b.lo.1, .int .i64 b.lo.2.1, .int .i64 b.lo.2.2, .int .i64 b.hi.1, .int .i64 b.hi.2.1, .int .i64 b.hi.2.2]
abbrev memCells (m : MemD) (A1 : Option Addr) (n1 c1 : Nat) (A2 : Option Addr) (n2 c2 : Nat) : Array Value := #[.string m.name, .slice A1 n1 c1, .slice A2 n2 c2, .int .i64 m.cover, .int .i64 m.aggregate, .int .i64 m.poker]
set_option maxHeartbeats 2000000 in
theorem greatest1_ok (HSL : SortLaw) (HCL : CompLaw) (m : MemD) (A1 A2 : Option Addr) (n1 n2 c1 c2 : Nat) (b : BoxD) (c : Nat) (gm gf gb : Nat) (w : World) {B : Nat} (h1 : BoxesAt w B A1 m.boxes) (h2 : BoxesAt w B A2 m.holes) (hB : B ≤ w.heap.size) (hn1 : n1 = m.boxes.length) (hn2 : n2 = m.holes.length) (hok : solidOk m.boxes m.holes = true) (hbk : boxOk b = true) (hc : c ≤ 4194304)
  (hkm : Blk w gm 26 (memCells m A1 n1 c1 A2 n2 c2)) (hkf : Blk w gf 229 #[.func (.func 182) #[] #[.pointer (some ⟨gb, 0, none⟩)]]) (hkb : Blk w gb 62 (boxCells b)) :
  Calls Tryz.prog 239 #[.int .i64 (c : Int), .pointer (some ⟨gm, 0, none⟩), .pointer (some ⟨gf, 0, none⟩)] w fun e w' => e = .returned (.bool (notHeld m b c)) ∧ Below w.heap.size w w' := by
 have HF := hide (fun (d : Nat) (os : Array Obj) => of1_ok b c gb (Go.Sort.grow (redrawn w d) os) hbk (by omega) (by omega) (hkb.keep (below_regrown w d os)))
 have HH := hide (fun (d : Nat) (os : Array Obj) => held_any HSL HCL m A1 A2 n1 n2 c1 c2 (growBy b c) (Go.Sort.grow (redrawn w d) os) (h1.carry (Flat.carried _) ((below_regrown w d os).mono hB) (Nat.le_refl _)) (h2.carry (Flat.carried _) ((below_regrown w d os).mono hB) (Nat.le_refl _)) (Nat.le_trans hB (below_regrown w d os).size) hn1 hn2 hok)
 have Hr := hide (show notHeld m b c = !heldB m.boxes m.holes (growBy b c) from rfl)
 have m0 := cell_regrown (hkm.cell 0)
 have m1 := cell_regrown (hkm.cell 1)
 have m2 := cell_regrown (hkm.cell 2)
 have m3 := cell_regrown (hkm.cell 3)
 have m4 := cell_regrown (hkm.cell 4)
 have m5 := cell_regrown (hkm.cell 5)
 have f0 := cell_regrown (hkf.cell 0)
 simp at m0 m1 m2 m3 m4 m5 f0
 have hcf := Tryz.call182
 obtain ⟨t, ht⟩ : ∃ t, t = heldB m.boxes m.holes (growBy b c) := ⟨_, rfl⟩
 rw [← ht] at HH Hr
 obtain ⟨gB, hgB⟩ : ∃ q, q = growBy b c := ⟨_, rfl⟩
 rw [← hgB] at HF HH
 obtain ⟨⟨x, y, z⟩, x2, y2, z2⟩ := gB
 clear h1 h2 hB hn1 hn2 hok hbk hc hkm hkf hkb ht hgB
 go_enter Tryz.func239, Tryz.ntmps239
 go_wp2_with fail
 refine wp_region_quiet_below (by kernel_rfl) (by kernel_rfl) ?_
 repeat (go_big_quiet_step (first
  | (go_at_call 182; with_reducible exact Calls.regrown_of (HF.out _ _))
  | (go_at_call 240; with_reducible exact Calls.regrown_of (HH.out _ _))))
 refine wpQuiet_nil ?_
 intro wq9 hw'
 have hbq := hide (show Below w.heap.size w wq9 by obtain ⟨p9, rfl⟩ := hw'; exact below_regrown _ _ _)
 clear hw'
 go_wp2_with fail
 go_ret
 exact ⟨ret_bool Hr.out.symm, hbq.out⟩
set_option maxHeartbeats 2000000 in
theorem greatest_ok (HSL : SortLaw) (HCL : CompLaw) (m : MemD) (A1 A2 : Option Addr) (n1 n2 c1 c2 : Nat) (b : BoxD) (gb : Nat) (w : World) {B : Nat} (h1 : BoxesAt w B A1 m.boxes) (h2 : BoxesAt w B A2 m.holes) (hB : B ≤ w.heap.size) (hn1 : n1 = m.boxes.length) (hn2 : n2 = m.holes.length) (hok : solidOk m.boxes m.holes = true) (hbk : boxOk b = true) (hkb : Blk w gb 62 (boxCells b)) :
  Calls Tryz.prog 181 #[memV m A1 n1 c1 A2 n2 c2, .func (.func 182) #[] #[.pointer (some ⟨gb, 0, none⟩)]] w fun e w' => e = .returned (.int .i64 (coverAt m b)) ∧ Below w.heap.size w w' := by
 have KM := (Blk.new w 26 (memCells m A1 n1 c1 A2 n2 c2)).alloc (.cells #[.func (.func 182) #[] #[.pointer (some ⟨gb, 0, none⟩)]] 229)
 have KF := Blk.new1 w (.cells (memCells m A1 n1 c1 A2 n2 c2) 26) 229 #[.func (.func 182) #[] #[.pointer (some ⟨gb, 0, none⟩)]]
 have hW := below_new2 w (.cells (memCells m A1 n1 c1 A2 n2 c2) 26) (.cells #[.func (.func 182) #[] #[.pointer (some ⟨gb, 0, none⟩)]] 229)
 have KB := hkb.keep hW
 obtain ⟨W0, hW0⟩ : ∃ W0, W0 = (w.alloc (.cells (memCells m A1 n1 c1 A2 n2 c2) 26)).alloc (.cells #[.func (.func 182) #[] #[.pointer (some ⟨gb, 0, none⟩)]] 229) := ⟨_, rfl⟩
 rw [← hW0] at KM KF hW KB
 have HSr := search_any (notHeld m b) 2097153 239 #[.pointer (some ⟨w.heap.size, 0, none⟩), .pointer (some ⟨w.heap.size + 1, 0, none⟩)] W0 (by omega)
  (fun k W hk hz => greatest1_ok HSL HCL m A1 A2 n1 n2 c1 c2 b k w.heap.size (w.heap.size + 1) gb W (h1.carry (Flat.carried _) ((below_step hW hz (Nat.le_refl _)).mono hB) (Nat.le_refl _)) (h2.carry (Flat.carried _) ((below_step hW hz (Nat.le_refl _)).mono hB) (Nat.le_refl _)) (Nat.le_trans hB (below_step hW hz (Nat.le_refl _)).size) hn1 hn2 hok hbk (by omega) (KM.keep hz) (KF.keep hz) (KB.keep hz)) Tryz.call239
 rw [show ((2097153 : Nat) : Int) = 2097153 from rfl] at HSr
 have HS := hide HSr
 have hle := (search_le (notHeld m b) 2097153 0 2097153 (by omega)).2
 have Hr := hide (show coverAt m b = ((searchB (notHeld m b) 2097153 : Nat) : Int) - 1 from rfl)
 have hle2 : searchB (notHeld m b) 2097153 ≤ 2097153 := hle
 generalize searchB (notHeld m b) 2097153 = sn at *
 have HW := hide hW
 clear h1 h2 hB hn1 hn2 hok hbk hkb KM KF hW KB HSr hle
 go_enter Tryz.func181, Tryz.ntmps181
 go_wp2_with fail
 rw [← hW0]
 clear hW0
 refine HS.out.mono ?_
 rintro e w2 ⟨rfl, hb⟩
 replace HW := hide (below_step HW.out hb (Nat.le_refl _))
 have z1 : IntKind.i64.wrap ((sn : Int) - 1) = (sn : Int) - 1 := IntWalk.i64_in _ (by omega)
 clear hb HS
 go_wp2_with fail
 go_ret
 exact ⟨ret_int (by rw [Hr.out]), HW.out⟩
set_option maxHeartbeats 2000000 in
theorem coverOf_ok (HSL : SortLaw) (HCL : CompLaw) (m : MemD) (A1 A2 : Option Addr) (n1 n2 c1 c2 : Nat) (d : Int) (leg : BoxD) (w : World) {B : Nat} (h1 : BoxesAt w B A1 m.boxes) (h2 : BoxesAt w B A2 m.holes) (hB : B ≤ w.heap.size) (hn1 : n1 = m.boxes.length) (hn2 : n2 = m.holes.length) (hok : solidOk m.boxes m.holes = true) (hd : isSize d = true) (hlk : boxOk leg = true) :
  Calls Tryz.prog 117 #[memV m A1 n1 c1 A2 n2 c2, .int .i64 d, bx leg] w fun e w' => e = .returned (.int .i64 (coverOf m d leg)) ∧ Below w.heap.size w w' := by
 have HC := hide (fun W => core_ok d leg W hd hlk)
 have HG := hide (fun (h : boxOk (growBy leg (roundOf d)) = true) (W : World) (hz : Below w.heap.size w W) (gb : Nat) (hk : Blk W gb 62 (boxCells (growBy leg (roundOf d)))) => greatest_ok HSL HCL m A1 A2 n1 n2 c1 c2 (growBy leg (roundOf d)) gb W (h1.carry (Flat.carried _) (hz.mono hB) (Nat.le_refl _)) (h2.carry (Flat.carried _) (hz.mono hB) (Nat.le_refl _)) (Nat.le_trans hB hz.size) hn1 hn2 hok h hk)
 have Hr1 := hide (fun (h : boxOk (growBy leg (roundOf d)) = true) => show coverOf m d leg = coverAt m (growBy leg (roundOf d)) by rw [coverOf, if_pos h])
 have Hr2 := hide (fun (h : boxOk (growBy leg (roundOf d)) = false) => show coverOf m d leg = -1 by rw [coverOf, if_neg (by rw [h]; simp)])
 have Hb1 := hide (fun (h : boxOk (growBy leg (roundOf d)) = true) => show coreBox leg d = growBy leg (roundOf d) by rw [coreBox, if_pos h])
 generalize coverOf m d leg = r at *
 generalize coreBox leg d = cb at *
 generalize growBy leg (roundOf d) = gbx at *
 generalize coverAt m gbx = cv at *
 generalize boxOk gbx = t at *
 obtain ⟨⟨x, y, z⟩, x2, y2, z2⟩ := leg
 obtain ⟨⟨u, v, q⟩, u2, v2, q2⟩ := cb
 obtain ⟨name, boxes, holes, cover, agg, poker⟩ := m
 have KM := hide ((Blk.new w 26 #[.string name, .slice A1 n1 c1, .slice A2 n2 c2, .int .i64 cover, .int .i64 agg, .int .i64 poker]).alloc (.cells #[.int .i64 x, .int .i64 y, .int .i64 z, .int .i64 x2, .int .i64 y2, .int .i64 z2] 62))
 have HW := hide (below_new2 w (.cells #[.string name, .slice A1 n1 c1, .slice A2 n2 c2, .int .i64 cover, .int .i64 agg, .int .i64 poker] 26) (.cells #[.int .i64 x, .int .i64 y, .int .i64 z, .int .i64 x2, .int .i64 y2, .int .i64 z2] 62))
 clear h1 h2 hB hn1 hn2 hok hd hlk
 go_enter Tryz.func117, Tryz.ntmps117
 go_wp2_with fail
 refine (HC.out _).mono ?_
 rintro e w1 ⟨rfl, hb⟩
 replace KM := hide ((KM.out.keep hb).alloc (.cells #[.int .i64 u, .int .i64 v, .int .i64 q, .int .i64 u2, .int .i64 v2, .int .i64 q2] 62))
 replace HW := hide ((below_step HW.out hb (Nat.le_refl _)).alloc (below_step HW.out hb (Nat.le_refl _)).size (.cells #[.int .i64 u, .int .i64 v, .int .i64 q, .int .i64 u2, .int .i64 v2, .int .i64 q2] 62))
 have KG := hide (Blk.new w1 62 #[.int .i64 u, .int .i64 v, .int .i64 q, .int .i64 u2, .int .i64 v2, .int .i64 q2])
 clear hb HC
 cases t
 ·have Hr := hide (Hr2.out rfl)
  go_wp2_with fail
  go_ret
  exact ⟨ret_int Hr.out.symm, HW.out⟩
 ·have Hr := hide (Hr1.out rfl)
  obtain rfl := Hb1.out rfl
  have HGx := hide (HG.out rfl _ HW.out _ KG.out)
  have s0 := KM.out.cell 0
  have s1 := KM.out.cell 1
  have s2 := KM.out.cell 2
  have s3 := KM.out.cell 3
  have s4 := KM.out.cell 4
  have s5 := KM.out.cell 5
  simp at s0 s1 s2 s3 s4 s5
  have lm := KM.out.lt
  clear HG Hr1 Hr2 Hb1
  go_wp2_with fail
  refine HGx.out.mono ?_
  rintro e w2 ⟨rfl, hb⟩
  replace HW := hide (below_step HW.out hb (Nat.le_refl _))
  clear hb HGx s0 s1 s2 s3 s4 s5 lm KM KG
  go_wp2_with fail
  go_ret
  exact ⟨ret_int Hr.out.symm, HW.out⟩
end Go.Proofs.YtpaanfjjnjjoeaaGreat
