/- The reference of layer 12: the hull of two points. -/
import Derived.Test.YtpaanfjjnjjoeaaGreatRQat
import Derived.Test.YtpaanfjjnjjoeaaGreatRQap
import Derived.Deep.RegionHeld3
import Derived.Deep.Cut
namespace Go.Proofs.YtpaanfjjnjjoeaaGreat
open Go.RowKit
theorem minI (p q : Int) : (if q < p then q else p) = min p q := by split <;> omega
theorem maxI (p q : Int) : (if p < q then q else p) = max p q := by split <;> omega
set_option maxHeartbeats 4000000 in
set_option maxRecDepth 100000 in
theorem refHull2_any (A : Option Addr) (p q : Pt) (c : Nat) (w : World) {B : Nat} (h : PtsAt w B A [p, q]) (hB : B ≤ w.heap.size) :
  Calls Tryz.prog 212 #[.slice A 2 c] w fun e w' => e = .returned (bxV (legBox p q)) ∧ Below w.heap.size w w' := by
 obtain ⟨b, off, p', rfl, hbl, hp, f0, f1, f2⟩ := PtsAt.get (k := 0) h (by simp)
 obtain ⟨b', off', q', hA, _, hq, g0, g1, g2⟩ := PtsAt.get (k := 1) h (by simp)
 injection hA with hA
 injection hA with e1 e2
 subst e1 e2
 simp at hp hq
 subst hp hq
 obtain ⟨p1, p2, p3⟩ := p
 obtain ⟨q1, q2, q3⟩ := q
 simp only [Nat.zero_mul, Nat.add_zero, Nat.one_mul] at f0 f1 f2 g0 g1 g2
 have hbw : b < w.heap.size := Nat.lt_of_lt_of_le hbl hB
 have HG := hide (fun (W : World) (hz : Below w.heap.size w W) => show W.cell? ⟨b, off + 3, none⟩ = some (.int .i64 q1) ∧ W.cell? ⟨b, off + 3 + 1, none⟩ = some (.int .i64 q2) ∧ W.cell? ⟨b, off + 3 + 2, none⟩ = some (.int .i64 q3) from ⟨(hz.cell (p := ⟨b, off + 3, none⟩) hbw).trans g0, (hz.cell (p := ⟨b, off + 3 + 1, none⟩) hbw).trans g1, (hz.cell (p := ⟨b, off + 3 + 2, none⟩) hbw).trans g2⟩)
 have y1 := minI p1 q1
 have y2 := minI p2 q2
 have y3 := minI p3 q3
 have y4 := maxI p1 q1
 have y5 := maxI p2 q2
 have y6 := maxI p3 q3
 have hres := hide (show legBox (p1, p2, p3) (q1, q2, q3) = ⟨(min p1 q1, min p2 q2, min p3 q3), (max p1 q1, max p2 q2, max p3 q3)⟩ from rfl)
 generalize min p1 q1 = m1 at *
 generalize min p2 q2 = m2 at *
 generalize min p3 q3 = m3 at *
 generalize max p1 q1 = m4 at *
 generalize max p2 q2 = m5 at *
 generalize max p3 q3 = m6 at *
 have hm1 : min p1 q1 = m1 := (minI p1 q1).symm.trans y1
 have hm2 : min p2 q2 = m2 := (minI p2 q2).symm.trans y2
 have hm3 : min p3 q3 = m3 := (minI p3 q3).symm.trans y3
 have hm4 : max p1 q1 = m4 := (maxI p1 q1).symm.trans y4
 have hm5 : max p2 q2 = m5 := (maxI p2 q2).symm.trans y5
 have hm6 : max p3 q3 = m6 := (maxI p3 q3).symm.trans y6
 clear h hbl g0 g1 g2
 go_enter Tryz.func212, Tryz.ntmps212
 go_wp2_with fail
 obtain ⟨wa, hwa⟩ : ∃ wa, wa = w.alloc (.cells #[.int .i64 0, .int .i64 0, .int .i64 0, .int .i64 0, .int .i64 0, .int .i64 0] 62) := ⟨_, rfl⟩
 have KR := hide (Blk.new w 62 #[.int .i64 0, .int .i64 0, .int .i64 0, .int .i64 0, .int .i64 0, .int .i64 0])
 have HW := hide (below_new w (.cells #[.int .i64 0, .int .i64 0, .int .i64 0, .int .i64 0, .int .i64 0, .int .i64 0] 62))
 rw [← hwa] at KR HW ⊢
 have f0 := (HW.out.cell (p := ⟨b, off, none⟩) hbw).trans f0
 have f1 := (HW.out.cell (p := ⟨b, off + 1, none⟩) hbw).trans f1
 have f2 := (HW.out.cell (p := ⟨b, off + 2, none⟩) hbw).trans f2
 clear hwa
 go_cut [3] from 13 (fun s3 wx => s3 = .pointer (some ⟨wa.heap.size, 0, none⟩) ∧ wx = (wa.alloc (.cells #[.int .i64 p1, .int .i64 p2, .int .i64 p3, .int .i64 p1, .int .i64 p2, .int .i64 p3] 62)).drew)
 case first =>
  go_region_held3 (fun W => W.cell? ⟨b, off, none⟩ = some (.int .i64 p1) ∧ W.cell? ⟨b, off + 1, none⟩ = some (.int .i64 p2) ∧ W.cell? ⟨b, off + 2, none⟩ = some (.int .i64 p3))
   (first | go_keep)
   (first | fail)
  all_goals
   go_wp2_with fail
   go_meet
   exact ⟨rfl, rfl⟩
 obtain ⟨rfl, hwb⟩ := hcut
 have HW2 := hide ((HW.out.alloc HW.out.size (.cells #[.int .i64 p1, .int .i64 p2, .int .i64 p3, .int .i64 p1, .int .i64 p2, .int .i64 p3] 62)).drew)
 have KR2 := hide ((KR.out.alloc (.cells #[.int .i64 p1, .int .i64 p2, .int .i64 p3, .int .i64 p1, .int .i64 p2, .int .i64 p3] 62)).drew)
 have KN := hide ((Blk.new wa 62 #[.int .i64 p1, .int .i64 p2, .int .i64 p3, .int .i64 p1, .int .i64 p2, .int .i64 p3]).drew)
 rw [← hwb] at HW2 KR2 KN
 have hwg : w.heap.size < wa.heap.size := KR.out.lt
 clear hwb f0 f1 f2 KR HW
 go_wp2_with fail
 go_loopw [4] (fun iv wr => ∃ k : Nat, (k = 1 ∨ k = 2) ∧ iv = .int .i64 k ∧ Hid (Blk wr wa.heap.size 62 (if k = 1 then #[.int .i64 p1, .int .i64 p2, .int .i64 p3, .int .i64 p1, .int .i64 p2, .int .i64 p3] else #[.int .i64 m1, .int .i64 m2, .int .i64 m3, .int .i64 m4, .int .i64 m5, .int .i64 m6])) ∧ Hid (Blk wr w.heap.size 62 #[.int .i64 0, .int .i64 0, .int .i64 0, .int .i64 0, .int .i64 0, .int .i64 0]) ∧ Hid (Below w.heap.size w wr)) (fun iv _ => 2 - (intOf iv).toNat)
 case atStart => exact ⟨1, .inl rfl, rfl, hide KN.out, KR2, HW2⟩
 case round =>
  obtain ⟨k, hk, rfl, hN, hR, hb⟩ := hrel
  rcases hk with rfl | rfl
  ·have KN := hide (show Blk wr wa.heap.size 62 #[.int .i64 p1, .int .i64 p2, .int .i64 p3, .int .i64 p1, .int .i64 p2, .int .i64 p3] from hN.out)
   obtain ⟨g0, g1, g2⟩ := HG.out _ hb.out
   have u0 := KN.out.cell 0
   have u1 := KN.out.cell 1
   have u2 := KN.out.cell 2
   have u3 := KN.out.cell 3
   have u4 := KN.out.cell 4
   have u5 := KN.out.cell 5
   have v0 := KN.out.frozen 0
   have v1 := KN.out.frozen 1
   have v2 := KN.out.frozen 2
   have v3 := KN.out.frozen 3
   have v4 := KN.out.frozen 4
   have v5 := KN.out.frozen 5
   simp at u0 u1 u2 u3 u4 u5
   have lk := KN.out.lt
   have lb : b < wr.heap.size := Nat.lt_of_lt_of_le hbw hb.out.size
   clear hN KR2 HW2
   go_wp2_with fail
   try simp only [hm1, hm2, hm3, hm4, hm5, hm6]
   have hz := ((((((KN.out.set_ 0 (.int .i64 m1)).set_ 1 (.int .i64 m2)).set_ 2 (.int .i64 m3)).set_ 3 (.int .i64 m4)).set_ 4 (.int .i64 m5)).set_ 5 (.int .i64 m6)).alloc (.cells #[.int .i64 q1, .int .i64 q2, .int .i64 q3] 60)
   simp only [zzD, zzE, zzF] at hz
   have hy := hide (((((((hR.out.far (p := ⟨wa.heap.size, 0, none⟩) (Nat.ne_of_lt hwg) (.int .i64 m1)).far (p := ⟨wa.heap.size, 1, none⟩) (Nat.ne_of_lt hwg) (.int .i64 m2)).far (p := ⟨wa.heap.size, 2, none⟩) (Nat.ne_of_lt hwg) (.int .i64 m3)).far (p := ⟨wa.heap.size, 3, none⟩) (Nat.ne_of_lt hwg) (.int .i64 m4)).far (p := ⟨wa.heap.size, 4, none⟩) (Nat.ne_of_lt hwg) (.int .i64 m5)).far (p := ⟨wa.heap.size, 5, none⟩) (Nat.ne_of_lt hwg) (.int .i64 m6)).alloc (.cells #[.int .i64 q1, .int .i64 q2, .int .i64 q3] 60))
   have hx := hide (((((((hb.out.setCell (p := ⟨wa.heap.size, 0, none⟩) (Nat.le_of_lt hwg) (.int .i64 m1)).setCell (p := ⟨wa.heap.size, 1, none⟩) (Nat.le_of_lt hwg) (.int .i64 m2)).setCell (p := ⟨wa.heap.size, 2, none⟩) (Nat.le_of_lt hwg) (.int .i64 m3)).setCell (p := ⟨wa.heap.size, 3, none⟩) (Nat.le_of_lt hwg) (.int .i64 m4)).setCell (p := ⟨wa.heap.size, 4, none⟩) (Nat.le_of_lt hwg) (.int .i64 m5)).setCell (p := ⟨wa.heap.size, 5, none⟩) (Nat.le_of_lt hwg) (.int .i64 m6)).alloc (by have := hb.out.size; simpa using this) (.cells #[.int .i64 q1, .int .i64 q2, .int .i64 q3] 60))
   exact ⟨⟨2, .inr rfl, rfl, hide hz, hy, hx⟩, by simp [intOf]⟩
  ·have KN := hide (show Blk wr wa.heap.size 62 #[.int .i64 m1, .int .i64 m2, .int .i64 m3, .int .i64 m4, .int .i64 m5, .int .i64 m6] from hN.out)
   have u0 := KN.out.cell 0
   have u1 := KN.out.cell 1
   have u2 := KN.out.cell 2
   have u3 := KN.out.cell 3
   have u4 := KN.out.cell 4
   have u5 := KN.out.cell 5
   have d0 := hR.out.cell 0
   have d1 := hR.out.cell 1
   have d2 := hR.out.cell 2
   have d3 := hR.out.cell 3
   have d4 := hR.out.cell 4
   have d5 := hR.out.cell 5
   have f0 := hR.out.frozen 0
   have f1 := hR.out.frozen 1
   have f2 := hR.out.frozen 2
   have f3 := hR.out.frozen 3
   have f4 := hR.out.frozen 4
   have f5 := hR.out.frozen 5
   simp at u0 u1 u2 u3 u4 u5 d0 d1 d2 d3 d4 d5
   have lk := KN.out.lt
   clear hN KR2 HW2
   go_wp2_with fail
   refine bodyPost_ret (results_c rfl rfl ((((((hR.out.set_ 0 _).set_ 1 _).set_ 2 _).set_ 3 _).set_ 4 _).set_ 5 _) Tryz.underlying62 rfl (by kernel_rfl)) rfl ?_
   refine ⟨?_, (((((hb.out.setCell (p := ⟨w.heap.size, 0, none⟩) (Nat.le_refl _) _).setCell (p := ⟨w.heap.size, 1, none⟩) (Nat.le_refl _) _).setCell (p := ⟨w.heap.size, 2, none⟩) (Nat.le_refl _) _).setCell (p := ⟨w.heap.size, 3, none⟩) (Nat.le_refl _) _).setCell (p := ⟨w.heap.size, 4, none⟩) (Nat.le_refl _) _).setCell (p := ⟨w.heap.size, 5, none⟩) (Nat.le_refl _) _⟩
   simp only [zzD, zzE, zzF]
   rw [hres.out]
end Go.Proofs.YtpaanfjjnjjoeaaGreat
