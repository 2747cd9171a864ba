/- The references' tests of equality: layers 14, 23 (schedules, demands). -/
import Derived.Test.YtpaanfjjnjjoeaaGreatRSmeR
import Derived.Deep.CutRange
namespace Go.Proofs.YtpaanfjjnjjoeaaGreat
open Go.RowKit
theorem stp_eql (a b : Int × Int) (w : World) : Sem.run Tryz.prog (binOp .eql 71 (.agg #[.int .i64 a.1, .int .i64 a.2]) (.agg #[.int .i64 b.1, .int .i64 b.2])) w = .ok (.bool (eqStp a b)) w := by
 have hS : (Tryz.prog).underlying 71 = some (.struct ((Tryz.prog).fieldsOf 71)) := by kernel_rfl
 have hp : (Tryz.prog).stoodInHeld 71 = false := by kernel_rfl
 have u3 := Tryz.underlying3
 have a3 := Tryz.isAgg3
 have z3 := Tryz.sizeOf3
 rw [run_eql_struct, show (10000 : Nat) = 9998 + 1 + 1 from rfl, run_equalIn_agg w (9998 + 1) 71 _ _ hS hp]
 clear hS hp
 simp only [Program.fieldsOf, Tryz.underlying71]
 go_simp
 simp only [eqStp]
 by_cases h1 : a.1 = b.1 <;> by_cases h2 : a.2 = b.2 <;> simp [h1, h2]
theorem stp_neq (a b : Int × Int) (w : World) : Sem.run Tryz.prog (binOp .neq 71 (.agg #[.int .i64 a.1, .int .i64 a.2]) (.agg #[.int .i64 b.1, .int .i64 b.2])) w = .ok (.bool (!eqStp a b)) w := neq_of_eql (stp_eql a b w)
set_option maxHeartbeats 8000000 in
set_option maxRecDepth 100000 in
theorem ref14Same_any (A A' : Option Addr) (l m : List BarD) (n n' c c' : Nat) (w : World) {B B' : Nat} (h : BarsAt w B A l) (h' : BarsAt w B' A' m) (hB : B ≤ w.heap.size) (hB' : B' ≤ w.heap.size) (hn : n = l.length) (hn' : n' = m.length) (hm : n ≤ 60000) (hm' : n' ≤ 60000) (ht : Tame l) (ht' : Tame m) :
  Calls Tryz.prog 74 #[.slice A n c, .slice A' n' c'] w fun e w' => e = .returned (.bool (sameL eqBar l m)) ∧ Below w.heap.size w w' := by
 by_cases hnn : n = n'
 rotate_left
 ·have Hq := hide (same_not (eq := eqBar) (l := l) (m := m) (by omega))
  have t : ((n : Int) != (n' : Int)) = true := by simp; omega
  clear h h' hn hn' ht ht'
  go_enter Tryz.func74, Tryz.ntmps74
  go_wp2_with fail
  go_ret
  exact ⟨ret_bool Hq.out.symm, Below.refl _ _⟩
 subst hnn
 have hs := hide (same_len (eq := eqBar) (l := l) (m := m) (by omega))
 have hz := hide (show (l.zip m).length = n by rw [List.length_zip]; omega)
 have Hg := hide (fun (wr : World) (hb : Below w.heap.size w wr) (k : Nat) (hk : k < n) => h.later hB hb (k := k) (by omega))
 have Hg2 := hide (fun (wr : World) (hb : Below w.heap.size w wr) (k : Nat) (hk : k < n) => h'.later hB' hb (k := k) (by omega))
 have Ht := hide ht
 have Ht2 := hide ht'
 have HBB := hide (And.intro hB hB')
 clear h h' hn hn' ht ht' hB hB'
 go_enter Tryz.func74, Tryz.ntmps74
 go_wp2_with fail
 go_loopw [5] (fun i wr => ∃ k : Nat, k ≤ n ∧ i = .int .i64 k ∧ NoneTo (unlike eqBar) (l.zip m) k ∧ Hid (Below w.heap.size w wr)) (fun i _ => n - (intOf i).toNat)
 case atStart => exact ⟨0, Nat.zero_le _, rfl, NoneTo.zero _ _, hide (Below.refl _ _)⟩
 case round =>
  obtain ⟨k, hk, rfl, hw, hb⟩ := hrel
  by_cases hlt : k < n
  ·obtain ⟨b, off, x, A1, c1, rfl, lb, hx, hi, p0, p1, p2, p3, p4⟩ := Hg.out wr hb.out k hlt
   obtain ⟨b2, off2, y, A2, c2, rfl, lb2, hy, hi2, r0, r1, r2, r3, r4⟩ := Hg2.out wr hb.out k hlt
   have Hz := hide (zip_get hx hy)
   have hd1 := (Ht.out x (mem_of_get hx)).2
   have hd2 := (Ht2.out y (mem_of_get hy)).2
   have HI1 := hide (fun (W : World) (hz : Below w.heap.size w W) => hi.carry (hz.mono HBB.out.1) (Nat.le_refl _))
   have HI2 := hide (fun (W : World) (hz : Below w.heap.size w W) => hi2.carry (hz.mono HBB.out.2) (Nat.le_refl _))
   have Hw := hide hw
   have Hr := hide (show eqBar x y = ((x.mark.toList == y.mark.toList) && ((x.size == y.size) && ((x.count == y.count) && ((x.code == y.code) && sameL eqInt x.dims y.dims)))) from rfl)
   clear hx hy hi hi2 hw
   obtain ⟨xm, xs, xc, xo, xd⟩ := x
   obtain ⟨ym, ys, yc, yo, yd⟩ := y
   simp only at p0 p1 p2 p3 p4 r0 r1 r2 r3 r4 hd1 hd2 Hr HI1 HI2
   go_upto_region 6 with fail
   go_cut [6, 7] from 14 to 80 (fun a b W => ∃ g6 g7 : Nat, a = .pointer (some ⟨g6, 0, none⟩) ∧ b = .pointer (some ⟨g7, 0, none⟩) ∧ Hid (Blk W g6 50 #[.string xm, .int .i64 xs, .int .i64 xc, .int .i64 xo, .slice A1 xd.length c1]) ∧ Hid (Blk W g7 50 #[.string ym, .int .i64 ys, .int .i64 yc, .int .i64 yo, .slice A2 yd.length c2]) ∧ Hid (Below wr.heap.size wr W))
   case first =>
    go_region
    all_goals go_wp2_with fail
    all_goals go_meet
    ·refine ⟨wr.heap.size, wr.heap.size + 1, rfl, rfl, ?_, ?_, ?_⟩
     ·exact hide (Blk.drew (Blk.alloc (Blk.new wr _ _) _))
     ·exact hide (Blk.drew (Blk.new1 wr _ _ _))
     ·exact hide (Below.drew (below_new2 wr _ _))
    ·refine ⟨wr.heap.size + 1, wr.heap.size, rfl, rfl, ?_, ?_, ?_⟩
     ·exact hide (Blk.drew (Blk.new1 wr _ _ _))
     ·exact hide (Blk.drew (Blk.alloc (Blk.new wr _ _) _))
     ·exact hide (Below.drew (below_new2 wr _ _))
   case rest =>
    clear p0 p1 p2 p3 p4 r0 r1 r2 r3 r4
    obtain ⟨g6, g7, rfl, rfl, K6, K7, hbc⟩ := hcut
    rename World => w3
    have HB3 := hide (below_step hb.out hbc.out (Nat.le_refl _))
    clear hbc
    have e0 := K6.out.cell 0
    have e1 := K6.out.cell 1
    have e2 := K6.out.cell 2
    have e3 := K6.out.cell 3
    have e4 := K6.out.cell 4
    have f0 := K7.out.cell 0
    have f1 := K7.out.cell 1
    have f2 := K7.out.cell 2
    have f3 := K7.out.cell 3
    have f4 := K7.out.cell 4
    simp at e0 e1 e2 e3 e4 f0 f1 f2 f3 f4
    cases q1 : (xm.toList == ym.toList)
    ·rw [q1] at Hr
     have Hn := hide (same_no hs.out Hz.out (by rw [Hr.out]; simp))
     go_wp2_with fail
     go_ret
     exact ⟨ret_bool Hn.out.symm, HB3.out⟩
    cases q2 : (xs == ys)
    ·rw [q1, q2] at Hr
     have r2 : (xs != ys) = true := by rw [bne, q2]; rfl
     have Hn := hide (same_no hs.out Hz.out (by rw [Hr.out]; simp))
     go_wp2_with fail
     go_ret
     exact ⟨ret_bool Hn.out.symm, HB3.out⟩
    have r2 : (xs != ys) = false := by rw [bne, q2]; rfl
    cases q3 : (xc == yc)
    ·rw [q1, q2, q3] at Hr
     have r3 : (xc != yc) = true := by rw [bne, q3]; rfl
     have Hn := hide (same_no hs.out Hz.out (by rw [Hr.out]; simp))
     go_wp2_with fail
     go_ret
     exact ⟨ret_bool Hn.out.symm, HB3.out⟩
    have r3 : (xc != yc) = false := by rw [bne, q3]; rfl
    cases q4 : (xo == yo)
    ·rw [q1, q2, q3, q4] at Hr
     have r4 : (xo != yo) = true := by rw [bne, q4]; rfl
     have Hn := hide (same_no hs.out Hz.out (by rw [Hr.out]; simp))
     go_wp2_with fail
     go_ret
     exact ⟨ret_bool Hn.out.symm, HB3.out⟩
    have r4 : (xo != yo) = false := by rw [bne, q4]; rfl
    rw [q1, q2, q3, q4] at Hr
    by_cases q5 : xd.length = yd.length
    rotate_left
    ·have q6 : ((xd.length : Int) == (yd.length : Int)) = false := by simp; omega
     have q7 : ((xd.length : Int) != (yd.length : Int)) = true := by rw [bne, q6]; rfl
     have Hn := hide (same_no hs.out Hz.out (by rw [Hr.out, same_not q5]; rfl))
     go_wp2_with fail
     go_ret
     exact ⟨ret_bool Hn.out.symm, HB3.out⟩
    have hsD := hide (same_len (eq := eqInt) (l := xd) (m := yd) q5)
    have hzD := hide (show (xd.zip yd).length = xd.length by rw [List.length_zip]; omega)
    have hl5 := hide q5
    rw [← q5] at f4
    obtain ⟨dn, hdn⟩ : ∃ dn, dn = xd.length := ⟨_, rfl⟩
    rw [← hdn] at e4 f4 hd1 hzD
    have Hdn := hide hdn
    clear q5 hdn hd2
    go_wp2_with fail
    go_loopw [8] (fun i wv => ∃ t : Nat, t ≤ dn ∧ i = .int .i64 t ∧ NoneTo (unlike eqInt) (xd.zip yd) t ∧ ∃ d, wv = w3.drewN d) (fun i _ => dn - (intOf i).toNat)
    case atStart => exact ⟨0, Nat.zero_le _, rfl, NoneTo.zero _ _, 0, rfl⟩
    case round =>
     obtain ⟨t, htk, rfl, hwt, d, rfl⟩ := hrel
     by_cases hl2 : t < dn
     ·obtain ⟨b3, o3, u, hA3, _, hu, c3⟩ := Ints.get (k := t) (HI1.out _ HB3.out) (by rw [← Hdn.out]; exact hl2)
      obtain ⟨b4, o4, v, hA4, _, hv, c4⟩ := Ints.get (k := t) (HI2.out _ HB3.out) (by rw [← hl5.out, ← Hdn.out]; exact hl2)
      rw [hA3] at e4
      rw [hA4] at f4
      have Hz2 := hide (zip_get hu hv)
      have Hwt := hide hwt
      clear hu hv hwt hA3 hA4
      cases q6 : (u == v)
      ·have Hn := hide (same_no hs.out Hz.out (show eqBar _ _ = false by rw [Hr.out, same_no hsD.out Hz2.out q6]; rfl))
       go_wp2_with fail
       go_quiet (fail)
       go_wp2_with fail
       go_ret
       exact ⟨ret_bool Hn.out.symm, drewN_below (drewN_below HB3.out _) _⟩
      ·have Hq6 := hide (show eqInt u v = true from q6)
       go_wp2_with fail
       go_quiet (fail)
       go_wp2_with fail
       go_roundw
       case rel => exact ⟨t + 1, by omega, by go_num, Hwt.out.succ Hz2.out (by rw [unlike, Hq6.out]; rfl), _, rfl⟩
       case measure => simp [intOf]; omega
     ·obtain rfl : t = dn := by omega
      have Hn := hide (show eqBar _ _ = true by rw [Hr.out, same_yes hsD.out hzD.out hwt]; rfl)
      clear hwt
      go_wp2_with fail
      go_roundw
      case rel => exact ⟨k + 1, by omega, by go_num, Hw.out.succ Hz.out (by rw [unlike, Hn.out]; rfl), hide (drewN_below HB3.out _)⟩
      case measure => simp [intOf]; omega
  ·obtain rfl : k = n := by omega
   have Hq := hide (same_yes hs.out hz.out hw)
   clear hw
   go_wp2_with fail
   go_ret
   exact ⟨ret_bool Hq.out.symm, hb.out⟩
set_option maxHeartbeats 8000000 in
set_option maxRecDepth 100000 in
theorem ref23Same_any (A A' : Option Addr) (l m : List DemD) (n n' c c' : Nat) (w : World) {B B' : Nat} (h : DemsAt w B A l) (h' : DemsAt w B' A' m) (hB : B ≤ w.heap.size) (hB' : B' ≤ w.heap.size) (hn : n = l.length) (hn' : n' = m.length) (hm : n ≤ 60000) (hm' : n' ≤ 60000) (ht : ∀ d ∈ l, d.steps.length ≤ 60000) (ht' : ∀ d ∈ m, d.steps.length ≤ 60000) :
  Calls Tryz.prog 76 #[.slice A n c, .slice A' n' c'] w fun e w' => e = .returned (.bool (sameL eqDem l m)) ∧ Below w.heap.size w w' := by
 by_cases hnn : n = n'
 rotate_left
 ·have Hq := hide (same_not (eq := eqDem) (l := l) (m := m) (by omega))
  have t : ((n : Int) != (n' : Int)) = true := by simp; omega
  clear h h' hn hn' ht ht'
  go_enter Tryz.func76, Tryz.ntmps76
  go_wp2_with fail
  go_ret
  exact ⟨ret_bool Hq.out.symm, Below.refl _ _⟩
 subst hnn
 have hs := hide (same_len (eq := eqDem) (l := l) (m := m) (by omega))
 have hz := hide (show (l.zip m).length = n by rw [List.length_zip]; omega)
 have Hg := hide (fun (k : Nat) (hk : k < n) => h.later hB (Below.refl _ _) (k := k) (by omega))
 have Hg2 := hide (fun (k : Nat) (hk : k < n) => h'.later hB' (Below.refl _ _) (k := k) (by omega))
 have Ht := hide ht
 have Ht2 := hide ht'
 have HWn := hide (fun d : Nat => drewN_below (Below.refl w.heap.size w) d)
 clear h h' hn hn' ht ht' hB hB'
 go_enter Tryz.func76, Tryz.ntmps76
 go_wp2_with fail
 go_loopw [5] (fun i wr => ∃ k : Nat, k ≤ n ∧ i = .int .i64 k ∧ NoneTo (unlike eqDem) (l.zip m) k ∧ ∃ d, wr = w.drewN d) (fun i _ => n - (intOf i).toNat)
 case atStart => exact ⟨0, Nat.zero_le _, rfl, NoneTo.zero _ _, 0, rfl⟩
 case round =>
  obtain ⟨k, hk, rfl, hw, d, rfl⟩ := hrel
  by_cases hlt : k < n
  ·obtain ⟨b, off, x, A1, c1, rfl, lb, hx, hi, p0, p1, p2, p3, p4, p5, p6, p7⟩ := Hg.out k hlt
   obtain ⟨b2, off2, y, A2, c2, rfl, lb2, hy, hi2, r0, r1, r2, r3, r4, r5, r6, r7⟩ := Hg2.out k hlt
   have Hz := hide (zip_get hx hy)
   have hd1 := Ht.out x (mem_of_get hx)
   have hd2 := Ht2.out y (mem_of_get hy)
   have HI1 := hide hi
   have HI2 := hide hi2
   have Hw := hide hw
   have Hr := hide (show eqDem x y = ((x.name.toList == y.name.toList) && (eqBox x.zone y.zone && sameL eqStp x.steps y.steps)) from rfl)
   have hq := fun W => box_neq x.zone y.zone W
   obtain ⟨q, hqq⟩ : ∃ q, eqBox x.zone y.zone = q := ⟨_, rfl⟩
   rw [hqq] at hq Hr
   clear hx hy hi hi2 hw hqq
   obtain ⟨xm, ⟨⟨x1, x2, x3⟩, x4, x5, x6⟩, xd⟩ := x
   obtain ⟨ym, ⟨⟨y1, y2, y3⟩, y4, y5, y6⟩, yd⟩ := y
   simp only at p0 p1 p2 p3 p4 p5 p6 p7 r0 r1 r2 r3 r4 r5 r6 r7 hd1 hd2 Hr HI1 HI2 hq
   cases q1 : (xm.toList == ym.toList)
   ·rw [q1] at Hr
    have Hn := hide (same_no hs.out Hz.out (by rw [Hr.out]; simp))
    clear hq
    go_wp2_with fail
    go_quiet (fail)
    go_wp2_with fail
    go_ret
    exact ⟨ret_bool Hn.out.symm, drewN_below (HWn.out _) _⟩
   cases q
   ·rw [q1] at Hr
    have Hn := hide (same_no hs.out Hz.out (by rw [Hr.out]; simp))
    go_wp2_with fail
    go_quiet (fail)
    go_wp2_with fail
    go_ret
    exact ⟨ret_bool Hn.out.symm, drewN_below (HWn.out _) _⟩
   rw [q1] at Hr
   by_cases q5 : xd.length = yd.length
   rotate_left
   ·have q6 : ((xd.length : Int) == (yd.length : Int)) = false := by simp; omega
    have Hn := hide (same_no hs.out Hz.out (by rw [Hr.out, same_not q5]; rfl))
    go_wp2_with fail
    go_quiet (fail)
    go_wp2_with fail
    go_ret
    exact ⟨ret_bool Hn.out.symm, drewN_below (HWn.out _) _⟩
   have hsD := hide (same_len (eq := eqStp) (l := xd) (m := yd) q5)
   have hzD := hide (show (xd.zip yd).length = xd.length by rw [List.length_zip]; omega)
   have hl5 := hide q5
   rw [← q5] at r7
   obtain ⟨dn, hdn⟩ : ∃ dn, dn = xd.length := ⟨_, rfl⟩
   rw [← hdn] at p7 r7 hd1 hzD
   have Hdn := hide hdn
   clear q5 hdn hd2
   go_wp2_with fail
   go_quiet (fail)
   go_wp2_with fail
   go_loopw [6] (fun i wv => ∃ t : Nat, t ≤ dn ∧ i = .int .i64 t ∧ NoneTo (unlike eqStp) (xd.zip yd) t ∧ ∃ d, wv = w.drewN d) (fun i _ => dn - (intOf i).toNat)
   case atStart => exact ⟨0, Nat.zero_le _, rfl, NoneTo.zero _ _, _, World.drewN_drewN ..⟩
   case round =>
    clear p0 p1 p2 p3 p4 p5 p6 r0 r1 r2 r3 r4 r5 r6 hq
    obtain ⟨t, htk, rfl, hwt, d, rfl⟩ := hrel
    by_cases hl2 : t < dn
    ·obtain ⟨b3, o3, u, hA3, _, hu, c3, c4⟩ := StpsAt.get (k := t) HI1.out (by rw [← Hdn.out]; exact hl2)
     obtain ⟨b4, o4, v, hA4, _, hv, d3, d4⟩ := StpsAt.get (k := t) HI2.out (by rw [← hl5.out, ← Hdn.out]; exact hl2)
     rw [hA3] at p7
     rw [hA4] at r7
     have Hz2 := hide (zip_get hu hv)
     have Hwt := hide hwt
     have hq := fun W => stp_neq u v W
     obtain ⟨q6, hq6⟩ : ∃ q6, eqStp u v = q6 := ⟨_, rfl⟩
     rw [hq6] at hq
     clear hu hv hwt hA3 hA4
     cases q6
     ·have Hn := hide (same_no hs.out Hz.out (show eqDem _ _ = false by rw [Hr.out, same_no hsD.out Hz2.out hq6]; rfl))
      clear hq6
      go_wp2_with fail
      go_quiet (fail)
      go_wp2_with fail
      go_ret
      exact ⟨ret_bool Hn.out.symm, drewN_below (HWn.out _) _⟩
     ·have Hq6 := hide hq6
      clear hq6
      go_wp2_with fail
      go_quiet (fail)
      go_wp2_with fail
      go_roundw
      case rel => exact ⟨t + 1, by omega, by go_num, Hwt.out.succ Hz2.out (by rw [unlike, Hq6.out]; rfl), _, rfl⟩
      case measure => simp [intOf]; omega
    ·obtain rfl : t = dn := by omega
     have Hn := hide (show eqDem _ _ = true by rw [Hr.out, same_yes hsD.out hzD.out hwt]; rfl)
     clear hwt
     go_wp2_with fail
     go_roundw
     case rel => exact ⟨k + 1, by omega, by go_num, Hw.out.succ Hz.out (by rw [unlike, Hn.out]; rfl), _, rfl⟩
     case measure => simp [intOf]; omega
  ·obtain rfl : k = n := by omega
   have Hq := hide (same_yes hs.out hz.out hw)
   clear hw
   go_wp2_with fail
   go_ret
   exact ⟨ret_bool Hq.out.symm, HWn.out _⟩
end Go.Proofs.YtpaanfjjnjjoeaaGreat
