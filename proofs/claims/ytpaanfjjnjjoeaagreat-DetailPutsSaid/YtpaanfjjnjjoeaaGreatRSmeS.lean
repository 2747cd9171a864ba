/- The reference's test of equality of two details: 25.Same. -/
import Derived.Test.YtpaanfjjnjjoeaaGreatRSmeT
import Derived.Test.YtpaanfjjnjjoeaaGreatRQat
namespace Go.Proofs.YtpaanfjjnjjoeaaGreat
open Go.RowKit
theorem rule_neq (a b : RuleD) (w : World) : Sem.run Tryz.prog (binOp .neq 32 (.agg #[.int .i64 a.num, .int .i64 a.den, .int .i64 a.poorNum, .int .i64 a.poorDen, .int .i64 a.bendNum, .int .i64 a.bendDen, .int .i64 a.lapNum, .int .i64 a.lapDen, .int .i64 a.least]) (.agg #[.int .i64 b.num, .int .i64 b.den, .int .i64 b.poorNum, .int .i64 b.poorDen, .int .i64 b.bendNum, .int .i64 b.bendDen, .int .i64 b.lapNum, .int .i64 b.lapDen, .int .i64 b.least])) w = .ok (.bool (!eqRule a b)) w := neq_of_eql (rule_eql a b w)
theorem eqDet_parts (x y : DetD) : eqDet x y = (((x.mem.name.toList == y.mem.name.toList) && ((x.mem.cover == y.mem.cover) && ((x.mem.aggregate == y.mem.aggregate) && ((x.mem.poker == y.mem.poker) && (sameL eqBox x.mem.boxes y.mem.boxes && sameL eqBox x.mem.holes y.mem.holes))))) && (eqRule x.rule y.rule && (sameL eqBar x.bars y.bars && (sameL eqRun x.runs y.runs && (sameL eqDem x.dems y.dems && sameL eqJoin x.laps y.laps))))) := by
 rw [Bool.eq_iff_iff]
 simp only [eqDet, eqMem, eqName, Bool.and_eq_true]
 constructor
 ·rintro ⟨h0, h7, h8, h9, h10, h11⟩; exact ⟨h0, h11, h7, h8, h10, h9⟩
 ·rintro ⟨h0, h11, h7, h8, h10, h9⟩; exact ⟨h0, h7, h8, h9, h10, h11⟩
set_option maxHeartbeats 16000000 in
set_option maxRecDepth 100000 in
theorem ref25Same_any (x y : DetD) (s t : DetS) (w : World) {B B' : Nat} (h : DetAt w B x s) (h' : DetAt w B' y t) (hB : B ≤ w.heap.size) (hB' : B' ≤ w.heap.size) (hf : DetFit x s) (hf' : DetFit y t) (hx1 : s.n1 ≤ 300000) (hx2 : s.n2 ≤ 300000) (hy1 : t.n1 ≤ 300000) (hy2 : t.n2 ≤ 300000) (hsx : ∀ d ∈ x.dems, d.steps.length ≤ 60000) (hsy : ∀ d ∈ y.dems, d.steps.length ≤ 60000) :
  Calls Tryz.prog 28 #[detV x s, detV y t] w fun e w' => e = .returned (.bool (eqDet x y)) ∧ Below w.heap.size w w' := by
 have H17 := hide (fun (W : World) (hz : Below w.heap.size w W) => ref17Same_any s.a1 s.a2 t.a1 t.a2 x.mem.boxes x.mem.holes y.mem.boxes y.mem.holes s.n1 s.n2 t.n1 t.n2 s.c1 s.c2 t.c1 t.c2 W (h.h1.carry (Flat.carried _) (hz.mono hB) (Nat.le_refl _)) (h.h2.carry (Flat.carried _) (hz.mono hB) (Nat.le_refl _)) (h'.h1.carry (Flat.carried _) (hz.mono hB') (Nat.le_refl _)) (h'.h2.carry (Flat.carried _) (hz.mono hB') (Nat.le_refl _)) (Nat.le_trans hB hz.size) (Nat.le_trans hB' hz.size) hf.l1 hf.l2 hf'.l1 hf'.l2 hx1 hx2 hy1 hy2)
 have H14 := hide (fun (W : World) (hz : Below w.heap.size w W) => ref14Same_any s.a3 t.a3 x.bars y.bars s.n3 t.n3 s.c3 t.c3 W (h.h3.carry (hz.mono hB) (Nat.le_refl _)) (h'.h3.carry (hz.mono hB') (Nat.le_refl _)) (Nat.le_trans hB hz.size) (Nat.le_trans hB' hz.size) hf.l3 hf'.l3 hf.m3 hf'.m3 hf.tame hf'.tame)
 have H16 := hide (fun (W : World) (hz : Below w.heap.size w W) => ref16Same_any s.a4 t.a4 x.runs y.runs s.n4 t.n4 s.c4 t.c4 W (h.h4.carry (Flat.carried _) (hz.mono hB) (Nat.le_refl _)) (h'.h4.carry (Flat.carried _) (hz.mono hB') (Nat.le_refl _)) hf.l4 hf'.l4 (Nat.le_trans hf.m4 (by decide)) (Nat.le_trans hf'.m4 (by decide)))
 have H23 := hide (fun (W : World) (hz : Below w.heap.size w W) => ref23Same_any s.a6 t.a6 x.dems y.dems s.n6 t.n6 s.c6 t.c6 W (SlOf.carry demR_carried h.h6 (hz.mono hB) (Nat.le_refl _)) (SlOf.carry demR_carried h'.h6 (hz.mono hB') (Nat.le_refl _)) (Nat.le_trans hB hz.size) (Nat.le_trans hB' hz.size) hf.l6 hf'.l6 hf.m6 hf'.m6 hsx hsy)
 have HJ1 := hide (fun (W : World) (hz : Below w.heap.size w W) => h.h5.carry (Flat.carried _) (hz.mono hB) (Nat.le_refl _))
 have HJ2 := hide (fun (W : World) (hz : Below w.heap.size w W) => h'.h5.carry (Flat.carried _) (hz.mono hB') (Nat.le_refl _))
 have hL5 := hide hf.l5
 have hL5' := hide hf'.l5
 have hM5 := hf.m5
 have hM5' := hf'.m5
 have hQR := fun W => rule_neq x.rule y.rule W
 have HCX := hide (fun (k : Nat) (v : Value) (h9 : ([.string x.mem.name, .slice s.a1 s.n1 s.c1, .slice s.a2 s.n2 s.c2, .int .i64 x.mem.cover, .int .i64 x.mem.aggregate, .int .i64 x.mem.poker, .slice s.a3 s.n3 s.c3, .slice s.a4 s.n4 s.c4, .slice s.a5 s.n5 s.c5, .slice s.a6 s.n6 s.c6, .int .i64 x.rule.num, .int .i64 x.rule.den, .int .i64 x.rule.poorNum, .int .i64 x.rule.poorDen, .int .i64 x.rule.bendNum, .int .i64 x.rule.bendDen, .int .i64 x.rule.lapNum, .int .i64 x.rule.lapDen, .int .i64 x.rule.least] : List Value)[k]? = some v) => show (detCells x.mem x.rule s)[k]? = some v by simpa using h9)
 have HCY := hide (fun (k : Nat) (v : Value) (h9 : ([.string y.mem.name, .slice t.a1 t.n1 t.c1, .slice t.a2 t.n2 t.c2, .int .i64 y.mem.cover, .int .i64 y.mem.aggregate, .int .i64 y.mem.poker, .slice t.a3 t.n3 t.c3, .slice t.a4 t.n4 t.c4, .slice t.a5 t.n5 t.c5, .slice t.a6 t.n6 t.c6, .int .i64 y.rule.num, .int .i64 y.rule.den, .int .i64 y.rule.poorNum, .int .i64 y.rule.poorDen, .int .i64 y.rule.bendNum, .int .i64 y.rule.bendDen, .int .i64 y.rule.lapNum, .int .i64 y.rule.lapDen, .int .i64 y.rule.least] : List Value)[k]? = some v) => show (detCells y.mem y.rule t)[k]? = some v by simpa using h9)
 have Hr := hide (eqDet_parts x y)
 obtain ⟨EQ, hEQ⟩ : ∃ EQ, EQ = eqDet x y := ⟨_, rfl⟩
 rw [← hEQ] at Hr ⊢
 show Calls Tryz.prog 28 #[.agg (detCells x.mem x.rule s), .agg (detCells y.mem y.rule t)] w _
 generalize detCells x.mem x.rule s = CX at *
 generalize detCells y.mem y.rule t = CY at *
 have KX := hide ((Blk.new w 34 CX).alloc (.cells CY 34))
 have KY := hide (Blk.new1 w (.cells CX 34) 34 CY)
 have HW := hide (below_new2 w (.cells CX 34) (.cells CY 34))
 clear h h' hf hf' hx1 hx2 hy1 hy2 hsx hsy hEQ
 obtain ⟨w2, hw2⟩ : ∃ w2, w2 = (w.alloc (.cells CX 34)).alloc (.cells CY 34) := ⟨_, rfl⟩
 rw [← hw2] at KX KY HW
 go_enter Tryz.func28, Tryz.ntmps28
 go_wp2_with fail
 rw [← hw2]
 clear hw2
 have x0 := (KX.out.cell 0).trans (HCX.out 0 _ rfl)
 have y0 := (KY.out.cell 0).trans (HCY.out 0 _ rfl)
 have x1 := (KX.out.cell 1).trans (HCX.out 1 _ rfl)
 have y1 := (KY.out.cell 1).trans (HCY.out 1 _ rfl)
 have x2 := (KX.out.cell 2).trans (HCX.out 2 _ rfl)
 have y2 := (KY.out.cell 2).trans (HCY.out 2 _ rfl)
 have x3 := (KX.out.cell 3).trans (HCX.out 3 _ rfl)
 have y3 := (KY.out.cell 3).trans (HCY.out 3 _ rfl)
 have x4 := (KX.out.cell 4).trans (HCX.out 4 _ rfl)
 have y4 := (KY.out.cell 4).trans (HCY.out 4 _ rfl)
 have x5 := (KX.out.cell 5).trans (HCX.out 5 _ rfl)
 have y5 := (KY.out.cell 5).trans (HCY.out 5 _ rfl)
 have lx := KX.out.lt
 have ly := KY.out.lt
 obtain ⟨⟨xn, xb, xh, xc, xa, xp⟩, xbars, xruns, xlaps, xdems, ⟨u1, u2, u3, u4, u5, u6, u7, u8, u9⟩⟩ := x
 obtain ⟨⟨yn, yb, yh, yc, ya, yp⟩, ybars, yruns, ylaps, ydems, ⟨v1, v2, v3, v4, v5, v6, v7, v8, v9⟩⟩ := y
 obtain ⟨a1, n1, c1, a2, n2, c2, a3, n3, c3, a4, n4, c4, a5, n5, c5, a6, n6, c6⟩ := s
 obtain ⟨p1, m1, d1, p2, m2, d2, p3, m3, d3, p4, m4, d4, p5, m5, d5, p6, m6, d6⟩ := t
 simp only at x0 x1 x2 x3 x4 x5 y0 y1 y2 y3 y4 y5 hM5 hM5' Hr H17 H14 H16 H23 HJ1 HJ2 hL5 hL5' HCX HCY hQR
 generalize w.heap.size + 1 = gy at *
 go_cut [5, 6] from 8 to 11 (fun a b W => ∃ g5 g6 : Nat, a = .pointer (some ⟨g5, 0, none⟩) ∧ b = .pointer (some ⟨g6, 0, none⟩) ∧ Hid (Blk W g5 26 #[.string xn, .slice a1 n1 c1, .slice a2 n2 c2, .int .i64 xc, .int .i64 xa, .int .i64 xp]) ∧ Hid (Blk W g6 26 #[.string yn, .slice p1 m1 d1, .slice p2 m2 d2, .int .i64 yc, .int .i64 ya, .int .i64 yp]) ∧ Hid (Below w2.heap.size w2 W))
 case first =>
  go_region
  all_goals go_wp2_with fail
  all_goals go_meet
  ·refine ⟨w2.heap.size, w2.heap.size + 1, rfl, rfl, ?_, ?_, ?_⟩
   ·exact hide (Blk.drew (Blk.alloc (Blk.new w2 _ _) _))
   ·exact hide (Blk.drew (Blk.new1 w2 _ _ _))
   ·exact hide (Below.drew (below_new2 w2 _ _))
  ·refine ⟨w2.heap.size + 1, w2.heap.size, rfl, rfl, ?_, ?_, ?_⟩
   ·exact hide (Blk.drew (Blk.new1 w2 _ _ _))
   ·exact hide (Blk.drew (Blk.alloc (Blk.new w2 _ _) _))
   ·exact hide (Below.drew (below_new2 w2 _ _))
 case rest =>
  clear x0 x1 x2 x3 x4 x5 y0 y1 y2 y3 y4 y5 lx ly
  obtain ⟨g5, g6, rfl, rfl, K5, K6, hb0⟩ := hcut
  rename World => w3
  have hb := hb0.out
  replace KX := hide (KX.out.keep hb)
  replace KY := hide (KY.out.keep hb)
  replace HW := hide (below_step HW.out hb (Nat.le_refl _))
  clear hb
  clear hb0
  have e0 := K5.out.cell 0
  have e1 := K5.out.cell 1
  have e2 := K5.out.cell 2
  have e3 := K5.out.cell 3
  have e4 := K5.out.cell 4
  have e5 := K5.out.cell 5
  have f0 := K6.out.cell 0
  have f1 := K6.out.cell 1
  have f2 := K6.out.cell 2
  have f3 := K6.out.cell 3
  have f4 := K6.out.cell 4
  have f5 := K6.out.cell 5
  simp at e0 e1 e2 e3 e4 e5 f0 f1 f2 f3 f4 f5
  cases q1 : (xn.toList == yn.toList)
  ·rw [q1] at Hr
   go_wp2_with fail
   go_ret
   exact ⟨ret_bool (by rw [Hr.out]; simp), HW.out⟩
  cases q2 : (xc == yc)
  ·rw [q1, q2] at Hr
   have r2 : (xc != yc) = true := by rw [bne, q2]; rfl
   go_wp2_with fail
   go_ret
   exact ⟨ret_bool (by rw [Hr.out]; simp), HW.out⟩
  have r2 : (xc != yc) = false := by rw [bne, q2]; rfl
  cases q3 : (xa == ya)
  ·rw [q1, q2, q3] at Hr
   have r3 : (xa != ya) = true := by rw [bne, q3]; rfl
   go_wp2_with fail
   go_ret
   exact ⟨ret_bool (by rw [Hr.out]; simp), HW.out⟩
  have r3 : (xa != ya) = false := by rw [bne, q3]; rfl
  cases q4 : (xp == yp)
  ·rw [q1, q2, q3, q4] at Hr
   have r4 : (xp != yp) = true := by rw [bne, q4]; rfl
   go_wp2_with fail
   go_ret
   exact ⟨ret_bool (by rw [Hr.out]; simp), HW.out⟩
  have r4 : (xp != yp) = false := by rw [bne, q4]; rfl
  rw [q1, q2, q3, q4] at Hr
  generalize (sameL eqBox xb yb && sameL eqBox xh yh) = q5 at *
  go_wp2_with fail
  refine (H17.out _ HW.out).mono ?_
  rintro e w4 ⟨rfl, hb⟩
  replace KX := hide (KX.out.keep hb)
  replace KY := hide (KY.out.keep hb)
  replace HW := hide (below_step HW.out hb (Nat.le_refl _))
  clear hb
  clear H17 e0 e1 e2 e3 e4 e5 f0 f1 f2 f3 f4 f5 K5 K6
  cases q5
  ·go_wp2_with fail
   go_ret
   exact ⟨ret_bool (by rw [Hr.out]; simp), HW.out⟩
  go_upto_region 4 with fail
  clear q1 q2 q3 q4 r2 r3 r4
  have x10 := (KX.out.cell 10).trans (HCX.out 10 _ rfl)
  have y10 := (KY.out.cell 10).trans (HCY.out 10 _ rfl)
  have x11 := (KX.out.cell 11).trans (HCX.out 11 _ rfl)
  have y11 := (KY.out.cell 11).trans (HCY.out 11 _ rfl)
  have x12 := (KX.out.cell 12).trans (HCX.out 12 _ rfl)
  have y12 := (KY.out.cell 12).trans (HCY.out 12 _ rfl)
  have x13 := (KX.out.cell 13).trans (HCX.out 13 _ rfl)
  have y13 := (KY.out.cell 13).trans (HCY.out 13 _ rfl)
  have x14 := (KX.out.cell 14).trans (HCX.out 14 _ rfl)
  have y14 := (KY.out.cell 14).trans (HCY.out 14 _ rfl)
  have x15 := (KX.out.cell 15).trans (HCX.out 15 _ rfl)
  have y15 := (KY.out.cell 15).trans (HCY.out 15 _ rfl)
  have x16 := (KX.out.cell 16).trans (HCX.out 16 _ rfl)
  have y16 := (KY.out.cell 16).trans (HCY.out 16 _ rfl)
  have x17 := (KX.out.cell 17).trans (HCX.out 17 _ rfl)
  have y17 := (KY.out.cell 17).trans (HCY.out 17 _ rfl)
  have x18 := (KX.out.cell 18).trans (HCX.out 18 _ rfl)
  have y18 := (KY.out.cell 18).trans (HCY.out 18 _ rfl)
  have x6 := (KX.out.cell 6).trans (HCX.out 6 _ rfl)
  have y6 := (KY.out.cell 6).trans (HCY.out 6 _ rfl)
  generalize eqRule _ _ = b1 at *
  cases b1
  ·go_wp2_with fail
   go_ret
   exact ⟨ret_bool (by rw [Hr.out]; simp), HW.out⟩
  generalize sameL eqBar xbars ybars = b2 at *
  generalize sameL eqRun xruns yruns = b3 at *
  generalize sameL eqDem xdems ydems = b4 at *
  go_wp2_with fail
  refine (H14.out _ HW.out).mono ?_
  rintro e w5 ⟨rfl, hb⟩
  replace KX := hide (KX.out.keep hb)
  replace KY := hide (KY.out.keep hb)
  replace HW := hide (below_step HW.out hb (Nat.le_refl _))
  clear hb
  clear H14 x10 x11 x12 x13 x14 x15 x16 x17 x18 y10 y11 y12 y13 y14 y15 y16 y17 y18 x6 y6 hQR
  cases b2
  ·go_wp2_with fail
   go_ret
   exact ⟨ret_bool (by rw [Hr.out]; simp), HW.out⟩
  have x7 := (KX.out.cell 7).trans (HCX.out 7 _ rfl)
  have y7 := (KY.out.cell 7).trans (HCY.out 7 _ rfl)
  go_wp2_with fail
  refine (H16.out _ HW.out).mono ?_
  rintro e w6 ⟨rfl, hb⟩
  replace KX := hide (KX.out.keep hb)
  replace KY := hide (KY.out.keep hb)
  replace HW := hide (below_step HW.out hb (Nat.le_refl _))
  clear hb
  clear H16 x7 y7
  cases b3
  ·go_wp2_with fail
   go_ret
   exact ⟨ret_bool (by rw [Hr.out]; simp), HW.out⟩
  have x9 := (KX.out.cell 9).trans (HCX.out 9 _ rfl)
  have y9 := (KY.out.cell 9).trans (HCY.out 9 _ rfl)
  go_wp2_with fail
  refine (H23.out _ HW.out).mono ?_
  rintro e w7 ⟨rfl, hb⟩
  replace KX := hide (KX.out.keep hb)
  replace KY := hide (KY.out.keep hb)
  replace HW := hide (below_step HW.out hb (Nat.le_refl _))
  clear hb
  clear H23 x9 y9
  cases b4
  ·go_wp2_with fail
   go_ret
   exact ⟨ret_bool (by rw [Hr.out]; simp), HW.out⟩
  have x8 := (KX.out.cell 8).trans (HCX.out 8 _ rfl)
  have y8 := (KY.out.cell 8).trans (HCY.out 8 _ rfl)
  by_cases q6 : n5 = m5
  rotate_left
  ·have q7 : ((n5 : Int) != (m5 : Int)) = true := by simp; omega
   have Hn := hide (same_not (eq := eqJoin) (l := xlaps) (m := ylaps) (by rw [← hL5.out, ← hL5'.out]; exact q6))
   go_wp2_with fail
   go_ret
   exact ⟨ret_bool (by rw [Hr.out, Hn.out]; rfl), HW.out⟩
  subst q6
  have hs := hide (same_len (eq := eqJoin) (l := xlaps) (m := ylaps) (by rw [← hL5.out, ← hL5'.out]))
  have hz := hide (show (xlaps.zip ylaps).length = n5 by rw [List.length_zip, ← hL5.out, ← hL5'.out]; omega)
  go_wp2_with fail
  go_loopw [7] (fun i wv => ∃ k : Nat, k ≤ n5 ∧ i = .int .i64 k ∧ NoneTo (unlike eqJoin) (xlaps.zip ylaps) k ∧ ∃ d, wv = w7.drewN d) (fun i _ => n5 - (intOf i).toNat)
  case atStart => exact ⟨0, Nat.zero_le _, rfl, NoneTo.zero _ _, 0, rfl⟩
  case round =>
   obtain ⟨k, hk, rfl, hw, d, rfl⟩ := hrel
   by_cases hlt : k < n5
   ·obtain ⟨b, off, x, hA, _, hx, z1, z2⟩ := JoinsAt.get (k := k) (HJ1.out _ HW.out) (by rw [← hL5.out]; exact hlt)
    obtain ⟨b2, off2, y, hA', _, hy, z3, z4⟩ := JoinsAt.get (k := k) (HJ2.out _ HW.out) (by rw [← hL5'.out]; exact hlt)
    (try simp only at hA hA')
    rw [hA] at x8
    rw [hA'] at y8
    have Hz := hide (zip_get hx hy)
    obtain ⟨x1, x2⟩ := x
    obtain ⟨y1, y2⟩ := y
    (try simp only at z1 z2 z3 z4)
    have Hw := hide hw
    clear hx hy hw hA hA'
    rcases @waysJoin x1 y1 x2 y2 with ⟨hq, q1, q2⟩ | ⟨hq, q1⟩ | ⟨hq, q1, q2⟩
    ·have Hq := hide hq
     clear hq
     go_wp2_with fail
     go_quiet (fail)
     go_wp2_with fail
     go_roundw
     case rel => exact ⟨k + 1, by omega, by go_num, Hw.out.succ Hz.out (by rw [unlike, Hq.out]; rfl), _, rfl⟩
     case measure => simp [intOf]; omega
    all_goals
     have Hq := hide (same_no hs.out Hz.out hq)
     clear hq
     go_wp2_with fail
     go_quiet (fail)
     go_wp2_with fail
     go_ret
     exact ⟨ret_bool (by rw [Hr.out, Hq.out]; rfl), drewN_below (drewN_below HW.out _) _⟩
   ·obtain rfl : k = n5 := by omega
    have Hq := hide (same_yes hs.out hz.out hw)
    clear hw
    go_wp2_with fail
    go_ret
    exact ⟨ret_bool (by rw [Hr.out, Hq.out]; rfl), drewN_below HW.out _⟩
end Go.Proofs.YtpaanfjjnjjoeaaGreat
