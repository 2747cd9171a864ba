/- Anchorage and lap lengths, poor bond, the distance of boxes: anchor.Length, anchor.Poor, lap.Length,. -/
import Derived.Test.YtpaanfjjnjjoeaaGreatRQbf
import Derived.Test.YtpaanfjjnjjoeaaGreatRQaj
import Derived.Test.YtpaanfjjnjjoeaaGreatRQbc
import Derived.Lib.QuietBelow
import Derived.Test.YtpaanfjjnjjoeaaGreatRQbk
import Derived.Test.YtpaanfjjnjjoeaaGreatRQbe
import Derived.Test.YtpaanfjjnjjoeaaGreatRQai
import Derived.Test.YtpaanfjjnjjoeaaGreatRQas
import Derived.Test.YtpaanfjjnjjoeaaGreatRQat
namespace Go.Proofs.YtpaanfjjnjjoeaaGreat
open Go.RowKit
theorem up_mul {n d : Int} {a b : Int} (h0 : 0 ≤ n) (h1 : n ≤ a) (h2 : 0 ≤ d) (h3 : d ≤ b) (hb : 0 ≤ a) : 0 ≤ n * d ∧ n * d ≤ a * b :=
 ⟨Int.mul_nonneg h0 h2, Int.mul_le_mul h1 h3 h2 hb⟩
theorem upN_rng {n num den : Int} (h : 0 ≤ n * num) (hd : 1 ≤ den) : 0 ≤ upN n num den ∧ upN n num den ≤ n * num + den - 1 := by
 unfold upN
 refine ⟨Int.ediv_nonneg (by omega) (by omega), ?_⟩
 exact Int.ediv_le_self _ (by omega)
structure RuleR (r : RuleD) : Prop where
 n1 : 1 ≤ r.num
 n2 : r.num ≤ 1000
 d1 : 1 ≤ r.den
 d2 : r.den ≤ 1000
 pn1 : 1 ≤ r.poorNum
 pn2 : r.poorNum ≤ 1000
 pd1 : 1 ≤ r.poorDen
 pd2 : r.poorDen ≤ 1000
 bn1 : 1 ≤ r.bendNum
 bn2 : r.bendNum ≤ 1000
 bd1 : 1 ≤ r.bendDen
 bd2 : r.bendDen ≤ 1000
 ln1 : 1 ≤ r.lapNum
 ln2 : r.lapNum ≤ 1000
 ld1 : 1 ≤ r.lapDen
 ld2 : r.lapDen ≤ 1000
 l1 : 0 ≤ r.least
 l2 : r.least ≤ 1000
theorem rule_rng {r : RuleD} (h : ruleOk r = true) : RuleR r := by
 simp only [ruleOk, List.all_cons, List.all_nil, Bool.and_true, ratOk, within, Bool.and_eq_true, zzJ] at h
 constructor <;> omega
theorem basic_rng {r : RuleD} (h : RuleR r) {d : Int} (h1 : 0 ≤ d) (h2 : d ≤ 40) : (0 ≤ d * r.num ∧ d * r.num ≤ 40000) ∧ 0 ≤ basicL r d ∧ basicL r d ≤ 41000 := by
 have a := h.n1; have b := h.n2; have c := h.d1; have e := h.d2; have f := h.l1; have g := h.l2
 have m := up_mul h1 h2 (show 0 ≤ r.num by omega) b (by omega)
 have u := upN_rng (den := r.den) m.1 c
 unfold basicL
 omega
theorem anchP_rng {r : RuleD} (h : RuleR r) {d : Int} (h1 : 0 ≤ d) (h2 : d ≤ 40) (p : Bool) : (0 ≤ basicL r d * r.poorNum ∧ basicL r d * r.poorNum ≤ 41000000) ∧ 0 ≤ anchP r d p ∧ anchP r d p ≤ 41001000 := by
 have hb := (basic_rng h h1 h2).2
 have a := h.pn1; have b := h.pn2; have c := h.pd1; have e := h.pd2
 have m := up_mul hb.1 hb.2 (show 0 ≤ r.poorNum by omega) b (by omega)
 have u := upN_rng (den := r.poorDen) m.1 c
 unfold anchP
 cases p <;> simp <;> omega
theorem anchL_rng {r : RuleD} (h : RuleR r) {d : Int} (h1 : 0 ≤ d) (h2 : d ≤ 40) (p b : Bool) : (0 ≤ anchP r d p * r.bendNum ∧ anchP r d p * r.bendNum ≤ 41001000000) ∧ 0 ≤ anchL r d p b ∧ anchL r d p b ≤ 41002000000 := by
 have hb := (anchP_rng h h1 h2 p).2
 have a := h.bn1; have b' := h.bn2; have c := h.bd1; have e := h.bd2; have f := h.l1; have g := h.l2
 have m := up_mul hb.1 hb.2 (show 0 ≤ r.bendNum by omega) b' (by omega)
 have u := upN_rng (den := r.bendDen) m.1 c
 unfold anchL
 cases b <;> simp <;> omega
set_option maxHeartbeats 1000000 in
theorem up_ok (n num den : Int) (w : World) (h0 : 0 ≤ n * num) (h1 : n * num ≤ 1000000000000000) (hd : 1 ≤ den) (hd2 : den ≤ 1000) :
  Calls Tryz.prog 249 #[.int .i64 n, .int .i64 num, .int .i64 den] w fun e w' => e = .returned (.int .i64 (upN n num den)) ∧ w = w' := by
 have Hu := hide (show upN n num den = (n * num + den - 1) / den from rfl)
 generalize upN n num den = u at *
 have z1 : wrap64 (n * num) = n * num := IntWalk.wrap64_in (n * num) (by omega)
 have z4 : 0 ≤ n * num + den - 1 := by omega
 go_enter Tryz.func249, Tryz.ntmps249
 go_wp2_with fail
 go_ret
 exact ⟨ret_int Hu.out.symm, rfl⟩
set_option maxHeartbeats 2000000 in
theorem basic_ok (r : RuleD) (d : Int) (w : World) (hr : RuleR r) (h1 : 0 ≤ d) (h2 : d ≤ 40) :
  Calls Tryz.prog 248 #[rlV r, .int .i64 d] w fun e w' => e = .returned (.int .i64 (basicL r d)) ∧ Below w.heap.size w w' := by
 have hm := (basic_rng hr h1 h2).1
 have HU := hide (fun (q : Nat) (os : Array Obj) => up_ok d r.num r.den (Go.Sort.grow (redrawn (w.alloc (.cells #[.int .i64 r.num, .int .i64 r.den, .int .i64 r.poorNum, .int .i64 r.poorDen, .int .i64 r.bendNum, .int .i64 r.bendDen, .int .i64 r.lapNum, .int .i64 r.lapDen, .int .i64 r.least] 32)) q) os) hm.1 (by omega) hr.d1 hr.d2)
 have Hb := hide (show basicL r d = max r.least (upN d r.num r.den) from rfl)
 generalize upN d r.num r.den = u at *
 generalize basicL r d = bl at *
 obtain ⟨a1, a2, a3, a4, a5, a6, a7, a8, a9⟩ := r
 simp only at HU Hb
 have kr := Blk.new w 32 #[.int .i64 a1, .int .i64 a2, .int .i64 a3, .int .i64 a4, .int .i64 a5, .int .i64 a6, .int .i64 a7, .int .i64 a8, .int .i64 a9]
 have e0 := cell_regrown (kr.cell 0)
 have e1 := cell_regrown (kr.cell 1)
 have e8 := cell_regrown (kr.cell 8)
 simp at e0 e1 e8
 have HW := hide (below_new w (.cells #[.int .i64 a1, .int .i64 a2, .int .i64 a3, .int .i64 a4, .int .i64 a5, .int .i64 a6, .int .i64 a7, .int .i64 a8, .int .i64 a9] 32))
 clear hm hr h1 h2 kr
 rcases Int.lt_or_le a9 u with hc | hc
 all_goals
  go_enter Tryz.func248, Tryz.ntmps248
  go_wp2_with fail
  refine wp_region_quiet_below (by kernel_rfl) (by kernel_rfl) ?_
  repeat (go_big_quiet_step (first
   | (go_at_call 249; with_reducible exact regrown_same (HU.out _ _))))
  refine wpQuiet_nil ?_
  intro wq9 hw'
  have hbq := hide (show Below _ _ wq9 by obtain ⟨p9, rfl⟩ := hw'; exact below_regrown _ _ _)
  clear hw'
  go_wp2_with fail
  go_ret
  exact ⟨ret_int (by rw [Hb.out]; omega), below_step HW.out hbq.out (Nat.le_refl _)⟩
set_option maxHeartbeats 4000000 in
theorem length_ok (r : RuleD) (d : Int) (p b : Bool) (w : World) (hr : RuleR r) (h1 : 0 ≤ d) (h2 : d ≤ 40) :
  Calls Tryz.prog 194 #[rlV r, .int .i64 d, .bool p, .bool b] w fun e w' => e = .returned (.int .i64 (anchL r d p b)) ∧ Below w.heap.size w w' := by
 have HB := hide (fun W => basic_ok r d W hr h1 h2)
 have hm1 := (anchP_rng hr h1 h2 p).1
 have hm2 := (anchL_rng hr h1 h2 p b).1
 have HU1 := hide (fun W => up_ok (basicL r d) r.poorNum r.poorDen W hm1.1 (by omega) hr.pd1 hr.pd2)
 have HU2 := hide (fun W => up_ok (anchP r d p) r.bendNum r.bendDen W hm2.1 (by omega) hr.bd1 hr.bd2)
 have Hp := hide (show anchP r d p = if p then upN (basicL r d) r.poorNum r.poorDen else basicL r d from rfl)
 have Hl := hide (show anchL r d p b = max (if b then upN (anchP r d p) r.bendNum r.bendDen else anchP r d p) r.least from rfl)
 generalize anchL r d p b = al at *
 generalize upN (basicL r d) r.poorNum r.poorDen = u1 at *
 generalize upN (anchP r d p) r.bendNum r.bendDen = u2 at *
 generalize anchP r d p = ap at *
 generalize basicL r d = bl at *
 obtain ⟨a1, a2, a3, a4, a5, a6, a7, a8, a9⟩ := r
 simp only at HU1 HU2 Hl
 have KR := hide (Blk.new w 32 #[.int .i64 a1, .int .i64 a2, .int .i64 a3, .int .i64 a4, .int .i64 a5, .int .i64 a6, .int .i64 a7, .int .i64 a8, .int .i64 a9])
 have HW := hide (below_new w (.cells #[.int .i64 a1, .int .i64 a2, .int .i64 a3, .int .i64 a4, .int .i64 a5, .int .i64 a6, .int .i64 a7, .int .i64 a8, .int .i64 a9] 32))
 have Hq := hide (show (if b then u2 else ap) = (if b then u2 else ap) from rfl)
 obtain ⟨fin, hfin⟩ : ∃ q, q = (if b then u2 else ap) := ⟨_, rfl⟩
 rw [← hfin] at Hl
 clear hm1 hm2 hr h1 h2 Hq
 cases p
 ·have hap : ap = bl := Hp.out
  subst hap
  clear Hp HU1
  cases b
  ·obtain rfl : fin = ap := hfin
   clear HU2
   rcases Int.lt_or_le fin a9 with hc | hc
   all_goals
    go_enter Tryz.func194, Tryz.ntmps194
    go_wp2_with fail
    refine (HB.out _).mono ?_
    rintro e w1 ⟨rfl, hb⟩
    replace KR := hide (KR.out.keep hb)
    replace HW := hide (below_step HW.out hb (Nat.le_refl _))
    clear hb HB
    have c0 := KR.out.cell 0
    have c1 := KR.out.cell 1
    have c2 := KR.out.cell 2
    have c3 := KR.out.cell 3
    have c4 := KR.out.cell 4
    have c5 := KR.out.cell 5
    have c6 := KR.out.cell 6
    have c7 := KR.out.cell 7
    have c8 := KR.out.cell 8
    simp at c0 c1 c2 c3 c4 c5 c6 c7 c8
    have lr := KR.out.lt
    go_wp2_with fail
    go_ret
    exact ⟨ret_int (by rw [Hl.out]; omega), HW.out⟩
  ·obtain rfl : fin = u2 := hfin
   rcases Int.lt_or_le fin a9 with hc | hc
   all_goals
    go_enter Tryz.func194, Tryz.ntmps194
    go_wp2_with fail
    refine (HB.out _).mono ?_
    rintro e w1 ⟨rfl, hb⟩
    replace KR := hide (KR.out.keep hb)
    replace HW := hide (below_step HW.out hb (Nat.le_refl _))
    clear hb HB
    have c0 := KR.out.cell 0
    have c1 := KR.out.cell 1
    have c2 := KR.out.cell 2
    have c3 := KR.out.cell 3
    have c4 := KR.out.cell 4
    have c5 := KR.out.cell 5
    have c6 := KR.out.cell 6
    have c7 := KR.out.cell 7
    have c8 := KR.out.cell 8
    simp at c0 c1 c2 c3 c4 c5 c6 c7 c8
    have lr := KR.out.lt
    go_wp2_with fail
    refine (HU2.out _).mono ?_
    rintro e w2 ⟨rfl, rfl⟩
    go_wp2_with fail
    go_ret
    exact ⟨ret_int (by rw [Hl.out]; omega), HW.out⟩
 ·have hap : ap = u1 := Hp.out
  subst hap
  clear Hp
  cases b
  ·obtain rfl : fin = ap := hfin
   clear HU2
   rcases Int.lt_or_le fin a9 with hc | hc
   all_goals
    go_enter Tryz.func194, Tryz.ntmps194
    go_wp2_with fail
    refine (HB.out _).mono ?_
    rintro e w1 ⟨rfl, hb⟩
    replace KR := hide (KR.out.keep hb)
    replace HW := hide (below_step HW.out hb (Nat.le_refl _))
    clear hb HB
    have c0 := KR.out.cell 0
    have c1 := KR.out.cell 1
    have c2 := KR.out.cell 2
    have c3 := KR.out.cell 3
    have c4 := KR.out.cell 4
    have c5 := KR.out.cell 5
    have c6 := KR.out.cell 6
    have c7 := KR.out.cell 7
    have c8 := KR.out.cell 8
    simp at c0 c1 c2 c3 c4 c5 c6 c7 c8
    have lr := KR.out.lt
    go_wp2_with fail
    refine (HU1.out _).mono ?_
    rintro e w2 ⟨rfl, rfl⟩
    go_wp2_with fail
    go_ret
    exact ⟨ret_int (by rw [Hl.out]; omega), HW.out⟩
  ·obtain rfl : fin = u2 := hfin
   rcases Int.lt_or_le fin a9 with hc | hc
   all_goals
    go_enter Tryz.func194, Tryz.ntmps194
    go_wp2_with fail
    refine (HB.out _).mono ?_
    rintro e w1 ⟨rfl, hb⟩
    replace KR := hide (KR.out.keep hb)
    replace HW := hide (below_step HW.out hb (Nat.le_refl _))
    clear hb HB
    have c0 := KR.out.cell 0
    have c1 := KR.out.cell 1
    have c2 := KR.out.cell 2
    have c3 := KR.out.cell 3
    have c4 := KR.out.cell 4
    have c5 := KR.out.cell 5
    have c6 := KR.out.cell 6
    have c7 := KR.out.cell 7
    have c8 := KR.out.cell 8
    simp at c0 c1 c2 c3 c4 c5 c6 c7 c8
    have lr := KR.out.lt
    go_wp2_with fail
    refine (HU1.out _).mono ?_
    rintro e w2 ⟨rfl, rfl⟩
    go_wp2_with fail
    refine (HU2.out _).mono ?_
    rintro e w3 ⟨rfl, rfl⟩
    go_wp2_with fail
    go_ret
    exact ⟨ret_int (by rw [Hl.out]; omega), HW.out⟩
set_option maxHeartbeats 2000000 in
theorem given_ok (r : RuleD) (d : Int) (w : World) (hr : ruleOk r = true) (hd : isSize d = true) :
  Calls Tryz.prog 193 #[rlV r, .int .i64 d] w fun e w' => e = .returned (.int .i64 0) ∧ Below w.heap.size w w' := by
 have HV := hide (fun W => anchorValid_any r W)
 rw [hr] at HV
 have HS := hide (fun W => size_any d W)
 rw [hd] at HS
 obtain ⟨a1, a2, a3, a4, a5, a6, a7, a8, a9⟩ := r
 have HW := hide (below_new w (.cells #[.int .i64 a1, .int .i64 a2, .int .i64 a3, .int .i64 a4, .int .i64 a5, .int .i64 a6, .int .i64 a7, .int .i64 a8, .int .i64 a9] 32))
 clear hr hd
 go_enter Tryz.func193, Tryz.ntmps193
 go_wp2_with fail
 refine (HV.out _).mono ?_
 rintro e w1 ⟨rfl, hb⟩
 replace HW := hide (below_step HW.out hb (Nat.le_refl _))
 clear hb HV
 go_wp2_with fail
 refine (HS.out _).mono ?_
 rintro e w2 ⟨rfl, hb⟩
 replace HW := hide (below_step HW.out hb (Nat.le_refl _))
 clear hb HS
 go_wp2_with fail
 go_ret
 exact ⟨rfl, HW.out⟩
set_option maxHeartbeats 2000000 in
theorem anchLength_ok (r : RuleD) (d : Int) (p b : Bool) (w : World) (hr : ruleOk r = true) (hd : isSize d = true) :
  Calls Tryz.prog 124 #[rlV r, .int .i64 d, .bool p, .bool b] w fun e w' => e = .returned (.tuple #[.int .i64 (anchL r d p b), .int .i64 0]) ∧ Below w.heap.size w w' := by
 have hs := isSize_range hd
 have HG := hide (fun W => given_ok r d W hr hd)
 have HL := hide (fun W => length_ok r d p b W (rule_rng hr) (by omega) (by omega))
 generalize anchL r d p b = al at *
 obtain ⟨a1, a2, a3, a4, a5, a6, a7, a8, a9⟩ := r
 have KR := hide (Blk.new w 32 #[.int .i64 a1, .int .i64 a2, .int .i64 a3, .int .i64 a4, .int .i64 a5, .int .i64 a6, .int .i64 a7, .int .i64 a8, .int .i64 a9])
 have HW := hide (below_new w (.cells #[.int .i64 a1, .int .i64 a2, .int .i64 a3, .int .i64 a4, .int .i64 a5, .int .i64 a6, .int .i64 a7, .int .i64 a8, .int .i64 a9] 32))
 clear hr hd hs
 go_enter Tryz.func124, Tryz.ntmps124
 go_wp2_with fail
 refine (HG.out _).mono ?_
 rintro e w1 ⟨rfl, hb⟩
 replace KR := hide (KR.out.keep hb)
 replace HW := hide (below_step HW.out hb (Nat.le_refl _))
 clear hb HG
 have c0 := KR.out.cell 0
 have c1 := KR.out.cell 1
 have c2 := KR.out.cell 2
 have c3 := KR.out.cell 3
 have c4 := KR.out.cell 4
 have c5 := KR.out.cell 5
 have c6 := KR.out.cell 6
 have c7 := KR.out.cell 7
 have c8 := KR.out.cell 8
 simp at c0 c1 c2 c3 c4 c5 c6 c7 c8
 have lr := KR.out.lt
 go_wp2_with fail
 refine (HL.out _).mono ?_
 rintro e w2 ⟨rfl, hb⟩
 replace HW := hide (below_step HW.out hb (Nat.le_refl _))
 clear hb HL c0 c1 c2 c3 c4 c5 c6 c7 c8 lr KR
 go_wp2_with fail
 go_ret2
 exact ⟨rfl, HW.out⟩
set_option maxHeartbeats 1000000 in
theorem lapUp_ok (n d : Int) (w : World) (h0 : 0 ≤ n) (h1 : n ≤ 100000000000000) (hd : 1 ≤ d) (hd2 : d ≤ 1000) :
  Calls Tryz.prog 125 #[.int .i64 n, .int .i64 d] w fun e w' => e = .returned (.int .i64 ((n + d - 1) / d)) ∧ w = w' := by
 have z4 : 0 ≤ n + d - 1 := by omega
 go_enter Tryz.func125, Tryz.ntmps125
 go_wp2_with fail
 go_ret
 exact ⟨rfl, rfl⟩
set_option maxHeartbeats 2000000 in
theorem lapLength_ok (r : RuleD) (d : Int) (p : Bool) (w : World) (hr : ruleOk r = true) (hd : isSize d = true) :
  Calls Tryz.prog 58 #[rlV r, .int .i64 d, .bool p] w fun e w' => e = .returned (.tuple #[.int .i64 (lapL r d p), .int .i64 0]) ∧ Below w.heap.size w w' := by
 have hs := isSize_range hd
 have hrr := rule_rng hr
 have hal := (anchL_rng hrr (d := d) (by omega) (by omega) p false).2
 have hm := up_mul hal.1 hal.2 (show 0 ≤ r.lapNum by have := hrr.ln1; omega) hrr.ln2 (by omega)
 have HA := hide (fun W => anchLength_ok r d p false W hr hd)
 have HU := hide (fun W => lapUp_ok (anchL r d p false * r.lapNum) r.lapDen W hm.1 (by omega) hrr.ld1 hrr.ld2)
 have Hl := hide (show lapL r d p = (anchL r d p false * r.lapNum + r.lapDen - 1) / r.lapDen from rfl)
 rw [← Hl.out] at HU
 have z1 : wrap64 (anchL r d p false * r.lapNum) = anchL r d p false * r.lapNum := IntWalk.wrap64_in (anchL r d p false * r.lapNum) (by omega)
 generalize lapL r d p = ll at *
 generalize anchL r d p false = al at *
 obtain ⟨a1, a2, a3, a4, a5, a6, a7, a8, a9⟩ := r
 simp only at HU z1
 have KR := hide (Blk.new w 32 #[.int .i64 a1, .int .i64 a2, .int .i64 a3, .int .i64 a4, .int .i64 a5, .int .i64 a6, .int .i64 a7, .int .i64 a8, .int .i64 a9])
 have HW := hide (below_new w (.cells #[.int .i64 a1, .int .i64 a2, .int .i64 a3, .int .i64 a4, .int .i64 a5, .int .i64 a6, .int .i64 a7, .int .i64 a8, .int .i64 a9] 32))
 clear hr hd hs hrr hal hm Hl
 go_enter Tryz.func58, Tryz.ntmps58
 go_wp2_with fail
 refine (HA.out _).mono ?_
 rintro e w1 ⟨rfl, hb⟩
 replace KR := hide (KR.out.keep hb)
 replace HW := hide (below_step HW.out hb (Nat.le_refl _))
 clear hb HA
 have c0 := KR.out.cell 0
 have c1 := KR.out.cell 1
 have c2 := KR.out.cell 2
 have c3 := KR.out.cell 3
 have c4 := KR.out.cell 4
 have c5 := KR.out.cell 5
 have c6 := KR.out.cell 6
 have c7 := KR.out.cell 7
 have c8 := KR.out.cell 8
 simp at c0 c1 c2 c3 c4 c5 c6 c7 c8
 have lr := KR.out.lt
 go_wp2_with fail
 refine (HU.out _).mono ?_
 rintro e w2 ⟨rfl, rfl⟩
 clear HU c0 c1 c2 c3 c4 c5 c6 c7 c8 lr KR
 go_wp2_with fail
 go_ret2
 exact ⟨rfl, HW.out⟩
set_option maxHeartbeats 2000000 in
theorem poor_ok (m : MemD) (A1 A2 : Option Addr) (n1 n2 c1 c2 : Nat) (leg : BoxD) (w : World) {B : Nat} (h1 : BoxesAt w B A1 m.boxes) (h2 : BoxesAt w B A2 m.holes) (hB : B ≤ w.heap.size) (hn1 : n1 = m.boxes.length) (hn2 : n2 = m.holes.length) (hok : solidOk m.boxes m.holes = true) (hlk : boxOk leg = true) :
  Calls Tryz.prog 123 #[memV m A1 n1 c1 A2 n2 c2, bx leg] w fun e w' => e = .returned (.bool (poorB m leg)) ∧ Below w.heap.size w w' := by
 have HH := hide (fun (W : World) (hz : Below w.heap.size w W) => solidHull_ok m.boxes m.holes A1 A2 n1 n2 c1 c2 W (h1.carry (Flat.carried _) (hz.mono hB) (Nat.le_refl _)) (h2.carry (Flat.carried _) (hz.mono hB) (Nat.le_refl _)) (Nat.le_trans hB hz.size) hn1 hn2 hok)
 obtain ⟨q1, _, q3⟩ := solid_boxes hok
 have hhb := boxOk_iff.1 (hullOf_ok q1 q3)
 have hlb := boxOk_iff.1 hlk
 have Hr := hide (show poorB m leg = decide (250 < leg.lo.2.2 - (hullOf m.boxes).lo.2.2) from rfl)
 generalize poorB m leg = r at *
 generalize hullOf m.boxes = hb at *
 obtain ⟨⟨x, y, z⟩, x2, y2, z2⟩ := leg
 obtain ⟨⟨u, v, t⟩, u2, v2, t2⟩ := hb
 obtain ⟨name, boxes, holes, cover, agg, poker⟩ := m
 simp only at hhb hlb Hr
 obtain ⟨_, _, k1, k2, k3⟩ := hhb
 obtain ⟨_, _, l1, l2, l3⟩ := hlb
 have KM := hide ((Blk.new w 26 #[.string name, .slice A1 n1 c1, .slice A2 n2 c2, .int .i64 cover, .int .i64 agg, .int .i64 poker]).alloc (.cells #[.int .i64 x, .int .i64 y, .int .i64 z, .int .i64 x2, .int .i64 y2, .int .i64 z2] 62))
 have KB := hide (Blk.new1 w (.cells #[.string name, .slice A1 n1 c1, .slice A2 n2 c2, .int .i64 cover, .int .i64 agg, .int .i64 poker] 26) 62 #[.int .i64 x, .int .i64 y, .int .i64 z, .int .i64 x2, .int .i64 y2, .int .i64 z2])
 have HW := hide (below_new2 w (.cells #[.string name, .slice A1 n1 c1, .slice A2 n2 c2, .int .i64 cover, .int .i64 agg, .int .i64 poker] 26) (.cells #[.int .i64 x, .int .i64 y, .int .i64 z, .int .i64 x2, .int .i64 y2, .int .i64 z2] 62))
 clear h1 h2 hB hn1 hn2 hok hlk q1 q3
 go_enter Tryz.func123, Tryz.ntmps123
 go_wp2_with fail
 refine (HH.out _ HW.out).mono ?_
 rintro e w1 ⟨rfl, hb⟩
 replace KB := hide (KB.out.keep hb)
 replace HW := hide (below_step HW.out hb (Nat.le_refl _))
 have hs := HW.out.size
 clear hb HH KM
 have b0 := KB.out.cell 0
 have b1 := KB.out.cell 1
 have b2 := KB.out.cell 2
 have b3 := KB.out.cell 3
 have b4 := KB.out.cell 4
 have b5 := KB.out.cell 5
 simp at b0 b1 b2 b3 b4 b5
 have lb := KB.out.lt
 go_wp2_with fail
 go_ret
 exact ⟨ret_bool Hr.out.symm, HW.out.alloc hs _⟩
set_option maxHeartbeats 2000000 in
theorem anchPoor_ok (m : MemD) (A1 A2 : Option Addr) (n1 n2 c1 c2 : Nat) (leg : BoxD) (w : World) {B : Nat} (h1 : BoxesAt w B A1 m.boxes) (h2 : BoxesAt w B A2 m.holes) (hB : B ≤ w.heap.size) (hn1 : n1 = m.boxes.length) (hn2 : n2 = m.holes.length) (hnm : m.name.size ≤ maxLen) (hmem : memOk m = true) (hlk : boxOk leg = true) :
  Calls Tryz.prog 57 #[memV m A1 n1 c1 A2 n2 c2, bx leg] w fun e w' => e = .returned (.tuple #[.bool (poorB m leg), .int .i64 0]) ∧ Below w.heap.size w w' := by
 have hsol : solidOk m.boxes m.holes = true := by simp only [memOk, Bool.and_eq_true] at hmem; exact hmem.1.1.1.2
 have HM := hide (fun (W : World) (hz : Below w.heap.size w W) => member_any m A1 A2 n1 n2 c1 c2 W (h1.carry (Flat.carried _) (hz.mono hB) (Nat.le_refl _)) (h2.carry (Flat.carried _) (hz.mono hB) (Nat.le_refl _)) (Nat.le_trans hB hz.size) hn1 hn2 hnm)
 rw [hmem] at HM
 have HV := hide (fun W => boxValid_any leg W)
 rw [hlk] at HV
 have HP := hide (fun (W : World) (hz : Below w.heap.size w W) => poor_ok m A1 A2 n1 n2 c1 c2 leg W (h1.carry (Flat.carried _) (hz.mono hB) (Nat.le_refl _)) (h2.carry (Flat.carried _) (hz.mono hB) (Nat.le_refl _)) (Nat.le_trans hB hz.size) hn1 hn2 hsol hlk)
 generalize poorB m leg = r at *
 obtain ⟨⟨x, y, z⟩, x2, y2, z2⟩ := leg
 obtain ⟨name, boxes, holes, cover, agg, poker⟩ := m
 have KM := hide ((Blk.new w 26 #[.string name, .slice A1 n1 c1, .slice A2 n2 c2, .int .i64 cover, .int .i64 agg, .int .i64 poker]).alloc (.cells #[.int .i64 x, .int .i64 y, .int .i64 z, .int .i64 x2, .int .i64 y2, .int .i64 z2] 62))
 have KB := hide (Blk.new1 w (.cells #[.string name, .slice A1 n1 c1, .slice A2 n2 c2, .int .i64 cover, .int .i64 agg, .int .i64 poker] 26) 62 #[.int .i64 x, .int .i64 y, .int .i64 z, .int .i64 x2, .int .i64 y2, .int .i64 z2])
 have HW := hide (below_new2 w (.cells #[.string name, .slice A1 n1 c1, .slice A2 n2 c2, .int .i64 cover, .int .i64 agg, .int .i64 poker] 26) (.cells #[.int .i64 x, .int .i64 y, .int .i64 z, .int .i64 x2, .int .i64 y2, .int .i64 z2] 62))
 clear h1 h2 hB hn1 hn2 hnm hmem hsol hlk
 go_enter Tryz.func57, Tryz.ntmps57
 go_wp2_with fail
 refine (HM.out _ HW.out).mono ?_
 rintro e w1 ⟨rfl, hb⟩
 replace KM := hide (KM.out.keep hb)
 replace KB := hide (KB.out.keep hb)
 replace HW := hide (below_step HW.out hb (Nat.le_refl _))
 clear hb HM
 have b0 := KB.out.cell 0
 have b1 := KB.out.cell 1
 have b2 := KB.out.cell 2
 have b3 := KB.out.cell 3
 have b4 := KB.out.cell 4
 have b5 := KB.out.cell 5
 simp at b0 b1 b2 b3 b4 b5
 have lb := KB.out.lt
 go_wp2_with fail
 refine (HV.out _).mono ?_
 rintro e w2 ⟨rfl, hb⟩
 replace KM := hide (KM.out.keep hb)
 replace KB := hide (KB.out.keep hb)
 replace HW := hide (below_step HW.out hb (Nat.le_refl _))
 clear hb HV b0 b1 b2 b3 b4 b5 lb
 have b0 := KB.out.cell 0
 have b1 := KB.out.cell 1
 have b2 := KB.out.cell 2
 have b3 := KB.out.cell 3
 have b4 := KB.out.cell 4
 have b5 := KB.out.cell 5
 simp at b0 b1 b2 b3 b4 b5
 have lb := KB.out.lt
 have s0 := KM.out.cell 0
 have s1 := KM.out.cell 1
 have s2 := KM.out.cell 2
 have s3 := KM.out.cell 3
 have s4 := KM.out.cell 4
 have s5 := KM.out.cell 5
 simp at s0 s1 s2 s3 s4 s5
 have lm := KM.out.lt
 go_wp2_with fail
 refine (HP.out _ HW.out).mono ?_
 rintro e w3 ⟨rfl, hb⟩
 replace HW := hide (below_step HW.out hb (Nat.le_refl _))
 clear hb HP b0 b1 b2 b3 b4 b5 lb s0 s1 s2 s3 s4 s5 lm KM KB
 go_wp2_with fail
 go_ret2
 exact ⟨rfl, HW.out⟩
def apartOf (p : (Int × Int) × (Int × Int)) : Int := max (p.2.1 - p.1.2) (p.1.1 - p.2.2)
def nearAx (p : Int × Int) : Prop := (-1048576 ≤ p.1 ∧ p.1 ≤ 1048576) ∧ (-1048576 ≤ p.2 ∧ p.2 ≤ 1048576)
theorem axes_near {b : BoxD} (h : boxOk b = true) {k : Nat} {p : Int × Int} (hp : (axes b)[k]? = some p) : nearAx p := by
 have hb := boxOk_iff.1 h
 have hm := mem_of_get hp
 simp only [axes, List.mem_cons, List.not_mem_nil, or_false] at hm
 unfold nearAx
 rcases hm with rfl | rfl | rfl <;> simp only <;> omega
set_option maxHeartbeats 1000000 in
theorem along_ok (a b : BoxD) (k : Nat) (p q : Int × Int) (w : World) (ha : boxOk a = true) (hb : boxOk b = true) (hp : (axes a)[k]? = some p) (hq : (axes b)[k]? = some q) :
  Calls Tryz.prog 126 #[bx a, bx b, .int .i64 k] w fun e w' => e = .returned (.int .i64 (apartOf (p, q))) ∧ Below w.heap.size w w' := by
 obtain ⟨⟨p1, p2⟩, p3, p4⟩ := axes_near ha hp
 obtain ⟨⟨q1, q2⟩, q3, q4⟩ := axes_near hb hq
 have HE := hide (fun W => ends_any a k p hp W)
 have HF := hide (fun W => ends_any b k q hq W)
 have Hr := hide (show apartOf (p, q) = max (q.1 - p.2) (p.1 - q.2) from rfl)
 generalize apartOf (p, q) = r at *
 obtain ⟨lo, hi⟩ := p
 obtain ⟨ff, tt⟩ := q
 simp only at HE HF Hr p1 p2 p3 p4 q1 q2 q3 q4
 obtain ⟨⟨x, y, z⟩, x2, y2, z2⟩ := a
 obtain ⟨⟨u, v, t⟩, u2, v2, t2⟩ := b
 have KB := hide (Blk.new1 w (.cells #[.int .i64 x, .int .i64 y, .int .i64 z, .int .i64 x2, .int .i64 y2, .int .i64 z2] 62) 62 #[.int .i64 u, .int .i64 v, .int .i64 t, .int .i64 u2, .int .i64 v2, .int .i64 t2])
 have HW := hide (below_new2 w (.cells #[.int .i64 x, .int .i64 y, .int .i64 z, .int .i64 x2, .int .i64 y2, .int .i64 z2] 62) (.cells #[.int .i64 u, .int .i64 v, .int .i64 t, .int .i64 u2, .int .i64 v2, .int .i64 t2] 62))
 clear ha hb hp hq
 rcases Int.lt_or_le (ff - hi) (lo - tt) with hc | hc
 all_goals
  go_enter Tryz.func126, Tryz.ntmps126
  go_wp2_with fail
  refine (HE.out _).mono ?_
  rintro e w1 ⟨rfl, hb⟩
  replace KB := hide (KB.out.keep hb)
  replace HW := hide (below_step HW.out hb (Nat.le_refl _))
  clear hb HE
  have b0 := KB.out.cell 0
  have b1 := KB.out.cell 1
  have b2 := KB.out.cell 2
  have b3 := KB.out.cell 3
  have b4 := KB.out.cell 4
  have b5 := KB.out.cell 5
  simp at b0 b1 b2 b3 b4 b5
  have lb := KB.out.lt
  go_wp2_with fail
  refine (HF.out _).mono ?_
  rintro e w2 ⟨rfl, hb⟩
  replace HW := hide (below_step HW.out hb (Nat.le_refl _))
  clear hb HF b0 b1 b2 b3 b4 b5 lb KB
  go_wp2_with fail
  go_ret
  exact ⟨ret_int (by rw [Hr.out]; omega), HW.out⟩
def sqTerm (p : (Int × Int) × (Int × Int)) : Int := max 0 (apartOf p) * max 0 (apartOf p)
def sqSum (l : List ((Int × Int) × (Int × Int))) : Int := l.foldl (fun s p => s + sqTerm p) 0
theorem sqSum_snoc (l : List ((Int × Int) × (Int × Int))) (p) : sqSum (l ++ [p]) = sqSum l + sqTerm p := by
 rw [sqSum, sqSum, List.foldl_append]
 rfl
theorem square_sum (a b : BoxD) : squareB a b = sqSum ((axes a).zip (axes b)) := by
 simp [squareB, sqSum, axes, sqTerm, apartOf, apart1]
theorem sqTerm_rng {p q : Int × Int} (hp : nearAx p) (hq : nearAx q) : 0 ≤ sqTerm (p, q) ∧ sqTerm (p, q) ≤ 4398046511104 := by
 unfold nearAx at hp hq
 have h1 : 0 ≤ max 0 (apartOf (p, q)) := by omega
 have h2 : max 0 (apartOf (p, q)) ≤ 2097152 := by unfold apartOf; simp only; omega
 exact up_mul h1 h2 h1 h2 (by omega)
theorem sqFold_rng : ∀ (l : List ((Int × Int) × (Int × Int))) (s : Int), (∀ p ∈ l, 0 ≤ sqTerm p ∧ sqTerm p ≤ 4398046511104) → s ≤ l.foldl (fun s p => s + sqTerm p) s ∧ l.foldl (fun s p => s + sqTerm p) s ≤ s + 4398046511104 * l.length := by
 intro l
 induction l with
 | nil => intro s _; simp
 | cons p l ih =>
  intro s h
  have h2 := h p (by simp)
  have h1 := ih (s + sqTerm p) (fun q hq => h q (by simp [hq]))
  rw [List.foldl_cons, List.length_cons]
  omega
theorem sqSum_rng (l : List ((Int × Int) × (Int × Int))) (h : ∀ p ∈ l, 0 ≤ sqTerm p ∧ sqTerm p ≤ 4398046511104) : 0 ≤ sqSum l ∧ sqSum l ≤ 4398046511104 * l.length := by
 have := sqFold_rng l 0 h
 unfold sqSum
 omega
theorem square_rng {a b : BoxD} (ha : boxOk a = true) (hb : boxOk b = true) : ∀ p ∈ (axes a).zip (axes b), 0 ≤ sqTerm p ∧ sqTerm p ≤ 4398046511104 := by
 intro p hp
 obtain ⟨k, hk, rfl⟩ := List.getElem_of_mem hp
 rw [List.length_zip] at hk
 rw [List.getElem_zip]
 exact sqTerm_rng (axes_near ha (List.getElem?_eq_getElem (by omega))) (axes_near hb (List.getElem?_eq_getElem (by omega)))
set_option maxHeartbeats 4000000 in
theorem square_ok (a b : BoxD) (w : World) (ha : boxOk a = true) (hb : boxOk b = true) :
  Calls Tryz.prog 60 #[bx a, bx b] w fun e w' => e = .returned (.tuple #[.int .i64 (squareB a b), .int .i64 0]) ∧ Below w.heap.size w w' := by
 have HVa := hide (fun W => boxValid_any a W)
 rw [ha] at HVa
 have HVb := hide (fun W => boxValid_any b W)
 rw [hb] at HVb
 have HA := hide (fun (k : Nat) (p q : Int × Int) (W : World) (hp : (axes a)[k]? = some p) (hq : (axes b)[k]? = some q) => along_ok a b k p q W ha hb hp hq)
 have Hrg := hide (square_rng ha hb)
 have Hnr := hide (fun (k : Nat) (p q : Int × Int) (hp : (axes a)[k]? = some p) (hq : (axes b)[k]? = some q) => And.intro (axes_near ha hp) (axes_near hb hq))
 have Hr := hide (square_sum a b)
 have HLa := hide (show (axes a).length = 3 from rfl)
 have HLb := hide (show (axes b).length = 3 from rfl)
 generalize squareB a b = r at *
 generalize axes a = xa at *
 generalize axes b = xb at *
 obtain ⟨⟨x, y, z⟩, x2, y2, z2⟩ := a
 obtain ⟨⟨u, v, t⟩, u2, v2, t2⟩ := b
 have KA := hide ((Blk.new w 62 #[.int .i64 x, .int .i64 y, .int .i64 z, .int .i64 x2, .int .i64 y2, .int .i64 z2]).alloc (.cells #[.int .i64 u, .int .i64 v, .int .i64 t, .int .i64 u2, .int .i64 v2, .int .i64 t2] 62))
 have KB := hide (Blk.new1 w (.cells #[.int .i64 x, .int .i64 y, .int .i64 z, .int .i64 x2, .int .i64 y2, .int .i64 z2] 62) 62 #[.int .i64 u, .int .i64 v, .int .i64 t, .int .i64 u2, .int .i64 v2, .int .i64 t2])
 have HW := hide (below_new2 w (.cells #[.int .i64 x, .int .i64 y, .int .i64 z, .int .i64 x2, .int .i64 y2, .int .i64 z2] 62) (.cells #[.int .i64 u, .int .i64 v, .int .i64 t, .int .i64 u2, .int .i64 v2, .int .i64 t2] 62))
 clear ha hb
 go_enter Tryz.func60, Tryz.ntmps60
 go_wp2_with fail
 refine (HVa.out _).mono ?_
 rintro e w1 ⟨rfl, hb⟩
 replace KA := hide (KA.out.keep hb)
 replace KB := hide (KB.out.keep hb)
 replace HW := hide (below_step HW.out hb (Nat.le_refl _))
 clear hb HVa
 have b0 := KB.out.cell 0
 have b1 := KB.out.cell 1
 have b2 := KB.out.cell 2
 have b3 := KB.out.cell 3
 have b4 := KB.out.cell 4
 have b5 := KB.out.cell 5
 simp at b0 b1 b2 b3 b4 b5
 have lb := KB.out.lt
 go_wp2_with fail
 refine (HVb.out _).mono ?_
 rintro e w2 ⟨rfl, hb⟩
 replace KA := hide (KA.out.keep hb)
 replace KB := hide (KB.out.keep hb)
 replace HW := hide (below_step HW.out hb (Nat.le_refl _))
 have hga := KA.out.lt
 have hgb := KB.out.lt
 clear hb HVb b0 b1 b2 b3 b4 b5 lb
 go_wp2_with fail
 go_loopw [6, 17] (fun sv iv wr => ∃ k : Nat, k ≤ 3 ∧ iv = .int .i64 k ∧ (∃ sm : Int, sv = .int .i64 sm ∧ Hid (sm = sqSum ((xa.zip xb).take k))) ∧ Below w2.heap.size w2 wr) (fun _ iv _ => 3 - (intOf iv).toNat)
 case atStart => exact ⟨0, Nat.zero_le _, rfl, ⟨0, rfl, hide (by simp [sqSum])⟩, Below.refl _ _⟩
 case round =>
  obtain ⟨k, hk, rfl, ⟨sm, rfl, hsm⟩, hbr⟩ := hrel
  by_cases hlt : k < 3
  ·obtain ⟨p, hp⟩ : ∃ p, xa[k]? = some p := ⟨_, List.getElem?_eq_getElem (by rw [HLa.out]; exact hlt)⟩
   obtain ⟨q, hq⟩ : ∃ q, xb[k]? = some q := ⟨_, List.getElem?_eq_getElem (by rw [HLb.out]; exact hlt)⟩
   have hz : (xa.zip xb)[k]? = some (p, q) := by simp [List.getElem?_zip_eq_some, hp, hq]
   have hnr := Hnr.out k p q hp hq
   have ht := sqTerm_rng hnr.1 hnr.2
   have hs := sqSum_rng ((xa.zip xb).take k) (fun t h => Hrg.out t (List.mem_of_mem_take h))
   rw [← hsm.out] at hs
   have hs2 : ((xa.zip xb).take k).length ≤ 3 := Nat.le_trans (List.length_take_le _ _) hk
   have Hn := hide (show sqSum ((xa.zip xb).take (k + 1)) = sm + sqTerm (p, q) by rw [take_snoc' hz, sqSum_snoc, hsm.out])
   have HAk := hide (fun W => HA.out k p q W hp hq)
   have Hte := hide (show sqTerm (p, q) = max 0 (apartOf (p, q)) * max 0 (apartOf (p, q)) from rfl)
   obtain ⟨tm, htm⟩ : ∃ d, d = sqTerm (p, q) := ⟨_, rfl⟩
   rw [← htm] at ht Hn Hte
   obtain ⟨ap, hap⟩ : ∃ d, d = apartOf (p, q) := ⟨_, rfl⟩
   rw [← hap] at HAk Hte
   have KAr := hide (KA.out.below hbr hga)
   replace KB := hide (KB.out.below hbr hgb)
   have b0 := KB.out.cell 0
   have b1 := KB.out.cell 1
   have b2 := KB.out.cell 2
   have b3 := KB.out.cell 3
   have b4 := KB.out.cell 4
   have b5 := KB.out.cell 5
   simp at b0 b1 b2 b3 b4 b5
   have lb := KB.out.lt
   have a0 := KAr.out.cell 0
   have a1 := KAr.out.cell 1
   have a2 := KAr.out.cell 2
   have a3 := KAr.out.cell 3
   have a4 := KAr.out.cell 4
   have a5 := KAr.out.cell 5
   simp at a0 a1 a2 a3 a4 a5
   have la := KAr.out.lt
   have HBr := hide hbr
   have g0 : 0 ≤ sm := hs.1
   have g1 : sm ≤ 13194139533312 := by have := hs.2; omega
   have g2 : 0 ≤ tm := ht.1
   have g3 : tm ≤ 4398046511104 := ht.2
   clear hp hq hz hnr ht hs hs2 hsm htm hap hbr
   go_wp2_with fail
   refine (HAk.out _).mono ?_
   rintro e w3 ⟨rfl, hb⟩
   replace HBr := hide (below_step HBr.out hb (Nat.le_refl _))
   clear hb HAk a0 a1 a2 a3 a4 a5 la b0 b1 b2 b3 b4 b5 lb KB KAr
   rcases Int.lt_or_le 0 ap with hc | hc
   ·have he : tm = ap * ap := by rw [Hte.out, Int.max_eq_right (by omega)]
    have z1 : wrap64 (ap * ap) = ap * ap := IntWalk.wrap64_in (ap * ap) (by omega)
    have He := hide he
    rw [he] at g2 g3
    clear he
    go_wp2_with fail
    go_roundw
    case rel => exact ⟨k + 1, by omega, by go_num, ⟨_, rfl, hide (by rw [Hn.out, He.out])⟩, HBr.out⟩
    case measure => simp [intOf]; omega
   ·have he : tm = 0 := by rw [Hte.out, Int.max_eq_left (by omega)]; rfl
    have He := hide he
    clear he
    go_wp2_with fail
    go_roundw
    case rel => exact ⟨k + 1, by omega, by go_num, ⟨_, rfl, hide (by rw [Hn.out, He.out]; try omega)⟩, HBr.out⟩
    case measure => simp [intOf]; omega
  ·obtain rfl : k = 3 := by omega
   have Hf := hide (show r = sm by rw [Hr.out, hsm.out, List.take_of_length_le (by rw [List.length_zip, HLa.out, HLb.out]; decide)])
   have HB9 := hide (below_step HW.out hbr (Nat.le_refl _))
   clear hbr hsm
   go_wp2_with fail
   go_ret2
   exact ⟨by rw [Hf.out] <;> rfl, HB9.out⟩
end Go.Proofs.YtpaanfjjnjjoeaaGreat
namespace Go.Proofs.YtpaanfjjnjjoeaaGreat
open Go.RowKit Go.Maps
theorem legsBox_ok : ∀ l : List Pt, (∀ p ∈ l, nearBy 1048576 p = true) → ∀ b ∈ legsOfPts l, boxOk b = true := by
 intro l
 induction l with
 | nil => intro _ b hb; simp [legsOfPts] at hb
 | cons p l ih =>
  intro h b hb
  cases l with
  | nil => simp [legsOfPts] at hb
  | cons q l =>
   simp only [legsOfPts, List.mem_cons] at hb
   rcases hb with rfl | hb
   ·exact leg_ok (h p (by simp)) (h q (by simp))
   ·exact ih (fun r hr => h r (List.mem_cons_of_mem _ hr)) b hb
set_option maxHeartbeats 2000000 in
set_option maxRecDepth 100000 in
theorem sizes_ok (A : Option Addr) (bars : List BarD) (n c : Nat) (w : World) {B : Nat} (h : BarsAt w B A bars) (hB : B ≤ w.heap.size) (hn : n = bars.length) (hm : n ≤ 60000) (htm : ∀ y ∈ bars, y.mark.size ≤ maxLen ∧ InInt y.size) :
  Calls Tryz.prog 116 #[.slice A n c] w fun e w' => e = .returned (.map (some w.heap.size)) ∧ SMap w' w.heap.size n (sizeTo bars) ∧ Below w.heap.size w w' := by
 have H3 := hide (fun (W : World) (hz : Below w.heap.size w W) => h.carry (hz.mono hB) (Nat.le_refl B))
 have Hn := hide hn
 have Htm := hide htm
 have hMp := hide (SMap.new w)
 have hmm := @run_makeMap Tryz.prog
 clear h hB hn htm
 go_enter Tryz.func116, Tryz.ntmps116
 go_wp2_with fail
 go_loopw [9] (fun iv wr => ∃ k : Nat, k ≤ n ∧ iv = .int .i64 k ∧ Hid (SMap wr w.heap.size k (sizeTo (bars.take k))) ∧ Below w.heap.size w wr) (fun iv _ => n - (intOf iv).toNat)
 case atStart => exact ⟨0, Nat.zero_le _, rfl, hMp, below_new _ _⟩
 case round =>
  clear hMp
  rename World => wo
  obtain ⟨k, hk, rfl, hmp, hbr⟩ := hrel
  have hbs := hbr.size
  by_cases hlt : k < n
  ·obtain ⟨b, off, y, A', c', rfl, hbl, hx, hi, h0, h1, h2, h3, h4⟩ := BarsAt.get (k := k) (H3.out _ hbr) (by rw [← Hn.out]; exact hlt)
   obtain ⟨hy1, hy2⟩ := Htm.out y (mem_of_get hx)
   have Hnx := hide (show sizeTo (bars.take (k + 1)) = putS (sizeTo (bars.take k)) y.mark y.size by rw [take_snoc' hx, sizeTo_snoc])
   have Hmp := hide (hmp.out.alloc (.cells #[.string y.mark, .int .i64 y.size, .int .i64 y.count, .int .i64 y.code, .slice A' y.dims.length c'] 50))
   have HBa := hide (hbr.alloc hbr.size (.cells #[.string y.mark, .int .i64 y.size, .int .i64 y.count, .int .i64 y.code, .slice A' y.dims.length c'] 50))
   have Hhs := hide hy1
   have Hhy := hide hy2
   obtain ⟨mark, size, count, code, dims⟩ := y
   simp only at Hnx Hmp HBa Hhs Hhy h0 h1 h2 h3 h4
   generalize dims.length = dn at *
   clear hx hi hbl hmp hbr hy1 hy2
   go_wp2_with (refine wpList_store_smap rfl (.tmp 13) (.tmp 15) (.tmp 17) rfl w.heap.size k (sizeTo (bars.take k)) rfl Hmp.out (by omega) mark size rfl rfl Hhs.out Hhy.out ?_; intro w5 hm5 hg5)
   have HB5 := hide (below_grown HBa.out hg5 HBa.out.size (Nat.le_refl _))
   have Hm5 := hide (show SMap w5 w.heap.size (k + 1) (sizeTo (bars.take (k + 1))) by rw [Hnx.out]; exact hm5)
   clear hm5 hg5
   go_wp2_with fail
   go_roundw
   case rel => exact ⟨k + 1, by omega, by go_num, Hm5, HB5.out⟩
   case measure => simp [intOf]; omega
  ·obtain rfl : k = n := by omega
   have hall := hide (show sizeTo (bars.take k) = sizeTo bars by rw [Hn.out, List.take_length])
   have Hmp := hide (show SMap wo w.heap.size k (sizeTo bars) by rw [← hall.out]; exact hmp.out)
   have HWo := hide hbr
   clear hmp hbr hall
   go_wp2_with fail
   go_ret
   exact ⟨rfl, Hmp.out, HWo.out⟩
def leastTo (m : MemD) (d : Int) (legs : List BoxD) (j : Nat) : Int := leastOf m d (legs.take j)
theorem leastTo_succ {m : MemD} {d : Int} {legs : List BoxD} {j : Nat} {b : BoxD} (h : legs[j]? = some b) : leastTo m d legs (j + 1) = min (leastTo m d legs j) (coverOf m d b) := by
 rw [leastTo, leastTo, take_snoc' h, leastOf, leastOf, List.foldl_append]
 rfl
theorem leastTo_all (m : MemD) (d : Int) (legs : List BoxD) : leastTo m d legs legs.length = leastOf m d legs := by rw [leastTo, List.take_length]
set_option maxHeartbeats 4000000 in
set_option maxRecDepth 100000 in
theorem covBar_ok (HSL : SortLaw) (HCL : CompLaw) (m : MemD) (A1 A2 A3 A4 : Option Addr) (n1 n2 n3 n4 c1 c2 c3 c4 : Nat) (bars : List BarD) (runs : List RunD) (i : Nat) (ld : LaidD) (w : World) {B : Nat} (h1 : BoxesAt w B A1 m.boxes) (h2 : BoxesAt w B A2 m.holes) (h3 : BarsAt w B A3 bars) (h4 : RunsAt w B A4 runs) (hB : B ≤ w.heap.size)
  (l1 : n1 = m.boxes.length) (l2 : n2 = m.holes.length) (l3 : n3 = bars.length) (l4 : n4 = runs.length) (m3 : n3 ≤ 60000) (m4 : n4 ≤ 60000) (htame : Tame bars) (hsol : solidOk m.boxes m.holes = true) (hok : laidOk bars runs = true) (hld : (laidAll bars runs)[i]? = some ld) :
  Calls Tryz.prog 55 #[memV m A1 n1 c1 A2 n2 c2, .slice A3 n3 c3, .slice A4 n4 c4, .int .i64 (i : Int)] w fun e w' => e = .returned (.tuple #[.int .i64 (leastOf m ld.bar.size (legsOfPts ld.pts)), .string ld.bar.mark, .int .i64 0]) ∧ Below w.heap.size w w' := by
 have hi := lt_of_get hld
 have hN2 := (laidOk_len hok).2
 have HM := hide (fun (W : World) (hz : Below w.heap.size w W) => laidMark_ok A3 bars n3 c3 A4 runs n4 c4 W (h3.carry (hz.mono hB) (Nat.le_refl _)) (h4.carry (Flat.carried _) (hz.mono hB) (Nat.le_refl _)) (Nat.le_trans hB hz.size) l3 l4 m3 m4 htame hok (i : Int) ld.bar.mark (by omega) (by omega) (laidAll_mark runs i ld (laidOk_mem hok).2.2 hld))
 have HL := hide (fun (W : World) (hz : Below w.heap.size w W) => laidLegs_ok A3 A4 bars runs n3 c3 n4 c4 i ld W (h3.carry (hz.mono hB) (Nat.le_refl _)) (h4.carry (Flat.carried _) (hz.mono hB) (Nat.le_refl _)) (Nat.le_trans hB hz.size) l3 l4 m3 m4 htame hok hld)
 have hbm := laid_bar hok hld
 have hsz := bar_size hok hbm
 have HS := hide (fun (W : World) (hz : Below w.heap.size w W) => sizes_ok A3 bars n3 c3 W (h3.carry (hz.mono hB) (Nat.le_refl _)) (Nat.le_trans hB hz.size) l3 m3 (fun y hy => ⟨(htame y hy).1, isSize_int (bar_size hok hy)⟩))
 have Hlk := hide (sizeTo_at bars (sched_one (laidOk_sched hok)) ld.bar hbm)
 have Hmk := hide (htame ld.bar hbm).1
 obtain ⟨hnear, _, hl7⟩ := laid_near runs i ld (laidOk_mem hok).2.2 hld
 have HO := hide (fun (b : BoxD) (hb : b ∈ legsOfPts ld.pts) (W : World) (hz : Below w.heap.size w W) => coverOf_ok HSL HCL m A1 A2 n1 n2 c1 c2 ld.bar.size b W (h1.carry (Flat.carried _) (hz.mono hB) (Nat.le_refl _)) (h2.carry (Flat.carried _) (hz.mono hB) (Nat.le_refl _)) (Nat.le_trans hB hz.size) l1 l2 hsol hsz (legsBox_ok ld.pts hnear b hb))
 have hll : (legsOfPts ld.pts).length ≤ 6 := by rw [legsOfPts_len]; omega
 obtain ⟨mark, hmark⟩ : ∃ q, q = ld.bar.mark := ⟨_, rfl⟩
 obtain ⟨sz, hszz⟩ : ∃ q, q = ld.bar.size := ⟨_, rfl⟩
 obtain ⟨legs, hlegs⟩ : ∃ l, l = legsOfPts ld.pts := ⟨_, rfl⟩
 rw [← hmark] at HM Hlk Hmk ⊢
 rw [← hszz] at HO Hlk ⊢
 rw [← hlegs] at HL HO hll ⊢
 have Hts := hide (fun (j : Nat) (b : BoxD) (h : legs[j]? = some b) => leastTo_succ (m := m) (d := sz) h)
 have Hta := hide (leastTo_all m sz legs)
 have Ht0 := hide (show leastTo m sz legs 0 = 2097152 by rw [leastTo, List.take_zero]; rfl)
 obtain ⟨LT, hLT⟩ : ∃ LT, LT = leastTo m sz legs := ⟨_, rfl⟩
 rw [← hLT] at Hts Hta Ht0
 obtain ⟨CV, hCV⟩ : ∃ CV, CV = coverOf m sz := ⟨_, rfl⟩
 rw [← hCV] at Hts
 have HO2 := hide (fun (b : BoxD) (hb : b ∈ legs) (W : World) (hz : Below w.heap.size w W) => show Calls Tryz.prog 117 #[memV m A1 n1 c1 A2 n2 c2, .int .i64 sz, bx b] W fun e w' => e = .returned (.int .i64 (CV b)) ∧ Below W.heap.size W w' by rw [hCV]; exact HO.out b hb W hz)
 obtain ⟨lo, hlo⟩ : ∃ q, q = leastOf m sz legs := ⟨_, rfl⟩
 rw [← hlo] at Hta ⊢
 obtain ⟨name, boxes, holes, cover, agg, poker⟩ := m
 have KM := hide (Blk.new w 26 #[.string name, .slice A1 n1 c1, .slice A2 n2 c2, .int .i64 cover, .int .i64 agg, .int .i64 poker])
 have HW := hide (below_new w (.cells #[.string name, .slice A1 n1 c1, .slice A2 n2 c2, .int .i64 cover, .int .i64 agg, .int .i64 poker] 26))
 have z1 : IntKind.i64.wrap (2 * 1048576 : Int) = 2097152 := by decide
 clear h1 h2 h3 h4 hB l1 l2 l3 l4 htame hsol hok hld hi hN2 hbm hsz hnear hl7 hmark hszz hlegs HO hLT hCV hlo z1
 go_enter Tryz.func55, Tryz.ntmps55
 go_wp2_with fail
 refine (HM.out _ HW.out).mono ?_
 rintro e w1 ⟨rfl, hb⟩
 replace KM := hide (KM.out.keep hb)
 replace HW := hide (below_step HW.out hb (Nat.le_refl _))
 clear hb HM
 go_wp2_with fail
 refine (HL.out _ HW.out).mono ?_
 rintro e w2 ⟨A6, c6, rfl, hlg, hb⟩
 replace KM := hide (KM.out.keep hb)
 replace HW := hide (below_step HW.out hb (Nat.le_refl _))
 have HLg := hide hlg
 clear hb hlg HL
 go_wp2_with fail
 refine (HS.out _ HW.out).mono ?_
 rintro e w3 ⟨rfl, hms, hb⟩
 replace KM := hide (KM.out.keep hb)
 replace HW := hide (below_step HW.out hb (Nat.le_refl _))
 replace HLg := hide (HLg.out.carry (Flat.carried _) hb (Nat.le_refl _))
 have lkf : (Instr.lookup 109 (.map (some w2.heap.size)) (.string mark) false).run Tryz.prog w3 = .ok (.int .i64 sz) w3 := by rw [hms.look Hmk.out, Hlk.out]
 have hg3 := KM.out.lt
 have hs3 := hb.size
 obtain ⟨LN, hLN⟩ : ∃ q, q = legs.length := ⟨_, rfl⟩
 rw [← hLN] at Hta hll ⊢
 have HLN := hide hLN
 clear hb HS hms hLN
 go_wp2_with fail
 go_loopw [15, 44] (fun lv iv wr => ∃ j : Nat, j ≤ LN ∧ iv = .int .i64 j ∧ lv = .int .i64 (LT j) ∧ Below w3.heap.size w3 wr) (fun _ iv _ => LN - (intOf iv).toNat)
 case atStart => exact ⟨0, Nat.zero_le _, rfl, by rw [Ht0.out], Below.refl _ _⟩
 case round =>
  clear lkf
  obtain ⟨j, hj, rfl, rfl, hbr⟩ := hrel
  by_cases hlt : j < LN
  ·obtain ⟨bb, off, lb, rfl, hbl, hx, e0, e1, e2, e3, e4, e5⟩ := BoxesAt.get (k := j) HLg.out (by rw [← HLN.out]; exact hlt)
   have hbl3 : bb < w3.heap.size := Nat.lt_of_lt_of_le hbl hs3
   rw [← hbr.cell (by exact hbl3)] at e0 e1 e2 e3 e4 e5
   have hbs := hbr.size
   have hblr : bb < wr.heap.size := Nat.lt_of_lt_of_le hbl3 hbs
   have Hnx := hide (Hts.out j lb hx)
   have HOx := hide (HO2.out lb (mem_of_get hx))
   have K := hide ((KM.out.below hbr hg3).alloc (.cells #[.int .i64 lb.lo.1, .int .i64 lb.lo.2.1, .int .i64 lb.lo.2.2, .int .i64 lb.hi.1, .int .i64 lb.hi.2.1, .int .i64 lb.hi.2.2] 62))
   have HBa := hide (hbr.alloc hbs (.cells #[.int .i64 lb.lo.1, .int .i64 lb.lo.2.1, .int .i64 lb.lo.2.2, .int .i64 lb.hi.1, .int .i64 lb.hi.2.1, .int .i64 lb.hi.2.2] 62))
   have s0 := K.out.cell 0
   have s1 := K.out.cell 1
   have s2 := K.out.cell 2
   have s3 := K.out.cell 3
   have s4 := K.out.cell 4
   have s5 := K.out.cell 5
   simp at s0 s1 s2 s3 s4 s5
   have lm := K.out.lt
   obtain ⟨cv, hcv⟩ : ∃ q, q = CV lb := ⟨_, rfl⟩
   rw [← hcv] at Hnx HOx
   obtain ⟨lt0, hlt0⟩ : ∃ q, q = LT j := ⟨_, rfl⟩
   rw [← hlt0] at Hnx ⊢
   obtain ⟨⟨x1, x2, x3⟩, x4, x5, x6⟩ := lb
   simp only at e0 e1 e2 e3 e4 e5 HBa
   clear hx hbr hbl hbl3 hcv hlt0 K
   go_wp2_with fail
   refine (HOx.out _ (below_step HW.out HBa.out (Nat.le_refl _))).mono ?_
   rintro e w4 ⟨rfl, hb⟩
   have HB4 := hide (below_step HBa.out hb (Nat.le_refl _))
   clear hb HOx e0 e1 e2 e3 e4 e5 s0 s1 s2 s3 s4 s5 lm HBa
   rcases Int.lt_or_le cv lt0 with hc | hc
   ·have Hf := hide (show LT (j + 1) = cv by rw [Hnx.out]; omega)
    have dc : decide (cv < lt0) = true := by simp; omega
    have dc2 : decide (lt0 ≤ cv) = false := by simp; omega
    clear Hnx
    go_wp2_with fail
    go_roundw
    case rel => exact ⟨j + 1, by omega, by go_num, by rw [Hf.out], HB4.out⟩
    case measure => simp [intOf]; omega
   ·have Hf := hide (show LT (j + 1) = lt0 by rw [Hnx.out]; omega)
    have dc : decide (cv < lt0) = false := by simp; omega
    have dc2 : decide (lt0 ≤ cv) = true := by simp; omega
    clear Hnx
    go_wp2_with fail
    go_roundw
    case rel => exact ⟨j + 1, by omega, by go_num, by rw [Hf.out], HB4.out⟩
    case measure => simp [intOf]; omega
  ·obtain rfl : j = LN := by omega
   have HB4 := hide (below_step HW.out hbr (Nat.le_refl _))
   have Hf := hide Hta.out
   clear hbr
   go_wp2_with fail
   go_ret3
   exact ⟨by rw [Hf.out] <;> rfl, HB4.out⟩
set_option maxHeartbeats 8000000 in
set_option maxRecDepth 100000 in
theorem balance_ok (A : Option Addr) (bars : List BarD) (n c : Nat) (A2 : Option Addr) (runs : List RunD) (n2 c2 : Nat) (w : World) {B : Nat} (h : BarsAt w B A bars) (h2 : RunsAt w B A2 runs) (hB : B ≤ w.heap.size) (hn : n = bars.length) (hn2 : n2 = runs.length) (hm : n ≤ 60000) (hm2 : n2 ≤ 60000) (htame : Tame bars) (hok : laidOk bars runs = true) (hrm : ∀ r ∈ runs, r.mark.size ≤ maxLen) :
  Calls Tryz.prog 19 #[.slice A n c, .slice A2 n2 c2] w fun e w' =>
   ∃ A' c', e = .returned (.tuple #[.slice A' (balFins bars runs).length c', .int .i64 0]) ∧ FinRow w.heap.size w' A' (balFins bars runs).length c' (balFins bars runs) ∧ Below w.heap.size w w' := by
 have HV := laidValid_any A bars n c A2 runs n2 c2 w h h2 hB hn hn2 hm hm2 htame
 rw [hok] at HV
 have HV := hide HV
 obtain ⟨hbars, h60, hmem⟩ := laidOk_mem hok
 have hn60 : n2 ≤ 60 := by omega
 have hone := sched_one (laidOk_sched hok)
 have hcb : ∀ x ∈ bars, 1 ≤ x.count ∧ x.count ≤ 1000 := fun x hx => (barGood_of (hbars x hx)).count
 have hcr : ∀ r ∈ runs, 1 ≤ r.count ∧ r.count ≤ 1000 := fun r hr => runOk_count (hmem r hr)
 have Hcb := hide hcb
 have Hcr := hide hcr
 have Hrg := hide (fun (k : Nat) (m : ByteArray) => leftTo_rng (runs := runs.take k) hcb (fun r hr => hcr r (List.mem_of_mem_take hr)) (by rw [List.length_take]; omega) m)
 have Hwy := hide (fun (k : Nat) (x : BarD) (hx : bars[k]? = some x) => bal_ways (runs := runs) hone hx)
 have Hst := hide (fun (k : Nat) (x : BarD) (hx : bars[k]? = some x) => balTo_succ runs hx)
 have Hle := hide (fun k => balTo_len bars runs k)
 have Hall := hide (show balTo bars runs n = balFins bars runs by rw [hn, balTo_all])
 have Hbm := hide (fun (x : BarD) (hx : x ∈ bars) => (htame x hx).1)
 have Hrm := hide hrm
 have H3 := hide (fun (W : World) (hz : Below w.heap.size w W) => h.carry (hz.mono hB) (Nat.le_refl B))
 have H2 := hide (fun (W : World) (hz : Below w.heap.size w W) => h2.carry (Flat.carried _) (hz.mono hB) (Nat.le_refl B))
 have HB0 := hide hB
 have hnb := hide hn
 have hnr := hide hn2
 clear h h2 hB hn hn2 hm2 htame hok hbars h60 hmem hone hcb hcr hrm
 have hmm := @run_makeMap Tryz.prog
 go_enter Tryz.func19, Tryz.ntmps19
 go_wp2_with fail
 refine HV.out.mono ?_
 rintro e w1 ⟨rfl, hb1⟩
 have HW1 := hide hb1
 have hMp := hide (SMap.new w1)
 clear HV hb1
 go_wp2_with fail
 go_loopw [22] (fun iv wr => ∃ k : Nat, k ≤ n ∧ iv = .int .i64 k ∧ Hid (SMap wr w1.heap.size k (cntTo (bars.take k))) ∧ Below w1.heap.size w1 wr) (fun iv _ => n - (intOf iv).toNat)
 case atStart => exact ⟨0, Nat.zero_le _, rfl, hMp, below_new _ _⟩
 case round =>
  rename World => wo
  obtain ⟨k, hk, rfl, hmp, hbr⟩ := hrel
  by_cases hlt : k < n
  ·obtain ⟨b, off, y, A', c', rfl, hbl, hx, hi, h0, h1, h2, h3, h4⟩ := BarsAt.get (k := k) (H3.out _ (below_step HW1.out hbr (Nat.le_refl _))) (by rw [← hnb.out]; exact hlt)
   have hy1 := Hbm.out y (mem_of_get hx)
   have hy2 := Hcb.out y (mem_of_get hx)
   have Hn := hide (show cntTo (bars.take (k + 1)) = putS (cntTo (bars.take k)) y.mark y.count by rw [take_snoc' hx, cntTo_snoc])
   have Hmp := hide (hmp.out.alloc (.cells #[.string y.mark, .int .i64 y.size, .int .i64 y.count, .int .i64 y.code, .slice A' y.dims.length c'] 50))
   have HBa := hide (hbr.alloc hbr.size (.cells #[.string y.mark, .int .i64 y.size, .int .i64 y.count, .int .i64 y.code, .slice A' y.dims.length c'] 50))
   have Hhs := hide hy1
   have Hhy := hide (show InInt y.count by unfold InInt; omega)
   obtain ⟨mark, size, count, code, dims⟩ := y
   simp only at Hn Hmp HBa Hhs Hhy h0 h1 h2 h3 h4
   generalize dims.length = dn at *
   clear hx hi hbl hmp hbr hy1 hy2
   go_wp2_with (refine wpList_store_smap rfl (.tmp 26) (.tmp 28) (.tmp 30) rfl w1.heap.size k (cntTo (bars.take k)) rfl Hmp.out (by omega) mark count rfl rfl Hhs.out Hhy.out ?_; intro w5 hm5 hg5)
   have HB5 := hide (below_grown HBa.out hg5 HBa.out.size (Nat.le_refl _))
   have Hm5 := hide (show SMap w5 w1.heap.size (k + 1) (cntTo (bars.take (k + 1))) by rw [Hn.out]; exact hm5)
   clear hm5 hg5
   go_wp2_with fail
   go_roundw
   case rel => exact ⟨k + 1, by omega, by go_num, Hm5, HB5.out⟩
   case measure => simp [intOf]; omega
  obtain rfl : n = k := by omega
  have Hmp := hide (show SMap wo w1.heap.size n (leftTo bars (runs.take 0)) by rw [List.take_zero, leftTo_nil]; have := hmp.out; rw [hnb.out, List.take_length] at this; rw [hnb.out]; exact this)
  have HWo := hide hbr
  clear hmp hbr hMp
  go_wp2_with fail
  go_loopw [34] (fun iv wr => ∃ q : Nat, q ≤ n2 ∧ iv = .int .i64 q ∧ Hid (SMap wr w1.heap.size (n + q) (leftTo bars (runs.take q))) ∧ Below w1.heap.size w1 wr) (fun iv _ => n2 - (intOf iv).toNat)
  case atStart => exact ⟨0, Nat.zero_le _, rfl, Hmp, HWo.out⟩
  case round =>
   clear Hmp HWo
   rename World => w3
   obtain ⟨q, hq, rfl, hmp, hbr⟩ := hrel
   by_cases hlt : q < n2
   ·obtain ⟨b, off, r, rfl, hbl, hx, hc⟩ := RunsAt.get (k := q) (H2.out _ (below_step HW1.out hbr (Nat.le_refl _))) (by rw [← hnr.out]; exact hlt)
    have hr1 := Hrm.out r (mem_of_get hx)
    have hr2 := Hcr.out r (mem_of_get hx)
    have hlr := Hrg.out q r.mark
    have Hn := hide (show leftTo bars (runs.take (q + 1)) = putS (leftTo bars (runs.take q)) r.mark (leftTo bars (runs.take q) r.mark - r.count) by rw [take_snoc' hx, leftTo_snoc])
    have Hrs := hide hr1
    obtain ⟨mark, tx, ty, ⟨a1, a2, a3⟩, ⟨s1, s2, s3⟩, cnt⟩ := r
    have p0 := hc 0 _ rfl
    have p1 := hc 1 _ rfl
    have p2 := hc 2 _ rfl
    have p3 := hc 3 _ rfl
    have p4 := hc 4 _ rfl
    have p5 := hc 5 _ rfl
    have p6 := hc 6 _ rfl
    have p7 := hc 7 _ rfl
    have p8 := hc 8 _ rfl
    have p9 := hc 9 _ rfl
    simp only [Nat.add_zero] at p0 p1 p2 p3 p4 p5 p6 p7 p8 p9 hr1 hr2 hlr Hn Hrs
    obtain ⟨lv, hlv⟩ : ∃ d, d = leftTo bars (runs.take q) mark := ⟨_, rfl⟩
    rw [← hlv] at hlr Hn
    have Hmp := hide (hmp.out.alloc (.cells #[.string mark, .int .i64 tx, .int .i64 ty, .int .i64 a1, .int .i64 a2, .int .i64 a3, .int .i64 s1, .int .i64 s2, .int .i64 s3, .int .i64 cnt] 66))
    have HBa := hide (hbr.alloc hbr.size (.cells #[.string mark, .int .i64 tx, .int .i64 ty, .int .i64 a1, .int .i64 a2, .int .i64 a3, .int .i64 s1, .int .i64 s2, .int .i64 s3, .int .i64 cnt] 66))
    have KR := hide (Blk.new w3 66 #[.string mark, .int .i64 tx, .int .i64 ty, .int .i64 a1, .int .i64 a2, .int .i64 a3, .int .i64 s1, .int .i64 s2, .int .i64 s3, .int .i64 cnt])
    have hne : w1.heap.size ≠ w3.heap.size := by have := hmp.out.lt; omega
    have lk1 := Hmp.out.look Hrs.out
    rw [← hlv] at lk1
    have z1 : IntKind.i64.wrap (lv - cnt) = lv - cnt := IntWalk.i64_in _ (by omega)
    have hin := hide (show InInt (lv - cnt) by unfold InInt; omega)
    have hat := hide (show putS (leftTo bars (runs.take q)) mark (lv - cnt) mark = lv - cnt by rw [putS, if_pos rfl])
    clear hx hc hbl hmp hbr hr1 hlv
    have hne2 : some w3.heap.size ≠ some w1.heap.size := fun he => hne (Option.some.inj he).symm
    have HG := hide (fun (W : World) (hg : World.grownBy _ W (some w1.heap.size)) => (show W.cell? ⟨w3.heap.size, 0, none⟩ = some (.string mark) from (KR.out.grown hg hne2).cell 0))
    have HL := hide (fun (W : World) (hg : World.grownBy _ W (some w1.heap.size)) => (KR.out.grown hg hne2).lt)
    have HM := hide (fun (W : World) (hm : SMap W w1.heap.size (n + q + 1) (putS (leftTo bars (runs.take q)) mark (lv - cnt))) => (show (Instr.lookup 109 (.map (some w1.heap.size)) (.string mark) false).run Tryz.prog W = .ok (.int .i64 (lv - cnt)) W by rw [hm.look Hrs.out, hat.out]))
    clear hne2 KR
    by_cases hz : lv - cnt = 0
    ·have tz : ((lv - cnt) == 0) = true := by simp; omega
     have Hz := hide (show leftTo bars (runs.take (q + 1)) mark = 0 by rw [Hn.out, hat.out, hz])
     clear hz
     go_wp2_with (first | (refine wpList_drop_smap rfl (.tmp 50) (.tmp 52) rfl w1.heap.size (n + (q + 1)) (leftTo bars (runs.take (q + 1))) rfl Hm5.out mark rfl Hrs.out ?_; intro w6 hm6 hg6) | (refine wpList_store_smap rfl (.tmp 38) (.tmp 40) (.tmp 44) rfl w1.heap.size (n + q) (leftTo bars (runs.take q)) rfl Hmp.out (by omega) mark (lv - cnt) rfl rfl Hrs.out hin.out ?_; intro w5 hm5 hg5; have g0 := HG.out _ hg5; have lk2 := HM.out _ hm5; have hlt5 := HL.out _ hg5; have Hm5 := hide (show SMap w5 w1.heap.size (n + (q + 1)) (leftTo bars (runs.take (q + 1))) by rw [Hn.out]; exact hm5)))
     have HB5 := hide (below_grown HBa.out hg5 HBa.out.size (Nat.le_refl _))
     have HB6 := hide (below_grown HB5.out hg6 HB5.out.size (Nat.le_refl _))
     have Hm6 := hide (show SMap w6 w1.heap.size (n + (q + 1)) (leftTo bars (runs.take (q + 1))) by have := hm6; rw [leftTo_zero bars _ Hz.out] at this; exact this)
     clear hm6 hg6 lk2 g0 lk1 hm5 hg5 HG HL HM
     go_wp2_with fail
     go_roundw
     case rel => exact ⟨q + 1, by omega, by go_num, Hm6, HB6.out⟩
     case measure => simp [intOf]; omega
    ·have tz : ((lv - cnt) == 0) = false := by simp; omega
     clear hz
     go_wp2_with (refine wpList_store_smap rfl (.tmp 38) (.tmp 40) (.tmp 44) rfl w1.heap.size (n + q) (leftTo bars (runs.take q)) rfl Hmp.out (by omega) mark (lv - cnt) rfl rfl Hrs.out hin.out ?_; intro w5 hm5 hg5; have g0 := HG.out _ hg5; have lk2 := HM.out _ hm5; have hlt5 := HL.out _ hg5; have Hm5 := hide (show SMap w5 w1.heap.size (n + (q + 1)) (leftTo bars (runs.take (q + 1))) by rw [Hn.out]; exact hm5))
     have HB5 := hide (below_grown HBa.out hg5 HBa.out.size (Nat.le_refl _))
     clear hm5 hg5 lk1 HG HL HM
     go_wp2_with fail
     go_roundw
     case rel => exact ⟨q + 1, by omega, by go_num, Hm5, HB5.out⟩
     case measure => simp [intOf]; omega
   obtain rfl : q = n2 := by omega
   have Hmp := hide (show SMap w3 w1.heap.size (n + q) (leftTo bars runs) by have := hmp.out; rw [hnr.out, List.take_length] at this; rw [hnr.out]; exact this)
   have HW3 := hide (below_step HW1.out hbr (Nat.le_refl _))
   have hMl := Hmp.out.lt
   clear hmp hbr H2 HW1 Hrg Hcr
   go_wp2_with fail
   go_loopw [11, 56] (fun v iv wr => ∃ k : Nat, k ≤ n ∧ iv = .int .i64 k ∧ (∃ acc : List FinD, Row wr w3.heap.size 47 2 encFin v acc ∧ Hid (acc = balTo bars runs k)) ∧ Hid (Below w3.heap.size w3 wr)) (fun _ iv _ => n - (intOf iv).toNat)
   case atStart => exact ⟨0, Nat.zero_le _, rfl, ⟨[], Row.nil _ _ _ _ _, hide rfl⟩, hide (Below.refl _ _)⟩
   case round =>
    rename World => wr
    obtain ⟨k, hk, rfl, ⟨acc, hrow, hacc⟩, hbr⟩ := hrel
    have Hrow := hide hrow
    obtain ⟨Ao, co, rfl⟩ := hrow.val
    have hbs := hbr.out.size
    have hal := Hle.out k
    rw [← hacc.out] at hal
    clear hrow
    by_cases hlt : k < n
    ·obtain ⟨b, off, y, A', c', rfl, hbl, hx, hi, h0, h1, h2, h3, h4⟩ := BarsAt.get (k := k) (H3.out _ (below_step HW3.out hbr.out (Nat.le_refl _))) (by rw [← hnb.out]; exact hlt)
     have Hy1 := hide (Hbm.out y (mem_of_get hx))
     have Hs := hide (Hst.out k y hx)
     have hwy := Hwy.out k y hx
     obtain ⟨lv, hlv⟩ : ∃ d, d = leftTo bars runs y.mark := ⟨_, rfl⟩
     rw [← hlv] at hwy
     have lk1 := ((Hmp.out.below hbr.out hMl (Nat.le_refl _)).alloc (.cells #[.string y.mark, .int .i64 y.size, .int .i64 y.count, .int .i64 y.code, .slice A' y.dims.length c'] 50)).look Hy1.out
     rw [← hlv] at lk1
     obtain ⟨oneF, honeF⟩ : ∃ l, l = balOne runs y := ⟨_, rfl⟩
     rw [← honeF] at hwy Hs
     obtain ⟨mark, size, count, code, dims⟩ := y
     simp only at Hy1 hwy lk1 h0 h1 h2 h3 h4
     generalize dims.length = dn at *
     clear hx hi hbl hlv honeF
     rcases hwy with ⟨g0, g1, rfl⟩ | ⟨g0, g1, rfl⟩ | ⟨g0, g1, rfl⟩
     ·go_wp2_with (at_builtin; refine wpList_append1 rfl (.tmp 67) (.tmp 71) 37 rfl w3.heap.size 47 (.agg #[.int .i64 0, .string .empty]) 2 24 encFin Tryz.underlying37 (by kernel_rfl) rfl (by omega) encFin_len encFin_one _ acc ⟨1, mark⟩ rfl ((Hrow.out.alloc _).alloc _) _ rfl (Blk.new1 wr _ _ _) (by omega) (by omega) (le_alloc (le_alloc hbs _) _) ?_; intro A3 c3 w4 hrow3 hb3 _)
      have Hr3 := hide hrow3
      have Hb3 := hide (((hbr.out.alloc hbs _).alloc (le_alloc hbs _) (.cells #[.int .i64 1, .string mark] 47)).trans hb3)
      have Hx := hide (show acc ++ [⟨1, mark⟩] = balTo bars runs (k + 1) by rw [Hs.out, hacc.out])
      clear hrow3 hb3 hbr hacc lk1
      go_wp2_with fail
      go_roundw
      case rel => exact ⟨k + 1, by omega, by go_num, ⟨_, Hr3.out, Hx⟩, Hb3⟩
      case measure => simp [intOf]; omega
     ·go_wp2_with (at_builtin; refine wpList_append1 rfl (.tmp 76) (.tmp 80) 37 rfl w3.heap.size 47 (.agg #[.int .i64 0, .string .empty]) 2 24 encFin Tryz.underlying37 (by kernel_rfl) rfl (by omega) encFin_len encFin_one _ acc ⟨2, mark⟩ rfl ((Hrow.out.alloc _).alloc _) _ rfl (Blk.new1 wr _ _ _) (by omega) (by omega) (le_alloc (le_alloc hbs _) _) ?_; intro A3 c3 w4 hrow3 hb3 _)
      have Hr3 := hide hrow3
      have Hb3 := hide (((hbr.out.alloc hbs _).alloc (le_alloc hbs _) (.cells #[.int .i64 2, .string mark] 47)).trans hb3)
      have Hx := hide (show acc ++ [⟨2, mark⟩] = balTo bars runs (k + 1) by rw [Hs.out, hacc.out])
      clear hrow3 hb3 hbr hacc lk1
      go_wp2_with fail
      go_roundw
      case rel => exact ⟨k + 1, by omega, by go_num, ⟨_, Hr3.out, Hx⟩, Hb3⟩
      case measure => simp [intOf]; omega
     ·have Hx := hide (show acc = balTo bars runs (k + 1) by rw [Hs.out, hacc.out, List.append_nil])
      have Hb3 := hide (hbr.out.alloc hbs (.cells #[.string mark, .int .i64 size, .int .i64 count, .int .i64 code, .slice A' dn c'] 50))
      clear hbr hacc
      go_wp2_with fail
      go_roundw
      case rel => exact ⟨k + 1, by omega, by go_num, ⟨_, Hrow.out.alloc _, Hx⟩, Hb3⟩
      case measure => simp [intOf]; omega
    ·obtain rfl : k = n := by omega
     have HB := hide (below_step HW3.out hbr.out (Nat.le_refl _))
     have HF := hide (rowLow HW3.out.size Hrow.out)
     have Hac := hide (show acc = balFins bars runs by rw [hacc.out, Hall.out])
     clear hacc hbr Hrow hal
     go_wp2_with fail
     go_ret2
     rw [← Hac.out]
     exact ⟨Ao, co, rfl, HF.out, HB.out⟩
end Go.Proofs.YtpaanfjjnjjoeaaGreat
