/- Anchorage and lap lengths, poor bond, the distance of boxes: anchor.Length, anchor.Poor, lap.Length,. -/
import Derived.Test.YtpaanfjjnjjoeaaGreatSas
import Derived.Test.YtpaanfjjnjjoeaaGreatSat
set_option maxHeartbeats 8000000
set_option maxRecDepth 100000
namespace Go.Proofs.YtpaanfjjnjjoeaaGreat
open Go.RowKit
theorem zg6 {n d : Int} {a b : Int} (h0 : 0 ≤ n) (h1 : n ≤ a) (h2 : 0 ≤ d) (h3 : d ≤ b) (hb : 0 ≤ a) : 0 ≤ n * d ∧ n * d ≤ a * b :=
 ⟨Int.mul_nonneg h0 h2, Int.mul_le_mul h1 h3 h2 hb⟩
theorem zlB {n num den : Int} (h : 0 ≤ n * num) (hd : 1 ≤ den) : 0 ≤ upN n num den ∧ upN n num den ≤ n * num + den - 1 := by
 unfold upN;refine ⟨Int.ediv_nonneg (by omega) (by omega), ?_⟩;exact Int.ediv_le_self _ (by omega)
structure RuleR (r : RuleD) : Prop where
 n1 : 1 ≤ r.num
 n2 : r.num ≤ 1000
 d1 : 1 ≤ r.den
 d2 : r.den ≤ 1000
 pn1 : 1 ≤ r.poorNum
 pn2 : r.poorNum ≤ 1000
 pd1 : 1 ≤ r.poorDen
 pd2 : r.poorDen ≤ 1000
 bn1 : 1 ≤ r.bendNum
 bn2 : r.bendNum ≤ 1000
 bd1 : 1 ≤ r.bendDen
 bd2 : r.bendDen ≤ 1000
 ln1 : 1 ≤ r.lapNum
 ln2 : r.lapNum ≤ 1000
 ld1 : 1 ≤ r.lapDen
 ld2 : r.lapDen ≤ 1000
 l1 : 0 ≤ r.least
 l2 : r.least ≤ 1000
theorem zhz {r : RuleD} (h : zbH r = true) : RuleR r := by
 simp only [zbH, List.all_cons, List.all_nil, Bool.and_true, zcM, within, zm, zzJ] at h
 constructor <;> omega
theorem zlj {r : RuleD} (h : RuleR r) {d : Int} (h1 : 0 ≤ d) (h2 : d ≤ 40) : (0 ≤ d * r.num ∧ d * r.num ≤ 40000) ∧ 0 ≤ zdx r d ∧ zdx r d ≤ 41000 := by
 have a := h.n1; have b := h.n2; have c := h.d1; have e := h.d2; have f := h.l1; have g := h.l2;have m := zg6 h1 h2 (show 0 ≤ r.num by omega) b (by omega);have u := zlB (den := r.den) m.1 c;unfold zdx;omega
theorem zlm {r : RuleD} (h : RuleR r) {d : Int} (h1 : 0 ≤ d) (h2 : d ≤ 40) (p : Bool) : (0 ≤ zdx r d * r.poorNum ∧ zdx r d * r.poorNum ≤ 41000000) ∧ 0 ≤ zfF r d p ∧ zfF r d p ≤ 41001000 := by
 have hb := (zlj h h1 h2).2;have a := h.pn1; have b := h.pn2; have c := h.pd1; have e := h.pd2;have m := zg6 hb.1 hb.2 (show 0 ≤ r.poorNum by omega) b (by omega);have u := zlB (den := r.poorDen) m.1 c;unfold zfF;cases p <;> simp <;> omega
theorem zgX {r : RuleD} (h : RuleR r) {d : Int} (h1 : 0 ≤ d) (h2 : d ≤ 40) (p b : Bool) : (0 ≤ zfF r d p * r.bendNum ∧ zfF r d p * r.bendNum ≤ 41001000000) ∧ 0 ≤ zdC r d p b ∧ zdC r d p b ≤ 41002000000 := by
 have hb := (zlm h h1 h2 p).2;have a := h.bn1; have b' := h.bn2; have c := h.bd1; have e := h.bd2; have f := h.l1; have g := h.l2;have m := zg6 hb.1 hb.2 (show 0 ≤ r.bendNum by omega) b' (by omega);have u := zlB (den := r.bendDen) m.1 c;unfold zdC;cases b <;> simp <;> omega
theorem zrB (n num den : Int) (w : World) (h0 : 0 ≤ n * num) (h1 : n * num ≤ 1000000000000000) (hd : 1 ≤ den) (hd2 : den ≤ 1000) :
  Calls Tryz.prog 249 #[.int .i64 n, .int .i64 num, .int .i64 den] w fun e w' => e = .returned (.int .i64 (upN n num den)) ∧ w = w' := by
 have Hu := zf (show upN n num den = (n * num + den - 1) / den from rfl);generalize upN n num den = u at *;have z1 : wrap64 (n * num) = n * num := zas (n * num) (by omega);have z4 : 0 ≤ n * num + den - 1 := by omega
 go_enter Tryz.func249, Tryz.ntmps249;go_wp2;go_ret;exact ⟨zam Hu.out.symm, rfl⟩
theorem zsQ (r : RuleD) (d : Int) (w : World) (hr : RuleR r) (h1 : 0 ≤ d) (h2 : d ≤ 40) :
  Calls Tryz.prog 248 #[rlV r, .int .i64 d] w fun e w' => e = .returned (.int .i64 (zdx r d)) ∧ Below w.heap.size w w' := by
 have hm := (zlj hr h1 h2).1;have HU := zf (fun (q : Nat) (os : Array Obj) => zrB d r.num r.den (Go.Sort.grow (redrawn (w.alloc (.cells #[.int .i64 r.num, .int .i64 r.den, .int .i64 r.poorNum, .int .i64 r.poorDen, .int .i64 r.bendNum, .int .i64 r.bendDen, .int .i64 r.lapNum, .int .i64 r.lapDen, .int .i64 r.least] 32)) q) os) hm.1 (by omega) hr.d1 hr.d2);have Hb := zf (show zdx r d = max r.least (upN d r.num r.den) from rfl);generalize upN d r.num r.den = u at *;generalize zdx r d = bl at *;obtain ⟨a1, a2, a3, a4, a5, a6, a7, a8, a9⟩ := r;simp only at HU Hb;have kr := Blk.new w 32 #[.int .i64 a1, .int .i64 a2, .int .i64 a3, .int .i64 a4, .int .i64 a5, .int .i64 a6, .int .i64 a7, .int .i64 a8, .int .i64 a9];have e0 := cell_regrown (kr.cell 0);have e1 := cell_regrown (kr.cell 1);have e8 := cell_regrown (kr.cell 8);simp at e0 e1 e8;have HW := zf (zk w (.cells #[.int .i64 a1, .int .i64 a2, .int .i64 a3, .int .i64 a4, .int .i64 a5, .int .i64 a6, .int .i64 a7, .int .i64 a8, .int .i64 a9] 32));clear hm hr h1 h2 kr;rcases Int.lt_or_le a9 u with hc | hc
 all_goals
  go_enter Tryz.func248, Tryz.ntmps248;go_wp2_with fail;refine wp_region_quiet_below (by kernel_rfl) (by kernel_rfl) ?_
  repeat (go_big_quiet_step (first
   | (go_at_call 249; with_reducible exact zW (HU.out _ _))))
  refine wpQuiet_nil ?_;intro wq9 hw';have hbq := zf (show Below _ _ wq9 by obtain ⟨p9, rfl⟩ := hw'; exact below_regrown _ _ _);clear hw';go_wp2;go_ret;exact ⟨zam (by rw [Hb.out]; omega), zg HW.out hbq.out (ze _)⟩
theorem zij (r : RuleD) (d : Int) (p b : Bool) (w : World) (hr : RuleR r) (h1 : 0 ≤ d) (h2 : d ≤ 40) :
  Calls Tryz.prog 194 #[rlV r, .int .i64 d, .bool p, .bool b] w fun e w' => e = .returned (.int .i64 (zdC r d p b)) ∧ Below w.heap.size w w' := by
 have HB := zf (fun W => zsQ r d W hr h1 h2);have hm1 := (zlm hr h1 h2 p).1;have hm2 := (zgX hr h1 h2 p b).1;have HU1 := zf (fun W => zrB (zdx r d) r.poorNum r.poorDen W hm1.1 (by omega) hr.pd1 hr.pd2);have HU2 := zf (fun W => zrB (zfF r d p) r.bendNum r.bendDen W hm2.1 (by omega) hr.bd1 hr.bd2);have Hp := zf (show zfF r d p = if p then upN (zdx r d) r.poorNum r.poorDen else zdx r d from rfl);have Hl := zf (show zdC r d p b = max (if b then upN (zfF r d p) r.bendNum r.bendDen else zfF r d p) r.least from rfl);generalize zdC r d p b = al at *;generalize upN (zdx r d) r.poorNum r.poorDen = u1 at *;generalize upN (zfF r d p) r.bendNum r.bendDen = u2 at *;generalize zfF r d p = ap at *;generalize zdx r d = bl at *;obtain ⟨a1, a2, a3, a4, a5, a6, a7, a8, a9⟩ := r;simp only at HU1 HU2 Hl;have KR := zf (Blk.new w 32 #[.int .i64 a1, .int .i64 a2, .int .i64 a3, .int .i64 a4, .int .i64 a5, .int .i64 a6, .int .i64 a7, .int .i64 a8, .int .i64 a9]);have HW := zf (zk w (.cells #[.int .i64 a1, .int .i64 a2, .int .i64 a3, .int .i64 a4, .int .i64 a5, .int .i64 a6, .int .i64 a7, .int .i64 a8, .int .i64 a9] 32));have Hq := zf (show (if b then u2 else ap) = (if b then u2 else ap) from rfl);obtain ⟨fin, hfin⟩ : ∃ q, q = (if b then u2 else ap) := ⟨_, rfl⟩;rw [← hfin] at Hl;clear hm1 hm2 hr h1 h2 Hq;cases p
 ·have hap : ap = bl := Hp.out;subst hap;clear Hp HU1;cases b
  ·obtain rfl : fin = ap := hfin;clear HU2;rcases Int.lt_or_le fin a9 with hc | hc
   all_goals
    go_enter Tryz.func194, Tryz.ntmps194;go_wp2_with fail;refine (HB.out _).mono ?_;rintro e w1 ⟨rfl, hb⟩;replace KR := zf (KR.out.keep hb);replace HW := zf (zg HW.out hb (ze _));clear hb HB;have c0 := KR.out.cell 0;have c1 := KR.out.cell 1;have c2 := KR.out.cell 2;have c3 := KR.out.cell 3;have c4 := KR.out.cell 4;have c5 := KR.out.cell 5;have c6 := KR.out.cell 6;have c7 := KR.out.cell 7;have c8 := KR.out.cell 8;simp at c0 c1 c2 c3 c4 c5 c6 c7 c8;have lr := KR.out.lt;go_wp2;go_ret;exact ⟨zam (by rw [Hl.out]; omega), HW.out⟩
  ·obtain rfl : fin = u2 := hfin;rcases Int.lt_or_le fin a9 with hc | hc
   all_goals
    go_enter Tryz.func194, Tryz.ntmps194;go_wp2_with fail;refine (HB.out _).mono ?_;rintro e w1 ⟨rfl, hb⟩;replace KR := zf (KR.out.keep hb);replace HW := zf (zg HW.out hb (ze _));clear hb HB;have c0 := KR.out.cell 0;have c1 := KR.out.cell 1;have c2 := KR.out.cell 2;have c3 := KR.out.cell 3;have c4 := KR.out.cell 4;have c5 := KR.out.cell 5;have c6 := KR.out.cell 6;have c7 := KR.out.cell 7;have c8 := KR.out.cell 8;simp at c0 c1 c2 c3 c4 c5 c6 c7 c8;have lr := KR.out.lt;go_wp2_with fail;refine (HU2.out _).mono ?_;rintro e w2 ⟨rfl, rfl⟩;go_wp2;go_ret;exact ⟨zam (by rw [Hl.out]; omega), HW.out⟩
 ·have hap : ap = u1 := Hp.out;subst hap;clear Hp;cases b
  ·obtain rfl : fin = ap := hfin;clear HU2;rcases Int.lt_or_le fin a9 with hc | hc
   all_goals
    go_enter Tryz.func194, Tryz.ntmps194;go_wp2_with fail;refine (HB.out _).mono ?_;rintro e w1 ⟨rfl, hb⟩;replace KR := zf (KR.out.keep hb);replace HW := zf (zg HW.out hb (ze _));clear hb HB;have c0 := KR.out.cell 0;have c1 := KR.out.cell 1;have c2 := KR.out.cell 2;have c3 := KR.out.cell 3;have c4 := KR.out.cell 4;have c5 := KR.out.cell 5;have c6 := KR.out.cell 6;have c7 := KR.out.cell 7;have c8 := KR.out.cell 8;simp at c0 c1 c2 c3 c4 c5 c6 c7 c8;have lr := KR.out.lt;go_wp2_with fail;refine (HU1.out _).mono ?_;rintro e w2 ⟨rfl, rfl⟩;go_wp2;go_ret;exact ⟨zam (by rw [Hl.out]; omega), HW.out⟩
  ·obtain rfl : fin = u2 := hfin;rcases Int.lt_or_le fin a9 with hc | hc
   all_goals
    go_enter Tryz.func194, Tryz.ntmps194;go_wp2_with fail;refine (HB.out _).mono ?_;rintro e w1 ⟨rfl, hb⟩;replace KR := zf (KR.out.keep hb);replace HW := zf (zg HW.out hb (ze _));clear hb HB;have c0 := KR.out.cell 0;have c1 := KR.out.cell 1;have c2 := KR.out.cell 2;have c3 := KR.out.cell 3;have c4 := KR.out.cell 4;have c5 := KR.out.cell 5;have c6 := KR.out.cell 6;have c7 := KR.out.cell 7;have c8 := KR.out.cell 8;simp at c0 c1 c2 c3 c4 c5 c6 c7 c8;have lr := KR.out.lt;go_wp2_with fail;refine (HU1.out _).mono ?_;rintro e w2 ⟨rfl, rfl⟩;go_wp2_with fail;refine (HU2.out _).mono ?_;rintro e w3 ⟨rfl, rfl⟩;go_wp2;go_ret;exact ⟨zam (by rw [Hl.out]; omega), HW.out⟩
theorem zsA (r : RuleD) (d : Int) (w : World) (hr : zbH r = true) (hd : za1 d = true) :
  Calls Tryz.prog 193 #[rlV r, .int .i64 d] w fun e w' => e = .returned (.int .i64 0) ∧ Below w.heap.size w w' := by
 have HV := zf (fun W => zey r W);rw [hr] at HV;have HS := zf (fun W => zhx d W);rw [hd] at HS;obtain ⟨a1, a2, a3, a4, a5, a6, a7, a8, a9⟩ := r;have HW := zf (zk w (.cells #[.int .i64 a1, .int .i64 a2, .int .i64 a3, .int .i64 a4, .int .i64 a5, .int .i64 a6, .int .i64 a7, .int .i64 a8, .int .i64 a9] 32));clear hr hd;go_enter Tryz.func193, Tryz.ntmps193;go_wp2_with fail;refine (HV.out _).mono ?_;rintro e w1 ⟨rfl, hb⟩;replace HW := zf (zg HW.out hb (ze _));clear hb HV;go_wp2_with fail;refine (HS.out _).mono ?_;rintro e w2 ⟨rfl, hb⟩;replace HW := zf (zg HW.out hb (ze _));clear hb HS;go_wp2;go_ret;exact ⟨rfl, HW.out⟩
theorem zkF (r : RuleD) (d : Int) (p b : Bool) (w : World) (hr : zbH r = true) (hd : za1 d = true) :
  Calls Tryz.prog 124 #[rlV r, .int .i64 d, .bool p, .bool b] w fun e w' => e = .returned (.tuple #[.int .i64 (zdC r d p b), .int .i64 0]) ∧ Below w.heap.size w w' := by
 have hs := zbN hd;have HG := zf (fun W => zsA r d W hr hd);have HL := zf (fun W => zij r d p b W (zhz hr) (by omega) (by omega));generalize zdC r d p b = al at *;obtain ⟨a1, a2, a3, a4, a5, a6, a7, a8, a9⟩ := r;have KR := zf (Blk.new w 32 #[.int .i64 a1, .int .i64 a2, .int .i64 a3, .int .i64 a4, .int .i64 a5, .int .i64 a6, .int .i64 a7, .int .i64 a8, .int .i64 a9]);have HW := zf (zk w (.cells #[.int .i64 a1, .int .i64 a2, .int .i64 a3, .int .i64 a4, .int .i64 a5, .int .i64 a6, .int .i64 a7, .int .i64 a8, .int .i64 a9] 32));clear hr hd hs;go_enter Tryz.func124, Tryz.ntmps124;go_wp2_with fail;refine (HG.out _).mono ?_;rintro e w1 ⟨rfl, hb⟩;replace KR := zf (KR.out.keep hb);replace HW := zf (zg HW.out hb (ze _));clear hb HG;have c0 := KR.out.cell 0;have c1 := KR.out.cell 1;have c2 := KR.out.cell 2;have c3 := KR.out.cell 3;have c4 := KR.out.cell 4;have c5 := KR.out.cell 5;have c6 := KR.out.cell 6;have c7 := KR.out.cell 7;have c8 := KR.out.cell 8;simp at c0 c1 c2 c3 c4 c5 c6 c7 c8;have lr := KR.out.lt;go_wp2_with fail;refine (HL.out _).mono ?_;rintro e w2 ⟨rfl, hb⟩;replace HW := zf (zg HW.out hb (ze _));clear hb HL c0 c1 c2 c3 c4 c5 c6 c7 c8 lr KR;go_wp2;go_ret2;exact ⟨rfl, HW.out⟩
theorem zsu (n d : Int) (w : World) (h0 : 0 ≤ n) (h1 : n ≤ 100000000000000) (hd : 1 ≤ d) (hd2 : d ≤ 1000) :
  Calls Tryz.prog 125 #[.int .i64 n, .int .i64 d] w fun e w' => e = .returned (.int .i64 ((n + d - 1) / d)) ∧ w = w' := by
 have z4 : 0 ≤ n + d - 1 := by omega
 go_enter Tryz.func125, Tryz.ntmps125;go_wp2;go_ret;exact ⟨rfl, rfl⟩
theorem zmc (r : RuleD) (d : Int) (p : Bool) (w : World) (hr : zbH r = true) (hd : za1 d = true) :
  Calls Tryz.prog 58 #[rlV r, .int .i64 d, .bool p] w fun e w' => e = .returned (.tuple #[.int .i64 (zp0 r d p), .int .i64 0]) ∧ Below w.heap.size w w' := by
 have hs := zbN hd;have hrr := zhz hr;have hal := (zgX hrr (d := d) (by omega) (by omega) p false).2;have hm := zg6 hal.1 hal.2 (show 0 ≤ r.lapNum by have := hrr.ln1; omega) hrr.ln2 (by omega);have HA := zf (fun W => zkF r d p false W hr hd);have HU := zf (fun W => zsu (zdC r d p false * r.lapNum) r.lapDen W hm.1 (by omega) hrr.ld1 hrr.ld2);have Hl := zf (show zp0 r d p = (zdC r d p false * r.lapNum + r.lapDen - 1) / r.lapDen from rfl);rw [← Hl.out] at HU;have z1 : wrap64 (zdC r d p false * r.lapNum) = zdC r d p false * r.lapNum := zas (zdC r d p false * r.lapNum) (by omega);generalize zp0 r d p = ll at *;generalize zdC r d p false = al at *;obtain ⟨a1, a2, a3, a4, a5, a6, a7, a8, a9⟩ := r;simp only at HU z1;have KR := zf (Blk.new w 32 #[.int .i64 a1, .int .i64 a2, .int .i64 a3, .int .i64 a4, .int .i64 a5, .int .i64 a6, .int .i64 a7, .int .i64 a8, .int .i64 a9]);have HW := zf (zk w (.cells #[.int .i64 a1, .int .i64 a2, .int .i64 a3, .int .i64 a4, .int .i64 a5, .int .i64 a6, .int .i64 a7, .int .i64 a8, .int .i64 a9] 32));clear hr hd hs hrr hal hm Hl;go_enter Tryz.func58, Tryz.ntmps58;go_wp2_with fail;refine (HA.out _).mono ?_;rintro e w1 ⟨rfl, hb⟩;replace KR := zf (KR.out.keep hb);replace HW := zf (zg HW.out hb (ze _));clear hb HA;have c0 := KR.out.cell 0;have c1 := KR.out.cell 1;have c2 := KR.out.cell 2;have c3 := KR.out.cell 3;have c4 := KR.out.cell 4;have c5 := KR.out.cell 5;have c6 := KR.out.cell 6;have c7 := KR.out.cell 7;have c8 := KR.out.cell 8;simp at c0 c1 c2 c3 c4 c5 c6 c7 c8;have lr := KR.out.lt;go_wp2_with fail;refine (HU.out _).mono ?_;rintro e w2 ⟨rfl, rfl⟩;clear HU c0 c1 c2 c3 c4 c5 c6 c7 c8 lr KR;go_wp2;go_ret2;exact ⟨rfl, HW.out⟩
theorem zpN (m : MemD) (A1 A2 : Option Addr) (n1 n2 c1 c2 : Nat) (leg : BoxD) (w : World) {B : Nat} (h1 : BoxesAt w B A1 m.boxes) (h2 : BoxesAt w B A2 m.holes) (hB : B ≤ w.heap.size) (hn1 : n1 = m.boxes.length) (hn2 : n2 = m.holes.length) (hok : zaZ m.boxes m.holes = true) (hlk : zad leg = true) :
  Calls Tryz.prog 123 #[zgY m A1 n1 c1 A2 n2 c2, bx leg] w fun e w' => e = .returned (.bool (zeA m leg)) ∧ Below w.heap.size w w' := by
 have HH := zf (fun (W : World) (hz : Below w.heap.size w W) => zlP m.boxes m.holes A1 A2 n1 n2 c1 c2 W (h1.carry (Flat.carried _) (hz.mono hB) (ze _)) (h2.carry (Flat.carried _) (hz.mono hB) (ze _)) (zh hB hz.size) hn1 hn2 hok);obtain ⟨q1, _, q3⟩ := zgE hok;have hhb := zbo.1 (zqT q1 q3);have hlb := zbo.1 hlk;have Hr := zf (show zeA m leg = decide (250 < leg.lo.2.2 - (zex m.boxes).lo.2.2) from rfl);generalize zeA m leg = r at *;generalize zex m.boxes = hb at *;obtain ⟨⟨x, y, z⟩, x2, y2, z2⟩ := leg;obtain ⟨⟨u, v, t⟩, u2, v2, t2⟩ := hb;obtain ⟨name, boxes, holes, cover, agg, poker⟩ := m;simp only at hhb hlb Hr;obtain ⟨_, _, k1, k2, k3⟩ := hhb;obtain ⟨_, _, l1, l2, l3⟩ := hlb;have KM := zf ((Blk.new w 26 #[.string name, .slice A1 n1 c1, .slice A2 n2 c2, .int .i64 cover, .int .i64 agg, .int .i64 poker]).alloc (.cells #[.int .i64 x, .int .i64 y, .int .i64 z, .int .i64 x2, .int .i64 y2, .int .i64 z2] 62));have KB := zf (Blk.new1 w (.cells #[.string name, .slice A1 n1 c1, .slice A2 n2 c2, .int .i64 cover, .int .i64 agg, .int .i64 poker] 26) 62 #[.int .i64 x, .int .i64 y, .int .i64 z, .int .i64 x2, .int .i64 y2, .int .i64 z2]);have HW := zf (zH w (.cells #[.string name, .slice A1 n1 c1, .slice A2 n2 c2, .int .i64 cover, .int .i64 agg, .int .i64 poker] 26) (.cells #[.int .i64 x, .int .i64 y, .int .i64 z, .int .i64 x2, .int .i64 y2, .int .i64 z2] 62));clear h1 h2 hB hn1 hn2 hok hlk q1 q3;go_enter Tryz.func123, Tryz.ntmps123;go_wp2_with fail;refine (HH.out _ HW.out).mono ?_;rintro e w1 ⟨rfl, hb⟩;replace KB := zf (KB.out.keep hb);replace HW := zf (zg HW.out hb (ze _));have hs := HW.out.size;clear hb HH KM;have b0 := KB.out.cell 0;have b1 := KB.out.cell 1;have b2 := KB.out.cell 2;have b3 := KB.out.cell 3;have b4 := KB.out.cell 4;have b5 := KB.out.cell 5;simp at b0 b1 b2 b3 b4 b5;have lb := KB.out.lt;go_wp2;go_ret;exact ⟨zo Hr.out.symm, HW.out.alloc hs _⟩
theorem zn6 (m : MemD) (A1 A2 : Option Addr) (n1 n2 c1 c2 : Nat) (leg : BoxD) (w : World) {B : Nat} (h1 : BoxesAt w B A1 m.boxes) (h2 : BoxesAt w B A2 m.holes) (hB : B ≤ w.heap.size) (hn1 : n1 = m.boxes.length) (hn2 : n2 = m.holes.length) (hnm : m.name.size ≤ maxLen) (hmem : zdj m = true) (hlk : zad leg = true) :
  Calls Tryz.prog 57 #[zgY m A1 n1 c1 A2 n2 c2, bx leg] w fun e w' => e = .returned (.tuple #[.bool (zeA m leg), .int .i64 0]) ∧ Below w.heap.size w w' := by
 have hsol : zaZ m.boxes m.holes = true := by simp only [zdj, zm] at hmem; exact hmem.1.1.1.2
 have HM := zf (fun (W : World) (hz : Below w.heap.size w W) => zfZ m A1 A2 n1 n2 c1 c2 W (h1.carry (Flat.carried _) (hz.mono hB) (ze _)) (h2.carry (Flat.carried _) (hz.mono hB) (ze _)) (zh hB hz.size) hn1 hn2 hnm);rw [hmem] at HM;have HV := zf (fun W => za0 leg W);rw [hlk] at HV;have HP := zf (fun (W : World) (hz : Below w.heap.size w W) => zpN m A1 A2 n1 n2 c1 c2 leg W (h1.carry (Flat.carried _) (hz.mono hB) (ze _)) (h2.carry (Flat.carried _) (hz.mono hB) (ze _)) (zh hB hz.size) hn1 hn2 hsol hlk);generalize zeA m leg = r at *;obtain ⟨⟨x, y, z⟩, x2, y2, z2⟩ := leg;obtain ⟨name, boxes, holes, cover, agg, poker⟩ := m;have KM := zf ((Blk.new w 26 #[.string name, .slice A1 n1 c1, .slice A2 n2 c2, .int .i64 cover, .int .i64 agg, .int .i64 poker]).alloc (.cells #[.int .i64 x, .int .i64 y, .int .i64 z, .int .i64 x2, .int .i64 y2, .int .i64 z2] 62));have KB := zf (Blk.new1 w (.cells #[.string name, .slice A1 n1 c1, .slice A2 n2 c2, .int .i64 cover, .int .i64 agg, .int .i64 poker] 26) 62 #[.int .i64 x, .int .i64 y, .int .i64 z, .int .i64 x2, .int .i64 y2, .int .i64 z2]);have HW := zf (zH w (.cells #[.string name, .slice A1 n1 c1, .slice A2 n2 c2, .int .i64 cover, .int .i64 agg, .int .i64 poker] 26) (.cells #[.int .i64 x, .int .i64 y, .int .i64 z, .int .i64 x2, .int .i64 y2, .int .i64 z2] 62));clear h1 h2 hB hn1 hn2 hnm hmem hsol hlk;go_enter Tryz.func57, Tryz.ntmps57;go_wp2_with fail;refine (HM.out _ HW.out).mono ?_;rintro e w1 ⟨rfl, hb⟩;replace KM := zf (KM.out.keep hb);replace KB := zf (KB.out.keep hb);replace HW := zf (zg HW.out hb (ze _));clear hb HM;have b0 := KB.out.cell 0;have b1 := KB.out.cell 1;have b2 := KB.out.cell 2;have b3 := KB.out.cell 3;have b4 := KB.out.cell 4;have b5 := KB.out.cell 5;simp at b0 b1 b2 b3 b4 b5;have lb := KB.out.lt;go_wp2_with fail;refine (HV.out _).mono ?_;rintro e w2 ⟨rfl, hb⟩;replace KM := zf (KM.out.keep hb);replace KB := zf (KB.out.keep hb);replace HW := zf (zg HW.out hb (ze _));clear hb HV b0 b1 b2 b3 b4 b5 lb;have b0 := KB.out.cell 0;have b1 := KB.out.cell 1;have b2 := KB.out.cell 2;have b3 := KB.out.cell 3;have b4 := KB.out.cell 4;have b5 := KB.out.cell 5;simp at b0 b1 b2 b3 b4 b5;have lb := KB.out.lt;have s0 := KM.out.cell 0;have s1 := KM.out.cell 1;have s2 := KM.out.cell 2;have s3 := KM.out.cell 3;have s4 := KM.out.cell 4;have s5 := KM.out.cell 5;simp at s0 s1 s2 s3 s4 s5;have lm := KM.out.lt;go_wp2_with fail;refine (HP.out _ HW.out).mono ?_;rintro e w3 ⟨rfl, hb⟩;replace HW := zf (zg HW.out hb (ze _));clear hb HP b0 b1 b2 b3 b4 b5 lb s0 s1 s2 s3 s4 s5 lm KM KB;go_wp2;go_ret2;exact ⟨rfl, HW.out⟩
def zdt (p : (Int × Int) × (Int × Int)) : Int := max (p.2.1 - p.1.2) (p.1.1 - p.2.2)
def zjl (p : Int × Int) : Prop := (-1048576 ≤ p.1 ∧ p.1 ≤ 1048576) ∧ (-1048576 ≤ p.2 ∧ p.2 ≤ 1048576)
theorem zeX {b : BoxD} (h : zad b = true) {k : Nat} {p : Int × Int} (hp : (zbI b)[k]? = some p) : zjl p := by
 have hb := zbo.1 h;have hm := zv hp;simp only [zbI, List.mem_cons, List.not_mem_nil, or_false] at hm;unfold zjl;rcases hm with rfl | rfl | rfl <;> simp only <;> omega
theorem zsX (a b : BoxD) (k : Nat) (p q : Int × Int) (w : World) (ha : zad a = true) (hb : zad b = true) (hp : (zbI a)[k]? = some p) (hq : (zbI b)[k]? = some q) :
  Calls Tryz.prog 126 #[bx a, bx b, .int .i64 k] w fun e w' => e = .returned (.int .i64 (zdt (p, q))) ∧ Below w.heap.size w w' := by
 obtain ⟨⟨p1, p2⟩, p3, p4⟩ := zeX ha hp;obtain ⟨⟨q1, q2⟩, q3, q4⟩ := zeX hb hq;have HE := zf (fun W => zek a k p hp W);have HF := zf (fun W => zek b k q hq W);have Hr := zf (show zdt (p, q) = max (q.1 - p.2) (p.1 - q.2) from rfl);generalize zdt (p, q) = r at *;obtain ⟨lo, hi⟩ := p;obtain ⟨ff, tt⟩ := q;simp only at HE HF Hr p1 p2 p3 p4 q1 q2 q3 q4;obtain ⟨⟨x, y, z⟩, x2, y2, z2⟩ := a;obtain ⟨⟨u, v, t⟩, u2, v2, t2⟩ := b;have KB := zf (Blk.new1 w (.cells #[.int .i64 x, .int .i64 y, .int .i64 z, .int .i64 x2, .int .i64 y2, .int .i64 z2] 62) 62 #[.int .i64 u, .int .i64 v, .int .i64 t, .int .i64 u2, .int .i64 v2, .int .i64 t2]);have HW := zf (zH w (.cells #[.int .i64 x, .int .i64 y, .int .i64 z, .int .i64 x2, .int .i64 y2, .int .i64 z2] 62) (.cells #[.int .i64 u, .int .i64 v, .int .i64 t, .int .i64 u2, .int .i64 v2, .int .i64 t2] 62));clear ha hb hp hq;rcases Int.lt_or_le (ff - hi) (lo - tt) with hc | hc
 all_goals
  go_enter Tryz.func126, Tryz.ntmps126;go_wp2_with fail;refine (HE.out _).mono ?_;rintro e w1 ⟨rfl, hb⟩;replace KB := zf (KB.out.keep hb);replace HW := zf (zg HW.out hb (ze _));clear hb HE;have b0 := KB.out.cell 0;have b1 := KB.out.cell 1;have b2 := KB.out.cell 2;have b3 := KB.out.cell 3;have b4 := KB.out.cell 4;have b5 := KB.out.cell 5;simp at b0 b1 b2 b3 b4 b5;have lb := KB.out.lt;go_wp2_with fail;refine (HF.out _).mono ?_;rintro e w2 ⟨rfl, hb⟩;replace HW := zf (zg HW.out hb (ze _));clear hb HF b0 b1 b2 b3 b4 b5 lb KB;go_wp2;go_ret;exact ⟨zam (by rw [Hr.out]; omega), HW.out⟩
def zc1 (p : (Int × Int) × (Int × Int)) : Int := max 0 (zdt p) * max 0 (zdt p)
def zgh (l : List ((Int × Int) × (Int × Int))) : Int := l.foldl (fun s p => s + zc1 p) 0
theorem zoq (l : List ((Int × Int) × (Int × Int))) (p) : zgh (l ++ [p]) = zgh l + zc1 p := by
 rw [zgh, zgh, List.foldl_append]
 rfl
theorem zoo (a b : BoxD) : zfR a b = zgh ((zbI a).zip (zbI b)) := by
 simp [zfR, zgh, zbI, zc1, zdt, zhe]
theorem zjF {p q : Int × Int} (hp : zjl p) (hq : zjl q) : 0 ≤ zc1 (p, q) ∧ zc1 (p, q) ≤ 4398046511104 := by
 unfold zjl at hp hq;have h1 : 0 ≤ max 0 (zdt (p, q)) := by omega
 have h2 : max 0 (zdt (p, q)) ≤ 2097152 := by unfold zdt; simp only; omega
 exact zg6 h1 h2 h1 h2 (by omega)
theorem zor : ∀ (l : List ((Int × Int) × (Int × Int))) (s : Int), (∀ p ∈ l, 0 ≤ zc1 p ∧ zc1 p ≤ 4398046511104) → s ≤ l.foldl (fun s p => s + zc1 p) s ∧ l.foldl (fun s p => s + zc1 p) s ≤ s + 4398046511104 * l.length := by
 intro l
 induction l with
 | nil => intro s _; simp
 | cons p l ih =>
  intro s h;have h2 := h p (by simp);have h1 := ih (s + zc1 p) (fun q hq => h q (by simp [hq]));rw [List.foldl_cons, zac];omega
theorem zqb (l : List ((Int × Int) × (Int × Int))) (h : ∀ p ∈ l, 0 ≤ zc1 p ∧ zc1 p ≤ 4398046511104) : 0 ≤ zgh l ∧ zgh l ≤ 4398046511104 * l.length := by
 have := zor l 0 h;unfold zgh;omega
theorem zop {a b : BoxD} (ha : zad a = true) (hb : zad b = true) : ∀ p ∈ (zbI a).zip (zbI b), 0 ≤ zc1 p ∧ zc1 p ≤ 4398046511104 := by
 intro p hp;obtain ⟨k, hk, rfl⟩ := List.getElem_of_mem hp;rw [List.length_zip] at hk;rw [List.getElem_zip];exact zjF (zeX ha (zi (by omega))) (zeX hb (zi (by omega)))
theorem zqa (a b : BoxD) (w : World) (ha : zad a = true) (hb : zad b = true) :
  Calls Tryz.prog 60 #[bx a, bx b] w fun e w' => e = .returned (.tuple #[.int .i64 (zfR a b), .int .i64 0]) ∧ Below w.heap.size w w' := by
 have HVa := zf (fun W => za0 a W);rw [ha] at HVa;have HVb := zf (fun W => za0 b W);rw [hb] at HVb;have HA := zf (fun (k : Nat) (p q : Int × Int) (W : World) (hp : (zbI a)[k]? = some p) (hq : (zbI b)[k]? = some q) => zsX a b k p q W ha hb hp hq);have Hrg := zf (zop ha hb);have Hnr := zf (fun (k : Nat) (p q : Int × Int) (hp : (zbI a)[k]? = some p) (hq : (zbI b)[k]? = some q) => And.intro (zeX ha hp) (zeX hb hq));have Hr := zf (zoo a b);have HLa := zf (show (zbI a).length = 3 from rfl);have HLb := zf (show (zbI b).length = 3 from rfl);generalize zfR a b = r at *;generalize zbI a = xa at *;generalize zbI b = xb at *;obtain ⟨⟨x, y, z⟩, x2, y2, z2⟩ := a;obtain ⟨⟨u, v, t⟩, u2, v2, t2⟩ := b;have KA := zf ((Blk.new w 62 #[.int .i64 x, .int .i64 y, .int .i64 z, .int .i64 x2, .int .i64 y2, .int .i64 z2]).alloc (.cells #[.int .i64 u, .int .i64 v, .int .i64 t, .int .i64 u2, .int .i64 v2, .int .i64 t2] 62));have KB := zf (Blk.new1 w (.cells #[.int .i64 x, .int .i64 y, .int .i64 z, .int .i64 x2, .int .i64 y2, .int .i64 z2] 62) 62 #[.int .i64 u, .int .i64 v, .int .i64 t, .int .i64 u2, .int .i64 v2, .int .i64 t2]);have HW := zf (zH w (.cells #[.int .i64 x, .int .i64 y, .int .i64 z, .int .i64 x2, .int .i64 y2, .int .i64 z2] 62) (.cells #[.int .i64 u, .int .i64 v, .int .i64 t, .int .i64 u2, .int .i64 v2, .int .i64 t2] 62));clear ha hb;go_enter Tryz.func60, Tryz.ntmps60;go_wp2_with fail;refine (HVa.out _).mono ?_;rintro e w1 ⟨rfl, hb⟩;replace KA := zf (KA.out.keep hb);replace KB := zf (KB.out.keep hb);replace HW := zf (zg HW.out hb (ze _));clear hb HVa;have b0 := KB.out.cell 0;have b1 := KB.out.cell 1;have b2 := KB.out.cell 2;have b3 := KB.out.cell 3;have b4 := KB.out.cell 4;have b5 := KB.out.cell 5;simp at b0 b1 b2 b3 b4 b5;have lb := KB.out.lt;go_wp2_with fail;refine (HVb.out _).mono ?_;rintro e w2 ⟨rfl, hb⟩;replace KA := zf (KA.out.keep hb);replace KB := zf (KB.out.keep hb);replace HW := zf (zg HW.out hb (ze _));have hga := KA.out.lt;have hgb := KB.out.lt;clear hb HVb b0 b1 b2 b3 b4 b5 lb;go_wp2;go_loopw [6, 17] (fun sv iv wr => ∃ k : Nat, k ≤ 3 ∧ iv = .int .i64 k ∧ (∃ sm : Int, sv = .int .i64 sm ∧ Hid (sm = zgh ((xa.zip xb).take k))) ∧ Below w2.heap.size w2 wr) (fun _ iv _ => 3 - (intOf iv).toNat)
 case atStart => exact ⟨0, zu _, rfl, ⟨0, rfl, zf (by simp [zgh])⟩, Below.refl _ _⟩
 case round =>
  obtain ⟨k, hk, rfl, ⟨sm, rfl, hsm⟩, hbr⟩ := hrel;by_cases hlt : k < 3
  ·obtain ⟨p, hp⟩ : ∃ p, xa[k]? = some p := ⟨_, zi (by rw [HLa.out]; exact hlt)⟩;obtain ⟨q, hq⟩ : ∃ q, xb[k]? = some q := ⟨_, zi (by rw [HLb.out]; exact hlt)⟩;have hz : (xa.zip xb)[k]? = some (p, q) := by simp [List.getElem?_zip_eq_some, hp, hq]
   have hnr := Hnr.out k p q hp hq;have ht := zjF hnr.1 hnr.2;have hs := zqb ((xa.zip xb).take k) (fun t h => Hrg.out t (List.mem_of_mem_take h));rw [← hsm.out] at hs;have hs2 : ((xa.zip xb).take k).length ≤ 3 := zh (List.length_take_le _ _) hk;have Hn := zf (show zgh ((xa.zip xb).take (k + 1)) = sm + zc1 (p, q) by rw [zQ hz, zoq, hsm.out]);have HAk := zf (fun W => HA.out k p q W hp hq);have Hte := zf (show zc1 (p, q) = max 0 (zdt (p, q)) * max 0 (zdt (p, q)) from rfl);obtain ⟨tm, htm⟩ : ∃ d, d = zc1 (p, q) := ⟨_, rfl⟩;rw [← htm] at ht Hn Hte;obtain ⟨ap, hap⟩ : ∃ d, d = zdt (p, q) := ⟨_, rfl⟩;rw [← hap] at HAk Hte;have KAr := zf (KA.out.below hbr hga);replace KB := zf (KB.out.below hbr hgb);have b0 := KB.out.cell 0;have b1 := KB.out.cell 1;have b2 := KB.out.cell 2;have b3 := KB.out.cell 3;have b4 := KB.out.cell 4;have b5 := KB.out.cell 5;simp at b0 b1 b2 b3 b4 b5;have lb := KB.out.lt;have a0 := KAr.out.cell 0;have a1 := KAr.out.cell 1;have a2 := KAr.out.cell 2;have a3 := KAr.out.cell 3;have a4 := KAr.out.cell 4;have a5 := KAr.out.cell 5;simp at a0 a1 a2 a3 a4 a5;have la := KAr.out.lt;have HBr := zf hbr;have g0 : 0 ≤ sm := hs.1;have g1 : sm ≤ 13194139533312 := by have := hs.2; omega
   have g2 : 0 ≤ tm := ht.1;have g3 : tm ≤ 4398046511104 := ht.2;clear hp hq hz hnr ht hs hs2 hsm htm hap hbr;go_wp2_with fail;refine (HAk.out _).mono ?_;rintro e w3 ⟨rfl, hb⟩;replace HBr := zf (zg HBr.out hb (ze _));clear hb HAk a0 a1 a2 a3 a4 a5 la b0 b1 b2 b3 b4 b5 lb KB KAr;rcases Int.lt_or_le 0 ap with hc | hc
   ·have he : tm = ap * ap := by rw [Hte.out, Int.max_eq_right (by omega)]
    have z1 : wrap64 (ap * ap) = ap * ap := zas (ap * ap) (by omega);have He := zf he;rw [he] at g2 g3;clear he;go_wp2;go_roundw
    case rel => exact ⟨k + 1, by omega, by go_num, ⟨_, rfl, zf (by rw [Hn.out, He.out])⟩, HBr.out⟩
    case measure => simp [intOf]; omega
   ·have he : tm = 0 := by rw [Hte.out, Int.max_eq_left (by omega)]; rfl
    have He := zf he;clear he;go_wp2;go_roundw
    case rel => exact ⟨k + 1, by omega, by go_num, ⟨_, rfl, zf (by rw [Hn.out, He.out]; try omega)⟩, HBr.out⟩
    case measure => simp [intOf]; omega
  ·obtain rfl : k = 3 := by omega
   have Hf := zf (show r = sm by rw [Hr.out, hsm.out, List.take_of_length_le (by rw [List.length_zip, HLa.out, HLb.out]; decide)]);have HB9 := zf (zg HW.out hbr (ze _));clear hbr hsm;go_wp2;go_ret2;exact ⟨by rw [Hf.out] <;> rfl, HB9.out⟩
end Go.Proofs.YtpaanfjjnjjoeaaGreat
namespace Go.Proofs.YtpaanfjjnjjoeaaGreat
open Go.RowKit Go.Maps
theorem zjR : ∀ l : List Pt, (∀ p ∈ l, zJ 1048576 p = true) → ∀ b ∈ zy l, zad b = true := by
 intro l
 induction l with
 | nil => intro _ b hb; simp [zy] at hb
 | cons p l ih =>
  intro h b hb;cases l with
  | nil => simp [zy] at hb
  | cons q l =>
   simp only [zy, List.mem_cons] at hb;rcases hb with rfl | hb
   ·exact zrK (h p (by simp)) (h q (by simp))
   ·exact ih (fun r hr => h r (zZ _ hr)) b hb
theorem zr5 (A : Option Addr) (bars : List BarD) (n c : Nat) (w : World) {B : Nat} (h : BarsAt w B A bars) (hB : B ≤ w.heap.size) (hn : n = bars.length) (hm : n ≤ 60000) (htm : ∀ y ∈ bars, y.mark.size ≤ maxLen ∧ InInt y.size) :
  Calls Tryz.prog 116 #[.slice A n c] w fun e w' => e = .returned (.map (some w.heap.size)) ∧ SMap w' w.heap.size n (zdX bars) ∧ Below w.heap.size w w' := by
 have H3 := zf (fun (W : World) (hz : Below w.heap.size w W) => h.carry (hz.mono hB) (ze B));have Hn := zf hn;have Htm := zf htm;have hMp := zf (SMap.new w);have hmm := @run_makeMap Tryz.prog;clear h hB hn htm;go_enter Tryz.func116, Tryz.ntmps116;go_wp2;go_loopw [9] (fun iv wr => ∃ k : Nat, k ≤ n ∧ iv = .int .i64 k ∧ Hid (SMap wr w.heap.size k (zdX (bars.take k))) ∧ Below w.heap.size w wr) (fun iv _ => n - (intOf iv).toNat)
 case atStart => exact ⟨0, zu _, rfl, hMp, zk _ _⟩
 case round =>
  clear hMp;rename World => wo;obtain ⟨k, hk, rfl, hmp, hbr⟩ := hrel;have hbs := hbr.size;by_cases hlt : k < n
  ·obtain ⟨b, off, y, A', c', rfl, hbl, hx, hi, h0, h1, h2, h3, h4⟩ := BarsAt.get (k := k) (H3.out _ hbr) (by rw [← Hn.out]; exact hlt);obtain ⟨hy1, hy2⟩ := Htm.out y (zv hx);have Hnx := zf (show zdX (bars.take (k + 1)) = zeZ (zdX (bars.take k)) y.mark y.size by rw [zQ hx, ziA]);have Hmp := zf (hmp.out.alloc (.cells #[.string y.mark, .int .i64 y.size, .int .i64 y.count, .int .i64 y.code, .slice A' y.dims.length c'] 50));have HBa := zf (hbr.alloc hbr.size (.cells #[.string y.mark, .int .i64 y.size, .int .i64 y.count, .int .i64 y.code, .slice A' y.dims.length c'] 50));have Hhs := zf hy1;have Hhy := zf hy2;obtain ⟨mark, size, count, code, dims⟩ := y;simp only at Hnx Hmp HBa Hhs Hhy h0 h1 h2 h3 h4;generalize dims.length = dn at *;clear hx hi hbl hmp hbr hy1 hy2;go_wp2_with (refine zcY rfl (.tmp 13) (.tmp 15) (.tmp 17) rfl w.heap.size k (zdX (bars.take k)) rfl Hmp.out (by omega) mark size rfl rfl Hhs.out Hhy.out ?_; intro w5 hm5 hg5);have HB5 := zf (zch HBa.out hg5 HBa.out.size (ze _));have Hm5 := zf (show SMap w5 w.heap.size (k + 1) (zdX (bars.take (k + 1))) by rw [Hnx.out]; exact hm5);clear hm5 hg5;go_wp2;go_roundw
   case rel => exact ⟨k + 1, by omega, by go_num, Hm5, HB5.out⟩
   case measure => simp [intOf]; omega
  ·obtain rfl : k = n := by omega
   have hall := zf (show zdX (bars.take k) = zdX bars by rw [Hn.out, zF]);have Hmp := zf (show SMap wo w.heap.size k (zdX bars) by rw [← hall.out]; exact hmp.out);have HWo := zf hbr;clear hmp hbr hall;go_wp2;go_ret;exact ⟨rfl, Hmp.out, HWo.out⟩
def zeH (m : MemD) (d : Int) (legs : List BoxD) (j : Nat) : Int := zd8 m d (legs.take j)
theorem zmb {m : MemD} {d : Int} {legs : List BoxD} {j : Nat} {b : BoxD} (h : legs[j]? = some b) : zeH m d legs (j + 1) = min (zeH m d legs j) (zcJ m d b) := by
 rw [zeH, zeH, zQ h, zd8, zd8, List.foldl_append]
 rfl
theorem znB (m : MemD) (d : Int) (legs : List BoxD) : zeH m d legs legs.length = zd8 m d legs := by rw [zeH, zF]
theorem zrp (HSL : zbU) (HCL : zbV) (m : MemD) (A1 A2 A3 A4 : Option Addr) (n1 n2 n3 n4 c1 c2 c3 c4 : Nat) (bars : List BarD) (runs : List RunD) (i : Nat) (ld : LaidD) (w : World) {B : Nat} (h1 : BoxesAt w B A1 m.boxes) (h2 : BoxesAt w B A2 m.holes) (h3 : BarsAt w B A3 bars) (h4 : RunsAt w B A4 runs) (hB : B ≤ w.heap.size)
  (l1 : n1 = m.boxes.length) (l2 : n2 = m.holes.length) (l3 : n3 = bars.length) (l4 : n4 = runs.length) (m3 : n3 ≤ 60000) (m4 : n4 ≤ 60000) (htame : zer bars) (hsol : zaZ m.boxes m.holes = true) (hok : zaj bars runs = true) (hld : (zx bars runs)[i]? = some ld) :
  Calls Tryz.prog 55 #[zgY m A1 n1 c1 A2 n2 c2, .slice A3 n3 c3, .slice A4 n4 c4, .int .i64 (i : Int)] w fun e w' => e = .returned (.tuple #[.int .i64 (zd8 m ld.bar.size (zy ld.pts)), .string ld.bar.mark, .int .i64 0]) ∧ Below w.heap.size w w' := by
 have hi := zaa hld;have hN2 := (zat hok).2;have HM := zf (fun (W : World) (hz : Below w.heap.size w W) => ziQ A3 bars n3 c3 A4 runs n4 c4 W (h3.carry (hz.mono hB) (ze _)) (h4.carry (Flat.carried _) (hz.mono hB) (ze _)) (zh hB hz.size) l3 l4 m3 m4 htame hok (i : Int) ld.bar.mark (by omega) (by omega) (zhV runs i ld (zap hok).2.2 hld));have HL := zf (fun (W : World) (hz : Below w.heap.size w W) => znJ A3 A4 bars runs n3 c3 n4 c4 i ld W (h3.carry (hz.mono hB) (ze _)) (h4.carry (Flat.carried _) (hz.mono hB) (ze _)) (zh hB hz.size) l3 l4 m3 m4 htame hok hld);have hbm := zmQ hok hld;have hsz := zgC hok hbm;have HS := zf (fun (W : World) (hz : Below w.heap.size w W) => zr5 A3 bars n3 c3 W (h3.carry (hz.mono hB) (ze _)) (zh hB hz.size) l3 m3 (fun y hy => ⟨(htame y hy).1, zo6 (zgC hok hy)⟩));have Hlk := zf (zqd bars (zkU (zeP hok)) ld.bar hbm);have Hmk := zf (htame ld.bar hbm).1;obtain ⟨hnear, _, hl7⟩ := zeV runs i ld (zap hok).2.2 hld;have HO := zf (fun (b : BoxD) (hb : b ∈ zy ld.pts) (W : World) (hz : Below w.heap.size w W) => zpu HSL HCL m A1 A2 n1 n2 c1 c2 ld.bar.size b W (h1.carry (Flat.carried _) (hz.mono hB) (ze _)) (h2.carry (Flat.carried _) (hz.mono hB) (ze _)) (zh hB hz.size) l1 l2 hsol hsz (zjR ld.pts hnear b hb));have hll : (zy ld.pts).length ≤ 6 := by rw [zco]; omega
 obtain ⟨mark, hmark⟩ : ∃ q, q = ld.bar.mark := ⟨_, rfl⟩;obtain ⟨sz, hszz⟩ : ∃ q, q = ld.bar.size := ⟨_, rfl⟩;obtain ⟨legs, hlegs⟩ : ∃ l, l = zy ld.pts := ⟨_, rfl⟩;rw [← hmark] at HM Hlk Hmk ⊢;rw [← hszz] at HO Hlk ⊢;rw [← hlegs] at HL HO hll ⊢;have Hts := zf (fun (j : Nat) (b : BoxD) (h : legs[j]? = some b) => zmb (m := m) (d := sz) h);have Hta := zf (znB m sz legs);have Ht0 := zf (show zeH m sz legs 0 = 2097152 by rw [zeH, List.take_zero]; rfl);obtain ⟨LT, hLT⟩ : ∃ LT, LT = zeH m sz legs := ⟨_, rfl⟩;rw [← hLT] at Hts Hta Ht0;obtain ⟨CV, hCV⟩ : ∃ CV, CV = zcJ m sz := ⟨_, rfl⟩;rw [← hCV] at Hts;have HO2 := zf (fun (b : BoxD) (hb : b ∈ legs) (W : World) (hz : Below w.heap.size w W) => show Calls Tryz.prog 117 #[zgY m A1 n1 c1 A2 n2 c2, .int .i64 sz, bx b] W fun e w' => e = .returned (.int .i64 (CV b)) ∧ Below W.heap.size W w' by rw [hCV]; exact HO.out b hb W hz);obtain ⟨lo, hlo⟩ : ∃ q, q = zd8 m sz legs := ⟨_, rfl⟩;rw [← hlo] at Hta ⊢;obtain ⟨name, boxes, holes, cover, agg, poker⟩ := m;have KM := zf (Blk.new w 26 #[.string name, .slice A1 n1 c1, .slice A2 n2 c2, .int .i64 cover, .int .i64 agg, .int .i64 poker]);have HW := zf (zk w (.cells #[.string name, .slice A1 n1 c1, .slice A2 n2 c2, .int .i64 cover, .int .i64 agg, .int .i64 poker] 26));have z1 : IntKind.i64.wrap (2 * 1048576 : Int) = 2097152 := by decide
 clear h1 h2 h3 h4 hB l1 l2 l3 l4 htame hsol hok hld hi hN2 hbm hsz hnear hl7 hmark hszz hlegs HO hLT hCV hlo z1;go_enter Tryz.func55, Tryz.ntmps55;go_wp2_with fail;refine (HM.out _ HW.out).mono ?_;rintro e w1 ⟨rfl, hb⟩;replace KM := zf (KM.out.keep hb);replace HW := zf (zg HW.out hb (ze _));clear hb HM;go_wp2_with fail;refine (HL.out _ HW.out).mono ?_;rintro e w2 ⟨A6, c6, rfl, hlg, hb⟩;replace KM := zf (KM.out.keep hb);replace HW := zf (zg HW.out hb (ze _));have HLg := zf hlg;clear hb hlg HL;go_wp2_with fail;refine (HS.out _ HW.out).mono ?_;rintro e w3 ⟨rfl, hms, hb⟩;replace KM := zf (KM.out.keep hb);replace HW := zf (zg HW.out hb (ze _));replace HLg := zf (HLg.out.carry (Flat.carried _) hb (ze _));have lkf : (Instr.lookup 109 (.map (some w2.heap.size)) (.string mark) false).run Tryz.prog w3 = .ok (.int .i64 sz) w3 := by rw [hms.look Hmk.out, Hlk.out]
 have hg3 := KM.out.lt;have hs3 := hb.size;obtain ⟨LN, hLN⟩ : ∃ q, q = legs.length := ⟨_, rfl⟩;rw [← hLN] at Hta hll ⊢;have HLN := zf hLN;clear hb HS hms hLN;go_wp2;go_loopw [15, 44] (fun lv iv wr => ∃ j : Nat, j ≤ LN ∧ iv = .int .i64 j ∧ lv = .int .i64 (LT j) ∧ Below w3.heap.size w3 wr) (fun _ iv _ => LN - (intOf iv).toNat)
 case atStart => exact ⟨0, zu _, rfl, by rw [Ht0.out], Below.refl _ _⟩
 case round =>
  clear lkf;obtain ⟨j, hj, rfl, rfl, hbr⟩ := hrel;by_cases hlt : j < LN
  ·obtain ⟨bb, off, lb, rfl, hbl, hx, e0, e1, e2, e3, e4, e5⟩ := BoxesAt.get (k := j) HLg.out (by rw [← HLN.out]; exact hlt);have hbl3 : bb < w3.heap.size := zt hbl hs3;rw [← hbr.cell (by exact hbl3)] at e0 e1 e2 e3 e4 e5;have hbs := hbr.size;have hblr : bb < wr.heap.size := zt hbl3 hbs;have Hnx := zf (Hts.out j lb hx);have HOx := zf (HO2.out lb (zv hx));have K := zf ((KM.out.below hbr hg3).alloc (.cells #[.int .i64 lb.lo.1, .int .i64 lb.lo.2.1, .int .i64 lb.lo.2.2, .int .i64 lb.hi.1, .int .i64 lb.hi.2.1, .int .i64 lb.hi.2.2] 62));have HBa := zf (hbr.alloc hbs (.cells #[.int .i64 lb.lo.1, .int .i64 lb.lo.2.1, .int .i64 lb.lo.2.2, .int .i64 lb.hi.1, .int .i64 lb.hi.2.1, .int .i64 lb.hi.2.2] 62));have s0 := K.out.cell 0;have s1 := K.out.cell 1;have s2 := K.out.cell 2;have s3 := K.out.cell 3;have s4 := K.out.cell 4;have s5 := K.out.cell 5;simp at s0 s1 s2 s3 s4 s5;have lm := K.out.lt;obtain ⟨cv, hcv⟩ : ∃ q, q = CV lb := ⟨_, rfl⟩;rw [← hcv] at Hnx HOx;obtain ⟨lt0, hlt0⟩ : ∃ q, q = LT j := ⟨_, rfl⟩;rw [← hlt0] at Hnx ⊢;obtain ⟨⟨x1, x2, x3⟩, x4, x5, x6⟩ := lb;simp only at e0 e1 e2 e3 e4 e5 HBa;clear hx hbr hbl hbl3 hcv hlt0 K;go_wp2_with fail;refine (HOx.out _ (zg HW.out HBa.out (ze _))).mono ?_;rintro e w4 ⟨rfl, hb⟩;have HB4 := zf (zg HBa.out hb (ze _));clear hb HOx e0 e1 e2 e3 e4 e5 s0 s1 s2 s3 s4 s5 lm HBa;rcases Int.lt_or_le cv lt0 with hc | hc
   ·have Hf := zf (show LT (j + 1) = cv by rw [Hnx.out]; omega);have dc : decide (cv < lt0) = true := by simp; omega
    have dc2 : decide (lt0 ≤ cv) = false := by simp; omega
    clear Hnx;go_wp2;go_roundw
    case rel => exact ⟨j + 1, by omega, by go_num, by rw [Hf.out], HB4.out⟩
    case measure => simp [intOf]; omega
   ·have Hf := zf (show LT (j + 1) = lt0 by rw [Hnx.out]; omega);have dc : decide (cv < lt0) = false := by simp; omega
    have dc2 : decide (lt0 ≤ cv) = true := by simp; omega
    clear Hnx;go_wp2;go_roundw
    case rel => exact ⟨j + 1, by omega, by go_num, by rw [Hf.out], HB4.out⟩
    case measure => simp [intOf]; omega
  ·obtain rfl : j = LN := by omega
   have HB4 := zf (zg HW.out hbr (ze _));have Hf := zf Hta.out;clear hbr;go_wp2;go_ret3;exact ⟨by rw [Hf.out] <;> rfl, HB4.out⟩
theorem zpB (A : Option Addr) (bars : List BarD) (n c : Nat) (A2 : Option Addr) (runs : List RunD) (n2 c2 : Nat) (w : World) {B : Nat} (h : BarsAt w B A bars) (h2 : RunsAt w B A2 runs) (hB : B ≤ w.heap.size) (hn : n = bars.length) (hn2 : n2 = runs.length) (hm : n ≤ 60000) (hm2 : n2 ≤ 60000) (htame : zer bars) (hok : zaj bars runs = true) (hrm : ∀ r ∈ runs, r.mark.size ≤ maxLen) :
  Calls Tryz.prog 19 #[.slice A n c, .slice A2 n2 c2] w fun e w' =>
   ∃ A' c', e = .returned (.tuple #[.slice A' (zbt bars runs).length c', .int .i64 0]) ∧ FinRow w.heap.size w' A' (zbt bars runs).length c' (zbt bars runs) ∧ Below w.heap.size w w' := by
 have HV := zdr A bars n c A2 runs n2 c2 w h h2 hB hn hn2 hm hm2 htame;rw [hok] at HV;have HV := zf HV;obtain ⟨hbars, h60, hmem⟩ := zap hok;have hn60 : n2 ≤ 60 := by omega
 have hone := zkU (zeP hok);have hcb : ∀ x ∈ bars, 1 ≤ x.count ∧ x.count ≤ 1000 := fun x hx => (zdb (hbars x hx)).count;have hcr : ∀ r ∈ runs, 1 ≤ r.count ∧ r.count ≤ 1000 := fun r hr => zaw (hmem r hr);have Hcb := zf hcb;have Hcr := zf hcr;have Hrg := zf (fun (k : Nat) (m : ByteArray) => zoX (runs := runs.take k) hcb (fun r hr => hcr r (List.mem_of_mem_take hr)) (by rw [zG]; omega) m);have Hwy := zf (fun (k : Nat) (x : BarD) (hx : bars[k]? = some x) => zsS (runs := runs) hone hx);have Hst := zf (fun (k : Nat) (x : BarD) (hx : bars[k]? = some x) => zj5 runs hx);have Hle := zf (fun k => zlk bars runs k);have Hall := zf (show zee bars runs n = zbt bars runs by rw [hn, zll]);have Hbm := zf (fun (x : BarD) (hx : x ∈ bars) => (htame x hx).1);have Hrm := zf hrm;have H3 := zf (fun (W : World) (hz : Below w.heap.size w W) => h.carry (hz.mono hB) (ze B));have H2 := zf (fun (W : World) (hz : Below w.heap.size w W) => h2.carry (Flat.carried _) (hz.mono hB) (ze B));have HB0 := zf hB;have hnb := zf hn;have hnr := zf hn2;clear h h2 hB hn hn2 hm2 htame hok hbars h60 hmem hone hcb hcr hrm;have hmm := @run_makeMap Tryz.prog;go_enter Tryz.func19, Tryz.ntmps19;go_wp2_with fail;refine HV.out.mono ?_;rintro e w1 ⟨rfl, hb1⟩;have HW1 := zf hb1;have hMp := zf (SMap.new w1);clear HV hb1;go_wp2;go_loopw [22] (fun iv wr => ∃ k : Nat, k ≤ n ∧ iv = .int .i64 k ∧ Hid (SMap wr w1.heap.size k (zfe (bars.take k))) ∧ Below w1.heap.size w1 wr) (fun iv _ => n - (intOf iv).toNat)
 case atStart => exact ⟨0, zu _, rfl, hMp, zk _ _⟩
 case round =>
  rename World => wo;obtain ⟨k, hk, rfl, hmp, hbr⟩ := hrel;by_cases hlt : k < n
  ·obtain ⟨b, off, y, A', c', rfl, hbl, hx, hi, h0, h1, h2, h3, h4⟩ := BarsAt.get (k := k) (H3.out _ (zg HW1.out hbr (ze _))) (by rw [← hnb.out]; exact hlt);have hy1 := Hbm.out y (zv hx);have hy2 := Hcb.out y (zv hx);have Hn := zf (show zfe (bars.take (k + 1)) = zeZ (zfe (bars.take k)) y.mark y.count by rw [zQ hx, zhq]);have Hmp := zf (hmp.out.alloc (.cells #[.string y.mark, .int .i64 y.size, .int .i64 y.count, .int .i64 y.code, .slice A' y.dims.length c'] 50));have HBa := zf (hbr.alloc hbr.size (.cells #[.string y.mark, .int .i64 y.size, .int .i64 y.count, .int .i64 y.code, .slice A' y.dims.length c'] 50));have Hhs := zf hy1;have Hhy := zf (show InInt y.count by unfold InInt; omega);obtain ⟨mark, size, count, code, dims⟩ := y;simp only at Hn Hmp HBa Hhs Hhy h0 h1 h2 h3 h4;generalize dims.length = dn at *;clear hx hi hbl hmp hbr hy1 hy2;go_wp2_with (refine zcY rfl (.tmp 26) (.tmp 28) (.tmp 30) rfl w1.heap.size k (zfe (bars.take k)) rfl Hmp.out (by omega) mark count rfl rfl Hhs.out Hhy.out ?_; intro w5 hm5 hg5);have HB5 := zf (zch HBa.out hg5 HBa.out.size (ze _));have Hm5 := zf (show SMap w5 w1.heap.size (k + 1) (zfe (bars.take (k + 1))) by rw [Hn.out]; exact hm5);clear hm5 hg5;go_wp2;go_roundw
   case rel => exact ⟨k + 1, by omega, by go_num, Hm5, HB5.out⟩
   case measure => simp [intOf]; omega
  obtain rfl : n = k := by omega
  have Hmp := zf (show SMap wo w1.heap.size n (za6 bars (runs.take 0)) by rw [List.take_zero, zoY]; have := hmp.out; rw [hnb.out, zF] at this; rw [hnb.out]; exact this);have HWo := zf hbr;clear hmp hbr hMp;go_wp2;go_loopw [34] (fun iv wr => ∃ q : Nat, q ≤ n2 ∧ iv = .int .i64 q ∧ Hid (SMap wr w1.heap.size (n + q) (za6 bars (runs.take q))) ∧ Below w1.heap.size w1 wr) (fun iv _ => n2 - (intOf iv).toNat)
  case atStart => exact ⟨0, zu _, rfl, Hmp, HWo.out⟩
  case round =>
   clear Hmp HWo;rename World => w3;obtain ⟨q, hq, rfl, hmp, hbr⟩ := hrel;by_cases hlt : q < n2
   ·obtain ⟨b, off, r, rfl, hbl, hx, hc⟩ := RunsAt.get (k := q) (H2.out _ (zg HW1.out hbr (ze _))) (by rw [← hnr.out]; exact hlt);have hr1 := Hrm.out r (zv hx);have hr2 := Hcr.out r (zv hx);have hlr := Hrg.out q r.mark;have Hn := zf (show za6 bars (runs.take (q + 1)) = zeZ (za6 bars (runs.take q)) r.mark (za6 bars (runs.take q) r.mark - r.count) by rw [zQ hx, znA]);have Hrs := zf hr1;obtain ⟨mark, tx, ty, ⟨a1, a2, a3⟩, ⟨s1, s2, s3⟩, cnt⟩ := r;have p0 := hc 0 _ rfl;have p1 := hc 1 _ rfl;have p2 := hc 2 _ rfl;have p3 := hc 3 _ rfl;have p4 := hc 4 _ rfl;have p5 := hc 5 _ rfl;have p6 := hc 6 _ rfl;have p7 := hc 7 _ rfl;have p8 := hc 8 _ rfl;have p9 := hc 9 _ rfl;simp only [Nat.add_zero] at p0 p1 p2 p3 p4 p5 p6 p7 p8 p9 hr1 hr2 hlr Hn Hrs;obtain ⟨lv, hlv⟩ : ∃ d, d = za6 bars (runs.take q) mark := ⟨_, rfl⟩;rw [← hlv] at hlr Hn;have Hmp := zf (hmp.out.alloc (.cells #[.string mark, .int .i64 tx, .int .i64 ty, .int .i64 a1, .int .i64 a2, .int .i64 a3, .int .i64 s1, .int .i64 s2, .int .i64 s3, .int .i64 cnt] 66));have HBa := zf (hbr.alloc hbr.size (.cells #[.string mark, .int .i64 tx, .int .i64 ty, .int .i64 a1, .int .i64 a2, .int .i64 a3, .int .i64 s1, .int .i64 s2, .int .i64 s3, .int .i64 cnt] 66));have KR := zf (Blk.new w3 66 #[.string mark, .int .i64 tx, .int .i64 ty, .int .i64 a1, .int .i64 a2, .int .i64 a3, .int .i64 s1, .int .i64 s2, .int .i64 s3, .int .i64 cnt]);have hne : w1.heap.size ≠ w3.heap.size := by have := hmp.out.lt; omega
    have lk1 := Hmp.out.look Hrs.out;rw [← hlv] at lk1;have z1 : IntKind.i64.wrap (lv - cnt) = lv - cnt := zr _ (by omega);have hin := zf (show InInt (lv - cnt) by unfold InInt; omega);have hat := zf (show zeZ (za6 bars (runs.take q)) mark (lv - cnt) mark = lv - cnt by rw [zeZ, if_pos rfl]);clear hx hc hbl hmp hbr hr1 hlv;have hne2 : some w3.heap.size ≠ some w1.heap.size := fun he => hne (Option.some.inj he).symm;have HG := zf (fun (W : World) (hg : World.grownBy _ W (some w1.heap.size)) => (show W.cell? ⟨w3.heap.size, 0, none⟩ = some (.string mark) from (KR.out.grown hg hne2).cell 0));have HL := zf (fun (W : World) (hg : World.grownBy _ W (some w1.heap.size)) => (KR.out.grown hg hne2).lt);have HM := zf (fun (W : World) (hm : SMap W w1.heap.size (n + q + 1) (zeZ (za6 bars (runs.take q)) mark (lv - cnt))) => (show (Instr.lookup 109 (.map (some w1.heap.size)) (.string mark) false).run Tryz.prog W = .ok (.int .i64 (lv - cnt)) W by rw [hm.look Hrs.out, hat.out]));clear hne2 KR;by_cases hz : lv - cnt = 0
    ·have tz : ((lv - cnt) == 0) = true := by simp; omega
     have Hz := zf (show za6 bars (runs.take (q + 1)) mark = 0 by rw [Hn.out, hat.out, hz]);clear hz;go_wp2_with (first | (refine ziq rfl (.tmp 50) (.tmp 52) rfl w1.heap.size (n + (q + 1)) (za6 bars (runs.take (q + 1))) rfl Hm5.out mark rfl Hrs.out ?_; intro w6 hm6 hg6) | (refine zcY rfl (.tmp 38) (.tmp 40) (.tmp 44) rfl w1.heap.size (n + q) (za6 bars (runs.take q)) rfl Hmp.out (by omega) mark (lv - cnt) rfl rfl Hrs.out hin.out ?_; intro w5 hm5 hg5; have g0 := HG.out _ hg5; have lk2 := HM.out _ hm5; have hlt5 := HL.out _ hg5; have Hm5 := zf (show SMap w5 w1.heap.size (n + (q + 1)) (za6 bars (runs.take (q + 1))) by rw [Hn.out]; exact hm5)));have HB5 := zf (zch HBa.out hg5 HBa.out.size (ze _));have HB6 := zf (zch HB5.out hg6 HB5.out.size (ze _));have Hm6 := zf (show SMap w6 w1.heap.size (n + (q + 1)) (za6 bars (runs.take (q + 1))) by have := hm6; rw [znz bars _ Hz.out] at this; exact this);clear hm6 hg6 lk2 g0 lk1 hm5 hg5 HG HL HM;go_wp2;go_roundw
     case rel => exact ⟨q + 1, by omega, by go_num, Hm6, HB6.out⟩
     case measure => simp [intOf]; omega
    ·have tz : ((lv - cnt) == 0) = false := by simp; omega
     clear hz;go_wp2_with (refine zcY rfl (.tmp 38) (.tmp 40) (.tmp 44) rfl w1.heap.size (n + q) (za6 bars (runs.take q)) rfl Hmp.out (by omega) mark (lv - cnt) rfl rfl Hrs.out hin.out ?_; intro w5 hm5 hg5; have g0 := HG.out _ hg5; have lk2 := HM.out _ hm5; have hlt5 := HL.out _ hg5; have Hm5 := zf (show SMap w5 w1.heap.size (n + (q + 1)) (za6 bars (runs.take (q + 1))) by rw [Hn.out]; exact hm5));have HB5 := zf (zch HBa.out hg5 HBa.out.size (ze _));clear hm5 hg5 lk1 HG HL HM;go_wp2;go_roundw
     case rel => exact ⟨q + 1, by omega, by go_num, Hm5, HB5.out⟩
     case measure => simp [intOf]; omega
   obtain rfl : q = n2 := by omega
   have Hmp := zf (show SMap w3 w1.heap.size (n + q) (za6 bars runs) by have := hmp.out; rw [hnr.out, zF] at this; rw [hnr.out]; exact this);have HW3 := zf (zg HW1.out hbr (ze _));have hMl := Hmp.out.lt;clear hmp hbr H2 HW1 Hrg Hcr;go_wp2;go_loopw [11, 56] (fun v iv wr => ∃ k : Nat, k ≤ n ∧ iv = .int .i64 k ∧ (∃ acc : List FinD, Row wr w3.heap.size 47 2 zbB v acc ∧ Hid (acc = zee bars runs k)) ∧ Hid (Below w3.heap.size w3 wr)) (fun _ iv _ => n - (intOf iv).toNat)
   case atStart => exact ⟨0, zu _, rfl, ⟨[], Row.nil _ _ _ _ _, zf rfl⟩, zf (Below.refl _ _)⟩
   case round =>
    rename World => wr;obtain ⟨k, hk, rfl, ⟨acc, hrow, hacc⟩, hbr⟩ := hrel;have Hrow := zf hrow;obtain ⟨Ao, co, rfl⟩ := hrow.val;have hbs := hbr.out.size;have hal := Hle.out k;rw [← hacc.out] at hal;clear hrow;by_cases hlt : k < n
    ·obtain ⟨b, off, y, A', c', rfl, hbl, hx, hi, h0, h1, h2, h3, h4⟩ := BarsAt.get (k := k) (H3.out _ (zg HW3.out hbr.out (ze _))) (by rw [← hnb.out]; exact hlt);have Hy1 := zf (Hbm.out y (zv hx));have Hs := zf (Hst.out k y hx);have hwy := Hwy.out k y hx;obtain ⟨lv, hlv⟩ : ∃ d, d = za6 bars runs y.mark := ⟨_, rfl⟩;rw [← hlv] at hwy;have lk1 := ((Hmp.out.below hbr.out hMl (ze _)).alloc (.cells #[.string y.mark, .int .i64 y.size, .int .i64 y.count, .int .i64 y.code, .slice A' y.dims.length c'] 50)).look Hy1.out;rw [← hlv] at lk1;obtain ⟨oneF, honeF⟩ : ∃ l, l = zfz runs y := ⟨_, rfl⟩;rw [← honeF] at hwy Hs;obtain ⟨mark, size, count, code, dims⟩ := y;simp only at Hy1 hwy lk1 h0 h1 h2 h3 h4;generalize dims.length = dn at *;clear hx hi hbl hlv honeF;rcases hwy with ⟨g0, g1, rfl⟩ | ⟨g0, g1, rfl⟩ | ⟨g0, g1, rfl⟩
     ·go_wp2_with (at_builtin; refine zO rfl (.tmp 67) (.tmp 71) 37 rfl w3.heap.size 47 (.agg #[.int .i64 0, .string .empty]) 2 24 zbB Tryz.underlying37 (by kernel_rfl) rfl (by omega) zbv zb6 _ acc ⟨1, mark⟩ rfl ((Hrow.out.alloc _).alloc _) _ rfl (Blk.new1 wr _ _ _) (by omega) (by omega) (zM (zM hbs _) _) ?_; intro A3 c3 w4 hrow3 hb3 _);have Hr3 := zf hrow3;have Hb3 := zf (((hbr.out.alloc hbs _).alloc (zM hbs _) (.cells #[.int .i64 1, .string mark] 47)).trans hb3);have Hx := zf (show acc ++ [⟨1, mark⟩] = zee bars runs (k + 1) by rw [Hs.out, hacc.out]);clear hrow3 hb3 hbr hacc lk1;go_wp2;go_roundw
      case rel => exact ⟨k + 1, by omega, by go_num, ⟨_, Hr3.out, Hx⟩, Hb3⟩
      case measure => simp [intOf]; omega
     ·go_wp2_with (at_builtin; refine zO rfl (.tmp 76) (.tmp 80) 37 rfl w3.heap.size 47 (.agg #[.int .i64 0, .string .empty]) 2 24 zbB Tryz.underlying37 (by kernel_rfl) rfl (by omega) zbv zb6 _ acc ⟨2, mark⟩ rfl ((Hrow.out.alloc _).alloc _) _ rfl (Blk.new1 wr _ _ _) (by omega) (by omega) (zM (zM hbs _) _) ?_; intro A3 c3 w4 hrow3 hb3 _);have Hr3 := zf hrow3;have Hb3 := zf (((hbr.out.alloc hbs _).alloc (zM hbs _) (.cells #[.int .i64 2, .string mark] 47)).trans hb3);have Hx := zf (show acc ++ [⟨2, mark⟩] = zee bars runs (k + 1) by rw [Hs.out, hacc.out]);clear hrow3 hb3 hbr hacc lk1;go_wp2;go_roundw
      case rel => exact ⟨k + 1, by omega, by go_num, ⟨_, Hr3.out, Hx⟩, Hb3⟩
      case measure => simp [intOf]; omega
     ·have Hx := zf (show acc = zee bars runs (k + 1) by rw [Hs.out, hacc.out, zbj]);have Hb3 := zf (hbr.out.alloc hbs (.cells #[.string mark, .int .i64 size, .int .i64 count, .int .i64 code, .slice A' dn c'] 50));clear hbr hacc;go_wp2;go_roundw
      case rel => exact ⟨k + 1, by omega, by go_num, ⟨_, Hrow.out.alloc _, Hx⟩, Hb3⟩
      case measure => simp [intOf]; omega
    ·obtain rfl : k = n := by omega
     have HB := zf (zg HW3.out hbr.out (ze _));have HF := zf (zg8 HW3.out.size Hrow.out);have Hac := zf (show acc = zbt bars runs by rw [hacc.out, Hall.out]);clear hacc hbr Hrow hal;go_wp2;go_ret2;rw [← Hac.out];exact ⟨Ao, co, rfl, HF.out, HB.out⟩
end Go.Proofs.YtpaanfjjnjjoeaaGreat
namespace Go.Proofs.YtpaanfjjnjjoeaaGreat
open Go.RowKit
theorem znx {x : LaidD} {b : BoxD} (h : zaR x = some b) : b ∈ zy x.pts := List.mem_of_find?_eq_some h
theorem zk4 {x : DetD} {p : Nat} {l : LaidD} (h : (zx x.bars x.runs)[p]? = some l) : (zU x)[p]? = some (zaK l) := by
 rw [zU, zaH, h]
 rfl
theorem zhA {x : DetD} (hok : zaj x.bars x.runs = true) {p : Nat} {l : LaidD} (h : (zx x.bars x.runs)[p]? = some l) {b : BoxD} (hb : zaR l = some b) : zad (zaK l).leg = true ∧ za1 (zaK l).size = true := by
 have e : zaK l = ⟨b, true, l.bar.size, l.bar.mark⟩ := by rw [zaK, hb]
 rw [e];exact ⟨zjR l.pts (zeV x.runs p l (zap hok).2.2 h).1 b (znx hb), zgC hok (zmQ hok h)⟩
structure LapR (x : DetD) (j : JoinD) (p q : Nat) (a b : MainD) : Prop where
 at1 : j = ⟨p, q⟩
 a1 : (zU x)[p]? = some a
 b1 : (zU x)[q]? = some b
 la : zad a.leg = true
 lb : zad b.leg = true
 sa : za1 a.size = true
 sb : za1 b.size = true
theorem zpP {x : DetD} (h : zah x = true) {j : JoinD} (hj : j ∈ x.laps) : ∃ p q a b, LapR x j p q a b := by
 have hok := (zaG h).2.1;have hr := zgW h j hj;have hl := (zat hok).1;have hf := ziN.1 (zgd _ _ _ (zf5 h) j hj);obtain ⟨f, s⟩ := j;simp only at hr hf;obtain ⟨p, rfl⟩ : ∃ p : Nat, f = p := ⟨f.toNat, by omega⟩;obtain ⟨q, rfl⟩ : ∃ q : Nat, s = q := ⟨s.toNat, by omega⟩;obtain ⟨l, hp⟩ : ∃ l, (zx x.bars x.runs)[p]? = some l := ⟨_, zi (by omega)⟩;obtain ⟨k, hq⟩ : ∃ l, (zx x.bars x.runs)[q]? = some l := ⟨_, zi (by omega)⟩;have hpk := hf.2.2.2.2;rw [zaz, zaz, zY, zY, zaH, zaH, hp, hq] at hpk;simp only [Option.map_some, Option.getD_some] at hpk;cases h1 : zaR l with
 | none => rw [h1] at hpk; simp [zlu] at hpk
 | some b1 =>
  cases h2 : zaR k with
  | none => rw [h1, h2] at hpk; simp [zlu] at hpk
  | some b2 => exact ⟨p, q, zaK l, zaK k, rfl, zk4 hp, zk4 hq, (zhA hok hp h1).1, (zhA hok hq h2).1, (zhA hok hp h1).2, (zhA hok hq h2).2⟩
theorem zf1 {ms : List MainD} {p : Nat} {a : MainD} (h : ms[p]? = some a) : zcD ms (p : Int) = a := by
 rw [zcD, zaz, zY, h]
 rfl
theorem zo5 {a b : Int} (ha : za1 a = true) (hb : za1 b = true) : za1 (min a b) = true := by
 rcases Int.le_total a b with h | h
 ·rw [Int.min_eq_left h]; exact ha
 ·rw [Int.min_eq_right h]; exact hb
def zgi (x : DetD) (k : Nat) : List FinD := (x.laps.take k).flatMap (zjj x.mem x.rule (zU x))
theorem zo1 {x : DetD} {k p q : Nat} {j : JoinD} {a b : MainD} (hj : x.laps[k]? = some j) (h : LapR x j p q a b) : zgi x (k + 1) = zgi x k ++ zgt x.mem x.rule a b := by
 rw [zgi, zgi, zQ hj, zae, List.flatMap_singleton, zjj, h.at1];rw [zf1 h.a1, zf1 h.b1]
theorem zk6 (x : DetD) (k : Nat) (hk : k ≤ x.laps.length) : (zgi x k).length ≤ 2 * k := by
 have key : ∀ l : List JoinD, (l.flatMap (zjj x.mem x.rule (zU x))).length ≤ 2 * l.length := by
  intro l
  induction l with
  | nil => simp
  | cons j l ih =>
   have h1 : (zjj x.mem x.rule (zU x) j).length ≤ 2 := by
    unfold zjj zgt;rw [zC]
    split <;> split <;> simp
   rw [zaf, zC, zac];omega
 have := key (x.laps.take k);rw [zG] at this;unfold zgi;omega
theorem zjM (A : Option Addr) (ms : List MainD) (n c p q : Nat) (a b : MainD) (w : World) {B : Nat} (h : MainsAt w B A ms) (hB : B ≤ w.heap.size) (hn : n = ms.length) (_hm : n ≤ 2000) (ha : ms[p]? = some a) (hb : ms[q]? = some b) :
  Calls Tryz.prog 59 #[.slice A n c, .agg #[.int .i64 (p : Int), .int .i64 (q : Int)]] w fun e w' => e = .returned (.agg #[.int .i64 b.leg.lo.1, .int .i64 a.leg.hi.1]) ∧ Below w.heap.size w w' := by
 have hp := zaa ha;have hq := zaa hb;obtain ⟨g, off, x, rfl, hbl, hx, hcx⟩ := MainsAt.get (k := p) h hp;obtain ⟨g', off', y, hA', _, hy, hcy⟩ := MainsAt.get (k := q) h hq;injection hA' with hA'
 injection hA' with hA1 hA2
 subst hA1;subst hA2;obtain rfl : x = a := by rw [hx] at ha; injection ha
 obtain rfl : y = b := by rw [hy] at hb; injection hb
 have u3 := hcx 3 _ rfl;have v0 := hcy 0 _ rfl;simp only [Nat.add_zero] at v0;have p1 : (p : Int) < (n : Int) := by omega
 have q1 : (q : Int) < (n : Int) := by omega
 have p2 : (0 : Int) ≤ (p : Int) := by omega
 have q2 : (0 : Int) ≤ (q : Int) := by omega
 have p3 : p < n := by omega
 have q3 : q < n := by omega
 have hgw : g < w.heap.size := by omega
 have hgw1 : g < w.heap.size + 1 := by omega
 have hgw2 : g < w.heap.size + 1 + 1 := by omega
 obtain ⟨hi, hhi⟩ : ∃ d, d = x.leg.hi.1 := ⟨_, rfl⟩;obtain ⟨lo, hlo⟩ : ∃ d, d = y.leg.lo.1 := ⟨_, rfl⟩;rw [← hhi] at u3 ⊢;rw [← hlo] at v0 ⊢;have HW := zf (zH w (.cells #[.int .i64 (p : Int), .int .i64 (q : Int)] 73) (.cells #[.int .i64 0, .int .i64 0] 77));have KR := zf (Blk.new1 w (.cells #[.int .i64 (p : Int), .int .i64 (q : Int)] 73) 77 #[.int .i64 0, .int .i64 0]);have KJ := zf ((Blk.new w 73 #[.int .i64 (p : Int), .int .i64 (q : Int)]).alloc (.cells #[.int .i64 0, .int .i64 0] 77));obtain ⟨w1, hw1⟩ : ∃ w1, w1 = (w.alloc (.cells #[.int .i64 (p : Int), .int .i64 (q : Int)] 73)).alloc (.cells #[.int .i64 0, .int .i64 0] 77) := ⟨_, rfl⟩;rw [← hw1] at HW KR KJ;have u3' : w1.cell? ⟨g, off + p * 9 + 3, none⟩ = some (.int .i64 hi) := by rw [HW.out.cell (by exact hgw)]; exact u3
 have v0' : w1.cell? ⟨g, off + q * 9, none⟩ = some (.int .i64 lo) := by rw [HW.out.cell (by exact hgw)]; exact v0
 have j0 := KJ.out.cell 0;have j1 := KJ.out.cell 1;simp at j0 j1;have lj := KJ.out.lt;have r0 := KR.out.cell 0;have r1 := KR.out.cell 1;simp at r0 r1;have f0 := KR.out.frozen 0;have f1 := KR.out.frozen 1;have lr := KR.out.lt;have HW1 := zf hw1;clear h hn ha hb hx hy hcx hcy hbl u3 v0 hw1 hhi hlo hp hq hB;go_enter Tryz.func59, Tryz.ntmps59;go_wp2_with fail;rw [← HW1.out]
 go_still_tail 17, (by kernel_rfl)
 change wpList _ _ _ _ _ (World.drew w1);go_wp2_with fail;refine bodyPost_ret (zaU rfl rfl (((KR.out.drew).set_ 0 _).set_ 1 _) Tryz.underlying77 rfl (by kernel_rfl)) rfl ?_;refine ⟨by simp only [zzD, zzE, zzF], ?_⟩;exact ((HW.out.drew).setCell (p := ⟨w.heap.size + 1, 0, none⟩) (zN _ _) _).setCell (p := ⟨w.heap.size + 1, 1, none⟩) (zN _ _) _
def zbC (l : List FinD) : Int := if 1000 < l.length then 4 else 0
def zc5 (l : List FinD) : List FinD := if 1000 < l.length then [] else l
theorem zn0 (m : MemD) (A1 A2 A3 A4 : Option Addr) (n1 n2 n3 n4 c1 c2 c3 c4 : Nat) (bars : List BarD) (runs : List RunD) (w : World) {B : Nat} (h1 : BoxesAt w B A1 m.boxes) (h2 : BoxesAt w B A2 m.holes) (h3 : BarsAt w B A3 bars) (h4 : RunsAt w B A4 runs) (hB : B ≤ w.heap.size)
  (l1 : n1 = m.boxes.length) (l2 : n2 = m.holes.length) (l3 : n3 = bars.length) (l4 : n4 = runs.length) (m3 : n3 ≤ 60000) (m4 : n4 ≤ 60000) (hnm : m.name.size ≤ maxLen) (htame : zer bars) (hmem : zdj m = true) (hok : zaj bars runs = true) :
  Calls Tryz.prog 54 #[zgY m A1 n1 c1 A2 n2 c2, .slice A3 n3 c3, .slice A4 n4 c4] w fun e w' => e = .returned (.tuple #[.int .i64 (zD runs), .int .i64 0]) ∧ Below w.heap.size w w' := by
 have HV := zf (fun (W : World) (hz : Below w.heap.size w W) => zfZ m A1 A2 n1 n2 c1 c2 W (h1.carry (Flat.carried _) (hz.mono hB) (ze _)) (h2.carry (Flat.carried _) (hz.mono hB) (ze _)) (zh hB hz.size) l1 l2 hnm);rw [hmem] at HV;have HC := zf (fun (W : World) (hz : Below w.heap.size w W) => zeQ A3 bars n3 c3 A4 runs n4 c4 W (h3.carry (hz.mono hB) (ze _)) (h4.carry (Flat.carried _) (hz.mono hB) (ze _)) (zh hB hz.size) l3 l4 m3 m4 htame hok);obtain ⟨name, boxes, holes, cover, agg, poker⟩ := m;have HW := zf (zk w (.cells #[.string name, .slice A1 n1 c1, .slice A2 n2 c2, .int .i64 cover, .int .i64 agg, .int .i64 poker] 26));generalize zD runs = cn at *;clear h1 h2 h3 h4 hB l1 l2 l3 l4 htame hmem hok hnm;go_enter Tryz.func54, Tryz.ntmps54;go_wp2_with fail;refine (HV.out _ HW.out).mono ?_;rintro e w1 ⟨rfl, hb⟩;replace HW := zf (zg HW.out hb (ze _));clear hb HV;go_wp2_with fail;refine (HC.out _ HW.out).mono ?_;rintro e w2 ⟨rfl, hb⟩;replace HW := zf (zg HW.out hb (ze _));clear hb HC;go_wp2;go_ret2;exact ⟨rfl, HW.out⟩
def zg2 (m : MemD) (l : List LaidD) (q : Nat) : List FinD := zbE m (l.take q)
theorem zpv {m : MemD} {l : List LaidD} {q : Nat} {x : LaidD} (h : l[q]? = some x) : zg2 m l (q + 1) = zg2 m l q ++ zel m x := by
 rw [zg2, zg2, zQ h, zbE, zbE, zae];simp
theorem zro (m : MemD) (l : List LaidD) : zg2 m l l.length = zbE m l := by rw [zg2, zF]
theorem zmo (m : MemD) (x : LaidD) : (zel m x).length ≤ 1 := by
 unfold zel
 split <;> simp
theorem zgg (m : MemD) : ∀ l : List LaidD, (zbE m l).length ≤ l.length := by
 intro l
 induction l with
 | nil => simp [zbE]
 | cons x l ih =>
  have h1 := zmo m x;simp only [zbE, zaf, zC, zac] at ih ⊢;omega
theorem zn1 (HSL : zbU) (HCL : zbV) (m : MemD) (A1 A2 A3 A4 : Option Addr) (n1 n2 n3 n4 c1 c2 c3 c4 : Nat) (bars : List BarD) (runs : List RunD) (w : World) {B : Nat} (h1 : BoxesAt w B A1 m.boxes) (h2 : BoxesAt w B A2 m.holes) (h3 : BarsAt w B A3 bars) (h4 : RunsAt w B A4 runs) (hB : B ≤ w.heap.size)
  (l1 : n1 = m.boxes.length) (l2 : n2 = m.holes.length) (l3 : n3 = bars.length) (l4 : n4 = runs.length) (m3 : n3 ≤ 60000) (m4 : n4 ≤ 60000) (hnm : m.name.size ≤ maxLen) (htame : zer bars) (hmem : zdj m = true) (hok : zaj bars runs = true) :
  Calls Tryz.prog 20 #[zgY m A1 n1 c1 A2 n2 c2, .slice A3 n3 c3, .slice A4 n4 c4] w fun e w' => ∃ A c, e = .returned (.tuple #[.slice A (zc5 (zbE m (zx bars runs))).length c, .int .i64 (zbC (zbE m (zx bars runs)))]) ∧ FinRow w.heap.size w' A (zc5 (zbE m (zx bars runs))).length c (zc5 (zbE m (zx bars runs))) ∧ Below w.heap.size w w' := by
 have hsol : zaZ m.boxes m.holes = true := by simp only [zdj, zm] at hmem; exact hmem.1.1.1.2
 have HN0 := zf (fun (W : World) (hz : Below w.heap.size w W) => zn0 m A1 A2 A3 A4 n1 n2 n3 n4 c1 c2 c3 c4 bars runs W (h1.carry (Flat.carried _) (hz.mono hB) (ze _)) (h2.carry (Flat.carried _) (hz.mono hB) (ze _)) (h3.carry (hz.mono hB) (ze _)) (h4.carry (Flat.carried _) (hz.mono hB) (ze _)) (zh hB hz.size) l1 l2 l3 l4 m3 m4 hnm htame hmem hok);have HBr := zf (fun (i : Nat) (ld : LaidD) (hld : (zx bars runs)[i]? = some ld) (W : World) (hz : Below w.heap.size w W) => zrp HSL HCL m A1 A2 A3 A4 n1 n2 n3 n4 c1 c2 c3 c4 bars runs i ld W (h1.carry (Flat.carried _) (hz.mono hB) (ze _)) (h2.carry (Flat.carried _) (hz.mono hB) (ze _)) (h3.carry (hz.mono hB) (ze _)) (h4.carry (Flat.carried _) (hz.mono hB) (ze _)) (zh hB hz.size) l1 l2 l3 l4 m3 m4 htame hsol hok hld);have hNe := (zat hok).1;have hN2 := (zat hok).2;generalize zx bars runs = L at *;obtain ⟨N, hN⟩ : ∃ N, N = L.length := ⟨_, rfl⟩;rw [← hN] at hNe hN2;rw [← hNe] at HN0;have HN := zf hN;have Hts := zf (fun (q : Nat) (x : LaidD) (h : L[q]? = some x) => zpv (m := m) h);have Hta := zf (show zg2 m L N = zbE m L by rw [hN]; exact zro m L);have Htl := zf (fun (q : Nat) => show (zg2 m L q).length ≤ q from zh (zgg m _) (List.length_take_le _ _));have Ht0 := zf (show zg2 m L 0 = [] from rfl);have Hcf := zf (fun (x : LaidD) => show zel m x = (if zd8 m x.bar.size (zy x.pts) < m.cover then [⟨1, x.bar.mark⟩] else []) from rfl);obtain ⟨CT, hCT⟩ : ∃ CT, CT = zg2 m L := ⟨_, rfl⟩;rw [← hCT] at Hts Hta Htl Ht0;obtain ⟨F, hF⟩ : ∃ F, F = zbE m L := ⟨_, rfl⟩;rw [← hF] at Hta ⊢;obtain ⟨CF, hCF⟩ : ∃ CF, CF = zel m := ⟨_, rfl⟩;rw [← hCF] at Hts Hcf;obtain ⟨LO, hLO⟩ : ∃ LO, LO = zd8 m := ⟨_, rfl⟩;have HBx := zf (fun (i : Nat) (ld : LaidD) (hld : L[i]? = some ld) (W : World) (hz : Below w.heap.size w W) => show Calls Tryz.prog 55 #[zgY m A1 n1 c1 A2 n2 c2, .slice A3 n3 c3, .slice A4 n4 c4, .int .i64 (i : Int)] W fun e w' => e = .returned (.tuple #[.int .i64 (LO ld.bar.size (zy ld.pts)), .string ld.bar.mark, .int .i64 0]) ∧ Below W.heap.size W w' by rw [hLO]; exact HBr.out i ld hld W hz);rw [← hLO] at Hcf;obtain ⟨name, boxes, holes, cover, agg, poker⟩ := m;simp only at Hcf;have KM := zf (Blk.new w 26 #[.string name, .slice A1 n1 c1, .slice A2 n2 c2, .int .i64 cover, .int .i64 agg, .int .i64 poker]);have HW := zf (zk w (.cells #[.string name, .slice A1 n1 c1, .slice A2 n2 c2, .int .i64 cover, .int .i64 agg, .int .i64 poker] 26));have s0 := KM.out.cell 0;have s1 := KM.out.cell 1;have s2 := KM.out.cell 2;have s3 := KM.out.cell 3;have s4 := KM.out.cell 4;have s5 := KM.out.cell 5;simp at s0 s1 s2 s3 s4 s5;clear h1 h2 h3 h4 hB l1 l2 l3 l4 hnm htame hmem hsol hok hNe hN hCT hF hCF hLO HBr s0 s1 s2 s3 s4 s5;go_enter Tryz.func20, Tryz.ntmps20;go_wp2_with fail;refine (HN0.out _ HW.out).mono ?_;rintro e w1 ⟨rfl, hb⟩;replace KM := zf (KM.out.keep hb);replace HW := zf (zg HW.out hb (ze _));have hg1 := KM.out.lt;clear hb HN0;go_wp2;go_loopw [10, 26] (fun vv iv wr => ∃ q : Nat, q ≤ N ∧ iv = .int .i64 q ∧ (∃ acc : List FinD, Row wr w1.heap.size 47 2 zbB vv acc ∧ Hid (acc = CT q)) ∧ Below w1.heap.size w1 wr) (fun _ iv _ => N - (intOf iv).toNat)
 case atStart => exact ⟨0, zu _, rfl, ⟨[], Row.nil _ _ _ _ _, zf Ht0.out.symm⟩, Below.refl _ _⟩
 case round =>
  obtain ⟨q, hq, rfl, ⟨acc, hrow, hacc⟩, hbr⟩ := hrel;obtain ⟨A0, c0, rfl⟩ := hrow.val;have hal : acc.length ≤ q := by rw [hacc.out]; exact Htl.out q
  by_cases hlt : q < N
  ·obtain ⟨ld, hld⟩ : ∃ ld, L[q]? = some ld := ⟨_, zi (by rw [← HN.out]; exact hlt)⟩;have Hnx := zf (Hts.out q ld hld);have HBq := zf (HBx.out q ld hld);have Hcq := zf (Hcf.out ld);obtain ⟨cf, hcf⟩ : ∃ q, q = CF ld := ⟨_, rfl⟩;rw [← hcf] at Hnx Hcq;obtain ⟨lo, hlo⟩ : ∃ q, q = LO ld.bar.size (zy ld.pts) := ⟨_, rfl⟩;rw [← hlo] at HBq Hcq;obtain ⟨mark, hmk⟩ : ∃ q, q = ld.bar.mark := ⟨_, rfl⟩;rw [← hmk] at HBq Hcq;have K := zf (KM.out.below hbr hg1);have s0 := K.out.cell 0;have s1 := K.out.cell 1;have s2 := K.out.cell 2;have s3 := K.out.cell 3;have s4 := K.out.cell 4;have s5 := K.out.cell 5;simp at s0 s1 s2 s3 s4 s5;have lm := K.out.lt;have Hrow := zf hrow;have HBr := zf hbr;clear hld hcf hlo hmk hrow hbr;go_wp2_with fail;refine (HBq.out _ (zg HW.out HBr.out (ze _))).mono ?_;rintro e w2 ⟨rfl, hb⟩;replace K := zf (K.out.keep hb);replace Hrow := zf (Hrow.out.keep hb);replace HBr := zf (zg HBr.out hb (ze _));have hs2 := HBr.out.size;clear hb HBq s0 s1 s2 s3 s4 s5 lm;have s3 := K.out.cell 3;simp at s3;have lm := K.out.lt;by_cases hc : lo < cover
   ·have dc : decide (lo < cover) = true := by simp; omega
    have Hf := zf (show CT (q + 1) = acc ++ [⟨1, mark⟩] by rw [Hnx.out, Hcq.out, if_pos hc, hacc.out]);clear hc Hnx Hcq hacc;go_wp2_with (at_builtin; refine zO rfl (.tmp 45) (.tmp 48) 37 rfl w1.heap.size 47 (.agg #[.int .i64 0, .string .empty]) 2 24 zbB Tryz.underlying37 (by kernel_rfl) rfl (by omega) zbv zb6 _ acc ⟨1, mark⟩ rfl (Hrow.out.alloc _) _ rfl (Blk.new w2 _ _) (by omega) (by omega) (zM hs2 _) ?_; intro A3 c3 w4 hrow3 hb3 _);have Hr3 := zf hrow3;have Hb3 := zf ((HBr.out.alloc hs2 (.cells #[.int .i64 1, .string mark] 47)).trans hb3);clear hrow3 hb3;go_wp2;go_roundw
    case rel => exact ⟨q + 1, by omega, by go_num, ⟨_, Hr3.out, zf Hf.out.symm⟩, Hb3.out⟩
    case measure => simp [intOf]; omega
   ·have dc : decide (lo < cover) = false := by simp; omega
    have Hf := zf (show CT (q + 1) = acc by rw [Hnx.out, Hcq.out, if_neg hc, hacc.out, zbj]);clear hc Hnx Hcq hacc;go_wp2;go_roundw
    case rel => exact ⟨q + 1, by omega, by go_num, ⟨acc, Hrow.out, zf Hf.out.symm⟩, HBr.out⟩
    case measure => simp [intOf]; omega
  ·obtain rfl : q = N := by omega
   have hf : acc = F := by rw [hacc.out, Hta.out]
   have HB9 := zf (zg HW.out hbr (ze _));have HF := zf (zg8 HW.out.size hrow);clear hbr hrow hacc Hta Hts;by_cases hc : 1000 < acc.length
   ·have He := zf (show zbC F = 4 by rw [← hf, zbC, if_pos hc]);have Hr := zf (show zc5 F = [] by rw [← hf, zc5, if_pos hc]);have dc : decide (1000 < (acc.length : Int)) = true := by simp; omega
    clear hf HF;generalize acc.length = ln at *;go_wp2;go_ret2;exact ⟨none, 0, by rw [He.out, Hr.out]; rfl, by rw [Hr.out]; exact Row.nil _ _ _ _ _, HB9.out⟩
   ·have He := zf (show zbC F = 0 by rw [← hf, zbC, if_neg hc]);have Hr := zf (show zc5 F = acc by rw [← hf, zc5, if_neg hc]);have dc : decide (1000 < (acc.length : Int)) = false := by simp; omega
    clear hf;obtain ⟨ln, hln⟩ : ∃ q, q = acc.length := ⟨_, rfl⟩;rw [← hln] at dc hc hal ⊢;have Hln := zf hln;clear hln;go_wp2;go_ret2;exact ⟨A0, c0, by rw [He.out, Hr.out, Hln.out] <;> rfl, by rw [Hr.out]; exact HF.out, HB9.out⟩
theorem zg5 (x : DetD) (s : DetS) (k : Nat) (j : JoinD) (w : World) {B : Nat} (h : DetAt w B x s) (hB : B ≤ w.heap.size) (hf : DetFit x s) (hd : zah x = true) (hj : x.laps[k]? = some j) :
  Calls Tryz.prog 30 #[zcZ x s, .int .i64 (k : Int)] w fun e w' => e = .returned (.tuple #[.agg #[.int .i64 (ze2 (zU x) j).1, .int .i64 (ze2 (zU x) j).2], .int .i64 0]) ∧ Below w.heap.size w w' := by
 have HL := zf (fun (W : World) (hz : Below w.heap.size w W) => show Calls Tryz.prog 56 #[.agg (zp x.mem x.rule s)] W fun e w' => zm3 x W e w' from zhB x s W (h.carry (hz.mono hB) (ze _)) (zh hB hz.size) hf);have H5 := zf (fun (W : World) (hz : Below w.heap.size w W) => SlOf.carry (Flat.carried _) h.h5 (hz.mono hB) (ze B));have Hd := zf hd;have L5 := zf hf.l5;have hkn : k < s.n5 := by rw [hf.l5]; exact zaa hj
 have hm5 : s.n5 ≤ 60000 := hf.m5;have HBB := zf hB;obtain ⟨p, q, a, b, hr⟩ := zpP hd (zv hj);obtain rfl : j = ⟨p, q⟩ := hr.at1;have Hms := zf (show (zU x).length = (zx x.bars x.runs).length ∧ (zU x).length ≤ 2000 from ⟨zw .., by rw [zU, zw]; exact (zat (zaG hd).2.1).2⟩);have HO := zf (fun (A : Option Addr) (c : Nat) (W : World) (hA : MainsAt W W.heap.size A (zU x)) => zjM A (zU x) (zx x.bars x.runs).length c p q a b W hA (ze _) Hms.out.1.symm (by rw [← Hms.out.1]; exact Hms.out.2) hr.a1 hr.b1);have e1 : (ze2 (zU x) ⟨p, q⟩).1 = b.leg.lo.1 := by show (zcD (zU x) (q : Int)).leg.lo.1 = _; rw [zf1 hr.b1]
 have e2 : (ze2 (zU x) ⟨p, q⟩).2 = a.leg.hi.1 := by show (zcD (zU x) (p : Int)).leg.hi.1 = _; rw [zf1 hr.a1]
 rw [e1, e2];generalize b.leg.lo.1 = v1 at *;generalize a.leg.hi.1 = v2 at *;have Hj := zf hj;have HC8 := zf (show (zp x.mem x.rule s)[8]? = some (.slice s.a5 s.n5 s.c5) from rfl);have K0 := zf ((Blk.new w 34 (zp x.mem x.rule s)).alloc (.cells #[.int .i64 0, .int .i64 0] 77));have KZ := zf (Blk.new1 w (.cells (zp x.mem x.rule s) 34) 77 #[.int .i64 0, .int .i64 0]);have HW := zf (zH w (.cells (zp x.mem x.rule s) 34) (.cells #[.int .i64 0, .int .i64 0] 77));have Hi := zf (show (Tryz.prog.info? 34).map (·.size) = some 19 by kernel_rfl);have Hsz := zf (show (zp x.mem x.rule s).size = 19 from rfl)
 show Calls Tryz.prog 30 #[.agg (zp x.mem x.rule s), .int .i64 (k : Int)] w _
 generalize zp x.mem x.rule s = C at *;obtain ⟨a1, n1, c1, a2, n2, c2, a3, n3, c3, a4, n4, c4, a5, n5, c5, a6, n6, c6⟩ := s;simp only at H5 L5 hkn hm5 HC8;clear h hB hf hd hj hr e1 e2;go_enter Tryz.func30, Tryz.ntmps30;go_wp2_with (refine wpList_load_row rfl 34 (.tmp 2) rfl w.heap.size rfl 34 _ (0, 0) _ K0.out Tryz.underlying34 rfl (by rw [Hsz.out]; exact Hi.out) ?_);refine (HL.out _ HW.out).mono ?_;rintro e w1 (⟨h9, _⟩ | ⟨_, A, c, rfl, hma, hb⟩)
 ·rw [Hd.out] at h9;cases h9
 replace K0 := zf (K0.out.keep hb);replace KZ := zf (KZ.out.keep hb);replace HW := zf (zg HW.out hb (ze _));have HA := zf (show MainsAt w1 w1.heap.size A (zU x) from hma);clear hb hma HL;have e8 := (K0.out.cell 8).trans HC8.out;have lk := K0.out.lt;obtain ⟨b', off, y, hA5, hbl, hy, c0, c1'⟩ := JoinsAt.get (k := k) (H5.out w1 HW.out) (by rw [← L5.out]; exact hkn);obtain rfl : y = ⟨p, q⟩ := by rw [Hj.out] at hy; injection hy with hy; exact hy.symm
 subst hA5;simp only at c0 c1';have lb : b' < w1.heap.size := zt hbl (zh HBB.out HW.out.size);have q0 : decide ((k : Int) < 0) = false := by simp
 have q1 : decide ((n5 : Int) ≤ (k : Int)) = false := by simp; omega
 have q2 : decide (n5 ≤ k) = false := by simp; omega
 have q3 : (0 : Int) ≤ (k : Int) := by omega
 have q4 : (k : Int) < (n5 : Int) := by omega
 have HOo := zf (HO.out A c w1 HA.out);generalize (zx x.bars x.runs).length = nl at *;clear hy hbl HO HA;go_wp2_with fail;refine HOo.out.mono ?_;rintro e w2 ⟨rfl, hb⟩;replace KZ := zf (KZ.out.keep hb);replace HW := zf (zg HW.out hb (ze _));clear hb HOo e8 lk c0 c1' lb;go_wp2_with (refine wpList_store_row rfl 77 (.tmp 4) (.tmp 34) rfl (w.heap.size + 1) #[.int .i64 v1, .int .i64 v2] rfl rfl 77 _ KZ.out (by kernel_rfl) rfl (by kernel_rfl) ?_);refine bodyPost_ret (zbK rfl rfl (setRow_heap _ (w.heap.size + 1) _ #[.int .i64 v1, .int .i64 v2] _ _ KZ.out) Tryz.underlying77 rfl (by kernel_rfl)) rfl ?_;exact ⟨rfl, Below.setRow HW.out (zao _) _⟩
def zfM (lo hi frm til : Int) : Bool := decide (frm ≤ lo) && decide (hi ≤ til)
def zgQ (a b : BoxD) : Bool := zfM a.lo.2.1 a.hi.2.1 b.lo.2.1 b.hi.2.1 && zfM a.lo.2.2 a.hi.2.2 b.lo.2.2 b.hi.2.2
def zib (d : DemD) (leg : BoxD) : Bool := (leg.lo.2.1 == leg.hi.2.1) && ((leg.lo.2.2 == leg.hi.2.2) && zgQ leg d.zone)
theorem zh0 (lo hi frm til : Int) (w : World) : Calls Tryz.prog 334 #[.int .i64 lo, .int .i64 hi, .int .i64 frm, .int .i64 til] w fun e w' => e = .returned (.bool (zfM lo hi frm til)) ∧ w' = w := by
 have Hr := zf (show zfM lo hi frm til = (decide (frm ≤ lo) && decide (hi ≤ til)) from rfl);generalize zfM lo hi frm til = t at *;cases h1 : decide (frm ≤ lo)
 ·rw [h1] at Hr;go_enter Tryz.func334, Tryz.ntmps334;go_wp2;go_ret;exact ⟨zo (by rw [Hr.out]; rfl), rfl⟩
 ·rw [h1] at Hr;go_enter Tryz.func334, Tryz.ntmps334;go_wp2;go_ret;exact ⟨zo (by rw [Hr.out]; rfl), rfl⟩
theorem zmn (a b : BoxD) (w : World) : Calls Tryz.prog 311 #[bx a, bx b] w fun e w' => e = .returned (.bool (zgQ a b)) ∧ Below w.heap.size w w' := by
 have H1 := zf (fun W => zh0 a.lo.2.1 a.hi.2.1 b.lo.2.1 b.hi.2.1 W);have H2 := zf (fun W => zh0 a.lo.2.2 a.hi.2.2 b.lo.2.2 b.hi.2.2 W);have Hr := zf (show zgQ a b = (zfM a.lo.2.1 a.hi.2.1 b.lo.2.1 b.hi.2.1 && zfM a.lo.2.2 a.hi.2.2 b.lo.2.2 b.hi.2.2) from rfl);generalize zgQ a b = t at *;obtain ⟨⟨a1, a2, a3⟩, a4, a5, a6⟩ := a;obtain ⟨⟨b1, b2, b3⟩, b4, b5, b6⟩ := b;simp only at H1 H2 Hr;have HW := zf (zH w (.cells #[.int .i64 a1, .int .i64 a2, .int .i64 a3, .int .i64 a4, .int .i64 a5, .int .i64 a6] 62) (.cells #[.int .i64 b1, .int .i64 b2, .int .i64 b3, .int .i64 b4, .int .i64 b5, .int .i64 b6] 62));generalize zfM a2 a5 b2 b5 = t1 at *;generalize zfM a3 a6 b3 b6 = t2 at *
 show Calls Tryz.prog 311 #[.agg #[.int .i64 a1, .int .i64 a2, .int .i64 a3, .int .i64 a4, .int .i64 a5, .int .i64 a6], .agg #[.int .i64 b1, .int .i64 b2, .int .i64 b3, .int .i64 b4, .int .i64 b5, .int .i64 b6]] w _
 go_enter Tryz.func311, Tryz.ntmps311;go_wp2_with fail;refine (H1.out _).mono ?_;rintro e wz ⟨rfl, rfl⟩;cases t1
 ·go_wp2;go_ret;exact ⟨zo (by rw [Hr.out]; rfl), HW.out⟩
 ·go_wp2_with fail;refine (H2.out _).mono ?_;rintro e wz ⟨rfl, rfl⟩;go_wp2;go_ret;exact ⟨zo (by rw [Hr.out]; rfl), HW.out⟩
theorem ztr (d : DemD) (A : Option Addr) (c : Nat) (leg : BoxD) (w : World) {B : Nat} (h : StpsAt w B A d.steps) (hB : B ≤ w.heap.size) (hm : d.name.size ≤ maxLen) (hl : (d.steps.length : Int) ≤ 9223372036854775807) (hd : zeC d = true) (hb : zad leg = true) :
  Calls Tryz.prog 281 #[dmV d A d.steps.length c, bx leg] w fun e w' => e = .returned (.tuple #[.bool (zib d leg), .int .i64 0]) ∧ Below w.heap.size w w' := by
 have HR := zf (fun (W : World) (hz : Below w.heap.size w W) => zgl d A c W (SlOf.carry (Flat.carried _) h (hz.mono hB) (ze _)) (zh hB hz.size) hm hl);rw [hd] at HR;have HV := zf (fun W => za0 leg W);rw [hb] at HV;have HI := zf (fun W => zmn leg d.zone W);have Hr := zf (show zib d leg = ((leg.lo.2.1 == leg.hi.2.1) && ((leg.lo.2.2 == leg.hi.2.2) && zgQ leg d.zone)) from rfl);generalize zib d leg = t at *;generalize zgQ leg d.zone = q at *;clear h hB hm hl hd hb;obtain ⟨name, ⟨⟨x1, x2, x3⟩, x4, x5, x6⟩, l⟩ := d;obtain ⟨⟨a1, a2, a3⟩, a4, a5, a6⟩ := leg;simp only at HR HV HI Hr;have K0 := zf ((Blk.new w 69 #[.string name, .int .i64 x1, .int .i64 x2, .int .i64 x3, .int .i64 x4, .int .i64 x5, .int .i64 x6, .slice A l.length c]).alloc (.cells #[.int .i64 a1, .int .i64 a2, .int .i64 a3, .int .i64 a4, .int .i64 a5, .int .i64 a6] 62));have K1 := zf (Blk.new1 w (.cells #[.string name, .int .i64 x1, .int .i64 x2, .int .i64 x3, .int .i64 x4, .int .i64 x5, .int .i64 x6, .slice A l.length c] 69) 62 #[.int .i64 a1, .int .i64 a2, .int .i64 a3, .int .i64 a4, .int .i64 a5, .int .i64 a6]);have HW := zf (zH w (.cells #[.string name, .int .i64 x1, .int .i64 x2, .int .i64 x3, .int .i64 x4, .int .i64 x5, .int .i64 x6, .slice A l.length c] 69) (.cells #[.int .i64 a1, .int .i64 a2, .int .i64 a3, .int .i64 a4, .int .i64 a5, .int .i64 a6] 62))
 show Calls Tryz.prog 281 #[.agg #[.string name, .int .i64 x1, .int .i64 x2, .int .i64 x3, .int .i64 x4, .int .i64 x5, .int .i64 x6, .slice A l.length c], .agg #[.int .i64 a1, .int .i64 a2, .int .i64 a3, .int .i64 a4, .int .i64 a5, .int .i64 a6]] w _
 go_enter Tryz.func281, Tryz.ntmps281;go_wp2_with fail;refine (HR.out _ HW.out).mono ?_;rintro e w1 ⟨rfl, hb⟩;replace K0 := zf (K0.out.keep hb);replace K1 := zf (K1.out.keep hb);replace HW := zf (zg HW.out hb (ze _));clear hb HR;have e0 := K1.out.cell 0;have e1 := K1.out.cell 1;have e2 := K1.out.cell 2;have e3 := K1.out.cell 3;have e4 := K1.out.cell 4;have e5 := K1.out.cell 5;simp at e0 e1 e2 e3 e4 e5;have l1 := K1.out.lt;go_wp2_with fail;refine (HV.out _).mono ?_;rintro e w2 ⟨rfl, hb⟩;replace K0 := zf (K0.out.keep hb);replace K1 := zf (K1.out.keep hb);replace HW := zf (zg HW.out hb (ze _));clear hb HV e0 e1 e2 e3 e4 e5 l1;have e0 := K1.out.cell 0;have e1 := K1.out.cell 1;have e2 := K1.out.cell 2;have e3 := K1.out.cell 3;have e4 := K1.out.cell 4;have e5 := K1.out.cell 5;have f1 := K0.out.cell 1;have f2 := K0.out.cell 2;have f3 := K0.out.cell 3;have f4 := K0.out.cell 4;have f5 := K0.out.cell 5;have f6 := K0.out.cell 6;simp at e0 e1 e2 e3 e4 e5 f1 f2 f3 f4 f5 f6;have l0 := K0.out.lt;have l1 := K1.out.lt;cases q1 : (a2 == a5)
 ·rw [q1] at Hr;go_wp2;go_ret2;exact ⟨by rw [Hr.out]; rfl, HW.out⟩
 cases q2 : (a3 == a6)
 ·rw [q1, q2] at Hr;go_wp2;go_ret2;exact ⟨by rw [Hr.out]; rfl, HW.out⟩
 rw [q1, q2] at Hr;go_wp2_with fail;refine (HI.out _).mono ?_;rintro e w3 ⟨rfl, hb⟩;replace HW := zf (zg HW.out hb (ze _));clear hb;go_wp2;go_ret2;exact ⟨by rw [Hr.out]; rfl, HW.out⟩
def zdL (l : List (Int × Int)) (x : Int) (i : Nat) : Bool := match l[i]? with | some s => decide (x < s.1) | none => false
def zdv (l : List (Int × Int)) (x : Int) : Int := if zb7 (zdL l x) l.length = 0 then 0 else ((l[zb7 (zdL l x) l.length - 1]?).map (·.2)).getD 0
theorem zp7 (l : List (Int × Int)) (A : Option Addr) (n c k : Nat) (x : Int) (gl gx : Nat) (w : World) {B : Nat} (h : StpsAt w B A l) (hB : B ≤ w.heap.size) (hl : Blk w gl 67 #[.slice A n c]) (hx : Blk w gx 3 #[.int .i64 x]) (hn : n = l.length) (hk : k < n) :
  Calls Tryz.prog 295 #[.int .i64 (k : Int), .pointer (some ⟨gl, 0, none⟩), .pointer (some ⟨gx, 0, none⟩)] w fun e w' => e = .returned (.bool (zdL l x k)) ∧ Below w.heap.size w w' := by
 obtain ⟨b, off, s, rfl, hbl, hs, e1, e2⟩ := StpsAt.get (k := k) h (by rw [← hn]; exact hk);have lb : b < w.heap.size := zt hbl hB;have Hr := zf (show zdL l x k = decide (x < s.1) by rw [zdL, hs]);have c0 := hl.cell 0;have c1 := hx.cell 0;simp at c0 c1;have ll := hl.lt;have lx := hx.lt;clear h hB hl hx hn hs hbl e2;generalize zdL l x k = t at *;cases hq : decide (x < s.1)
 ·rw [hq] at Hr;go_enter Tryz.func295, Tryz.ntmps295;go_wp2_with fail;go_quiet (fail)
  go_wp2;go_ret;exact ⟨zo (by rw [Hr.out]), ⟨rfl, rfl, rfl, ze _, fun _ _ => rfl⟩⟩
 ·rw [hq] at Hr;go_enter Tryz.func295, Tryz.ntmps295;go_wp2_with fail;go_quiet (fail)
  go_wp2;go_ret;exact ⟨zo (by rw [Hr.out]), ⟨rfl, rfl, rfl, ze _, fun _ _ => rfl⟩⟩
theorem zow (p : Nat → Bool) (n : Nat) : zb7 p n ≤ n := (zkT p n 0 n (by omega)).2
theorem zrZ (l : List (Int × Int)) (A : Option Addr) (n c : Nat) (x : Int) (w : World) {B : Nat} (h : StpsAt w B A l) (hB : B ≤ w.heap.size) (hn : n = l.length) (hm : n ≤ 60000) :
  Calls Tryz.prog 256 #[.slice A n c, .int .i64 x] w fun e w' => e = .returned (.int .i64 (zdv l x)) ∧ Below w.heap.size w w' := by
 have KL := (Blk.new w 67 #[.slice A n c]).alloc (.cells #[.int .i64 x] 3);have KX := Blk.new1 w (.cells #[.slice A n c] 67) 3 #[.int .i64 x];have hW := zH w (.cells #[.slice A n c] 67) (.cells #[.int .i64 x] 3);obtain ⟨W0, hW0⟩ : ∃ W0, W0 = (w.alloc (.cells #[.slice A n c] 67)).alloc (.cells #[.int .i64 x] 3) := ⟨_, rfl⟩;rw [← hW0] at KL KX hW;have HSr := zjH (zdL l x) n 295 #[.pointer (some ⟨w.heap.size, 0, none⟩), .pointer (some ⟨w.heap.size + 1, 0, none⟩)] W0 (by omega)
  (fun k W hk hz => zp7 l A n c k x w.heap.size (w.heap.size + 1) W (SlOf.carry (Flat.carried _) h ((zg hW hz (ze _)).mono hB) (ze _)) (zh hB (zg hW hz (ze _)).size) (KL.keep hz) (KX.keep hz) hn hk) Tryz.call295
 have HS := zf HSr;have hle := zow (zdL l x) n;have Hr := zf (show zdv l x = if zb7 (zdL l x) n = 0 then 0 else ((l[zb7 (zdL l x) n - 1]?).map (·.2)).getD 0 by rw [hn]; rfl);have HL := zf (fun (W : World) (hz : Below w.heap.size w W) => SlOf.carry (Flat.carried _) h (hz.mono hB) (ze _));have HB := zf hB;have Hn := zf hn;generalize zb7 (zdL l x) n = sn at *;generalize zdv l x = t at *;have HW := zf hW;have KLh := zf KL;clear h hB hn KL KX HSr hW;go_enter Tryz.func256, Tryz.ntmps256;go_upto_region 1 with fail
 rw [← hW0];clear hW0;have c0 := KLh.out.cell 0;simp at c0;have ll := KLh.out.lt;go_wp2_with fail;refine HS.out.mono ?_;rintro e w2 ⟨rfl, hb⟩;replace HW := zf (zg HW.out hb (ze _));replace KLh := zf (KLh.out.keep hb);clear hb HS c0 ll;by_cases h0 : sn = 0
 ·subst h0;rw [if_pos rfl] at Hr;go_wp2;go_ret;exact ⟨zam (by rw [Hr.out]), HW.out⟩
 ·have hq := h0;rw [if_neg h0] at Hr;obtain ⟨b, off, s, rfl, hbl, hs, e1, e2⟩ := StpsAt.get (k := sn - 1) (HL.out _ HW.out) (by rw [← Hn.out]; omega);have lb : b < w2.heap.size := zt hbl (zh HB.out HW.out.size);rw [hs] at Hr;have c0 := KLh.out.cell 0;simp at c0;have ll := KLh.out.lt;have z1 : IntKind.i64.wrap ((sn : Int) - 1) = ((sn - 1 : Nat) : Int) := by rw [zr _ (by omega)]; omega
  have n0 : ((sn : Int) == 0) = false := by simp; omega
  clear hs hbl e1;go_wp2;go_ret;exact ⟨zam (by rw [Hr.out]; rfl), HW.out⟩
theorem zjE (l : List (Int × Int)) (A : Option Addr) (n c : Nat) (x : Int) (w : World) {B : Nat} (h : StpsAt w B A l) (hB : B ≤ w.heap.size) (hn : n = l.length) (hm : n ≤ 60000) (hok : zau l = true) :
  Calls Tryz.prog 201 #[.slice A n c, .int .i64 x] w fun e w' => e = .returned (.tuple #[.int .i64 (zdv l x), .int .i64 0]) ∧ Below w.heap.size w w' := by
 have HV := zf (zdR A l n c w h hB hn (by omega));rw [hok] at HV;have HA := zf (fun (W : World) (hz : Below w.heap.size w W) => zrZ l A n c x W (SlOf.carry (Flat.carried _) h (hz.mono hB) (ze _)) (zh hB hz.size) hn hm);generalize zdv l x = t at *;clear h hB hn hm hok;go_enter Tryz.func201, Tryz.ntmps201;go_wp2_with fail;refine HV.out.mono ?_;rintro e w1 ⟨rfl, hb⟩;have HW := zf hb;clear hb HV;go_wp2_with fail;refine (HA.out _ HW.out).mono ?_;rintro e w2 ⟨rfl, hb⟩;replace HW := zf (zg HW.out hb (ze _));clear hb HA;go_wp2;go_ret2;exact ⟨rfl, HW.out⟩
def zaE : Int → List (Int × Int) → List (Int × Int)
 | _, [] => []
 | last, s :: r => if s.2 = last then zaE s.2 r else s :: zaE s.2 r
theorem zlR {l : List (Int × Int)} {k : Nat} {s : Int × Int} (h : l[k]? = some s) (last : Int) : zaE last (l.drop k) = if s.2 = last then zaE s.2 (l.drop (k + 1)) else s :: zaE s.2 (l.drop (k + 1)) := by
 have hk := zaa h;rw [zi hk] at h;injection h with h
 rw [List.drop_eq_getElem_cons hk, h, zaE]
theorem zr6 (l : List (Int × Int)) (A : Option Addr) (n c : Nat) (w : World) {B : Nat} (h : StpsAt w B A l) (hB : B ≤ w.heap.size) (hn : n = l.length) (hm : n ≤ 60000) :
  Calls Tryz.prog 283 #[.slice A n c] w fun e w' => ∃ A' c', e = .returned (.slice A' (zaE 0 l).length c') ∧ Row w' w.heap.size 71 2 zaF (.slice A' (zaE 0 l).length c') (zaE 0 l) ∧ Below w.heap.size w w' := by
 have HL := zf (fun (W : World) (hz : Below w.heap.size w W) => SlOf.carry (Flat.carried _) h (hz.mono hB) (ze _));have HB := zf hB;have Hn := zf hn;clear h hB hn;go_enter Tryz.func283, Tryz.ntmps283;go_wp2;go_loopw [3, 4, 9] (fun o la iv wr => ∃ k : Nat, k ≤ n ∧ iv = .int .i64 k ∧ (∃ t : Int, la = .int .i64 t ∧ ∃ (A9 : Option Addr) (c9 : Nat) (acc : List (Int × Int)), o = .slice A9 acc.length c9 ∧ Hid (Row wr w.heap.size 71 2 zaF (.slice A9 acc.length c9) acc) ∧ Hid (acc ++ zaE t (l.drop k) = zaE 0 l) ∧ Hid (acc.length ≤ k)) ∧ Hid (Below w.heap.size w wr)) (fun _ _ iv _ => n - (intOf iv).toNat)
 case atStart => exact ⟨0, zu _, rfl, ⟨0, rfl, none, 0, [], rfl, zf (Row.nil _ _ _ _ _), zf rfl, zf (ze _)⟩, zf (Below.refl _ _)⟩
 case round =>
  obtain ⟨k, hk, rfl, ⟨t, rfl, A9, c9, acc, rfl, hrow, hacc, hlen⟩, hb⟩ := hrel;rename World => wr;by_cases hlt : k < n
  ·obtain ⟨b, off, s, hA, hbl, hs, e1, e2⟩ := StpsAt.get (k := k) (HL.out _ hb.out) (by rw [← Hn.out]; exact hlt);subst hA;have lb : b < wr.heap.size := zt hbl (zh HB.out hb.out.size);obtain ⟨s1, s2⟩ := s;simp only at e1 e2;have Hs := zf (zlR hs t);have KS := zf (Blk.new wr 71 #[.int .i64 s1, .int .i64 s2]);have HR1 := zf (hrow.out.alloc (.cells #[.int .i64 s1, .int .i64 s2] 71));have HB1 := zf (hb.out.alloc hb.out.size (.cells #[.int .i64 s1, .int .i64 s2] 71));have f0 := KS.out.cell 0;have f1 := KS.out.cell 1;simp at f0 f1;have HAP := zf (zcS hrow.out (ze wr.heap.size));clear hs hbl KS hrow;by_cases hq : s2 = t
   ·subst hq;have n0 : (s2 != s2) = false := by simp
    rw [if_pos rfl] at Hs;go_wp2;go_roundw
    case rel => exact ⟨k + 1, by omega, by go_num, ⟨s2, rfl, A9, c9, acc, rfl, HR1, zf (by rw [← hacc.out, Hs.out]), zf (by have := hlen.out; omega)⟩, HB1⟩
    case measure => simp [intOf]; omega
   ·have n0 : (s2 != t) = true := by simpa using hq
    rw [if_neg hq] at Hs;have HR2 := zf (HR1.out.alloc (.cells #[.int .i64 s1, .int .i64 s2] 71));have hsz := hb.out.size;have hs1 : (wr.alloc (.cells #[.int .i64 s1, .int .i64 s2] 71)).heap.size = wr.heap.size + 1 := by simp
    have hy := SlOf.lit zbi (wr.alloc (.cells #[.int .i64 s1, .int .i64 s2] 71)) 71 #[.int .i64 s1, .int .i64 s2] [(s1, s2)] (by simp [zaF]) (zK _);rw [hs1] at hy;have HY := zf hy;clear hy hs1;have hal := hlen.out;go_wp2_with (at_builtin; refine za2 rfl _ _ 67 rfl w.heap.size 71 (.agg #[.int .i64 0, .int .i64 0]) 2 16 zaF Tryz.underlying67 (by kernel_rfl) rfl (by omega) zbi zda _ acc [(s1, s2)] rfl HR2.out (some ⟨wr.heap.size + 1, 0, none⟩) 1 1 rfl rfl HY.out (by omega) (by simp) (by omega) (by simp; omega) ?_; intro A7 c7 w7 hrow7 hb7 hg7; have HR7 := zf hrow7; have HB7 := zf hb7; have KS7 := zf (((Blk.new wr 71 #[.int .i64 s1, .int .i64 s2]).alloc (.cells #[.int .i64 s1, .int .i64 s2] 71)).grown hg7 (show some wr.heap.size ≠ (Value.slice A9 acc.length c9).ownBlock from fun h9 => HAP.out h9.symm)); clear hrow7 hb7 hg7; have g1 := KS7.out.cell 1; simp at g1; have lg := KS7.out.lt);go_roundw
    case rel =>
     have hr7 := HR7.out;have hl7 : (acc ++ [(s1, s2)]).length = acc.length + 1 := by simp
     refine ⟨k + 1, by omega, by go_num, ⟨s2, rfl, A7, c7, acc ++ [(s1, s2)], by rw [hl7], zf (by rw [hl7]; exact hr7), zf (by rw [← hacc.out, Hs.out]; simp), zf (by rw [hl7]; omega)⟩, zf ((HB1.out.alloc HB1.out.size (.cells #[.int .i64 s1, .int .i64 s2] 71)).trans HB7.out)⟩
    case measure => simp [intOf]; omega
  ·obtain rfl : k = n := by omega
   have hl : acc = zaE 0 l := by
    have h9 := hacc.out;rw [Hn.out, zar, zaE, zbj] at h9;exact h9
   have Hl := zf hl;clear hl hacc hlen;go_wp2;go_ret;exact ⟨A9, c9, by rw [← Hl.out]; first | done | rfl | simp, by rw [← Hl.out]; exact hrow.out, hb.out⟩
theorem zkj (l : List (Int × Int)) (A : Option Addr) (n c : Nat) (w : World) {B : Nat} (h : StpsAt w B A l) (hB : B ≤ w.heap.size) (hn : n = l.length) (hm : n ≤ 60000) (hok : zau l = true) :
  Calls Tryz.prog 252 #[.slice A n c] w fun e w' => ∃ A' c', e = .returned (.tuple #[.slice A' (zaE 0 l).length c', .int .i64 0]) ∧ Row w' w.heap.size 71 2 zaF (.slice A' (zaE 0 l).length c') (zaE 0 l) ∧ Below w.heap.size w w' := by
 have HV := zf (zdR A l n c w h hB hn (by omega));rw [hok] at HV;have HA := zf (fun (W : World) (hz : Below w.heap.size w W) => zr6 l A n c W (SlOf.carry (Flat.carried _) h (hz.mono hB) (ze _)) (zh hB hz.size) hn hm);generalize zaE 0 l = L at *;clear h hB hn hm hok;go_enter Tryz.func252, Tryz.ntmps252;go_wp2_with fail;refine HV.out.mono ?_;rintro e w1 ⟨rfl, hb⟩;have HW := zf hb;have hz := hb.size;clear hb HV;go_wp2_with fail;refine (HA.out _ HW.out).mono ?_;rintro e w2 ⟨A2, c2, rfl, hr, hb⟩;have HR := zf hr;replace HW := zf (zg HW.out hb (ze _));clear hb HA hr;go_wp2;go_ret2;refine ⟨A2, c2, rfl, ?_, HW.out⟩;have h9 := HR.out;refine ⟨h9.1, ?_⟩;rcases h9.2 with h3 | ⟨g, cap, cur, h3, h4, r⟩
 ·exact .inl h3
 ·exact .inr ⟨g, cap, cur, h3, zh hz h4, r⟩
def zcx (l : BoxD) : Bool := decide (l.lo.1 < l.hi.1) && ((l.lo.2.1 == l.hi.2.1) && (l.lo.2.2 == l.hi.2.2))
theorem zo7 (l : BoxD) (w : World) : Calls Tryz.prog 332 #[bx l] w fun e w' => e = .returned (.bool (zcx l)) ∧ Below w.heap.size w w' := by
 have Hr := zf (show zcx l = (decide (l.lo.1 < l.hi.1) && ((l.lo.2.1 == l.hi.2.1) && (l.lo.2.2 == l.hi.2.2))) from rfl);generalize zcx l = t at *;obtain ⟨⟨a1, a2, a3⟩, a4, a5, a6⟩ := l;simp only at Hr;have HW := zf (zk w (.cells #[.int .i64 a1, .int .i64 a2, .int .i64 a3, .int .i64 a4, .int .i64 a5, .int .i64 a6] 62))
 show Calls Tryz.prog 332 #[.agg #[.int .i64 a1, .int .i64 a2, .int .i64 a3, .int .i64 a4, .int .i64 a5, .int .i64 a6]] w _
 cases q1 : decide (a1 < a4)
 ·rw [q1] at Hr;go_enter Tryz.func332, Tryz.ntmps332;go_wp2;go_ret;exact ⟨zo (by rw [Hr.out]; rfl), HW.out⟩
 cases q2 : (a2 == a5)
 ·rw [q1, q2] at Hr;go_enter Tryz.func332, Tryz.ntmps332;go_wp2;go_ret;exact ⟨zo (by rw [Hr.out]; rfl), HW.out⟩
 cases q3 : (a3 == a6)
 ·rw [q1, q2, q3] at Hr;go_enter Tryz.func332, Tryz.ntmps332;go_wp2;go_ret;exact ⟨zo (by rw [Hr.out]; rfl), HW.out⟩
 ·rw [q1, q2, q3] at Hr;go_enter Tryz.func332, Tryz.ntmps332;go_wp2;go_ret;exact ⟨zo (by rw [Hr.out]; rfl), HW.out⟩
theorem znS (l : BoxD) (w : World) : Calls Tryz.prog 331 #[bx l] w fun e w' => e = .returned (.bool (!zad l)) ∧ Below w.heap.size w w' := by
  have HV := zf (fun W => za0 l W);generalize zad l = t at *;obtain ⟨⟨a1, a2, a3⟩, a4, a5, a6⟩ := l;have HW := zf (zk w (.cells #[.int .i64 a1, .int .i64 a2, .int .i64 a3, .int .i64 a4, .int .i64 a5, .int .i64 a6] 62));have K0 := zf (Blk.new w 62 #[.int .i64 a1, .int .i64 a2, .int .i64 a3, .int .i64 a4, .int .i64 a5, .int .i64 a6])
  show Calls Tryz.prog 331 #[.agg #[.int .i64 a1, .int .i64 a2, .int .i64 a3, .int .i64 a4, .int .i64 a5, .int .i64 a6]] w _
  go_enter Tryz.func331, Tryz.ntmps331;go_wp2_with fail;refine (HV.out _).mono ?_;rintro e w1 ⟨rfl, hb⟩
  first
    | (have HB := zf (zg HW.out hb (ze _))
       clear hb;go_wp2;go_ret;exact ⟨zo rfl, HB.out⟩)
    | (have HB := zf hb
       clear hb;go_wp2;go_ret;exact ⟨zo rfl, HB.out⟩)
def ze3 (legs : List BoxD) (k : Nat) (p : Pt) : Bool :=
 (decide (1 ≤ k) && ((legs[k - 1]?).map (fun l => zdF l ⟨p, p⟩)).getD false) || ((legs[k + 1]?).map (fun l => zdF l ⟨p, p⟩)).getD false
theorem zkg (a b : BoxD) (w : World) (ha : zad a = true) (hb : zad b = true) : Calls Tryz.prog 333 #[bx a, bx b] w fun e w' => e = .returned (.tuple #[.bool (zdF a b), .int .i64 0]) ∧ Below w.heap.size w w' := by
 have HA := zf (fun W => za0 a W);have HB := zf (fun W => za0 b W);rw [ha] at HA;rw [hb] at HB;have HC := zf (fun W => zjU a b W);generalize zdF a b = t at *;clear ha hb;obtain ⟨⟨a1, a2, a3⟩, a4, a5, a6⟩ := a;obtain ⟨⟨b1, b2, b3⟩, b4, b5, b6⟩ := b;have K0 := zf ((Blk.new w 62 #[.int .i64 a1, .int .i64 a2, .int .i64 a3, .int .i64 a4, .int .i64 a5, .int .i64 a6]).alloc (.cells #[.int .i64 b1, .int .i64 b2, .int .i64 b3, .int .i64 b4, .int .i64 b5, .int .i64 b6] 62));have K1 := zf (Blk.new1 w (.cells #[.int .i64 a1, .int .i64 a2, .int .i64 a3, .int .i64 a4, .int .i64 a5, .int .i64 a6] 62) 62 #[.int .i64 b1, .int .i64 b2, .int .i64 b3, .int .i64 b4, .int .i64 b5, .int .i64 b6]);have HW := zf (zH w (.cells #[.int .i64 a1, .int .i64 a2, .int .i64 a3, .int .i64 a4, .int .i64 a5, .int .i64 a6] 62) (.cells #[.int .i64 b1, .int .i64 b2, .int .i64 b3, .int .i64 b4, .int .i64 b5, .int .i64 b6] 62))
 show Calls Tryz.prog 333 #[.agg #[.int .i64 a1, .int .i64 a2, .int .i64 a3, .int .i64 a4, .int .i64 a5, .int .i64 a6], .agg #[.int .i64 b1, .int .i64 b2, .int .i64 b3, .int .i64 b4, .int .i64 b5, .int .i64 b6]] w _
 go_enter Tryz.func333, Tryz.ntmps333;go_wp2_with fail;refine (HA.out _).mono ?_;rintro e w1 ⟨rfl, hb⟩;replace K0 := zf (K0.out.keep hb);replace K1 := zf (K1.out.keep hb);replace HW := zf (zg HW.out hb (ze _));clear hb HA;go_wp2_with (refine zL (by rfl) 62 (.tmp 3) rfl (w.heap.size + 1) rfl 62 _ (0, 0) _ K1.out Tryz.underlying62 rfl (by kernel_rfl) ?_);refine (HB.out _).mono ?_;rintro e w2 ⟨rfl, hb⟩;replace K0 := zf (K0.out.keep hb);replace K1 := zf (K1.out.keep hb);replace HW := zf (zg HW.out hb (ze _));clear hb HB;go_wp2_with (first
  | (refine zL (by rfl) 62 (.tmp 2) rfl w.heap.size rfl 62 _ (0, 0) _ K0.out Tryz.underlying62 rfl (by kernel_rfl) ?_)
  | (refine zL (by rfl) 62 (.tmp 3) rfl (w.heap.size + 1) rfl 62 _ (0, 0) _ K1.out Tryz.underlying62 rfl (by kernel_rfl) ?_))
 refine (HC.out _).mono ?_;rintro e w3 ⟨rfl, hb⟩;replace HW := zf (zg HW.out hb (ze _));clear hb HC;go_wp2;go_ret2;exact ⟨rfl, HW.out⟩
end Go.Proofs.YtpaanfjjnjjoeaaGreat
