/- Whether a run is right. -/
import Derived.Test.YtpaanfjjnjjoeaaGreatSag
set_option maxHeartbeats 8000000
set_option maxRecDepth 100000
namespace Go.Proofs.YtpaanfjjnjjoeaaGreat
open Go.RowKit
def zff (r : RunD) (k : Int) (q : Pt) : Pt := zbf (zbf q r.place) (zbe k r.step)
def zlv (r : RunD) (k : Int) (q : Pt) : Bool := zJ 1048576 (zff r k q)
theorem zln (p : Pt) : zbf (0, 0, 0) p = p := by simp [zbf]
theorem zei (p : Pt) : zbe 1 p = p := by simp [zbe]
theorem zlo (p s : Pt) : zbf p (zbe 0 s) = p := by simp [zbf, zbe]
theorem zgc (x : BarD) (r : RunD) (k : Int) : zbJ x r k = (zb1 r x).map (zff r k) := by
 rw [zbJ, zb1, zcj, List.map_map];apply List.map_congr_left;intro p _;simp [zff, zln]
theorem zid {bars : List BarD} {r : RunD} {j : Nat} {x : BarD} (hj : idx (zaJ r.mark) bars = (j : Int)) (hx : bars[j]? = some x) : zdD bars r = some x := by
 obtain ⟨y, hy, hp, hno⟩ := zgB hj;rw [hx] at hy;injection hy with hy
 subst hy;rw [zdD, List.find?_eq_some_iff_getElem];have hl := zaa hx;refine ⟨hp, j, hl, by rw [zi hl] at hx; injection hx, fun i hi => ?_⟩;have := hno i _ hi (zi (by omega));rw [this]
 rfl
theorem ziz {r : RunD} {x : BarD} (hok : zcr x = true) (ht : zav r.tx r.ty = true) : ∀ q ∈ zb1 r x, zJ 1572864 q = true := by
 intro q hq;obtain ⟨p, hp, rfl⟩ := List.mem_map.1 hq;rw [zln];exact zik ht (zeU hok p hp) (by omega)
theorem zjO {a b : Pt} (ha : zJ 1572864 a = true) (hb : zJ 1048576 b = true) : zJ 1099511627776 (zbf a b) = true := by
 rw [zab] at ha hb ⊢;simp only [zbf];omega
theorem zkR {s : Pt} {k : Int} (h : zJ 2097152 s = true) (h0 : 0 ≤ k) (h1 : k ≤ 999) : zJ 1099511627776 (zbe k s) = true := by
 obtain ⟨a, b, c⟩ := zab.1 h;have key : ∀ v : Int, -2097152 ≤ v ∧ v ≤ 2097152 → -1099511627776 ≤ k * v ∧ k * v ≤ 1099511627776 := by
  intro v hv;obtain ⟨f, g⟩ := zfm (s := v) h0 h1;rcases Int.le_total 0 v with hs | hs
  ·have := f hs; omega
  ·have := g hs; omega
 rw [zab, zbe];exact ⟨key _ a, key _ b, key _ c⟩
def zh9 (r : RunD) : Bool := decide (r.count ≤ 1) || (!zft r.step && zJ 2097152 r.step)
theorem zsa {bars : List BarD} {r : RunD} {j : Nat} {x : BarD} (hj : idx (zaJ r.mark) bars = (j : Int)) (hx : bars[j]? = some x) (h2 : zav r.tx r.ty = true) (h3 : 1 ≤ r.count) (h4 : r.count ≤ 1000) (h5 : zJ 1048576 r.place = true) :
  zaC bars r = (zh9 r && ((zb1 r x).all (zlv r 0) && ((zb1 r x).all (zlv r (r.count - 1)) && true))) := by
 rw [zaC, zds, zg7, zg7, zid hj hx, hj, h2, h5, zI h3, zI h4, zI (show (0 : Int) ≤ (j : Int) by omega)];simp only [Bool.true_and, Bool.and_true];rw [zgc, zgc, List.all_map, List.all_map, Bool.and_assoc]
 rfl
def zt1 (na : Int → Pt → Bool) (tl : List Pt) (cnt : Int) : Nat → Bool
 | 0 => tl.all (na 0) && (tl.all (na (cnt - 1)) && true)
 | 1 => tl.all (na (cnt - 1)) && true
 | _ => true
theorem zqn (A : Option Addr) (bars : List BarD) (n c : Nat) (r : RunD) (w : World) {B : Nat} (h : BarsAt w B A bars) (hB : B ≤ w.heap.size) (hn : n = bars.length) (hm : n ≤ 60000) (htame : zer bars) (hall : ∀ x ∈ bars, zcr x = true) :
  Calls Tryz.prog 112 #[.slice A n c, zsZ r] w fun e w' => e = .returned (.bool (zaC bars r)) ∧ Below w.heap.size w w' := by
 have HF := fun (W : World) (hz : Below w.heap.size w W) => zhT A bars n c r.mark W (h.carry (hz.mono hB) (ze _)) (zh hB hz.size) hn hm;by_cases hno : idx (zaJ r.mark) bars < 0
 ·have hres := zf (show zaC bars r = false by rw [zaC, zds, zE (by omega)]; rfl);have d0 : decide (idx (zaJ r.mark) bars < 0) = true := by simpa using hno
  generalize zaC bars r = res at *;obtain ⟨mark, tx, ty, ⟨a1, a2, a3⟩, ⟨s1, s2, s3⟩, cnt⟩ := r;simp only at HF d0;generalize idx (zaJ mark) bars = ix at *;have HF := zf HF;have HW := zf (zk w (.cells #[.string mark, .int .i64 tx, .int .i64 ty, .int .i64 a1, .int .i64 a2, .int .i64 a3, .int .i64 s1, .int .i64 s2, .int .i64 s3, .int .i64 cnt] 66));clear h hB hn hm htame hall hno
  show Calls Tryz.prog 112 #[.slice A n c, .agg #[.string mark, .int .i64 tx, .int .i64 ty, .int .i64 a1, .int .i64 a2, .int .i64 a3, .int .i64 s1, .int .i64 s2, .int .i64 s3, .int .i64 cnt]] w _
  go_enter Tryz.func112, Tryz.ntmps112;go_wp2_with fail;refine (HF.out _ HW.out).mono ?_;rintro e w2 ⟨rfl, hb2⟩;have HW2 := zf (zg HW.out hb2 (ze _));clear hb2 HF;go_wp2;go_ret;exact ⟨zo hres.out.symm, HW2.out⟩
 obtain ⟨j, hj⟩ := Int.eq_ofNat_of_zero_le (show 0 ≤ idx (zaJ r.mark) bars by omega);have hrange := zeW (zaJ r.mark) bars;obtain ⟨x, hx⟩ : ∃ x, bars[j]? = some x := ⟨_, zi (by omega)⟩;have hok := hall x (zv hx);have HV := zf (fun (W : World) => zgO r.tx r.ty W);have HI := zf (fun (W : World) => zeo r.place 1048576 W (by omega));have HI2 := zf (fun (W : World) => zeo r.step 2097152 W (by omega));rw [hj] at HF;have HF := zf HF;by_cases hhead : zav r.tx r.ty = true ∧ 1 ≤ r.count ∧ r.count ≤ 1000 ∧ zJ 1048576 r.place = true
 rotate_left
 ·have hres := zf (show zaC bars r = false by
   rw [zaC, zds];cases q2 : zav r.tx r.ty
   ·simp
   by_cases q3 : 1 ≤ r.count
   ·by_cases q4 : r.count ≤ 1000
    ·cases q5 : zJ 1048576 r.place
     ·simp
     ·exact absurd ⟨q2, q3, q4, q5⟩ hhead
    ·simp [q4]
   ·simp [q3])
  have hways : zav r.tx r.ty = false ∨ (zav r.tx r.ty = true ∧ decide (r.count < 1) = true) ∨ (zav r.tx r.ty = true ∧ decide (r.count < 1) = false ∧ decide (1000 < r.count) = true) ∨ (zav r.tx r.ty = true ∧ decide (r.count < 1) = false ∧ decide (1000 < r.count) = false ∧ zJ 1048576 r.place = false) := by
   cases q2 : zav r.tx r.ty
   ·exact .inl rfl
   right
   by_cases q3 : r.count < 1
   ·exact .inl ⟨rfl, by simpa using q3⟩
   right
   by_cases q4 : 1000 < r.count
   ·exact .inl ⟨rfl, by simpa using q3, by simpa using q4⟩
   right
   refine ⟨rfl, by simpa using q3, by simpa using q4, ?_⟩;cases q5 : zJ 1048576 r.place
   ·rfl
   ·exact absurd ⟨q2, by omega, by omega, q5⟩ hhead
  generalize zaC bars r = res at *;obtain ⟨mark, tx, ty, ⟨a1, a2, a3⟩, ⟨s1, s2, s3⟩, cnt⟩ := r;simp only at HF HV HI HI2 hways;have B0 := zf (Blk.new w 66 #[.string mark, .int .i64 tx, .int .i64 ty, .int .i64 a1, .int .i64 a2, .int .i64 a3, .int .i64 s1, .int .i64 s2, .int .i64 s3, .int .i64 cnt]);have HW := zf (zk w (.cells #[.string mark, .int .i64 tx, .int .i64 ty, .int .i64 a1, .int .i64 a2, .int .i64 a3, .int .i64 s1, .int .i64 s2, .int .i64 s3, .int .i64 cnt] 66));clear h hB hn hm htame hall hno hj hrange hx hok hhead HI2;rcases hways with q0 | ⟨q0, q1⟩ | ⟨q0, q1, q2⟩ | ⟨q0, q1, q2, q3⟩
  ·rw [q0] at HV;clear q0 HI
   show Calls Tryz.prog 112 #[.slice A n c, .agg #[.string mark, .int .i64 tx, .int .i64 ty, .int .i64 a1, .int .i64 a2, .int .i64 a3, .int .i64 s1, .int .i64 s2, .int .i64 s3, .int .i64 cnt]] w _
   go_enter Tryz.func112, Tryz.ntmps112;go_wp2_with fail;refine (HF.out _ HW.out).mono ?_;rintro e w2 ⟨rfl, hb2⟩;have HW2 := zf (zg HW.out hb2 (ze _));have k0 := B0.out.keep hb2;have K0 := zf k0;have e1 := k0.cell 1;have e2 := k0.cell 2;have i0 : decide ((j : Int) < 0) = false := by simp
   simp at e1 e2;clear hb2 HF k0;go_wp2_with fail;refine (HV.out _).mono ?_;rintro e w3 ⟨rfl, hb3⟩;have HW3 := zf (zg HW2.out hb3 (ze _));have k0 := K0.out.keep hb3;have K0 := zf k0;have e3 := k0.cell 3;have e4 := k0.cell 4;have e5 := k0.cell 5;have e9 := k0.cell 9;simp at e3 e4 e5 e9;clear hb3 HV k0 e1 e2;go_wp2;go_ret;exact ⟨zo hres.out.symm, HW3.out⟩
  ·rw [q0] at HV;clear q0 HI
   show Calls Tryz.prog 112 #[.slice A n c, .agg #[.string mark, .int .i64 tx, .int .i64 ty, .int .i64 a1, .int .i64 a2, .int .i64 a3, .int .i64 s1, .int .i64 s2, .int .i64 s3, .int .i64 cnt]] w _
   go_enter Tryz.func112, Tryz.ntmps112;go_wp2_with fail;refine (HF.out _ HW.out).mono ?_;rintro e w2 ⟨rfl, hb2⟩;have HW2 := zf (zg HW.out hb2 (ze _));have k0 := B0.out.keep hb2;have K0 := zf k0;have e1 := k0.cell 1;have e2 := k0.cell 2;have i0 : decide ((j : Int) < 0) = false := by simp
   simp at e1 e2;clear hb2 HF k0;go_wp2_with fail;refine (HV.out _).mono ?_;rintro e w3 ⟨rfl, hb3⟩;have HW3 := zf (zg HW2.out hb3 (ze _));have k0 := K0.out.keep hb3;have K0 := zf k0;have e3 := k0.cell 3;have e4 := k0.cell 4;have e5 := k0.cell 5;have e9 := k0.cell 9;simp at e3 e4 e5 e9;clear hb3 HV k0 e1 e2;go_wp2;go_ret;exact ⟨zo hres.out.symm, HW3.out⟩
  ·rw [q0] at HV;clear q0 HI
   show Calls Tryz.prog 112 #[.slice A n c, .agg #[.string mark, .int .i64 tx, .int .i64 ty, .int .i64 a1, .int .i64 a2, .int .i64 a3, .int .i64 s1, .int .i64 s2, .int .i64 s3, .int .i64 cnt]] w _
   go_enter Tryz.func112, Tryz.ntmps112;go_wp2_with fail;refine (HF.out _ HW.out).mono ?_;rintro e w2 ⟨rfl, hb2⟩;have HW2 := zf (zg HW.out hb2 (ze _));have k0 := B0.out.keep hb2;have K0 := zf k0;have e1 := k0.cell 1;have e2 := k0.cell 2;have i0 : decide ((j : Int) < 0) = false := by simp
   simp at e1 e2;clear hb2 HF k0;go_wp2_with fail;refine (HV.out _).mono ?_;rintro e w3 ⟨rfl, hb3⟩;have HW3 := zf (zg HW2.out hb3 (ze _));have k0 := K0.out.keep hb3;have K0 := zf k0;have e3 := k0.cell 3;have e4 := k0.cell 4;have e5 := k0.cell 5;have e9 := k0.cell 9;simp at e3 e4 e5 e9;clear hb3 HV k0 e1 e2;go_wp2;go_ret;exact ⟨zo hres.out.symm, HW3.out⟩
  ·rw [q0] at HV;rw [q3] at HI;clear q0 q3
   show Calls Tryz.prog 112 #[.slice A n c, .agg #[.string mark, .int .i64 tx, .int .i64 ty, .int .i64 a1, .int .i64 a2, .int .i64 a3, .int .i64 s1, .int .i64 s2, .int .i64 s3, .int .i64 cnt]] w _
   go_enter Tryz.func112, Tryz.ntmps112;go_wp2_with fail;refine (HF.out _ HW.out).mono ?_;rintro e w2 ⟨rfl, hb2⟩;have HW2 := zf (zg HW.out hb2 (ze _));have k0 := B0.out.keep hb2;have K0 := zf k0;have e1 := k0.cell 1;have e2 := k0.cell 2;have i0 : decide ((j : Int) < 0) = false := by simp
   simp at e1 e2;clear hb2 HF k0;go_wp2_with fail;refine (HV.out _).mono ?_;rintro e w3 ⟨rfl, hb3⟩;have HW3 := zf (zg HW2.out hb3 (ze _));have k0 := K0.out.keep hb3;have K0 := zf k0;have e3 := k0.cell 3;have e4 := k0.cell 4;have e5 := k0.cell 5;have e9 := k0.cell 9;simp at e3 e4 e5 e9;clear hb3 HV k0 e1 e2;go_wp2_with fail;refine (HI.out _).mono ?_;rintro e w4 ⟨rfl, hb4⟩;have HW4 := zf (zg HW3.out hb4 (ze _));clear hb4 HI;go_wp2;go_ret;exact ⟨zo hres.out.symm, HW4.out⟩
 obtain ⟨h2, h3, h4, h5⟩ := hhead;have hro := zsa hj hx h2 h3 h4 h5;have hways : decide (r.count < 1) = false ∧ decide (1000 < r.count) = false := by simp; omega
 rw [h2] at HV;rw [h5] at HI;have HT := zf (fun (W : World) (hz : Below w.heap.size w W) => zkL A bars n c r x j W (h.carry (hz.mono hB) (ze _)) (zh hB hz.size) hn hm htame hj hx hok h2);have HTn := zf (ziz hok h2);have HPl := zf (fun (q : Pt) (k : Int) => (show zff r k q = zbf (zbf q r.place) (zbe k r.step) from rfl));have Hna := zf (fun (k : Int) (q : Pt) => (show zlv r k q = zJ 1048576 (zff r k q) from rfl));have Hro := zf hro;have Hpl := zf h5;have Htl7 := zf (show (zb1 r x).length ≤ 7 by rw [zf8, zb4]; have := zc9 x.code; omega);have Hst := zf (show zh9 r = (decide (r.count ≤ 1) || (!zft r.step && zJ 2097152 r.step)) from rfl);generalize zaC bars r = res at *;generalize zff r = pl at *;generalize zlv r = na at *;generalize zh9 r = so at *;generalize zb1 r x = tl at *;obtain ⟨mark, tx, ty, ⟨a1, a2, a3⟩, ⟨s1, s2, s3⟩, cnt⟩ := r;simp only at HF HV HI HI2 hways;have B0 := zf (Blk.new w 66 #[.string mark, .int .i64 tx, .int .i64 ty, .int .i64 a1, .int .i64 a2, .int .i64 a3, .int .i64 s1, .int .i64 s2, .int .i64 s3, .int .i64 cnt]);have HW := zf (zk w (.cells #[.string mark, .int .i64 tx, .int .i64 ty, .int .i64 a1, .int .i64 a2, .int .i64 a3, .int .i64 s1, .int .i64 s2, .int .i64 s3, .int .i64 cnt] 66));obtain ⟨q1, q2⟩ := hways;simp only at HT HPl Hro Hst h3 h4;clear h hB hn hm htame hall hno hj hrange hx hok h2 h5 hro
 show Calls Tryz.prog 112 #[.slice A n c, .agg #[.string mark, .int .i64 tx, .int .i64 ty, .int .i64 a1, .int .i64 a2, .int .i64 a3, .int .i64 s1, .int .i64 s2, .int .i64 s3, .int .i64 cnt]] w _
 go_enter Tryz.func112, Tryz.ntmps112;go_wp2_with fail;refine (HF.out _ HW.out).mono ?_;rintro e w2 ⟨rfl, hb2⟩;have HW2 := zf (zg HW.out hb2 (ze _));have k0 := B0.out.keep hb2;have K0 := zf k0;have e1 := k0.cell 1;have e2 := k0.cell 2;have i0 : decide ((j : Int) < 0) = false := by simp
 simp at e1 e2;clear hb2 HF k0;go_wp2_with fail;refine (HV.out _).mono ?_;rintro e w3 ⟨rfl, hb3⟩;have HW3 := zf (zg HW2.out hb3 (ze _));have k0 := K0.out.keep hb3;have K0 := zf k0;have e3 := k0.cell 3;have e4 := k0.cell 4;have e5 := k0.cell 5;have e9 := k0.cell 9;simp at e3 e4 e5 e9;clear hb3 HV k0 e1 e2;go_wp2_with fail;refine (HI.out _).mono ?_;rintro e w4 ⟨rfl, hb4⟩;have HW4 := zf (zg HW3.out hb4 (ze _));have k0 := K0.out.keep hb4;have K0 := zf k0;have e6 := k0.cell 6;have e7 := k0.cell 7;have e8 := k0.cell 8;have e9 := k0.cell 9;simp at e6 e7 e8 e9;clear hb4 HI k0 e3 e4 e5;go_upto_region 3 with fail
 go_cut [52] from 38 (fun v W => v = .bool (!so) ∧ Below w4.heap.size w4 W)
 case first =>
  by_cases hc1 : 1 < cnt
  ·have d1 : decide (1 < cnt) = true := by simpa using hc1
   have Hso := zf (show so = (!zft (s1, s2, s3) && zJ 2097152 (s1, s2, s3)) by rw [Hst.out, zE (by omega)]; rfl);by_cases z0 : s1 = 0 ∧ s2 = 0 ∧ s3 = 0
   ·obtain ⟨rfl, rfl, rfl⟩ := z0;have Hs2 := zf (show (!so) = true by rw [Hso.out]; rfl);clear Hso Hst HI2 HT HPl Hna Hro;go_wp2_with fail;go_meet;exact ⟨by rw [Hs2.out], Below.refl _ _⟩
   ·have hns : zft (s1, s2, s3) = false := by
     rw [Bool.eq_false_iff];intro hq;simp only [zft, zm, zzJ] at hq;exact z0 ⟨hq.1.1, hq.1.2, hq.2⟩
    have Hs2 := zf (show (!so) = !(zJ 2097152 (s1, s2, s3)) by rw [Hso.out, hns]; rfl);obtain ⟨nb, hnb⟩ : ∃ nb, nb = zJ 2097152 (s1, s2, s3) := ⟨_, rfl⟩;rw [← hnb] at Hs2 HI2;clear hnb Hso Hst HT HPl Hna Hro hns;have Hz0 := zf z0;clear z0;go_wp2_with fail
    all_goals subst_vars
    ·exact absurd ⟨rfl, rfl, rfl⟩ Hz0.out
    all_goals
     refine (HI2.out _).mono ?_;rintro e w5 ⟨rfl, hb5⟩;clear HI2;go_wp2_with fail;go_meet;exact ⟨by rw [Hs2.out], hb5⟩
  ·have d1 : decide (1 < cnt) = false := by simpa using hc1
   have Hso := zf (show so = true by rw [Hst.out, zI (by omega)]; rfl);go_wp2_with fail;go_meet;exact ⟨by rw [Hso.out]; rfl, Below.refl _ _⟩
 case rest =>
  obtain ⟨rfl, hbc⟩ := hcut;have HWc := zf (zg HW4.out hbc (ze _));have K0 := zf (K0.out.keep hbc);clear hbc HI2 e6 e7 e8 e9;cases so
  ·have hres := zf (show res = false by rw [Hro.out]; rfl);clear HT HPl Hna Hro;go_wp2;go_ret;exact ⟨zo hres.out.symm, HWc.out⟩
  have HTc := zf (HT.out _ HWc.out);have r0 := K0.out.cell 0;have r1 := K0.out.cell 1;have r2 := K0.out.cell 2;have r3 := K0.out.cell 3;have r4 := K0.out.cell 4;have r5 := K0.out.cell 5;have r6 := K0.out.cell 6;have r7 := K0.out.cell 7;have r8 := K0.out.cell 8;have r9 := K0.out.cell 9;simp at r0 r1 r2 r3 r4 r5 r6 r7 r8 r9;have Hstep := zf (fun (hc : 1 < cnt) => (show zJ 2097152 (s1, s2, s3) = true by
   have h9 := Hst.out;rw [zE (by omega), Bool.false_or] at h9;exact (Bool.and_eq_true_iff.1 h9.symm).2))
  have Hr0 := zf (show res = (tl.all (na 0) && (tl.all (na (cnt - 1)) && true)) by rw [Hro.out]; rfl);clear HT Hro Hst;go_wp2_with fail;refine HTc.out.mono ?_;rintro e w6 ⟨A5, c5, rfl, hpts, hb6⟩;have HW6 := zf (zg HWc.out hb6 (ze _));have k0 := K0.out.keep hb6;have e9 := k0.cell 9;simp at e9;have K0 := zf k0;have Hpts := zf hpts;have sw : IntKind.i64.wrap (cnt - 1) = cnt - 1 := zr _ (by omega);have hl0 := k0.lt;obtain ⟨ln, hln⟩ : ∃ ln, ln = tl.length := ⟨_, rfl⟩;rw [← hln];have hln7 : ln ≤ 7 := by rw [hln]; exact Htl7.out
  have Hln := zf hln;clear hb6 hpts HTc k0 hln r0 r1 r2 r3 r4 r5 r6 r7 r8 r9;go_wp2_with fail;have ks := Blk.new w6 3 #[.int .i64 0, .int .i64 (cnt - 1)];have h67 := zk w6 (.cells #[.int .i64 0, .int .i64 (cnt - 1)] 3);obtain ⟨w7, hw7⟩ : ∃ w7, w7 = w6.alloc (.cells #[.int .i64 0, .int .i64 (cnt - 1)] 3) := ⟨_, rfl⟩;rw [← hw7] at ks h67 ⊢;have KS0 := zf ks;have H67 := zf h67;clear ks h67 hw7 e9 sw;go_loopw [61] (fun i wr => ∃ k : Nat, k ≤ 2 ∧ i = .int .i64 k ∧ Hid (res = zt1 na tl cnt k) ∧ Below w7.heap.size w7 wr) (fun i _ => 2 - (intOf i).toNat)
  case atStart => exact ⟨0, by omega, rfl, Hr0, Below.refl _ _⟩
  case round =>
   clear Hr0;obtain ⟨k, hk, rfl, hres, hbo⟩ := hrel;have KS := zf (KS0.out.below hbo KS0.out.lt);have hq := hres.out;rcases k with _ | _ | _ | k
   ·have u0 := KS.out.cell 0;simp at u0;go_wp2;go_loopw [67] (fun i wi => ∃ m : Nat, m ≤ ln ∧ i = .int .i64 m ∧ Hid (res = ((tl.drop m).all (na (0)) && (tl.all (na (cnt - 1)) && true))) ∧ Below w7.heap.size w7 wi) (fun i _ => ln - (intOf i).toNat)
    case atStart => exact ⟨0, zu _, rfl, zf hq, hbo⟩
    case round =>
     clear u0 hq hbo KS;obtain ⟨m, hm, rfl, hq, hbi⟩ := hrel;have HWi := zf (H67.out.trans (hbi.mono H67.out.size));by_cases hmt : m < ln
     ·obtain ⟨bq, oq, ⟨x1, x2, x3⟩, rfl, hbl, hxq, p0, p1, p2⟩ := PtsAt.get (k := m) (Hpts.out.carry (Flat.carried _) HWi.out (ze _)) (by rw [← Hln.out]; exact hmt);have kk := (K0.out.below HWi.out K0.out.lt);have e3 := kk.cell 3;have e4 := kk.cell 4;have e5 := kk.cell 5;have e6 := kk.cell 6;have e7 := kk.cell 7;have e8 := kk.cell 8;simp at e3 e4 e5 e6 e7 e8;have hkl := kk.lt;have hbq : bq < wr.heap.size := by have := HWi.out.size; omega
      have Hq2 := zf (hq.out.trans (by rw [zaX hxq, List.all_cons, Hna.out, HPl.out]));have Hxn := zf (HTn.out _ (zv hxq));have HP1 := zf (fun (W : World) => zfG (x1, x2, x3) (a1, a2, a3) 1 W (zak (HTn.out _ (zv hxq)) (by omega)) (by rw [zei]; exact zak Hpl.out (by omega)));simp only at p0 p1 p2;clear hq hxq hbl kk;go_wp2_with fail;refine (HP1.out _).mono ?_;rintro e wj ⟨q1, rfl, hq1, hbj⟩;have hwrj := ((zk wr (.cells #[.int .i64 x1, .int .i64 x2, .int .i64 x3] 60)).trans (hbj.mono (by simp)));have HWj := zf (zg HWi.out hwrj (ze _));have Hbj := zf (zg hbi hwrj (ze _));have hzz := hq1.out;rw [zei] at hzz;rw [← hzz] at Hq2;have Hzz := zf hzz;obtain ⟨z1, z2, z3⟩ := q1;clear hbj hq1 hwrj e3 e4 e5 e6 e7 e8 p0 p1 p2 HP1 hzz;have Hq3 := zf (show res = (zJ 1048576 (z1, z2, z3) && ((tl.drop (m + 1)).all (na (0)) && (tl.all (na (cnt - 1)) && true))) by rw [Hq2.out, zlo, Bool.and_assoc]);have HI3 := zf (fun (W : World) => zeo (z1, z2, z3) 1048576 W (by omega));obtain ⟨nb, hnb⟩ : ∃ nb, nb = zJ 1048576 (z1, z2, z3) := ⟨_, rfl⟩;rw [← hnb] at Hq3 HI3;have HWk := zf (HWj.out.alloc HWj.out.size (.cells #[.int .i64 z1, .int .i64 z2, .int .i64 z3] 60));have Hbk := zf (Hbj.out.alloc Hbj.out.size (.cells #[.int .i64 z1, .int .i64 z2, .int .i64 z3] 60));clear hnb Hq2 Hzz;go_wp2_with fail;refine (HI3.out _).mono ?_;rintro e wl ⟨rfl, hbl2⟩;have Hbl := zf (zg Hbk.out hbl2 (ze _));have HWl := zf (zg HWk.out hbl2 (ze _));clear hbl2 HI3 HWj Hbj HWk Hbk;cases nb
      ·have hres2 := zf (show res = false by rw [Hq3.out]; rfl);go_wp2;go_ret;exact ⟨zo hres2.out.symm, zg HW6.out HWl.out (ze _)⟩
      ·have Hq4 := zf (Hq3.out.trans (Bool.true_and _));clear Hq3;go_wp2;go_roundw
       case rel => (first | exact ⟨m + 1, by omega, by go_num, Hq4, Hbl.out⟩ | ((repeat apply Exists.intro); exact ⟨⟨m + 1, by omega, by go_num, Hq4, Hbl.out⟩, rfl⟩))
       case measure => simp [intOf]; omega
     ·obtain rfl : m = ln := by omega
      have hend := zf (show res = (tl.all (na (cnt - 1)) && true) by rw [hq.out, Hln.out, zar]; rfl);have Hbi := zf hbi;clear hq hbi;go_wp2;go_roundw
      case rel => (first | exact ⟨1, by omega, by go_num, hend, Hbi.out⟩ | ((repeat apply Exists.intro); exact ⟨⟨1, by omega, by go_num, hend, Hbi.out⟩, rfl⟩))
      case measure => simp [intOf]
   ·by_cases hc1 : 1 < cnt
    ·have u0 := KS.out.cell 1;simp at u0;go_wp2;go_loopw [67] (fun i wi => ∃ m : Nat, m ≤ ln ∧ i = .int .i64 m ∧ Hid (res = ((tl.drop m).all (na (cnt - 1)) && true)) ∧ Below w7.heap.size w7 wi) (fun i _ => ln - (intOf i).toNat)
     case atStart => exact ⟨0, zu _, rfl, zf hq, hbo⟩
     case round =>
      clear u0 hq hbo KS;obtain ⟨m, hm, rfl, hq, hbi⟩ := hrel;have HWi := zf (H67.out.trans (hbi.mono H67.out.size));by_cases hmt : m < ln
      ·obtain ⟨bq, oq, ⟨x1, x2, x3⟩, rfl, hbl, hxq, p0, p1, p2⟩ := PtsAt.get (k := m) (Hpts.out.carry (Flat.carried _) HWi.out (ze _)) (by rw [← Hln.out]; exact hmt);have kk := (K0.out.below HWi.out K0.out.lt);have e3 := kk.cell 3;have e4 := kk.cell 4;have e5 := kk.cell 5;have e6 := kk.cell 6;have e7 := kk.cell 7;have e8 := kk.cell 8;simp at e3 e4 e5 e6 e7 e8;have hkl := kk.lt;have hbq : bq < wr.heap.size := by have := HWi.out.size; omega
       have Hq2 := zf (hq.out.trans (by rw [zaX hxq, List.all_cons, Hna.out, HPl.out]));have Hxn := zf (HTn.out _ (zv hxq));have HP1 := zf (fun (W : World) => zfG (x1, x2, x3) (a1, a2, a3) 1 W (zak (HTn.out _ (zv hxq)) (by omega)) (by rw [zei]; exact zak Hpl.out (by omega)));simp only at p0 p1 p2;clear hq hxq hbl kk;go_wp2_with fail;refine (HP1.out _).mono ?_;rintro e wj ⟨q1, rfl, hq1, hbj⟩;have hwrj := ((zk wr (.cells #[.int .i64 x1, .int .i64 x2, .int .i64 x3] 60)).trans (hbj.mono (by simp)));have HWj := zf (zg HWi.out hwrj (ze _));have Hbj := zf (zg hbi hwrj (ze _));have hzz := hq1.out;rw [zei] at hzz;rw [← hzz] at Hq2;have Hzz := zf hzz;obtain ⟨z1, z2, z3⟩ := q1;clear hbj hq1 hwrj e3 e4 e5 e6 e7 e8 p0 p1 p2 HP1 hzz;have HP2 := zf (fun (W : World) => zfG (z1, z2, z3) (s1, s2, s3) (cnt - 1) W (by rw [Hzz.out]; exact zjO Hxn.out Hpl.out) (zkR (Hstep.out hc1) (by omega) (by omega)));have dk : decide (0 < cnt - 1) = true := by simp; omega
       have kk := K0.out.below HWj.out K0.out.lt;have f6 := kk.cell 6;have f7 := kk.cell 7;have f8 := kk.cell 8;simp at f6 f7 f8;have hkl2 := kk.lt;have KT := zf (Blk.new wj 60 #[.int .i64 z1, .int .i64 z2, .int .i64 z3]);have HWk := zf (HWj.out.alloc HWj.out.size (.cells #[.int .i64 z1, .int .i64 z2, .int .i64 z3] 60));have Hbk := zf (Hbj.out.alloc Hbj.out.size (.cells #[.int .i64 z1, .int .i64 z2, .int .i64 z3] 60));have hwj7 := zf Hbj.out.size;have hwj6 := zf HWj.out.size;clear kk;go_wp2_with fail;refine (HP2.out _).mono ?_;rintro e wk ⟨q2, rfl, hq2, hbk⟩;have kt := KT.out.keep hbk;have t0 := kt.cell 0;have t1 := kt.cell 1;have t2 := kt.cell 2;have t3 := kt.frozen 0;have t4 := kt.frozen 1;have t5 := kt.frozen 2;simp at t0 t1 t2;have HWl := zf (zg HWk.out hbk (ze _));have Hbl := zf (zg Hbk.out hbk (ze _));have h2 := hq2.out;rw [Hzz.out] at h2;have Hq3 := zf (show res = (zJ 1048576 q2 && ((tl.drop (m + 1)).all (na (cnt - 1)) && true)) by rw [Hq2.out, Bool.and_assoc, h2, Hzz.out]);obtain ⟨y1, y2, y3⟩ := q2;have HI3 := zf (fun (W : World) => zeo (y1, y2, y3) 1048576 W (by omega));obtain ⟨nb, hnb⟩ : ∃ nb, nb = zJ 1048576 (y1, y2, y3) := ⟨_, rfl⟩;rw [← hnb] at Hq3 HI3;clear hnb Hq2 Hzz h2 hq2 hbk kt f6 f7 f8 HP2 KT HWj Hbj HWk Hbk;go_wp2_with fail;refine (HI3.out _).mono ?_;rintro e wl ⟨rfl, hbl2⟩;have HWm := zf (zg (((HWl.out.setCell (p := ⟨wj.heap.size, 0, none⟩) hwj6.out (.int .i64 y1)).setCell (p := ⟨wj.heap.size, 1, none⟩) hwj6.out (.int .i64 y2)).setCell (p := ⟨wj.heap.size, 2, none⟩) hwj6.out (.int .i64 y3)) hbl2 (ze _));have Hbm := zf (zg (((Hbl.out.setCell (p := ⟨wj.heap.size, 0, none⟩) hwj7.out (.int .i64 y1)).setCell (p := ⟨wj.heap.size, 1, none⟩) hwj7.out (.int .i64 y2)).setCell (p := ⟨wj.heap.size, 2, none⟩) hwj7.out (.int .i64 y3)) hbl2 (ze _));clear hbl2 HI3 HWl Hbl t0 t1 t2 t3 t4 t5;cases nb
       ·have hres2 := zf (show res = false by rw [Hq3.out]; rfl);go_wp2;go_ret;exact ⟨zo hres2.out.symm, zg HW6.out HWm.out (ze _)⟩
       ·have Hq4 := zf (Hq3.out.trans (Bool.true_and _));clear Hq3;go_wp2;go_roundw
        case rel => (first | exact ⟨m + 1, by omega, by go_num, Hq4, Hbm.out⟩ | ((repeat apply Exists.intro); exact ⟨⟨m + 1, by omega, by go_num, Hq4, Hbm.out⟩, rfl⟩))
        case measure => simp [intOf]; omega
      ·obtain rfl : m = ln := by omega
       have hend := zf (show res = true by rw [hq.out, Hln.out, zar]; rfl);have Hbi := zf hbi;clear hq hbi;go_wp2;go_roundw
       case rel => (first | exact ⟨2, by omega, by go_num, hend, Hbi.out⟩ | ((repeat apply Exists.intro); exact ⟨⟨2, by omega, by go_num, hend, Hbi.out⟩, rfl⟩))
       case measure => simp [intOf]
    ·have hk0 : cnt - 1 = 0 := by omega
     have hq0 : res = (tl.all (na 0) && true) := by rw [← hk0]; exact hq
     rw [hk0] at KS;clear hq hk0;have hq := hq0;clear hq0;have u0 := KS.out.cell 1;simp at u0;go_wp2;go_loopw [67] (fun i wi => ∃ m : Nat, m ≤ ln ∧ i = .int .i64 m ∧ Hid (res = ((tl.drop m).all (na (0)) && true)) ∧ Below w7.heap.size w7 wi) (fun i _ => ln - (intOf i).toNat)
     case atStart => exact ⟨0, zu _, rfl, zf hq, hbo⟩
     case round =>
      clear u0 hq hbo KS;obtain ⟨m, hm, rfl, hq, hbi⟩ := hrel;have HWi := zf (H67.out.trans (hbi.mono H67.out.size));by_cases hmt : m < ln
      ·obtain ⟨bq, oq, ⟨x1, x2, x3⟩, rfl, hbl, hxq, p0, p1, p2⟩ := PtsAt.get (k := m) (Hpts.out.carry (Flat.carried _) HWi.out (ze _)) (by rw [← Hln.out]; exact hmt);have kk := (K0.out.below HWi.out K0.out.lt);have e3 := kk.cell 3;have e4 := kk.cell 4;have e5 := kk.cell 5;have e6 := kk.cell 6;have e7 := kk.cell 7;have e8 := kk.cell 8;simp at e3 e4 e5 e6 e7 e8;have hkl := kk.lt;have hbq : bq < wr.heap.size := by have := HWi.out.size; omega
       have Hq2 := zf (hq.out.trans (by rw [zaX hxq, List.all_cons, Hna.out, HPl.out]));have Hxn := zf (HTn.out _ (zv hxq));have HP1 := zf (fun (W : World) => zfG (x1, x2, x3) (a1, a2, a3) 1 W (zak (HTn.out _ (zv hxq)) (by omega)) (by rw [zei]; exact zak Hpl.out (by omega)));simp only at p0 p1 p2;clear hq hxq hbl kk;go_wp2_with fail;refine (HP1.out _).mono ?_;rintro e wj ⟨q1, rfl, hq1, hbj⟩;have hwrj := ((zk wr (.cells #[.int .i64 x1, .int .i64 x2, .int .i64 x3] 60)).trans (hbj.mono (by simp)));have HWj := zf (zg HWi.out hwrj (ze _));have Hbj := zf (zg hbi hwrj (ze _));have hzz := hq1.out;rw [zei] at hzz;rw [← hzz] at Hq2;have Hzz := zf hzz;obtain ⟨z1, z2, z3⟩ := q1;clear hbj hq1 hwrj e3 e4 e5 e6 e7 e8 p0 p1 p2 HP1 hzz;have Hq3 := zf (show res = (zJ 1048576 (z1, z2, z3) && ((tl.drop (m + 1)).all (na (0)) && true)) by rw [Hq2.out, zlo, Bool.and_assoc]);have HI3 := zf (fun (W : World) => zeo (z1, z2, z3) 1048576 W (by omega));obtain ⟨nb, hnb⟩ : ∃ nb, nb = zJ 1048576 (z1, z2, z3) := ⟨_, rfl⟩;rw [← hnb] at Hq3 HI3;have HWk := zf (HWj.out.alloc HWj.out.size (.cells #[.int .i64 z1, .int .i64 z2, .int .i64 z3] 60));have Hbk := zf (Hbj.out.alloc Hbj.out.size (.cells #[.int .i64 z1, .int .i64 z2, .int .i64 z3] 60));clear hnb Hq2 Hzz;go_wp2_with fail;refine (HI3.out _).mono ?_;rintro e wl ⟨rfl, hbl2⟩;have Hbl := zf (zg Hbk.out hbl2 (ze _));have HWl := zf (zg HWk.out hbl2 (ze _));clear hbl2 HI3 HWj Hbj HWk Hbk;cases nb
       ·have hres2 := zf (show res = false by rw [Hq3.out]; rfl);go_wp2;go_ret;exact ⟨zo hres2.out.symm, zg HW6.out HWl.out (ze _)⟩
       ·have Hq4 := zf (Hq3.out.trans (Bool.true_and _));clear Hq3;go_wp2;go_roundw
        case rel => (first | exact ⟨m + 1, by omega, by go_num, Hq4, Hbl.out⟩ | ((repeat apply Exists.intro); exact ⟨⟨m + 1, by omega, by go_num, Hq4, Hbl.out⟩, rfl⟩))
        case measure => simp [intOf]; omega
      ·obtain rfl : m = ln := by omega
       have hend := zf (show res = true by rw [hq.out, Hln.out, zar]; rfl);have Hbi := zf hbi;clear hq hbi;go_wp2;go_roundw
       case rel => (first | exact ⟨2, by omega, by go_num, hend, Hbi.out⟩ | ((repeat apply Exists.intro); exact ⟨⟨2, by omega, by go_num, hend, Hbi.out⟩, rfl⟩))
       case measure => simp [intOf]
   ·have hres2 := zf (show res = true by rw [hq]; rfl);go_wp2;go_ret;exact ⟨zo hres2.out.symm, zg HW6.out (H67.out.trans (hbo.mono H67.out.size)) (ze _)⟩
   ·omega
end Go.Proofs.YtpaanfjjnjjoeaaGreat
