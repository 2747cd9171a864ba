/- supply.chains: the laid bars and the chains of a valid detail. -/
import Derived.Test.YtpaanfjjnjjoeaaGreatSay
import Derived.Test.YtpaanfjjnjjoeaaGreatSaz
set_option maxHeartbeats 8000000
set_option maxRecDepth 100000
namespace Go.Proofs.YtpaanfjjnjjoeaaGreat
open Go.RowKit
theorem zpb {c : List Int} (h : 0 < c.length) : c[c.length - 1]? = some (c.getLastD 0) := by
 cases c with
 | nil => simp at h
 | cons a r => rw [List.getLastD_cons, ← List.getLast?_eq_getElem?]; simp [List.getLast?_cons]
theorem ztk {c : List Int} (h : 0 < c.length) : c[0]? = some (c.headD 0) := by
 cases c with
 | nil => simp at h
 | cons a r => rfl
theorem zlg {w : World} {base c B : Nat} {A : Option Addr} {acc : List ChnX} (h : Row w base 283 5 zbM (.slice A acc.length c) acc) (hB : B ≤ w.heap.size) (hb : ∀ q ∈ acc, Ints w B q.A q.ch.bars) : ChnsW w w.heap.size A (acc.map (·.ch)) :=
 SlOf.read_as (·.ch) (h.read zdB (by omega)) (fun q hq => ⟨q.A, q.c, rfl, (hb q hq).carry (Below.refl _ _) hB⟩)
theorem ztE (a b c d e f : Int) (w : World) : (Instr.field 62 (.agg #[.int .i64 a, .int .i64 b, .int .i64 c, .int .i64 d, .int .i64 e, .int .i64 f]) 0).run Tryz.prog w = .ok (.agg #[.int .i64 a, .int .i64 b, .int .i64 c]) w := by kernel_rfl
theorem zrG (a b c d e f : Int) (w : World) : (Instr.field 62 (.agg #[.int .i64 a, .int .i64 b, .int .i64 c, .int .i64 d, .int .i64 e, .int .i64 f]) 1).run Tryz.prog w = .ok (.agg #[.int .i64 d, .int .i64 e, .int .i64 f]) w := by kernel_rfl
theorem ptX (a b c : Int) (w : World) : (Instr.field 60 (.agg #[.int .i64 a, .int .i64 b, .int .i64 c]) 0).run Tryz.prog w = .ok (.int .i64 a) w := by kernel_rfl
theorem zox (x : DetD) (s : DetS) (w : World) {B : Nat} (h : DetAt w B x s) (hB : B ≤ w.heap.size) (hf : DetFit x s) (hd : zah x = true) :
    Calls Tryz.prog 279 #[zcZ x s] w fun e w' => ∃ A c A2 c2, e = .returned (.tuple #[.slice A (zx x.bars x.runs).length c, .slice A2 (zfy x).length c2, .int .i64 0]) ∧ RodsW w' w'.heap.size A (zx x.bars x.runs) ∧ ChnsW w' w'.heap.size A2 (zfy x) ∧ Below w.heap.size w w' := by
  have hok := (zaG hd).2.1;have hrule : zbH x.rule = true := by
    simp only [zah, zcI, zm] at hd;exact hd.1.1.2
  have hmem : zdj x.mem = true := by
    simp only [zah, zcI, zm] at hd;exact hd.1.1.1.1.1
  have HV := zf (fun (W : World) (hz : Below w.heap.size w W) => show Calls Tryz.prog 61 #[.agg (zp x.mem x.rule s)] W _ from zdO x s W (h.carry (hz.mono hB) (ze _)) (zh hB hz.size) hf);rw [hd] at HV;have HR := zf (fun (W : World) (hz : Below w.heap.size w W) => show Calls Tryz.prog 304 #[.agg (zp x.mem x.rule s)] W _ from zr3 x s W (h.carry (hz.mono hB) (ze _)) (zh hB hz.size) hf hok);have HC := zf (fun (W : World) (hz : Below w.heap.size w W) => show Calls Tryz.prog 305 #[.agg (zp x.mem x.rule s)] W _ from zmd x s W (h.carry (hz.mono hB) (ze _)) (zh hB hz.size) hf hd);have HE := zf (fun (ld : LaidD) (hl : ld ∈ zx x.bars x.runs) (W : World) (B2 : Nat) (hz : Below w.heap.size w W) (hB2 : B2 ≤ W.heap.size) (hBB : B ≤ B2) (da : Option Addr) (dc : Nat) (la : Option Addr) (lc : Nat) (hi : Ints W B2 da ld.bar.dims) (hb : BoxesAt W B2 la (zy ld.pts)) =>
    ztp x.rule x.mem ld.bar (zy ld.pts) s.a1 s.a2 da la s.n1 s.n2 s.c1 s.c2 dc lc W (h.h1.carry (Flat.carried _) (hz.mono hB) hBB) (h.h2.carry (Flat.carried _) (hz.mono hB) hBB) hi hb hB2 hf.l1 hf.l2 hf.name
      (hf.tame _ (by obtain ⟨j, _, hj⟩ := (zc6 hok hl).line; exact zv hj)).1 (hf.tame _ (by obtain ⟨j, _, hj⟩ := (zc6 hok hl).line; exact zv hj)).2 (zh (zc6 hok hl).few (by decide)) hrule hmem (zc6 hok hl).bar (zc6 hok hl).boxes (zc6 hok hl).lens)
  have Hrod := zf (fun (ld : LaidD) (hl : ld ∈ zx x.bars x.runs) => zc6 hok hl);have Hrng := zf (fun (ld : LaidD) (hl : ld ∈ zx x.bars x.runs) (h0 : 0 ≤ zaB ld) => zsK hrule (zc6 hok hl) h0);have Hrm := zf (fun (ld : LaidD) (hl : ld ∈ zx x.bars x.runs) (h0 : 0 ≤ zaB ld) => zld (m := x.mem) hrule (zlI (zc6 hok hl).bar) h0);have Hch := zf (fun (c : List Int) (hc : c ∈ zcO x) => zh2 hd hc);have hN2 : (zx x.bars x.runs).length ≤ 2000 := (zat hok).2;have hM2 : (zcO x).length ≤ (zU x).length := zeR x _;rw [zcC] at hM2;obtain ⟨L, hL⟩ : ∃ L, L = zx x.bars x.runs := ⟨_, rfl⟩;obtain ⟨CC, hCC⟩ : ∃ CC, CC = zcO x := ⟨_, rfl⟩;obtain ⟨N, hN⟩ : ∃ N, N = L.length := ⟨_, rfl⟩;obtain ⟨M, hM⟩ : ∃ M, M = CC.length := ⟨_, rfl⟩;have HCn := zf (show zfy x = CC.map (zeD x L) by rw [hCC, hL]; rfl);rw [← hL] at HR HE Hrod Hrng Hrm hN2 hM2 ⊢;rw [← hCC] at HC Hch hM2;rw [← hN] at HR hN2 hM2 ⊢;rw [← hM] at HC hM2;have Hch2 := zf (fun (c : List Int) (hc : c ∈ CC) => show 0 < c.length ∧ c.length ≤ 2001 ∧ ∀ z ∈ c, ∃ p : Nat, z = p ∧ p < N by
    obtain ⟨h1, h2, h3⟩ := Hch.out c hc;rw [zcC, ← hL, ← hN] at h2 h3;refine ⟨h1, by omega, fun z hz => ⟨z.toNat, ?_, ?_⟩⟩
    · have := h3 z hz; omega
    · have := h3 z hz; omega)
  have HNe := zf hN;have HMe := zf hM;rw [HCn.out];have HMl := zf (show (CC.map (zeD x L)).length = M by rw [zw, hM]);have HCX := zf (fun (k : Nat) (v : Value) (h9 : ([.string x.mem.name, .slice s.a1 s.n1 s.c1, .slice s.a2 s.n2 s.c2, .int .i64 x.mem.cover, .int .i64 x.mem.aggregate, .int .i64 x.mem.poker, .slice s.a3 s.n3 s.c3, .slice s.a4 s.n4 s.c4, .slice s.a5 s.n5 s.c5, .slice s.a6 s.n6 s.c6, .int .i64 x.rule.num, .int .i64 x.rule.den, .int .i64 x.rule.poorNum, .int .i64 x.rule.poorDen, .int .i64 x.rule.bendNum, .int .i64 x.rule.bendDen, .int .i64 x.rule.lapNum, .int .i64 x.rule.lapDen, .int .i64 x.rule.least] : List Value)[k]? = some v) => show (zp x.mem x.rule s)[k]? = some v by simpa using h9);have K0 := zf (Blk.new w 34 (zp x.mem x.rule s));have HW := zf (zk w (.cells (zp x.mem x.rule s) 34));have Hi := zf (show (Tryz.prog.info? 34).map (·.size) = some 19 by kernel_rfl);have Hsz := zf (show (zp x.mem x.rule s).size = 19 from rfl);have HBB := zf hB
  show Calls Tryz.prog 279 #[.agg (zp x.mem x.rule s)] w _
  generalize zp x.mem x.rule s = C at *;clear h hB hf hd hok hrule hmem hL hCC hN hM Hch;obtain ⟨a1, n1, c1, a2, n2, c2, a3, n3, c3, a4, n4, c4, a5, n5, c5, a6, n6, c6⟩ := s;simp only at HE HCX;go_enter Tryz.func279, Tryz.ntmps279;go_wp2_with (refine wpList_load_row rfl 34 (.tmp 1) rfl w.heap.size rfl 34 _ (0, 0) _ K0.out Tryz.underlying34 rfl (by rw [Hsz.out]; exact Hi.out) ?_);refine (HV.out _ HW.out).mono ?_;rintro e w1 ⟨rfl, hb⟩;replace K0 := zf (K0.out.keep hb);replace HW := zf (zg HW.out hb (ze _));clear hb HV;go_wp2_with (refine wpList_load_row rfl 34 (.tmp 1) rfl w.heap.size rfl 34 _ (0, 0) _ K0.out Tryz.underlying34 rfl (by rw [Hsz.out]; exact Hi.out) ?_);refine (HR.out _ HW.out).mono ?_;rintro e w2 ⟨AR, cR, rfl, hrods, hb⟩;have HRd := zf hrods;replace K0 := zf ((K0.out.keep hb).alloc (.cells #[.slice AR N cR] 278));have HW2 := zg HW.out hb (ze _);replace HW := zf (HW2.alloc HW2.size (.cells #[.slice AR N cR] 278));have K5 := zf (Blk.new w2 278 #[.slice AR N cR]);have hzg : w.heap.size ≤ w2.heap.size := HW2.size;obtain ⟨w3, hw3⟩ : ∃ q, q = w2.alloc (.cells #[.slice AR N cR] 278) := ⟨_, rfl⟩;have HRd3 := zf (show RodsW w3 w2.heap.size AR L by rw [hw3]; exact HRd.out.carry zci (zk w2 _) (ze _));have hz23 : w2.heap.size < w3.heap.size := by rw [hw3]; simp
  rw [← hw3] at K0 K5 HW;clear hb hrods HRd HR HW2;go_upto_region 4 with fail
  rw [← hw3];clear hw3;go_wp2_with (refine wpList_load_row rfl 34 (.tmp 1) rfl w.heap.size rfl 34 _ (0, 0) _ K0.out Tryz.underlying34 rfl (by rw [Hsz.out]; exact Hi.out) ?_);refine (HC.out _ HW.out).mono ?_;rintro e w4 ⟨A7, c7, rfl, hcl, hb⟩;have HCl := zf hcl;replace K0 := zf (K0.out.keep hb);replace K5 := zf (K5.out.keep hb);replace HRd3 := zf (HRd3.out.carry zci (hb.mono (zX hz23)) (ze _));replace HW := zf (zg HW.out hb (ze _));have hz24 : w2.heap.size < w4.heap.size := zt hz23 hb.size;clear hb hcl HC;go_wp2;go_loopw [8, 42] (fun v iv wr => ∃ k : Nat, k ≤ M ∧ iv = .int .i64 k ∧ (∃ acc : List ChnX, Row wr w4.heap.size 283 5 zbM v acc ∧ Hid (acc.map (·.ch) = (CC.take k).map (zeD x L)) ∧ Hid (∀ q ∈ acc, Ints wr w4.heap.size q.A q.ch.bars)) ∧ Below w4.heap.size w4 wr) (fun _ iv _ => M - (intOf iv).toNat)
  case atStart => exact ⟨0, zu _, rfl, ⟨[], Row.nil _ _ _ _ _, zf rfl, zf (fun q h => by cases h)⟩, Below.refl _ _⟩
  case round =>
    rename World => wr;obtain ⟨k, hk, rfl, ⟨acc, hrow, hacc, hints⟩, hbr⟩ := hrel;obtain ⟨A0, c0, rfl⟩ := hrow.val;have hal : acc.length ≤ 2000 := by
      have h9 := congrArg List.length hacc.out;rw [zw, zw, zG] at h9;omega
    have HWr := zf (zg HW.out hbr (ze _));have hbz := hbr.size;by_cases hlt : k < M
    · obtain ⟨b, off, cl, A', c', hA7, hbl, hcx, hic, hc0⟩ := IntLs.get (k := k) (SlOf.carry zkw HCl.out hbr (ze _)) (by rw [← HMe.out]; exact hlt)
      subst hA7;have hcm : cl ∈ CC := zv hcx;obtain ⟨hc1, hc2, hc3⟩ := Hch2.out cl hcm;have hbw : b < wr.heap.size := zt hbl hbz;have Hacc := zf (show acc.map (·.ch) ++ [zeD x L cl] = (CC.take (k + 1)).map (zeD x L) by rw [zQ hcx, zV, hacc.out]; rfl);have HRr := zf (HRd3.out.carry zci (hbr.mono (zX hz24)) (ze _));have K0r := zf (K0.out.below hbr K0.out.lt);have K5r := zf (K5.out.below hbr K5.out.lt);have HIr := zf hic;obtain ⟨ln, hln⟩ : ∃ ln, ln = cl.length := ⟨_, rfl⟩;have Hln := zf hln;rw [← hln] at hc0 hc1 hc2;have HT := zf (fun (W : World) (hz : Below wr.heap.size wr W) => znv A' cl ln c' 307 #[.pointer (some ⟨w2.heap.size, 0, none⟩)] (zdY L) W (Ints.carry HIr.out (hz.mono hbz) (ze _)) (zh hbz hz.size) Hln.out (by omega) hc1 Tryz.call307 (fun p q W' hp hq hz' => by
        obtain ⟨p, rfl, hpn⟩ := hc3 p hp;obtain ⟨q, rfl, hqn⟩ := hc3 q hq;have hz2 := zg hz hz' (ze _);exact zkD AR L N cR w2.heap.size p q W' (HRr.out.carry zci (hz2.mono (zh (zX hz24) hbz)) (ze _)) (zh (zh (zX hz24) hbz) hz2.size) HNe.out (K5r.out.keep hz2) hpn hqn))
      obtain ⟨pt, hpt, hptn⟩ := hc3 _ (ztf (zdY L) (c := cl) (by rw [← hln]; exact hc1));rw [hpt] at HT;obtain ⟨bR, oR, ldt, _, _, _, _, hAR, hbR, hxt, _, _, hct⟩ := RodsW.get (k := pt) HRr.out (by rw [← HNe.out]; exact hptn);have hctt := hct 1 _ rfl;have hsz := (Hrod.out ldt (zv hxt)).size;have HAr := zf (fun W => zty ldt.bar.size W hsz);have Harea := zf (show zfO (zdY L (zlt L cl)) = zfO ldt.bar.size by rw [zlt, hpt, zdY, zd3 hxt]);subst hAR;have hbRw : bR < wr.heap.size := zt hbR (zh (zX hz24) hbz);have K1 := zf (Blk.new wr 283 #[.slice A' ln c', .int .i64 0, .int .i64 0, .bool false, .int .i64 0]);have HX := zf (zk wr (.cells #[.slice A' ln c', .int .i64 0, .int .i64 0, .bool false, .int .i64 0] 283));have Hrow := zf hrow;have Hints := zf hints.out;have Hbr := zf hbr;clear hcx hic hln hpt hxt hct hsz hrow hints hbr hacc;go_wp2_with fail;refine (HT.out _ HX.out).mono ?_;rintro e w5 ⟨rfl, hb⟩;replace K1 := zf (K1.out.keep hb);replace HX := zf (zg HX.out hb (ze _));clear hb HT hc0;have k5 := K5r.out.keep HX.out;have g0 := k5.cell 0;simp at g0;have lg := k5.lt;have t1 := (HX.out.cell (p := ⟨bR, oR + pt * 7 + 1, none⟩) hbRw).trans hctt;have lbR : bR < w5.heap.size := zt hbRw HX.out.size;have n1 : (pt : Int) < (N : Int) := by omega
      have n2 : (0 : Int) ≤ (pt : Int) := by omega
      clear k5;generalize ldt.bar.size = st at *;go_wp2_with fail;refine (HAr.out _).mono ?_;rintro e w6 ⟨rfl, hb⟩;replace K1 := zf (K1.out.keep hb);replace HX := zf (zg HX.out hb (ze _));clear hb HAr g0 lg t1 lbR n1 n2 hctt;have z4 := K1.out.frozen 4;have y4 := K1.out.cell 4;simp at y4;have lr := K1.out.lt;rw [← Harea.out];obtain ⟨ar, har⟩ : ∃ ar, ar = zfO (zdY L (zlt L cl)) := ⟨_, rfl⟩;rw [← har];have Har := zf har;clear har;go_upto_region 18 with fail
      clear z4 y4 lr;have k1 := K1.out.set_ 4 (.int .i64 ar);simp only [zzD, zzE, zzF] at k1;have hx := HX.out.setCell (p := ⟨wr.heap.size, 4, none⟩) (ze _) (.int .i64 ar);generalize World.setCell w6 ⟨wr.heap.size, 4, none⟩ (.int .i64 ar) = W4 at *;replace K1 := zf k1;replace HX := zf hx;clear k1 hx;have hh := ztk (c := cl) (by rw [← Hln.out]; exact hc1);have hl := zpb (c := cl) (by rw [← Hln.out]; exact hc1);obtain ⟨p0, hp0, hp0n⟩ := hc3 _ (zv hh);obtain ⟨p1, hp1, hp1n⟩ := hc3 _ (zv hl);obtain ⟨bi, oi, v0, hAi, hbi, hv0, ci0⟩ := Ints.get (k := 0) HIr.out (by rw [← Hln.out]; exact hc1);obtain ⟨bi', oi', v1, hAi', _, hv1, ci1⟩ := Ints.get (k := ln - 1) HIr.out (by rw [← Hln.out]; omega);subst hAi;injection hAi' with hAi'
      injection hAi' with hAi1 hAi2
      subst hAi1;subst hAi2;obtain rfl : (p0 : Int) = v0 := by rw [hh, hp0] at hv0; injection hv0
      obtain rfl : (p1 : Int) = v1 := by rw [Hln.out, hl, hp1] at hv1; injection hv1
      simp only [Nat.add_zero] at ci0;obtain ⟨bA, oA, lda, da, dac, la, lac, hA9, hbA, hxa, hia, hba, hca⟩ := RodsW.get (k := p0) HRr.out (by rw [← HNe.out]; exact hp0n);obtain ⟨bB, oB, ldb, db, dbc, lb, lbc, hA8, _, hxb, hib, hbb, hcb⟩ := RodsW.get (k := p1) HRr.out (by rw [← HNe.out]; exact hp1n);injection hA9 with hA9
      injection hA9 with hA91 hA92
      subst hA91;subst hA92;injection hA8 with hA8
      injection hA8 with hA81 hA82
      subst hA81;subst hA82;have HEnd := zf (show zeD x L cl = zjk x cl lda ldb ar by rw [zeD, hp0, hp1, zd3 hxa, zd3 hxb, ← Har.out]);have hma := zv hxa;have hmb := zv hxb;have hbiw : bi < wr.heap.size := zt hbi hbz;have HPi := zf (fun (V : World) (hv : Below wr.heap.size wr V) => show V.cell? ⟨bi, oi, none⟩ = some (.int .i64 (p0 : Int)) ∧ V.cell? ⟨bi, oi + (ln - 1), none⟩ = some (.int .i64 (p1 : Int)) from ⟨(hv.cell (p := ⟨bi, _, none⟩) hbiw).trans ci0, (hv.cell (p := ⟨bi, _, none⟩) hbiw).trans ci1⟩);have HPa := zf (fun (V : World) (hv : Below wr.heap.size wr V) (j : Nat) (v : Value) (h9 : (zfW lda da dac la lac)[j]? = some v) => show V.cell? ⟨bR, oR + p0 * 7 + j, none⟩ = some v from (hv.cell (p := ⟨bR, _, none⟩) hbRw).trans (hca j v h9));have HPb := zf (fun (V : World) (hv : Below wr.heap.size wr V) (j : Nat) (v : Value) (h9 : (zfW ldb db dbc lb lbc)[j]? = some v) => show V.cell? ⟨bR, oR + p1 * 7 + j, none⟩ = some v from (hv.cell (p := ⟨bR, _, none⟩) hbRw).trans (hcb j v h9));have F5 := zf (fun (V : World) (hv : Below wr.heap.size wr V) => K5r.out.keep hv);have F0 := zf (fun (V : World) (hv : Below wr.heap.size wr V) => K0r.out.keep hv);have HIa := zf (And.intro hia hba);have HIb := zf (And.intro hib hbb);have zl : IntKind.i64.wrap ((ln : Int) - 1) = ((ln - 1 : Nat) : Int) := by rw [zr _ (by omega)]; omega
      have l1 : (0 : Int) < (ln : Int) := by omega
      have l2 : ((ln - 1 : Nat) : Int) < (ln : Int) := by omega
      have l3 : (0 : Int) ≤ ((ln - 1 : Nat) : Int) := by omega
      have l4 : (p0 : Int) < (N : Int) := by omega
      have l5 : (p1 : Int) < (N : Int) := by omega
      clear hh hl hp0 hp1 hv0 hv1 ci0 ci1 hxa hxb hca hcb hia hba hib hbb hbA hbi;go_cut [13, 14] from 65 to 79 (fun a b W => ∃ g13 g14 : Nat, a = .pointer (some ⟨g13, 0, none⟩) ∧ b = .pointer (some ⟨g14, 0, none⟩) ∧ Hid (Blk W g13 305 (zef lda da dac la lac)) ∧ Hid (Blk W g14 305 (zef ldb db dbc lb lbc)) ∧ Hid (Below W4.heap.size W4 W))
      case first =>
        have HS := zf (Below.drew (Below.refl W4.heap.size W4));refine zby (S := fun V => Below W4.heap.size W4 V) (n := 19) (by kernel_rfl) ?_;generalize W4.drew = wd at *;refine HeldTo.take (i := 0) (v := ?_) rfl (by kernel_rfl) (by kernel_rfl) (by kernel_rfl) (by kernel_rfl) (fun _ _ _ h => h) (Or.inl ⟨by rfl, ?_⟩) HS.out ?_;rotate_left
        · intro V hSw
          (try dsimp only at hSw)
          have q0 := (F5.out V (zg HX.out hSw (ze _))).cell 0; simp at q0; have lq := (F5.out V (zg HX.out hSw (ze _))).lt;go_simp
          first | done | with_reducible rfl
        (try simp only [zzA, zzC, Act.put, zzD, zzE, zzF])
        refine HeldTo.take (i := 1) (v := ?_) rfl (by kernel_rfl) (by kernel_rfl) (by kernel_rfl) (by kernel_rfl) (fun _ _ _ h => h) (Or.inl ⟨by rfl, ?_⟩) HS.out ?_;rotate_left
        · intro V hSw
          (try dsimp only at hSw)
          skip
          go_simp
          first | done | with_reducible rfl
        (try simp only [zzA, zzB, zzC, Act.put, zzD, zzE, zzF])
        refine HeldTo.take (i := 2) (v := ?_) rfl (by kernel_rfl) (by kernel_rfl) (by kernel_rfl) (by kernel_rfl) (fun _ _ _ h => h) (Or.inl ⟨by rfl, ?_⟩) HS.out ?_;rotate_left
        · intro V hSw
          (try dsimp only at hSw)
          skip
          go_simp
          first | done | with_reducible rfl
        (try simp only [zzA, zzB, zzC, Act.put, zzD, zzE, zzF])
        refine HeldTo.take (i := 3) (v := ?_) rfl (by kernel_rfl) (by kernel_rfl) (by kernel_rfl) (by kernel_rfl) (fun _ _ _ h => h) (Or.inl ⟨by rfl, ?_⟩) HS.out ?_;rotate_left
        · intro V hSw
          (try dsimp only at hSw)
          obtain ⟨q0, q1⟩ := HPi.out V (zg HX.out hSw (ze _));go_simp
          first | done | with_reducible rfl
        (try simp only [zzA, zzB, zzC, Act.put, zzD, zzE, zzF])
        refine HeldTo.take (i := 4) (v := ?_) rfl (by kernel_rfl) (by kernel_rfl) (by kernel_rfl) (by kernel_rfl) (fun _ _ _ h => h) (Or.inl ⟨by rfl, ?_⟩) HS.out ?_;rotate_left
        · intro V hSw
          (try dsimp only at hSw)
          skip
          go_simp
          first | done | with_reducible rfl
        (try simp only [zzA, zzB, zzC, Act.put, zzD, zzE, zzF])
        refine HeldTo.take (i := 5) (v := ?_) rfl (by kernel_rfl) (by kernel_rfl) (by kernel_rfl) (by kernel_rfl) (fun _ _ _ h => h) (Or.inl ⟨by rfl, ?_⟩) HS.out ?_;rotate_left
        · intro V hSw
          (try dsimp only at hSw)
          have q0 := HPa.out V (zg HX.out hSw (ze _)) 0 _ rfl; have q1 := HPa.out V (zg HX.out hSw (ze _)) 1 _ rfl; have q2 := HPa.out V (zg HX.out hSw (ze _)) 2 _ rfl; have q3 := HPa.out V (zg HX.out hSw (ze _)) 3 _ rfl; have q4 := HPa.out V (zg HX.out hSw (ze _)) 4 _ rfl; have q5 := HPa.out V (zg HX.out hSw (ze _)) 5 _ rfl; have q6 := HPa.out V (zg HX.out hSw (ze _)) 6 _ rfl; simp only [Nat.add_zero] at q0;go_simp
          first | done | with_reducible rfl
        (try simp only [zzA, zzB, zzC, Act.put, zzD, zzE, zzF])
        refine HeldTo.take (i := 6) (v := ?_) rfl (by kernel_rfl) (by kernel_rfl) (by kernel_rfl) (by kernel_rfl) (fun _ _ _ h => h) (Or.inl ⟨by rfl, ?_⟩) HS.out ?_;rotate_left
        · intro V hSw
          (try dsimp only at hSw)
          have q0 := (F5.out V (zg HX.out hSw (ze _))).cell 0; simp at q0; have lq := (F5.out V (zg HX.out hSw (ze _))).lt;go_simp
          first | done | with_reducible rfl
        (try simp only [zzA, zzB, zzC, Act.put, zzD, zzE, zzF])
        refine HeldTo.take (i := 7) (v := ?_) rfl (by kernel_rfl) (by kernel_rfl) (by kernel_rfl) (by kernel_rfl) (fun _ _ _ h => h) (Or.inl ⟨by rfl, ?_⟩) HS.out ?_;rotate_left
        · intro V hSw
          (try dsimp only at hSw)
          skip
          go_simp
          first | done | with_reducible rfl
        (try simp only [zzA, zzB, zzC, Act.put, zzD, zzE, zzF])
        refine HeldTo.take (i := 8) (v := ?_) rfl (by kernel_rfl) (by kernel_rfl) (by kernel_rfl) (by kernel_rfl) (fun _ _ _ h => h) (Or.inl ⟨by rfl, ?_⟩) HS.out ?_;rotate_left
        · intro V hSw
          (try dsimp only at hSw)
          skip
          go_simp
          first | done | with_reducible rfl
        (try simp only [zzA, zzB, zzC, Act.put, zzD, zzE, zzF])
        refine HeldTo.take (i := 9) (v := ?_) rfl (by kernel_rfl) (by kernel_rfl) (by kernel_rfl) (by kernel_rfl) (fun _ _ _ h => h) (Or.inl ⟨by rfl, ?_⟩) HS.out ?_;rotate_left
        · intro V hSw
          (try dsimp only at hSw)
          skip
          go_simp
          first | done | with_reducible rfl
        (try simp only [zzA, zzB, zzC, Act.put, zzD, zzE, zzF])
        refine HeldTo.take (i := 10) (v := ?_) rfl (by kernel_rfl) (by kernel_rfl) (by kernel_rfl) (by kernel_rfl) (fun _ _ _ h => h) (Or.inl ⟨by rfl, ?_⟩) HS.out ?_;rotate_left
        · intro V hSw
          (try dsimp only at hSw)
          skip
          go_simp
          first | done | with_reducible rfl
        (try simp only [zzA, zzB, zzC, Act.put, zzD, zzE, zzF])
        refine HeldTo.take (i := 11) (v := ?_) rfl (by kernel_rfl) (by kernel_rfl) (by kernel_rfl) (by kernel_rfl) (fun _ _ _ h => h) (Or.inl ⟨by rfl, ?_⟩) HS.out ?_;rotate_left
        · intro V hSw
          (try dsimp only at hSw)
          skip
          go_simp
          first | done | with_reducible rfl
        (try simp only [zzA, zzB, zzC, Act.put, zzD, zzE, zzF])
        refine HeldTo.take (i := 12) (v := ?_) rfl (by kernel_rfl) (by kernel_rfl) (by kernel_rfl) (by kernel_rfl) (fun _ _ _ h => h) (Or.inl ⟨by rfl, ?_⟩) HS.out ?_;rotate_left
        · intro V hSw
          (try dsimp only at hSw)
          obtain ⟨q0, q1⟩ := HPi.out V (zg HX.out hSw (ze _));go_simp
          first | done | with_reducible rfl
        (try simp only [zzA, zzB, zzC, Act.put, zzD, zzE, zzF])
        refine HeldTo.take (i := 13) (v := ?_) rfl (by kernel_rfl) (by kernel_rfl) (by kernel_rfl) (by kernel_rfl) (fun _ _ _ h => h) (Or.inl ⟨by rfl, ?_⟩) HS.out ?_;rotate_left
        · intro V hSw
          (try dsimp only at hSw)
          skip
          go_simp
          first | done | with_reducible rfl
        (try simp only [zzA, zzB, zzC, Act.put, zzD, zzE, zzF])
        refine HeldTo.take (i := 14) (v := ?_) rfl (by kernel_rfl) (by kernel_rfl) (by kernel_rfl) (by kernel_rfl) (fun _ _ _ h => h) (Or.inl ⟨by rfl, ?_⟩) HS.out ?_;rotate_left
        · intro V hSw
          (try dsimp only at hSw)
          have q0 := HPb.out V (zg HX.out hSw (ze _)) 0 _ rfl; have q1 := HPb.out V (zg HX.out hSw (ze _)) 1 _ rfl; have q2 := HPb.out V (zg HX.out hSw (ze _)) 2 _ rfl; have q3 := HPb.out V (zg HX.out hSw (ze _)) 3 _ rfl; have q4 := HPb.out V (zg HX.out hSw (ze _)) 4 _ rfl; have q5 := HPb.out V (zg HX.out hSw (ze _)) 5 _ rfl; have q6 := HPb.out V (zg HX.out hSw (ze _)) 6 _ rfl; simp only [Nat.add_zero] at q0;go_simp
          first | done | with_reducible rfl
        (try simp only [zzA, zzB, zzC, Act.put, zzD, zzE, zzF])
        have HS0 := zf HS.out;have HSa := zf (fun (c c' : Array Value) => show Below W4.heap.size W4 ((wd.alloc (.cells c 305)).alloc (.cells c' 305)) from (HS0.out.alloc HS0.out.size _).alloc (zM HS0.out.size _) _);refine HeldTo.pair (i := 15) (j := 16) (by kernel_rfl) rfl rfl (fun K hK => ?_) (fun K hK => ?_)
        · go_simp
          replace HS := zf (HS.out.alloc HS.out.size (.cells #[.string ⟨#[]⟩, .int .i64 0, .int .i64 0, .int .i64 0, .slice none 0 0, .slice none 0 0, .int .i64 0] 305));refine hK.out _ _ (fun _ => HS.out) (fun h8 => ?_);clear h8 hK K
          (try simp only [zzA, zzB, zzC, Act.put, zzD, zzE, zzF])
          refine HeldTo.one (i := 16) (by kernel_rfl) rfl (fun K hK => ?_);go_simp;replace HS := zf (HS.out.alloc HS.out.size (.cells #[.string ⟨#[]⟩, .int .i64 0, .int .i64 0, .int .i64 0, .slice none 0 0, .slice none 0 0, .int .i64 0] 305));refine hK.out _ _ (fun _ => HS.out) (fun h8 => ?_);clear h8 hK K
          (try simp only [zzA, zzB, zzC, Act.put, zzD, zzE, zzF])
          refine HeldTo.one (i := 17) (by kernel_rfl) rfl (fun K hK => ?_);go_simp;refine hK.out _ _ (fun _ => HSa.out _ _) (fun h8 => ?_);clear h8 hK K
          (try simp only [zzA, zzB, zzC, Act.put, zzD, zzE, zzF])
          refine HeldTo.one (i := 18) (by kernel_rfl) rfl (fun K hK => ?_);go_simp;refine hK.out _ _ (fun _ => HSa.out _ _) (fun h8 => HeldTo.done (by kernel_rfl) ?_ _);go_wp2_with fail;go_meet;exact ⟨wd.heap.size, wd.heap.size + 1, rfl, rfl, zf ((Blk.new wd _ _).alloc _), zf (Blk.new1 wd _ _ _), zf (HSa.out _ _)⟩
        · go_simp
          replace HS := zf (HS.out.alloc HS.out.size (.cells #[.string ⟨#[]⟩, .int .i64 0, .int .i64 0, .int .i64 0, .slice none 0 0, .slice none 0 0, .int .i64 0] 305));refine hK.out _ _ (fun _ => HS.out) (fun h8 => ?_);clear h8 hK K
          (try simp only [zzA, zzB, zzC, Act.put, zzD, zzE, zzF])
          refine HeldTo.one (i := 15) (by kernel_rfl) rfl (fun K hK => ?_);go_simp;replace HS := zf (HS.out.alloc HS.out.size (.cells #[.string ⟨#[]⟩, .int .i64 0, .int .i64 0, .int .i64 0, .slice none 0 0, .slice none 0 0, .int .i64 0] 305));refine hK.out _ _ (fun _ => HS.out) (fun h8 => ?_);clear h8 hK K
          (try simp only [zzA, zzB, zzC, Act.put, zzD, zzE, zzF])
          refine HeldTo.one (i := 17) (by kernel_rfl) rfl (fun K hK => ?_);go_simp;refine hK.out _ _ (fun _ => HSa.out _ _) (fun h8 => ?_);clear h8 hK K
          (try simp only [zzA, zzB, zzC, Act.put, zzD, zzE, zzF])
          refine HeldTo.one (i := 18) (by kernel_rfl) rfl (fun K hK => ?_);go_simp;refine hK.out _ _ (fun _ => HSa.out _ _) (fun h8 => HeldTo.done (by kernel_rfl) ?_ _);go_wp2_with fail;go_meet;exact ⟨wd.heap.size + 1, wd.heap.size, rfl, rfl, zf (Blk.new1 wd _ _ _), zf ((Blk.new wd _ _).alloc _), zf (HSa.out _ _)⟩
      case rest =>
        obtain ⟨g13, g14, rfl, rfl, K13, K14, hbc⟩ := hcut;rename World => w7;replace K1 := zf (K1.out.keep hbc.out);replace HX := zf (zg HX.out hbc.out (ze _));clear hbc HPi HPa HPb F5 zl l1 l2 l3 l4 l5;have qa := K13.out.cell 6;have qb := K14.out.cell 6;simp at qa qb;have lA := K13.out.lt;have lB := K14.out.lt;by_cases ha : 0 ≤ zaB lda
        · have da0 : decide (0 ≤ zaB lda) = true := zI ha
          by_cases hb0 : 0 ≤ zaB ldb
          · have db0 : decide (0 ≤ zaB ldb) = true := zI hb0
            have hra := Hrm.out lda hma ha;have hrb := Hrm.out ldb hmb hb0;have hga := (Hrng.out lda hma ha).1;have hgb := (Hrng.out ldb hmb hb0).2;have hza : w2.heap.size ≤ wr.heap.size := zh (zX hz24) hbz;have HEa := zf (fun (W : World) (hv : Below wr.heap.size wr W) => HE.out lda hma W w2.heap.size (zg HWr.out hv (ze _)) (zh hza hv.size) (zh HBB.out hzg) da dac la lac (HIa.out.1.carry (hv.mono hza) (ze _)) (HIa.out.2.carry (Flat.carried _) (hv.mono hza) (ze _)));have HEb := zf (fun (W : World) (hv : Below wr.heap.size wr W) => HE.out ldb hmb W w2.heap.size (zg HWr.out hv (ze _)) (zh hza hv.size) (zh HBB.out hzg) db dbc lb lbc (HIb.out.1.carry (hv.mono hza) (ze _)) (HIb.out.2.carry (Flat.carried _) (hv.mono hza) (ze _)));have HLa := zf (fun (W : World) (hv : Below wr.heap.size wr W) => zlF lda da dac la lac W (HIa.out.2.carry (Flat.carried _) (hv.mono hza) (ze _)) (zh hza hv.size) ha (Hrod.out lda hma).few);have HLb := zf (fun (W : World) (hv : Below wr.heap.size wr W) => zlF ldb db dbc lb lbc W (HIb.out.2.carry (Flat.carried _) (hv.mono hza) (ze _)) (zh hza hv.size) hb0 (Hrod.out ldb hmb).few);obtain ⟨tA, htA⟩ : ∃ t, t = zdH x.rule x.mem lda.bar.size (zy lda.pts) := ⟨_, rfl⟩;obtain ⟨tB, htB⟩ : ∃ t, t = zdH x.rule x.mem ldb.bar.size (zy ldb.pts) := ⟨_, rfl⟩;have e1 : zkJ x lda = (zbY lda).lo.1 + tA.1 := by rw [htA]; rfl
            have e2 : zkK x ldb = (zbY ldb).hi.1 - tB.2.1 := by rw [htB]; rfl
            rw [← htA] at HEa hra;rw [← htB] at HEb hrb;rw [e1] at hga;rw [e2] at hgb;clear htA htB;obtain ⟨tA1, tA2, tA3⟩ := tA;obtain ⟨tB1, tB2, tB3⟩ := tB;simp only at hra hrb e1 e2 hga hgb;obtain rfl : tA3 = 0 := hra.1;obtain rfl : tB3 = 0 := hrb.1;clear hra hrb;have HEa2 := zf (fun (W : World) (hv : Below wr.heap.size wr W) => show Calls Tryz.prog 310 #[rlV x.rule, zgY x.mem a1 n1 c1 a2 n2 c2, .agg #[.string lda.bar.mark, .int .i64 lda.bar.size, .int .i64 lda.bar.count, .int .i64 lda.bar.code, .slice da lda.bar.dims.length dac], .slice la (zy lda.pts).length lac] W fun e w' => e = .returned (.tuple #[.int .i64 tA1, .int .i64 tA2, .int .i64 0]) ∧ Below W.heap.size W w' from HEa.out W hv);have HEb2 := zf (fun (W : World) (hv : Below wr.heap.size wr W) => show Calls Tryz.prog 310 #[rlV x.rule, zgY x.mem a1 n1 c1 a2 n2 c2, .agg #[.string ldb.bar.mark, .int .i64 ldb.bar.size, .int .i64 ldb.bar.count, .int .i64 ldb.bar.code, .slice db ldb.bar.dims.length dbc], .slice lb (zy ldb.pts).length lbc] W fun e w' => e = .returned (.tuple #[.int .i64 tB1, .int .i64 tB2, .int .i64 0]) ∧ Below W.heap.size W w' from HEb.out W hv);obtain ⟨SL, hSL⟩ : ∃ q, q = (zbY lda).lo.1 + tA1 := ⟨_, rfl⟩;obtain ⟨SH, hSH⟩ : ∃ q, q = (zbY ldb).hi.1 - tB2 := ⟨_, rfl⟩;have HS2 := zf (show zgw x lda ldb = decide (SL < SH) by rw [zgw, da0, db0, e1, e2, ← hSL, ← hSH]; rfl);have HF1 := zf (fun (q : decide (SL < SH) = true) => show zeD x L cl = ⟨cl, SL, SH, true, ar⟩ by rw [HEnd.out, zjk, HS2.out, q, if_pos rfl, e1, e2, ← hSL, ← hSH]);have HF2 := zf (fun (q : decide (SL < SH) = false) => show zeD x L cl = ⟨cl, 0, 0, false, ar⟩ by rw [HEnd.out, zjk, HS2.out, q, if_neg (by simp)]);have zA : IntKind.i64.wrap ((zbY lda).lo.1 + tA1) = SL := by rw [hSL]; exact zr _ (by omega)
            have zB : IntKind.i64.wrap ((zbY ldb).hi.1 - tB2) = SH := by rw [hSH]; exact zr _ (by omega)
            have yA : wrap64 ((zbY lda).lo.1 + tA1) = SL := by rw [hSL]; exact zas _ (by omega)
            have yB : wrap64 ((zbY ldb).hi.1 - tB2) = SH := by rw [hSH]; exact zas _ (by omega)
            have ZZ := zf (And.intro zA (And.intro zB (And.intro yA yB)));clear HEa HEb HS2 HEnd e1 e2 hga hgb zA zB yA yB hSL hSH;generalize zbY lda = lgA at *;generalize zbY ldb = lgB at *;obtain ⟨⟨r1, r2, r3⟩, r4, r5, r6⟩ := lgA;obtain ⟨⟨o1, o2, o3⟩, o4, o5, o6⟩ := lgB;simp only at ZZ;have HLa2 := zf (fun (W : World) (hv : Below wr.heap.size wr W) => show Calls Tryz.prog 282 #[.agg (zef lda da dac la lac)] W fun e w' => e = .returned (.agg #[.int .i64 r1, .int .i64 r2, .int .i64 r3, .int .i64 r4, .int .i64 r5, .int .i64 r6]) ∧ Below W.heap.size W w' from HLa.out W hv);have HLb2 := zf (fun (W : World) (hv : Below wr.heap.size wr W) => show Calls Tryz.prog 282 #[.agg (zef ldb db dbc lb lbc)] W fun e w' => e = .returned (.agg #[.int .i64 o1, .int .i64 o2, .int .i64 o3, .int .i64 o4, .int .i64 o5, .int .i64 o6]) ∧ Below W.heap.size W w' from HLb.out W hv);clear HLa HLb;have k0 := F0.out _ HX.out;have x0 := (k0.cell 0).trans (HCX.out 0 _ rfl);have x1 := (k0.cell 1).trans (HCX.out 1 _ rfl);have x2 := (k0.cell 2).trans (HCX.out 2 _ rfl);have x3 := (k0.cell 3).trans (HCX.out 3 _ rfl);have x4 := (k0.cell 4).trans (HCX.out 4 _ rfl);have x5 := (k0.cell 5).trans (HCX.out 5 _ rfl);have x10 := (k0.cell 10).trans (HCX.out 10 _ rfl);have x11 := (k0.cell 11).trans (HCX.out 11 _ rfl);have x12 := (k0.cell 12).trans (HCX.out 12 _ rfl);have x13 := (k0.cell 13).trans (HCX.out 13 _ rfl);have x14 := (k0.cell 14).trans (HCX.out 14 _ rfl);have x15 := (k0.cell 15).trans (HCX.out 15 _ rfl);have x16 := (k0.cell 16).trans (HCX.out 16 _ rfl);have x17 := (k0.cell 17).trans (HCX.out 17 _ rfl);have x18 := (k0.cell 18).trans (HCX.out 18 _ rfl);have lk0 := k0.lt;clear k0;have q0 := K13.out.cell 0;have q1 := K13.out.cell 1;have q2 := K13.out.cell 2;have q3 := K13.out.cell 3;have q4 := K13.out.cell 4;have q5 := K13.out.cell 5;simp at q0 q1 q2 q3 q4 q5;have lq := K13.out.lt;go_wp2_with fail;refine (HEa2.out _ HX.out).mono ?_;rintro e w8 ⟨rfl, hb⟩;replace K1 := zf (K1.out.keep hb);replace K13 := zf (K13.out.keep hb);replace K14 := zf (K14.out.keep hb);replace HX := zf (zg HX.out hb (ze _));clear hb HEa2 x0 x1 x2 x3 x4 x5 x10 x11 x12 x13 x14 x15 x16 x17 x18 lk0 q0 q1 q2 q3 q4 q5 lq qa qb lA lB;have k0 := F0.out _ HX.out;have x0 := (k0.cell 0).trans (HCX.out 0 _ rfl);have x1 := (k0.cell 1).trans (HCX.out 1 _ rfl);have x2 := (k0.cell 2).trans (HCX.out 2 _ rfl);have x3 := (k0.cell 3).trans (HCX.out 3 _ rfl);have x4 := (k0.cell 4).trans (HCX.out 4 _ rfl);have x5 := (k0.cell 5).trans (HCX.out 5 _ rfl);have x10 := (k0.cell 10).trans (HCX.out 10 _ rfl);have x11 := (k0.cell 11).trans (HCX.out 11 _ rfl);have x12 := (k0.cell 12).trans (HCX.out 12 _ rfl);have x13 := (k0.cell 13).trans (HCX.out 13 _ rfl);have x14 := (k0.cell 14).trans (HCX.out 14 _ rfl);have x15 := (k0.cell 15).trans (HCX.out 15 _ rfl);have x16 := (k0.cell 16).trans (HCX.out 16 _ rfl);have x17 := (k0.cell 17).trans (HCX.out 17 _ rfl);have x18 := (k0.cell 18).trans (HCX.out 18 _ rfl);have lk0 := k0.lt;clear k0;have q0 := K14.out.cell 0;have q1 := K14.out.cell 1;have q2 := K14.out.cell 2;have q3 := K14.out.cell 3;have q4 := K14.out.cell 4;have q5 := K14.out.cell 5;simp at q0 q1 q2 q3 q4 q5;have lq := K14.out.lt;go_wp2_with fail;refine (HEb2.out _ HX.out).mono ?_;rintro e w9 ⟨rfl, hb⟩;replace K1 := zf (K1.out.keep hb);replace K13 := zf (K13.out.keep hb);replace K14 := zf (K14.out.keep hb);replace HX := zf (zg HX.out hb (ze _));clear hb HEb2 x0 x1 x2 x3 x4 x5 x10 x11 x12 x13 x14 x15 x16 x17 x18 lk0 q0 q1 q2 q3 q4 q5 lq F0;go_upto_region 26 with fail
            go_cut [20] from 120 to 132 (fun v W => ∃ g20 : Nat, v = .pointer (some ⟨g20, 0, none⟩) ∧ Hid (Blk W g20 77 #[.int .i64 SL, .int .i64 SH]) ∧ Hid (Below w9.heap.size w9 W))
            case first =>
              have HS := zf (And.intro K13.out.drew (And.intro K14.out.drew (Below.drew (Below.refl w9.heap.size w9))));refine zby (S := fun V => Blk V g13 305 (zef lda da dac la lac) ∧ Blk V g14 305 (zef ldb db dbc lb lbc) ∧ Below w9.heap.size w9 V) (n := 14) (by kernel_rfl) ?_;generalize w9.drew = wd at *;refine HeldTo.take (i := 0) (v := ?_) rfl (by kernel_rfl) (by kernel_rfl) (by kernel_rfl) (by kernel_rfl) (fun _ _ _ h => h) (Or.inl ⟨by rfl, ?_⟩) HS.out ?_;rotate_left
              · intro V hSw
                (try dsimp only at hSw)
                have q0 := hSw.1.cell 0; have q1 := hSw.1.cell 1; have q2 := hSw.1.cell 2; have q3 := hSw.1.cell 3; have q4 := hSw.1.cell 4; have q5 := hSw.1.cell 5; have q6 := hSw.1.cell 6; simp at q0 q1 q2 q3 q4 q5 q6; have lq := hSw.1.lt;go_simp
                first | done | with_reducible rfl
              (try simp only [zzA, zzC, Act.put, zzD, zzE, zzF])
              refine HeldTo.take (i := 6) (v := ?_) rfl (by kernel_rfl) (by kernel_rfl) (by kernel_rfl) (by kernel_rfl) (fun _ _ _ h => h) (Or.inl ⟨by rfl, ?_⟩) HS.out ?_;rotate_left
              · intro V hSw
                (try dsimp only at hSw)
                have q0 := hSw.2.1.cell 0; have q1 := hSw.2.1.cell 1; have q2 := hSw.2.1.cell 2; have q3 := hSw.2.1.cell 3; have q4 := hSw.2.1.cell 4; have q5 := hSw.2.1.cell 5; have q6 := hSw.2.1.cell 6; simp at q0 q1 q2 q3 q4 q5 q6; have lq := hSw.2.1.lt;go_simp
                first | done | with_reducible rfl
              (try simp only [zzA, zzB, zzC, Act.put, zzD, zzE, zzF])
              refine HeldTo.take (i := 4) (v := ?_) rfl (by kernel_rfl) (by kernel_rfl) (by kernel_rfl) (by kernel_rfl) (fun _ _ _ h => h) (Or.inl ⟨by rfl, ?_⟩) HS.out ?_;rotate_left
              · intro V hSw
                (try dsimp only at hSw)
                skip
                go_simp
                first | done | with_reducible rfl
              (try simp only [zzA, zzB, zzC, Act.put, zzD, zzE, zzF])
              refine HeldTo.take (i := 10) (v := ?_) rfl (by kernel_rfl) (by kernel_rfl) (by kernel_rfl) (by kernel_rfl) (fun _ _ _ h => h) (Or.inl ⟨by rfl, ?_⟩) HS.out ?_;rotate_left
              · intro V hSw
                (try dsimp only at hSw)
                skip
                go_simp
                first | done | with_reducible rfl
              (try simp only [zzA, zzB, zzC, Act.put, zzD, zzE, zzF])
              refine HeldTo.pair (i := 1) (j := 13) (by kernel_rfl) rfl rfl (fun K hK => ?_) (fun K hK => ?_)
              · go_simp
                refine (HLa2.out _ (zg HX.out HS.out.2.2 (ze _))).mono ?_;rintro e wz ⟨rfl, hb7⟩;go_wp2_with fail;replace HS := zf (And.intro (HS.out.1.keep hb7) (And.intro (HS.out.2.1.keep hb7) (zg HS.out.2.2 hb7 (ze _))));refine hK.out _ _ (fun _ => HS.out) (fun h8 => ?_);clear h8 hK K
                (try simp only [zzA, zzB, zzC, Act.put, zzD, zzE, zzF])
                refine HeldTo.take (i := 2) (v := ?_) rfl (by kernel_rfl) (by kernel_rfl) (by kernel_rfl) (by kernel_rfl) (fun _ _ _ h => h) (Or.inl ⟨by rfl, ?_⟩) HS.out ?_;rotate_left
                · intro V hSw
                  (try dsimp only at hSw)
                  have q9 := ztE r1 r2 r3 r4 r5 r6 V;go_simp
                  first | done | with_reducible rfl
                (try simp only [zzA, zzB, zzC, Act.put, zzD, zzE, zzF])
                refine HeldTo.take (i := 3) (v := ?_) rfl (by kernel_rfl) (by kernel_rfl) (by kernel_rfl) (by kernel_rfl) (fun _ _ _ h => h) (Or.inl ⟨by rfl, ?_⟩) HS.out ?_;rotate_left
                · intro V hSw
                  (try dsimp only at hSw)
                  have q9 := ptX r1 r2 r3 V;go_simp
                  first | done | with_reducible rfl
                (try simp only [zzA, zzB, zzC, Act.put, zzD, zzE, zzF])
                refine HeldTo.take (i := 5) (v := ?_) rfl (by kernel_rfl) (by kernel_rfl) (by kernel_rfl) (by kernel_rfl) (fun _ _ _ h => h) (Or.inl ⟨by rfl, ?_⟩) HS.out ?_;rotate_left
                · intro V hSw
                  (try dsimp only at hSw)
                  obtain ⟨z1, z2, z3, z4⟩ := ZZ.out;go_simp
                  first | done | with_reducible rfl
                (try simp only [zzA, zzB, zzC, Act.put, zzD, zzE, zzF])
                refine HeldTo.pair (i := 7) (j := 13) (by kernel_rfl) rfl rfl (fun K hK => ?_) (fun K hK => ?_)
                · go_simp
                  refine (HLb2.out _ (zg HX.out HS.out.2.2 (ze _))).mono ?_;rintro e wy ⟨rfl, hb6⟩;go_wp2_with fail;replace HS := zf (And.intro (HS.out.1.keep hb6) (And.intro (HS.out.2.1.keep hb6) (zg HS.out.2.2 hb6 (ze _))));refine hK.out _ _ (fun _ => HS.out) (fun h8 => ?_);clear h8 hK K
                  (try simp only [zzA, zzB, zzC, Act.put, zzD, zzE, zzF])
                  refine HeldTo.take (i := 8) (v := ?_) rfl (by kernel_rfl) (by kernel_rfl) (by kernel_rfl) (by kernel_rfl) (fun _ _ _ h => h) (Or.inl ⟨by rfl, ?_⟩) HS.out ?_;rotate_left
                  · intro V hSw
                    (try dsimp only at hSw)
                    have q9 := zrG o1 o2 o3 o4 o5 o6 V;go_simp
                    first | done | with_reducible rfl
                  (try simp only [zzA, zzB, zzC, Act.put, zzD, zzE, zzF])
                  refine HeldTo.take (i := 9) (v := ?_) rfl (by kernel_rfl) (by kernel_rfl) (by kernel_rfl) (by kernel_rfl) (fun _ _ _ h => h) (Or.inl ⟨by rfl, ?_⟩) HS.out ?_;rotate_left
                  · intro V hSw
                    (try dsimp only at hSw)
                    have q9 := ptX o4 o5 o6 V;go_simp
                    first | done | with_reducible rfl
                  (try simp only [zzA, zzB, zzC, Act.put, zzD, zzE, zzF])
                  refine HeldTo.take (i := 11) (v := ?_) rfl (by kernel_rfl) (by kernel_rfl) (by kernel_rfl) (by kernel_rfl) (fun _ _ _ h => h) (Or.inl ⟨by rfl, ?_⟩) HS.out ?_;rotate_left
                  · intro V hSw
                    (try dsimp only at hSw)
                    obtain ⟨z1, z2, z3, z4⟩ := ZZ.out;go_simp
                    first | done | with_reducible rfl
                  (try simp only [zzA, zzB, zzC, Act.put, zzD, zzE, zzF])
                  refine HeldTo.take (i := 12) (v := ?_) rfl (by kernel_rfl) (by kernel_rfl) (by kernel_rfl) (by kernel_rfl) (fun _ _ _ h => h) (Or.inl ⟨by rfl, ?_⟩) HS.out ?_;rotate_left
                  · intro V hSw
                    (try dsimp only at hSw)
                    skip
                    go_simp
                    first | done | with_reducible rfl
                  (try simp only [zzA, zzB, zzC, Act.put, zzD, zzE, zzF])
                  refine HeldTo.one (i := 13) (by kernel_rfl) rfl (fun K hK => ?_);have HB7 := zf HS.out.2.2;go_simp;have KS := zf (Blk.new wy 77 #[.int .i64 0, .int .i64 0]);have hgs : w9.heap.size ≤ wy.heap.size := HS.out.2.2.size;replace HS := zf (And.intro (HS.out.1.alloc (.cells #[.int .i64 0, .int .i64 0] 77)) (And.intro (HS.out.2.1.alloc (.cells #[.int .i64 0, .int .i64 0] 77)) (HS.out.2.2.alloc HS.out.2.2.size (.cells #[.int .i64 0, .int .i64 0] 77))));refine hK.out _ _ (fun _ => HS.out) (fun h8 => ?_);clear h8 hK K
                  (try simp only [zzA, zzB, zzC, Act.put, zzD, zzE, zzF])
                  refine HeldTo.one (i := 14) (by kernel_rfl) rfl (fun K hK => ?_);go_simp;refine hK.out _ _ (fun h9 => absurd h9 (by omega)) (fun h8 => HeldTo.done (by kernel_rfl) ?_ _);go_wp2_with fail;go_meet;exact ⟨wy.heap.size, rfl, zf (Blk.new wy _ _), zf (HB7.out.alloc HB7.out.size _)⟩
                · go_simp
                  have KS := zf (Blk.new wz 77 #[.int .i64 0, .int .i64 0]);have hgs : w9.heap.size ≤ wz.heap.size := HS.out.2.2.size;replace HS := zf (And.intro (HS.out.1.alloc (.cells #[.int .i64 0, .int .i64 0] 77)) (And.intro (HS.out.2.1.alloc (.cells #[.int .i64 0, .int .i64 0] 77)) (HS.out.2.2.alloc HS.out.2.2.size (.cells #[.int .i64 0, .int .i64 0] 77))));refine hK.out _ _ (fun _ => HS.out) (fun h8 => ?_);clear h8 hK K
                  (try simp only [zzA, zzB, zzC, Act.put, zzD, zzE, zzF])
                  refine HeldTo.one (i := 7) (by kernel_rfl) rfl (fun K hK => ?_);go_simp;refine (HLb2.out _ (zg HX.out HS.out.2.2 (ze _))).mono ?_;rintro e wy ⟨rfl, hb6⟩;go_wp2_with fail;replace HS := zf (And.intro (HS.out.1.keep hb6) (And.intro (HS.out.2.1.keep hb6) (zg HS.out.2.2 hb6 (ze _))));refine hK.out _ _ (fun _ => HS.out) (fun h8 => ?_);clear h8 hK K
                  (try simp only [zzA, zzB, zzC, Act.put, zzD, zzE, zzF])
                  refine HeldTo.take (i := 8) (v := ?_) rfl (by kernel_rfl) (by kernel_rfl) (by kernel_rfl) (by kernel_rfl) (fun _ _ _ h => h) (Or.inl ⟨by rfl, ?_⟩) HS.out ?_;rotate_left
                  · intro V hSw
                    (try dsimp only at hSw)
                    have q9 := zrG o1 o2 o3 o4 o5 o6 V;go_simp
                    first | done | with_reducible rfl
                  (try simp only [zzA, zzB, zzC, Act.put, zzD, zzE, zzF])
                  refine HeldTo.take (i := 9) (v := ?_) rfl (by kernel_rfl) (by kernel_rfl) (by kernel_rfl) (by kernel_rfl) (fun _ _ _ h => h) (Or.inl ⟨by rfl, ?_⟩) HS.out ?_;rotate_left
                  · intro V hSw
                    (try dsimp only at hSw)
                    have q9 := ptX o4 o5 o6 V;go_simp
                    first | done | with_reducible rfl
                  (try simp only [zzA, zzB, zzC, Act.put, zzD, zzE, zzF])
                  refine HeldTo.take (i := 11) (v := ?_) rfl (by kernel_rfl) (by kernel_rfl) (by kernel_rfl) (by kernel_rfl) (fun _ _ _ h => h) (Or.inl ⟨by rfl, ?_⟩) HS.out ?_;rotate_left
                  · intro V hSw
                    (try dsimp only at hSw)
                    obtain ⟨z1, z2, z3, z4⟩ := ZZ.out;go_simp
                    first | done | with_reducible rfl
                  (try simp only [zzA, zzB, zzC, Act.put, zzD, zzE, zzF])
                  replace KS := zf (KS.out.keep hb6);refine HeldTo.take (i := 12) (v := ?_) rfl (by kernel_rfl) (by kernel_rfl) (by kernel_rfl) (by kernel_rfl) (fun _ _ _ h => h) (Or.inl ⟨by rfl, ?_⟩) HS.out ?_;rotate_left
                  · intro V hSw
                    (try dsimp only at hSw)
                    skip
                    go_simp
                    first | done | with_reducible rfl
                  (try simp only [zzA, zzB, zzC, Act.put, zzD, zzE, zzF])
                  have z0 := KS.out.frozen 0;have z1 := KS.out.frozen 1;have y0 := KS.out.cell 0;have y1 := KS.out.cell 1;simp at y0 y1;have lr := KS.out.lt;refine HeldTo.one (i := 14) (by kernel_rfl) rfl (fun K hK => ?_);go_simp;refine hK.out _ _ (fun h9 => absurd h9 (by omega)) (fun h8 => HeldTo.done (by kernel_rfl) ?_ _);go_wp2_with fail;go_meet;exact ⟨wz.heap.size, rfl, zf ((KS.out.set_ 0 _).set_ 1 _), zf ((HS.out.2.2.setCell (p := ⟨wz.heap.size, 0, none⟩) hgs _).setCell (p := ⟨wz.heap.size, 1, none⟩) hgs _)⟩
              · go_simp
                have KS := zf (Blk.new wd 77 #[.int .i64 0, .int .i64 0]);have hgs : w9.heap.size ≤ wd.heap.size := HS.out.2.2.size;replace HS := zf (And.intro (HS.out.1.alloc (.cells #[.int .i64 0, .int .i64 0] 77)) (And.intro (HS.out.2.1.alloc (.cells #[.int .i64 0, .int .i64 0] 77)) (HS.out.2.2.alloc HS.out.2.2.size (.cells #[.int .i64 0, .int .i64 0] 77))));refine hK.out _ _ (fun _ => HS.out) (fun h8 => ?_);clear h8 hK K
                (try simp only [zzA, zzB, zzC, Act.put, zzD, zzE, zzF])
                refine HeldTo.one (i := 1) (by kernel_rfl) rfl (fun K hK => ?_);go_simp;refine (HLa2.out _ (zg HX.out HS.out.2.2 (ze _))).mono ?_;rintro e wz ⟨rfl, hb7⟩;go_wp2_with fail;replace HS := zf (And.intro (HS.out.1.keep hb7) (And.intro (HS.out.2.1.keep hb7) (zg HS.out.2.2 hb7 (ze _))));refine hK.out _ _ (fun _ => HS.out) (fun h8 => ?_);clear h8 hK K
                (try simp only [zzA, zzB, zzC, Act.put, zzD, zzE, zzF])
                refine HeldTo.take (i := 2) (v := ?_) rfl (by kernel_rfl) (by kernel_rfl) (by kernel_rfl) (by kernel_rfl) (fun _ _ _ h => h) (Or.inl ⟨by rfl, ?_⟩) HS.out ?_;rotate_left
                · intro V hSw
                  (try dsimp only at hSw)
                  have q9 := ztE r1 r2 r3 r4 r5 r6 V;go_simp
                  first | done | with_reducible rfl
                (try simp only [zzA, zzB, zzC, Act.put, zzD, zzE, zzF])
                refine HeldTo.take (i := 3) (v := ?_) rfl (by kernel_rfl) (by kernel_rfl) (by kernel_rfl) (by kernel_rfl) (fun _ _ _ h => h) (Or.inl ⟨by rfl, ?_⟩) HS.out ?_;rotate_left
                · intro V hSw
                  (try dsimp only at hSw)
                  have q9 := ptX r1 r2 r3 V;go_simp
                  first | done | with_reducible rfl
                (try simp only [zzA, zzB, zzC, Act.put, zzD, zzE, zzF])
                refine HeldTo.take (i := 5) (v := ?_) rfl (by kernel_rfl) (by kernel_rfl) (by kernel_rfl) (by kernel_rfl) (fun _ _ _ h => h) (Or.inl ⟨by rfl, ?_⟩) HS.out ?_;rotate_left
                · intro V hSw
                  (try dsimp only at hSw)
                  obtain ⟨z1, z2, z3, z4⟩ := ZZ.out;go_simp
                  first | done | with_reducible rfl
                (try simp only [zzA, zzB, zzC, Act.put, zzD, zzE, zzF])
                replace KS := zf (KS.out.keep hb7);refine HeldTo.one (i := 7) (by kernel_rfl) rfl (fun K hK => ?_);go_simp;refine (HLb2.out _ (zg HX.out HS.out.2.2 (ze _))).mono ?_;rintro e wy ⟨rfl, hb6⟩;go_wp2_with fail;replace HS := zf (And.intro (HS.out.1.keep hb6) (And.intro (HS.out.2.1.keep hb6) (zg HS.out.2.2 hb6 (ze _))));refine hK.out _ _ (fun _ => HS.out) (fun h8 => ?_);clear h8 hK K
                (try simp only [zzA, zzB, zzC, Act.put, zzD, zzE, zzF])
                refine HeldTo.take (i := 8) (v := ?_) rfl (by kernel_rfl) (by kernel_rfl) (by kernel_rfl) (by kernel_rfl) (fun _ _ _ h => h) (Or.inl ⟨by rfl, ?_⟩) HS.out ?_;rotate_left
                · intro V hSw
                  (try dsimp only at hSw)
                  have q9 := zrG o1 o2 o3 o4 o5 o6 V;go_simp
                  first | done | with_reducible rfl
                (try simp only [zzA, zzB, zzC, Act.put, zzD, zzE, zzF])
                refine HeldTo.take (i := 9) (v := ?_) rfl (by kernel_rfl) (by kernel_rfl) (by kernel_rfl) (by kernel_rfl) (fun _ _ _ h => h) (Or.inl ⟨by rfl, ?_⟩) HS.out ?_;rotate_left
                · intro V hSw
                  (try dsimp only at hSw)
                  have q9 := ptX o4 o5 o6 V;go_simp
                  first | done | with_reducible rfl
                (try simp only [zzA, zzB, zzC, Act.put, zzD, zzE, zzF])
                refine HeldTo.take (i := 11) (v := ?_) rfl (by kernel_rfl) (by kernel_rfl) (by kernel_rfl) (by kernel_rfl) (fun _ _ _ h => h) (Or.inl ⟨by rfl, ?_⟩) HS.out ?_;rotate_left
                · intro V hSw
                  (try dsimp only at hSw)
                  obtain ⟨z1, z2, z3, z4⟩ := ZZ.out;go_simp
                  first | done | with_reducible rfl
                (try simp only [zzA, zzB, zzC, Act.put, zzD, zzE, zzF])
                replace KS := zf (KS.out.keep hb6);refine HeldTo.take (i := 12) (v := ?_) rfl (by kernel_rfl) (by kernel_rfl) (by kernel_rfl) (by kernel_rfl) (fun _ _ _ h => h) (Or.inl ⟨by rfl, ?_⟩) HS.out ?_;rotate_left
                · intro V hSw
                  (try dsimp only at hSw)
                  skip
                  go_simp
                  first | done | with_reducible rfl
                (try simp only [zzA, zzB, zzC, Act.put, zzD, zzE, zzF])
                have z0 := KS.out.frozen 0;have z1 := KS.out.frozen 1;have y0 := KS.out.cell 0;have y1 := KS.out.cell 1;simp at y0 y1;have lr := KS.out.lt;refine HeldTo.one (i := 14) (by kernel_rfl) rfl (fun K hK => ?_);go_simp;refine hK.out _ _ (fun h9 => absurd h9 (by omega)) (fun h8 => HeldTo.done (by kernel_rfl) ?_ _);go_wp2_with fail;go_meet;exact ⟨wd.heap.size, rfl, zf ((KS.out.set_ 0 _).set_ 1 _), zf ((HS.out.2.2.setCell (p := ⟨wd.heap.size, 0, none⟩) hgs _).setCell (p := ⟨wd.heap.size, 1, none⟩) hgs _)⟩
            case rest =>
              clear HLa2 HLb2 ZZ K13 K14;obtain ⟨g20, rfl, K20, hbc⟩ := hcut;rename World => wv;replace K1 := zf (K1.out.keep hbc.out);replace HX := zf (zg HX.out hbc.out (ze _));clear hbc;have q0 := K20.out.cell 0;have q1 := K20.out.cell 1;simp at q0 q1;have lq := K20.out.lt;cases hq : decide (SL < SH)
              · have HF := zf (HF2.out hq)
                clear HF1 HF2;have Hrow9 := zf (Hrow.out.keep HX.out);have hx2 := Hbr.out.trans (HX.out.mono hbz);have hxz := hx2.size;have Hints9 := zf (fun q hq => Ints.carry (Hints.out q hq) (HX.out.mono hbz) (ze _));have HIc := zf (Ints.carry HIr.out (HX.out.mono hbz) (ze _));have KN := zf (show Blk (wv.alloc (.cells #[.slice (some ⟨bi, oi, none⟩) ln c', .int .i64 (0), .int .i64 (0), .bool false, .int .i64 ar] 283)) wv.heap.size 283 (zbM ⟨⟨cl, 0, 0, false, ar⟩, some ⟨bi, oi, none⟩, c'⟩).toArray by rw [zbM, zeJ, ← Hln.out]; exact Blk.new wv _ _);go_wp2_with (first
                  | (refine zL (by rfl) 283 (.tmp 11) rfl wr.heap.size rfl 283 _ (0, 0) _ K1.out Tryz.underlying283 rfl (by kernel_rfl) ?_)
                  | (at_builtin; refine zO rfl (.tmp 141) (.tmp 143) 279 rfl w4.heap.size 283 (.agg #[.slice none 0 0, .int .i64 0, .int .i64 0, .bool false, .int .i64 0]) 5 56 zbM Tryz.underlying279 (by kernel_rfl) rfl (by omega) zdB zep _ acc ⟨⟨cl, 0, 0, false, ar⟩, some ⟨bi, oi, none⟩, c'⟩ rfl (Hrow9.out.alloc _) _ rfl KN.out (by omega) (by omega) (zM hxz _) ?_; intro A9 c9 w9 hrow9 hb9 hkeep9))
                go_roundw
                case rel => exact ⟨k + 1, by omega, by go_num, ⟨acc ++ [⟨⟨cl, 0, 0, false, ar⟩, some ⟨bi, oi, none⟩, c'⟩], by simpa using hrow9, zf (by rw [← Hacc.out, HF.out, zV]; rfl), zf (fun q hq => by
                  rcases List.mem_append.1 hq with hq | hq
                  · exact Ints.carry (Ints.carry (Hints9.out q hq) ((zk wv _).mono hxz) (ze _)) hb9 (ze _)
                  · rw [zP] at hq
                    subst hq;exact Ints.carry (Ints.carry HIc.out ((zk wv _).mono hxz) (ze _)) hb9 (ze _))⟩, (hx2.alloc hxz _).trans hb9⟩
                case measure => simp [intOf]; omega
              · have HF := zf (HF1.out hq)
                clear HF1 HF2;have z1 := K1.out.frozen 1;have z2 := K1.out.frozen 2;have z3 := K1.out.frozen 3;have y1 := K1.out.cell 1;have y2 := K1.out.cell 2;have y3 := K1.out.cell 3;simp at y1 y2 y3;have lr := K1.out.lt;go_upto_region 29 with fail
                clear q0 q1 lq z1 z2 z3 y1 y2 y3 lr;have k1 := ((K1.out.set_ 1 (.int .i64 SL)).set_ 2 (.int .i64 SH)).set_ 3 (.bool true);simp only [zzD, zzE, zzF] at k1;have hx := ((HX.out.setCell (p := ⟨wr.heap.size, 1, none⟩) (ze _) (.int .i64 SL)).setCell (p := ⟨wr.heap.size, 2, none⟩) (ze _) (.int .i64 SH)).setCell (p := ⟨wr.heap.size, 3, none⟩) (ze _) (.bool true);generalize World.setCell (World.setCell (World.setCell wv ⟨wr.heap.size, 1, none⟩ (.int .i64 SL)) ⟨wr.heap.size, 2, none⟩ (.int .i64 SH)) ⟨wr.heap.size, 3, none⟩ (.bool true) = wu at *;replace K1 := zf k1;replace HX := zf hx;clear k1 hx;have Hrow9 := zf (Hrow.out.keep HX.out);have hx2 := Hbr.out.trans (HX.out.mono hbz);have hxz := hx2.size;have Hints9 := zf (fun q hq => Ints.carry (Hints.out q hq) (HX.out.mono hbz) (ze _));have HIc := zf (Ints.carry HIr.out (HX.out.mono hbz) (ze _));have KN := zf (show Blk (wu.alloc (.cells #[.slice (some ⟨bi, oi, none⟩) ln c', .int .i64 (SL), .int .i64 (SH), .bool true, .int .i64 ar] 283)) wu.heap.size 283 (zbM ⟨⟨cl, SL, SH, true, ar⟩, some ⟨bi, oi, none⟩, c'⟩).toArray by rw [zbM, zeJ, ← Hln.out]; exact Blk.new wu _ _);go_wp2_with (first
                  | (refine zL (by rfl) 283 (.tmp 11) rfl wr.heap.size rfl 283 _ (0, 0) _ K1.out Tryz.underlying283 rfl (by kernel_rfl) ?_)
                  | (at_builtin; refine zO rfl (.tmp 141) (.tmp 143) 279 rfl w4.heap.size 283 (.agg #[.slice none 0 0, .int .i64 0, .int .i64 0, .bool false, .int .i64 0]) 5 56 zbM Tryz.underlying279 (by kernel_rfl) rfl (by omega) zdB zep _ acc ⟨⟨cl, SL, SH, true, ar⟩, some ⟨bi, oi, none⟩, c'⟩ rfl (Hrow9.out.alloc _) _ rfl KN.out (by omega) (by omega) (zM hxz _) ?_; intro A9 c9 w9 hrow9 hb9 hkeep9))
                go_roundw
                case rel => exact ⟨k + 1, by omega, by go_num, ⟨acc ++ [⟨⟨cl, SL, SH, true, ar⟩, some ⟨bi, oi, none⟩, c'⟩], by simpa using hrow9, zf (by rw [← Hacc.out, HF.out, zV]; rfl), zf (fun q hq => by
                  rcases List.mem_append.1 hq with hq | hq
                  · exact Ints.carry (Ints.carry (Hints9.out q hq) ((zk wu _).mono hxz) (ze _)) hb9 (ze _)
                  · rw [zP] at hq
                    subst hq;exact Ints.carry (Ints.carry HIc.out ((zk wu _).mono hxz) (ze _)) hb9 (ze _))⟩, (hx2.alloc hxz _).trans hb9⟩
                case measure => simp [intOf]; omega
          · have db0 : decide (0 ≤ zaB ldb) = false := zE hb0
            have HF := zf (show zeD x L cl = ⟨cl, 0, 0, false, ar⟩ by rw [HEnd.out, zjk, zgw, db0, if_neg (by simp)]);clear HEnd;have Hrow9 := zf (Hrow.out.keep HX.out);have hx2 := Hbr.out.trans (HX.out.mono hbz);have hxz := hx2.size;have Hints9 := zf (fun q hq => Ints.carry (Hints.out q hq) (HX.out.mono hbz) (ze _));have HIc := zf (Ints.carry HIr.out (HX.out.mono hbz) (ze _));have KN := zf (show Blk (w7.alloc (.cells #[.slice (some ⟨bi, oi, none⟩) ln c', .int .i64 (0), .int .i64 (0), .bool false, .int .i64 ar] 283)) w7.heap.size 283 (zbM ⟨⟨cl, 0, 0, false, ar⟩, some ⟨bi, oi, none⟩, c'⟩).toArray by rw [zbM, zeJ, ← Hln.out]; exact Blk.new w7 _ _);go_wp2_with (first
              | (refine zL (by rfl) 283 (.tmp 11) rfl wr.heap.size rfl 283 _ (0, 0) _ K1.out Tryz.underlying283 rfl (by kernel_rfl) ?_)
              | (at_builtin; refine zO rfl (.tmp 141) (.tmp 143) 279 rfl w4.heap.size 283 (.agg #[.slice none 0 0, .int .i64 0, .int .i64 0, .bool false, .int .i64 0]) 5 56 zbM Tryz.underlying279 (by kernel_rfl) rfl (by omega) zdB zep _ acc ⟨⟨cl, 0, 0, false, ar⟩, some ⟨bi, oi, none⟩, c'⟩ rfl (Hrow9.out.alloc _) _ rfl KN.out (by omega) (by omega) (zM hxz _) ?_; intro A9 c9 w9 hrow9 hb9 hkeep9))
            go_roundw
            case rel => exact ⟨k + 1, by omega, by go_num, ⟨acc ++ [⟨⟨cl, 0, 0, false, ar⟩, some ⟨bi, oi, none⟩, c'⟩], by simpa using hrow9, zf (by rw [← Hacc.out, HF.out, zV]; rfl), zf (fun q hq => by
              rcases List.mem_append.1 hq with hq | hq
              · exact Ints.carry (Ints.carry (Hints9.out q hq) ((zk w7 _).mono hxz) (ze _)) hb9 (ze _)
              · rw [zP] at hq
                subst hq;exact Ints.carry (Ints.carry HIc.out ((zk w7 _).mono hxz) (ze _)) hb9 (ze _))⟩, (hx2.alloc hxz _).trans hb9⟩
            case measure => simp [intOf]; omega
        · have da0 : decide (0 ≤ zaB lda) = false := zE ha
          have HF := zf (show zeD x L cl = ⟨cl, 0, 0, false, ar⟩ by rw [HEnd.out, zjk, zgw, da0, if_neg (by simp)]);clear HEnd;have Hrow9 := zf (Hrow.out.keep HX.out);have hx2 := Hbr.out.trans (HX.out.mono hbz);have hxz := hx2.size;have Hints9 := zf (fun q hq => Ints.carry (Hints.out q hq) (HX.out.mono hbz) (ze _));have HIc := zf (Ints.carry HIr.out (HX.out.mono hbz) (ze _));have KN := zf (show Blk (w7.alloc (.cells #[.slice (some ⟨bi, oi, none⟩) ln c', .int .i64 (0), .int .i64 (0), .bool false, .int .i64 ar] 283)) w7.heap.size 283 (zbM ⟨⟨cl, 0, 0, false, ar⟩, some ⟨bi, oi, none⟩, c'⟩).toArray by rw [zbM, zeJ, ← Hln.out]; exact Blk.new w7 _ _);go_wp2_with (first
            | (refine zL (by rfl) 283 (.tmp 11) rfl wr.heap.size rfl 283 _ (0, 0) _ K1.out Tryz.underlying283 rfl (by kernel_rfl) ?_)
            | (at_builtin; refine zO rfl (.tmp 141) (.tmp 143) 279 rfl w4.heap.size 283 (.agg #[.slice none 0 0, .int .i64 0, .int .i64 0, .bool false, .int .i64 0]) 5 56 zbM Tryz.underlying279 (by kernel_rfl) rfl (by omega) zdB zep _ acc ⟨⟨cl, 0, 0, false, ar⟩, some ⟨bi, oi, none⟩, c'⟩ rfl (Hrow9.out.alloc _) _ rfl KN.out (by omega) (by omega) (zM hxz _) ?_; intro A9 c9 w9 hrow9 hb9 hkeep9))
          go_roundw
          case rel => exact ⟨k + 1, by omega, by go_num, ⟨acc ++ [⟨⟨cl, 0, 0, false, ar⟩, some ⟨bi, oi, none⟩, c'⟩], by simpa using hrow9, zf (by rw [← Hacc.out, HF.out, zV]; rfl), zf (fun q hq => by
            rcases List.mem_append.1 hq with hq | hq
            · exact Ints.carry (Ints.carry (Hints9.out q hq) ((zk w7 _).mono hxz) (ze _)) hb9 (ze _)
            · rw [zP] at hq
              subst hq;exact Ints.carry (Ints.carry HIc.out ((zk w7 _).mono hxz) (ze _)) hb9 (ze _))⟩, (hx2.alloc hxz _).trans hb9⟩
          case measure => simp [intOf]; omega
    · obtain rfl : k = M := by omega
      have hfull : acc.map (·.ch) = CC.map (zeD x L) := by rw [hacc.out, HMe.out, zF]
      have hlen : k = acc.length := by rw [← HMl.out, ← hfull, zw]
      have HCo := zf (show ChnsW wr wr.heap.size A0 (CC.map (zeD x L)) by
        rw [← hfull];exact zlg hrow hbz hints.out)
      have HRo := zf (show RodsW wr wr.heap.size AR L from HRd3.out.carry zci (hbr.mono (zX hz24)) (zh (zX hz24) hbz));have Hlen := zf hlen;have k5 := K5.out.below hbr K5.out.lt;have q0 := k5.cell 0;simp at q0;have lq := k5.lt;clear hacc hrow hints hbr hfull hlen k5;generalize acc.length = na at *;go_wp2;go_ret3;exact ⟨AR, cR, A0, c0, by rw [HMl.out, Hlen.out]; rfl, HRo.out, HCo.out, HWr.out⟩
end Go.Proofs.YtpaanfjjnjjoeaaGreat
