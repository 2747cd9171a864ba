/- supply.suppliers: the chains that supply a demand. -/
import Derived.Test.YtpaanfjjnjjoeaaGreatSba
import Derived.Test.YtpaanfjjnjjoeaaGreatSaw
set_option maxHeartbeats 8000000
set_option maxRecDepth 100000
namespace Go.Proofs.YtpaanfjjnjjoeaaGreat
open Go.RowKit Go.Sort
theorem znr (x : DetD) (L : List LaidD) (AR : Option Addr) (N cR g1 g2 g3 p q : Nat) (C : Array Value) (A6 : Option Addr) (n6 c6 : Nat) (d : DemD) (w : World) {B : Nat} (hr : RodsW w B AR L) (h6 : DemsAt w B A6 x.dems) (hB : B ≤ w.heap.size)
  (hN : N = L.length) (hn6 : n6 = x.dems.length) (hrod : ∀ ld ∈ L, RodOk x ld) (hdem : ∀ d ∈ x.dems, d.name.size ≤ maxLen ∧ (d.steps.length : Int) ≤ 9223372036854775807 ∧ zeC d = true)
  (hg1 : Blk w g1 278 #[.slice AR N cR]) (hg2 : Blk w g2 34 C) (hC : C[9]? = some (.slice A6 n6 c6)) (hg3 : Blk w g3 3 #[.int .i64 (q : Int)]) (hp : p < N) (hq : x.dems[q]? = some d) :
  Calls Tryz.prog 280 #[.int .i64 (p : Int), .pointer (some ⟨g1, 0, none⟩), .pointer (some ⟨g2, 0, none⟩), .pointer (some ⟨g3, 0, none⟩)] w fun e w' => e = .returned (.bool (zlp d L p)) ∧ Below w.heap.size w w' := by
 obtain ⟨b, off, ld, da, dc, la, lc, rfl, hbl, hx, hia, hba, hc⟩ := RodsW.get (k := p) hr (by rw [← hN]; exact hp);have ho := hrod ld (zv hx);have hqn : q < n6 := by rw [hn6]; exact zaa hq
 obtain ⟨b6, o6, d', A9, c9, rfl, hb6, hd', hs9, hc9⟩ := DemsAt.get (k := q) h6 (zaa hq);obtain rfl : d' = d := by rw [hq] at hd'; injection hd' with hd'; exact hd'.symm
 obtain ⟨hd1, hd2, hd3⟩ := hdem d' (zv hq);have Hr := zf (show zlp d' L p = (decide (zaB ld < 0) || !zib d' (zbY ld)) by rw [zlp, zd3 hx]);generalize zlp d' L p = res at *;have lb : b < w.heap.size := zt hbl hB;have lb6 : b6 < w.heap.size := zt hb6 hB;have g10 := hg1.cell 0;simp at g10;have lg1 := hg1.lt;have g29 := (hg2.cell 9).trans hC;have lg2 := hg2.lt;have g30 := hg3.cell 0;simp at g30;have lg3 := hg3.lt;have m6 := hc 6 _ rfl;have p1 : (p : Int) < (N : Int) := by omega
 have p2 : (0 : Int) ≤ (p : Int) := by omega
 have q1 : (q : Int) < (n6 : Int) := by omega
 have q2 : (0 : Int) ≤ (q : Int) := by omega
 by_cases hm : zaB ld < 0
 ·have dm : decide (zaB ld < 0) = true := zI hm;rw [dm] at Hr;go_enter Tryz.func280, Tryz.ntmps280;go_wp2;go_ret;exact ⟨zo (by rw [Hr.out]; rfl), Below.refl _ _⟩
 ·have dm : decide (zaB ld < 0) = false := zE hm;rw [dm, Bool.false_or] at Hr;have hm0 : 0 ≤ zaB ld := by omega
  have HLg := zf (fun d os => zlF ld da dc la lc (grow (redrawn w d) os) (hba.carry (Flat.carried _) ((below_regrown w d os).mono hB) (ze _)) (zh hB (below_regrown w d os).size) hm0 ho.few);have HIn := zf (fun d os => ztr d' A9 c9 (zbY ld) (grow (redrawn w d) os) (SlOf.carry (Flat.carried _) hs9 ((below_regrown w d os).mono hB) (ze _)) (zh hB (below_regrown w d os).size) hd1 hd2 hd3 (zkW ho hm0));generalize zib d' (zbY ld) = iz at *;generalize zbY ld = lg at *;obtain ⟨⟨r1, r2, r3⟩, r4, r5, r6⟩ := lg;have HLg2 := zf (fun d os => show Calls Tryz.prog 282 #[.agg (zef ld da dc la lc)] (grow (redrawn w d) os) fun e w' => e = .returned (.agg #[.int .i64 r1, .int .i64 r2, .int .i64 r3, .int .i64 r4, .int .i64 r5, .int .i64 r6]) ∧ Below (grow (redrawn w d) os).heap.size (grow (redrawn w d) os) w' from HLg.out d os);have HIn2 := zf (fun d os => show Calls Tryz.prog 281 #[dmV d' A9 d'.steps.length c9, .agg #[.int .i64 r1, .int .i64 r2, .int .i64 r3, .int .i64 r4, .int .i64 r5, .int .i64 r6]] (grow (redrawn w d) os) fun e w' => e = .returned (.tuple #[.bool iz, .int .i64 0]) ∧ Below (grow (redrawn w d) os).heap.size (grow (redrawn w d) os) w' from HIn.out d os);have f0 := cell_regrown (hc 0 _ rfl);have f1 := cell_regrown (hc 1 _ rfl);have f2 := cell_regrown (hc 2 _ rfl);have f3 := cell_regrown (hc 3 _ rfl);have f4 := cell_regrown (hc 4 _ rfl);have f5 := cell_regrown (hc 5 _ rfl);have f6 := cell_regrown (hc 6 _ rfl);have h0 := cell_regrown (hc9 0 _ rfl);have h1 := cell_regrown (hc9 1 _ rfl);have h2 := cell_regrown (hc9 2 _ rfl);have h3 := cell_regrown (hc9 3 _ rfl);have h4 := cell_regrown (hc9 4 _ rfl);have h5 := cell_regrown (hc9 5 _ rfl);have h6' := cell_regrown (hc9 6 _ rfl);have h7 := cell_regrown (hc9 7 _ rfl);have k1 := cell_regrown g10;have k2 := cell_regrown g29;have k3 := cell_regrown g30;simp only [Nat.add_zero] at f0 h0;clear hr h6 hB hN hn6 hrod hdem hg1 hg2 hC hg3 hp hq hia hba hc hc9 hs9 hx hd' ho HLg HIn hm hm0 hd1 hd2 hd3 hbl hb6;go_enter Tryz.func280, Tryz.ntmps280;go_wp2_with fail;refine wp_region_quiet_below (by kernel_rfl) (by kernel_rfl) ?_
  repeat (go_big_quiet_step (first
   | (go_at_call 282; with_reducible exact Calls.regrown_of (HLg2.out _ _))
   | (go_at_call 281; with_reducible exact Calls.regrown_of (HIn2.out _ _))))
  refine wpQuiet_nil ?_;intro wq hw';have hb := zf (show Below w.heap.size w wq by obtain ⟨p9, rfl⟩ := hw'; exact below_regrown _ _ _);clear hw';go_wp2;go_ret;exact ⟨zo (by rw [Hr.out]), hb.out⟩
theorem zlN (x : DetD) (s : DetS) (q : Nat) (d : DemD) (w : World) {B : Nat} (h : DetAt w B x s) (hB : B ≤ w.heap.size) (hf : DetFit x s) (hd : zah x = true) (hq : x.dems[q]? = some d)
  (hdem : ∀ d ∈ x.dems, d.name.size ≤ maxLen ∧ (d.steps.length : Int) ≤ 9223372036854775807 ∧ zeC d = true) :
  Calls Tryz.prog 250 #[zcZ x s, .int .i64 (q : Int)] w fun e w' => ∃ A c A2 c2, e = .returned (.tuple #[.slice A (zx x.bars x.runs).length c, .slice A2 (zg0 x d).length c2, .int .i64 0]) ∧ ChnsW w' w'.heap.size A2 (zg0 x d) ∧ Below w.heap.size w w' := by
 have hok := (zaG hd).2.1;have HC := zf (fun (W : World) (hz : Below w.heap.size w W) => show Calls Tryz.prog 279 #[.agg (zp x.mem x.rule s)] W _ from zox x s W (h.carry (hz.mono hB) (ze _)) (zh hB hz.size) hf hd);have H6 := zf (fun (W : World) (hz : Below w.heap.size w W) => SlOf.carry zba h.h6 (hz.mono hB) (ze B));have Hrod := zf (fun (ld : LaidD) (hl : ld ∈ zx x.bars x.runs) => zc6 hok hl);have Hdem := zf hdem;have Hq := zf hq;have L6 := zf hf.l6;have hq6 : q < s.n6 := by rw [hf.l6]; exact zaa hq
 have hN2 : (zx x.bars x.runs).length ≤ 2000 := (zat hok).2;have hM2 : (zfy x).length ≤ (zU x).length := by rw [zfy, zw]; exact zeR x _
 rw [zcC] at hM2;have Hmem := zf (fun (c : ChnD) (hc : c ∈ zfy x) => show c.bars.length ≤ 2001 ∧ ∀ z ∈ c.bars, ∃ p : Nat, z = p ∧ p < (zx x.bars x.runs).length by
  rw [zfy, zeT] at hc;obtain ⟨cl, hcl, rfl⟩ := hc;have e9 : (zeD x (zx x.bars x.runs) cl).bars = cl := by
   unfold zeD zjk
   split <;> rfl
  rw [e9];obtain ⟨_, h2, h3⟩ := zh2 hd hcl;rw [zcC] at h2 h3;refine ⟨by omega, fun z hz => ⟨z.toNat, ?_, ?_⟩⟩
  ·have := h3 z hz; omega
  ·have := h3 z hz; omega)
 obtain ⟨L, hL⟩ : ∃ L, L = zx x.bars x.runs := ⟨_, rfl⟩;obtain ⟨CH, hCH⟩ : ∃ CH, CH = zfy x := ⟨_, rfl⟩;obtain ⟨N, hN⟩ : ∃ N, N = L.length := ⟨_, rfl⟩;obtain ⟨M, hM⟩ : ∃ M, M = CH.length := ⟨_, rfl⟩;have HS := zf (show zg0 x d = CH.filter (zh7 d L) by rw [hCH, hL]; rfl);rw [← hL] at HC Hrod hN2 hM2 Hmem ⊢;rw [← hCH] at HC hM2 Hmem;rw [← hN] at HC hN2 hM2 Hmem ⊢;rw [← hM] at HC hM2;have HNe := zf hN;have HMe := zf hM;rw [HS.out];have HC9 := zf (show (zp x.mem x.rule s)[9]? = some (.slice s.a6 s.n6 s.c6) from rfl);have K0 := zf ((Blk.new w 34 (zp x.mem x.rule s)).alloc (.cells #[.int .i64 (q : Int)] 3));have K3 := zf (Blk.new1 w (.cells (zp x.mem x.rule s) 34) 3 #[.int .i64 (q : Int)]);have HW := zf (zH w (.cells (zp x.mem x.rule s) 34) (.cells #[.int .i64 (q : Int)] 3));have Hi := zf (show (Tryz.prog.info? 34).map (·.size) = some 19 by kernel_rfl);have Hsz := zf (show (zp x.mem x.rule s).size = 19 from rfl);have HBB := zf hB
 show Calls Tryz.prog 250 #[.agg (zp x.mem x.rule s), .int .i64 (q : Int)] w _
 generalize zp x.mem x.rule s = C at *;clear h hB hf hd hok hL hCH hN hM hq hdem;obtain ⟨a1, n1, c1, a2, n2, c2, a3, n3, c3, a4, n4, c4, a5, n5, c5, a6, n6, c6⟩ := s;simp only at H6 L6 hq6 HC9;go_enter Tryz.func250, Tryz.ntmps250;go_wp2_with (refine wpList_load_row rfl 34 (.tmp 2) rfl w.heap.size rfl 34 _ (0, 0) _ K0.out Tryz.underlying34 rfl (by rw [Hsz.out]; exact Hi.out) ?_);refine (HC.out _ HW.out).mono ?_;rintro e w1 ⟨AR, cR, A1, cc1, rfl, hrods, hchn, hb⟩;have HW1 := zg HW.out hb (ze _);have HRd := zf (hrods.carry zci (zk w1 (.cells #[.slice AR N cR] 278)) (ze _));have HCn := zf (SlOf.carry zdi hchn (zk w1 (.cells #[.slice AR N cR] 278)) (ze _));replace K0 := zf ((K0.out.keep hb).alloc (.cells #[.slice AR N cR] 278));replace K3 := zf ((K3.out.keep hb).alloc (.cells #[.slice AR N cR] 278));replace HW := zf (HW1.alloc HW1.size (.cells #[.slice AR N cR] 278));have K7 := zf (Blk.new w1 278 #[.slice AR N cR]);obtain ⟨w3, hw3⟩ : ∃ q, q = w1.alloc (.cells #[.slice AR N cR] 278) := ⟨_, rfl⟩;have hz13 : w1.heap.size < w3.heap.size := by rw [hw3]; simp
 rw [← hw3] at K0 K3 K7 HW HRd HCn;obtain ⟨g7, hg7⟩ : ∃ q, q = w1.heap.size := ⟨_, rfl⟩;rw [← hg7] at K7 HRd HCn hz13;clear hb hrods hchn HC HW1;go_upto_region 2 with fail
 rw [← hw3, ← hg7];clear hw3 hg7;have e9 := (K0.out.cell 9).trans HC9.out;have lk0 := K0.out.lt;have e3 := K3.out.cell 0;simp at e3;have lk3 := K3.out.lt;have j1 : decide ((q : Int) < 0) = false := by simp
 have j2 : decide ((n6 : Int) ≤ (q : Int)) = false := by simp; omega
 have j3 : decide (n6 ≤ q) = false := by simp; omega
 go_wp2_with fail;clear e9 lk0 e3 lk3 j1 j2 j3;go_loopw [10, 36] (fun v iv wr => ∃ k : Nat, k ≤ M ∧ iv = .int .i64 k ∧ (∃ acc : List ChnX, Row wr w3.heap.size 283 5 zbM v acc ∧ Hid (acc.map (·.ch) = (CH.take k).filter (zh7 d L)) ∧ Hid (∀ y ∈ acc, Ints wr w3.heap.size y.A y.ch.bars)) ∧ Below w3.heap.size w3 wr) (fun _ iv _ => M - (intOf iv).toNat)
 case atStart => exact ⟨0, zu _, rfl, ⟨[], Row.nil _ _ _ _ _, zf rfl, zf (fun y h => by cases h)⟩, Below.refl _ _⟩
 case round =>
  rename World => wr;obtain ⟨k, hk, rfl, ⟨acc, hrow, hacc, hints⟩, hbr⟩ := hrel;obtain ⟨A0, c0, rfl⟩ := hrow.val;have hal : acc.length ≤ 2000 := by
   have h9 := congrArg List.length hacc.out;rw [zw] at h9;have h8 := zal (zh7 d L) (CH.take k);rw [zG] at h8;omega
  have HWr := zf (zg HW.out hbr (ze _));have hbz := hbr.size;by_cases hlt : k < M
  ·obtain ⟨b, off, y, A', c', hA7, hbl, hcx, hic, hc⟩ := ChnsW.get (k := k) (SlOf.carry zdi HCn.out (hbr.mono (zX hz13)) (ze _)) (by rw [← HMe.out]; exact hlt);subst hA7;obtain ⟨hlen, hmem⟩ := Hmem.out y (zv hcx);have hbw : b < wr.heap.size := zt (Nat.lt_trans hbl hz13) hbz;have HRr := zf (HRd.out.carry zci (hbr.mono (zX hz13)) (ze _));have K0r := zf (K0.out.below hbr K0.out.lt);have K3r := zf (K3.out.below hbr K3.out.lt);have K7r := zf (K7.out.below hbr K7.out.lt);have hgz : g7 ≤ wr.heap.size := zh (zX hz13) hbz;have hBz : B ≤ g7 ∨ g7 ≤ B := Nat.le_total _ _;have HT := zf (fun (W : World) (hz : Below wr.heap.size wr W) => zgP A' y.bars y.bars.length c' 280 #[.pointer (some ⟨g7, 0, none⟩), .pointer (some ⟨w.heap.size, 0, none⟩), .pointer (some ⟨w.heap.size + 1, 0, none⟩)] (zlp d L) W (Ints.carry hic (hz.mono hgz) (ze _)) (zh hgz hz.size) rfl (by omega) Tryz.call280 (fun z W' hzm hz' => by
    obtain ⟨p, rfl, hpn⟩ := hmem z hzm;have hz2 := zg hz hz' (ze _);have hw2 := zg HWr.out hz2 (ze _);exact znr x L AR N cR g7 w.heap.size (w.heap.size + 1) p q C a6 n6 c6 d W' (B := W'.heap.size) (HRr.out.carry zci (hz2.mono hgz) (zh hgz hz2.size)) (SlOf.carry zba (H6.out _ hw2) (Below.refl _ _) (zh HBB.out hw2.size)) (ze _) HNe.out L6.out Hrod.out Hdem.out (K7r.out.keep hz2) (K0r.out.keep hz2) HC9.out (K3r.out.keep hz2) hpn Hq.out))
   have Hsn := zf (show (CH.take (k + 1)).filter (zh7 d L) = acc.map (·.ch) ++ (if y.is && !(za5 (zlp d L) y.bars) then [y] else []) by
    rw [zQ hcx, zbw, hacc.out]
    congr 1
    cases hq9 : (y.is && !(za5 (zlp d L) y.bars))
    ·rw [List.filter_cons_of_neg (by rw [zh7, hq9]; simp)]; rfl
    ·rw [List.filter_cons_of_pos (by rw [zh7, hq9])]; rfl)
   have HIr := zf hic;have Hrow := zf hrow;have Hints := zf hints.out;have Hacc := zf hacc.out;have Hbr := zf hbr;have e0 := hc 0 _ rfl;have e1 := hc 1 _ rfl;have e2 := hc 2 _ rfl;have e3 := hc 3 _ rfl;have e4 := hc 4 _ rfl;simp only [Nat.add_zero] at e0;generalize za5 (zlp d L) y.bars = so at *;obtain ⟨bars, lo, hi, is, area⟩ := y;simp only at e0 e1 e2 e3 e4 HT Hsn HIr hlen;obtain ⟨bn, hbn⟩ : ∃ bn, bn = bars.length := ⟨_, rfl⟩;have Hbn := zf hbn;rw [← hbn] at e0 HT;have K1 := zf (Blk.new wr 283 #[.slice A' bn c', .int .i64 lo, .int .i64 hi, .bool is, .int .i64 area]);have HX := zf (zk wr (.cells #[.slice A' bn c', .int .i64 lo, .int .i64 hi, .bool is, .int .i64 area] 283));clear hcx hic hc hrow hints hbr hacc hmem hbn hbl;have f0 := K1.out.cell 0;simp at f0;have lf := K1.out.lt;go_wp2_with fail;refine (HT.out _ HX.out).mono ?_;rintro e w5 ⟨rfl, hb⟩;replace K1 := zf (K1.out.keep hb);replace HX := zf (zg HX.out hb (ze _));clear hb HT e0 e1 e2 e3 e4 f0 lf;have f3 := K1.out.cell 3;simp at f3;have lf := K1.out.lt;have Hrow9 := zf (Hrow.out.keep HX.out);have hx2 := Hbr.out.trans (HX.out.mono hbz);have hxz := hx2.size;have Hints9 := zf (fun y hy => Ints.carry (Hints.out y hy) (HX.out.mono hbz) (ze _));cases is
   ·have Hs2 := zf (show acc.map (·.ch) = (CH.take (k + 1)).filter (zh7 d L) by rw [Hsn.out]; simp);go_wp2;go_roundw
    case rel => exact ⟨k + 1, by omega, by go_num, ⟨acc, Hrow9.out, Hs2, Hints9⟩, hx2⟩
    case measure => simp [intOf]; omega
   cases so
   ·have HIc := zf (Ints.carry HIr.out (HX.out.mono hgz) (zh (zX hz13) (ze _)));have KN := zf (show Blk (w5.alloc (.cells #[.slice A' bn c', .int .i64 lo, .int .i64 hi, .bool true, .int .i64 area] 283)) w5.heap.size 283 (zbM ⟨⟨bars, lo, hi, true, area⟩, A', c'⟩).toArray by rw [zbM, zeJ, ← Hbn.out]; exact Blk.new w5 _ _);have Hs2 := zf (show acc.map (·.ch) ++ [⟨bars, lo, hi, true, area⟩] = (CH.take (k + 1)).filter (zh7 d L) by rw [Hsn.out]; rfl);go_wp2_with (first
     | (refine zL (by rfl) 283 (.tmp 12) rfl wr.heap.size rfl 283 _ (0, 0) _ K1.out Tryz.underlying283 rfl (by kernel_rfl) ?_)
     | (at_builtin; refine zO rfl (.tmp 50) (.tmp 52) 279 rfl w3.heap.size 283 (.agg #[.slice none 0 0, .int .i64 0, .int .i64 0, .bool false, .int .i64 0]) 5 56 zbM Tryz.underlying279 (by kernel_rfl) rfl (by omega) zdB zep _ acc ⟨⟨bars, lo, hi, true, area⟩, A', c'⟩ rfl (Hrow9.out.alloc _) _ rfl KN.out (by omega) (by omega) (zM hxz _) ?_; intro A9 c9 w9 hrow9 hb9 hkeep9))
    go_roundw
    case rel => exact ⟨k + 1, by omega, by go_num, ⟨acc ++ [⟨⟨bars, lo, hi, true, area⟩, A', c'⟩], by simpa using hrow9, zf (by rw [zV]; exact Hs2.out), zf (fun y hy => by
     rcases List.mem_append.1 hy with hy | hy
     ·exact Ints.carry (Ints.carry (Hints9.out y hy) ((zk w5 _).mono hxz) (ze _)) hb9 (ze _)
     ·rw [zP] at hy;subst hy;exact Ints.carry (Ints.carry HIc.out ((zk w5 _).mono hxz) (ze _)) hb9 (ze _))⟩, (hx2.alloc hxz _).trans hb9⟩
    case measure => simp [intOf]; omega
   ·have Hs2 := zf (show acc.map (·.ch) = (CH.take (k + 1)).filter (zh7 d L) by rw [Hsn.out]; simp);go_wp2;go_roundw
    case rel => exact ⟨k + 1, by omega, by go_num, ⟨acc, Hrow9.out, Hs2, Hints9⟩, hx2⟩
    case measure => simp [intOf]; omega
  ·obtain rfl : k = M := by omega
   have hfull : acc.map (·.ch) = CH.filter (zh7 d L) := by rw [hacc.out, HMe.out, zF]
   have hlen : (CH.filter (zh7 d L)).length = acc.length := by rw [← hfull, zw]
   have HCo := zf (show ChnsW wr wr.heap.size A0 (CH.filter (zh7 d L)) by
    rw [← hfull];exact zlg hrow hbz hints.out)
   have k7 := K7.out.below hbr K7.out.lt;have q0 := k7.cell 0;simp at q0;have lq := k7.lt;have Hlen := zf hlen;clear hacc hrow hints hbr hfull hlen k7;generalize acc.length = na at *;go_wp2;go_ret3;exact ⟨AR, cR, A0, c0, by rw [Hlen.out]; rfl, HCo.out, HWr.out⟩
end Go.Proofs.YtpaanfjjnjjoeaaGreat
namespace Go.Proofs.YtpaanfjjnjjoeaaGreat
open Go.RowKit
theorem zj7 (l : List (Int × Int)) (A : Option Addr) (n c : Nat) (w : World) {B : Nat} (h : StpsAt w B A l) (hB : B ≤ w.heap.size) (hn : n = l.length) (hm : n ≤ 60000) (hok : zau l = false) :
  Calls Tryz.prog 252 #[.slice A n c] w fun e w' => e = .returned (.tuple #[.slice none 0 0, .int .i64 1]) ∧ Below w.heap.size w w' := by
 have HV := zf (zdR A l n c w h hB hn (by omega));rw [hok] at HV;clear h hB hn hm hok;go_enter Tryz.func252, Tryz.ntmps252;go_wp2_with fail;refine HV.out.mono ?_;rintro e w1 ⟨rfl, hb⟩;go_wp2;go_ret2;exact ⟨rfl, hb⟩
theorem zrX (HSL : zbU) (HCL : zbV) (x : DetD) (s : DetS) (q : Nat) (d : DemD) (w : World) {B : Nat} (h : DetAt w B x s) (hB : B ≤ w.heap.size) (hf : DetFit x s) (hd : zah x = true) (hq : x.dems[q]? = some d)
  (hdem : ∀ d ∈ x.dems, d.name.size ≤ maxLen ∧ (d.steps.length : Int) ≤ 9223372036854775807 ∧ zeC d = true) :
  Calls Tryz.prog 196 #[zcZ x s, .int .i64 (q : Int)] w fun e w' => ∃ A c, e = .returned (.tuple #[.slice A (zbR x d).length c, .int .i64 (zbk x d)]) ∧ StpsAt w' w'.heap.size A (zbR x d) ∧ Below w.heap.size w w' := by
 have HU := zf (fun (W : World) (hz : Below w.heap.size w W) => show Calls Tryz.prog 250 #[.agg (zp x.mem x.rule s), .int .i64 (q : Int)] W _ from zlN x s q d W (h.carry (hz.mono hB) (ze _)) (zh hB hz.size) hf hd hq hdem);have hM2 : (zg0 x d).length ≤ 2000 := by
  refine zh (zp6 x d) ?_;rw [zcC];exact (zat (zaG hd).2.1).2
 have Hraw := zf (show zgo x d = zdI (zfQ (zg0 x d)) 0 (zgn (zd7 (zg0 x d))) from rfl);have HE1 := zf (fun (q : 200 < (zgo x d).length) => show zbk x d = 4 ∧ zbR x d = [] by
  have e1 : zbk x d = 4 := by rw [zbk, if_pos q]
  exact ⟨e1, by rw [zbR, e1]; rfl⟩)
 have HE2 := zf (fun (q : ¬ 200 < (zgo x d).length) (q2 : zau (zgo x d) = true) => show zbk x d = 0 ∧ zbR x d = zaE 0 (zgo x d) by
  have e1 : zbk x d = 0 := by rw [zbk, if_neg q, if_pos q2]
  exact ⟨e1, by rw [zbR, e1]; rfl⟩)
 have HE3 := zf (fun (q : ¬ 200 < (zgo x d).length) (q2 : zau (zgo x d) = false) => show zbk x d = 1 ∧ zbR x d = [] by
  have e1 : zbk x d = 1 := by rw [zbk, if_neg q, q2]; rfl
  exact ⟨e1, by rw [zbR, e1]; rfl⟩)
 generalize zbk x d = SE at *;generalize zbR x d = SS at *;generalize zgo x d = RAW at *;generalize zg0 x d = SL at *;have K0 := zf (Blk.new w 34 (zp x.mem x.rule s));have HW := zf (zk w (.cells (zp x.mem x.rule s) 34));have Hi := zf (show (Tryz.prog.info? 34).map (·.size) = some 19 by kernel_rfl);have Hsz := zf (show (zp x.mem x.rule s).size = 19 from rfl)
 show Calls Tryz.prog 196 #[.agg (zp x.mem x.rule s), .int .i64 (q : Int)] w _
 generalize zp x.mem x.rule s = C at *;obtain ⟨M, hM⟩ : ∃ M, M = SL.length := ⟨_, rfl⟩;rw [← hM] at HU hM2;have HM := zf hM;clear h hB hf hd hq hdem hM;go_enter Tryz.func196, Tryz.ntmps196;go_wp2_with (refine wpList_load_row rfl 34 (.tmp 2) rfl w.heap.size rfl 34 _ (0, 0) _ K0.out Tryz.underlying34 rfl (by rw [Hsz.out]; exact Hi.out) ?_);refine (HU.out _ HW.out).mono ?_;rintro e w1 ⟨A0, c0, A1, c1, rfl, hch, hb⟩;have HW1 := zf (zg HW.out hb (ze _));have HCh := zf hch;clear hb hch HU HW K0 Hi Hsz;go_wp2;go_loopw [9, 29] (fun v iv wr => ∃ k : Nat, k ≤ M ∧ iv = .int .i64 k ∧ (∃ acc : List Int, Row wr w1.heap.size 3 1 zaP v acc ∧ Hid (acc = zd7 (SL.take k))) ∧ Below w1.heap.size w1 wr) (fun _ iv _ => M - (intOf iv).toNat)
 case atStart => exact ⟨0, zu _, rfl, ⟨[], Row.nil _ _ _ _ _, zf rfl⟩, Below.refl _ _⟩
 case round =>
  rename World => wr;obtain ⟨k, hk, rfl, ⟨acc, hrow, hacc⟩, hbr⟩ := hrel;obtain ⟨A2, c2, rfl⟩ := hrow.val;have hal : acc.length ≤ 4000 := by
   rw [hacc.out, zm7, zG];omega
  by_cases hlt : k < M
  ·obtain ⟨b, off, y, A', c', hA, hbl, hy, _, hc⟩ := ChnsW.get (k := k) (SlOf.carry zdi HCh.out hbr (ze _)) (by rw [← HM.out]; exact hlt);subst hA;have Hn := zf (show acc ++ [y.lo, y.hi] = zd7 (SL.take (k + 1)) by rw [zQ hy, hacc.out, zd7, zd7, zae]; rfl);have e0 := hc 0 _ rfl;have e1 := hc 1 _ rfl;have e2 := hc 2 _ rfl;have e3 := hc 3 _ rfl;have e4 := hc 4 _ rfl;simp only [Nat.add_zero] at e0;have lb : b < wr.heap.size := zt hbl hbr.size;obtain ⟨bars, lo, hi, is, area⟩ := y;simp only at e0 e1 e2 e3 e4 Hn;generalize bars.length = bn at *;have hbz := hbr.size;have HR2 := zf ((hrow.alloc (.cells #[.slice A' bn c', .int .i64 lo, .int .i64 hi, .bool is, .int .i64 area] 283)).alloc (.cells #[.int .i64 lo, .int .i64 hi] 3));have HB2 := zf ((hbr.alloc hbz (.cells #[.slice A' bn c', .int .i64 lo, .int .i64 hi, .bool is, .int .i64 area] 283)).alloc (zM hbz _) (.cells #[.int .i64 lo, .int .i64 hi] 3));have hs1 : (wr.alloc (.cells #[.slice A' bn c', .int .i64 lo, .int .i64 hi, .bool is, .int .i64 area] 283)).heap.size = wr.heap.size + 1 := by simp
   have hy9 := SlOf.lit zbq (wr.alloc (.cells #[.slice A' bn c', .int .i64 lo, .int .i64 hi, .bool is, .int .i64 area] 283)) 3 #[.int .i64 lo, .int .i64 hi] [lo, hi] (by simp [zaP]) (zK _);rw [hs1] at hy9;have HY := zf hy9;clear hy9 hs1 hy hc hbl hrow hbr;go_wp2_with (at_builtin; refine za2 rfl _ _ 48 rfl w1.heap.size 3 (.int .i64 0) 1 8 zaP Tryz.underlying48 (by kernel_rfl) rfl (by omega) zbq zd4 _ acc [lo, hi] rfl HR2.out (some ⟨wr.heap.size + 1, 0, none⟩) 2 2 rfl rfl HY.out (by omega) (by simp) (by omega) (by simp; omega) ?_; intro A7 c7 w7 hrow7 hb7 hg7);go_roundw
   case rel => exact ⟨k + 1, by omega, by go_num, ⟨acc ++ [lo, hi], hrow7, zf Hn.out⟩, HB2.out.trans hb7⟩
   case measure => simp [intOf]; omega
  ·obtain rfl : k = M := by omega
   have hspots : acc = zd7 SL := by rw [hacc.out, HM.out, zF]
   have Hraw2 := zf (show RAW = zdI (zfQ SL) 0 (zgn acc) by rw [hspots]; exact Hraw.out);have HS := zf (HSL A2 acc acc.length c2 w1.heap.size wr hrow (by omega));have Hbr := zf hbr;clear hrow hbr hacc hspots Hraw;go_wp2_with fail;refine HS.out.mono ?_;rintro e w2 ⟨rfl, hr2, hb2⟩;have hml : (acc.mergeSort fun x y => decide (x ≤ y)).length = acc.length := List.length_mergeSort acc;have HC := zf (HCL A2 _ acc.length c2 w1.heap.size w2 hr2 (by rw [hml]; omega));replace Hbr := zf (Hbr.out.trans hb2);clear hr2 hb2 HS;go_wp2_with fail;refine HC.out.mono ?_;rintro e w3 ⟨A3, rfl, hr3, hb3⟩;replace Hbr := zf (Hbr.out.trans hb3);have hPl := zkS acc;have Hsc := zf (show Lib.compact (acc.mergeSort fun x y => decide (x ≤ y)) = zgn acc from rfl);rw [Hsc.out] at hr3 ⊢;obtain ⟨PL, hPL⟩ : ∃ PL, PL = zgn acc := ⟨_, rfl⟩;rw [← hPL] at hr3 Hraw2 hPl ⊢;obtain ⟨P, hP⟩ : ∃ P, P = PL.length := ⟨_, rfl⟩;rw [← hP] at hr3 hPl ⊢;have HP := zf hP;have HPr := zf (Row.read hr3 zbq (by omega));clear hr3 hb3 HC hml hPL Hsc hP;have HCh3 := zf (SlOf.carry zdi HCh.out Hbr.out (ze _));have hz13 := Hbr.out.size;have HVl := zf (fun (W : World) (hz : Below w3.heap.size w3 W) (p : Int) => zoi SL A1 k c1 p W (SlOf.carry zdi HCh3.out (hz.mono hz13) (ze _)) (zh hz13 hz.size) HM.out (by omega));have Hup := zf (fun (i : Nat) (p : Int) (hp : PL[i]? = some p) (t : Int) => zol (zfQ SL) hp t);generalize zfQ SL = V at *;go_wp2;go_loopw [12, 13, 48] (fun o la iv wo => ∃ i : Nat, i ≤ P ∧ iv = .int .i64 i ∧ (∃ t : Int, la = .int .i64 t ∧ ∃ (A9 : Option Addr) (c9 : Nat) (out : List (Int × Int)), o = .slice A9 out.length c9 ∧ Hid (Row wo w3.heap.size 71 2 zaF (.slice A9 out.length c9) out) ∧ Hid (out ++ zdI V t (PL.drop i) = RAW) ∧ Hid (out.length ≤ i)) ∧ Hid (Below w3.heap.size w3 wo)) (fun _ _ iv _ => P - (intOf iv).toNat)
   case atStart => exact ⟨0, zu _, rfl, ⟨0, rfl, none, 0, [], rfl, zf (Row.nil _ _ _ _ _), zf Hraw2.out.symm, zf (ze _)⟩, zf (Below.refl _ _)⟩
   case round =>
    clear Hraw2;obtain ⟨i, hi, rfl, ⟨t, rfl, A9, c9, out, rfl, hrow, hout, hlen⟩, hbo⟩ := hrel;rename World => wo;by_cases hlt : i < P
    ·obtain ⟨b, off, p, hA, hbl, hp, e0⟩ := Ints.get (k := i) (Ints.carry HPr.out hbo.out (ze _)) (by rw [← HP.out]; exact hlt);subst hA;have lb : b < wo.heap.size := zt hbl hbo.out.size;have Hs := zf (Hup.out i p hp t);have HVp := zf (HVl.out wo hbo.out p);generalize V p = vp at *;clear hbl hp;go_wp2_with fail;refine HVp.out.mono ?_;rintro e w5 ⟨rfl, hb⟩;replace hrow := zf (hrow.out.keep hb);replace hbo := zf (zg hbo.out hb (ze _));clear hb HVp e0 lb;by_cases hq : vp = t
     ·subst hq;have n0 : (vp != vp) = false := by simp
      rw [if_pos rfl] at Hs;go_wp2;go_roundw
      case rel => exact ⟨i + 1, by omega, by go_num, ⟨vp, rfl, A9, c9, out, rfl, hrow, zf (by rw [← hout.out, Hs.out]), zf (by have := hlen.out; omega)⟩, hbo⟩
      case measure => simp [intOf]; omega
     ·have n0 : (vp != t) = true := by simpa using hq
      rw [if_neg hq] at Hs;have hbz := hbo.out.size;have HR2 := zf (hrow.out.alloc (.cells #[.int .i64 p, .int .i64 vp] 71));have HB2 := zf (hbo.out.alloc hbz (.cells #[.int .i64 p, .int .i64 vp] 71));have HY := zf (SlOf.lit zbi w5 71 #[.int .i64 p, .int .i64 vp] [(p, vp)] (by simp [zaF]) (zK _));have hol := hlen.out;go_wp2_with (at_builtin; refine za2 rfl _ _ 67 rfl w3.heap.size 71 (.agg #[.int .i64 0, .int .i64 0]) 2 16 zaF Tryz.underlying67 (by kernel_rfl) rfl (by omega) zbi zda _ out [(p, vp)] rfl HR2.out (some ⟨w5.heap.size, 0, none⟩) 1 1 rfl rfl HY.out (by omega) (by simp) (by omega) (by simp; omega) ?_; intro A7 c7 w7 hrow7 hb7 hg7; have HR7 := zf hrow7; have HB7 := zf (HB2.out.trans hb7); clear hrow7 hb7 hg7);go_roundw
      case rel =>
       have hl7 : (out ++ [(p, vp)]).length = out.length + 1 := by simp
       exact ⟨i + 1, by omega, by go_num, ⟨vp, rfl, A7, c7, out ++ [(p, vp)], by rw [hl7], zf (by rw [hl7]; exact HR7.out), zf (by rw [← hout.out, Hs.out]; simp), zf (by rw [hl7]; omega)⟩, HB7⟩
      case measure => simp [intOf]; omega
    ·obtain rfl : i = P := by omega
     have hr9 : out = RAW := by
      have h9 := hout.out;rw [HP.out, zar, zdI, zbj] at h9;exact h9
     subst hr9;have hlo := hlen.out;have HB9 := zf (zg HW1.out (Hbr.out.trans (hbo.out.mono hz13)) (ze _));have HRd := zf (Row.read hrow.out zbi (by omega));by_cases hbig : 200 < out.length
     ·obtain ⟨e1, e2⟩ := HE1.out hbig;subst e1;have e2' := zf e2;have d1 : decide ((200 : Int) < (out.length : Int)) = true := by simp; omega
      have d2 : decide (200 < out.length) = true := by simp; omega
      clear e2 hrow hout hlen;go_wp2;go_ret2;exact ⟨none, ⟨0, by rw [e2'.out]; rfl⟩, by rw [e2'.out]; exact SlOf.nil _ _ _ _ _, HB9.out⟩
     ·have d1 : decide ((200 : Int) < (out.length : Int)) = false := by simp; omega
      have d2 : decide (200 < out.length) = false := by simp; omega
      cases hok : zau out
      ·obtain ⟨e1, e2⟩ := HE3.out hbig hok;subst e1;have e2' := zf e2;have HT := zf (zj7 out A9 out.length c9 wo HRd.out (ze _) rfl (by omega) hok);clear e2 hrow hout hlen hok;go_wp2_with fail;refine HT.out.mono ?_;rintro e w6 ⟨rfl, hb⟩;go_wp2;go_ret2;exact ⟨none, 0, by rw [e2'.out]; rfl, by rw [e2'.out]; exact SlOf.nil _ _ _ _ _, zg HB9.out hb (ze _)⟩
      ·obtain ⟨e1, e2⟩ := HE2.out hbig hok;subst e1;have e2' := zf e2;have HT := zf (zkj out A9 out.length c9 wo HRd.out (ze _) rfl (by omega) hok);clear e2 hrow hout hlen hok;go_wp2_with fail;refine HT.out.mono ?_;rintro e w6 ⟨A8, c8, rfl, hr8, hb⟩;have HR8 := zf (Row.read hr8 zbi (by omega));have HBf := zf (zg HB9.out hb (ze _));clear hr8 hb HT;generalize zaE 0 out = SF at *;subst e2';go_wp2;go_ret2;exact ⟨A8, c8, rfl, HR8.out, HBf.out⟩
end Go.Proofs.YtpaanfjjnjjoeaaGreat
