/- Whether a detail is valid. -/
import Derived.Test.YtpaanfjjnjjoeaaGreatSan
import Derived.Test.YtpaanfjjnjjoeaaGreatSap
set_option maxHeartbeats 8000000
set_option maxRecDepth 100000
namespace Go.Proofs.YtpaanfjjnjjoeaaGreat
open Go.RowKit
def zm3 (x : DetD) (w : World) (e : Ending) (w' : World) : Prop :=
 (zah x = false ∧ e = .returned (.tuple #[.slice none 0 0, .bool false]) ∧ Below w.heap.size w w') ∨
 (zah x = true ∧ ∃ A c, e = .returned (.tuple #[.slice A (zx x.bars x.runs).length c, .bool true]) ∧ MainsAt w' w'.heap.size A ((zx x.bars x.runs).map zaK) ∧ Below w.heap.size w w')
theorem znC {ms : List (Option BoxD)} {l : List JoinD} {k : Nat} {j : JoinD} (h : l[k]? = some j) (f s : List Int) :
  zbD ms f s (l.drop k) = (zbA ms j && !f.contains j.first && !s.contains j.second && zbD ms (j.first :: f) (j.second :: s) (l.drop (k + 1))) := by
 rw [zaX h, zbD]
theorem zkv {l : List MainD} {j : JoinD} (h : zcW l j = true) (hl : l.length ≤ 2000) : InInt j.first ∧ InInt j.second := by
 simp only [zcW, zbA, zm, zzJ, zw] at h;unfold InInt;omega
theorem zhB (x : DetD) (s : DetS) (w : World) {B : Nat} (h : DetAt w B x s) (hB : B ≤ w.heap.size) (hf : DetFit x s) :
  Calls Tryz.prog 56 #[zcZ x s] w fun e w' => zm3 x w e w' := by
 have HMM := zf (fun (W : World) (hz : Below w.heap.size w W) (hok : zaj x.bars x.runs = true) => zsp x s W (h.carry (hz.mono hB) (ze _)) (zh hB hz.size) hf hok);have HM := zf (fun (W : World) (hz : Below w.heap.size w W) => zfZ x.mem s.a1 s.a2 s.n1 s.n2 s.c1 s.c2 W (h.h1.carry (Flat.carried _) (hz.mono hB) (ze _)) (h.h2.carry (Flat.carried _) (hz.mono hB) (ze _)) (zh hB hz.size) hf.l1 hf.l2 hf.name);have HL := zf (fun (W : World) (hz : Below w.heap.size w W) => zdr s.a3 x.bars s.n3 s.c3 s.a4 x.runs s.n4 s.c4 W (h.h3.carry (hz.mono hB) (ze _)) (h.h4.carry (Flat.carried _) (hz.mono hB) (ze _)) (zh hB hz.size) hf.l3 hf.l4 hf.m3 hf.m4 hf.tame);have HD := zf (fun (W : World) (hz : Below w.heap.size w W) => zi4 s.a6 x.dems s.n6 s.c6 W (SlOf.carry zba h.h6 (hz.mono hB) (ze _)) (zh hB hz.size) hf.l6 (by have := hf.m6; omega) hf.k6 hf.dems);have HR := zf (fun (W : World) => zey x.rule W);have H5 := zf h.h5;have L5 := zf hf.l5;have M5 := zf hf.m5;have Hlen := zf (fun (hok : zaj x.bars x.runs = true) => (zat hok).2);clear h hf;obtain ⟨tm, htm⟩ : ∃ t, t = zdj x.mem := ⟨_, rfl⟩;obtain ⟨tl, htl⟩ : ∃ t, t = zaj x.bars x.runs := ⟨_, rfl⟩;obtain ⟨td, htd⟩ : ∃ t, t = zb0 x.dems := ⟨_, rfl⟩;obtain ⟨tr, htr⟩ : ∃ t, t = zbH x.rule := ⟨_, rfl⟩;obtain ⟨LL, hLL⟩ : ∃ LL, LL = (zx x.bars x.runs).map zaK := ⟨_, rfl⟩;have Hd := zf (show zah x = (tm && tl && td && tr && decide (x.laps.length ≤ 1000) && zbD (LL.map MainD.opt) [] [] x.laps) by rw [zah, zcI, htm, htl, htd, htr, hLL, zk3]);rw [← htm] at HM;rw [← htl] at HL HMM Hlen;rw [← htd] at HD;rw [← htr] at HR;rw [← hLL] at HMM;have HLL := zf (show LL.length = (zx x.bars x.runs).length by rw [hLL, zw]);have HL0 := zf hLL;obtain ⟨mem, bars, runs, laps, dems, rule⟩ := x;obtain ⟨a1, n1, c1, a2, n2, c2, a3, n3, c3, a4, n4, c4, a5, n5, c5, a6, n6, c6⟩ := s;obtain ⟨name, boxes, holes, cover, agg, poker⟩ := mem;obtain ⟨r1, r2, r3, r4, r5, r6, r7, r8, r9⟩ := rule;simp only at HM HL HMM HD HR H5 L5 M5 Hlen HLL HL0;have m5 : n5 ≤ 60000 := M5.out;clear htm htl htd htr hLL M5;have K0 := zf (Blk.new w 34 #[.string name, .slice a1 n1 c1, .slice a2 n2 c2, .int .i64 cover, .int .i64 agg, .int .i64 poker, .slice a3 n3 c3, .slice a4 n4 c4, .slice a5 n5 c5, .slice a6 n6 c6, .int .i64 r1, .int .i64 r2, .int .i64 r3, .int .i64 r4, .int .i64 r5, .int .i64 r6, .int .i64 r7, .int .i64 r8, .int .i64 r9]);have HW := zf (zk w (.cells #[.string name, .slice a1 n1 c1, .slice a2 n2 c2, .int .i64 cover, .int .i64 agg, .int .i64 poker, .slice a3 n3 c3, .slice a4 n4 c4, .slice a5 n5 c5, .slice a6 n6 c6, .int .i64 r1, .int .i64 r2, .int .i64 r3, .int .i64 r4, .int .i64 r5, .int .i64 r6, .int .i64 r7, .int .i64 r8, .int .i64 r9] 34))
 show Calls Tryz.prog 56 #[.agg #[.string name, .slice a1 n1 c1, .slice a2 n2 c2, .int .i64 cover, .int .i64 agg, .int .i64 poker, .slice a3 n3 c3, .slice a4 n4 c4, .slice a5 n5 c5, .slice a6 n6 c6, .int .i64 r1, .int .i64 r2, .int .i64 r3, .int .i64 r4, .int .i64 r5, .int .i64 r6, .int .i64 r7, .int .i64 r8, .int .i64 r9]] w _
 go_enter Tryz.func56, Tryz.ntmps56;go_wp2_with fail;refine (HM.out _ HW.out).mono ?_;rintro e W2 ⟨rfl, hb2⟩;have K0 := zf (K0.out.keep hb2);have HW := zf (zg HW.out hb2 (ze _));clear hb2 HM;cases tm
 ·have hres := zf (show zah ⟨⟨name, boxes, holes, cover, agg, poker⟩, bars, runs, laps, dems, ⟨r1, r2, r3, r4, r5, r6, r7, r8, r9⟩⟩ = false by rw [Hd.out]; simp);go_wp2;go_ret2;exact .inl ⟨hres.out, rfl, HW.out⟩
 have e6 := K0.out.cell 6;have e7 := K0.out.cell 7;simp at e6 e7;have hk0 := K0.out.lt;go_wp2_with fail;refine (HL.out _ HW.out).mono ?_;clear e6 e7;rintro e W2 ⟨rfl, hb2⟩;have K0 := zf (K0.out.keep hb2);have HW := zf (zg HW.out hb2 (ze _));clear hb2 HL;cases tl
 ·have hres := zf (show zah ⟨⟨name, boxes, holes, cover, agg, poker⟩, bars, runs, laps, dems, ⟨r1, r2, r3, r4, r5, r6, r7, r8, r9⟩⟩ = false by rw [Hd.out]; simp);go_wp2;go_ret2;exact .inl ⟨hres.out, rfl, HW.out⟩
 have e9 := K0.out.cell 9;simp at e9;have hk0 := K0.out.lt;go_wp2_with fail;refine (HD.out _ HW.out).mono ?_;clear e9;rintro e W2 ⟨rfl, hb2⟩;have K0 := zf (K0.out.keep hb2);have HW := zf (zg HW.out hb2 (ze _));clear hb2 HD;cases td
 ·have hres := zf (show zah ⟨⟨name, boxes, holes, cover, agg, poker⟩, bars, runs, laps, dems, ⟨r1, r2, r3, r4, r5, r6, r7, r8, r9⟩⟩ = false by rw [Hd.out]; simp);go_wp2;go_ret2;exact .inl ⟨hres.out, rfl, HW.out⟩
 have e10 := K0.out.cell 10;have e11 := K0.out.cell 11;have e12 := K0.out.cell 12;have e13 := K0.out.cell 13;have e14 := K0.out.cell 14;have e15 := K0.out.cell 15;have e16 := K0.out.cell 16;have e17 := K0.out.cell 17;have e18 := K0.out.cell 18;simp at e10 e11 e12 e13 e14 e15 e16 e17 e18;have hk0 := K0.out.lt;go_wp2_with fail;refine (HR.out _).mono ?_;clear e10 e11 e12 e13 e14 e15 e16 e17 e18;rintro e W2 ⟨rfl, hb2⟩;have K0 := zf (K0.out.keep hb2);have HW := zf (zg HW.out hb2 (ze _));clear hb2 HR;cases tr
 ·have hres := zf (show zah ⟨⟨name, boxes, holes, cover, agg, poker⟩, bars, runs, laps, dems, ⟨r1, r2, r3, r4, r5, r6, r7, r8, r9⟩⟩ = false by rw [Hd.out]; simp);go_wp2;go_ret2;exact .inl ⟨hres.out, rfl, HW.out⟩
 have e8 := K0.out.cell 8;simp at e8;have hk0 := K0.out.lt;by_cases hbig : 1000 < n5
 ·have d0 : decide (1000 < (n5 : Int)) = true := by simp; omega
  have Hd := zf (show zah ⟨⟨name, boxes, holes, cover, agg, poker⟩, bars, runs, laps, dems, ⟨r1, r2, r3, r4, r5, r6, r7, r8, r9⟩⟩ = (true && false) by rw [Hd.out, zE (by rw [← L5.out]; omega)]; rfl);have hres := zf (show zah ⟨⟨name, boxes, holes, cover, agg, poker⟩, bars, runs, laps, dems, ⟨r1, r2, r3, r4, r5, r6, r7, r8, r9⟩⟩ = false by rw [Hd.out]; simp);go_wp2;go_ret2;exact .inl ⟨hres.out, rfl, HW.out⟩
 have d0 : decide (1000 < (n5 : Int)) = false := by simp; omega
 have Hd := zf (show zah ⟨⟨name, boxes, holes, cover, agg, poker⟩, bars, runs, laps, dems, ⟨r1, r2, r3, r4, r5, r6, r7, r8, r9⟩⟩ = zbD (LL.map MainD.opt) [] [] (laps.drop 0) by rw [Hd.out, zI (by rw [← L5.out]; omega)]; rfl);have hln := Hlen.out trivial;have hmm := @run_makeMap Tryz.prog;have Hi := zf (show (Tryz.prog.info? 34).map (·.size) = some 19 by kernel_rfl);go_wp2_with (refine wpList_load_row rfl 34 (.tmp 1) rfl w.heap.size rfl 34 _ (0, 0) _ K0.out Tryz.underlying34 rfl Hi.out ?_);refine (HMM.out _ HW.out trivial).mono ?_;rintro e wM ⟨AM, cM, rfl, hmains, hb2⟩;have K0 := zf (K0.out.keep hb2);have HWM := zf (zg HW.out hb2 (ze _));have HMs := zf hmains;have e8 := K0.out.cell 8;simp at e8;have hk0 := K0.out.lt;clear hb2 HMM hmains Hi;have hll := HLL.out;rw [← hll] at hln ⊢;generalize hgl : LL.length = nl at *;have Hnl := zf hgl.symm;have hB1 := BSet.new wM;have hB2 := (BSet.new wM).alloc (.map #[] 0);have hB3 := BSet.new (wM.alloc (.map #[] 0));rw [zq] at hB3;have HB2 := zf hB2;have HB3 := zf hB3;have HbM := zf (zH wM (.map #[] 0) (.map #[] 0));have HJ := zf (fun (W : World) (hz : Below wM.heap.size wM W) (j : JoinD) => zqJ AM LL nl cM j W (HMs.out.carry (Flat.carried _) hz (ze _)) hz.size Hnl.out (by omega));have Hrg := zf (fun (j : JoinD) (h : zcW LL j = true) => zkv h (by rw [← Hnl.out]; exact hln));clear hgl hB1 hB2 hB3 hll;go_wp2;go_loopw [46] (fun i wr => ∃ k : Nat, k ≤ n5 ∧ i = .int .i64 k ∧ (∃ f t : List Int, BSet wr wM.heap.size k f ∧ BSet wr (wM.heap.size + 1) k t ∧ Hid (zah ⟨⟨name, boxes, holes, cover, agg, poker⟩, bars, runs, laps, dems, ⟨r1, r2, r3, r4, r5, r6, r7, r8, r9⟩⟩ = zbD (LL.map MainD.opt) f t (laps.drop k))) ∧ Below wM.heap.size wM wr) (fun i _ => n5 - (intOf i).toNat)
 case atStart => exact ⟨0, zu _, rfl, ⟨[], [], HB2.out, HB3.out, Hd⟩, HbM.out⟩
 case round =>
  clear HB2 HB3 HbM Hd K0 hk0 e8;obtain ⟨k, hk, rfl, ⟨f, t, hf, ht, hq⟩, hbr⟩ := hrel;have HWr := zf (zg HWM.out hbr (ze _));by_cases hlt : k < n5
  ·obtain ⟨b, off, j, rfl, hbl, hx, c0, c1⟩ := JoinsAt.get (k := k) (H5.out.carry (Flat.carried _) (HWr.out.mono hB) (ze _)) (by rw [← L5.out]; exact hlt);have Hq := zf (hq.out.trans (znC hx f t));have hbw : b < wr.heap.size := by have := HWr.out.size; omega
   have HJj := zf (fun (W : World) (hz : Below wM.heap.size wM W) => HJ.out W hz j);have Hrj := zf (Hrg.out j);have Hjk := zf (show zbA (LL.map MainD.opt) j = zcW LL j from rfl);obtain ⟨tj, htj⟩ : ∃ t, t = zcW LL j := ⟨_, rfl⟩;rw [← htj] at HJj Hrj Hjk;rw [Hjk.out] at Hq;obtain ⟨j1, j2⟩ := j;simp only at c0 c1 HJj Hrj Hq;have HF := zf (hf.alloc (.cells #[.int .i64 j1, .int .i64 j2] 73));have HT := zf (ht.alloc (.cells #[.int .i64 j1, .int .i64 j2] 73));have K1 := zf (Blk.new wr 73 #[.int .i64 j1, .int .i64 j2]);have HR := zf (hbr.alloc hbr.size (.cells #[.int .i64 j1, .int .i64 j2] 73));have ltF := hf.lt;have ltT := ht.lt;clear hx hbl htj hq hf ht hbr Hjk;go_wp2_with fail;refine (HJj.out _ HR.out).mono ?_;rintro e w2 ⟨rfl, hb2⟩;have K1 := zf (K1.out.keep hb2);have HF := zf (HF.out.keep hb2);have HT := zf (HT.out.keep hb2);have HR := zf (zg HR.out hb2 (ze _));have HWr := zf (zg HWM.out HR.out (ze _));have d0 := K1.out.cell 0;have d1 := K1.out.cell 1;simp at d0 d1;have hk1 := K1.out.lt;clear hb2 HJj c0 c1;cases tj
   ·have hres := zf (show zah ⟨⟨name, boxes, holes, cover, agg, poker⟩, bars, runs, laps, dems, ⟨r1, r2, r3, r4, r5, r6, r7, r8, r9⟩⟩ = false by rw [Hq.out]; rfl);go_wp2;go_ret2;exact .inl ⟨hres.out, rfl, HWr.out⟩
   obtain ⟨i1, i2⟩ := Hrj.out rfl;have hl1 := HF.out.look i1;cases hc1 : f.contains j1
   ·rw [hc1] at hl1;have hl2 := HT.out.look i2;cases hc2 : t.contains j2
    ·rw [hc2] at hl2;have Hq2 := zf (show zah ⟨⟨name, boxes, holes, cover, agg, poker⟩, bars, runs, laps, dems, ⟨r1, r2, r3, r4, r5, r6, r7, r8, r9⟩⟩ = zbD (LL.map MainD.opt) (j1 :: f) (j2 :: t) (laps.drop (k + 1)) by rw [Hq.out, hc1, hc2]; rfl);have I1 := zf i1;have I2 := zf i2;clear hc1 hc2 Hq i1 i2;go_wp2_with fail;clear hl1 hl2;have hk9 : k ≤ 1000000 := by omega
     obtain ⟨w6, run6, h6, hg6⟩ := HF.out.drew.store I1.out hk9;have h7 := HT.out.drew.grown hg6 (by omega);obtain ⟨w8, run8, h8, hg8⟩ := h7.store I2.out hk9;have H8 := zf h8;have H9 := zf (h6.grown hg8 (by omega));have hb6 := zch (HR.out.drew) hg6 HR.out.size (ze _);have hb8 := zf (zch hb6 hg8 hb6.size (by omega));have d2 := ((K1.out.drew).grown hg6 (by simp; omega)).cell 1;simp at d2;have hk6 : wr.heap.size < w6.heap.size := zt hk1 hg6.size;clear h6 h7 h8 hg6 hg8 hb6;go_region
     all_goals
      clear d0;go_wp2;go_roundw
      case rel => exact ⟨k + 1, by omega, by go_num, ⟨j1 :: f, j2 :: t, H9.out, H8.out, Hq2⟩, hb8.out⟩
      case measure => simp [intOf]; omega
    ·rw [hc2] at hl2;have hres := zf (show zah ⟨⟨name, boxes, holes, cover, agg, poker⟩, bars, runs, laps, dems, ⟨r1, r2, r3, r4, r5, r6, r7, r8, r9⟩⟩ = false by rw [Hq.out, hc2]; simp);clear hc1 hc2;go_wp2;go_ret2;exact .inl ⟨hres.out, rfl, HWr.out⟩
   ·rw [hc1] at hl1;have hres := zf (show zah ⟨⟨name, boxes, holes, cover, agg, poker⟩, bars, runs, laps, dems, ⟨r1, r2, r3, r4, r5, r6, r7, r8, r9⟩⟩ = false by rw [Hq.out, hc1]; simp);clear hc1;go_wp2;go_ret2;exact .inl ⟨hres.out, rfl, HWr.out⟩
  ·obtain rfl : k = n5 := by omega
   have hres := zf (show zah ⟨⟨name, boxes, holes, cover, agg, poker⟩, bars, runs, laps, dems, ⟨r1, r2, r3, r4, r5, r6, r7, r8, r9⟩⟩ = true by rw [hq.out, L5.out, zar]; rfl);have HMf := zf (show MainsAt wr wr.heap.size AM LL from HMs.out.carry (Flat.carried _) hbr hbr.size);clear hf ht hq;go_wp2;go_ret2;exact .inr ⟨hres.out, AM, cM, by rw [← HLL.out]; rfl, by rw [← HL0.out]; exact HMf.out, HWr.out⟩
theorem zdO (x : DetD) (s : DetS) (w : World) {B : Nat} (h : DetAt w B x s) (hB : B ≤ w.heap.size) (hf : DetFit x s) :
  Calls Tryz.prog 61 #[zcZ x s] w fun e w' => e = .returned (.bool (zah x)) ∧ Below w.heap.size w w' := by
 have HL := zf (fun (W : World) (hz : Below w.heap.size w W) => zhB x s W (h.carry (hz.mono hB) (ze _)) (zh hB hz.size) hf);have K0 := zf (Blk.new w 34 (zp x.mem x.rule s));have HW := zf (zk w (.cells (zp x.mem x.rule s) 34));have Hi := zf (show (Tryz.prog.info? 34).map (·.size) = some 19 by kernel_rfl);obtain ⟨mem, bars, runs, laps, dems, rule⟩ := x;obtain ⟨a1, n1, c1, a2, n2, c2, a3, n3, c3, a4, n4, c4, a5, n5, c5, a6, n6, c6⟩ := s;obtain ⟨name, boxes, holes, cover, agg, poker⟩ := mem;obtain ⟨r1, r2, r3, r4, r5, r6, r7, r8, r9⟩ := rule;simp only [zp] at K0 HW;clear h hf
 show Calls Tryz.prog 61 #[.agg #[.string name, .slice a1 n1 c1, .slice a2 n2 c2, .int .i64 cover, .int .i64 agg, .int .i64 poker, .slice a3 n3 c3, .slice a4 n4 c4, .slice a5 n5 c5, .slice a6 n6 c6, .int .i64 r1, .int .i64 r2, .int .i64 r3, .int .i64 r4, .int .i64 r5, .int .i64 r6, .int .i64 r7, .int .i64 r8, .int .i64 r9]] w _
 go_enter Tryz.func61, Tryz.ntmps61;go_wp2_with (refine wpList_load_row rfl 34 (.tmp 1) rfl w.heap.size rfl 34 _ (0, 0) _ K0.out Tryz.underlying34 rfl Hi.out ?_);refine (HL.out _ HW.out).mono ?_;rintro e w2 (⟨hd, rfl, hb2⟩ | ⟨hd, A, c, rfl, _, hb2⟩)
 all_goals
  have Hd := zf hd;have Hb := zf (zg HW.out hb2 (ze _));clear hd hb2 HL K0 HW Hi;go_wp2;go_ret;exact ⟨zo Hd.out.symm, Hb.out⟩
theorem zbo {b : BoxD} : zad b = true ↔ (b.lo.1 ≤ b.hi.1 ∧ -1048576 ≤ b.lo.1 ∧ b.hi.1 ≤ 1048576) ∧ (b.lo.2.1 ≤ b.hi.2.1 ∧ -1048576 ≤ b.lo.2.1 ∧ b.hi.2.1 ≤ 1048576) ∧ (b.lo.2.2 ≤ b.hi.2.2 ∧ -1048576 ≤ b.lo.2.2 ∧ b.hi.2.2 ≤ 1048576) := by
 simp [zad, zbI, zdp, zfA, and_assoc]
theorem zqS : ∀ (l : List BoxD) (a : BoxD), zad a = true → l.all zad = true → zad (zfv a l) = true := by
 intro l
 induction l with
 | nil => intro a h _; exact h
 | cons b l ih =>
  intro a ha hl;rw [List.all_cons, zm] at hl;refine ih _ ?_ hl.2;have h1 := zbo.1 ha;have h2 := zbo.1 hl.1;rw [zbo];simp only [zmz, zmA];omega
theorem zqT {l : List BoxD} (hn : 1 ≤ l.length) (h : l.all zad = true) : zad (zex l) = true := by
 cases l with
 | nil => simp at hn
 | cons b l =>
  have h9 := h;rw [List.all_cons, zm] at h9;exact zqS (b :: l) b h9.1 h
theorem zaG {x : DetD} (h : zah x = true) : zdj x.mem = true ∧ zaj x.bars x.runs = true ∧ zaZ x.mem.boxes x.mem.holes = true := by
 simp only [zah, zcI, zm] at h;have hm := h.1.1.1.1.1;refine ⟨hm, h.1.1.1.1.2, ?_⟩;simp only [zdj, zm] at hm;exact hm.1.1.1.2
structure PieceD where
 cut : BoxD
 bar : Int
 size : Int
 cross : Bool
theorem zjs {α : Type} {P : List α → Prop} (h0 : P []) (h1 : ∀ l x, P l → P (l ++ [x])) (l : List α) : P l := by
 rw [← List.reverse_reverse l]
 induction l.reverse with
 | nil => exact h0
 | cons x r ih => rw [List.reverse_cons]; exact h1 _ _ ih
def zfO (d : Int) : Int := (7854 * d * d + 50) / 100
def zet (h b : BoxD) : Bool := decide (b.lo.1 < h.hi.1) && decide (h.lo.1 < b.hi.1) && decide (b.lo.2.1 < h.hi.2.1) && decide (h.lo.2.1 < b.hi.2.1) && decide (b.lo.2.2 < h.hi.2.2) && decide (h.lo.2.2 < b.hi.2.2)
def zdF (a b : BoxD) : Bool := decide (a.lo.1 ≤ b.lo.1) && decide (b.hi.1 ≤ a.hi.1) && decide (a.lo.2.1 ≤ b.lo.2.1) && decide (b.hi.2.1 ≤ a.hi.2.1) && decide (a.lo.2.2 ≤ b.lo.2.2) && decide (b.hi.2.2 ≤ a.hi.2.2)
def zfg (b : BoxD) (h : BoxD) : Bool := zet h b
def zfT (b : BoxD) (a : BoxD) : Bool := zdF a b
def zc3 (frm n i : Int) : Bool := decide (frm ≤ i) && decide (i < frm + n)
def zcb (frm n i : Int) : Int := if frm ≤ i then i - n else i
def zcV (frm n : Int) (j : JoinD) : Bool := !zc3 frm n j.first && !zc3 frm n j.second
def zcc (frm n : Int) (j : JoinD) : JoinD := ⟨zcb frm n j.first, zcb frm n j.second⟩
def zaO (frm n : Int) (l : List JoinD) : List JoinD := (l.filter (zcV frm n)).map (zcc frm n)
def zcT (l : List RunD) (k : Nat) : Int := match l[k]? with | some r => r.count | none => 0
def zan (x : DetD) (k : Nat) : DetD := ⟨x.mem, x.bars, x.runs.eraseIdx k, zaO (zD (x.runs.take k)) (zcT x.runs k) x.laps, x.dems, x.rule⟩
theorem zfC (frm n : Int) (l : List JoinD) (j : JoinD) : zaO frm n (l ++ [j]) = zaO frm n l ++ (if zcV frm n j then [zcc frm n j] else []) := by
 simp only [zaO, zbw, zV];cases h : zcV frm n j <;> simp [h]
theorem zgd {ms : List (Option BoxD)} : ∀ (l : List JoinD) (f s : List Int), zbD ms f s l = true → ∀ j ∈ l, zbA ms j = true := by
 intro l
 induction l with
 | nil => intro f s _ j hj; cases hj
 | cons y l ih =>
  intro f s h j hj;simp only [zbD, zm] at h;rcases List.mem_cons.1 hj with rfl | hj
  ·exact h.1.1.1
  ·exact ih _ _ h.2 j hj
theorem zfD {ms : List (Option BoxD)} {j : JoinD} (h : zbA ms j = true) : 0 ≤ j.first ∧ j.first < (ms.length : Int) ∧ 0 ≤ j.second ∧ j.second < (ms.length : Int) := by
 simp only [zbA, zm, zzJ] at h;exact ⟨h.1.1.1.1, h.1.1.1.2, h.1.1.2, h.1.2⟩
theorem zf5 {x : DetD} (h : zah x = true) : zbD ((zx x.bars x.runs).map zaR) [] [] x.laps = true := by
 simp only [zah, zm] at h;exact h.2
theorem zgW {x : DetD} (h : zah x = true) : ∀ j ∈ x.laps, 0 ≤ j.first ∧ j.first < zD x.runs ∧ 0 ≤ j.second ∧ j.second < zD x.runs := by
 intro j hj;have h1 := zfD (zgd _ _ _ (zf5 h) j hj);have h2 := (zat (zaG h).2.1).1;rw [zw] at h1;omega
theorem zfo {α : Type} (l : List α) (k : Nat) : l.eraseIdx k = l.take k ++ l.drop (k + 1) := List.eraseIdx_eq_take_drop_succ l k
theorem zeb (a : List RunD) : ∀ b : List RunD, zD (a ++ b) = zD a + zD b := by
 induction a with
 | nil => intro b; simp [zD]
 | cons r a ih => intro b; rw [List.cons_append, zcA, zcA, ih b]; omega
theorem zdA (bars : List BarD) (a b : List RunD) : zx bars (a ++ b) = zx bars a ++ zx bars b := by simp [zx]
theorem znI {bars : List BarD} {runs : List RunD} {k : Nat} (h : zaj bars runs = true) : zaj bars (runs.eraseIdx k) = true := by
 simp only [zaj, zm, zzJ] at h ⊢;obtain ⟨⟨h1, h2⟩, h3⟩ := h;refine ⟨⟨h1, zh (List.length_eraseIdx_le ..) h2⟩, ?_⟩;rw [ziE _ _ (by omega), zm, zzJ] at h3 ⊢;obtain ⟨h3, h4⟩ := h3;rw [List.all_eq_true] at h3;refine ⟨List.all_eq_true.2 (fun r hr => h3 r (List.mem_of_mem_eraseIdx hr)), ?_⟩;rcases Nat.lt_or_ge k runs.length with hk | hk
 ·have hs : runs = runs.take k ++ runs[k] :: runs.drop (k + 1) := by rw [← List.drop_eq_getElem_cons hk, List.take_append_drop]
  have e1 : zD runs = zD (runs.take k) + ((runs[k]).count + zD (runs.drop (k + 1))) := by
   conv => lhs; rw [hs]
   rw [zeb, zcA]
  have e2 := (zaw (h3 _ (List.getElem_mem hk))).1;rw [zfo, zeb];omega
 ·rw [List.eraseIdx_of_length_le hk];exact h4
theorem ziP {bars : List BarD} {r : RunD} (h : zaC bars r = true) : ((zd9 bars r).length : Int) = r.count := by
 have h1 := zfn (bars := bars) [r] (by intro q hq; rw [zP] at hq; subst hq; exact h)
 simpa [zx, zD] using h1
theorem zoT {bars : List BarD} {runs : List RunD} {k : Nat} (h : zaj bars runs = true) (hk : k < runs.length) :
  ∃ P S T : List (Option BoxD), (zx bars runs).map zaR = P ++ S ++ T ∧ (zx bars (runs.eraseIdx k)).map zaR = P ++ T ∧ (P.length : Int) = zD (runs.take k) ∧ (S.length : Int) = zcT runs k := by
 have hm := (zap h).2.2;have hs : runs = runs.take k ++ [runs[k]] ++ runs.drop (k + 1) := by
  rw [zaI, List.singleton_append, ← List.drop_eq_getElem_cons hk, List.take_append_drop]
 refine ⟨(zx bars (runs.take k)).map zaR, (zd9 bars runs[k]).map zaR, (zx bars (runs.drop (k + 1))).map zaR, ?_, ?_, ?_, ?_⟩
 ·conv => lhs; rw [hs]
  rw [zdA, zdA, zV, zV]
  congr 2
  simp [zx]
 ·rw [zfo, zdA, zV]
 ·rw [zw];exact zfn _ (fun r hr => hm r (List.mem_of_mem_take hr))
 ·rw [zw, ziP (hm _ (List.getElem_mem hk)), zcT, zi hk]
theorem zil {α : Type} {P S T : List α} {i : Nat} {d : α} (h : i < P.length ∨ P.length + S.length ≤ i) : (P ++ T).getD (if P.length ≤ i then i - S.length else i) d = (P ++ S ++ T).getD i d := by
 rw [zY, zY]
 congr 1
 rcases h with h | h
 ·rw [if_neg (by omega), List.getElem?_append_left h, zaI, List.getElem?_append_left h]
 ·rw [if_pos (by omega), List.getElem?_append_right (by omega), zaI, List.getElem?_append_right (by omega), List.getElem?_append_right (by omega)]
  congr 1
  omega
theorem zih {P S : Nat} {i : Int} (h0 : 0 ≤ i) (hk : zc3 P S i = false) : (i.toNat < P ∨ P + S ≤ i.toNat) ∧ zcb P S i = ((if P ≤ i.toNat then i.toNat - S else i.toNat : Nat) : Int) := by
 simp only [zc3, Bool.and_eq_false_iff, zzI] at hk;refine ⟨by omega, ?_⟩;unfold zcb
 split <;> split <;> omega
theorem zk1 {P S : Nat} {i j : Int} (hi : zc3 P S i = false) (hj : zc3 P S j = false) (h : zcb P S i = zcb P S j) : i = j := by
 simp only [zc3, Bool.and_eq_false_iff, zzI] at hi hj;unfold zcb at h
 split at h <;> split at h <;> omega
def zlu (a b : Option BoxD) : Bool := match a, b with
 | some a, some b => decide (a.lo.1 < b.lo.1) && decide (a.hi.1 < b.hi.1) && decide (b.lo.1 ≤ a.hi.1)
 | _, _ => false
theorem ziN {ms : List (Option BoxD)} {j : JoinD} : zbA ms j = true ↔ 0 ≤ j.first ∧ j.first < (ms.length : Int) ∧ 0 ≤ j.second ∧ j.second < (ms.length : Int) ∧ zlu (ms.getD j.first.toNat none) (ms.getD j.second.toNat none) = true := by
 have h : zbA ms j = (decide (0 ≤ j.first) && decide (j.first < ms.length) && decide (0 ≤ j.second) && decide (j.second < ms.length) && zlu (ms.getD j.first.toNat none) (ms.getD j.second.toNat none)) := rfl;rw [h];simp only [zm, zzJ, and_assoc]
theorem zsE {P S T : List (Option BoxD)} {j : JoinD} (h : zbA (P ++ S ++ T) j = true) (hk : zcV P.length S.length j = true) : zbA (P ++ T) (zcc P.length S.length j) = true := by
 have hr := zfD h;simp only [zcV, zm, Bool.not_eq_true'] at hk;obtain ⟨a1, a2⟩ := zih hr.1 hk.1;obtain ⟨b1, b2⟩ := zih hr.2.2.1 hk.2;have e1 := zil (T := T) (d := none) a1;have e2 := zil (T := T) (d := none) b1;rw [ziN] at h ⊢;have c1 : (zcc P.length S.length j).first = ((if P.length ≤ j.first.toNat then j.first.toNat - S.length else j.first.toNat : Nat) : Int) := a2;have c2 : (zcc P.length S.length j).second = ((if P.length ≤ j.second.toNat then j.second.toNat - S.length else j.second.toNat : Nat) : Int) := b2;rw [c1, c2, zaz, zaz, e1, e2];simp only [zC] at hr ⊢;refine ⟨by omega, ?_, by omega, ?_, h.2.2.2.2⟩
 ·split <;> omega
 ·split <;> omega
theorem zqD {P S T : List (Option BoxD)} : ∀ (l : List JoinD) (f s f' s' : List Int), zbD (P ++ S ++ T) f s l = true →
  (∀ i, zc3 P.length S.length i = false → zcb P.length S.length i ∈ f' → i ∈ f) → (∀ i, zc3 P.length S.length i = false → zcb P.length S.length i ∈ s' → i ∈ s) →
  zbD (P ++ T) f' s' (zaO P.length S.length l) = true := by
 intro l
 induction l with
 | nil => intro f s f' s' _ _ _; rfl
 | cons j l ih =>
  intro f s f' s' h hf hs;simp only [zbD, zm, Bool.not_eq_true'] at h;obtain ⟨⟨⟨h1, h2⟩, h3⟩, h4⟩ := h;cases hk : zcV P.length S.length j
  ·have : zaO P.length S.length (j :: l) = zaO P.length S.length l := by simp [zaO, hk]
   rw [this];exact ih _ _ f' s' h4 (fun i hi hm => zZ _ (hf i hi hm)) (fun i hi hm => zZ _ (hs i hi hm))
  ·have : zaO P.length S.length (j :: l) = zcc P.length S.length j :: zaO P.length S.length l := by simp [zaO, hk]
   rw [this];have hk2 := hk;simp only [zcV, zm, Bool.not_eq_true'] at hk2;simp only [zbD, zm, Bool.not_eq_true'];refine ⟨⟨⟨zsE h1 hk, ?_⟩, ?_⟩, ?_⟩
   ·cases hc : f'.contains (zcc P.length S.length j).first
    ·rfl
    ·rw [List.contains_iff_mem] at hc;have := hf _ hk2.1 hc;rw [← List.contains_iff_mem, h2] at this;cases this
   ·cases hc : s'.contains (zcc P.length S.length j).second
    ·rfl
    ·rw [List.contains_iff_mem] at hc;have := hs _ hk2.2 hc;rw [← List.contains_iff_mem, h3] at this;cases this
   ·refine ih _ _ _ _ h4 (fun i hi hm => ?_) (fun i hi hm => ?_)
    ·rcases List.mem_cons.1 hm with hm | hm
     ·rw [zk1 hi hk2.1 hm]; exact List.mem_cons_self ..
     ·exact zZ _ (hf i hi hm)
    ·rcases List.mem_cons.1 hm with hm | hm
     ·rw [zk1 hi hk2.2 hm]; exact List.mem_cons_self ..
     ·exact zZ _ (hs i hi hm)
theorem ztq {x : DetD} (h : zah x = true) {k : Nat} (hk : k < x.runs.length) : zah (zan x k) = true := by
 have hp := zaG h;obtain ⟨P, S, T, e1, e2, e3, e4⟩ := zoT hp.2.1 hk;have hl := zf5 h;rw [e1] at hl;have hl2 := zqD x.laps [] [] [] [] hl (fun i _ hm => by cases hm) (fun i _ hm => by cases hm);rw [e3, e4] at hl2;have hlen : (zaO (zD (x.runs.take k)) (zcT x.runs k) x.laps).length ≤ x.laps.length := by
  rw [zaO, zw];exact zal ..
 simp only [zah, zcI, zm, zzJ] at h ⊢;obtain ⟨⟨⟨⟨⟨g1, g2⟩, g3⟩, g4⟩, g5⟩, g6⟩ := h;refine ⟨⟨⟨⟨⟨g1, znI g2⟩, g3⟩, g4⟩, zh hlen g5⟩, ?_⟩
 show zbD ((zx x.bars (x.runs.eraseIdx k)).map zaR) [] [] (zaO (zD (x.runs.take k)) (zcT x.runs k) x.laps) = true
 rw [e2];exact hl2
theorem zlW {l : List BarD} : ∀ (r : List BarD) (k : Nat), zbP l k r = true → ∀ (j : Nat) (x : BarD), r[j]? = some x → idx (zaJ x.mark) l = ((k + j : Nat) : Int) := by
 intro r
 induction r with
 | nil => intro k _ j x h; simp at h
 | cons y r ih =>
  intro k h j x hx;simp only [zbP, zm, zzJ] at h;cases j with
  | zero =>
   obtain rfl : y = x := by simpa using hx
   exact h.1.2
  | succ j =>
   rw [List.getElem?_cons_succ] at hx;rw [ih (k + 1) h.2 j x hx]
   congr 1
   omega
theorem zmE {l : List BarD} (h : zbz l = true) {j : Nat} {x : BarD} (hx : l[j]? = some x) : idx (zaJ x.mark) l = (j : Int) := by
 simp only [zbz, zm] at h;rw [zlW l 0 h.2 j x hx, Nat.zero_add]
def zje (l : List BarD) : Prop := ∀ (i j : Nat) (x y : BarD), l[i]? = some x → l[j]? = some y → x.mark = y.mark → i = j
theorem zkU {l : List BarD} (h : zbz l = true) : zje l := by
 intro i j x y hx hy he;have h1 := zmE h hx;have h2 := zmE h hy;rw [he, h2] at h1;omega
def zdX (l : List BarD) : ByteArray → Int := l.foldl (fun f b => zeZ f b.mark b.size) (fun _ => 0)
theorem ziA (l : List BarD) (b : BarD) : zdX (l ++ [b]) = zeZ (zdX l) b.mark b.size := by simp [zdX, List.foldl_append]
theorem zqd : ∀ (l : List BarD), zje l → ∀ x ∈ l, zdX l x.mark = x.size := by
 refine zjs ?_ ?_
 ·intro _ x hx; simp at hx
 ·intro l z ih h x hx;rw [ziA, zeZ];by_cases he : x.mark = z.mark
  ·rw [if_pos he];obtain ⟨i, hi, hxi⟩ := List.getElem_of_mem hx;have h1 : (l ++ [z])[i]? = some x := by rw [zi hi, hxi]
   have h2 : (l ++ [z])[l.length]? = some z := by simp
   have h3 := h i l.length x z h1 h2 he;rw [h3, h2] at h1;injection h1 with h1
   rw [h1]
  ·rw [if_neg he];rcases List.mem_append.1 hx with h1 | h1
   ·refine ih (fun i j u v hu hv huv => h i j u v ?_ ?_ huv) x h1
    ·rw [List.getElem?_append_left (zaa hu)]; exact hu
    ·rw [List.getElem?_append_left (zaa hv)]; exact hv
   ·rw [zP] at h1;exact absurd (by rw [h1]) he
theorem zeP {bars : List BarD} {runs : List RunD} (h : zaj bars runs = true) : zbz bars = true := by
 simp only [zaj, zm] at h;exact h.1.1
theorem zmQ {bars : List BarD} {runs : List RunD} (hok : zaj bars runs = true) {i : Nat} {l : LaidD} (hl : (zx bars runs)[i]? = some l) : l.bar ∈ bars := by
 have hm := zv hl;simp only [zx, zcB] at hm;obtain ⟨u, hu, hm⟩ := hm;obtain ⟨j, y, hj, hy, hyb, _⟩ := zca ((zap hok).2.2 u hu);rw [zb5 hyb] at hm;simp only [zcv, zeT] at hm;obtain ⟨q, _, rfl⟩ := hm;exact zv hy
theorem zgC {bars : List BarD} {runs : List RunD} (hok : zaj bars runs = true) {x : BarD} (hx : x ∈ bars) : za1 x.size = true := by
 have h := (zap hok).1 x hx;simp only [zcr, zm] at h
 simp_all
theorem zo6 {d : Int} (h : za1 d = true) : InInt d := by
 have := zbN h;unfold InInt;omega
theorem zqR (p q : Pt) : zex [zez p, zez q] = zbZ p q := by
 obtain ⟨p1, p2, p3⟩ := p;obtain ⟨q1, q2, q3⟩ := q;simp [zex, zfv, zez, zbZ, zmz, zmA]
theorem zmI {p : Pt} (h : zJ 1048576 p = true) : zad (zez p) = true := by
 obtain ⟨a, b, c⟩ := zab.1 h;rw [zbo];simp only [zez];omega
theorem zrK {p q : Pt} (hp : zJ 1048576 p = true) (hq : zJ 1048576 q = true) : zad (zbZ p q) = true := by
 obtain ⟨a, b, c⟩ := zab.1 hp;obtain ⟨d, e, f⟩ := zab.1 hq;rw [zbo];simp only [zbZ, zmz, zmA];omega
theorem zmH {w : World} {B b off : Nat} {l : List Pt} {k : Nat} {p q : Pt} (h : PtsAt w B (some ⟨b, off, none⟩) l) (hp : l[k]? = some p) (hq : l[k + 1]? = some q) : PtsAt w B (some ⟨b, off + k * 3, none⟩) [p, q] := by
 obtain ⟨b', off', hA, hb, hc⟩ := h (by have := zaa hp; omega);injection hA with hA
 injection hA with h1 h2
 subst h1;subst h2;intro _;refine ⟨b, off + k * 3, rfl, hb, fun j x hx => ?_⟩;have hj : l[k + j]? = some x := by
  match j, hx with
  | 0, hx => simp at hx; subst hx; exact hp
  | 1, hx => simp at hx; subst hx; exact hq
  | j + 2, hx => simp at hx
 obtain ⟨vs, hs, hr, hv⟩ := hc (k + j) x hj;exact ⟨vs, hs, hr, fun i v hi => by
  have := hv i v hi
  rwa [show off + (k + j) * 3 + i = off + k * 3 + j * 3 + i by omega] at this⟩
theorem zeV {bars : List BarD} : ∀ (runs : List RunD) (i : Nat) (l : LaidD), (∀ r ∈ runs, zaC bars r = true) → (zx bars runs)[i]? = some l → (∀ p ∈ l.pts, zJ 1048576 p = true) ∧ 1 ≤ l.pts.length ∧ l.pts.length ≤ 7 := by
 intro runs
 induction runs with
 | nil => intro i l _ h; simp [zx] at h
 | cons r runs ih =>
  intro i l hok h;obtain ⟨j, x, hj, hx', hx, _⟩ := zca (hok r (by simp));have e : zx bars (r :: runs) = zcv x r r.count.toNat ++ zx bars runs := by rw [← zb5 hx]; simp [zx]
  rw [e] at h;by_cases hi : i < r.count.toNat
  ·rw [List.getElem?_append_left (by rw [zbu]; exact hi)] at h;simp [zcv, hi] at h;subst h;refine ⟨zjI (hok r (by simp)) hx (by omega) (by omega), ?_⟩;simp only [zbJ, zw, zb4];have := zc9 x.code;omega
  ·rw [List.getElem?_append_right (by rw [zbu]; omega)] at h;exact ih _ l (fun z hz => hok z (zZ _ hz)) h
theorem zhS (A3 A4 : Option Addr) (bars : List BarD) (runs : List RunD) (n3 c3 n4 c4 i : Nat) (ld : LaidD) (w : World) {B : Nat} (h3 : BarsAt w B A3 bars) (h4 : RunsAt w B A4 runs) (hB : B ≤ w.heap.size) (l3 : n3 = bars.length) (l4 : n4 = runs.length) (m3 : n3 ≤ 60000) (m4 : n4 ≤ 60000) (htame : zer bars) (hok : zaj bars runs = true) (hi : (zx bars runs)[i]? = some ld) :
  Calls Tryz.prog 115 #[.slice A3 n3 c3, .slice A4 n4 c4, .int .i64 i] w fun e w' => ∃ A c, e = .returned (.tuple #[.slice A (zy ld.pts).length c, .int .i64 0]) ∧ Row w' w.heap.size 62 6 zdm (.slice A (zy ld.pts).length c) (zy ld.pts) ∧ Below w.heap.size w w' := by
 have HP := zf (znH A3 A4 bars runs n3 c3 n4 c4 i ld w h3 h4 hB l3 l4 m3 m4 htame hok hi);obtain ⟨hnear, hl1, hl7⟩ := zeV runs i ld (zap hok).2.2 hi;have Hnear := zf hnear;obtain ⟨pts, hpts⟩ : ∃ pts, pts = ld.pts := ⟨_, rfl⟩;rw [← hpts] at HP hl1 hl7 Hnear ⊢;obtain ⟨n, hn⟩ : ∃ n, n = pts.length := ⟨_, rfl⟩;rw [← hn] at HP hl1 hl7;have Hn := zf hn;clear h3 h4 hB l3 l4 m3 m4 htame hok hi hnear hpts hn;go_enter Tryz.func115, Tryz.ntmps115;go_wp2_with fail;refine HP.out.mono ?_;rintro e w1 ⟨A, rfl, hp, hb1⟩;have Hp := zf hp;have Hb1 := zf hb1;clear HP hp hb1;go_wp2;go_loopw [10, 11] (fun v iv wr => ∃ k : Nat, k + 1 ≤ n ∧ iv = .int .i64 ((k : Int) + 1) ∧ (∃ acc : List BoxD, Row wr w1.heap.size 62 6 zdm v acc ∧ Hid (acc = (zy pts).take k)) ∧ Below w1.heap.size w1 wr) (fun _ iv _ => n - (intOf iv).toNat)
 case atStart => exact ⟨0, hl1, rfl, ⟨[], Row.nil _ _ _ _ _, zf rfl⟩, Below.refl _ _⟩
 case round =>
  obtain ⟨k, hk, rfl, ⟨acc, hrow, hacc⟩, hbr⟩ := hrel;obtain ⟨A0, c0, rfl⟩ := hrow.val;have hal : acc.length ≤ 1000 := by rw [hacc.out, zG]; omega
  have Hrow := zf hrow;clear hrow;by_cases hlt : k + 1 < n
  ·obtain ⟨b, off, p, hA, hbl, hx, e3, e4, e5⟩ := PtsAt.get (k := k) (Hp.out.carry (Flat.carried _) hbr hbr.size) (by rw [← Hn.out]; omega);obtain ⟨b', off', q, hA', hbl', hy, e0, e1, e2⟩ := PtsAt.get (k := k + 1) (Hp.out.carry (Flat.carried _) hbr hbr.size) (by rw [← Hn.out]; exact hlt);clear hA' hbl' e0 e1 e2 e3 e4 e5;subst hA;have hsub : k + 1 + 1 - k = 2 := by omega
   have HPo := zf (fun (W : World) (hz : Below w1.heap.size w1 W) => zoM (some ⟨b, off + k * 3, none⟩) [p, q] 2 (n - k) W (zmH (Hp.out.carry (Flat.carried _) hz (ze _)) hx hy) hz.size rfl (by omega));have HHu := zf (fun (W : World) (A' : Option Addr) (c' : Nat) (h : BoxesAt W W.heap.size A' ([p, q].map zez)) => zj0 A' ([p, q].map zez) 2 c' W h (ze _) rfl (by omega) (by omega) (by simp [zmI (Hnear.out p (zv hx)), zmI (Hnear.out q (zv hy))]));have Hhp := zf (show zex ([p, q].map zez) = zbZ p q from zqR p q);have Hn2 := zf (show (zy pts).take (k + 1) = acc ++ [zbZ p q] by rw [zQ (zeO pts k p q hx hy), hacc.out]);have z1 : IntKind.i64.wrap ((k : Int) + 1 - 1) = (k : Int) := by rw [zbL]; exact zr _ (by omega)
   have z2 : IntKind.i64.wrap (k : Int) = (k : Int) := zr _ (by omega);have z3 : IntKind.i64.wrap ((k : Int) + 1 + 1) = (k : Int) + 1 + 1 := zr _ (by omega);have HB := zf hbr;clear hx hy hbl hbr;go_wp2_with fail;refine (HPo.out _ HB.out).mono ?_;rintro e w2 ⟨A6, c6, rfl, hbx, hb2⟩;have HHu2 := zf (HHu.out w2 A6 c6 hbx);have HB2 := zf (zg HB.out hb2 (ze _));have Hrow2 := zf (Hrow.out.keep hb2);clear hbx hb2 HPo HHu;go_wp2_with fail;refine HHu2.out.mono ?_;rintro e w3 ⟨rfl, hb3⟩;rw [Hhp.out];have HB3 := zf (zg HB2.out hb3 (ze _));have Hrow3 := zf (Hrow2.out.keep hb3);generalize zbZ p q = lb at *;obtain ⟨⟨x1, x2, x3⟩, x4, x5, x6⟩ := lb;have hs3 := HB3.out.size;clear hb3 HHu2 Hhp;go_wp2_with (at_builtin; refine zO rfl (.tmp 44) (.tmp 46) 22 rfl w1.heap.size 62 (.agg #[.int .i64 0, .int .i64 0, .int .i64 0, .int .i64 0, .int .i64 0, .int .i64 0]) 6 48 zdm Tryz.underlying22 (by kernel_rfl) rfl (by omega) zcN zfI _ acc ⟨(x1, x2, x3), (x4, x5, x6)⟩ rfl ((Hrow3.out.alloc _).alloc _) _ rfl (Blk.new1 w3 _ _ _) (by omega) (by omega) (zM (zM hs3 _) _) ?_; intro A1 c1 w6 hrow6 hb6 _);go_roundw
   case rel => exact ⟨k + 1, by omega, by go_num, ⟨acc ++ [⟨(x1, x2, x3), (x4, x5, x6)⟩], by simpa using hrow6, zf Hn2.out.symm⟩, ((HB3.out.alloc hs3 _).alloc (zM hs3 _) _).trans hb6⟩
   case measure => simp [intOf]; omega
  ·have hk9 : k + 1 = n := by omega
   have hf : acc = zy pts := by
    rw [hacc.out];exact List.take_of_length_le (by rw [zco, ← Hn.out]; omega)
   have hlen := zf (show (zy pts).length = acc.length by rw [hf]);have Hr := zf (show Row wr w.heap.size 62 6 zdm (.slice A0 (zy pts).length c0) (zy pts) by rw [← hf]; exact zlC Hb1.out.size Hrow.out);have Hb := zf (zg Hb1.out hbr (ze _));clear hf hacc Hrow hbr;generalize acc.length = m at *;go_wp2;go_ret2;exact ⟨A0, c0, by rw [hlen.out]; rfl, Hr.out, Hb.out⟩
theorem znJ (A3 A4 : Option Addr) (bars : List BarD) (runs : List RunD) (n3 c3 n4 c4 i : Nat) (ld : LaidD) (w : World) {B : Nat} (h3 : BarsAt w B A3 bars) (h4 : RunsAt w B A4 runs) (hB : B ≤ w.heap.size) (l3 : n3 = bars.length) (l4 : n4 = runs.length) (m3 : n3 ≤ 60000) (m4 : n4 ≤ 60000) (htame : zer bars) (hok : zaj bars runs = true) (hi : (zx bars runs)[i]? = some ld) :
  Calls Tryz.prog 115 #[.slice A3 n3 c3, .slice A4 n4 c4, .int .i64 i] w fun e w' => ∃ A c, e = .returned (.tuple #[.slice A (zy ld.pts).length c, .int .i64 0]) ∧ BoxesAt w' w'.heap.size A (zy ld.pts) ∧ Below w.heap.size w w' :=
 (zhS A3 A4 bars runs n3 c3 n4 c4 i ld w h3 h4 hB l3 l4 m3 m4 htame hok hi).mono fun _ _ ⟨A, c, he, hr, hb⟩ => ⟨A, c, he, Row.read hr zcN (by omega), hb⟩
theorem zp9 {s : Pt} {k : Int} (h : zJ 2097152 s = true) (h0 : 0 ≤ k) (h1 : k ≤ 999) : zJ 4294967296 (zbe k s) = true := by
 obtain ⟨a, b, c⟩ := zab.1 h;have key : ∀ v : Int, -2097152 ≤ v ∧ v ≤ 2097152 → -4294967296 ≤ k * v ∧ k * v ≤ 4294967296 := by
  intro v hv;obtain ⟨f, g⟩ := zfm (s := v) h0 h1;rcases Int.le_total 0 v with hs | hs
  ·have := f hs; omega
  ·have := g hs; omega
 rw [zab, zbe];exact ⟨key _ a, key _ b, key _ c⟩
theorem zqo (A3 A4 : Option Addr) (bars : List BarD) (runs : List RunD) (n3 c3 n4 c4 i : Nat) (ld : LaidD) (w : World) {B : Nat} (h3 : BarsAt w B A3 bars) (h4 : RunsAt w B A4 runs) (hB : B ≤ w.heap.size) (l3 : n3 = bars.length) (l4 : n4 = runs.length) (m3 : n3 ≤ 60000) (hok : zaj bars runs = true) (hi : (zx bars runs)[i]? = some ld) :
    Calls Tryz.prog 211 #[.slice A3 n3 c3, .slice A4 n4 c4, .int .i64 i] w fun e w' => ∃ A c, e = .returned (.slice A ld.pts.length c) ∧ PtsAt w' w'.heap.size A ld.pts ∧ ld.pts.length ≤ c ∧ Below w.heap.size w w' := by
  obtain ⟨hbars, hlen, hruns⟩ := zap hok;have hi9 : i ≤ 100000 := by have := (zat hok).2; have := zaa hi; omega
  have HP := zf (fun (W : World) (hz : Below w.heap.size w W) => zhJ bars A4 runs n4 c4 i ld W (h4.carry (Flat.carried _) (hz.mono hB) (ze _)) l4 (by omega) hruns hi hi9);have HBa := zf (fun (W : World) (hz : Below w.heap.size w W) => zqq A3 A4 bars runs n3 c3 n4 c4 i ld W (h3.carry (hz.mono hB) (ze _)) (h4.carry (Flat.carried _) (hz.mono hB) (ze _)) (zh hB hz.size) l3 l4 m3 hok hi);have Hbk := zf (fun (k : Nat) (r : RunD) (hk : runs[k]? = some r) (hx : zdD bars r = some ld.bar) => zmT (hruns r (zv hk)) hx);obtain ⟨bar, pts⟩ := ld;simp only at HP HBa Hbk ⊢;have Hro := zf (fun (k : Nat) (r : RunD) (hk : runs[k]? = some r) => hruns r (zv hk));have Hbo := zf hbars;have H4 := zf h4;have L4 := zf l4;have HB := zf hB;clear h3 h4 l3 l4 hok hi hruns hlen hbars hB;go_enter Tryz.func211, Tryz.ntmps211;go_wp2_with fail;refine (HP.out _ (Below.refl _ _)).mono ?_;rintro e w1 ⟨k, j, r, rfl, hk, hx, hj, hrb, hpts, rfl⟩;obtain ⟨q, hq, hy⟩ := Hbk.out k r hx hrb;have hro := Hro.out k r hx;have hbo := Hbo.out _ (zv hy);obtain ⟨jj, x', _, _, _, htu⟩ := zca hro;have hfar : zJ 4294967296 (zbe (j : Int) r.step) = true := by
    have h9 := zaw hro;simp only [zaC, zds, zm, Bool.or_eq_true, zzJ] at hro;rcases hro.1.1.2 with h8 | h8
    · obtain rfl : j = 0 := by omega
      simp [zbe, zab]
    · exact zp9 h8.2 (by omega) (by omega)
  have HPt := zf (fun (A' : Option Addr) (c' : Nat) (W : World) (hdi : Ints W B A' bar.dims) (hz : Below w.heap.size w W) => zhI bar A' c' r j W hdi (zh HB.out hz.size) hbo htu (ziF hro) (by omega) hfar);rw [← hpts] at HPt;obtain ⟨b, off, r', rfl, hbl, hx', hc⟩ := RunsAt.get (k := k) H4.out (by rw [← L4.out]; exact hk);rw [hx] at hx';injection hx' with hx'
  subst hx';have hbw : b < w.heap.size := zt hbl HB.out;obtain ⟨mark, tx, ty, ⟨a1, a2, a3⟩, ⟨s1, s2, s3⟩, cnt⟩ := r;obtain ⟨mk, sz, ct, cd, dims⟩ := bar;have e0 := hc 0 _ rfl;have e1 := hc 1 _ rfl;have e2 := hc 2 _ rfl;have e3 := hc 3 _ rfl;have e4 := hc 4 _ rfl;have e5 := hc 5 _ rfl;have e6 := hc 6 _ rfl;have e7 := hc 7 _ rfl;have e8 := hc 8 _ rfl;have e9 := hc 9 _ rfl;simp only [Nat.add_zero] at e0 e1 e2 e3 e4 e5 e6 e7 e8 e9;simp only [ztZ] at HBa HPt;have HC := zf (fun (W : World) (h : Below w.heap.size w W) => show W.cell? ⟨b, off + k * 10, none⟩ = some (.string mark) ∧ W.cell? ⟨b, off + k * 10 + 1, none⟩ = some (.int .i64 tx) ∧ W.cell? ⟨b, off + k * 10 + 2, none⟩ = some (.int .i64 ty) ∧ W.cell? ⟨b, off + k * 10 + 3, none⟩ = some (.int .i64 a1) ∧ W.cell? ⟨b, off + k * 10 + 4, none⟩ = some (.int .i64 a2) ∧ W.cell? ⟨b, off + k * 10 + 5, none⟩ = some (.int .i64 a3) ∧ W.cell? ⟨b, off + k * 10 + 6, none⟩ = some (.int .i64 s1) ∧ W.cell? ⟨b, off + k * 10 + 7, none⟩ = some (.int .i64 s2) ∧ W.cell? ⟨b, off + k * 10 + 8, none⟩ = some (.int .i64 s3) ∧ W.cell? ⟨b, off + k * 10 + 9, none⟩ = some (.int .i64 cnt) from
    ⟨(h.cell (p := ⟨b, off + k * 10, none⟩) hbw).trans e0, (h.cell (p := ⟨b, off + k * 10 + 1, none⟩) hbw).trans e1, (h.cell (p := ⟨b, off + k * 10 + 2, none⟩) hbw).trans e2, (h.cell (p := ⟨b, off + k * 10 + 3, none⟩) hbw).trans e3, (h.cell (p := ⟨b, off + k * 10 + 4, none⟩) hbw).trans e4, (h.cell (p := ⟨b, off + k * 10 + 5, none⟩) hbw).trans e5, (h.cell (p := ⟨b, off + k * 10 + 6, none⟩) hbw).trans e6, (h.cell (p := ⟨b, off + k * 10 + 7, none⟩) hbw).trans e7, (h.cell (p := ⟨b, off + k * 10 + 8, none⟩) hbw).trans e8, (h.cell (p := ⟨b, off + k * 10 + 9, none⟩) hbw).trans e9⟩)
  clear hx hbl hc hq hy hro hbo htu hfar hrb hpts hj HP Hbk Hro Hbo H4 L4;have hS0 := HC.out _ (Below.drew (Below.refl w.heap.size w));have hBx := Below.drew (Below.refl w.heap.size w);go_wp2_with fail
  first
    | (go_region_held3 (fun W => W.cell? ⟨b, off + k * 10, none⟩ = some (.string mark) ∧ W.cell? ⟨b, off + k * 10 + 1, none⟩ = some (.int .i64 tx) ∧ W.cell? ⟨b, off + k * 10 + 2, none⟩ = some (.int .i64 ty) ∧ W.cell? ⟨b, off + k * 10 + 3, none⟩ = some (.int .i64 a1) ∧ W.cell? ⟨b, off + k * 10 + 4, none⟩ = some (.int .i64 a2) ∧ W.cell? ⟨b, off + k * 10 + 5, none⟩ = some (.int .i64 a3) ∧ W.cell? ⟨b, off + k * 10 + 6, none⟩ = some (.int .i64 s1) ∧ W.cell? ⟨b, off + k * 10 + 7, none⟩ = some (.int .i64 s2) ∧ W.cell? ⟨b, off + k * 10 + 8, none⟩ = some (.int .i64 s3) ∧ W.cell? ⟨b, off + k * 10 + 9, none⟩ = some (.int .i64 cnt))
        (first | (with_reducible assumption) | go_keep)
        (first
          | (go_at_call 99
             (with_reducible refine (HBa.out _ hBx).mono ?_); rintro e wz ⟨A5, c5, rfl, hdi, hbz⟩
             have hBx := zg hBx hbz (ze _);have hS' := HC.out _ hBx)
          | (go_at_call 147
             (with_reducible refine (HPt.out _ _ _ hdi hBx).mono ?_); rintro e wz ⟨A6, c6, rfl, hp6, hc6, hbz⟩
             have hBx := zg hBx hbz (ze _);have hS' := HC.out _ hBx)))
    | fail
  all_goals
    have Hp6 := zf hp6;go_wp2;go_ret;exact ⟨A6, c6, rfl, Hp6.out, hc6, hBx⟩
theorem znm (A3 A4 : Option Addr) (bars : List BarD) (runs : List RunD) (n3 c3 n4 c4 i : Nat) (ld : LaidD) (w : World) {B : Nat} (h3 : BarsAt w B A3 bars) (h4 : RunsAt w B A4 runs) (hB : B ≤ w.heap.size) (l3 : n3 = bars.length) (l4 : n4 = runs.length) (m3 : n3 ≤ 60000) (hok : zaj bars runs = true) (hi : (zx bars runs)[i]? = some ld) :
  Calls Tryz.prog 152 #[.slice A3 n3 c3, .slice A4 n4 c4, .int .i64 i] w fun e w' => ∃ A c b0, e = .returned (.slice A (zy ld.pts).length c) ∧ Row w' b0 62 6 zdm (.slice A (zy ld.pts).length c) (zy ld.pts) ∧ Below w.heap.size w w' := by
 have HP := zf (zqo A3 A4 bars runs n3 c3 n4 c4 i ld w h3 h4 hB l3 l4 m3 hok hi);obtain ⟨hnear, hl1, hl7⟩ := zeV runs i ld (zap hok).2.2 hi;obtain ⟨bar, pts⟩ := ld;simp only at HP hl1 hl7 ⊢;obtain ⟨n, hn⟩ : ∃ n, n = pts.length := ⟨_, rfl⟩;rw [← hn] at HP hl1 hl7;have Hn := zf hn;clear h3 h4 hB l3 l4 m3 hok hi hnear hn;go_enter Tryz.func152, Tryz.ntmps152;go_wp2_with fail;refine HP.out.mono ?_;rintro e w1 ⟨A, c, rfl, hp, hcp, hb1⟩;have Hp := zf hp;have Hb1 := zf hb1;clear HP hp hb1;go_wp2;go_loopw [8, 9] (fun v iv wr => ∃ k : Nat, k + 1 ≤ n ∧ iv = .int .i64 ((k : Int) + 1) ∧ (∃ acc : List BoxD, Row wr w1.heap.size 62 6 zdm v acc ∧ Hid (acc = (zy pts).take k)) ∧ Below w1.heap.size w1 wr) (fun _ iv _ => n - (intOf iv).toNat)
 case atStart => exact ⟨0, hl1, rfl, ⟨[], Row.nil _ _ _ _ _, zf rfl⟩, Below.refl _ _⟩
 case round =>
  obtain ⟨k, hk, rfl, ⟨acc, hrow, hacc⟩, hbr⟩ := hrel;obtain ⟨A0, c0, rfl⟩ := hrow.val;have hal : acc.length ≤ 1000 := by rw [hacc.out, zG]; omega
  have Hrow := zf hrow;clear hrow;by_cases hlt : k + 1 < n
  ·obtain ⟨b, off, p, hA, hbl, hx, e3, e4, e5⟩ := PtsAt.get (k := k) (Hp.out.carry (Flat.carried _) hbr hbr.size) (by rw [← Hn.out]; omega);obtain ⟨b', off', q, hA', hbl', hy, e0, e1, e2⟩ := PtsAt.get (k := k + 1) (Hp.out.carry (Flat.carried _) hbr hbr.size) (by rw [← Hn.out]; exact hlt);clear hA' hbl' e0 e1 e2 e3 e4 e5;subst hA;have hsub : k + 1 + 1 - k = 2 := by omega
   have HHu := zf (fun (W : World) (hz : Below w1.heap.size w1 W) => zl6 (some ⟨b, off + k * 3, none⟩) p q (c - k) W (zmH (Hp.out.carry (Flat.carried _) hz (ze _)) hx hy) hz.size);have Hn2 := zf (show (zy pts).take (k + 1) = acc ++ [zbZ p q] by rw [zQ (zeO pts k p q hx hy), hacc.out]);have z1 : IntKind.i64.wrap ((k : Int) + 1 - 1) = (k : Int) := by rw [zbL]; exact zr _ (by omega)
   have z2 : IntKind.i64.wrap (k : Int) = (k : Int) := zr _ (by omega);have z3 : IntKind.i64.wrap ((k : Int) + 1 + 1) = (k : Int) + 1 + 1 := zr _ (by omega);have HB := zf hbr;have hkc : k + 1 + 1 ≤ c := by omega
   clear hx hy hbl hbr;go_wp2_with fail;refine (HHu.out _ HB.out).mono ?_;rintro e w3 ⟨rfl, hb3⟩;have HB3 := zf (zg HB.out hb3 (ze _));have Hrow3 := zf (Hrow.out.keep hb3);generalize zbZ p q = lb at *;obtain ⟨⟨x1, x2, x3⟩, x4, x5, x6⟩ := lb;have hs3 := HB3.out.size;clear hb3 HHu;go_wp2_with (at_builtin; refine zO rfl (.tmp 20) (.tmp 28) 22 rfl w1.heap.size 62 (.agg #[.int .i64 0, .int .i64 0, .int .i64 0, .int .i64 0, .int .i64 0, .int .i64 0]) 6 48 zdm Tryz.underlying22 (by kernel_rfl) rfl (by omega) zcN zfI _ acc ⟨(x1, x2, x3), (x4, x5, x6)⟩ rfl (Hrow3.out.alloc _) _ rfl (Blk.new w3 _ _) (by omega) (by omega) (zM hs3 _) ?_; intro A1 c1 w6 hrow6 hb6 _);go_roundw
   case rel => exact ⟨k + 1, by omega, by go_num, ⟨acc ++ [⟨(x1, x2, x3), (x4, x5, x6)⟩], by simpa using hrow6, zf Hn2.out.symm⟩, (HB3.out.alloc hs3 _).trans hb6⟩
   case measure => simp [intOf]; omega
  ·have hk9 : k + 1 = n := by omega
   have hf : acc = zy pts := by
    rw [hacc.out];exact List.take_of_length_le (by rw [zco, ← Hn.out]; omega)
   have hlen := zf (show (zy pts).length = acc.length by rw [hf]);have Hr := zf (show Row wr w1.heap.size 62 6 zdm (.slice A0 acc.length c0) (zy pts) by rw [← hf]; exact Hrow.out);have Hb := zf (zg Hb1.out hbr (ze _));clear hf hacc Hrow hbr;generalize acc.length = m at *;go_wp2;go_ret;exact ⟨A0, c0, w1.heap.size, by rw [hlen.out]; rfl, by rw [hlen.out]; exact Hr.out, Hb.out⟩
theorem zoL (A3 A4 : Option Addr) (bars : List BarD) (runs : List RunD) (n3 c3 n4 c4 i : Nat) (ld : LaidD) (w : World) {B : Nat} (h3 : BarsAt w B A3 bars) (h4 : RunsAt w B A4 runs) (hB : B ≤ w.heap.size) (l3 : n3 = bars.length) (l4 : n4 = runs.length) (m3 : n3 ≤ 60000) (hok : zaj bars runs = true) (hi : (zx bars runs)[i]? = some ld) :
  Calls Tryz.prog 152 #[.slice A3 n3 c3, .slice A4 n4 c4, .int .i64 i] w fun e w' => ∃ A c, e = .returned (.slice A (zy ld.pts).length c) ∧ BoxesAt w' w'.heap.size A (zy ld.pts) ∧ Below w.heap.size w w' := by
 refine (znm A3 A4 bars runs n3 c3 n4 c4 i ld w h3 h4 hB l3 l4 m3 hok hi).mono ?_;rintro e w' ⟨A, c, b0, he, hr, hb⟩;exact ⟨A, c, he, Row.read hr zcN (by omega), hb⟩
def ztB (o : Option BoxD) : Array Value := match o with
 | some b => #[bxV b, .bool true]
 | none => #[.agg #[.int .i64 0, .int .i64 0, .int .i64 0, .int .i64 0, .int .i64 0, .int .i64 0], .bool false]
theorem zl4 (x : DetD) (s : DetS) (i : Nat) (ld : LaidD) (w : World) {B : Nat} (h : DetAt w B x s) (hB : B ≤ w.heap.size) (hf : DetFit x s) (hok : zaj x.bars x.runs = true) (hi : (zx x.bars x.runs)[i]? = some ld) :
  Calls Tryz.prog 94 #[zcZ x s, .int .i64 i] w fun e w' => e = .returned (.tuple (ztB (zaR ld))) ∧ Below w.heap.size w w' := by
 have HL := zf (fun (W : World) (hz : Below w.heap.size w W) => zoL s.a3 s.a4 x.bars x.runs s.n3 s.c3 s.n4 s.c4 i ld W (h.h3.carry (hz.mono hB) (ze _)) (h.h4.carry (Flat.carried _) (hz.mono hB) (ze _)) (zh hB hz.size) hf.l3 hf.l4 hf.m3 hok hi);have hl6 : (zy ld.pts).length ≤ 60000 := by
  obtain ⟨_, hl1, hl7⟩ := zeV x.runs i ld (zap hok).2.2 hi;rw [zco];omega
 have Hml := zf (show zaR ld = (zy ld.pts).find? zbT from rfl);generalize zy ld.pts = LG at *;obtain ⟨ml, hml⟩ : ∃ ml, ml = zaR ld := ⟨_, rfl⟩;rw [← hml] at Hml ⊢;have K0 := zf ((Blk.new w 34 (zp x.mem x.rule s)).alloc (.cells #[.int .i64 0, .int .i64 0, .int .i64 0, .int .i64 0, .int .i64 0, .int .i64 0] 62));have KB := zf (Blk.new1 w (.cells (zp x.mem x.rule s) 34) 62 #[.int .i64 0, .int .i64 0, .int .i64 0, .int .i64 0, .int .i64 0, .int .i64 0]);have HW := zf (zH w (.cells (zp x.mem x.rule s) 34) (.cells #[.int .i64 0, .int .i64 0, .int .i64 0, .int .i64 0, .int .i64 0, .int .i64 0] 62));obtain ⟨mem, bars, runs, laps, dems, rule⟩ := x;obtain ⟨a1, n1, c1, a2, n2, c2, a3, n3, c3, a4, n4, c4, a5, n5, c5, a6, n6, c6⟩ := s;obtain ⟨name, boxes, holes, cover, agg, poker⟩ := mem;obtain ⟨r1, r2, r3, r4, r5, r6, r7, r8, r9⟩ := rule;simp only [zp] at K0 KB HW;simp only at HL;have e6 := K0.out.cell 6;have e7 := K0.out.cell 7;simp at e6 e7;clear h hf hB hok hi hml
 show Calls Tryz.prog 94 #[.agg #[.string name, .slice a1 n1 c1, .slice a2 n2 c2, .int .i64 cover, .int .i64 agg, .int .i64 poker, .slice a3 n3 c3, .slice a4 n4 c4, .slice a5 n5 c5, .slice a6 n6 c6, .int .i64 r1, .int .i64 r2, .int .i64 r3, .int .i64 r4, .int .i64 r5, .int .i64 r6, .int .i64 r7, .int .i64 r8, .int .i64 r9], .int .i64 i] w _
 go_enter Tryz.func94, Tryz.ntmps94;go_wp2_with fail;refine (HL.out _ HW.out).mono ?_;rintro e w1 ⟨A1, c1', rfl, hlg, hb1⟩;have KB := zf (KB.out.keep hb1);have HW1 := zf (zg HW.out hb1 (ze _));have HLG := zf hlg;have HM := zf (zkc A1 LG LG.length c1' w1 hlg (ze _) rfl hl6);clear hlg hb1 HL HW K0 e6 e7;go_wp2_with fail;refine HM.out.mono ?_;rintro e w2 ⟨rfl, hb2⟩;have KB := zf (KB.out.keep hb2);have HW2 := zf (zg HW1.out hb2 (ze _));have HLG := zf (HLG.out.carry (Flat.carried _) hb2 hb2.size);clear hb2 HM HW1;have u0 := KB.out.cell 0;have v0 := KB.out.frozen 0;have u1 := KB.out.cell 1;have v1 := KB.out.frozen 1;have u2 := KB.out.cell 2;have v2 := KB.out.frozen 2;have u3 := KB.out.cell 3;have v3 := KB.out.frozen 3;have u4 := KB.out.cell 4;have v4 := KB.out.frozen 4;have u5 := KB.out.cell 5;have v5 := KB.out.frozen 5;simp at u0 u1 u2 u3 u4 u5;have lk := KB.out.lt;have hrg := zeW zbT LG;by_cases hneg : idx zbT LG < 0
 ·have d0 : decide (idx zbT LG < 0) = true := by simpa using hneg
  have Hn := zf (show ml = none by
   rw [Hml.out, List.find?_eq_none];intro z hz hm;have h1 := zfj zbT LG;rw [List.any_eq_true.2 ⟨z, hz, hm⟩, zzJ] at h1;omega)
  generalize idx zbT LG = ix at *;clear Hml hrg hneg;go_wp2_with fail;refine bodyPost_ret (zbK rfl rfl ((((((KB.out.set_ 0 _).set_ 1 _).set_ 2 _).set_ 3 _).set_ 4 _).set_ 5 _) Tryz.underlying62 rfl (by kernel_rfl)) rfl ?_;refine ⟨?_, ((((((HW2.out.setCell (p := ⟨w.heap.size + 1, 0, none⟩) (zao _) _).setCell (p := ⟨w.heap.size + 1, 1, none⟩) (zao _) _).setCell (p := ⟨w.heap.size + 1, 2, none⟩) (zao _) _).setCell (p := ⟨w.heap.size + 1, 3, none⟩) (zao _) _).setCell (p := ⟨w.heap.size + 1, 4, none⟩) (zao _) _).setCell (p := ⟨w.heap.size + 1, 5, none⟩) (zao _) _)⟩;simp only [zzD, zzE, zzF];rw [Hn.out]
  rfl
 ·obtain ⟨j, hj⟩ := Int.eq_ofNat_of_zero_le (show 0 ≤ idx zbT LG by omega);obtain ⟨y, hy, hp, hno⟩ := zgB hj;have Hn := zf (show ml = some y by rw [Hml.out]; exact NoneTo.find hno hy hp);obtain ⟨b, off, y', rfl, hbl, hy', f0, f1, f2, f3, f4, f5⟩ := BoxesAt.get (k := j) HLG.out (zaa hy);rw [hy] at hy';injection hy' with hy'
  subst hy';have d0 : decide ((j : Int) < 0) = false := by simp
  have hjl : j < LG.length := zaa hy;rw [hj];obtain ⟨⟨y1, y2, y3⟩, y4, y5, y6⟩ := y;simp only at f0 f1 f2 f3 f4 f5;generalize LG.length = ln at *;clear Hml hrg hneg hj hy hp hno;go_wp2_with fail;refine bodyPost_ret (zbK rfl rfl ((((((KB.out.set_ 0 _).set_ 1 _).set_ 2 _).set_ 3 _).set_ 4 _).set_ 5 _) Tryz.underlying62 rfl (by kernel_rfl)) rfl ?_;refine ⟨?_, ((((((HW2.out.setCell (p := ⟨w.heap.size + 1, 0, none⟩) (zao _) _).setCell (p := ⟨w.heap.size + 1, 1, none⟩) (zao _) _).setCell (p := ⟨w.heap.size + 1, 2, none⟩) (zao _) _).setCell (p := ⟨w.heap.size + 1, 3, none⟩) (zao _) _).setCell (p := ⟨w.heap.size + 1, 4, none⟩) (zao _) _).setCell (p := ⟨w.heap.size + 1, 5, none⟩) (zao _) _)⟩;simp only [zzD, zzE, zzF];rw [Hn.out]
  rfl
theorem zsW (d : Int) (w : World) (hd : za1 d = true) :
  Calls Tryz.prog 330 #[.int .i64 d] w fun e w' => e = .returned (.int .i64 (zfO d)) ∧ w = w' := by
 have hm := zhj hd;clear hd;simp [zb3] at hm;rcases hm with rfl | rfl | rfl | rfl | rfl | rfl | rfl | rfl | rfl
 all_goals
  go_enter Tryz.func330, Tryz.ntmps330;go_wp2;go_ret;exact ⟨zam (by simp [zfO]), rfl⟩
theorem zry (d : Int) (w : World) (g : Nat) (hd : za1 d = true) (h1 : w.cell? ⟨g, 0, none⟩ = some (.int .i64 d)) :
  Calls Tryz.prog 329 #[.pointer (some ⟨g, 0, none⟩)] w fun e w' => e = .returned (.int .i64 (zfO d)) ∧ w = w' := by
 have HA := zf (fun W => zsW d W hd);clear hd;go_enter Tryz.func329, Tryz.ntmps329;go_wp2_with fail;refine (HA.out _).mono ?_;rintro e w1 ⟨rfl, rfl⟩;go_wp2;go_ret;exact ⟨rfl, rfl⟩
theorem zty (d : Int) (w : World) (hd : za1 d = true) :
  Calls Tryz.prog 309 #[.int .i64 d] w fun e w' => e = .returned (.tuple #[.int .i64 (zfO d), .int .i64 0]) ∧ Below w.heap.size w w' := by
 have Hd := zf hd;clear hd;go_enter Tryz.func309, Tryz.ntmps309;go_wp2_with fail;refine (zjt d (zfO d) _ _ _ Hd.out Tryz.call329 (fun W hb => zry d W _ Hd.out (((Blk.new w 3 #[.int .i64 d]).keep hb).cell 0))).mono ?_;rintro e w1 ⟨rfl, hb⟩;have HB := zf (zg (zk w _) hb (ze _));clear hb;go_wp2;go_ret2;exact ⟨rfl, HB.out⟩
end Go.Proofs.YtpaanfjjnjjoeaaGreat
