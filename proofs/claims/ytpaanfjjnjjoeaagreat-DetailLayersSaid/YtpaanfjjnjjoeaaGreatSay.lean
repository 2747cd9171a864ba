/- lap.chains and lap.Chains: the chains of a valid detail. -/
import Derived.Test.YtpaanfjjnjjoeaaGreatSax
set_option maxHeartbeats 8000000
set_option maxRecDepth 100000
namespace Go.Proofs.YtpaanfjjnjjoeaaGreat
open Go.RowKit
def zoe (rk : Int → Nat) (kv okv : Value) : Nat := match okv with | .bool true => rk (intOf kv) + 1 | _ => 0
theorem zn4 {rk : Int → Nat} {F : Int → Option Int} {z : Int} (h : ∀ y, F z = some y → rk y < rk z) : zoe rk (.int .i64 ((F z).getD 0)) (.bool (F z).isSome) < zoe rk (.int .i64 z) (.bool true) := by
 cases hz : F z with
 | none => exact Nat.succ_pos _
 | some y => exact Nat.succ_lt_succ (h y hz)
theorem zqN {w : World} {base c : Nat} {A : Option Addr} {acc : List IntsX} (h : Row w base 48 1 zfH (.slice A acc.length c) acc) (hb : ∀ q ∈ acc, RowB w 3 q.A (q.l.flatMap zaP)) : IntLs w w.heap.size A (acc.map (·.l)) :=
 SlOf.read_as (·.l) (h.read zhZ (by omega)) (fun q hq => ⟨q.A, q.c, rfl, RowB.sl zbq (by omega) (hb q hq)⟩)
theorem zrs (x : DetD) (s : DetS) (w : World) {B : Nat} (h : DetAt w B x s) (hB : B ≤ w.heap.size) (hf : DetFit x s) (hd : zah x = true) :
  Calls Tryz.prog 328 #[zcZ x s, .int .i64 ((zU x).length : Int)] w fun e w' => ∃ A c, e = .returned (.slice A (zcO x).length c) ∧ IntLs w' w'.heap.size A (zcO x) ∧ Below w.heap.size w w' := by
 have H5 := zf (fun (W : World) (hz : Below w.heap.size w W) => SlOf.carry (Flat.carried _) h.h5 (hz.mono hB) (ze B));have HBB := zf hB;have L5 := zf hf.l5;have hn2 : (zU x).length ≤ 2000 := by rw [zcC]; exact (zat (zaG hd).2.1).2
 have h5n : s.n5 ≤ 1000 := by
  rw [hf.l5];simp only [zah, zcI, zm, zzJ] at hd;exact hd.1.2
 have hln := zat (zaG hd).2.1;have Hrg := zf (fun j (hj : j ∈ x.laps) => show InInt j.first ∧ InInt j.second by
  have h9 := zgW hd j hj;unfold InInt;omega)
 obtain ⟨F, hF⟩ : ∃ F, F = zg1 x.laps := ⟨_, rfl⟩;obtain ⟨N, hN⟩ : ∃ N, N = (zU x).length := ⟨_, rfl⟩;obtain ⟨rk, hrk⟩ : ∃ rk : Int → Nat, rk = fun i => zdE (zU x) (zlq (zU x) i) := ⟨_, rfl⟩;have Hup := zf (fun (i k : Int) (hn : F i = some k) => show 0 ≤ i ∧ i < (N : Int) ∧ 0 ≤ k ∧ k < (N : Int) ∧ rk k < rk i by rw [hrk, hN]; exact zlD hd (by rw [← hF]; exact hn));have Hrl := zf (fun i => show rk i ≤ N by rw [hrk, hN]; exact ztc _ _);obtain ⟨CT, hCT⟩ : ∃ CT : Nat → List (List Int), CT = zdM x := ⟨_, rfl⟩;obtain ⟨HD, hHD⟩ : ∃ HD : Nat → Bool, HD = zpH x := ⟨_, rfl⟩;obtain ⟨S, hS⟩ : ∃ S, S = zdz x.laps := ⟨_, rfl⟩;have Hct := zf (fun (k : Nat) => show CT (k + 1) = CT k ++ (if HD k then [(k : Int) :: zji F N (F k)] else []) by rw [hCT, hHD, zkC, zjc, zdP, ← hN, ← hF]);have Hct0 := zf (show CT 0 = [] by rw [hCT]; rfl);have Hctl := zf (fun (k : Nat) => show (CT k).length ≤ k by rw [hCT]; exact zeR x k);have Hhd := zf (fun (k : Nat) => show HD k = !S.contains (k : Int) by rw [hHD, hS]; rfl);have Hfin := zf (show zcO x = CT N by rw [hCT, hN]; rfl);obtain ⟨NT, hNT⟩ : ∃ NT : Nat → Int → Option Int, NT = fun k => zg1 (x.laps.take k) := ⟨_, rfl⟩;obtain ⟨ST, hST⟩ : ∃ ST : Nat → List Int, ST = fun k => zdz (x.laps.take k) := ⟨_, rfl⟩;have Hnt := zf (fun (k : Nat) (j : JoinD) (hj : x.laps[k]? = some j) => show NT (k + 1) = zpW (NT k) j.first j.second by rw [hNT]; show zg1 (x.laps.take (k + 1)) = _; rw [zQ hj, zoR]);have Hst := zf (fun (k : Nat) (j : JoinD) (hj : x.laps[k]? = some j) => show ST (k + 1) = j.second :: ST k by rw [hST]; show zdz (x.laps.take (k + 1)) = _; rw [zQ hj, zj9]);have hnt0 : NT 0 = fun _ => none := by rw [hNT]; rfl
 have hst0 : ST 0 = [] := by rw [hST]; rfl
 have Hntn := zf (show NT s.n5 = F by rw [hNT, hF, hf.l5]; show zg1 (x.laps.take x.laps.length) = _; rw [zF]);have Hstn := zf (show ST s.n5 = S by rw [hST, hS, hf.l5]; show zdz (x.laps.take x.laps.length) = _; rw [zF]);rw [← hN] at hn2 ⊢;rw [Hfin.out];have HCX := zf (show (zp x.mem x.rule s)[8]? = some (.slice s.a5 s.n5 s.c5) from rfl);have Hi := zf (show (Tryz.prog.info? 34).map (·.size) = some 19 by kernel_rfl);have Hsz := zf (show (zp x.mem x.rule s).size = 19 from rfl)
 show Calls Tryz.prog 328 #[.agg (zp x.mem x.rule s), .int .i64 (N : Int)] w _
 generalize zp x.mem x.rule s = C at *;obtain ⟨a1, n1, c1, a2, n2, c2, a3, n3, c3, a4, n4, c4, a5, n5, c5, a6, n6, c6⟩ := s;simp only at H5 L5 HCX Hntn Hstn h5n;have K0 := zf (Blk.new w 34 C);have HW := zf (zk w (.cells C 34));obtain ⟨w1, hw1⟩ : ∃ q, q = w.alloc (.cells C 34) := ⟨_, rfl⟩;rw [← hw1] at K0 HW;have x8 := (K0.out.cell 8).trans HCX.out;have lk0 := K0.out.lt;clear h hB hf hd hln hF hN hrk hCT hHD hS hNT hST;go_enter Tryz.func328, Tryz.ntmps328;go_upto_region 1 with fail
 rw [← hw1];clear hw1;have hN1 := NMap.new w1;have hB1 := BSet.new (w1.alloc (.map #[] 0));rw [zq] at hB1;have HN1 := zf (hN1.alloc (.map #[] 0));have HB1 := zf hB1;have Hb1 := zf (zH w1 (.map #[] 0) (.map #[] 0));have hmm := @run_makeMap Tryz.prog;clear hN1 hB1;go_wp2;go_loopw [19] (fun iv wr => ∃ k : Nat, k ≤ n5 ∧ iv = .int .i64 k ∧ (NMap wr w1.heap.size k (NT k) ∧ BSet wr (w1.heap.size + 1) k (ST k)) ∧ Below w1.heap.size w1 wr) (fun iv _ => n5 - (intOf iv).toNat)
 case atStart => exact ⟨0, zu _, rfl, ⟨by rw [hnt0]; exact HN1.out, by rw [hst0]; exact HB1.out⟩, Hb1.out⟩
 case round =>
  clear HN1 HB1 Hb1 hnt0 hst0 x8 lk0 K0;obtain ⟨k, hk, rfl, ⟨hf, ht⟩, hbr⟩ := hrel;rename World => wr;have HWr := zf (zg HW.out hbr (ze _));by_cases hlt : k < n5
  ·obtain ⟨b, off, j, rfl, hbl, hx, c0, c1⟩ := JoinsAt.get (k := k) (H5.out _ HWr.out) (by rw [← L5.out]; exact hlt);have Hn1 := zf (Hnt.out k j hx);have Hs1 := zf (Hst.out k j hx);obtain ⟨i1, i2⟩ := Hrg.out j (zv hx);have hbw : b < wr.heap.size := zt hbl (zh HBB.out HWr.out.size);obtain ⟨j1, j2⟩ := j;simp only at c0 c1 i1 i2 Hn1 Hs1;have HF := zf (hf.alloc (.cells #[.int .i64 j1, .int .i64 j2] 73));have HT := zf (ht.alloc (.cells #[.int .i64 j1, .int .i64 j2] 73));have K1 := zf (Blk.new wr 73 #[.int .i64 j1, .int .i64 j2]);have HR := zf (hbr.alloc hbr.size (.cells #[.int .i64 j1, .int .i64 j2] 73));have ltF := hf.lt;have ltT := ht.lt;have I1 := zf i1;have I2 := zf i2;have hk9 : k ≤ 1000000 := by omega
   clear hx hbl hf ht hbr i1 i2;have d0 := K1.out.cell 0;have d1 := K1.out.cell 1;simp at d0 d1;have hk1 := K1.out.lt;go_wp2_with fail;clear c0 c1;obtain ⟨w6, run6, h6, hg6⟩ := HF.out.drew.store I1.out I2.out hk9;have h7 := HT.out.drew.grown hg6 (by omega);obtain ⟨w8, run8, h8, hg8⟩ := h7.store I2.out hk9;have H8 := zf h8;have H9 := zf (h6.grown hg8 (by omega));have hb6 := zch (HR.out.drew) hg6 HR.out.size (ze _);have hb8 := zf (zch hb6 hg8 hb6.size (by omega));have d2 := ((K1.out.drew).grown hg6 (by simp; omega)).cell 1;simp at d2;have hk6 : wr.heap.size < w6.heap.size := zt hk1 hg6.size;clear h6 h7 h8 hg6 hg8 hb6;go_region
   all_goals
    clear d0;go_wp2;go_roundw
    case rel => exact ⟨k + 1, by omega, by go_num, ⟨by rw [Hn1.out]; exact H9.out, by rw [Hs1.out]; exact H8.out⟩, hb8.out⟩
    case measure => simp [intOf]; omega
  ·obtain rfl : k = n5 := by omega
   rw [Hntn.out] at hf;rw [Hstn.out] at ht;have HF2 := zf hf;have HS2 := zf ht;have hgF := hf.lt;have hgS := ht.lt;clear hf ht hbr hlt H5 Hnt Hst Hrg;go_wp2;go_loopw [9, 33] (fun ov iv wo => ∃ k : Nat, k ≤ N ∧ iv = .int .i64 k ∧ (∃ acc : List IntsX, Row wo wr.heap.size 48 1 zfH ov acc ∧ Hid (acc.map (·.l) = CT k) ∧ Hid (∀ q ∈ acc, RowB wo 3 q.A (q.l.flatMap zaP))) ∧ Below wr.heap.size wr wo) (fun _ iv _ => N - (intOf iv).toNat)
   case atStart => exact ⟨0, zu _, rfl, ⟨[], Row.nil _ _ _ _ _, zf Hct0.out.symm, zf (fun q h => by cases h)⟩, Below.refl _ _⟩
   case round =>
    obtain ⟨k, hk, rfl, ⟨acc, hrow, hacc, hbs⟩, hbo⟩ := hrel;obtain ⟨A0, c0, rfl⟩ := hrow.val;rename World => wo;have hal : acc.length ≤ 2000 := by
     have h9 := Hctl.out k;rw [← hacc.out, zw] at h9;omega
    by_cases hlt : k < N
    ·have HFo := zf (HF2.out.below hbo hgF);have HSo := zf (HS2.out.below hbo hgS);have ik : InInt (k : Int) := by unfold InInt; omega
     have hl1 := HSo.out.look ik;cases hc : S.contains (k : Int)
     ·rw [hc] at hl1;have Hn := zf (show CT (k + 1) = acc.map (·.l) ++ [(k : Int) :: zji F N (F k)] by rw [Hct.out, Hhd.out, hc, hacc.out]; rfl);have hl2 := (HFo.out.alloc (.cells #[.int .i64 (k : Int)] 3)).look ik;have hgFo := HFo.out.lt;obtain ⟨full, hfull⟩ : ∃ full, full = (k : Int) :: zji F N (F k) := ⟨_, rfl⟩;have Hfull := zf hfull;rw [← hfull] at Hn;have H0 := zf (show Row (wo.alloc (.cells #[.int .i64 (k : Int)] 3)) wo.heap.size 3 1 zaP (.slice (some ⟨wo.heap.size, 0, none⟩) 1 1) [(k : Int)] from World.ownsRow_lit wo #[.int .i64 (k : Int)] 1 (ze _) (by unfold maxLen; omega) rfl);have Hrow := zf hrow;have Hbo := zf hbo;have hboz := hbo.size;clear hfull hrow hbo hc HSo;go_wp2;go_loopw [11, 12, 13] (fun ch kv okv wi => ∃ (o : Option Int) (m : Nat), (kv = .int .i64 (o.getD 0) ∧ okv = .bool o.isSome) ∧ (∃ acc2 : List Int, Row wi wo.heap.size 3 1 zaP ch acc2 ∧ Hid (acc2 ++ zji F m o = full) ∧ acc2.length + m ≤ N + 1) ∧ Hid (∀ z, o = some z → rk z < m ∧ 0 ≤ z ∧ z < (N : Int)) ∧ Below wo.heap.size wo wi) (fun _ kv okv _ => zoe rk kv okv)
      case atStart => exact ⟨F k, N, ⟨rfl, rfl⟩, ⟨[(k : Int)], H0.out, zf (by rw [Hfull.out]; rfl), by simp; omega⟩, zf (fun z hz => by have h8 := Hup.out k z hz; have h9 := Hrl.out k; exact ⟨by omega, h8.2.2.1, h8.2.2.2.1⟩), zk _ _⟩
      case round =>
       clear H0 hl1 hl2;obtain ⟨o, m, ⟨hkv, hokv⟩, ⟨acc2, hrow2, htl, hlm⟩, hro, hbi⟩ := hrel;obtain ⟨A2, c2, rfl⟩ := hrow2.val;rename World => wi;cases o with
       | some z =>
        have hkv : _ = Value.int .i64 z := hkv;have hokv : _ = Value.bool true := hokv;subst hkv;subst hokv;obtain ⟨hz1, hz2, hz3⟩ := hro.out z rfl;obtain ⟨m', rfl⟩ : ∃ m', m = m' + 1 := ⟨m - 1, by omega⟩;have iz : InInt z := by unfold InInt; omega
        have HFi := zf ((HFo.out.below hbi hgFo).alloc (.cells #[.int .i64 z] 3));have Hrow2 := zf hrow2;have hbiz := hbi.size;have Hbi := zf (hbi.alloc hbiz (.cells #[.int .i64 z] 3));have hl9 : acc2.length ≤ 1000000 := by omega
        clear hrow2 hbi;go_wp2_with (at_builtin; refine zO rfl (.tmp 54) (.tmp 56) 48 rfl wo.heap.size 3 (.int .i64 0) 1 8 zaP Tryz.underlying48 (by kernel_rfl) rfl (by omega) zbq zd4 _ acc2 z rfl (Hrow2.out.alloc _) _ rfl (Blk.new wi _ _) hl9 (by omega) (zM hbiz _) ?_; intro A7 c7 w7 hrow7 hb7 _; have HR7 := zf hrow7; have HB7 := zf (Hbi.out.trans hb7); have hl3 := (HFi.out.below hb7 hgFo).look iz; clear hrow7 hb7);go_roundw
        case rel => exact ⟨F z, m', ⟨rfl, rfl⟩, ⟨acc2 ++ [z], by simpa using HR7.out, zf (by rw [← htl.out, zaI]; show acc2 ++ ([z] ++ zji F m' (F z)) = acc2 ++ zfk F (m' + 1) z; rw [zdP]; rfl), by simp; omega⟩, zf (fun y hy => by have h8 := Hup.out z y hy; exact ⟨by omega, h8.2.2.1, h8.2.2.2.1⟩), HB7.out⟩
        case measure => exact zn4 (fun y hy => (Hup.out z y hy).2.2.2.2)
       | none =>
        have hkv : _ = Value.int .i64 0 := hkv;have hokv : _ = Value.bool false := hokv;subst hkv;subst hokv;have hfin : acc2 = full := by
         have h9 := htl.out;rw [zji, zbj] at h9;exact h9
        subst hfin;have HQ := zf (RowB.of_row hrow2);have Hq := zf (fun q hq => (hbs.out q hq).below hbi);have Hrow3 := zf (Hrow.out.keep hbi);have hbx := zg Hbo.out hbi (ze _);have hbxz := hbx.size;have Hbx := zf (hbx.alloc hbxz (.cells #[.slice A2 acc2.length c2] 48));clear hrow2 hbi hbx;go_wp2_with (at_builtin; refine zO rfl (.tmp 58) (.tmp 60) 256 rfl wr.heap.size 48 (.slice none 0 0) 1 24 zfH Tryz.underlying256 (by kernel_rfl) rfl (by omega) zhZ zmm _ acc ⟨acc2, A2, c2⟩ rfl (Hrow3.out.alloc _) _ rfl (Blk.new wi _ _) (by omega) (by omega) (zM hbxz _) ?_; intro A9 c9 w9 hrow9 hb9 hkeep9);go_roundw
        case rel => exact ⟨k + 1, by omega, by go_num, ⟨acc ++ [⟨acc2, A2, c2⟩], by simpa using hrow9, zf (by rw [zV, Hn.out]; rfl), zf (fun q hq => by
         rcases List.mem_append.1 hq with hq | hq
         ·exact ((Hq.out q hq).alloc _).keep (fun g cs hb => hkeep9 g _ cs (by decide) hb)
         ·rw [zP] at hq;subst hq;exact (HQ.out.alloc _).keep (fun g cs hb => hkeep9 g _ cs (by decide) hb))⟩, Hbx.out.trans hb9⟩
        case measure => simp [intOf]; omega
     ·rw [hc] at hl1;have Hn := zf (show acc.map (·.l) = CT (k + 1) by rw [Hct.out, Hhd.out, hc, hacc.out]; simp);clear hc;go_wp2;go_roundw
      case rel => exact ⟨k + 1, by omega, by go_num, ⟨acc, hrow, Hn, hbs⟩, hbo⟩
      case measure => simp [intOf]; omega
    ·obtain rfl : k = N := by omega
     have hl : (CT k).length = acc.length := by rw [← hacc.out, zw]
     have HL := zf (show IntLs wo wo.heap.size A0 (CT k) by rw [← hacc.out]; exact zqN hrow hbs.out);have HB9 := zf (zg HWr.out hbo (ze _));have Hl := zf hl;clear hl hrow hacc hbs hbo;generalize acc.length = na at *;go_wp2;go_ret;exact ⟨A0, c0, by rw [Hl.out]; rfl, HL.out, HB9.out⟩
theorem zmd (x : DetD) (s : DetS) (w : World) {B : Nat} (h : DetAt w B x s) (hB : B ≤ w.heap.size) (hf : DetFit x s) (hd : zah x = true) :
  Calls Tryz.prog 305 #[zcZ x s] w fun e w' => ∃ A c, e = .returned (.tuple #[.slice A (zcO x).length c, .int .i64 0]) ∧ IntLs w' w'.heap.size A (zcO x) ∧ Below w.heap.size w w' := by
 have HL := zf (fun (W : World) (hz : Below w.heap.size w W) => show Calls Tryz.prog 56 #[.agg (zp x.mem x.rule s)] W _ from zhB x s W (h.carry (hz.mono hB) (ze _)) (zh hB hz.size) hf);have HC := zf (fun (W : World) (hz : Below w.heap.size w W) => show Calls Tryz.prog 328 #[.agg (zp x.mem x.rule s), .int .i64 ((zU x).length : Int)] W _ from zrs x s W (h.carry (hz.mono hB) (ze _)) (zh hB hz.size) hf hd);rw [zcC] at HC;have Hd := zf hd;have K0 := zf (Blk.new w 34 (zp x.mem x.rule s));have HW := zf (zk w (.cells (zp x.mem x.rule s) 34));have Hi := zf (show (Tryz.prog.info? 34).map (·.size) = some 19 by kernel_rfl);have Hsz := zf (show (zp x.mem x.rule s).size = 19 from rfl)
 show Calls Tryz.prog 305 #[.agg (zp x.mem x.rule s)] w _
 generalize zp x.mem x.rule s = C at *;generalize zcO x = CH at *;clear h hB hf hd;go_enter Tryz.func305, Tryz.ntmps305;go_wp2_with (refine wpList_load_row rfl 34 (.tmp 1) rfl w.heap.size rfl 34 _ (0, 0) _ K0.out Tryz.underlying34 rfl (by rw [Hsz.out]; exact Hi.out) ?_);refine (HL.out _ HW.out).mono ?_;rintro e w1 (⟨h9, _⟩ | ⟨_, A, c, rfl, _, hb⟩)
 ·rw [Hd.out] at h9;cases h9
 replace K0 := zf (K0.out.keep hb);replace HW := zf (zg HW.out hb (ze _));clear hb HL;go_wp2_with (refine wpList_load_row rfl 34 (.tmp 1) rfl w.heap.size rfl 34 _ (0, 0) _ K0.out Tryz.underlying34 rfl (by rw [Hsz.out]; exact Hi.out) ?_);refine (HC.out _ HW.out).mono ?_;rintro e w2 ⟨A2, c2, rfl, hl, hb⟩;replace HW := zf (zg HW.out hb (ze _));have HL2 := zf hl;clear hb HC hl;go_wp2;go_ret2;exact ⟨A2, c2, rfl, HL2.out, HW.out⟩
theorem zld {r : RuleD} {m : MemD} {sz : Int} {ld : LaidD} (hr : zbH r = true) (hs : 0 ≤ sz ∧ sz ≤ 40) (h : 0 ≤ zaB ld) :
  (zdH r m sz (zy ld.pts)).2.2 = 0 ∧ (0 ≤ (zdH r m sz (zy ld.pts)).1 ∧ (zdH r m sz (zy ld.pts)).1 ≤ 41002000000) ∧ 0 ≤ (zdH r m sz (zy ld.pts)).2.1 ∧ (zdH r m sz (zy ld.pts)).2.1 ≤ 41002000000 := by
 have hk : idx zcx (zy ld.pts) = ((zaB ld).toNat : Int) := by rw [Int.toNat_of_nonneg h]; rfl
 rw [ziT (r := r) (m := m) (size := sz) hk (zhh h)];have hq := zhz hr;exact ⟨rfl, (zgX hq hs.1 hs.2 _ _).2, (zgX hq hs.1 hs.2 _ _).2⟩
theorem zkW {x : DetD} {ld : LaidD} (ho : RodOk x ld) (h : 0 ≤ zaB ld) : zad (zbY ld) = true := List.all_eq_true.1 ho.boxes _ (zv (zhh h))
theorem zsK {x : DetD} {ld : LaidD} (hr : zbH x.rule = true) (ho : RodOk x ld) (h : 0 ≤ zaB ld) :
  (-100000000000 ≤ zkJ x ld ∧ zkJ x ld ≤ 100000000000) ∧ -100000000000 ≤ zkK x ld ∧ zkK x ld ≤ 100000000000 := by
 have h1 := zld (m := x.mem) hr (zlI ho.bar) h;obtain ⟨q1, _, _⟩ := zbo.1 (zkW ho h);unfold zkJ zkK;omega
abbrev zef (ld : LaidD) (da : Option Addr) (dc : Nat) (la : Option Addr) (lc : Nat) : Array Value :=
 #[.string ld.bar.mark, .int .i64 ld.bar.size, .int .i64 ld.bar.count, .int .i64 ld.bar.code, .slice da ld.bar.dims.length dc, .slice la (zy ld.pts).length lc, .int .i64 (zaB ld)]
theorem zlF (ld : LaidD) (da : Option Addr) (dc : Nat) (la : Option Addr) (lc : Nat) (w : World) {B : Nat} (hb : BoxesAt w B la (zy ld.pts)) (hB : B ≤ w.heap.size) (hm : 0 ≤ zaB ld) (_hfew : (zy ld.pts).length ≤ 6) :
  Calls Tryz.prog 282 #[.agg (zef ld da dc la lc)] w fun e w' => e = .returned (bx (zbY ld)) ∧ Below w.heap.size w w' := by
 have hir : zaB ld < ((zy ld.pts).length : Int) := (zeW zcx (zy ld.pts)).2;have hg := zhh hm;obtain ⟨k, hk⟩ := Int.eq_ofNat_of_zero_le hm;rw [hk] at hg hir;rw [zaz] at hg;obtain ⟨b, off, l, rfl, hbl, hl, e0, e1, e2, e3, e4, e5⟩ := BoxesAt.get (k := k) hb (by omega);obtain rfl : l = zbY ld := by rw [hg] at hl; injection hl with hl; exact hl.symm
 have lb : b < w.heap.size := zt hbl hB;have hkn : k < (zy ld.pts).length := by omega
 generalize zbY ld = l at *;generalize hn : (zy ld.pts).length = n at *
 show Calls Tryz.prog 282 #[.agg #[.string ld.bar.mark, .int .i64 ld.bar.size, .int .i64 ld.bar.count, .int .i64 ld.bar.code, .slice da ld.bar.dims.length dc, .slice (some ⟨b, off, none⟩) (zy ld.pts).length lc, .int .i64 (zaB ld)]] w _
 rw [hn, hk];obtain ⟨⟨a1, a2, a3⟩, a4, a5, a6⟩ := l;simp only at e0 e1 e2 e3 e4 e5;clear hb hB hm hir hl hg hbl hn hk;generalize ld.bar.dims.length = dn at *;have K0 := zf ((Blk.new w 305 #[.string ld.bar.mark, .int .i64 ld.bar.size, .int .i64 ld.bar.count, .int .i64 ld.bar.code, .slice da dn dc, .slice (some ⟨b, off, none⟩) n lc, .int .i64 (k : Int)]).alloc (.cells #[.int .i64 0, .int .i64 0, .int .i64 0, .int .i64 0, .int .i64 0, .int .i64 0] 62));have K1 := zf (Blk.new1 w (.cells #[.string ld.bar.mark, .int .i64 ld.bar.size, .int .i64 ld.bar.count, .int .i64 ld.bar.code, .slice da dn dc, .slice (some ⟨b, off, none⟩) n lc, .int .i64 (k : Int)] 305) 62 #[.int .i64 0, .int .i64 0, .int .i64 0, .int .i64 0, .int .i64 0, .int .i64 0]);have HW := zf (zH w (.cells #[.string ld.bar.mark, .int .i64 ld.bar.size, .int .i64 ld.bar.count, .int .i64 ld.bar.code, .slice da dn dc, .slice (some ⟨b, off, none⟩) n lc, .int .i64 (k : Int)] 305) (.cells #[.int .i64 0, .int .i64 0, .int .i64 0, .int .i64 0, .int .i64 0, .int .i64 0] 62));go_enter Tryz.func282, Tryz.ntmps282;go_wp2_with (refine wpList_store_row rfl 62 (.tmp 2) (.tmp 8) rfl (w.heap.size + 1) #[.int .i64 a1, .int .i64 a2, .int .i64 a3, .int .i64 a4, .int .i64 a5, .int .i64 a6] rfl rfl 62 _ K1.out (by kernel_rfl) rfl (by kernel_rfl) ?_);refine bodyPost_ret (zaU rfl rfl (setRow_heap _ (w.heap.size + 1) _ _ _ _ K1.out) Tryz.underlying62 rfl (by kernel_rfl)) rfl ?_;exact ⟨rfl, Below.setRow HW.out (zao _) _⟩
theorem zkD (AR : Option Addr) (L : List LaidD) (N c g p q : Nat) (w : World) {B : Nat} (hr : RodsW w B AR L) (hB : B ≤ w.heap.size) (hN : N = L.length) (hg : Blk w g 278 #[.slice AR N c]) (hp : p < N) (hq : q < N) :
  Calls Tryz.prog 307 #[.int .i64 (p : Int), .int .i64 (q : Int), .pointer (some ⟨g, 0, none⟩)] w fun e w' => e = .returned (.int .i64 (zls (zdY L p) (zdY L q))) ∧ Below w.heap.size w w' := by
 obtain ⟨b, off, ld, _, _, _, _, rfl, hbl, hx, _, _, hc⟩ := RodsW.get (k := p) hr (by rw [← hN]; exact hp);obtain ⟨b', off', ld', _, _, _, _, hA, hbl', hx', _, _, hc'⟩ := RodsW.get (k := q) hr (by rw [← hN]; exact hq);injection hA with hA
 injection hA with hA1 hA2
 subst hA1;subst hA2;have c1 := hc 1 _ rfl;have c2 := hc' 1 _ rfl;have HC := zf (fun W => zms ld.bar.size ld'.bar.size W);have e1 : zdY L p = ld.bar.size := by rw [zdY, zd3 hx]
 have e2 : zdY L q = ld'.bar.size := by rw [zdY, zd3 hx']
 rw [e1, e2];generalize zls ld.bar.size ld'.bar.size = t at *;generalize ld.bar.size = s1 at *;generalize ld'.bar.size = s2 at *;have lb : b < w.heap.size := zt hbl hB;have g0 := hg.cell 0;simp at g0;have lg := hg.lt;have p1 : (p : Int) < (N : Int) := by omega
 have q1 : (q : Int) < (N : Int) := by omega
 have p2 : (0 : Int) ≤ (p : Int) := by omega
 have q2 : (0 : Int) ≤ (q : Int) := by omega
 clear hr hB hN hg hbl hbl' hx hx' hc hc' e1 e2;go_enter Tryz.func307, Tryz.ntmps307;go_wp2_with fail;go_quiet ((go_at_call 308; exact zgy (HC.out _)))
 go_wp2;go_ret;exact ⟨rfl, ⟨rfl, rfl, rfl, ze _, fun _ _ => rfl⟩⟩
end Go.Proofs.YtpaanfjjnjjoeaaGreat
