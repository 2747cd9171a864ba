/- The law DetailDrops: a detail without a run is valid, and has no further findings of bars, covers, a. -/
import Derived.Test.YtpaanfjjnjjoeaaGreatSbb
import Derived.Test.YtpaanfjjnjjoeaaGreatSbd
set_option maxHeartbeats 8000000
set_option maxRecDepth 100000
namespace Go.Proofs.YtpaanfjjnjjoeaaGreat
open Go.RowKit Go.Sort
theorem zit (HSL : zbU) (HCL : zbV) (x : DetD) (s : DetS) (k : Int) (w : World) {B : Nat} (h : DetAt w B x s) (hB : B ≤ w.heap.size) (hl : DetLen x s) (hcap : s.n4 ≤ s.c4) (hk : 0 ≤ k ∧ k < 256) :
  Calls Tryz.prog 7 #[zcZ x s, .int .u8 k] w fun e w' => e = .returned (.bool true) ∧ Below w.heap.size w w' := by
 have HR := zf (fun (W : World) (hz : Below w.heap.size w W) => show Calls Tryz.prog 17 #[.agg (zp x.mem x.rule s)] W _ from zne x s W (h.carry (hz.mono hB) (ze _)) (zh hB hz.size) hl);have hn12 : ∀ f : Few x s, s.n1 ≤ 300000 ∧ s.n2 ≤ 300000 := fun f => ⟨zh f.boxes (by decide), zh f.holes (by decide)⟩;have hds : ∀ f : Few x s, ∀ b ∈ x.bars, b.dims.length ≤ 300000 := fun f b hb => zh (f.tame b hb).2 (by decide);have hst3 : ∀ f : Few x s, ∀ d ∈ x.dems, d.steps.length ≤ 300000 := fun f d hd => zh (f.dems d hd).2 (by decide);have HD := zf (fun (f : Few x s) (j : Nat) (W : World) (hz : Below w.heap.size w W) => show Calls Tryz.prog 29 #[.agg (zp x.mem x.rule s), .int .i64 (j : Int)] W fun e w' => zgS x (j : Int) w' e ∧ Below W.heap.size W w' from
  zpn x s (j : Int) W (h.carry (hz.mono hB) (ze _)) (zh hB hz.size) (zfU hl f) (hn12 f).1 (hn12 f).2 (hds f) (hst3 f) hcap)
 have HCx := zf (fun (f : Few x s) (hd : zah x = true) (W : World) (hz : Below w.heap.size w W) => show Calls Tryz.prog 12 #[.agg (zp x.mem x.rule s)] W _ from
  zgK HSL HCL x s W (h.carry (hz.mono hB) (ze _)) (zh hB hz.size) (zfU hl f) hd (zaW x) (zbp x) (fun W' hz' => ziC HSL HCL x s W' (h.carry ((hz.trans (hz'.mono hz.size)).mono hB) (ze _)) (zh (zh hB hz.size) hz'.size) (zfU hl f) hd)
   (fun f hf => by have := zfl f hf; omega) (by have h9 := zfY x; have h8 := f.demn; rw [hl.l6] at h8; omega))
 have HCy := zf (fun (j : Nat) (s' : DetS) (B' : Nat) (W : World) (h9 : DetAt W B' (zan x j) s') (hB' : B' ≤ W.heap.size) (hf : DetFit (zan x j) s') (hd : zah (zan x j) = true) (hd6 : (zan x j).dems.length ≤ 1000) => show Calls Tryz.prog 12 #[.agg (zp x.mem x.rule s')] W _ from
  zgK HSL HCL (zan x j) s' W h9 hB' hf hd (zaW (zan x j)) (zbp (zan x j)) (fun W' hz' => ziC HSL HCL (zan x j) s' W' (h9.carry (hz'.mono hB') (ze _)) (zh hB' hz'.size) hf hd)
   (fun f hf => by have := zfl f hf; omega) (zh (zfY _) hd6))
 have HVy := zf (fun (j : Nat) (s' : DetS) (B' : Nat) (W : World) (h9 : DetAt W B' (zan x j) s') (hB' : B' ≤ W.heap.size) (hf : DetFit (zan x j) s') => show Calls Tryz.prog 26 #[.agg (zp x.mem x.rule s')] W _ from zgf (zan x j) s' W h9 hB' hf);have HOx := zf (fun (f : Few x s) (hd : zah x = true) (i : Nat) (j : JoinD) (hj : x.laps[i]? = some j) (W : World) (hz : Below w.heap.size w W) => show Calls Tryz.prog 30 #[.agg (zp x.mem x.rule s), .int .i64 (i : Int)] W _ from
  zg5 x s i j W (h.carry (hz.mono hB) (ze _)) (zh hB hz.size) (zfU hl f) hd hj)
 have HOy := zf (fun (j : Nat) (s' : DetS) (B' : Nat) (W : World) (h9 : DetAt W B' (zan x j) s') (hB' : B' ≤ W.heap.size) (hf : DetFit (zan x j) s') (hd : zah (zan x j) = true) (i : Nat) (y : JoinD) (hj : (zan x j).laps[i]? = some y) => show Calls Tryz.prog 30 #[.agg (zp x.mem x.rule s'), .int .i64 (i : Int)] W _ from
  zg5 (zan x j) s' i y W h9 hB' hf hd hj)
 have HNx := zf (fun (f : Few x s) (hd : zah x = true) (W : World) (hz : Below w.heap.size w W) => zeQ s.a3 x.bars s.n3 s.c3 s.a4 x.runs s.n4 s.c4 W (h.h3.carry (hz.mono hB) (ze _)) (h.h4.carry (Flat.carried _) (hz.mono hB) (ze _)) (zh hB hz.size) hl.l3 hl.l4 (zfU hl f).m3 (zfU hl f).m4 f.tame (zaG hd).2.1);have HNy := zf (fun (j : Nat) (s' : DetS) (B' : Nat) (W : World) (h9 : DetAt W B' (zan x j) s') (hB' : B' ≤ W.heap.size) (hf : DetFit (zan x j) s') (hd : zah (zan x j) = true) => zeQ s'.a3 (zan x j).bars s'.n3 s'.c3 s'.a4 (zan x j).runs s'.n4 s'.c4 W h9.h3 h9.h4 hB' hf.l3 hf.l4 hf.m3 hf.m4 hf.tame (zaG hd).2.1);have Hff := zf (fun (f : Few x s) => And.intro f.laps (And.intro f.runs f.demn));have HL4 := zf hl.l4;have HL5 := zf hl.l5;have HL6 := zf hl.l6;have HiX := zf (fun (s' : DetS) => show (Tryz.prog.info? 34).map (·.size) = some (zp x.mem x.rule s').size from (by kernel_rfl : (Tryz.prog.info? 34).map (·.size) = some 19));have HoX := zf (fun (s' : DetS) => show (zp x.mem x.rule s').all (·.oneCell') = true by kernel_rfl);have HzX := zf (fun (s' : DetS) => show zeroD.size = (zp x.mem x.rule s').size by kernel_rfl);have K0 := zf (Blk.new w 34 (zp x.mem x.rule s));have HW := zf (zk w (.cells (zp x.mem x.rule s) 34));have HR4 := zf (fun (W : World) (hz : Below w.heap.size w W) => And.intro (SlOf.carry (Flat.carried _) h.h4 (hz.mono hB) (ze B)) (zh hB hz.size));clear h hn12 hds hst3 hl hB hcap
 show Calls Tryz.prog 7 #[.agg (zp x.mem x.rule s), .int .u8 k] w _
 obtain ⟨C, hC⟩ : ∃ C, C = zp x.mem x.rule s := ⟨_, rfl⟩;have HiC := zf (show (Tryz.prog.info? 34).map (·.size) = some C.size by rw [hC]; exact HiX.out s);have HCc := zf (show C[6]? = some (.slice s.a3 s.n3 s.c3) ∧ C[7]? = some (.slice s.a4 s.n4 s.c4) ∧ C[8]? = some (.slice s.a5 s.n5 s.c5) by rw [hC]; exact ⟨rfl, rfl, rfl⟩);rw [← hC] at HR HD HCx HOx K0 HW ⊢;clear hC;go_enter Tryz.func7, Tryz.ntmps7;go_wp2_with fail;refine (zsT HSL HCL _).mono ?_;rintro e w1 ⟨rfl, hb⟩;replace K0 := zf (K0.out.keep hb);replace HW := zf (zg HW.out hb (ze _));clear hb;go_wp2_with (refine zL (by rfl) 34 (.tmp 2) rfl w.heap.size rfl 34 _ (0, 0) _ K0.out Tryz.underlying34 rfl HiC.out ?_);refine (HR.out _ HW.out).mono ?_;rintro e w2 ⟨⟨q, rfl, hq⟩, hb⟩;have Hq := zf hq;replace K0 := zf (K0.out.keep hb);replace HW := zf (zg HW.out hb (ze _));clear hq HR hb;cases q
 ·go_wp2;go_ret;exact ⟨rfl, HW.out⟩
 have Hf := zf (Hq.out rfl).1;have Hd := zf (Hq.out rfl).2;clear Hq;obtain ⟨h5, h4, h6⟩ := Hff.out Hf.out;clear Hff;have c7 := (K0.out.cell 7).trans HCc.out.2.1;have lk := K0.out.lt;by_cases hn0 : s.n4 = 0
 ·have e0 : ((s.n4 : Int) == 0) = true := by rw [hn0]; rfl
  have e1 : (s.n4 == 0) = true := by rw [hn0]; rfl
  go_wp2;go_ret;exact ⟨rfl, HW.out⟩
 have e0 : ((s.n4 : Int) == 0) = false := by simpa using hn0
 have e1 : (s.n4 == 0) = false := by simpa using hn0
 have z0 : ((s.n4 : Int) == 0) = false := e0;obtain ⟨kn, rfl⟩ : ∃ kn : Nat, k = kn := ⟨k.toNat, by omega⟩;have z1 : IntKind.i64.wrap (kn : Int) = (kn : Int) := zr _ (by omega);have z2 : Int.tmod (kn : Int) (s.n4 : Int) = ((kn % s.n4 : Nat) : Int) := by rw [Int.tmod_eq_emod_of_nonneg (by omega)]; rfl
 have hjl : kn % s.n4 < s.n4 := Nat.mod_lt _ (by omega);have z3 : IntKind.i64.wrap ((kn % s.n4 : Nat) : Int) = ((kn % s.n4 : Nat) : Int) := zr _ (by omega);obtain ⟨j, hj⟩ : ∃ j, j = kn % s.n4 := ⟨_, rfl⟩;rw [← hj] at z2 z3 hjl;clear hj;go_upto_region 6 with fail
 clear c7 lk e0 e1 z0 z1 z2 z3;have HDz := zf (HD.out Hf.out j _ HW.out);clear HD;go_wp2_with (refine zL (by rfl) 34 (.tmp 2) rfl w.heap.size rfl 34 _ (0, 0) _ K0.out Tryz.underlying34 rfl HiC.out ?_);refine HDz.out.mono ?_;rintro e w3 ⟨hde, hb⟩;replace K0 := zf (K0.out.keep hb);replace HW := zf (zg HW.out hb (ze _));clear HDz hb;rcases hde with ⟨h9, _⟩ | ⟨_, h9, _⟩ | ⟨_, jj, hjj, hjl2, s6, he, hat, hfit⟩
 ·rw [Hd.out] at h9;cases h9
 ·exfalso;rw [← HL4.out] at h9;omega
 obtain rfl : j = jj := by omega
 have he' : e = .returned (.tuple #[.agg (zp x.mem x.rule s6), .int .i64 0]) := he;subst he';have hdy := ztq Hd.out hjl2;have hY4 : s6.n4 + 1 = s.n4 := by
  rw [hfit.l4, HL4.out]
  show (x.runs.eraseIdx j).length + 1 = x.runs.length
  rw [List.length_eraseIdx, if_pos hjl2];omega
 have hY5 : s6.n5 ≤ s.n5 := by
  rw [hfit.l5, HL5.out]
  show (zaO (zD (x.runs.take j)) (zcT x.runs j) x.laps).length ≤ x.laps.length
  rw [zaO, zw];exact zal _ _
 have HAt6 := zf (fun (W : World) (hz : Below w3.heap.size w3 W) => hat.carry hz (ze _));have HFit := zf hfit;have Hdy := zf hdy;have Hjl := zf hjl2;clear he hat hfit hdy hjj;go_upto_region 7 with (refine wpList_store_row rfl 34 (.tmp 6) (.tmp 43) rfl w3.heap.size (zp x.mem x.rule s6) rfl rfl 34 _ (Blk.new w3 34 zeroD) (by kernel_rfl) rfl (by kernel_rfl) ?_)
 have k6 := setRow_heap _ w3.heap.size _ (zp x.mem x.rule s6) _ _ (Blk.new w3 34 zeroD);have hb := Below.setRow (zk w3 (.cells zeroD 34)) (ze _) (zp x.mem x.rule s6);generalize World.setRow (w3.alloc (.cells zeroD 34)) w3.heap.size (zp x.mem x.rule s6) = w4 at *;have K6 := zf (show Blk w4 w3.heap.size 34 (zp x.mem x.rule s6) from k6);have HY := zf hb;replace K0 := zf (K0.out.keep hb);replace HW := zf (zg HW.out hb (ze _));clear hb k6;have hC6c : (zp x.mem x.rule s6)[6]? = some (.slice s6.a3 s6.n3 s6.c3) ∧ (zp x.mem x.rule s6)[7]? = some (.slice s6.a4 s6.n4 s6.c4) ∧ (zp x.mem x.rule s6)[8]? = some (.slice s6.a5 s6.n5 s6.c5) := ⟨rfl, rfl, rfl⟩;have HC6c := zf hC6c;have HiY := zf (HiX.out s6);replace HVy := zf (fun (W : World) (hz : Below w3.heap.size w3 W) => HVy.out j s6 w3.heap.size W (HAt6.out W hz) hz.size HFit.out);rw [Hdy.out] at HVy;replace HCy := zf (fun (W : World) (hz : Below w3.heap.size w3 W) => HCy.out j s6 w3.heap.size W (HAt6.out W hz) hz.size HFit.out Hdy.out (by show x.dems.length ≤ 1000; rw [← HL6.out]; omega));replace HOy := zf (fun (W : World) (hz : Below w3.heap.size w3 W) (i : Nat) (y : JoinD) (hj : (zan x j).laps[i]? = some y) => HOy.out j s6 w3.heap.size W (HAt6.out W hz) hz.size HFit.out Hdy.out i y hj);replace HNy := zf (fun (W : World) (hz : Below w3.heap.size w3 W) => HNy.out j s6 w3.heap.size W (HAt6.out W hz) hz.size HFit.out Hdy.out);generalize zp x.mem x.rule s6 = C6 at *;obtain ⟨g6, hg6⟩ : ∃ g, g = w3.heap.size := ⟨_, rfl⟩;rw [← hg6] at K6 ⊢;clear hg6 hC6c;go_wp2_with (first
  | (refine zL (by rfl) 34 (.tmp 2) rfl w.heap.size rfl 34 _ (0, 0) _ K0.out Tryz.underlying34 rfl HiC.out ?_)
  | (refine zL (by rfl) 34 (.tmp 6) rfl g6 rfl 34 _ (0, 0) _ K6.out Tryz.underlying34 rfl HiY.out ?_))
 refine (HVy.out _ HY.out).mono ?_;rintro e w5 ⟨rfl, hb⟩;replace K0 := zf (K0.out.keep hb);replace K6 := zf (K6.out.keep hb);replace HW := zf (zg HW.out hb (ze _));replace HY := zf (zg HY.out hb (ze _));clear hb HVy;have c7 := (K0.out.cell 7).trans HCc.out.2.1;have c8 := (K0.out.cell 8).trans HCc.out.2.2;have lk := K0.out.lt;have d7 := (K6.out.cell 7).trans HC6c.out.2.1;have d8 := (K6.out.cell 8).trans HC6c.out.2.2;have ld := K6.out.lt;have e0 : IntKind.i64.wrap ((s.n4 : Int) - 1) = (s6.n4 : Int) := by rw [zr _ (by omega)]; omega
 have e1 : decide ((s.n5 : Int) < (s6.n5 : Int)) = false := zE (by omega);have e2 : decide (s.n5 < s6.n5) = false := zE (by omega);go_upto_region 9 with (first
  | (refine zL (by rfl) 34 (.tmp 2) rfl w.heap.size rfl 34 _ (0, 0) _ K0.out Tryz.underlying34 rfl HiC.out ?_)
  | (refine zL (by rfl) 34 (.tmp 6) rfl g6 rfl 34 _ (0, 0) _ K6.out Tryz.underlying34 rfl HiY.out ?_))
 clear c7 c8 lk d7 d8 ld e0 e1 e2;have HCxz := zf (HCx.out Hf.out Hd.out _ HW.out);go_wp2_with (first
  | (refine zL (by rfl) 34 (.tmp 2) rfl w.heap.size rfl 34 _ (0, 0) _ K0.out Tryz.underlying34 rfl HiC.out ?_)
  | (refine zL (by rfl) 34 (.tmp 6) rfl g6 rfl 34 _ (0, 0) _ K6.out Tryz.underlying34 rfl HiY.out ?_))
 refine HCxz.out.mono ?_;rintro e w6 ⟨Aa, ca, rfl, hfa, hb⟩;replace K0 := zf (K0.out.keep hb);replace K6 := zf (K6.out.keep hb);replace HW := zf (zg HW.out hb (ze _));replace HY := zf (zg HY.out hb (ze _));have HFa := zf (FinRow.read hfa);clear hb hfa HCxz HCx;have HCyz := zf (HCy.out _ HY.out);go_wp2_with (first
  | (refine zL (by rfl) 34 (.tmp 2) rfl w.heap.size rfl 34 _ (0, 0) _ K0.out Tryz.underlying34 rfl HiC.out ?_)
  | (refine zL (by rfl) 34 (.tmp 6) rfl g6 rfl 34 _ (0, 0) _ K6.out Tryz.underlying34 rfl HiY.out ?_))
 refine HCyz.out.mono ?_;rintro e w7 ⟨Ab, cb, rfl, hfb, hb⟩;replace K0 := zf (K0.out.keep hb);replace K6 := zf (K6.out.keep hb);replace HW := zf (zg HW.out hb (ze _));replace HY := zf (zg HY.out hb (ze _));have hz67 := hb.size;replace HFa := zf (SlOf.carry (Flat.carried _) HFa.out hb (ze _));have HFb := zf (FinRow.read hfb);clear hb hfb HCyz HCy;have HKa := zf (fun (W : World) (hz : Below w7.heap.size w7 W) (p q : Int) (hm : (zck x (zaW x) (zb9 (zbC (zag x)) (zbp x))).length ≤ 300000) => zk9 p q Aa _ _ ca W (SlOf.carry (Flat.carried _) HFa.out (hz.mono hz67) (ze _)) (zh hz67 hz.size) rfl hm);have HKb := zf (fun (W : World) (hz : Below w7.heap.size w7 W) (p q : Int) (hm : (zck (zan x j) (zaW (zan x j)) (zb9 (zbC (zag (zan x j))) (zbp (zan x j)))).length ≤ 300000) => zk9 p q Ab _ _ cb W (SlOf.carry (Flat.carried _) HFb.out hz (ze _)) hz.size rfl hm);go_upto_region 11 with fail
 have hd6 : x.dems.length ≤ 1000 := by rw [← HL6.out]; omega
 have hla := zjY Hd.out (sc := zaW x) (zh (zfY x) hd6) (zb9 (zbC (zag x)) (zbp x));have hlb := zjY Hdy.out (sc := zaW (zan x j)) (zh (zfY (zan x j)) hd6) (zb9 (zbC (zag (zan x j))) (zbp (zan x j)));have HQ := zf (fun (q1 : zb9 (zbC (zag x)) (zbp x) = 0) (q2 : zb9 (zbC (zag (zan x j))) (zbp (zan x j)) = 0) =>
  show zay 1 2 (zck (zan x j) (zaW (zan x j)) (zb9 (zbC (zag (zan x j))) (zbp (zan x j)))) = zay 1 2 (zck x (zaW x) (zb9 (zbC (zag x)) (zbp x))) ∧ zay 5 5 (zck (zan x j) (zaW (zan x j)) (zb9 (zbC (zag (zan x j))) (zbp (zan x j)))) ≤ zay 5 5 (zck x (zaW x) (zb9 (zbC (zag x)) (zbp x))) ∧ zay 6 7 (zck (zan x j) (zaW (zan x j)) (zb9 (zbC (zag (zan x j))) (zbp (zan x j)))) ≤ zay 6 7 (zck x (zaW x) (zb9 (zbC (zag x)) (zbp x))) by
   rw [zck, zck, if_pos q1, if_pos q2];exact zpl Hd.out Hjl.out _ _ zfl zfl)
 generalize zb9 (zbC (zag x)) (zbp x) = EA at *;generalize zb9 (zbC (zag (zan x j))) (zbp (zan x j)) = EB at *;generalize zck x (zaW x) EA = LA at *;generalize zck (zan x j) (zaW (zan x j)) EB = LB at *;go_cut [107] from 81 to 107 (fun v W => v = .bool false ∧ Hid (Below w7.heap.size w7 W))
 case first =>
  by_cases qa : EA = 0
  ·by_cases qb : EB = 0
   ·obtain ⟨k1, k2, k3⟩ := HQ.out qa qb;subst qa;subst qb;clear HQ;go_wp2_with fail;refine (HKb.out _ (Below.refl _ _) 1 2 hlb).mono ?_;rintro e wa ⟨rfl, hb⟩;have HZ := zf hb;clear hb;rw [k1];go_wp2_with fail;refine (HKa.out _ HZ.out 1 2 hla).mono ?_;rintro e wb ⟨rfl, hb⟩;replace HZ := zf (zg HZ.out hb (ze _));clear hb k1;generalize zay 1 2 LA = v1 at *;have n0 : ((v1 : Int) != (v1 : Int)) = false := by simp
    go_wp2_with fail;refine (HKb.out _ HZ.out 5 5 hlb).mono ?_;rintro e wc ⟨rfl, hb⟩;replace HZ := zf (zg HZ.out hb (ze _));clear hb n0;go_wp2_with fail;refine (HKa.out _ HZ.out 5 5 hla).mono ?_;rintro e wd ⟨rfl, hb⟩;replace HZ := zf (zg HZ.out hb (ze _));clear hb;generalize zay 5 5 LA = v2 at *;generalize zay 5 5 LB = v3 at *;have n1 : decide ((v2 : Int) < (v3 : Int)) = false := zE (by omega);have n2 : decide (v2 < v3) = false := zE (by omega);go_wp2_with fail;refine (HKb.out _ HZ.out 6 7 hlb).mono ?_;rintro e we ⟨rfl, hb⟩;replace HZ := zf (zg HZ.out hb (ze _));clear hb n1 n2;go_wp2_with fail;refine (HKa.out _ HZ.out 6 7 hla).mono ?_;rintro e wf ⟨rfl, hb⟩;replace HZ := zf (zg HZ.out hb (ze _));clear hb;generalize zay 6 7 LA = v4 at *;generalize zay 6 7 LB = v5 at *;have n1 : decide ((v4 : Int) < (v5 : Int)) = false := zE (by omega);have n2 : decide (v4 < v5) = false := zE (by omega);go_wp2_with fail;go_meet;exact ⟨rfl, HZ⟩
   ·have dqa : (EA == 0) = true := by simpa using qa
    have dqb : (EB == 0) = false := by simpa using qb
    go_wp2_with fail;go_meet;exact ⟨rfl, zf (Below.refl _ _)⟩
  ·have dqa : (EA == 0) = false := by simpa using qa
   go_wp2_with fail;go_meet;exact ⟨rfl, zf (Below.refl _ _)⟩
 case rest =>
  obtain ⟨rfl, hbc⟩ := hcut;rename World => w8;have hb := hbc.out;replace K0 := zf (K0.out.keep hb);replace K6 := zf (K6.out.keep hb);replace HW := zf (zg HW.out hb (ze _));replace HY := zf (zg HY.out hb (ze _));clear hb hbc HKa HKb HFa HFb HQ hla hlb hd6 hz67;have d8 := (K6.out.cell 8).trans HC6c.out.2.2;have ld := K6.out.lt;obtain ⟨YL, hYL⟩ : ∃ YL, YL = (zan x j).laps := ⟨_, rfl⟩;obtain ⟨FR, hFR⟩ : ∃ q, q = zD (x.runs.take j) := ⟨_, rfl⟩;obtain ⟨CN, hCN⟩ : ∃ q, q = zcT x.runs j := ⟨_, rfl⟩;have HYL := zf (show YL = zaO FR CN x.laps by rw [hYL, hFR, hCN]; rfl);have HYn := zf (show s6.n5 = YL.length by rw [hYL]; exact HFit.out.l5);have HOv := zf (fun (y j0 : JoinD) (hj0 : j0 ∈ x.laps) (hkp : zcV FR CN j0 = true) (hmv : zcc FR CN j0 = y) => show ze2 (zU (zan x j)) y = ze2 (zU x) j0 by
   rw [← hmv, hFR, hCN];exact zqv Hd.out Hjl.out hj0 (by rw [← hFR, ← hCN]; exact hkp))
  rw [← hYL] at HOy;clear hYL hFR hCN;go_wp2;go_loopw [12, 111] (fun v iv wr => ∃ i : Nat, i ≤ s6.n5 ∧ iv = .int .i64 i ∧ (∃ a : Nat, v = .int .i64 a ∧ Hid (∃ t, a ≤ t ∧ t ≤ s.n5 ∧ zaO FR CN (x.laps.drop t) = YL.drop i)) ∧ Hid (Below w8.heap.size w8 wr)) (fun _ iv _ => s6.n5 - (intOf iv).toNat)
  case atStart => exact ⟨0, zu _, rfl, ⟨0, rfl, zf ⟨0, ze _, zu _, HYL.out.symm⟩⟩, zf (Below.refl _ _)⟩
  case round =>
   clear d8 ld;obtain ⟨i, hi, rfl, ⟨a, rfl, hex⟩, hbr⟩ := hrel;rename World => wr;have hb := hbr.out;replace K0 := zf (K0.out.keep hb);replace K6 := zf (K6.out.keep hb);have HWr := zf (zg HW.out hb (ze _));have HYr := zf (zg HY.out hb (ze _));clear hb;by_cases hlt : i < s6.n5
   ·obtain ⟨t, hat, htn, hdr⟩ := hex.out;obtain ⟨y, hy⟩ : ∃ y, YL[i]? = some y := ⟨_, zi (by rw [← HYn.out]; exact hlt)⟩;obtain ⟨t', j0, hj0, hkp, hmv, hrest⟩ := zkf (x.laps.drop t) (hdr.trans (zaX hy));rw [List.getElem?_drop] at hj0;have hrest2 : zaO FR CN (x.laps.drop (t + t' + 1)) = YL.drop (i + 1) := by
     rw [← hrest, List.drop_drop]
     first | rfl | (congr 2; omega)
    obtain ⟨T, hT⟩ : ∃ T, T = t + t' := ⟨_, rfl⟩;rw [← hT] at hj0 hrest2;have hTn : T < s.n5 := by rw [HL5.out]; exact zaa hj0
    have haT : a ≤ T := by omega
    have hov := HOv.out y j0 (zv hj0) hkp hmv;have HOyi := zf (HOy.out wr HYr.out i y hy);rw [hov] at HOyi;have Hj0 := zf hj0;have Hrest := zf hrest2;clear hdr hy hj0 hkp hmv hrest hrest2 hov hT hat htn hex;generalize hoe : ze2 (zU x) j0 = OV at *;have Hoe := zf hoe;clear hoe;obtain ⟨o1, o2⟩ := OV;simp only at HOyi;go_wp2_with (first
     | (refine zL (by rfl) 34 (.tmp 2) rfl w.heap.size rfl 34 _ (0, 0) _ K0.out Tryz.underlying34 rfl HiC.out ?_)
     | (refine zL (by rfl) 34 (.tmp 6) rfl g6 rfl 34 _ (0, 0) _ K6.out Tryz.underlying34 rfl HiY.out ?_))
    refine HOyi.out.mono ?_;rintro e wa ⟨rfl, hb⟩;clear HOyi;replace K0 := zf ((K0.out.keep hb).alloc (.cells #[.int .i64 o1, .int .i64 o2] 77));replace K6 := zf ((K6.out.keep hb).alloc (.cells #[.int .i64 o1, .int .i64 o2] 77));have K14 := zf (Blk.new wa 77 #[.int .i64 o1, .int .i64 o2]);have HWa0 := zg HWr.out hb (ze _);have HWa := zf (HWa0.alloc HWa0.size (.cells #[.int .i64 o1, .int .i64 o2] 77));have HBa0 := zg hbr.out hb (ze _);have HBa := zf (HBa0.alloc HBa0.size (.cells #[.int .i64 o1, .int .i64 o2] 77));obtain ⟨wb, hwb⟩ : ∃ q, q = wa.alloc (.cells #[.int .i64 o1, .int .i64 o2] 77) := ⟨_, rfl⟩;obtain ⟨g14, hg14⟩ : ∃ q, q = wa.heap.size := ⟨_, rfl⟩;rw [← hwb] at K0 K6 K14 HWa HBa;rw [← hg14] at K14;clear hb HWa0 HBa0;go_upto_region 18 with fail
    rw [← hwb, ← hg14];clear hwb hg14;go_wp2;go_loopw [12] (fun v wi => ∃ a : Nat, v = .int .i64 a ∧ a ≤ T ∧ Hid (Below wb.heap.size wb wi)) (fun v _ => T + 1 - (intOf v).toNat)
    case atStart => exact ⟨a, rfl, haT, zf (Below.refl _ _)⟩
    case round =>
     clear haT;obtain ⟨a, rfl, haT, hbi⟩ := hrel;rename World => wi;have k0 := K0.out.keep hbi.out;have K0i := zf k0;have c8 := (k0.cell 8).trans HCc.out.2.2;have lk := k0.lt;clear k0;obtain ⟨ja, hja⟩ : ∃ ja, x.laps[a]? = some ja := ⟨_, zi (by rw [← HL5.out]; omega)⟩;have HOxi := zf (HOx.out Hf.out Hd.out a ja hja wi (zg HWa.out hbi.out (ze _)));generalize hoa : ze2 (zU x) ja = OA at *;have Hoa := zf (fun (q : a = T) => show OA = (o1, o2) by
      subst q;rw [Hj0.out] at hja;injection hja with hja
      rw [← hoa, ← hja];exact Hoe.out)
     obtain ⟨oa1, oa2⟩ := OA;simp only at HOxi;have n0 : ((a : Int) == (s.n5 : Int)) = false := by simp; omega
     have n1 : (a == s.n5) = false := by simp; omega
     clear hja hoa;have K0 := K0i;go_wp2_with (first
      | (refine zL (by rfl) 34 (.tmp 2) rfl w.heap.size rfl 34 _ (0, 0) _ K0.out Tryz.underlying34 rfl HiC.out ?_)
      | (refine zL (by rfl) 34 (.tmp 6) rfl g6 rfl 34 _ (0, 0) _ K6.out Tryz.underlying34 rfl HiY.out ?_))
     refine HOxi.out.mono ?_;rintro e wc ⟨rfl, hb⟩;clear HOxi;have HXc := zf (zg hbi.out hb (ze _));have k14 := (K14.out.keep HXc.out).alloc (.cells #[.int .i64 oa1, .int .i64 oa2] 77);have q0 := k14.cell 0;have q1 := k14.cell 1;simp at q0 q1;have lq := k14.lt;have HXd := zf (HXc.out.alloc HXc.out.size (.cells #[.int .i64 oa1, .int .i64 oa2] 77));clear hb k14 c8 lk n0 n1;cases h1 : (oa1 == o1)
     ·have hne : a ≠ T := fun q => by
       have h9 := Hoa.out q;injection h9 with h9 _
       rw [h9] at h1;simp at h1
      go_wp2;go_roundw
      case rel => exact ⟨a + 1, by go_num, by omega, HXd⟩
      case measure => simp [intOf]; omega
     cases h2 : (oa2 == o2)
     ·have hne : a ≠ T := fun q => by
       have h9 := Hoa.out q;injection h9 with _ h9
       rw [h9] at h2;simp at h2
      go_wp2;go_roundw
      case rel => exact ⟨a + 1, by go_num, by omega, HXd⟩
      case measure => simp [intOf]; omega
     ·go_wp2;go_roundw
      case rel => exact ⟨i + 1, by omega, by go_num, ⟨a + 1, by go_num, zf ⟨T + 1, by omega, by omega, Hrest.out⟩⟩, zf (HBa.out.trans (HXd.out.mono HBa.out.size))⟩
      case measure => simp [intOf]; omega
   ·obtain rfl : i = s6.n5 := by omega
    clear hex hbr HOx HOy HOv HYL HYn;have HNxz := zf (HNx.out Hf.out Hd.out wr HWr.out);have HNyz := zf (fun (W : World) (hz : Below w3.heap.size w3 W) => HNy.out W hz);obtain ⟨hR4, hBs⟩ := HR4.out wr HWr.out;obtain ⟨b4, o4, r, hA4, hb4, hr, hc4⟩ := RunsAt.get (k := j) hR4 (by rw [← HL4.out]; exact hjl);have hcnt := (zap (zaG Hd.out).2.1).2.2 r (zv hr);have hrc := zaw hcnt;have hln := zat (zaG Hd.out).2.1;have hcd : zD (zan x j).runs = zD x.runs - r.count := by
     have h9 := zpw Hd.out Hjl.out;rw [zcT, hr] at h9;exact h9
    have Hcd := zf hcd;have f9 := hc4 9 _ rfl;have lb4 : b4 < wr.heap.size := zt hb4 hBs;have F9 := zf (fun (W : World) (hz : Below wr.heap.size wr W) => (hz.cell (p := ⟨b4, o4 + j * 10 + 9, none⟩) lb4).trans f9);have HA4 := zf hA4;have hcx : 0 ≤ zD x.runs ∧ zD x.runs ≤ 2000 := by omega
    clear hR4 hBs hA4 hb4 hr hc4 hcnt hln hcd f9;have c6 := (K0.out.cell 6).trans HCc.out.1;have c7 := (K0.out.cell 7).trans HCc.out.2.1;have lk := K0.out.lt;go_wp2_with fail;refine HNxz.out.mono ?_;rintro e wa ⟨rfl, hb⟩;replace K0 := zf (K0.out.keep hb);replace K6 := zf (K6.out.keep hb);have HYa := zf (zg HYr.out hb (ze _));have HRa := zf hb;have HWa := zf (zg HWr.out hb (ze _));clear hb HNxz c6 c7 lk;have d6 := (K6.out.cell 6).trans HC6c.out.1;have d7 := (K6.out.cell 7).trans HC6c.out.2.1;have ld := K6.out.lt;go_wp2_with fail;refine (HNyz.out _ HYa.out).mono ?_;rintro e wb ⟨rfl, hb⟩;replace K0 := zf (K0.out.keep hb);have HRb := zf (zg HRa.out hb (ze _));have HWb := zf (zg HWa.out hb (ze _));clear hb HNyz d6 d7 ld;have f9 := F9.out wb HRb.out;have c7 := (K0.out.cell 7).trans HCc.out.2.1;have lk := K0.out.lt;rw [HA4.out] at c7;have lbb : b4 < wb.heap.size := zt lb4 HRb.out.size;rw [Hcd.out];generalize zD x.runs = CX at *;have zc : IntKind.i64.wrap (CX - r.count) = CX - r.count := zr _ (by omega);have zd : wrap64 (CX - r.count) = CX - r.count := zas _ (by omega);have jn : (j : Int) < (s.n4 : Int) := by omega
    have j0 : (0 : Int) ≤ (j : Int) := by omega
    go_wp2;go_ret;exact ⟨zo (by simp), HWb.out⟩
end Go.Proofs.YtpaanfjjnjjoeaaGreat
