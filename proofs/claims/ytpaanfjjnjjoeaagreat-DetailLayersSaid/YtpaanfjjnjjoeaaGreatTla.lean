/- detail.Passes, and the order of the layers (DetailLayers$1). -/
import Derived.Test.YtpaanfjjnjjoeaaGreatSbd
set_option maxHeartbeats 8000000
set_option maxRecDepth 100000
namespace Go.Proofs.YtpaanfjjnjjoeaaGreat
open Go.RowKit
theorem detPasses_ok (x : DetD) (s : DetS) (w : World) (E : Int) (LA : List FinD)
  (hC : ∀ W, Below w.heap.size w W → Calls Tryz.prog 12 #[zcZ x s] W fun e w' => ∃ A c, e = .returned (.tuple #[.slice A LA.length c, .int .i64 E]) ∧ FinRow W.heap.size w' A LA.length c LA ∧ Below W.heap.size W w') :
  Calls Tryz.prog 13 #[zcZ x s] w fun e w' => e = .returned (.tuple #[.bool (E == 0 && LA.length == 0), .int .i64 E]) ∧ Below w.heap.size w w' := by
 have K0 := zf (Blk.new w 34 (zp x.mem x.rule s));have HW := zf (zk w (.cells (zp x.mem x.rule s) 34));have Hi := zf (show (Tryz.prog.info? 34).map (·.size) = some 19 by kernel_rfl);have hsz : (zp x.mem x.rule s).size = 19 := rfl;have Hsz := zf hsz;have HC := zf (fun (W : World) (hz : Below w.heap.size w W) => show Calls Tryz.prog 12 #[.agg (zp x.mem x.rule s)] W _ from hC W hz);clear hC hsz
 show Calls Tryz.prog 13 #[.agg (zp x.mem x.rule s)] w _
 generalize zp x.mem x.rule s = C at *;obtain ⟨n, hn⟩ : ∃ n, n = LA.length := ⟨_, rfl⟩;rw [← hn] at HC ⊢;clear hn;have HC9 := zf (HC.out _ HW.out);clear HC;go_enter Tryz.func13, Tryz.ntmps13;go_wp2_with (refine wpList_load_row rfl 34 (.tmp 1) rfl w.heap.size rfl 34 _ (0, 0) _ K0.out Tryz.underlying34 rfl (by rw [Hsz.out]; exact Hi.out) ?_);refine HC9.out.mono ?_;rintro e w2 ⟨A, c, rfl, _, hb⟩;replace HW := zf (zg HW.out hb (ze _));clear hb HC9 K0 Hi;by_cases h0 : E = 0
 ·subst h0;by_cases h1 : n = 0
  ·subst h1;go_wp2;go_ret2;exact ⟨rfl, HW.out⟩
  ·have e0 : ((n : Int) == 0) = false := by simpa using h1
   have e1 : (n == 0) = false := by simpa using h1
   go_wp2;go_ret2;exact ⟨by rw [e1]; rfl, HW.out⟩
 ·have e0 : (E == 0) = false := by simpa using h0
  go_wp2;go_ret2;exact ⟨by rw [e0]; rfl, HW.out⟩
def grpOf (k : Int) : Int := if k ≤ 0 then 0 else if k ≤ 2 then 1 else if k ≤ 4 then 2 else if k ≤ 5 then 3 else if k ≤ 7 then 4 else 5
theorem grp_ok (k : Int) (w : World) (h0 : 0 ≤ k) (h8 : k ≤ 8) :
  Calls Tryz.prog 24 #[.int .i64 k] w fun e w' => e = .returned (.int .i64 (grpOf k)) ∧ Below w.heap.size w w' := by
 have hk : k = 0 ∨ k = 1 ∨ k = 2 ∨ k = 3 ∨ k = 4 ∨ k = 5 ∨ k = 6 ∨ k = 7 ∨ k = 8 := by omega
 rcases hk with rfl | rfl | rfl | rfl | rfl | rfl | rfl | rfl | rfl
 all_goals
  go_enter Tryz.func24, Tryz.ntmps24;go_wp2;go_ret;exact ⟨rfl, zk w _⟩
theorem pair_const {l : List FinD} {g : Int} (h : ∀ f ∈ l, grpOf f.kind = g) : l.Pairwise (fun a b => grpOf a.kind ≤ grpOf b.kind) := by
 induction l with
 | nil => exact .nil
 | cons y l ih =>
  refine .cons (fun z hz => ?_) (ih (fun f hf => h f (by simp [hf])));rw [h y (by simp), h z (by simp [hz])];exact Int.le_refl _
theorem pair_app {l m : List FinD} {g : Int} (h : l.Pairwise (fun a b => grpOf a.kind ≤ grpOf b.kind)) (hl : ∀ f ∈ l, grpOf f.kind ≤ g) (hm : ∀ f ∈ m, grpOf f.kind = g) : (l ++ m).Pairwise (fun a b => grpOf a.kind ≤ grpOf b.kind) ∧ ∀ f ∈ l ++ m, grpOf f.kind ≤ g := by
 refine ⟨List.pairwise_append.2 ⟨h, pair_const hm, fun a ha b hb => ?_⟩, fun f hf => ?_⟩
 ·rw [hm b hb];exact hl a ha
 ·rcases List.mem_append.1 hf with h9 | h9
  ·exact hl f h9
  ·rw [hm f h9];exact Int.le_refl _
theorem det_order {x : DetD} {lp sc : List FinD} (hl : ∀ f ∈ lp, f.kind = 1 ∨ f.kind = 2) (hs : ∀ f ∈ sc, f.kind = 1) :
  (∀ f ∈ zbn x lp sc, 1 ≤ f.kind ∧ f.kind ≤ 8) ∧ ∀ (k : Nat) (a b : FinD), (zbn x lp sc)[k]? = some a → (zbn x lp sc)[k + 1]? = some b → grpOf a.kind ≤ grpOf b.kind := by
 have b1 : ∀ f ∈ x.bars.flatMap zbh, f.kind = 1 ∨ f.kind = 2 := by
  intro f hf;obtain ⟨y, _, hy⟩ := List.mem_flatMap.1 hf;exact zli f hy
 have b2 : ∀ f ∈ (zbt x.bars x.runs).map (zcp 2), f.kind = 3 ∨ f.kind = 4 := zgV (P := fun k => k = 3 ∨ k = 4) (fun f hf => by have := zm1 f hf; omega);have b3 : ∀ f ∈ (zag x).map (zcp 4), f.kind = 5 := zgV (P := fun k => k = 5) (fun f hf => by have := zmZ f hf; omega);have b4 : ∀ f ∈ lp.map (zcp 5), f.kind = 6 ∨ f.kind = 7 := zgV (P := fun k => k = 6 ∨ k = 7) (fun f hf => by have := hl f hf; omega);have b5 : ∀ f ∈ sc.map (zcp 7), f.kind = 8 := zgV (P := fun k => k = 8) (fun f hf => by have := hs f hf; omega);unfold zbn;generalize x.bars.flatMap zbh = l1 at *;generalize (zbt x.bars x.runs).map (zcp 2) = l2 at *;generalize (zag x).map (zcp 4) = l3 at *;generalize lp.map (zcp 5) = l4 at *;generalize sc.map (zcp 7) = l5 at *;have g1 : ∀ f ∈ l1, grpOf f.kind = 1 := fun f hf => by rcases b1 f hf with h | h <;> rw [h] <;> rfl
 have g2 : ∀ f ∈ l2, grpOf f.kind = 2 := fun f hf => by rcases b2 f hf with h | h <;> rw [h] <;> rfl
 have g3 : ∀ f ∈ l3, grpOf f.kind = 3 := fun f hf => by rw [b3 f hf]; rfl
 have g4 : ∀ f ∈ l4, grpOf f.kind = 4 := fun f hf => by rcases b4 f hf with h | h <;> rw [h] <;> rfl
 have g5 : ∀ f ∈ l5, grpOf f.kind = 5 := fun f hf => by rw [b5 f hf]; rfl
 have p1 := pair_const g1;have p2 := pair_app p1 (fun f hf => by rw [g1 f hf]; decide) g2;have p3 := pair_app p2.1 (fun f hf => Int.le_trans (p2.2 f hf) (by decide)) g3;have p4 := pair_app p3.1 (fun f hf => Int.le_trans (p3.2 f hf) (by decide)) g4;have p5 := pair_app p4.1 (fun f hf => Int.le_trans (p4.2 f hf) (by decide)) g5;refine ⟨fun f hf => ?_, fun k a b ha hb => ?_⟩
 ·simp only [zcQ] at hf;rcases hf with (((h | h) | h) | h) | h
  ·have := b1 f h; omega
  ·have := b2 f h; omega
  ·have := b3 f h; omega
  ·have := b4 f h; omega
  ·have := b5 f h; omega
 ·obtain ⟨i1, e1⟩ := List.getElem?_eq_some_iff.1 ha;obtain ⟨i2, e2⟩ := List.getElem?_eq_some_iff.1 hb;have h9 := List.pairwise_iff_getElem.1 p5.1 k (k + 1) i1 i2 (zK _);rw [e1, e2] at h9;exact h9
end Go.Proofs.YtpaanfjjnjjoeaaGreat
namespace Go.Proofs.YtpaanfjjnjjoeaaGreat
open Go.RowKit Go.Sort
theorem detailLayers_lawW (HSL : zbU) (HCL : zbV) (x : DetD) (s : DetS) (w : World) {B : Nat} (h : DetAt w B x s) (hB : B ≤ w.heap.size) (hl : DetLen x s) :
  Calls Tryz.prog 4 #[zcZ x s] w fun e w' => e = .returned (.bool true) ∧ Below w.heap.size w w' := by
 have HR := zf (fun (W : World) (hz : Below w.heap.size w W) => show Calls Tryz.prog 17 #[.agg (zp x.mem x.rule s)] W _ from zne x s W (h.carry (hz.mono hB) (ze _)) (zh hB hz.size) hl);have Hh := zf h;have HhB := zf hB;have Hhl := zf hl;have HiX := zf (show (Tryz.prog.info? 34).map (·.size) = some (zp x.mem x.rule s).size from (by kernel_rfl : (Tryz.prog.info? 34).map (·.size) = some 19));have K0 := zf (Blk.new w 34 (zp x.mem x.rule s));have HW := zf (zk w (.cells (zp x.mem x.rule s) 34));clear h hB hl
 show Calls Tryz.prog 4 #[.agg (zp x.mem x.rule s)] w _
 obtain ⟨C, hC⟩ : ∃ C, C = zp x.mem x.rule s := ⟨_, rfl⟩;have HCe := zf hC;have HiC := zf (show (Tryz.prog.info? 34).map (·.size) = some C.size by rw [hC]; exact HiX.out);rw [← hC] at HR K0 HW ⊢;clear hC HiX;go_enter Tryz.func4, Tryz.ntmps4;go_wp2_with fail;refine (zsT HSL HCL _).mono ?_;rintro e w1 ⟨rfl, hb⟩;replace K0 := zf (K0.out.keep hb);replace HW := zf (zg HW.out hb (ze _));clear hb;go_wp2_with (refine zL (by rfl) 34 (.tmp 1) rfl w.heap.size rfl 34 _ (0, 0) _ K0.out Tryz.underlying34 rfl HiC.out ?_);refine (HR.out _ HW.out).mono ?_;rintro e w2 ⟨⟨q, rfl, hq⟩, hb⟩;have Hq := zf hq;replace K0 := zf (K0.out.keep hb);replace HW := zf (zg HW.out hb (ze _));clear hq HR hb;cases q
 ·go_wp2;go_ret;exact ⟨rfl, HW.out⟩
 obtain ⟨hf, hd⟩ := Hq.out rfl;have hfit := zfU Hhl.out hf;have h := Hh.out;have hB := HhB.out;have hok := (zaG hd).2.1;have hmem : zdj x.mem = true := by simp only [zah, zcI, zm] at hd; exact hd.1.1.1.1.1
 obtain ⟨hbars, _, hruns⟩ := zap hok;have hn3 : s.n3 ≤ 60 := by rw [hfit.l3]; have := zeP hok; simp only [zbz, zm, zzJ] at this; exact this.1
 have hs20 : (zaW x).length ≤ 1000 := by have h9 := zfY x; have h8 := hf.demn; rw [Hhl.out.l6] at h8; omega
 obtain ⟨E, hE⟩ : ∃ E, E = zb9 (zbC (zag x)) (zbp x) := ⟨_, rfl⟩;obtain ⟨LA, hLA⟩ : ∃ L, L = zck x (zaW x) E := ⟨_, rfl⟩;have hCx := fun (W : World) (hz : Below w.heap.size w W) => show Calls Tryz.prog 12 #[zcZ x s] W fun e w' => ∃ A c, e = .returned (.tuple #[.slice A LA.length c, .int .i64 E]) ∧ FinRow W.heap.size w' A LA.length c LA ∧ Below W.heap.size W w' by
  rw [hLA, hE];exact zgK HSL HCL x s W (h.carry (hz.mono hB) (ze _)) (zh hB hz.size) hfit hd (zaW x) (zbp x) (fun W' hz' => ziC HSL HCL x s W' (h.carry ((hz.trans (hz'.mono hz.size)).mono hB) (ze _)) (zh (zh hB hz.size) hz'.size) hfit hd)
   (fun f hf => by have := zfl f hf; omega) hs20
 have HPs := zf (fun (W : World) (hz : Below w.heap.size w W) => show Calls Tryz.prog 13 #[.agg (zp x.mem x.rule s)] W _ from detPasses_ok x s W E LA (fun W' hz' => hCx W' (hz.trans (hz'.mono hz.size))));have HCx := zf (fun (W : World) (hz : Below w.heap.size w W) => show Calls Tryz.prog 12 #[.agg (zp x.mem x.rule s)] W _ from hCx W hz);have hla : LA.length ≤ 300000 := by rw [hLA]; exact zjY hd hs20 E
 have HBn := zf (fun (y : BarD) (hy : y ∈ x.bars) (A' : Option Addr) (c' : Nat) (W : World) (B' : Nat) (hA : Ints W B' A' y.dims) (hB' : B' ≤ W.heap.size) => zmw y A' c' W hA hB' (hfit.tame y hy).1 (hfit.tame y hy).2 (hbars y hy) (zgC hok hy));have HBl := zf (fun (W : World) (hz : Below w.heap.size w W) => zpB s.a3 x.bars s.n3 s.c3 s.a4 x.runs s.n4 s.c4 W (h.h3.carry (hz.mono hB) (ze _)) (h.h4.carry (Flat.carried _) (hz.mono hB) (ze _)) (zh hB hz.size) hfit.l3 hfit.l4 hfit.m3 hfit.m4 hfit.tame hok (fun r hr => zr9 (hruns r hr) hfit.tame));have HCv := zf (fun (W : World) (hz : Below w.heap.size w W) => show Calls Tryz.prog 20 #[zgY x.mem s.a1 s.n1 s.c1 s.a2 s.n2 s.c2, .slice s.a3 s.n3 s.c3, .slice s.a4 s.n4 s.c4] W fun e w' => ∃ A c, e = .returned (.tuple #[.slice A (zc5 (zag x)).length c, .int .i64 (zbC (zag x))]) ∧ FinRow W.heap.size w' A (zc5 (zag x)).length c (zc5 (zag x)) ∧ Below W.heap.size W w' from
  zn1 HSL HCL x.mem s.a1 s.a2 s.a3 s.a4 s.n1 s.n2 s.n3 s.n4 s.c1 s.c2 s.c3 s.c4 x.bars x.runs W (h.h1.carry (Flat.carried _) (hz.mono hB) (ze _)) (h.h2.carry (Flat.carried _) (hz.mono hB) (ze _)) (h.h3.carry (hz.mono hB) (ze _)) (h.h4.carry (Flat.carried _) (hz.mono hB) (ze _)) (zh hB hz.size) hfit.l1 hfit.l2 hfit.l3 hfit.l4 hfit.m3 hfit.m4 hfit.name hfit.tame hmem hok)
 have HLp := zf (fun (W : World) (hz : Below w.heap.size w W) => show Calls Tryz.prog 21 #[.agg (zp x.mem x.rule s)] W _ from znF x s W (h.carry (hz.mono hB) (ze _)) (zh hB hz.size) hfit hd);have HSc := zf (fun (W : World) (hz : Below w.heap.size w W) => show Calls Tryz.prog 22 #[.agg (zp x.mem x.rule s)] W _ from ziC HSL HCL x s W (h.carry (hz.mono hB) (ze _)) (zh hB hz.size) hfit hd);have H3 := zf (fun (W : World) (hz : Below w.heap.size w W) => h.h3.carry (hz.mono hB) (ze B));have Hn3 := zf hfit.l3;have HB9 := zf hB;have hfb9 := zf (fun (y : BarD) (hy : y ∈ x.bars) => zh3 (hbars y hy));have hbl := zf (zlh x.bars hbars);have HCX := zf (fun (k : Nat) (v : Value) (h9 : ([.string x.mem.name, .slice s.a1 s.n1 s.c1, .slice s.a2 s.n2 s.c2, .int .i64 x.mem.cover, .int .i64 x.mem.aggregate, .int .i64 x.mem.poker, .slice s.a3 s.n3 s.c3, .slice s.a4 s.n4 s.c4] : List Value)[k]? = some v) => show C[k]? = some v by
  rw [HCe.out];rcases k with _ | _ | _ | _ | _ | _ | _ | _ | k
  all_goals first | exact h9 | (simp at h9))
 rw [← HCe.out] at HPs HCx HLp HSc;have hKn := zf (fun (q : E = 0) => show (zbC (zag x) = 0 ∧ zbp x = 0) ∧ (∀ f ∈ LA, 1 ≤ f.kind ∧ f.kind ≤ 8) ∧ (∀ (k : Nat) (a b : FinD), LA[k]? = some a → LA[k + 1]? = some b → grpOf a.kind ≤ grpOf b.kind) ∧ zay 1 2 LA = (x.bars.flatMap zbh).length ∧ zay 3 4 LA = (zbt x.bars x.runs).length ∧ zay 5 5 LA = (zc5 (zag x)).length ∧
   zay 6 7 LA = (zbm x).length ∧ zay 8 8 LA = (zaW x).length ∧ zay 1 8 LA = LA.length by
  have hce : zbC (zag x) = 0 ∧ zbp x = 0 := by
   rw [q] at hE;unfold zb9 at hE
   split at hE
   ·exact ⟨‹_›, hE.symm⟩
   ·exact absurd hE.symm ‹_›
  have hcr : zc5 (zag x) = zag x := by
   have h9 := hce.1;unfold zbC at h9;unfold zc5;by_cases h8 : 1000 < (zag x).length
   ·rw [if_pos h8] at h9;cases h9
   ·rw [if_neg h8]
  have hl9 : LA = zbn x (zbm x) (zaW x) := by rw [hLA, zck, if_pos q]
  have ho := det_order (x := x) (lp := zbm x) (sc := zaW x) (fun f hf => zjw f hf) zfl;have hk := zle (x := x) (lp := zbm x) (sc := zaW x) (fun f hf => zjw f hf) zfl;rw [← hl9] at ho hk;rw [hcr];exact ⟨hce, ho.1, ho.2, hk⟩)
 have hE0 := zf (fun (q : E ≠ 0) => show LA.length = 0 by rw [hLA, zck, if_neg q]; rfl);clear hE hLA hCx h hB hok hmem hbars hruns hs20 hfit hf hd Hh HhB Hhl HCe Hq;obtain ⟨n, hn⟩ : ∃ n, n = LA.length := ⟨_, rfl⟩;have Hn := zf hn;rw [← hn] at HPs HCx hla hE0 hKn;clear hn;by_cases q0 : E = 0
 ·subst q0;obtain ⟨⟨c0, c1⟩, hrg, hor, k12, k34, k55, k67, k88, k18⟩ := hKn.out rfl;rw [c0] at HCv;rw [c1] at HSc;have Hrg := zf hrg;have Hor := zf hor;obtain ⟨FT, hFT⟩ : ∃ FT : Nat → Nat, FT = fun k => ((x.bars.take k).flatMap zbh).length := ⟨_, rfl⟩;have hft0 : FT 0 = 0 := by rw [hFT]; rfl
  have Hfts := zf (fun (k : Nat) (y : BarD) (hy : x.bars[k]? = some y) => show FT (k + 1) = FT k + (zbh y).length by rw [hFT]; simp only [zQ hy, zae, List.flatMap_singleton, zC]);have hftn : FT s.n3 = (x.bars.flatMap zbh).length := by rw [hFT, Hn3.out]; simp only [zF]
  have Hftl := zf (fun (k : Nat) (hk : k ≤ s.n3) => show FT k ≤ 480 by
   have h1 : (x.bars.flatMap zbh).length ≤ 480 := by have := hbl.out; rw [← Hn3.out] at this; omega
   have h2 : x.bars.flatMap zbh = (x.bars.take k).flatMap zbh ++ (x.bars.drop k).flatMap zbh := by rw [← zae, List.take_append_drop]
   rw [h2, zC] at h1;rw [hFT]
   show ((x.bars.take k).flatMap zbh).length ≤ 480
   omega)
  rw [← hftn] at k12;clear c0 c1 hrg hor hFT hbl hE0 hftn hKn;generalize hnb : (zbt x.bars x.runs).length = nb at *;generalize hnc : (zc5 (zag x)).length = nc at *;generalize hnl : (zbm x).length = nl at *;generalize hns : (zaW x).length = ns at *;clear hnb hnc hnl hns;obtain ⟨a1, n1, c1, a2, n2, c2, a3, n3, c3, a4, n4, c4, a5, n5, c5, a6, n6, c6⟩ := s;simp only at H3 HBl HCv HCX Hn3 hn3 Hftl k12;obtain ⟨pb, hpb⟩ : ∃ pb : Bool, pb = (((0 : Int) == 0) && (n == 0)) := ⟨_, rfl⟩;rw [← hpb] at HPs;have Hpb := zf (show pb = (n == 0) by rw [hpb]; rfl);clear hpb;have HC9 := zf (HCx.out _ HW.out);clear HCx;go_wp2_with (refine zL (by rfl) 34 (.tmp 1) rfl w.heap.size rfl 34 _ (0, 0) _ K0.out Tryz.underlying34 rfl HiC.out ?_);refine HC9.out.mono ?_;rintro e w3 ⟨A, c, rfl, hfa, hb⟩;replace K0 := zf (K0.out.keep hb);replace HW := zf (zg HW.out hb (ze _));have HFa := zf (FinRow.read hfa);clear hb hfa HC9;have HP9 := zf (HPs.out _ HW.out);clear HPs;go_wp2_with (refine zL (by rfl) 34 (.tmp 1) rfl w.heap.size rfl 34 _ (0, 0) _ K0.out Tryz.underlying34 rfl HiC.out ?_);refine HP9.out.mono ?_;rintro e w4 ⟨rfl, hb⟩;replace K0 := zf (K0.out.keep hb);replace HW := zf (zg HW.out hb (ze _));have hz34 := hb.size;replace HFa := zf (SlOf.carry (Flat.carried _) HFa.out hb (ze _));clear hb HP9;have HKA := zf (fun (W : World) (hz : Below w4.heap.size w4 W) (p q : Int) => zk9 p q A LA n c W (SlOf.carry (Flat.carried _) HFa.out (hz.mono hz34) (ze _)) (zh hz34 hz.size) Hn.out hla);have x6 := (K0.out.cell 6).trans (HCX.out 6 _ rfl);have lk0 := K0.out.lt;go_wp2;go_loopw [7, 54] (fun v iv wr => ∃ k : Nat, k ≤ n3 ∧ iv = .int .i64 k ∧ v = .int .i64 (FT k : Nat) ∧ Hid (Below w4.heap.size w4 wr)) (fun _ iv _ => n3 - (intOf iv).toNat)
  case atStart => exact ⟨0, zu _, rfl, by rw [hft0]; rfl, zf (Below.refl _ _)⟩
  case round =>
   obtain ⟨k, hk, rfl, rfl, HBr⟩ := hrel;rename World => wr;replace K0 := zf (K0.out.keep HBr.out);have HWr := zf (zg HW.out HBr.out (ze _));have hfl := Hftl.out k hk;clear x6 lk0;by_cases hlt : k < n3
   ·obtain ⟨b, off, y, A', c', rfl, hbl, hx, hi, h0, h1, h2, h3, h4⟩ := BarsAt.get (k := k) (H3.out _ HWr.out) (by rw [← Hn3.out]; exact hlt);have hsw := HWr.out.size;have hbi : Below B wr (wr.alloc (.cells #[.string y.mark, .int .i64 y.size, .int .i64 y.count, .int .i64 y.code, .slice A' y.dims.length c'] 50)) := (Below.refl _ _).alloc (zh HB9.out hsw) _;have HBq := zf (HBn.out y (zv hx) A' c' _ B (hi.carry hbi (ze _)) (zh HB9.out (zh hsw (by simp))));have Hnx := zf (Hfts.out k y hx);have hfb := hfb9.out y (zv hx);generalize zbh y = FB at *;replace HBr := zf (HBr.out.alloc HBr.out.size (.cells #[.string y.mark, .int .i64 y.size, .int .i64 y.count, .int .i64 y.code, .slice A' y.dims.length c'] 50));obtain ⟨mark, size, count, code, dims⟩ := y;simp only at h0 h1 h2 h3 h4 HBq HBr;generalize dims.length = dn at *;generalize FB.length = fl at *;have e1 : IntKind.i64.wrap ((FT k : Int) + (fl : Int)) = ((FT (k + 1) : Nat) : Int) := by rw [zr _ (by omega), Hnx.out]; omega
    clear hx hi hbi;go_wp2_with fail;refine HBq.out.mono ?_;rintro e w5 ⟨A3, c3', rfl, _, hb⟩;replace HBr := zf (zg HBr.out hb (ze _));clear h0 h1 h2 h3 h4 HBq hb hbl hsw;go_wp2;go_roundw
    case rel => exact ⟨k + 1, by omega, by go_num, rfl, HBr⟩
    case measure => simp [intOf]; omega
   ·obtain rfl : k = n3 := by omega
    clear Hfts Hftl HBn hfb9 H3 hlt hft0;generalize FT k = v0 at *;have HZ := HBr;clear HBr;have x6 := (K0.out.cell 6).trans (HCX.out 6 _ rfl);have x7 := (K0.out.cell 7).trans (HCX.out 7 _ rfl);have lk0 := K0.out.lt;go_wp2_with fail;refine (HBl.out _ HWr.out).mono ?_;rintro e w5 ⟨A5, c5', rfl, _, hb⟩;replace K0 := zf (K0.out.keep hb);replace HWr := zf (zg HWr.out hb (ze _));replace HZ := zf (zg HZ.out hb (ze _));clear x6 x7 lk0 HBl hb;have x0 := (K0.out.cell 0).trans (HCX.out 0 _ rfl);have x1 := (K0.out.cell 1).trans (HCX.out 1 _ rfl);have x2 := (K0.out.cell 2).trans (HCX.out 2 _ rfl);have x3 := (K0.out.cell 3).trans (HCX.out 3 _ rfl);have x4 := (K0.out.cell 4).trans (HCX.out 4 _ rfl);have x5 := (K0.out.cell 5).trans (HCX.out 5 _ rfl);have x6 := (K0.out.cell 6).trans (HCX.out 6 _ rfl);have x7 := (K0.out.cell 7).trans (HCX.out 7 _ rfl);have lk0 := K0.out.lt;go_wp2_with fail;refine (HCv.out _ HWr.out).mono ?_;rintro e w6 ⟨A6, c6', rfl, _, hb⟩;replace K0 := zf (K0.out.keep hb);replace HWr := zf (zg HWr.out hb (ze _));replace HZ := zf (zg HZ.out hb (ze _));clear x0 x1 x2 x3 x4 x5 x6 x7 lk0 HCv hb;have HL9 := zf (HLp.out _ HWr.out);clear HLp;go_wp2_with (refine zL (by rfl) 34 (.tmp 1) rfl w.heap.size rfl 34 _ (0, 0) _ K0.out Tryz.underlying34 rfl HiC.out ?_);refine HL9.out.mono ?_;rintro e w7 ⟨A7, c7', rfl, _, hb⟩;replace K0 := zf (K0.out.keep hb);replace HWr := zf (zg HWr.out hb (ze _));replace HZ := zf (zg HZ.out hb (ze _));clear HL9 hb;have HL9 := zf (HSc.out _ HWr.out);clear HSc;go_wp2_with (refine zL (by rfl) 34 (.tmp 1) rfl w.heap.size rfl 34 _ (0, 0) _ K0.out Tryz.underlying34 rfl HiC.out ?_);refine HL9.out.mono ?_;rintro e w8 ⟨A8, c8', rfl, _, hb⟩;replace HWr := zf (zg HWr.out hb (ze _));replace HZ := zf (zg HZ.out hb (ze _));clear HL9 hb K0 HCX;have n0 : ((v0 : Int) != (v0 : Int)) = false := by simp
    have n1 : ((nb : Int) != (nb : Int)) = false := by simp
    have n2 : ((nc : Int) != (nc : Int)) = false := by simp
    have n4 : ((nl : Int) != (nl : Int)) = false := by simp
    have n5 : ((ns : Int) != (ns : Int)) = false := by simp
    have n6 : ((n : Int) != (n : Int)) = false := by simp
    go_wp2_with fail;refine (HKA.out _ HZ.out 1 2).mono ?_;rintro e wa ⟨rfl, hb⟩;replace HZ := zf (zg HZ.out hb (ze _));clear hb;rw [k12];go_wp2_with fail;refine (HKA.out _ HZ.out 3 4).mono ?_;rintro e wb ⟨rfl, hb⟩;replace HZ := zf (zg HZ.out hb (ze _));clear hb;rw [k34];go_wp2_with fail;refine (HKA.out _ HZ.out 5 5).mono ?_;rintro e wc ⟨rfl, hb⟩;replace HZ := zf (zg HZ.out hb (ze _));clear hb;rw [k55];go_wp2_with fail;refine (HKA.out _ HZ.out 6 7).mono ?_;rintro e wd ⟨rfl, hb⟩;replace HZ := zf (zg HZ.out hb (ze _));clear hb;rw [k67];go_wp2_with fail;refine (HKA.out _ HZ.out 8 8).mono ?_;rintro e we ⟨rfl, hb⟩;replace HZ := zf (zg HZ.out hb (ze _));clear hb;rw [k88];go_wp2_with fail;refine (HKA.out _ HZ.out 1 8).mono ?_;rintro e wf ⟨rfl, hb⟩;replace HZ := zf (zg HZ.out hb (ze _));clear hb;rw [k18];clear n0 n1 n2 n4 n5 n6 k12 k34 k55 k67 k88 k18 HKA;replace HFa := zf (SlOf.carry (Flat.carried _) HFa.out (HZ.out.mono hz34) (ze _));go_wp2;go_loopw [21] (fun iv wr => ∃ k : Nat, 1 ≤ k ∧ iv = .int .i64 k ∧ Hid (Below wf.heap.size wf wr)) (fun iv _ => n + 1 - (intOf iv).toNat)
    case atStart => exact ⟨1, ze _, rfl, zf (Below.refl _ _)⟩
    case round =>
     obtain ⟨k, hk1, rfl, HBr⟩ := hrel;rename World => wg;have HWg := zf (zg HW.out (HZ.out.trans (HBr.out.mono HZ.out.size)) (ze _));by_cases hlt : k < n
     ·obtain ⟨j, hj⟩ : ∃ j, k = j + 1 := ⟨k - 1, by omega⟩;have HFg := SlOf.carry (Flat.carried _) HFa.out (HBr.out.mono (zh hz34 HZ.out.size)) (ze _);obtain ⟨b, off, ya, rfl, hbl, hxa, ca, _⟩ := FinsAt.get (k := k) HFg (by rw [← Hn.out]; exact hlt);obtain ⟨b2, off2, yb, hA2, _, hxb, cb, _⟩ := FinsAt.get (k := j) HFg (by rw [← Hn.out]; omega);obtain ⟨rfl, rfl⟩ : b = b2 ∧ off = off2 := by simpa using hA2
      have ra := Hrg.out ya (zv hxa);have rb := Hrg.out yb (zv hxb);have hgr := Hor.out j yb ya hxb (by rw [← hj]; exact hxa);have hgl : b < wg.heap.size := zt hbl (zh (zh hz34 HZ.out.size) HBr.out.size);have e1 : IntKind.i64.wrap ((k : Int) - 1) = (j : Int) := by rw [zr _ (by omega)]; omega
      have hlj : j < n := by omega
      have z1 : decide (grpOf ya.kind < grpOf yb.kind) = false := zE (by omega);have E1 := zf e1;have Z1 := zf z1;have Pk := zf (show IntKind.i64.wrap (k : Int) = (k : Int) ∧ (0 : Int) ≤ (k : Int) ∧ (k : Int) < (n : Int) from ⟨zr _ (by omega), by omega, by omega⟩);have Pj := zf (show IntKind.i64.wrap (j : Int) = (j : Int) ∧ (0 : Int) ≤ (j : Int) ∧ (j : Int) < (n : Int) from ⟨zr _ (by omega), by omega, by omega⟩);clear hxa hxb hA2 HFg hgr z1 e1 hj hlj;generalize ya.kind = ka at *;generalize yb.kind = kb at *;go_wp2_with fail;have HS := zf (And.intro (show wg.drew.cell? ⟨b, off + k * 2, none⟩ = some (.int .i64 ka) from ca) (And.intro (show wg.drew.cell? ⟨b, off + j * 2, none⟩ = some (.int .i64 kb) from cb) (Below.drew (Below.refl wg.heap.size wg))));refine zby (S := fun V => V.cell? ⟨b, off + k * 2, none⟩ = some (.int .i64 ka) ∧ V.cell? ⟨b, off + j * 2, none⟩ = some (.int .i64 kb) ∧ Below wg.heap.size wg V) (n := 16) (by kernel_rfl) ?_;generalize wg.drew = wd at *;clear ca cb;refine HeldTo.take (i := 0) (v := ?_) rfl (by kernel_rfl) (by kernel_rfl) (by kernel_rfl) (by kernel_rfl) (fun _ _ _ h => h) (Or.inl ⟨by rfl, ?_⟩) HS.out ?_;rotate_left
      ·intro V hSw
       (try dsimp only at hSw)
       go_simp
       first | done | with_reducible rfl
      (try simp only [zzA, zzC, Act.put, zzD, zzE, zzF])
      refine HeldTo.take (i := 1) (v := ?_) rfl (by kernel_rfl) (by kernel_rfl) (by kernel_rfl) (by kernel_rfl) (fun _ _ _ h => h) (Or.inl ⟨by rfl, ?_⟩) HS.out ?_;rotate_left
      ·intro V hSw
       (try dsimp only at hSw)
       skip
       go_simp
       first | done | with_reducible rfl
      (try simp only [zzA, zzB, zzC, Act.put, zzD, zzE, zzF])
      refine HeldTo.take (i := 2) (v := ?_) rfl (by kernel_rfl) (by kernel_rfl) (by kernel_rfl) (by kernel_rfl) (fun _ _ _ h => h) (Or.inl ⟨by rfl, ?_⟩) HS.out ?_;rotate_left
      ·intro V hSw
       (try dsimp only at hSw)
       skip
       go_simp
       first | done | with_reducible rfl
      (try simp only [zzA, zzB, zzC, Act.put, zzD, zzE, zzF])
      refine HeldTo.take (i := 3) (v := ?_) rfl (by kernel_rfl) (by kernel_rfl) (by kernel_rfl) (by kernel_rfl) (fun _ _ _ h => h) (Or.inl ⟨by rfl, ?_⟩) HS.out ?_;rotate_left
      ·intro V hSw
       (try dsimp only at hSw)
       obtain ⟨p1, p2, p3⟩ := Pk.out;go_simp
       first | done | with_reducible rfl
      (try simp only [zzA, zzB, zzC, Act.put, zzD, zzE, zzF])
      refine HeldTo.take (i := 4) (v := ?_) rfl (by kernel_rfl) (by kernel_rfl) (by kernel_rfl) (by kernel_rfl) (fun _ _ _ h => h) (Or.inl ⟨by rfl, ?_⟩) HS.out ?_;rotate_left
      ·intro V hSw
       (try dsimp only at hSw)
       skip
       go_simp
       first | done | with_reducible rfl
      (try simp only [zzA, zzB, zzC, Act.put, zzD, zzE, zzF])
      refine HeldTo.take (i := 5) (v := ?_) rfl (by kernel_rfl) (by kernel_rfl) (by kernel_rfl) (by kernel_rfl) (fun _ _ _ h => h) (Or.inl ⟨by rfl, ?_⟩) HS.out ?_;rotate_left
      ·intro V hSw
       (try dsimp only at hSw)
       have ca := hSw.1;go_simp
       first | done | with_reducible rfl
      (try simp only [zzA, zzB, zzC, Act.put, zzD, zzE, zzF])
      refine HeldTo.take (i := 7) (v := ?_) rfl (by kernel_rfl) (by kernel_rfl) (by kernel_rfl) (by kernel_rfl) (fun _ _ _ h => h) (Or.inl ⟨by rfl, ?_⟩) HS.out ?_;rotate_left
      ·intro V hSw
       (try dsimp only at hSw)
       skip
       go_simp
       first | done | with_reducible rfl
      (try simp only [zzA, zzB, zzC, Act.put, zzD, zzE, zzF])
      refine HeldTo.take (i := 8) (v := ?_) rfl (by kernel_rfl) (by kernel_rfl) (by kernel_rfl) (by kernel_rfl) (fun _ _ _ h => h) (Or.inl ⟨by rfl, ?_⟩) HS.out ?_;rotate_left
      ·intro V hSw
       (try dsimp only at hSw)
       skip
       go_simp
       first | done | with_reducible rfl
      (try simp only [zzA, zzB, zzC, Act.put, zzD, zzE, zzF])
      refine HeldTo.take (i := 9) (v := ?_) rfl (by kernel_rfl) (by kernel_rfl) (by kernel_rfl) (by kernel_rfl) (fun _ _ _ h => h) (Or.inl ⟨by rfl, ?_⟩) HS.out ?_;rotate_left
      ·intro V hSw
       (try dsimp only at hSw)
       skip
       go_simp
       first | done | with_reducible rfl
      (try simp only [zzA, zzB, zzC, Act.put, zzD, zzE, zzF])
      refine HeldTo.take (i := 10) (v := ?_) rfl (by kernel_rfl) (by kernel_rfl) (by kernel_rfl) (by kernel_rfl) (fun _ _ _ h => h) (Or.inl ⟨by rfl, ?_⟩) HS.out ?_;rotate_left
      ·intro V hSw
       (try dsimp only at hSw)
       have e1 := E1.out;go_simp
       first | done | with_reducible rfl
      (try simp only [zzA, zzB, zzC, Act.put, zzD, zzE, zzF])
      refine HeldTo.take (i := 11) (v := ?_) rfl (by kernel_rfl) (by kernel_rfl) (by kernel_rfl) (by kernel_rfl) (fun _ _ _ h => h) (Or.inl ⟨by rfl, ?_⟩) HS.out ?_;rotate_left
      ·intro V hSw
       (try dsimp only at hSw)
       obtain ⟨p1, p2, p3⟩ := Pj.out;go_simp
       first | done | with_reducible rfl
      (try simp only [zzA, zzB, zzC, Act.put, zzD, zzE, zzF])
      refine HeldTo.take (i := 12) (v := ?_) rfl (by kernel_rfl) (by kernel_rfl) (by kernel_rfl) (by kernel_rfl) (fun _ _ _ h => h) (Or.inl ⟨by rfl, ?_⟩) HS.out ?_;rotate_left
      ·intro V hSw
       (try dsimp only at hSw)
       skip
       go_simp
       first | done | with_reducible rfl
      (try simp only [zzA, zzB, zzC, Act.put, zzD, zzE, zzF])
      refine HeldTo.take (i := 13) (v := ?_) rfl (by kernel_rfl) (by kernel_rfl) (by kernel_rfl) (by kernel_rfl) (fun _ _ _ h => h) (Or.inl ⟨by rfl, ?_⟩) HS.out ?_;rotate_left
      ·intro V hSw
       (try dsimp only at hSw)
       have cb := hSw.2.1;go_simp
       first | done | with_reducible rfl
      (try simp only [zzA, zzB, zzC, Act.put, zzD, zzE, zzF])
      refine HeldTo.one (i := 6) (by kernel_rfl) rfl (fun K hK => ?_);go_simp;refine (grp_ok ka _ (by omega) (by omega)).mono ?_;rintro e wh ⟨rfl, hb7⟩;go_wp2_with fail;have hg9 := zt hgl HS.out.2.2.size;replace HS := zf (And.intro ((hb7.cell (p := ⟨b, off + k * 2, none⟩) hg9).trans HS.out.1) (And.intro ((hb7.cell (p := ⟨b, off + j * 2, none⟩) hg9).trans HS.out.2.1) (zg HS.out.2.2 hb7 (ze _))));refine hK.out _ _ (fun _ => HS.out) (fun h8 => ?_);clear h8 hK K hb7 hg9
      (try simp only [zzA, zzB, zzC, Act.put, zzD, zzE, zzF])
      refine HeldTo.one (i := 14) (by kernel_rfl) rfl (fun K hK => ?_);go_simp;refine (grp_ok kb _ (by omega) (by omega)).mono ?_;rintro e wi ⟨rfl, hb7⟩;go_wp2_with fail;have hg9 := zt hgl HS.out.2.2.size;replace HS := zf (And.intro ((hb7.cell (p := ⟨b, off + k * 2, none⟩) hg9).trans HS.out.1) (And.intro ((hb7.cell (p := ⟨b, off + j * 2, none⟩) hg9).trans HS.out.2.1) (zg HS.out.2.2 hb7 (ze _))));refine hK.out _ _ (fun _ => HS.out) (fun h8 => ?_);clear h8 hK K hb7 hg9
      (try simp only [zzA, zzB, zzC, Act.put, zzD, zzE, zzF])
      have z1 := Z1.out;refine HeldTo.one (i := 15) (by kernel_rfl) rfl (fun K hK => ?_);go_simp;refine hK.out _ _ (fun _ => HS.out) (fun h8 => HeldTo.done (by kernel_rfl) ?_ _);go_wp2;go_roundw
      case rel => exact ⟨k + 1, by omega, by go_num, zf (HBr.out.trans (HS.out.2.2.mono HBr.out.size))⟩
      case measure => simp [intOf]; omega
     ·have e2 : decide ((k : Int) < (n : Int)) = false := zE (by omega);have e3 : decide (k < n) = false := zE (by omega);have hpb := Hpb.out;by_cases hn0 : n = 0
      ·have e0 : ((n : Int) == 0) = true := by simpa using hn0
       obtain rfl : pb = true := by rw [hpb]; simpa using hn0
       clear hpb hn0;go_wp2;go_ret;exact ⟨rfl, HWg.out⟩
      ·have e0 : ((n : Int) == 0) = false := by simpa using hn0
       obtain rfl : pb = false := by rw [hpb]; simpa using hn0
       clear hpb hn0;go_wp2;go_ret;exact ⟨rfl, HWg.out⟩
 ·have dE : (E == 0) = false := by simpa using q0
  have dE2 : (E == E) = true := by simp
  have e9 : (E == 0 && n == 0) = false := by rw [dE]; rfl
  obtain rfl : n = 0 := hE0.out q0;rw [e9] at HPs;clear e9 hKn hE0;have HC9 := zf (HCx.out _ HW.out);clear HCx;go_wp2_with (refine zL (by rfl) 34 (.tmp 1) rfl w.heap.size rfl 34 _ (0, 0) _ K0.out Tryz.underlying34 rfl HiC.out ?_);refine HC9.out.mono ?_;rintro e w3 ⟨A, c, rfl, _, hb⟩;replace K0 := zf (K0.out.keep hb);replace HW := zf (zg HW.out hb (ze _));clear hb HC9;have HP9 := zf (HPs.out _ HW.out);clear HPs;go_wp2_with (refine zL (by rfl) 34 (.tmp 1) rfl w.heap.size rfl 34 _ (0, 0) _ K0.out Tryz.underlying34 rfl HiC.out ?_);refine HP9.out.mono ?_;rintro e w4 ⟨rfl, hb⟩;replace K0 := zf (K0.out.keep hb);replace HW := zf (zg HW.out hb (ze _));clear hb HP9;go_wp2;go_ret;exact ⟨rfl, HW.out⟩
end Go.Proofs.YtpaanfjjnjjoeaaGreat
