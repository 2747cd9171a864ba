/- The findings of a detail: detail.Check, over what the layers say. -/
import Derived.Test.YtpaanfjjnjjoeaaGreatSav
import Derived.Test.YtpaanfjjnjjoeaaGreatSam
import Derived.Laws.IdiomCopy
import Derived.Shelf.RegionOpenPlain
import Derived.Deep.DeepBigQuietO
set_option maxHeartbeats 8000000
set_option maxRecDepth 100000
namespace Go.Proofs.YtpaanfjjnjjoeaaGreat
open Go.RowKit
theorem zdQ {lb : Nat} {w0 w' : World} {A : Option Addr} {n c : Nat} {l : List FinD} (h : FinRow lb w' A n c l) {α : Type} {base size : Nat} {e : TypeId} {enc : α → List Value} {v : Value} {acc : List α} (hr : Row w0 base e size enc v acc) (hw : w0.heap.size ≤ lb) :
  ∀ k, A = some ⟨k, 0, none⟩ → zeE v k := by
 intro k hk;rcases h.2 with ⟨hv, _⟩ | ⟨g, cap, cur, hv, hb, _⟩
 ·injection hv with h1 _ _
  rw [h1] at hk;cases hk
 ·injection hv with h1 _ _
  rw [h1] at hk;injection hk with hk
  injection hk with hk _
  subst hk;exact zcS hr (zh hw hb)
theorem zeY (acc l : List FinD) (more : Int) : zdy acc l more l.length = acc ++ l.map (zcp more) := by rw [zdy, zF]
theorem zoS (l : List FinD) : l.map (zcp 0) = l := by
 conv => rhs; rw [← List.map_id l]
 apply List.map_congr_left;intro f _;obtain ⟨k, n⟩ := f;simp [zcp]
theorem zpU (g : Nat) (v : Value) (A : Option Addr) (n c : Nat) (er0 er more : Int) (w : World) (hg : Blk w g 94 #[v, .int .i64 er0]) (h0 : (er0 == 0) = false) :
  Calls Tryz.prog 39 #[.pointer (some ⟨g, 0, none⟩), .slice A n c, .int .i64 er, .int .i64 more] w fun e w' => e = .returned (.tuple #[]) ∧ w = w' := by
 have c1 := hg.cell 1;simp at c1;have lg := hg.lt;clear hg;go_enter Tryz.func39, Tryz.ntmps39;go_wp2_with fail;refine bodyPost_ret (v := .tuple #[]) (by kernel_rfl) rfl ?_;exact ⟨rfl, rfl⟩
theorem zgf (x : DetD) (s : DetS) (w : World) {B : Nat} (h : DetAt w B x s) (hB : B ≤ w.heap.size) (hf : DetFit x s) :
  Calls Tryz.prog 26 #[zcZ x s] w fun e w' => e = .returned (.bool (zah x)) ∧ Below w.heap.size w w' := by
 have HV := zf (fun (W : World) (hz : Below w.heap.size w W) => zdO x s W (h.carry (hz.mono hB) (ze _)) (zh hB hz.size) hf);have K0 := zf (Blk.new w 34 (zp x.mem x.rule s));have HW := zf (zk w (.cells (zp x.mem x.rule s) 34));have Hi := zf (show (Tryz.prog.info? 34).map (·.size) = some 19 by kernel_rfl);generalize zah x = t at *;clear h hf hB
 show Calls Tryz.prog 26 #[.agg (zp x.mem x.rule s)] w _
 have HV2 := zf (fun (W : World) (hz : Below w.heap.size w W) => show Calls Tryz.prog 61 #[.agg (zp x.mem x.rule s)] W _ from HV.out W hz);have hsz : (zp x.mem x.rule s).size = 19 := rfl;have Hsz := zf hsz;clear HV hsz;generalize zp x.mem x.rule s = C at *;go_enter Tryz.func26, Tryz.ntmps26;go_wp2_with (refine wpList_load_row rfl 34 (.tmp 1) rfl w.heap.size rfl 34 _ (0, 0) _ K0.out Tryz.underlying34 rfl (by rw [Hsz.out]; exact Hi.out) ?_);refine (HV2.out _ HW.out).mono ?_;rintro e w2 ⟨rfl, hb⟩;replace HW := zf (zg HW.out hb (ze _));clear hb HV2 K0 Hi;go_wp2;go_ret;exact ⟨rfl, HW.out⟩
def zb9 (ce se : Int) : Int := if ce = 0 then se else ce
def zck (x : DetD) (SF : List FinD) (er : Int) : List FinD := if er = 0 then zbn x (zbm x) SF else []
theorem zh3 {x : BarD} (h : zcr x = true) : (zbh x).length ≤ 8 := by
 have h1 := (ziM (zdb h)).2;have h2 := zj2 x (zaq x) (zaq x).length (zaq x).length;have h3 : zbh x = if (zaq x).length = 1 then [] else zcl x (zaq x) (zaq x).length (zaq x).length := by rw [zj3]; rfl
 rw [h3]
 split
 ·simp
 ·omega
theorem zlh : ∀ l : List BarD, (∀ x ∈ l, zcr x = true) → (l.flatMap zbh).length ≤ 8 * l.length := by
 intro l
 induction l with
 | nil => intro _; simp
 | cons x l ih =>
  intro h;have h1 := zh3 (h x (by simp));have h2 := ih (fun y hy => h y (by simp [hy]));rw [zaf, zC, zac];omega
theorem ziZ (bars : List BarD) (runs : List RunD) : (zbt bars runs).length ≤ bars.length := by
 have h := zlk bars runs bars.length;rw [zll] at h;exact h
theorem ziO (x : DetD) : (zbm x).length ≤ 2 * x.laps.length := by
 have h := zk6 x x.laps.length (ze _);have e : zgi x x.laps.length = zbm x := by rw [zgi, zF]; rfl
 rwa [e] at h
theorem zmp {x : DetD} : ∀ f ∈ zag x, 0 ≤ f.kind ∧ f.kind ≤ 10 := fun f hf => by have := zmZ f hf; omega
theorem zr9 {bars : List BarD} {r : RunD} (h : zaC bars r = true) (ht : zer bars) : r.mark.size ≤ maxLen := by
 obtain ⟨j, x, _, hx, hrb, _⟩ := zca h;have hm := List.find?_some hrb;rw [zii hm];exact (ht x (zv hx)).1
theorem zio (acc l : List FinD) (more : Int) : (zdy acc l more l.length).length = acc.length + l.length := by rw [zeY, zC, zw]
theorem zgK (HSL : zbU) (HCL : zbV) (x : DetD) (s : DetS) (w : World) {B : Nat} (h : DetAt w B x s) (hB : B ≤ w.heap.size) (hf : DetFit x s) (hd : zah x = true) (SF : List FinD) (SE : Int)
  (hsec : ∀ W, Below w.heap.size w W → Calls Tryz.prog 22 #[zcZ x s] W fun e w' => ∃ A c, e = .returned (.tuple #[.slice A SF.length c, .int .i64 SE]) ∧ FinRow W.heap.size w' A SF.length c SF ∧ Below W.heap.size W w') (hSk : ∀ f ∈ SF, 0 ≤ f.kind ∧ f.kind ≤ 10) (hSl : SF.length ≤ 1000) :
  Calls Tryz.prog 12 #[zcZ x s] w fun e w' => ∃ A c, e = .returned (.tuple #[.slice A (zck x SF (zb9 (zbC (zag x)) SE)).length c, .int .i64 (zb9 (zbC (zag x)) SE)]) ∧ FinRow w.heap.size w' A (zck x SF (zb9 (zbC (zag x)) SE)).length c (zck x SF (zb9 (zbC (zag x)) SE)) ∧ Below w.heap.size w w' := by
 have hmem : zdj x.mem = true := by simp only [zah, zcI, zm] at hd; exact hd.1.1.1.1.1
 have hok := (zaG hd).2.1;have h1000 : x.laps.length ≤ 1000 := by simp only [zah, zcI, zm, zzJ] at hd; exact hd.1.2
 obtain ⟨hbars, _, hruns⟩ := zap hok;have h60 : x.bars.length ≤ 60 := by have := zeP hok; simp only [zbz, zm, zzJ] at this; exact this.1
 have HV := zf (fun (W : World) (hz : Below w.heap.size w W) => zgf x s W (h.carry (hz.mono hB) (ze _)) (zh hB hz.size) hf);rw [hd] at HV;have HBn := zf (fun (y : BarD) (hy : y ∈ x.bars) (A' : Option Addr) (c' : Nat) (W : World) (B' : Nat) (hA : Ints W B' A' y.dims) (hB' : B' ≤ W.heap.size) => zmw y A' c' W hA hB' (hf.tame y hy).1 (hf.tame y hy).2 (hbars y hy) (zgC hok hy));have HBl := zf (fun (W : World) (hz : Below w.heap.size w W) => zpB s.a3 x.bars s.n3 s.c3 s.a4 x.runs s.n4 s.c4 W (h.h3.carry (hz.mono hB) (ze _)) (h.h4.carry (Flat.carried _) (hz.mono hB) (ze _)) (zh hB hz.size) hf.l3 hf.l4 hf.m3 hf.m4 hf.tame hok (fun r hr => zr9 (hruns r hr) hf.tame));have HCv := zf (fun (W : World) (hz : Below w.heap.size w W) => zn1 HSL HCL x.mem s.a1 s.a2 s.a3 s.a4 s.n1 s.n2 s.n3 s.n4 s.c1 s.c2 s.c3 s.c4 x.bars x.runs W (h.h1.carry (Flat.carried _) (hz.mono hB) (ze _)) (h.h2.carry (Flat.carried _) (hz.mono hB) (ze _)) (h.h3.carry (hz.mono hB) (ze _)) (h.h4.carry (Flat.carried _) (hz.mono hB) (ze _)) (zh hB hz.size) hf.l1 hf.l2 hf.l3 hf.l4 hf.m3 hf.m4 hf.name hf.tame hmem hok);have HLp := zf (fun (W : World) (hz : Below w.heap.size w W) => znF x s W (h.carry (hz.mono hB) (ze _)) (zh hB hz.size) hf hd);have HSc := zf hsec;have H3 := zf (fun (W : World) (hz : Below w.heap.size w W) => h.h3.carry (hz.mono hB) (ze B));have Hn3 := zf hf.l3;have hn3 : s.n3 ≤ 60 := by rw [hf.l3]; exact h60
 have hcov2 : (zag x).length ≤ 2000 := zh (zgg _ _) (zat hok).2;have hBlk := zf (fun f (hf : f ∈ zbt x.bars x.runs) => show 0 ≤ f.kind ∧ f.kind ≤ 10 by have := zm1 f hf; omega);have hBnk := zf (fun (y : BarD) f (hf : f ∈ zbh y) => show 0 ≤ f.kind ∧ f.kind ≤ 10 by have := zli f hf; omega);have hLpk := zf (fun f (hf : f ∈ zbm x) => show 0 ≤ f.kind ∧ f.kind ≤ 10 by have := zjw f hf; omega);have hCvk := zf (fun f (hf : f ∈ zc5 (zag x)) => show 0 ≤ f.kind ∧ f.kind ≤ 10 by
  unfold zc5 at hf
  split at hf
  ·cases hf
  ·exact zmp f hf)
 have hbal := ziZ x.bars x.runs;have hlap := ziO x;have hcr : (zc5 (zag x)).length ≤ 1000 := by
  unfold zc5
  split
  ·simp
  ·omega
 have hce : (zbC (zag x) = 0 ∧ zc5 (zag x) = zag x) ∨ zbC (zag x) = 4 := by
  unfold zbC zc5
  split
  ·exact .inr rfl
  ·exact .inl ⟨rfl, rfl⟩
 obtain ⟨FT, hFT⟩ : ∃ FT : Nat → List FinD, FT = fun k => (x.bars.take k).flatMap zbh := ⟨_, rfl⟩;have Hft0 := zf (show FT 0 = [] by rw [hFT]; rfl);have Hfts := zf (fun (k : Nat) (y : BarD) (hy : x.bars[k]? = some y) => show FT (k + 1) = zdy (FT k) (zbh y) 0 (zbh y).length by rw [zeY, zoS, hFT]; simp only [zQ hy, zae, List.flatMap_singleton]);have Hftl := zf (fun (k : Nat) (hk : k ≤ s.n3) => show (FT k).length ≤ 480 by
  have h1 := zlh (x.bars.take k) (fun y hy => hbars y (List.mem_of_mem_take hy));rw [zG] at h1;rw [hFT]
  show ((x.bars.take k).flatMap zbh).length ≤ 480
  omega)
 have HDf := zf (show zbn x (zbm x) SF = FT s.n3 ++ (zbt x.bars x.runs).map (zcp 2) ++ (zag x).map (zcp 4) ++ (zbm x).map (zcp 5) ++ SF.map (zcp 7) by rw [hFT, hf.l3]; simp only [zF]; rfl);have Hch := zf (fun er => show zck x SF er = if er = 0 then zbn x (zbm x) SF else [] from rfl);have HBl2 := zf (fun (W : World) (hz : Below w.heap.size w W) => HBl.out W hz);have HCv2 := zf (fun (W : World) (hz : Below w.heap.size w W) => show Calls Tryz.prog 20 #[zgY x.mem s.a1 s.n1 s.c1 s.a2 s.n2 s.c2, .slice s.a3 s.n3 s.c3, .slice s.a4 s.n4 s.c4] W fun e w' => ∃ A c, e = .returned (.tuple #[.slice A (zc5 (zag x)).length c, .int .i64 (zbC (zag x))]) ∧ FinRow W.heap.size w' A (zc5 (zag x)).length c (zc5 (zag x)) ∧ Below W.heap.size W w' from HCv.out W hz);clear HBl HCv;generalize zbn x (zbm x) SF = DF at *;generalize zck x SF = CR at *;generalize zbC (zag x) = CE at *;generalize zc5 (zag x) = CVR at *;generalize zag x = CV at *;generalize zbm x = LP at *;generalize zbt x.bars x.runs = BL at *;have HCX := zf (fun (k : Nat) (v : Value) (h9 : ([.string x.mem.name, .slice s.a1 s.n1 s.c1, .slice s.a2 s.n2 s.c2, .int .i64 x.mem.cover, .int .i64 x.mem.aggregate, .int .i64 x.mem.poker, .slice s.a3 s.n3 s.c3, .slice s.a4 s.n4 s.c4, .slice s.a5 s.n5 s.c5, .slice s.a6 s.n6 s.c6, .int .i64 x.rule.num, .int .i64 x.rule.den, .int .i64 x.rule.poorNum, .int .i64 x.rule.poorDen, .int .i64 x.rule.bendNum, .int .i64 x.rule.bendDen, .int .i64 x.rule.lapNum, .int .i64 x.rule.lapDen, .int .i64 x.rule.least] : List Value)[k]? = some v) => show (zp x.mem x.rule s)[k]? = some v by simpa using h9);have K0 := zf (Blk.new w 34 (zp x.mem x.rule s));have HW := zf (zk w (.cells (zp x.mem x.rule s) 34));have Hi := zf (show (Tryz.prog.info? 34).map (·.size) = some 19 by kernel_rfl);have Hsz := zf (show (zp x.mem x.rule s).size = 19 from rfl)
 show Calls Tryz.prog 12 #[.agg (zp x.mem x.rule s)] w _
 replace HV := zf (fun (W : World) (hz : Below w.heap.size w W) => show Calls Tryz.prog 26 #[.agg (zp x.mem x.rule s)] W _ from HV.out W hz);replace HLp := zf (fun (W : World) (hz : Below w.heap.size w W) => show Calls Tryz.prog 21 #[.agg (zp x.mem x.rule s)] W _ from HLp.out W hz);replace HSc := zf (fun (W : World) (hz : Below w.heap.size w W) => show Calls Tryz.prog 22 #[.agg (zp x.mem x.rule s)] W _ from HSc.out W hz);have hB9 := zf hB;have hfb9 := zf (fun (y : BarD) (hy : y ∈ x.bars) => zh3 (hbars y hy));clear h hB hf hd hmem hok hbars hruns hFT hcov2 hsec;obtain ⟨a1, n1, c1, a2, n2, c2, a3, n3, c3, a4, n4, c4, a5, n5, c5, a6, n6, c6⟩ := s;simp only at H3 HBl2 HCv2 HCX Hn3 hn3 Hftl HDf;generalize zp x.mem x.rule ⟨a1, n1, c1, a2, n2, c2, a3, n3, c3, a4, n4, c4, a5, n5, c5, a6, n6, c6⟩ = C at *;have Hsk := zf hSk;clear hSk;go_enter Tryz.func12, Tryz.ntmps12;go_wp2_with (refine wpList_load_row rfl 34 (.tmp 1) rfl w.heap.size rfl 34 _ (0, 0) _ K0.out Tryz.underlying34 rfl (by rw [Hsz.out]; exact Hi.out) ?_);refine (HV.out _ HW.out).mono ?_;rintro e w1 ⟨rfl, hb⟩;have hwg := (K0.out.keep hb).lt;replace K0 := zf ((K0.out.keep hb).alloc (.cells #[.slice none 0 0, .int .i64 0] 94));have KG := zf (Blk.new w1 94 #[.slice none 0 0, .int .i64 0]);have HWr := zf ((zg HW.out hb (ze _)).alloc (zg HW.out hb (ze _)).size (.cells #[.slice none 0 0, .int .i64 0] 94));obtain ⟨w2, hw2⟩ : ∃ q, q = w1.alloc (.cells #[.slice none 0 0, .int .i64 0] 94) := ⟨_, rfl⟩;obtain ⟨g, hgq⟩ : ∃ q, q = w1.heap.size := ⟨_, rfl⟩;rw [← hw2] at K0 KG HWr;rw [← hgq] at KG hwg;clear hb HV HW;go_upto_region 4 with fail
 rw [← hw2, ← hgq];clear hw2 hgq;have x6 := (K0.out.cell 6).trans (HCX.out 6 _ rfl);have lk0 := K0.out.lt;go_wp2;go_loopw [19] (fun iv wr => ∃ k : Nat, k ≤ n3 ∧ iv = .int .i64 k ∧ (∃ (Av : Option Addr) (cv : Nat), Hid (Blk wr g 94 #[.slice Av (FT k).length cv, .int .i64 0]) ∧ Hid (Row wr (g + 1) 47 2 zbB (.slice Av (FT k).length cv) (FT k))) ∧ Hid (Below g w2 wr)) (fun iv _ => n3 - (intOf iv).toNat)
 case atStart => exact ⟨0, zu _, rfl, ⟨none, 0, by rw [Hft0.out]; exact KG, by rw [Hft0.out]; exact zf (Row.nil _ _ _ _ _)⟩, zf (Below.refl _ _)⟩
 case round =>
  clear KG;obtain ⟨k, hk, rfl, ⟨Av, cv, KG, KR⟩, HBr⟩ := hrel;replace K0 := zf (K0.out.below HBr.out hwg);replace HWr := zf (HWr.out.trans (HBr.out.mono (zX hwg)));have hgl := KG.out.lt;have hfl := Hftl.out k hk;clear x6 lk0;by_cases hlt : k < n3
  ·obtain ⟨b, off, y, A', c', rfl, hbl, hx, hi, h0, h1, h2, h3, h4⟩ := BarsAt.get (k := k) (H3.out _ HWr.out) (by rw [← Hn3.out]; exact hlt);have hsw := HWr.out.size;have hbi : Below B wr (wr.alloc (.cells #[.string y.mark, .int .i64 y.size, .int .i64 y.count, .int .i64 y.code, .slice A' y.dims.length c'] 50)) := (Below.refl _ _).alloc (zh hB9.out hsw) _;have HBq := zf (HBn.out y (zv hx) A' c' _ B (hi.carry hbi (ze _)) (zh hB9.out (zh hsw (by simp))));have Hnx := zf (Hfts.out k y hx);have Hkd := zf (hBnk.out y);have hfb := hfb9.out y (zv hx);generalize zbh y = FB at *;replace K0 := zf (K0.out.alloc (.cells #[.string y.mark, .int .i64 y.size, .int .i64 y.count, .int .i64 y.code, .slice A' y.dims.length c'] 50));replace KG := zf (KG.out.alloc (.cells #[.string y.mark, .int .i64 y.size, .int .i64 y.count, .int .i64 y.code, .slice A' y.dims.length c'] 50));replace KR := zf (KR.out.alloc (.cells #[.string y.mark, .int .i64 y.size, .int .i64 y.count, .int .i64 y.code, .slice A' y.dims.length c'] 50));replace HBr := zf (HBr.out.alloc (zX hgl) (.cells #[.string y.mark, .int .i64 y.size, .int .i64 y.count, .int .i64 y.code, .slice A' y.dims.length c'] 50));replace HWr := zf (HWr.out.alloc hsw (.cells #[.string y.mark, .int .i64 y.size, .int .i64 y.count, .int .i64 y.code, .slice A' y.dims.length c'] 50));obtain ⟨mark, size, count, code, dims⟩ := y;simp only at h0 h1 h2 h3 h4 HBq K0 KG KR HBr HWr;generalize dims.length = dn at *;have hgl2 := KG.out.lt;clear hx hi hbl hbi hsw hgl;have hgl := hgl2;clear hgl2;go_wp2_with fail;refine HBq.out.mono ?_;rintro e w3 ⟨A3, c3', rfl, hfin, hb⟩;replace KG := zf (KG.out.keep hb);replace K0 := zf (K0.out.keep hb);have hap := zdQ hfin KR.out (ze _);replace KR := zf (KR.out.keep hb);replace HBr := zf (HBr.out.trans (hb.mono (zX (show g < _ from hgl))));replace HWr := zf (zg HWr.out hb (ze _));have Hap := zf hap;have Hfin := zf hfin;have hlt0 := KG.out.lt;clear hb hap hfin hgl;clear h0 h1 h2 h3 h4 HBq;go_wp2_with fail;refine (zjr g Av cv (FT k) A3 _ c3' FB 0 0 (g + 1) _ g w3 KG.out KR.out Hfin.out rfl Hap.out (zK _) hlt0 (ze _) (by omega) Hkd.out (by omega) (by omega)).mono ?_;rintro e w9 ⟨Av, cv, rfl, hg4, hr4, hb4⟩;have hbq := hb4.size;replace K0 := zf (K0.out.below hb4 hwg);replace HBr := zf (HBr.out.trans hb4);replace HWr := zf (HWr.out.trans (hb4.mono (zX hwg)));replace KG := zf hg4;replace KR := zf hr4;have hgl := KG.out.lt;clear hg4 hr4 hb4 Hap Hfin hlt0 hbq;rw [← Hnx.out] at KG KR;go_wp2;go_roundw
   case rel => exact ⟨k + 1, by omega, by go_num, ⟨Av, cv, KG, KR⟩, HBr⟩
   case measure => simp [intOf]; omega
  ·obtain rfl : k = n3 := by omega
   have x6 := (K0.out.cell 6).trans (HCX.out 6 _ rfl);have x7 := (K0.out.cell 7).trans (HCX.out 7 _ rfl);have lk0 := K0.out.lt;obtain ⟨F1, hF1⟩ : ∃ q, q = FT k := ⟨_, rfl⟩;rw [← hF1] at KG KR hfl HDf;clear hF1 Hfts Hftl Hft0 HBn hfb9 hBnk H3;go_wp2_with fail;refine (HBl2.out _ HWr.out).mono ?_;rintro e w3 ⟨A3, c3', rfl, hfin, hb⟩;replace KG := zf (KG.out.keep hb);replace K0 := zf (K0.out.keep hb);have hap := zdQ hfin KR.out (ze _);replace KR := zf (KR.out.keep hb);replace HBr := zf (HBr.out.trans (hb.mono (zX (show g < _ from hgl))));replace HWr := zf (zg HWr.out hb (ze _));have Hap := zf hap;have Hfin := zf hfin;have hlt0 := KG.out.lt;clear hb hap hfin hgl;clear x6 x7 lk0 HBl2;go_wp2_with fail;refine (zjr g Av cv F1 A3 _ c3' BL 0 2 (g + 1) _ g w3 KG.out KR.out Hfin.out rfl Hap.out (zK _) hlt0 (ze _) (by omega) hBlk.out (by omega) (by omega)).mono ?_;rintro e w9 ⟨Av, cv, rfl, hg4, hr4, hb4⟩;have hbq := hb4.size;replace K0 := zf (K0.out.below hb4 hwg);replace HBr := zf (HBr.out.trans hb4);replace HWr := zf (HWr.out.trans (hb4.mono (zX hwg)));replace KG := zf hg4;replace KR := zf hr4;have hgl := KG.out.lt;clear hg4 hr4 hb4 Hap Hfin hlt0 hbq;have hq2 := zio F1 BL 2;have ha2 := zeY F1 BL 2;obtain ⟨F2, hF2⟩ : ∃ q, q = zdy F1 BL 2 BL.length := ⟨_, rfl⟩;rw [← hF2] at KG KR hq2 ha2;rw [← ha2] at HDf;have hl2 : F2.length ≤ 540 := by omega
   clear hq2 ha2 hF2;have x0 := (K0.out.cell 0).trans (HCX.out 0 _ rfl);have x1 := (K0.out.cell 1).trans (HCX.out 1 _ rfl);have x2 := (K0.out.cell 2).trans (HCX.out 2 _ rfl);have x3 := (K0.out.cell 3).trans (HCX.out 3 _ rfl);have x4 := (K0.out.cell 4).trans (HCX.out 4 _ rfl);have x5 := (K0.out.cell 5).trans (HCX.out 5 _ rfl);have x6 := (K0.out.cell 6).trans (HCX.out 6 _ rfl);have x7 := (K0.out.cell 7).trans (HCX.out 7 _ rfl);have lk0 := K0.out.lt;go_wp2_with fail;refine (HCv2.out _ HWr.out).mono ?_;rintro e w4 ⟨A3, c3', rfl, hfin, hb⟩;replace KG := zf (KG.out.keep hb);replace K0 := zf (K0.out.keep hb);have hap := zdQ hfin KR.out (ze _);replace KR := zf (KR.out.keep hb);replace HBr := zf (HBr.out.trans (hb.mono (zX (show g < _ from hgl))));replace HWr := zf (zg HWr.out hb (ze _));have Hap := zf hap;have Hfin := zf hfin;have hlt0 := KG.out.lt;clear hb hap hfin hgl;clear x0 x1 x2 x3 x4 x5 x6 x7 lk0 HCv2;go_wp2_with fail;refine (zjr g Av cv F2 A3 _ c3' CVR CE 4 (g + 1) _ g w4 KG.out KR.out Hfin.out rfl Hap.out (zK _) hlt0 (ze _) (by omega) hCvk.out (by omega) (by omega)).mono ?_;rintro e w9 ⟨Av, cv, rfl, hg4, hr4, hb4⟩;have hbq := hb4.size;replace K0 := zf (K0.out.below hb4 hwg);replace HBr := zf (HBr.out.trans hb4);replace HWr := zf (HWr.out.trans (hb4.mono (zX hwg)));replace KG := zf hg4;replace KR := zf hr4;have hgl := KG.out.lt;clear hg4 hr4 hb4 Hap Hfin hlt0 hbq;have hq3 := zio F2 CVR 4;have ha3 := zeY F2 CVR 4;obtain ⟨F3, hF3⟩ : ∃ q, q = zdy F2 CVR 4 CVR.length := ⟨_, rfl⟩;rw [← hF3] at KG KR hq3 ha3;have hl3 : F3.length ≤ 1540 := by omega
   clear hq3 hF3;rcases hce with ⟨rfl, rfl⟩ | rfl
   ·rw [← ha3] at HDf;clear ha3;go_wp2_with (refine wpList_load_row rfl 34 (.tmp 1) rfl w.heap.size rfl 34 _ (0, 0) _ K0.out Tryz.underlying34 rfl (by rw [Hsz.out]; exact Hi.out) ?_);refine (HLp.out _ HWr.out).mono ?_;rintro e w5 ⟨A3, c3', rfl, hfin, hb⟩;replace KG := zf (KG.out.keep hb);replace K0 := zf (K0.out.keep hb);have hap := zdQ hfin KR.out (ze _);replace KR := zf (KR.out.keep hb);replace HBr := zf (HBr.out.trans (hb.mono (zX (show g < _ from hgl))));replace HWr := zf (zg HWr.out hb (ze _));have Hap := zf hap;have Hfin := zf hfin;have hlt0 := KG.out.lt;clear hb hap hfin hgl;clear HLp;go_wp2_with fail;refine (zjr g Av cv F3 A3 _ c3' LP 0 5 (g + 1) _ g w5 KG.out KR.out Hfin.out rfl Hap.out (zK _) hlt0 (ze _) (by omega) hLpk.out (by omega) (by omega)).mono ?_;rintro e w9 ⟨Av, cv, rfl, hg4, hr4, hb4⟩;have hbq := hb4.size;replace K0 := zf (K0.out.below hb4 hwg);replace HBr := zf (HBr.out.trans hb4);replace HWr := zf (HWr.out.trans (hb4.mono (zX hwg)));replace KG := zf hg4;replace KR := zf hr4;have hgl := KG.out.lt;clear hg4 hr4 hb4 Hap Hfin hlt0 hbq;have hq4 := zio F3 LP 5;have ha4 := zeY F3 LP 5;obtain ⟨F4, hF4⟩ : ∃ q, q = zdy F3 LP 5 LP.length := ⟨_, rfl⟩;rw [← hF4] at KG KR hq4 ha4;rw [← ha4] at HDf;have hl4 : F4.length ≤ 3540 := by omega
    clear hq4 ha4 hF4;go_wp2_with (refine wpList_load_row rfl 34 (.tmp 1) rfl w.heap.size rfl 34 _ (0, 0) _ K0.out Tryz.underlying34 rfl (by rw [Hsz.out]; exact Hi.out) ?_);refine (HSc.out _ HWr.out).mono ?_;rintro e w6 ⟨A3, c3', rfl, hfin, hb⟩;replace KG := zf (KG.out.keep hb);replace K0 := zf (K0.out.keep hb);have hap := zdQ hfin KR.out (ze _);replace KR := zf (KR.out.keep hb);replace HBr := zf (HBr.out.trans (hb.mono (zX (show g < _ from hgl))));replace HWr := zf (zg HWr.out hb (ze _));have Hap := zf hap;have Hfin := zf hfin;have hlt0 := KG.out.lt;clear hb hap hfin hgl;clear HSc;go_wp2_with fail;refine (zjr g Av cv F4 A3 _ c3' SF SE 7 (g + 1) _ g w6 KG.out KR.out Hfin.out rfl Hap.out (zK _) hlt0 (ze _) (by omega) Hsk.out (by omega) (by omega)).mono ?_;rintro e w9 ⟨Av, cv, rfl, hg4, hr4, hb4⟩;have hbq := hb4.size;replace K0 := zf (K0.out.below hb4 hwg);replace HBr := zf (HBr.out.trans hb4);replace HWr := zf (HWr.out.trans (hb4.mono (zX hwg)));replace KG := zf hg4;replace KR := zf hr4;have hgl := KG.out.lt;clear hg4 hr4 hb4 Hap Hfin hlt0 hbq;have ha5 := zeY F4 SF 7;obtain ⟨F5, hF5⟩ : ∃ q, q = zdy F4 SF 7 SF.length := ⟨_, rfl⟩;rw [← hF5] at KG KR ha5;rw [← ha5] at HDf;have hce := Hch.out SE;clear ha5 hF5;have d0 := KG.out.cell 0;have d1 := KG.out.cell 1;simp at d0 d1;by_cases hse : SE = 0
    ·subst hse;rw [if_pos rfl] at hce;have Hce := zf (hce.trans HDf.out);clear hce HDf;go_wp2;go_ret2;rw [show zb9 0 0 = 0 from rfl, Hce.out];exact ⟨Av, cv, rfl, zg8 (by omega) KR.out, HWr.out⟩
    ·rw [if_neg hse] at hce;have Hce := zf hce;have dse : (SE == 0) = false := by simpa using hse
     clear hce HDf hse;go_wp2_with fail;go_quiet (fail)
     go_wp2;go_ret2;rw [show zb9 0 SE = SE from rfl, Hce.out];exact ⟨none, 0, rfl, Row.nil _ _ _ _ _, zaT HWr.out _⟩
   ·clear ha3 HDf;have Hce := zf (show CR 4 = [] by rw [Hch.out, if_neg (by decide)]);go_wp2_with (refine wpList_load_row rfl 34 (.tmp 1) rfl w.heap.size rfl 34 _ (0, 0) _ K0.out Tryz.underlying34 rfl (by rw [Hsz.out]; exact Hi.out) ?_);refine (HLp.out _ HWr.out).mono ?_;rintro e w5 ⟨A3, c3', rfl, hfin, hb⟩;replace KG := zf (KG.out.keep hb);replace K0 := zf (K0.out.keep hb);replace HWr := zf (zg HWr.out hb (ze _));clear HLp hb hfin KR HBr hgl;go_wp2_with fail;refine (zpU g _ A3 _ c3' 4 0 5 w5 KG.out (by decide)).mono ?_;rintro e w6 ⟨rfl, rfl⟩;go_wp2_with (refine wpList_load_row rfl 34 (.tmp 1) rfl w.heap.size rfl 34 _ (0, 0) _ K0.out Tryz.underlying34 rfl (by rw [Hsz.out]; exact Hi.out) ?_);refine (HSc.out _ HWr.out).mono ?_;rintro e w6 ⟨A4, c4', rfl, hfin, hb⟩;replace KG := zf (KG.out.keep hb);replace K0 := zf (K0.out.keep hb);replace HWr := zf (zg HWr.out hb (ze _));clear HSc hb hfin;go_wp2_with fail;refine (zpU g _ A4 _ c4' 4 SE 7 w6 KG.out (by decide)).mono ?_;rintro e w7 ⟨rfl, rfl⟩;have d0 := KG.out.cell 0;have d1 := KG.out.cell 1;simp at d0 d1;go_wp2_with fail;go_quiet (fail)
    go_wp2;go_ret2;rw [show zb9 4 SE = 4 from rfl, Hce.out];exact ⟨none, 0, rfl, Row.nil _ _ _ _ _, zaT HWr.out _⟩
theorem zrM {n : Nat} (hn : n ≤ 2) : zah (exN n) = true := by
 rcases (show n = 0 ∨ n = 1 ∨ n = 2 by omega) with rfl | rfl | rfl
 ·exact ztn
 ·exact ztm
 ·exact ztl
theorem zto {n : Nat} (hn : n ≤ 2) : zag (exN n) = [] := by
 rcases (show n = 0 ∨ n = 1 ∨ n = 2 by omega) with rfl | rfl | rfl
 ·exact zmW
 ·exact zmV
 ·exact zmU
theorem zhl (HSL : zbU) (HCL : zbV) (n : Nat) (hn : n ≤ 2) (F : List FinD) (hF : zbn (exN n) [] [] = F) (s : DetS) (w : World) {B : Nat} (h : DetAt w B (exN n) s) (hB : B ≤ w.heap.size) (hf : DetFit (exN n) s) :
  Calls Tryz.prog 12 #[zcZ (exN n) s] w fun e w' => ∃ A c, e = .returned (.tuple #[.slice A F.length c, .int .i64 0]) ∧ FinRow w.heap.size w' A F.length c F ∧ Below w.heap.size w w' := by
 have hc := zgK HSL HCL (exN n) s w h hB hf (zrM hn) [] 0 (fun W hz => zkn (exN n) s W (h.carry (hz.mono hB) (ze _)) (zh hB hz.size) hf (zrM hn) rfl) (fun f hf => by cases hf) (by simp);have he : zb9 (zbC (zag (exN n))) 0 = 0 := by rw [zto hn]; rfl
 have hr : zck (exN n) [] 0 = F := by rw [zck, if_pos rfl]; exact hF
 rw [he, hr] at hc;exact hc
theorem zsT (HSL : zbU) (HCL : zbV) (w : World) : Calls Tryz.prog 10 #[] w fun e w' => e = .returned (.bool true) ∧ Below w.heap.size w w' := by
 have HE0 := zf (fun W => zge 0 W (by omega));have HE1 := zf (fun W => zge 1 W (by omega));have HE2 := zf (fun W => zge 2 W (by omega));rw [show ((0 : Nat) : Int) = 0 from rfl] at HE0;rw [show ((1 : Nat) : Int) = 1 from rfl] at HE1;rw [show ((2 : Nat) : Int) = 2 from rfl] at HE2;go_enter Tryz.func10, Tryz.ntmps10;go_wp2_with fail;refine (HE0.out _).mono ?_;rintro e w1 ⟨s0, rfl, hd0, hf0, hb⟩;have HW := zf hb;have HC0 := zf (zhl HSL HCL 0 (by omega) _ zq1 s0 w1 hd0 (ze _) hf0);clear hb hd0 hf0;go_wp2_with fail;refine HC0.out.mono ?_;rintro e w2 ⟨A0, c0, rfl, hr0, hb⟩;have R0 := zf hr0;replace HW := zf (zg HW.out hb (ze _));clear hb hr0 HC0;go_wp2_with fail;refine (HE1.out _).mono ?_;rintro e w3 ⟨s1, rfl, hd1, hf1, hb⟩;replace R0 := zf (Row.keep R0.out hb);replace HW := zf (zg HW.out hb (ze _));have HC1 := zf (zhl HSL HCL 1 (by omega) _ zq0 s1 w3 hd1 (ze _) hf1);clear hb hd1 hf1;go_wp2_with fail;refine HC1.out.mono ?_;rintro e w4 ⟨A1, c1, rfl, hr1, hb⟩;replace R0 := zf (Row.keep R0.out hb);replace HW := zf (zg HW.out hb (ze _));clear hb hr1 HC1;go_wp2_with fail;refine (HE2.out _).mono ?_;rintro e w5 ⟨s2, rfl, hd2, hf2, hb⟩;replace R0 := zf (Row.keep R0.out hb);replace HW := zf (zg HW.out hb (ze _));have HC2 := zf (zhl HSL HCL 2 (by omega) _ zqZ s2 w5 hd2 (ze _) hf2);clear hb hd2 hf2 HE2;go_wp2_with fail;refine HC2.out.mono ?_;rintro e w6 ⟨A2, c2, rfl, hr2, hb⟩;replace R0 := zf (Row.keep R0.out hb);have R2 := zf hr2;replace HW := zf (zg HW.out hb (ze _));clear hb hr2 HC2;go_wp2_with fail;have hl3 := SlOf.lit (enc := zbB) zbv w6 47 #[.int .i64 3, .string ⟨#[97]⟩] [⟨3, zi0⟩] rfl (B := w6.heap.size + 1) (zK _);refine (zhX A0 (some ⟨w6.heap.size, 0, none⟩) [⟨3, zi0⟩] 1 c0 1 _ (FinRow.read (Row.alloc R0.out _)) hl3 rfl (by omega)).mono ?_;rintro e w7 ⟨rfl, hb⟩;replace R2 := zf (Row.keep (Row.alloc R2.out (.cells #[.int .i64 3, .string ⟨#[97]⟩] 47)) hb);replace HW := zf (zg (HW.out.alloc HW.out.size (.cells #[.int .i64 3, .string ⟨#[97]⟩] 47)) hb (ze _));clear hb hl3 R0;go_wp2_with fail;have hl4 := SlOf.lit (enc := zbB) zbv w7 47 #[.int .i64 4, .string ⟨#[97]⟩] [⟨4, zi0⟩] rfl (B := w7.heap.size + 1) (zK _);refine (zhX A2 (some ⟨w7.heap.size, 0, none⟩) [⟨4, zi0⟩] 1 c2 1 _ (FinRow.read (Row.alloc R2.out _)) hl4 rfl (by omega)).mono ?_;rintro e w8 ⟨rfl, hb⟩;replace HW := zf (zg (HW.out.alloc HW.out.size (.cells #[.int .i64 4, .string ⟨#[97]⟩] 47)) hb (ze _));clear hb hl4 R2;go_wp2_with fail;refine (HE1.out _).mono ?_;rintro e w9 ⟨sa, rfl, hda, hfa, hb⟩;replace HW := zf (zg HW.out hb (ze _));have Hda := zf hda;have Hfa := zf hfa;clear hb hda hfa;go_wp2_with fail;refine (HE1.out _).mono ?_;rintro e w10 ⟨sb, rfl, hdb, hfb, hb⟩;have hdm : ∀ d ∈ (exN 1).dems, d.steps.length ≤ 60000 := fun d hd => by cases hd
 have hn1 : ∀ t : DetS, DetFit (exN 1) t → t.n1 ≤ 300000 ∧ t.n2 ≤ 300000 := fun t ht => ⟨by rw [ht.l1]; decide, by rw [ht.l2]; decide⟩;have HS := zf (znW (exN 1) (exN 1) sa sb w10 (Hda.out.carry hb (ze _)) hdb hb.size (ze _) Hfa.out hfb (hn1 _ Hfa.out).1 (hn1 _ Hfa.out).2 (hn1 _ hfb).1 (hn1 _ hfb).2 hdm hdm);rw [show ziy (exN 1) (exN 1) = true from zq6.2 rfl] at HS;replace HW := zf (zg HW.out hb (ze _));clear hb hdb hfb hdm hn1 Hda Hfa HE1;go_wp2_with fail;refine HS.out.mono ?_;rintro e w11 ⟨rfl, hb⟩;replace HW := zf (zg HW.out hb (ze _));clear hb HS;go_wp2;go_ret;exact ⟨rfl, HW.out⟩
abbrev zeroD : Array Value := #[.string ⟨#[]⟩, .slice none 0 0, .slice none 0 0, .int .i64 0, .int .i64 0, .int .i64 0, .slice none 0 0, .slice none 0 0, .slice none 0 0, .slice none 0 0, .int .i64 0, .int .i64 0, .int .i64 0, .int .i64 0, .int .i64 0, .int .i64 0, .int .i64 0, .int .i64 0, .int .i64 0]
theorem OwnDet.lower {w : World} {lo lo' : Nat} {x : DetD} {s : DetS} {b : Nat → Nat} {LB : List zdU} {LD : List zdT} (h : OwnDet w lo x s b LB LD) (hl : lo' ≤ b 0) : OwnDet w lo' x s b LB LD :=
 ⟨hl, h.up, h.r1, h.r2, h.r3, h.r4, h.r5, h.r6, h.m3, h.m6, h.d3, h.d6⟩
theorem ze7 {α : Type} {w : World} {lo size : Nat} {e : TypeId} {enc : α → List Value} {A : Option Addr} {n c : Nat} {l : List α} (h : Row w lo e size enc (.slice A n c) l) : n = l.length ∧ n ≤ c := by
 obtain ⟨A', c', hv, hc⟩ := zmK h;injection hv with h1 h2 h3
 subst h2;subst h3;exact ⟨rfl, hc⟩
structure OwnLen (x : DetD) (s : DetS) : Prop where
 l1 : s.n1 = x.mem.boxes.length
 l2 : s.n2 = x.mem.holes.length
 l3 : s.n3 = x.bars.length
 l4 : s.n4 = x.runs.length
 l5 : s.n5 = x.laps.length
 l6 : s.n6 = x.dems.length
 k6 : s.n6 ≤ s.c6
theorem OwnLen.fit {x y : DetD} {s s' : DetS} (h : OwnLen y s') (f : DetFit x s) (h1 : y.mem = x.mem) (h2 : y.bars = x.bars) (h3 : y.dems = x.dems) (h4 : y.runs.length ≤ 60000) (h5 : y.laps.length ≤ 60000) : DetFit y s' := by
 refine ⟨h.l1, h.l2, h.l3, h.l4, h.l5, h.l6, ?_, ?_, ?_, ?_, h.k6, ?_, ?_, ?_⟩
 ·rw [h.l3, h2, ← f.l3]; exact f.m3
 ·rw [h.l4]; exact h4
 ·rw [h.l5]; exact h5
 ·rw [h.l6, h3, ← f.l6]; exact f.m6
 ·rw [h1]; exact f.name
 ·rw [h2]; exact f.tame
 ·rw [h3]; exact f.dems
structure OwnLow (w : World) (lo : Nat) (x : DetD) (s : DetS) (LB : List zdU) (LD : List zdT) : Prop where
 r1 : Row w lo 62 6 zdm (.slice s.a1 s.n1 s.c1) x.mem.boxes
 r2 : Row w lo 62 6 zdm (.slice s.a2 s.n2 s.c2) x.mem.holes
 r3 : Row w lo 50 5 zdg (.slice s.a3 s.n3 s.c3) LB
 r4 : Row w lo 66 10 zcw (.slice s.a4 s.n4 s.c4) x.runs
 r5 : Row w lo 73 2 zcs (.slice s.a5 s.n5 s.c5) x.laps
 r6 : Row w lo 69 8 zdf (.slice s.a6 s.n6 s.c6) LD
 m3 : LB.map (·.1) = x.bars
 m6 : LD.map (·.1) = x.dems
 d3 : ∀ p ∈ LB, Row w lo 3 1 zaP (.slice p.2.1 p.1.dims.length p.2.2) p.1.dims
 d6 : ∀ p ∈ LD, Row w lo 71 2 zaF (.slice p.2.1 p.1.steps.length p.2.2) p.1.steps
theorem OwnLow.kept {w w' : World} {lo : Nat} {x : DetD} {s : DetS} {LB : List zdU} {LD : List zdT} {row : Option Nat} (h : OwnLow w lo x s LB LD) (hg : w.grownBy w' row) (hr : ∀ k, row = some k → k < lo) : OwnLow w' lo x s LB LD :=
 ⟨zb2 h.r1 hg (fun k hk => zbs h.r1 (hr k hk)), zb2 h.r2 hg (fun k hk => zbs h.r2 (hr k hk)), zb2 h.r3 hg (fun k hk => zbs h.r3 (hr k hk)), zb2 h.r4 hg (fun k hk => zbs h.r4 (hr k hk)), zb2 h.r5 hg (fun k hk => zbs h.r5 (hr k hk)), zb2 h.r6 hg (fun k hk => zbs h.r6 (hr k hk)), h.m3, h.m6,
  fun p hp => zb2 (h.d3 p hp) hg (fun k hk => zbs (h.d3 p hp) (hr k hk)), fun p hp => zb2 (h.d6 p hp) hg (fun k hk => zbs (h.d6 p hp) (hr k hk))⟩
theorem OwnLow.at_ {w : World} {lo : Nat} {x : DetD} {s : DetS} {LB : List zdU} {LD : List zdT} (h : OwnLow w lo x s LB LD) : DetAt w w.heap.size x s := by
 have b3 := zrx (h.r3.read zfq (by omega)) (fun p hp => (h.d3 p hp).read zbq (by omega));have b6 := zrg (h.r6.read zfp (by omega)) (fun p hp => (h.d6 p hp).read (fun _ => rfl) (by omega));rw [h.m3] at b3;rw [h.m6] at b6;exact ⟨h.r1.read zcN (by omega), h.r2.read zcN (by omega), b3, h.r4.read (fun _ => rfl) (by omega), h.r5.read (fun _ => rfl) (by omega), b6⟩
theorem OwnLow.len {w : World} {lo : Nat} {x : DetD} {s : DetS} {LB : List zdU} {LD : List zdT} (h : OwnLow w lo x s LB LD) : OwnLen x s :=
 ⟨(ze7 h.r1).1, (ze7 h.r2).1, by rw [(ze7 h.r3).1, ← h.m3, zw], (ze7 h.r4).1, (ze7 h.r5).1, by rw [(ze7 h.r6).1, ← h.m6, zw], (ze7 h.r6).2⟩
theorem OwnDet.runs {w w' : World} {lo : Nat} {x y : DetD} {s s' : DetS} {b : Nat → Nat} {LB : List zdU} {LD : List zdT} {A : Option Addr} {n c : Nat} (h : OwnDet w lo x s b LB LD) (hg : w.grownBy w' (Value.slice s.a4 s.n4 s.c4).ownBlock)
  (hr : Row w' lo 66 10 zcw (.slice A n c) y.runs) (hy : y = ⟨x.mem, x.bars, y.runs, x.laps, x.dems, x.rule⟩) (hs : s' = { s with a4 := A, n4 := n, c4 := c }) : OwnLow w' lo y s' LB LD := by
 have up3 : ∀ j, j ≤ 3 → b j ≤ b 3 := fun j hj => by
  rcases (show j = 0 ∨ j = 1 ∨ j = 2 ∨ j = 3 by omega) with rfl | rfl | rfl | rfl
  ·exact zh (h.up 0) (zh (h.up 1) (h.up 2))
  ·exact zh (h.up 1) (h.up 2)
  ·exact h.up 2
  ·exact ze _
 have up4 : ∀ i, 4 ≤ i → b 4 ≤ b i := fun i hi => by
  have : ∀ d, b 4 ≤ b (4 + d) := fun d => by
   induction d with
   | zero => exact ze _
   | succ d ih => exact zh ih (h.up (4 + d))
  have hq := this (i - 4)
  rwa [show 4 + (i - 4) = i by omega] at hq
 have e1 : ∀ i j, j ≤ 3 → ∀ k, (Value.slice s.a4 s.n4 s.c4).ownBlock = some k → k < b i ∨ b j ≤ k := fun i j hj k hk => .inr (zh (up3 j hj) (h.r4.low hk));have e2 : ∀ i j, 4 ≤ i → ∀ k, (Value.slice s.a4 s.n4 s.c4).ownBlock = some k → k < b i ∨ b j ≤ k := fun i j hi k hk => .inl (zt (h.r4.up k hk) (up4 i hi));have lw : ∀ i, lo ≤ b i := fun i => zh h.low (h.from0 i);have q1 := h.r1.kept hg (e1 0 1 (by omega));have q2 := h.r2.kept hg (e1 1 2 (by omega));have q3 := h.r3.kept hg (e1 2 3 (by omega));have q5 := h.r5.kept hg (e2 4 5 (by omega));have q6 := h.r6.kept hg (e2 5 6 (by omega));have p3 := h.d3.kept hg (e2 6 7 (by omega));have p6 := h.d6.kept hg (e2 7 8 (by omega));rw [hy, hs];exact ⟨(q1.mono (lw 0) (ze _)).row, (q2.mono (lw 1) (ze _)).row, (q3.mono (lw 2) (ze _)).row, hr, (q5.mono (lw 4) (ze _)).row, (q6.mono (lw 5) (ze _)).row, h.m3, h.m6,
  fun p hp => by
   obtain ⟨k, hk, hkp⟩ := List.getElem_of_mem hp;exact ((InRow.mk (p3.own.row k p hk (by rw [zi hk, hkp])) (fun g hg' => p3.up k p g (by rw [zi hk, hkp]) hg')).mono (lw 6) (ze _)).row,
  fun p hp => by
   obtain ⟨k, hk, hkp⟩ := List.getElem_of_mem hp;exact ((InRow.mk (p6.own.row k p hk (by rw [zi hk, hkp])) (fun g hg' => p6.up k p g (by rw [zi hk, hkp]) hg')).mono (lw 7) (ze _)).row⟩
theorem zin {g : Nat} {t : TypeId} : ∀ (vs : List Value) (o : Nat) (w : World) (cs : Array Value), Blk w g t cs → o + vs.length ≤ cs.size →
  ∃ cs', Blk (w.setCells g o vs) g t cs' ∧ cs'.size = cs.size ∧ (∀ k, k < vs.length → cs'[o + k]? = vs[k]?) ∧ ∀ k, k < o ∨ o + vs.length ≤ k → cs'[k]? = cs[k]?
 | [], _, _, cs, h, _ => ⟨cs, h, rfl, fun k hk => absurd hk (by simp), fun _ _ => rfl⟩
 | v :: r, o, w, cs, h, hs => by
  simp only [zac] at hs;obtain ⟨cs', h1, h2, h3, h4⟩ := zin r (o + 1) _ _ (h.set_ o v) (by simp; omega);refine ⟨cs', h1, by simpa using h2, fun k hk => ?_, fun k hk => ?_⟩
  ·cases k with
   | zero =>
    rw [Nat.add_zero, h4 o (.inl (by omega))];simp [show o < cs.size by omega]
   | succ k =>
    simp only [zac] at hk;rw [show o + (k + 1) = o + 1 + k by omega, h3 k (by omega)];simp
  ·simp only [zac] at hk;rw [h4 k (by omega), Array.getElem?_setIfInBounds_ne (by omega)]
theorem zgH (g : Nat) : ∀ (vs : List Value) (o : Nat) (w : World), w.grownBy (w.setCells g o vs) (some g)
 | [], _, w => zbW (Below.refl _ w) _
 | v :: r, o, w => (zcy w g o v).trans (zgH g r (o + 1) _)
theorem zkp {P : Program} (w : World) (t e ty : TypeId) (z : Value) (ht : P.underlying t = some (.slice e)) (hv : ∀ w, (zeroValue e).run P w = .ok z w) (h1 : ∀ v ∈ z.cells.toList, v.oneCell' = true) (b o c : Nat)
  (hc : ∀ j, j < z.cells.size → (w.cell? ⟨b, o + j, none⟩).isSome = true) (hf : ∀ j, j < z.cells.size → w.frozen? ⟨b, o + j, none⟩ = false) :
  (Builtin.clear_ #[t] ty #[.slice (some ⟨b, o, none⟩) 1 c]).run P w = .ok (.tuple #[]) (w.setCells b o z.cells.toList) := by
 have hzc : (Builtin.zeroCells z.cells 1).toList = z.cells.toList := by
  simp [Builtin.zeroCells];apply List.ext_getElem
  ·simp
  ·intro i h1 h2;simp at h2;simp [Nat.mod_eq_of_lt h2, getElem!_pos z.cells i h2]
 have hst := run_storeCells_cells (P := P) b o z.cells.toList 0 w (by simpa using hc) (by simpa using hf) h1;simp only [Nat.add_zero] at hst;simp [Builtin.clear_, run_underlying ht, hv, hzc, hst]
theorem znQ {α : Type} {enc : α → List Value} (l : List α) (k : Nat) : (l.eraseIdx k).flatMap enc = (l.take k).flatMap enc ++ (l.drop (k + 1)).flatMap enc := by
 rw [List.eraseIdx_eq_take_drop_succ, zae]
theorem zoh {α : Type} {enc : α → List Value} {size : Nat} (he : ∀ x, (enc x).length = size) (l : List α) {k : Nat} (hk : k ≤ l.length) {j : Nat} (hj : j < k * size) : ((l.take k).flatMap enc)[j]? = (l.flatMap enc)[j]? := by
 conv => rhs; rw [← List.take_append_drop k l, zae]
 rw [List.getElem?_append_left (by rw [zbG he, zG, Nat.min_eq_left hk]; exact hj)]
theorem zpm {α : Type} {enc : α → List Value} {size : Nat} (he : ∀ x, (enc x).length = size) (l : List α) {k : Nat} (hk : k ≤ l.length) (j : Nat) : ((l.drop k).flatMap enc)[j]? = (l.flatMap enc)[k * size + j]? := by
 conv => rhs; rw [← List.take_append_drop k l, zae]
 have h1 : ((l.take k).flatMap enc).length = k * size := by rw [zbG he, zG, Nat.min_eq_left hk]
 rw [List.getElem?_append_right (by omega), h1, Nat.add_sub_cancel_left]
abbrev zeroRun : Value := .agg #[.string ⟨#[]⟩, .int .i64 0, .int .i64 0, .int .i64 0, .int .i64 0, .int .i64 0, .int .i64 0, .int .i64 0, .int .i64 0, .int .i64 0]
theorem zky (A : Option Addr) (n c k base : Nat) (l : List RunD) (w : World) (h : Row w base 66 10 zcw (.slice A n c) l) (hk : k < l.length) :
  Calls Tryz.prog 79 #[.slice A n c, .int .i64 k, .int .i64 (k + 1)] w fun e w' => e = .returned (.slice A (n - 1) c) ∧ Row w' base 66 10 zcw (.slice A (n - 1) c) (l.eraseIdx k) ∧ w.grownBy w' (Value.slice A n c).ownBlock := by
 rcases h.2 with ⟨_, hn⟩ | ⟨g, cap, cur, hv, hb, hh, h1, h2, h3, ht⟩
 ·omega
 ·injection hv with hA hn hc
  subst hA;subst hn;subst hc;obtain ⟨i0, hi0, hz0, hz1, hz2⟩ := info_parts (show (Tryz.prog.info? 66).map (fun i => (i.zero, i.size, i.bytes)) = some (some zeroRun, 10, 88) by kernel_rfl);have hblk : Blk w g 66 cur := hh;have hcur : ∀ j u, (l.flatMap zcw)[j]? = some u → cur[j]? = some u := fun j u hu => by
   rw [← ht, List.getElem?_take] at hu
   split at hu
   ·simpa using hu
   ·cases hu
  obtain ⟨news, hnews⟩ : ∃ news, news = (l.drop (k + 1)).flatMap zcw := ⟨_, rfl⟩;have hlen : news.length = (l.length - (k + 1)) * 10 := by rw [hnews, zbG zcL, List.length_drop]
  obtain ⟨Aj, hAj, hsrc⟩ : ∃ Aj : Addr, (if c = k + 1 then some (⟨g, 0, none⟩ : Addr) else some ⟨g, (k + 1) * 10, none⟩) = some Aj ∧ Hid (∀ t u, news[t]? = some u → w.drew.cell? (Aj.add t) = some u) := by
   by_cases h9 : c = k + 1
   ·refine ⟨⟨g, 0, none⟩, by simp [h9], fun t u hu => ?_⟩;have h0 : news.length = 0 := by rw [hlen]; omega
    rw [List.length_eq_zero_iff.1 h0] at hu;cases hu
   ·refine ⟨⟨g, (k + 1) * 10, none⟩, by simp [h9], fun t u hu => ?_⟩;rw [hnews, zpm zcL l (by omega)] at hu;rw [show (⟨g, (k + 1) * 10, none⟩ : Addr).add t = ⟨g, (k + 1) * 10 + t, none⟩ by unfold Addr.add; split <;> simp_all];exact (hblk.cell _).trans (hcur _ _ hu)
  have s1 : Hid (news.length = (l.length - (k + 1)) * 10) := hlen;have s2 : Hid (∀ u ∈ news, u.oneCell' = true) := by
   intro u hu;rw [hnews] at hu;obtain ⟨x, _, hx⟩ := List.mem_flatMap.1 hu;exact zjW x u hx
  have hfit : k * 10 + news.length ≤ cur.size := by rw [hlen, h3]; omega
  have s3 : Hid (∀ t, t < news.length → (w.drew.cell? ⟨g, 0 + k * 10 + t, none⟩).isSome = true ∧ w.drew.frozen? ⟨g, 0 + k * 10 + t, none⟩ = false) := by
   intro t ht9;refine ⟨?_, hblk.frozen _⟩
   show (w.cell? _).isSome = true
   rw [hblk.cell, Array.getElem?_eq_getElem (by omega)]
   rfl
  obtain ⟨c1, kb1, z1, in1, out1⟩ := zin news (0 + k * 10) w.drew cur hblk (by omega);obtain ⟨W1, hW1⟩ : ∃ W1, W1 = w.drew.setCells g (0 + k * 10) news := ⟨_, rfl⟩;rw [← hW1] at kb1;have hcl : ∀ ty, (Builtin.clear_ #[28] ty #[.slice (some ⟨g, (k + (l.length - (k + 1))) * 10, none⟩) (l.length - (k + (l.length - (k + 1)))) (c - (k + (l.length - (k + 1))))]).run Tryz.prog W1 = .ok (.tuple #[]) (W1.setCells g ((k + (l.length - (k + 1))) * 10) zeroRun.cells.toList) := by
   intro ty;rw [show l.length - (k + (l.length - (k + 1))) = 1 by omega];exact zkp W1 _ _ ty zeroRun Tryz.underlying28 (fun w => by rfl) (by decide) g _ _ (fun j hj => by
    have hj' : j < 10 := hj;rw [kb1.cell, Array.getElem?_eq_getElem (by omega)]
    rfl) (fun j _ => kb1.frozen _)
  have HK1 := zf kb1;have HZ1 := zf z1;have HI1 := zf in1;have HO1 := zf out1;have HN := zf hnews;have Ht := zf hcur;have Hl3 := zf h3;have hW : Hid (W1 = w.drew.setCells g (0 + k * 10) news) := hW1;have hic : k ≤ c := by omega
  have hjc : k + 1 ≤ c := by omega
  clear h kb1 z1 in1 out1 hnews hcur hblk hh hfit hW1 ht h3 hlen;have mixed : Tryz.prog.follows .mixedOrders = true := by kernel_rfl
  have hq1 : (0 : Int) ≤ (k : Int) + 1 := by omega
  have hq2 : (k : Int) + 1 ≤ (l.length : Int) := by omega
  go_enter Tryz.func79, Tryz.ntmps79;go_wp2_with fail
  go_region_law_o (refine step_append_room rfl (.tmp 22) (.tmp 25) 28 rfl 66 i0 10 Tryz.underlying28 hi0 hz1 g 0 k c (by simp [Act.eval, Act.put]) Aj (l.length - (k + 1)) (c - (k + 1)) news (by simp [Act.eval, Act.put]) s1.out hsrc.out s2.out (by omega) s3.out ?_; rw [← hW.out])
  go_wp2;go_ret;have e9 : k + (l.length - (k + 1)) = l.length - 1 := by omega
  have hle : (l.eraseIdx k).length = l.length - 1 := List.length_eraseIdx_of_lt hk;have hz := HZ1.out;have h3 := Hl3.out;have hln : news.length = (l.length - (k + 1)) * 10 := s1;have hz10 : zeroRun.cells.toList.length = 10 := rfl;obtain ⟨c2, kb2, z2, in2, out2⟩ := zin zeroRun.cells.toList ((k + (l.length - (k + 1))) * 10) W1 c1 HK1.out (by rw [hz10]; omega);refine ⟨by rw [e9]; rfl, ⟨by rw [zbG zcL], .inr ⟨g, c, c2, by rw [hle], hb, kb2, by omega, h2, by omega, ?_⟩⟩, ?_⟩
  ·apply List.ext_getElem?;intro j;rw [List.getElem?_take, hle]
   split
   ·rename_i hj
    rw [Array.getElem?_toList, out2 j (.inl (by omega)), znQ];have htk : ((l.take k).flatMap zcw).length = k * 10 := by rw [zbG zcL, zG, Nat.min_eq_left (by omega)]
    by_cases hjk : j < k * 10
    ·rw [List.getElem?_append_left (by omega), zoh zcL l (by omega) hjk, HO1.out j (.inl (by omega))];have hjl : j < (l.flatMap zcw).length := by rw [zbG zcL]; omega
     rw [zi hjl];exact Ht.out j _ (zi hjl)
    ·rw [List.getElem?_append_right (by omega), htk, ← HN.out, ← HI1.out (j - k * 10) (by omega), show 0 + k * 10 + (j - k * 10) = j by omega]
   ·rw [zdW (by rw [zbG zcL, hle]; omega)]
  ·have hW' : W1 = w.drew.setCells g (0 + k * 10) news := hW;have hg1 : w.grownBy W1 (some g) := by
    rw [hW'];exact (zbW (Below.drew (Below.refl _ w)) _).trans (zgH g _ _ _)
   exact hg1.trans (zgH g _ _ _)
theorem zmR (f n i : Int) (g6 g9 : Nat) (w : World) (h6 : Blk w g6 3 #[.int .i64 f]) (h9 : Blk w g9 3 #[.int .i64 n]) (hf0 : 0 ≤ f) (hf1 : f ≤ 1099511627776) (hn0 : 0 ≤ n) (hn1 : n ≤ 1099511627776) :
  Calls Tryz.prog 77 #[.int .i64 i, .pointer (some ⟨g6, 0, none⟩), .pointer (some ⟨g9, 0, none⟩)] w fun e w' => e = .returned (.bool (zc3 f n i)) ∧ w' = w := by
 have e6 := h6.cell 0;have e9 := h9.cell 0;simp at e6 e9;have z1 : IntKind.i64.wrap (f + n) = f + n := zr _ (by omega);have Hg := zf (show zc3 f n i = (decide (f ≤ i) && decide (i < f + n)) from rfl);generalize zc3 f n i = t at *;clear h6 h9;by_cases hc : f ≤ i
 ·have d1 : decide (f ≤ i) = true := zI hc;go_enter Tryz.func77, Tryz.ntmps77;go_wp2_with fail
  all_goals
   go_ret;refine ⟨zo ?_, rfl⟩;rw [Hg.out, d1];simp
 ·have d1 : decide (f ≤ i) = false := zE hc;go_enter Tryz.func77, Tryz.ntmps77;go_wp2_with fail
  all_goals
   go_ret;refine ⟨zo ?_, rfl⟩;rw [Hg.out, d1];simp
theorem zk2 (f n i : Int) (g6 g9 : Nat) (w : World) (h6 : Blk w g6 3 #[.int .i64 f]) (h9 : Blk w g9 3 #[.int .i64 n]) (hi0 : 0 ≤ i) (hi1 : i ≤ 1099511627776) (hn0 : 0 ≤ n) (hn1 : n ≤ 1099511627776) :
  Calls Tryz.prog 78 #[.int .i64 i, .pointer (some ⟨g6, 0, none⟩), .pointer (some ⟨g9, 0, none⟩)] w fun e w' => e = .returned (.int .i64 (zcb f n i)) ∧ w' = w := by
 have e6 := h6.cell 0;have e9 := h9.cell 0;simp at e6 e9;have z1 : IntKind.i64.wrap (i - n) = i - n := zr _ (by omega);have Hg := zf (show zcb f n i = (if f ≤ i then i - n else i) from rfl);generalize zcb f n i = t at *;clear h6 h9;by_cases hc : f ≤ i
 ·have d1 : decide (f ≤ i) = true := zI hc;go_enter Tryz.func78, Tryz.ntmps78;go_wp2_with fail
  all_goals
   go_ret;refine ⟨zam ?_, rfl⟩;rw [Hg.out, if_pos (by omega)]
 ·have d1 : decide (f ≤ i) = false := zE hc;go_enter Tryz.func78, Tryz.ntmps78;go_wp2_with fail
  all_goals
   go_ret;refine ⟨zam ?_, rfl⟩;rw [Hg.out, if_neg (by omega)]
theorem OwnLow.laps {w : World} {lo : Nat} {x : DetD} {s : DetS} {LB : List zdU} {LD : List zdT} {A : Option Addr} {n c : Nat} {L : List JoinD} (h : OwnLow w lo x s LB LD) (hr : Row w lo 73 2 zcs (.slice A n c) L) :
  OwnLow w lo ⟨x.mem, x.bars, x.runs, L, x.dems, x.rule⟩ { s with a5 := A, n5 := n, c5 := c } LB LD := ⟨h.r1, h.r2, h.r3, h.r4, hr, h.r6, h.m3, h.m6, h.d3, h.d6⟩
theorem OwnLow.far {w w' : World} {lo g : Nat} {cs : Array Value} {x : DetD} {s : DetS} {LB : List zdU} {LD : List zdT} (h : OwnLow w lo x s LB LD) (hg : w.grownBy w' (some g)) (hb : Blk w g 34 cs) : OwnLow w' lo x s LB LD := by
 have key : ∀ {α : Type} {size : Nat} {e : TypeId} {enc : α → List Value} {v : Value} {l : List α}, Row w lo e size enc v l → 34 ≠ e → Row w' lo e size enc v l := fun hr hne => zb2 hr hg (fun k hk => by
  injection hk with hk
  subst hk;exact zf7 hr hb hne)
 exact ⟨key h.r1 (by decide), key h.r2 (by decide), key h.r3 (by decide), key h.r4 (by decide), key h.r5 (by decide), key h.r6 (by decide), h.m3, h.m6, fun p hp => key (h.d3 p hp) (by decide), fun p hp => key (h.d6 p hp) (by decide)⟩
end Go.Proofs.YtpaanfjjnjjoeaaGreat
namespace Go.Proofs.YtpaanfjjnjjoeaaGreat
open Go.RowKit Go.Sort
end Go.Proofs.YtpaanfjjnjjoeaaGreat
