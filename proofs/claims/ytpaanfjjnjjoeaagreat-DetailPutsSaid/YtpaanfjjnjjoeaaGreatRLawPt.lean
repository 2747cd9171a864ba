/- The law DetailPuts: Put and Drop return what is specified. -/
import Derived.Test.YtpaanfjjnjjoeaaGreatRQrow
import Derived.Test.YtpaanfjjnjjoeaaGreatRSmeS
import Derived.Test.YtpaanfjjnjjoeaaGreatRDrpW
import Derived.Test.YtpaanfjjnjjoeaaGreatRDrpR
import Derived.Test.YtpaanfjjnjjoeaaGreatRQbn
namespace Go.Proofs.YtpaanfjjnjjoeaaGreat
open Go.RowKit Go.Sort
def ResD (w' : World) (d : DetD) (code : Int) (e : Ending) : Prop := ∃ sd : DetS, e = .returned (.tuple #[.agg (detCells d.mem d.rule sd), .int .i64 code]) ∧ DetAt w' w'.heap.size d sd ∧ DetFit d sd
def putRes (x : DetD) (r : RunD) : DetD := if detOk x = true ∧ detOk (putD x r) = true then putD x r else det0
def putCode (x : DetD) (r : RunD) : Int := if detOk x = true then (if detOk (putD x r) = true then 0 else 19) else 1
def dropRes (x : DetD) (k : Int) : DetD := if detOk x = true ∧ 0 ≤ k ∧ k < x.runs.length then dropD x k.toNat else det0
def dropCode (x : DetD) (k : Int) : Int := if detOk x = true then (if 0 ≤ k ∧ k < x.runs.length then 0 else 2) else 1
theorem res0 {w' : World} {code : Int} : ResD w' det0 code (.returned (.tuple #[.agg zeroD, .int .i64 code])) := ⟨det0S, rfl, det0_at _ _, det0_fit⟩
theorem put_res {x : DetD} {r : RunD} {w' : World} {e : Ending} (h : PutEnd x r w' e) : ResD w' (putRes x r) (putCode x r) e := by
 rcases h with ⟨h1, rfl⟩ | ⟨h1, h2, rfl⟩ | ⟨h1, h2, s', rfl, h3, h4, _⟩
 ·rw [putRes, putCode, if_neg (by rw [h1]; simp), if_neg (by rw [h1]; decide)]
  exact res0
 ·rw [putRes, putCode, if_neg (by rw [h2]; simp), if_pos h1, if_neg (by rw [h2]; decide)]
  exact res0
 ·rw [putRes, putCode, if_pos ⟨h1, h2⟩, if_pos h1, if_pos h2]
  exact ⟨s', rfl, h3, h4⟩
theorem rput_res {x : DetD} {r : RunD} {w' : World} {e : Ending} (hd : detOk x = true) (h : RefPut x r w' e) : ResD w' (putRes x r) (putCode x r) e := by
 rcases h with ⟨h2, rfl⟩ | ⟨h2, s', rfl, h3, h4⟩
 ·rw [putRes, putCode, if_neg (by rw [h2]; simp), if_pos hd, if_neg (by rw [h2]; decide)]
  exact res0
 ·rw [putRes, putCode, if_pos ⟨hd, h2⟩, if_pos hd, if_pos h2]
  exact ⟨s', rfl, h3, h4⟩
theorem drop_res {x : DetD} {k : Int} {w' : World} {e : Ending} (h : DropEnd x k w' e) : ResD w' (dropRes x k) (dropCode x k) e := by
 rcases h with ⟨h1, rfl⟩ | ⟨h1, h2, rfl⟩ | ⟨h1, j, rfl, hj, s', rfl, h3, h4⟩
 ·rw [dropRes, dropCode, if_neg (by rw [h1]; simp), if_neg (by rw [h1]; decide)]
  exact res0
 ·rw [dropRes, dropCode, if_neg (by omega), if_pos h1, if_neg (by omega)]
  exact res0
 ·rw [dropRes, dropCode, if_pos ⟨h1, by omega, by omega⟩, if_pos h1, if_pos ⟨by omega, by omega⟩, Int.toNat_natCast]
  exact ⟨s', rfl, h3, h4⟩
theorem rdrop_res {x : DetD} {k : Int} {w' : World} {e : Ending} (h1 : detOk x = true) (h : RefDrop x k w' e) : ResD w' (dropRes x k) (dropCode x k) e := by
 rcases h with ⟨h2, rfl⟩ | ⟨j, rfl, hj, s', rfl, h3, h4⟩
 ·rw [dropRes, dropCode, if_neg (by omega), if_pos h1, if_neg (by omega)]
  exact res0
 ·rw [dropRes, dropCode, if_pos ⟨h1, by omega, by omega⟩, if_pos h1, if_pos ⟨by omega, by omega⟩, Int.toNat_natCast]
  exact ⟨s', rfl, h3, h4⟩
structure Bnd (d : DetD) : Prop where
 b : d.mem.boxes.length ≤ 300000
 h : d.mem.holes.length ≤ 300000
 s : ∀ q ∈ d.dems, q.steps.length ≤ 60000
theorem bnd0 : Bnd det0 := ⟨by decide, by decide, fun q hq => by cases hq⟩
theorem bnd_put {x : DetD} (h : Bnd x) (r : RunD) : Bnd (putRes x r) := by
 unfold putRes
 split
 ·exact ⟨h.b, h.h, h.s⟩
 ·exact bnd0
theorem bnd_drop {x : DetD} (h : Bnd x) (k : Int) : Bnd (dropRes x k) := by
 unfold dropRes
 split
 ·exact ⟨h.b, h.h, h.s⟩
 ·exact bnd0
set_option maxHeartbeats 16000000 in
set_option maxRecDepth 100000 in
theorem detailPuts_lawW (HSL : SortLaw) (HCL : CompLaw) (x : DetD) (s : DetS) (r : RunD) (k : Int) (w : World) {B : Nat} (h : DetAt w B x s) (hB : B ≤ w.heap.size) (hl : DetLen x s) (hcap : s.n4 ≤ s.c4) :
  Calls Tryz.prog 8 #[detV x s, .agg (runCells r), .int .i64 k] w fun e w' => e = .returned (.bool true) ∧ Below w.heap.size w w' := by
 have HF := hide (fun (W : World) (hz : Below w.heap.size w W) => show Calls Tryz.prog 11 #[.agg (detCells x.mem x.rule s)] W _ from small25_any x s W (h.carry (hz.mono hB) (Nat.le_refl _)) (Nat.le_trans hB hz.size) hl)
 have hn12 : ∀ f : Few x s, s.n1 ≤ 300000 ∧ s.n2 ≤ 300000 := fun f => ⟨Nat.le_trans f.boxes (by decide), Nat.le_trans f.holes (by decide)⟩
 have hds : ∀ f : Few x s, ∀ b ∈ x.bars, b.dims.length ≤ 300000 := fun f b hb => Nat.le_trans (f.tame b hb).2 (by decide)
 have hst : ∀ f : Few x s, ∀ d ∈ x.dems, d.steps.length ≤ 60000 := fun f d hd => Nat.le_trans (f.dems d hd).2 (by decide)
 have hst3 : ∀ f : Few x s, ∀ d ∈ x.dems, d.steps.length ≤ 300000 := fun f d hd => Nat.le_trans (f.dems d hd).2 (by decide)
 have hrn : ∀ f : Few x s, x.runs.length + 1 ≤ 60000 := fun f => by have := f.runs; rw [hl.l4] at this; omega
 have Hbx := hide (fun (f : Few x s) => show Bnd x from ⟨by rw [← hl.l1]; exact (hn12 f).1, by rw [← hl.l2]; exact (hn12 f).2, hst f⟩)
 have HP := hide (fun (f : Few x s) (W : World) (hz : Below w.heap.size w W) => show Calls Tryz.prog 32 #[.agg (detCells x.mem x.rule s), .agg (runCells r)] W (fun e w' => ResD w' (putRes x r) (putCode x r) e ∧ Below W.heap.size W w') from (put_ok x s r W (h.carry (hz.mono hB) (Nat.le_refl _)) (Nat.le_trans hB hz.size) (few_fit hl f) (hn12 f).1 (hn12 f).2 (hds f) (hst3 f) (hrn f)).mono (fun _ _ h9 => ⟨put_res h9.1, h9.2⟩))
 have HD := hide (fun (f : Few x s) (W : World) (hz : Below w.heap.size w W) => show Calls Tryz.prog 29 #[.agg (detCells x.mem x.rule s), .int .i64 k] W (fun e w' => ResD w' (dropRes x k) (dropCode x k) e ∧ Below W.heap.size W w') from (dropRun_ok x s k W (h.carry (hz.mono hB) (Nat.le_refl _)) (Nat.le_trans hB hz.size) (few_fit hl f) (hn12 f).1 (hn12 f).2 (hds f) (hst3 f) hcap).mono (fun _ _ h9 => ⟨drop_res h9.1, h9.2⟩))
 have HV := hide (fun (f : Few x s) (W : World) (hz : Below w.heap.size w W) => show Calls Tryz.prog 14 #[.agg (detCells x.mem x.rule s)] W _ from refValid25_any x s W (h.carry (hz.mono hB) (Nat.le_refl _)) (Nat.le_trans hB hz.size) (few_fit hl f) (few_dems f))
 have HU := hide (fun (f : Few x s) (hd : detOk x = true) (W : World) (hz : Below w.heap.size w W) => show Calls Tryz.prog 33 #[.agg (detCells x.mem x.rule s), .agg (runCells r)] W (fun e w' => ResD w' (putRes x r) (putCode x r) e ∧ Below W.heap.size W w') from (refPut_ok x s r W (h.carry (hz.mono hB) (Nat.le_refl _)) (Nat.le_trans hB hz.size) (few_fit hl f) (hn12 f).1 (hn12 f).2 (few_dems f) (hrn f)).mono (fun _ _ h9 => ⟨rput_res hd h9.1, h9.2⟩))
 have HE := hide (fun (f : Few x s) (hd : detOk x = true) (W : World) (hz : Below w.heap.size w W) => show Calls Tryz.prog 34 #[.agg (detCells x.mem x.rule s), .int .i64 k] W (fun e w' => ResD w' (dropRes x k) (dropCode x k) e ∧ Below W.heap.size W w') from (refDrop_ok x s k W (h.carry (hz.mono hB) (Nat.le_refl _)) (Nat.le_trans hB hz.size) (few_fit hl f) hd (hn12 f).1 (hn12 f).2 (hst f) hcap).mono (fun _ _ h9 => ⟨rdrop_res hd h9.1, h9.2⟩))
 have HS := hide (fun (d : DetD) (hb : Bnd d) (a b : DetS) (W : World) (h1 : DetAt W W.heap.size d a) (h2 : DetAt W W.heap.size d b) (f1 : DetFit d a) (f2 : DetFit d b) => show Calls Tryz.prog 28 #[.agg (detCells d.mem d.rule a), .agg (detCells d.mem d.rule b)] W (fun e w' => e = .returned (.bool true) ∧ Below W.heap.size W w') from by
  have h9 := ref25Same_any d d a b W h1 h2 (Nat.le_refl _) (Nat.le_refl _) f1 f2 (by rw [f1.l1]; exact hb.b) (by rw [f1.l2]; exact hb.h) (by rw [f2.l1]; exact hb.b) (by rw [f2.l2]; exact hb.h) hb.s hb.s
  rw [show eqDet d d = true from eqDet_iff.2 rfl] at h9
  exact h9)
 have HZ := hide (fun hd : detOk x = false => show putRes x r = det0 ∧ putCode x r = 1 ∧ dropRes x k = det0 ∧ dropCode x k = 1 from ⟨by rw [putRes, if_neg (by rw [hd]; simp)], by rw [putCode, if_neg (by rw [hd]; decide)], by rw [dropRes, if_neg (by rw [hd]; simp)], by rw [dropCode, if_neg (by rw [hd]; decide)]⟩)
 have Hbp := hide (fun f : Few x s => bnd_put (Hbx.out f) r)
 have Hbd := hide (fun f : Few x s => bnd_drop (Hbx.out f) k)
 have HiX := hide (fun (d : DetD) (s' : DetS) => show (Tryz.prog.info? 34).map (·.size) = some (detCells d.mem d.rule s').size from (by kernel_rfl : (Tryz.prog.info? 34).map (·.size) = some 19))
 have Hir := hide (show (Tryz.prog.info? 66).map (·.size) = some (runCells r).size by kernel_rfl)
 have K0 := hide ((Blk.new w 34 (detCells x.mem x.rule s)).alloc (.cells (runCells r) 66))
 have KR := hide (Blk.new1 w (.cells (detCells x.mem x.rule s) 34) 66 (runCells r))
 have HW := hide (below_new2 w (.cells (detCells x.mem x.rule s) 34) (.cells (runCells r) 66))
 clear h hn12 hds hst hst3 hrn hl hB hcap
 show Calls Tryz.prog 8 #[.agg (detCells x.mem x.rule s), .agg (runCells r), .int .i64 k] w _
 obtain ⟨C, hC⟩ : ∃ C, C = detCells x.mem x.rule s := ⟨_, rfl⟩
 have HiC := hide (show (Tryz.prog.info? 34).map (·.size) = some C.size by rw [hC]; exact HiX.out x s)
 rw [← hC] at HF HP HD HV HU HE K0 KR HW ⊢
 clear hC
 generalize putRes x r = pd at *
 generalize putCode x r = pc at *
 generalize dropRes x k = dd at *
 generalize dropCode x k = dc at *
 go_enter Tryz.func8, Tryz.ntmps8
 go_wp2_with fail
 refine (awake_ok HSL HCL _).mono ?_
 rintro e w1 ⟨rfl, hb⟩
 replace K0 := hide (K0.out.keep hb)
 replace KR := hide (KR.out.keep hb)
 replace HW := hide (below_step HW.out hb (Nat.le_refl _))
 clear hb
 go_wp2_with (first
  | (refine wpList_load_row_g (by rfl) 34 (.tmp 3) rfl w.heap.size rfl 34 _ (0, 0) _ K0.out Tryz.underlying34 rfl HiC.out ?_)
  | (refine wpList_load_row_g (by rfl) 66 (.tmp 4) rfl (w.heap.size + 1) rfl 66 _ (0, 0) _ KR.out Tryz.underlying66 rfl Hir.out ?_))
 refine (HF.out _ HW.out).mono ?_
 rintro e w2 ⟨⟨q, rfl, hq⟩, hb⟩
 have Hq := hide hq
 replace K0 := hide (K0.out.keep hb)
 replace KR := hide (KR.out.keep hb)
 replace HW := hide (below_step HW.out hb (Nat.le_refl _))
 clear hq HF hb
 have e0 := KR.out.cell 0
 simp at e0
 have l1 := KR.out.lt
 cases q
 ·go_wp2_with fail
  go_ret
  exact ⟨rfl, HW.out⟩
 have Hf := hide (Hq.out rfl)
 clear Hq
 by_cases h60 : 60 < (r.mark.size : Int)
 ·go_wp2_with fail
  go_ret
  exact ⟨rfl, HW.out⟩
 have HPz := hide (HP.out Hf.out _ HW.out)
 clear HP
 go_wp2_with (first
  | (refine wpList_load_row_g (by rfl) 34 (.tmp 3) rfl w.heap.size rfl 34 _ (0, 0) _ K0.out Tryz.underlying34 rfl HiC.out ?_)
  | (refine wpList_load_row_g (by rfl) 66 (.tmp 4) rfl (w.heap.size + 1) rfl 66 _ (0, 0) _ KR.out Tryz.underlying66 rfl Hir.out ?_))
 clear e0 h60 l1
 refine HPz.out.mono ?_
 rintro e w3 ⟨⟨sp, rfl, hat, hft⟩, hb⟩
 replace K0 := hide (K0.out.keep hb)
 replace KR := hide (KR.out.keep hb)
 replace HW := hide (below_step HW.out hb (Nat.le_refl _))
 clear HPz hb
 go_upto_region 6 with (refine wpList_store_row rfl 34 (.tmp 7) (.tmp 31) rfl w3.heap.size (detCells pd.mem pd.rule sp) rfl rfl 34 _ (Blk.new w3 34 zeroD) (by kernel_rfl) rfl (by kernel_rfl) ?_)
 have kk := setRow_heap _ w3.heap.size _ (detCells pd.mem pd.rule sp) _ _ (Blk.new w3 34 zeroD)
 have hb := Below.setRow (below_new w3 (.cells zeroD 34)) (Nat.le_refl _) (detCells pd.mem pd.rule sp)
 generalize World.setRow (w3.alloc (.cells zeroD 34)) w3.heap.size (detCells pd.mem pd.rule sp) = w4 at *
 have K7 := hide (show Blk w4 w3.heap.size 34 (detCells pd.mem pd.rule sp) from kk)
 have H7 := hide (hat.carry hb hb.size)
 have F7 := hide hft
 replace K0 := hide (K0.out.keep hb)
 replace KR := hide (KR.out.keep hb)
 replace HW := hide (below_step HW.out hb (Nat.le_refl _))
 clear kk hat hft
 clear hb
 have HDz := hide (HD.out Hf.out _ HW.out)
 clear HD
 go_wp2_with (first
  | (refine wpList_load_row_g (by rfl) 34 (.tmp 3) rfl w.heap.size rfl 34 _ (0, 0) _ K0.out Tryz.underlying34 rfl HiC.out ?_)
  | (refine wpList_load_row_g (by rfl) 66 (.tmp 4) rfl (w.heap.size + 1) rfl 66 _ (0, 0) _ KR.out Tryz.underlying66 rfl Hir.out ?_))
 refine HDz.out.mono ?_
 rintro e w5 ⟨⟨sd, rfl, hat, hft⟩, hb⟩
 replace K0 := hide (K0.out.keep hb)
 replace KR := hide (KR.out.keep hb)
 replace HW := hide (below_step HW.out hb (Nat.le_refl _))
 replace K7 := hide (K7.out.keep hb)
 replace H7 := hide (H7.out.carry hb hb.size)
 clear HDz hb
 go_upto_region 7 with (refine wpList_store_row rfl 34 (.tmp 9) (.tmp 37) rfl w5.heap.size (detCells dd.mem dd.rule sd) rfl rfl 34 _ (Blk.new w5 34 zeroD) (by kernel_rfl) rfl (by kernel_rfl) ?_)
 have kk := setRow_heap _ w5.heap.size _ (detCells dd.mem dd.rule sd) _ _ (Blk.new w5 34 zeroD)
 have hb := Below.setRow (below_new w5 (.cells zeroD 34)) (Nat.le_refl _) (detCells dd.mem dd.rule sd)
 generalize World.setRow (w5.alloc (.cells zeroD 34)) w5.heap.size (detCells dd.mem dd.rule sd) = w6 at *
 have K9 := hide (show Blk w6 w5.heap.size 34 (detCells dd.mem dd.rule sd) from kk)
 have H9 := hide (hat.carry hb hb.size)
 have F9 := hide hft
 replace K0 := hide (K0.out.keep hb)
 replace KR := hide (KR.out.keep hb)
 replace HW := hide (below_step HW.out hb (Nat.le_refl _))
 clear kk hat hft
 replace K7 := hide (K7.out.keep hb)
 replace H7 := hide (H7.out.carry hb hb.size)
 clear hb
 have HVz := hide (HV.out Hf.out _ HW.out)
 clear HV
 go_wp2_with (first
  | (refine wpList_load_row_g (by rfl) 34 (.tmp 3) rfl w.heap.size rfl 34 _ (0, 0) _ K0.out Tryz.underlying34 rfl HiC.out ?_)
  | (refine wpList_load_row_g (by rfl) 66 (.tmp 4) rfl (w.heap.size + 1) rfl 66 _ (0, 0) _ KR.out Tryz.underlying66 rfl Hir.out ?_))
 refine HVz.out.mono ?_
 rintro e w7 ⟨rfl, hb⟩
 replace K0 := hide (K0.out.keep hb)
 replace KR := hide (KR.out.keep hb)
 replace HW := hide (below_step HW.out hb (Nat.le_refl _))
 replace K7 := hide (K7.out.keep hb)
 replace H7 := hide (H7.out.carry hb hb.size)
 replace K9 := hide (K9.out.keep hb)
 replace H9 := hide (H9.out.carry hb hb.size)
 clear HVz hb
 cases hd : detOk x
 ·obtain ⟨rfl, rfl, rfl, rfl⟩ := HZ.out hd
  clear HU HE HZ hd
  go_upto_region 9 with (refine wpList_store_row rfl 34 (.tmp 11) (.tmp 42) rfl w7.heap.size zeroD rfl rfl 34 _ (Blk.new w7 34 zeroD) (by kernel_rfl) rfl (by kernel_rfl) ?_)
  have kk := setRow_heap _ w7.heap.size _ zeroD _ _ (Blk.new w7 34 zeroD)
  have hb := Below.setRow (below_new w7 (.cells zeroD 34)) (Nat.le_refl _) zeroD
  generalize World.setRow (w7.alloc (.cells zeroD 34)) w7.heap.size zeroD = w8 at *
  have K11 := hide (show Blk w8 w7.heap.size 34 zeroD from kk)
  replace K0 := hide (K0.out.keep hb)
  replace KR := hide (KR.out.keep hb)
  replace HW := hide (below_step HW.out hb (Nat.le_refl _))
  replace K7 := hide (K7.out.keep hb)
  replace H7 := hide (H7.out.carry hb hb.size)
  replace K9 := hide (K9.out.keep hb)
  replace H9 := hide (H9.out.carry hb hb.size)
  have HS1 := hide (HS.out det0 bnd0 sp det0S w8 H7.out (det0_at _ _) F7.out det0_fit)
  clear kk hb
  go_wp2_with (first
   | (refine wpList_load_row_g (by rfl) 34 (.tmp 7) rfl w3.heap.size rfl 34 _ (0, 0) _ K7.out Tryz.underlying34 rfl (HiX.out _ _) ?_)
   | (refine wpList_load_row_g (by rfl) 34 (.tmp 11) rfl w7.heap.size rfl 34 _ (0, 0) _ K11.out Tryz.underlying34 rfl (HiX.out det0 det0S) ?_))
  refine HS1.out.mono ?_
  rintro e w9 ⟨rfl, hb⟩
  replace K0 := hide (K0.out.keep hb)
  replace KR := hide (KR.out.keep hb)
  replace HW := hide (below_step HW.out hb (Nat.le_refl _))
  replace K9 := hide (K9.out.keep hb)
  replace H9 := hide (H9.out.carry hb hb.size)
  replace K11 := hide (K11.out.keep hb)
  have HS2 := hide (HS.out det0 bnd0 sd det0S w9 H9.out (det0_at _ _) F9.out det0_fit)
  clear hb HS1
  go_wp2_with (first
   | (refine wpList_load_row_g (by rfl) 34 (.tmp 9) rfl w5.heap.size rfl 34 _ (0, 0) _ K9.out Tryz.underlying34 rfl (HiX.out _ _) ?_)
   | (refine wpList_load_row_g (by rfl) 34 (.tmp 11) rfl w7.heap.size rfl 34 _ (0, 0) _ K11.out Tryz.underlying34 rfl (HiX.out det0 det0S) ?_))
  refine HS2.out.mono ?_
  rintro e wa ⟨rfl, hb⟩
  replace K0 := hide (K0.out.keep hb)
  replace KR := hide (KR.out.keep hb)
  replace HW := hide (below_step HW.out hb (Nat.le_refl _))
  go_wp2_with fail
  go_ret
  exact ⟨rfl, HW.out⟩
 ·have HUz := hide (HU.out Hf.out hd _ HW.out)
  have HEz := hide (HE.out Hf.out hd)
  clear HU HE HZ hd
  go_wp2_with (first
   | (refine wpList_load_row_g (by rfl) 34 (.tmp 3) rfl w.heap.size rfl 34 _ (0, 0) _ K0.out Tryz.underlying34 rfl HiC.out ?_)
   | (refine wpList_load_row_g (by rfl) 66 (.tmp 4) rfl (w.heap.size + 1) rfl 66 _ (0, 0) _ KR.out Tryz.underlying66 rfl Hir.out ?_))
  refine HUz.out.mono ?_
  rintro e w8 ⟨⟨su, rfl, hat, hft⟩, hb⟩
  replace K0 := hide (K0.out.keep hb)
  replace KR := hide (KR.out.keep hb)
  replace HW := hide (below_step HW.out hb (Nat.le_refl _))
  replace K7 := hide (K7.out.keep hb)
  replace H7 := hide (H7.out.carry hb hb.size)
  replace K9 := hide (K9.out.keep hb)
  replace H9 := hide (H9.out.carry hb hb.size)
  clear HUz hb
  go_upto_region 11 with (refine wpList_store_row rfl 34 (.tmp 12) (.tmp 63) rfl w8.heap.size (detCells pd.mem pd.rule su) rfl rfl 34 _ (Blk.new w8 34 zeroD) (by kernel_rfl) rfl (by kernel_rfl) ?_)
  have kk := setRow_heap _ w8.heap.size _ (detCells pd.mem pd.rule su) _ _ (Blk.new w8 34 zeroD)
  have hb := Below.setRow (below_new w8 (.cells zeroD 34)) (Nat.le_refl _) (detCells pd.mem pd.rule su)
  generalize World.setRow (w8.alloc (.cells zeroD 34)) w8.heap.size (detCells pd.mem pd.rule su) = w9 at *
  have K12 := hide (show Blk w9 w8.heap.size 34 (detCells pd.mem pd.rule su) from kk)
  have H12 := hide (hat.carry hb hb.size)
  have F12 := hide hft
  replace K0 := hide (K0.out.keep hb)
  replace KR := hide (KR.out.keep hb)
  replace HW := hide (below_step HW.out hb (Nat.le_refl _))
  clear kk hat hft
  replace K7 := hide (K7.out.keep hb)
  replace H7 := hide (H7.out.carry hb hb.size)
  replace K9 := hide (K9.out.keep hb)
  replace H9 := hide (H9.out.carry hb hb.size)
  clear hb
  go_wp2_with (first
   | (refine wpList_load_row_g (by rfl) 34 (.tmp 3) rfl w.heap.size rfl 34 _ (0, 0) _ K0.out Tryz.underlying34 rfl HiC.out ?_)
   | (refine wpList_load_row_g (by rfl) 66 (.tmp 4) rfl (w.heap.size + 1) rfl 66 _ (0, 0) _ KR.out Tryz.underlying66 rfl Hir.out ?_))
  refine (HEz.out _ HW.out).mono ?_
  rintro e wa ⟨⟨sv, rfl, hat, hft⟩, hb⟩
  replace K0 := hide (K0.out.keep hb)
  replace KR := hide (KR.out.keep hb)
  replace HW := hide (below_step HW.out hb (Nat.le_refl _))
  replace K7 := hide (K7.out.keep hb)
  replace H7 := hide (H7.out.carry hb hb.size)
  replace K9 := hide (K9.out.keep hb)
  replace H9 := hide (H9.out.carry hb hb.size)
  replace K12 := hide (K12.out.keep hb)
  replace H12 := hide (H12.out.carry hb hb.size)
  clear HEz hb
  go_upto_region 12 with (refine wpList_store_row rfl 34 (.tmp 14) (.tmp 69) rfl wa.heap.size (detCells dd.mem dd.rule sv) rfl rfl 34 _ (Blk.new wa 34 zeroD) (by kernel_rfl) rfl (by kernel_rfl) ?_)
  have kk := setRow_heap _ wa.heap.size _ (detCells dd.mem dd.rule sv) _ _ (Blk.new wa 34 zeroD)
  have hb := Below.setRow (below_new wa (.cells zeroD 34)) (Nat.le_refl _) (detCells dd.mem dd.rule sv)
  generalize World.setRow (wa.alloc (.cells zeroD 34)) wa.heap.size (detCells dd.mem dd.rule sv) = wb at *
  have K14 := hide (show Blk wb wa.heap.size 34 (detCells dd.mem dd.rule sv) from kk)
  have H14 := hide (hat.carry hb hb.size)
  have F14 := hide hft
  replace K0 := hide (K0.out.keep hb)
  replace KR := hide (KR.out.keep hb)
  replace HW := hide (below_step HW.out hb (Nat.le_refl _))
  clear kk hat hft
  replace K7 := hide (K7.out.keep hb)
  replace H7 := hide (H7.out.carry hb hb.size)
  replace K9 := hide (K9.out.keep hb)
  replace H9 := hide (H9.out.carry hb hb.size)
  replace K12 := hide (K12.out.keep hb)
  replace H12 := hide (H12.out.carry hb hb.size)
  have HS1 := hide (HS.out pd (Hbp.out Hf.out) sp su wb H7.out H12.out F7.out F12.out)
  clear hb
  go_wp2_with (first
   | (refine wpList_load_row_g (by rfl) 34 (.tmp 7) rfl w3.heap.size rfl 34 _ (0, 0) _ K7.out Tryz.underlying34 rfl (HiX.out _ _) ?_)
   | (refine wpList_load_row_g (by rfl) 34 (.tmp 12) rfl w8.heap.size rfl 34 _ (0, 0) _ K12.out Tryz.underlying34 rfl (HiX.out _ _) ?_))
  refine HS1.out.mono ?_
  rintro e wc ⟨rfl, hb⟩
  replace K0 := hide (K0.out.keep hb)
  replace KR := hide (KR.out.keep hb)
  replace HW := hide (below_step HW.out hb (Nat.le_refl _))
  replace K9 := hide (K9.out.keep hb)
  replace H9 := hide (H9.out.carry hb hb.size)
  replace K14 := hide (K14.out.keep hb)
  replace H14 := hide (H14.out.carry hb hb.size)
  have HS2 := hide (HS.out dd (Hbd.out Hf.out) sd sv wc H9.out H14.out F9.out F14.out)
  clear hb HS1
  go_wp2_with (first
   | (refine wpList_load_row_g (by rfl) 34 (.tmp 9) rfl w5.heap.size rfl 34 _ (0, 0) _ K9.out Tryz.underlying34 rfl (HiX.out _ _) ?_)
   | (refine wpList_load_row_g (by rfl) 34 (.tmp 14) rfl wa.heap.size rfl 34 _ (0, 0) _ K14.out Tryz.underlying34 rfl (HiX.out _ _) ?_))
  refine HS2.out.mono ?_
  rintro e wd ⟨rfl, hb⟩
  replace K0 := hide (K0.out.keep hb)
  replace KR := hide (KR.out.keep hb)
  replace HW := hide (below_step HW.out hb (Nat.le_refl _))
  go_wp2_with fail
  go_ret
  exact ⟨rfl, HW.out⟩
end Go.Proofs.YtpaanfjjnjjoeaaGreat
