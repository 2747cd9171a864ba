/- The law DetailCopies: a copy stays as it is, whatever becomes of the other one. -/
import Derived.Test.YtpaanfjjnjjoeaaGreatQrow
import Derived.Test.YtpaanfjjnjjoeaaGreatOwnS
import Derived.Test.YtpaanfjjnjjoeaaGreatQbn
namespace Go.Proofs.YtpaanfjjnjjoeaaGreat
open Go.RowKit Go.Sort

set_option maxHeartbeats 16000000 in
set_option maxRecDepth 100000 in
theorem detailCopies_lawW (HSL : SortLaw) (HCL : CompLaw) (x : DetD) (s : DetS) (k : Int) (w : World) {B : Nat} (h : DetAt w B x s) (hB : B ≤ w.heap.size) (hl : DetLen x s) (hk : 0 ≤ k ∧ k < 256) :
    Calls Tryz.prog 6 #[detV x s, .int .u8 k] w fun e w' => e = .returned (.bool true) ∧ Below w.heap.size w w' := by
  have HR := hide (fun (W : World) (hz : Below w.heap.size w W) => show Calls Tryz.prog 17 #[.agg (detCells x.mem x.rule s)] W _ from right49_any x s W (h.carry (hz.mono hB) (Nat.le_refl _)) (Nat.le_trans hB hz.size) hl)
  have hn12 : ∀ f : Few x s, s.n1 ≤ 300000 ∧ s.n2 ≤ 300000 := fun f => ⟨Nat.le_trans f.boxes (by decide), Nat.le_trans f.holes (by decide)⟩
  have hds : ∀ f : Few x s, ∀ b ∈ x.bars, b.dims.length ≤ 300000 := fun f b hb => Nat.le_trans (f.tame b hb).2 (by decide)
  have hst : ∀ f : Few x s, ∀ d ∈ x.dems, d.steps.length ≤ 60000 := fun f d hd => Nat.le_trans (f.dems d hd).2 (by decide)
  have hst3 : ∀ f : Few x s, ∀ d ∈ x.dems, d.steps.length ≤ 300000 := fun f d hd => Nat.le_trans (f.dems d hd).2 (by decide)
  have HC := hide (fun (f : Few x s) (W : World) (hz : Below w.heap.size w W) => show Calls Tryz.prog 25 #[.agg (detCells x.mem x.rule s)] W _ from copy_ok x s W (h.carry (hz.mono hB) (Nat.le_refl _)) (Nat.le_trans hB hz.size) (few_fit hl f) (hn12 f).1 (hn12 f).2 (hds f) (hst3 f))
  have HC2 := hide (fun (f : Few x s) (s' : DetS) (W : World) (h9 : DetAt W W.heap.size x s') (hf : DetFit x s') => show Calls Tryz.prog 25 #[.agg (detCells x.mem x.rule s')] W _ from copy_ok x s' W h9 (Nat.le_refl _) hf (by rw [hf.l1, ← hl.l1]; exact (hn12 f).1) (by rw [hf.l2, ← hl.l2]; exact (hn12 f).2) (hds f) (hst3 f))
  -- a detail that is the first one, and one that is not
  have HSn := hide (fun (f : Few x s) (x' : DetD) (s' : DetS) (B2 : Nat) (W : World) (hz : Below w.heap.size w W) (h9 : DetAt W B2 x' s') (hB2 : B2 ≤ W.heap.size) (hf : DetFit x' s') (h1 : s'.n1 ≤ 300000) (h2 : s'.n2 ≤ 300000) (h3 : ∀ d ∈ x'.dems, d.steps.length ≤ 60000) => show Calls Tryz.prog 27 #[.agg (detCells x'.mem x'.rule s'), .agg (detCells x.mem x.rule s)] W _ from
    detSame_any x' x s' s W h9 (h.carry (hz.mono hB) (Nat.le_refl _)) hB2 (Nat.le_trans hB hz.size) hf (few_fit hl f) h1 h2 (hn12 f).1 (hn12 f).2 h3 (hst f))
  have HSx := hide (fun (f : Few x s) (s' : DetS) (W : World) (hz : Below w.heap.size w W) (h9 : DetAt W W.heap.size x s') (hf : DetFit x s') => show Calls Tryz.prog 27 #[.agg (detCells x.mem x.rule s), .agg (detCells x.mem x.rule s')] W _ from
    detSame_any x x s s' W (h.carry (hz.mono hB) (Nat.le_refl _)) h9 (Nat.le_trans hB hz.size) (Nat.le_refl _) (few_fit hl f) hf (hn12 f).1 (hn12 f).2 (by rw [hf.l1, ← hl.l1]; exact (hn12 f).1) (by rw [hf.l2, ← hl.l2]; exact (hn12 f).2) (hst f) (hst f))
  have hxx : eqDet x x = true := eqDet_iff.2 rfl
  rw [hxx] at HSx
  have Hff := hide (fun (f : Few x s) => few_fit hl f)
  have Hst := hide hst
  have Hn12 := hide (fun (f : Few x s) (s' : DetS) (hf : DetFit x s') => show s'.n1 ≤ 300000 ∧ s'.n2 ≤ 300000 from ⟨by rw [hf.l1, ← hl.l1]; exact (hn12 f).1, by rw [hf.l2, ← hl.l2]; exact (hn12 f).2⟩)
  have HiX := hide (fun (s' : DetS) => show (Tryz.prog.info? 34).map (·.size) = some (detCells x.mem x.rule s').size from (by kernel_rfl : (Tryz.prog.info? 34).map (·.size) = some 19))
  have K0 := hide (Blk.new w 34 (detCells x.mem x.rule s))
  have HW := hide (below_new w (.cells (detCells x.mem x.rule s) 34))
  clear h hn12 hds hst hst3 hl hxx hB
  show Calls Tryz.prog 6 #[.agg (detCells x.mem x.rule s), .int .u8 k] w _
  obtain ⟨C, hC⟩ : ∃ C, C = detCells x.mem x.rule s := ⟨_, rfl⟩
  have HiC := hide (show (Tryz.prog.info? 34).map (·.size) = some C.size by rw [hC]; exact HiX.out s)
  rw [← hC] at HR HC HSn HSx K0 HW ⊢
  clear hC
  go_enter Tryz.func6, Tryz.ntmps6
  go_wp2_with fail
  refine (awake_ok HSL HCL _).mono ?_
  rintro e w1 ⟨rfl, hb⟩
  replace K0 := hide (K0.out.keep hb)
  replace HW := hide (below_step HW.out hb (Nat.le_refl _))
  clear hb
  go_wp2_with (refine wpList_load_row_g (by rfl) 34 (.tmp 2) rfl w.heap.size rfl 34 _ (0, 0) _ K0.out Tryz.underlying34 rfl HiC.out ?_)
  refine (HR.out _ HW.out).mono ?_
  rintro e w2 ⟨⟨q, rfl, hq⟩, hb⟩
  have Hq := hide hq
  replace K0 := hide (K0.out.keep hb)
  replace HW := hide (below_step HW.out hb (Nat.le_refl _))
  clear hq HR hb
  cases q
  · go_wp2_with fail
    go_ret
    exact ⟨rfl, HW.out⟩
  have K02 := hide K0.out
  have Hf := hide (Hq.out rfl).1
  have Hdet := hide (Hq.out rfl).2
  clear Hq
  have HCz := hide (HC.out Hf.out _ HW.out)
  clear HC
  go_wp2_with (refine wpList_load_row_g (by rfl) 34 (.tmp 2) rfl w.heap.size rfl 34 _ (0, 0) _ K0.out Tryz.underlying34 rfl HiC.out ?_)
  refine HCz.out.mono ?_
  rintro e w3 ⟨hcp, hb⟩
  have hz23 := hb.size
  replace K0 := hide (K0.out.keep hb)
  replace HW := hide (below_step HW.out hb (Nat.le_refl _))
  clear HCz hb
  rcases hcp with ⟨_, s3, rfl, hcp⟩ | ⟨hd, _⟩
  rotate_left
  · rw [Hdet.out] at hd
    cases hd
  have Hcp := hide hcp
  clear hcp
  have Hv := hide (show detV x s3 = .agg (detCells x.mem x.rule s3) from rfl)
  show _
  go_upto_region 6 with (refine wpList_store_row rfl 34 (.tmp 5) (.tmp 17) rfl w3.heap.size (detCells x.mem x.rule s3) rfl rfl 34 _ (Blk.new w3 34 zeroD) (by kernel_rfl) rfl (by kernel_rfl) ?_)
  have k5 := setRow_heap _ w3.heap.size _ (detCells x.mem x.rule s3) _ _ (Blk.new w3 34 zeroD)
  have hb := Below.setRow (below_new w3 (.cells zeroD 34)) (Nat.le_refl _) (detCells x.mem x.rule s3)
  generalize World.setRow (w3.alloc (.cells zeroD 34)) w3.heap.size (detCells x.mem x.rule s3) = w4 at *
  have K5 := hide (show Blk w4 w3.heap.size 34 (detCells x.mem x.rule s3) from k5)
  have Hc := hide (Hcp.out.keep hb)
  have Hcf := hide (Hcp.out.read (Hff.out Hf.out)).2
  replace K0 := hide (K0.out.keep hb)
  replace HW := hide (below_step HW.out hb (Nat.le_refl _))
  have hlo2 : w.heap.size < w2.heap.size := K02.out.lt
  clear hb k5 Hcp
  obtain ⟨_, b, LB, LD, ho⟩ := Hc.out
  have Ho4 := hide ho
  clear ho Hc
  have HS1 := hide (HSn.out Hf.out x s3 _ w4 HW.out Ho4.out.at_ (Nat.le_refl _) Hcf.out (Hn12.out Hf.out s3 Hcf.out).1 (Hn12.out Hf.out s3 Hcf.out).2 (Hst.out Hf.out))
  rw [show eqDet x x = true from eqDet_iff.2 rfl] at HS1
  go_wp2_with (first
    | (refine wpList_load_row_g (by rfl) 34 (.tmp 2) rfl w.heap.size rfl 34 _ (0, 0) _ K0.out Tryz.underlying34 rfl HiC.out ?_)
    | (refine wpList_load_row_g (by rfl) 34 (.tmp 5) rfl w3.heap.size rfl 34 _ (0, 0) _ K5.out Tryz.underlying34 rfl (HiX.out s3) ?_))
  refine HS1.out.mono ?_
  rintro e w5 ⟨rfl, hb⟩
  have Ho5 := hide (Ho4.out.keep hb)
  replace K0 := hide (K0.out.keep hb)
  replace K5 := hide (K5.out.keep hb)
  replace HW := hide (below_step HW.out hb (Nat.le_refl _))
  clear hb HS1 Ho4
  have HS2 := hide (HSx.out Hf.out s3 w5 HW.out Ho5.out.at_ Hcf.out)
  clear HSx
  go_wp2_with (first
    | (refine wpList_load_row_g (by rfl) 34 (.tmp 2) rfl w.heap.size rfl 34 _ (0, 0) _ K0.out Tryz.underlying34 rfl HiC.out ?_)
    | (refine wpList_load_row_g (by rfl) 34 (.tmp 5) rfl w3.heap.size rfl 34 _ (0, 0) _ K5.out Tryz.underlying34 rfl (HiX.out s3) ?_))
  refine HS2.out.mono ?_
  rintro e w6 ⟨rfl, hb⟩
  have Ho6 := hide (Ho5.out.keep hb)
  replace K0 := hide (K0.out.keep hb)
  replace K5 := hide (K5.out.keep hb)
  replace HW := hide (below_step HW.out hb (Nat.le_refl _))
  clear hb HS2 Ho5
  have Hz36 := hide K5.out.lt
  have HC6 := hide (HC2.out Hf.out s3 w6 Ho6.out.at_ Hcf.out)
  clear HC2
  go_wp2_with (first
    | (refine wpList_load_row_g (by rfl) 34 (.tmp 2) rfl w.heap.size rfl 34 _ (0, 0) _ K0.out Tryz.underlying34 rfl HiC.out ?_)
    | (refine wpList_load_row_g (by rfl) 34 (.tmp 5) rfl w3.heap.size rfl 34 _ (0, 0) _ K5.out Tryz.underlying34 rfl (HiX.out s3) ?_))
  refine HC6.out.mono ?_
  rintro e w8 ⟨hcp, hb⟩
  have Ho8 := hide (Ho6.out.keep hb)
  have hz68 := hb.size
  replace K0 := hide (K0.out.keep hb)
  replace K5 := hide (K5.out.keep hb)
  replace HW := hide (below_step HW.out hb (Nat.le_refl _))
  clear hb HC6
  rcases hcp with ⟨_, s6, rfl, hcp⟩ | ⟨hd, _⟩
  rotate_left
  · rw [Hdet.out] at hd
    cases hd
  have Hdp := hide hcp
  clear hcp
  have Hv6 := hide (show detV x s6 = .agg (detCells x.mem x.rule s6) from rfl)
  show _
  go_upto_region 9 with (refine wpList_store_row rfl 34 (.tmp 7) (.tmp 36) rfl w8.heap.size (detCells x.mem x.rule s6) rfl rfl 34 _ (Blk.new w8 34 zeroD) (by kernel_rfl) rfl (by kernel_rfl) ?_)
  have k7 := setRow_heap _ w8.heap.size _ (detCells x.mem x.rule s6) _ _ (Blk.new w8 34 zeroD)
  have hb := Below.setRow (below_new w8 (.cells zeroD 34)) (Nat.le_refl _) (detCells x.mem x.rule s6)
  generalize World.setRow (w8.alloc (.cells zeroD 34)) w8.heap.size (detCells x.mem x.rule s6) = w9 at *
  have K7 := hide (show Blk w9 w8.heap.size 34 (detCells x.mem x.rule s6) from k7)
  have Ho9 := hide (Ho8.out.keep hb)
  have Hdf := hide (Hdp.out.read Hcf.out).2
  obtain ⟨_, b', LB', LD', hod⟩ := Hdp.out.keep hb
  have Hod := hide hod
  replace K0 := hide (K0.out.keep hb)
  replace K5 := hide (K5.out.keep hb)
  replace HW := hide (below_step HW.out hb (Nat.le_refl _))
  clear hb k7 Hdp hod Ho8
  have hk6 : (wrap64 k).tmod 6 = 0 ∨ (wrap64 k).tmod 6 = 1 ∨ (wrap64 k).tmod 6 = 2 ∨ (wrap64 k).tmod 6 = 3 ∨ (wrap64 k).tmod 6 = 4 ∨ (wrap64 k).tmod 6 = 5 := by
    rw [show wrap64 k = k from IntWalk.wrap64_in _ (by omega), Int.tmod_eq_emod_of_nonneg hk.1]
    omega
  go_upto_region 11 with fail
  have hz36 := Hz36.out
  have l5 := K5.out.lt
  clear hk
  rcases hk6 with hr | hr | hr | hr | hr | hr
  · obtain ⟨q, r, hx⟩ := det_boxes Hdet.out
    obtain ⟨g, cs, hA, hgl, hg6, hblk, hcv, hat⟩ := Ho9.out.put_box hx
    have hn : 0 < s3.n1 := by rw [Hcf.out.l1, hx]; simp
    have a1 := K5.out.cell 1
    simp only [detCells] at a1
    simp at a1
    rw [hA] at a1
    have hlt6 := hg6 _ Ho6.out
    have n0 : w.heap.size ≠ g := by omega
    have n5 : w3.heap.size ≠ g := (blk_ne hblk K5.out (by decide)).symm
    have n7 : w8.heap.size ≠ g := (blk_ne hblk K7.out (by decide)).symm
    have hc0 := hblk.cell 3
    have hf0 := hblk.frozen 3
    rw [hcv] at hc0
    obtain ⟨u, hu⟩ : ∃ u, IntKind.i64.wrap (q.hi.1 + 1) = u := ⟨_, rfl⟩
    have hun : u ≠ q.hi.1 := by rw [← hu]; exact wrap_ne _
    have HS1 := hide (HSn.out Hf.out ⟨⟨x.mem.name, ⟨q.lo, (u, q.hi.2)⟩ :: r, x.mem.holes, x.mem.cover, x.mem.aggregate, x.mem.poker⟩, x.bars, x.runs, x.laps, x.dems, x.rule⟩ s3 _ _ (HW.out.setCell (p := ⟨g, 3, none⟩) (show w.heap.size ≤ g by omega) (.int .i64 u)) (hat u) (Nat.le_refl _)
      (Hcf.out.like (by first | rfl | (rw [hx]; rfl)) rfl (by first | rfl | (rw [hx]; rfl)) (by first | rfl | (rw [hx]; rfl)) (by first | rfl | (rw [hx]; rfl)) (by first | rfl | (rw [hx]; rfl)) rfl) (Hn12.out Hf.out s3 Hcf.out).1 (Hn12.out Hf.out s3 Hcf.out).2 (steps_like (x := x) (by first | rfl | (rw [hx]; rfl)) (Hst.out Hf.out)))
    have hne : eqDet ⟨⟨x.mem.name, ⟨q.lo, (u, q.hi.2)⟩ :: r, x.mem.holes, x.mem.cover, x.mem.aggregate, x.mem.poker⟩, x.bars, x.runs, x.laps, x.dems, x.rule⟩ x = false := by
      cases hq : eqDet ⟨⟨x.mem.name, ⟨q.lo, (u, q.hi.2)⟩ :: r, x.mem.holes, x.mem.cover, x.mem.aggregate, x.mem.poker⟩, x.bars, x.runs, x.laps, x.dems, x.rule⟩ x
      · rfl
      · have h8 := congrArg (fun d : DetD => d.mem.boxes.head?.map (fun z => z.hi.1)) (eqDet_iff.1 hq)
        simp only at h8
        rw [hx] at h8
        injection h8 with h8
        exact absurd h8 hun
    rw [hne] at HS1
    have K0' := hide (K0.out.far (p := ⟨g, 3, none⟩) n0 (.int .i64 u))
    have K5' := hide (K5.out.far (p := ⟨g, 3, none⟩) n5 (.int .i64 u))
    have K7' := hide (K7.out.far (p := ⟨g, 3, none⟩) n7 (.int .i64 u))
    have HW' := hide (HW.out.setCell (p := ⟨g, 3, none⟩) (show w.heap.size ≤ g by omega) (.int .i64 u))
    have HDD := hide (Hod.out.kept (grown_set w9 g 3 (.int .i64 u)) (fun k hk => by
      injection hk with hk
      subst hk
      exact Nat.lt_of_lt_of_le hlt6 Hod.out.low))
    have lg := hblk.lt
    clear hat hne hun hg6 hcv hlt6 hgl n0 n5 n7
    clear hx hA
    go_wp2_with (first
      | (refine wpList_load_row_g (by rfl) 34 (.tmp 2) rfl w.heap.size rfl 34 _ (0, 0) _ K0'.out Tryz.underlying34 rfl HiC.out ?_)
      | (refine wpList_load_row_g (by rfl) 34 (.tmp 5) rfl w3.heap.size rfl 34 _ (0, 0) _ K5'.out Tryz.underlying34 rfl (HiX.out s3) ?_))
    refine HS1.out.mono ?_
    rintro e wa ⟨rfl, hb⟩
    have HS2 := hide (HSn.out Hf.out x s6 _ wa (below_step HW'.out hb (Nat.le_refl _)) (HDD.out.keep hb).at_ (Nat.le_refl _) Hdf.out (Hn12.out Hf.out s6 Hdf.out).1 (Hn12.out Hf.out s6 Hdf.out).2 (Hst.out Hf.out))
    rw [show eqDet x x = true from eqDet_iff.2 rfl] at HS2
    have KA := hide (K0'.out.keep hb)
    have KB := hide (K7'.out.keep hb)
    have HWa := hide (below_step HW'.out hb (Nat.le_refl _))
    clear hb HS1
    go_wp2_with (first
      | (refine wpList_load_row_g (by rfl) 34 (.tmp 2) rfl w.heap.size rfl 34 _ (0, 0) _ KA.out Tryz.underlying34 rfl HiC.out ?_)
      | (refine wpList_load_row_g (by rfl) 34 (.tmp 7) rfl w8.heap.size rfl 34 _ (0, 0) _ KB.out Tryz.underlying34 rfl (HiX.out s6) ?_))
    refine HS2.out.mono ?_
    rintro e wb ⟨rfl, hb⟩
    have HWb := hide (below_step HWa.out hb (Nat.le_refl _))
    clear hb HS2
    go_wp2_with fail
    go_ret
    exact ⟨rfl, HWb.out⟩
  · have a6 := K5.out.cell 6
    simp only [detCells] at a6
    simp at a6
    cases hx : x.bars with
    | nil =>
      have hn : s3.n3 = 0 := by rw [Hcf.out.l3, hx]; rfl
      rw [hn] at a6
      clear hx hn
      go_wp2_with fail
      go_ret
      exact ⟨rfl, HW.out⟩
    | cons q r =>
      obtain ⟨d0, ds, hd⟩ := det_dims Hdet.out hx
      obtain ⟨m, z1, z2, z3, dd⟩ := q
      simp only at hd
      subst hd
      obtain ⟨g, cs, g2, cs2, c2, hA, hblk2, hcv2, hgl, hg6, hblk, hcv, hat⟩ := Ho9.out.put_dim hx
      have hn : 0 < s3.n3 := by rw [Hcf.out.l3, hx]; simp
      rw [hA] at a6
      have hb4 := hblk2.cell 4
      rw [hcv2] at hb4
      have lg2 := hblk2.lt
      have hnz : ((s3.n3 : Int) == 0) = false := by simp; omega
      have hlt6 := hg6 _ Ho6.out
      have n0 : w.heap.size ≠ g := by omega
      have n5 : w3.heap.size ≠ g := (blk_ne hblk K5.out (by decide)).symm
      have n7 : w8.heap.size ≠ g := (blk_ne hblk K7.out (by decide)).symm
      have hc0 := hblk.cell 0
      have hf0 := hblk.frozen 0
      rw [hcv] at hc0
      obtain ⟨u, hu⟩ : ∃ u, IntKind.i64.wrap (d0 + 1) = u := ⟨_, rfl⟩
      have hun : u ≠ d0 := by rw [← hu]; exact wrap_ne _
      have HS1 := hide (HSn.out Hf.out ⟨x.mem, ⟨m, z1, z2, z3, u :: ds⟩ :: r, x.runs, x.laps, x.dems, x.rule⟩ s3 _ _ (HW.out.setCell (p := ⟨g, 0, none⟩) (show w.heap.size ≤ g by omega) (.int .i64 u)) (hat u) (Nat.le_refl _)
        (Hcf.out.like (by first | rfl | (rw [hx]; rfl)) rfl (by first | rfl | (rw [hx]; rfl)) (by first | rfl | (rw [hx]; rfl)) (by first | rfl | (rw [hx]; rfl)) (by first | rfl | (rw [hx]; rfl)) rfl) (Hn12.out Hf.out s3 Hcf.out).1 (Hn12.out Hf.out s3 Hcf.out).2 (steps_like (x := x) (by first | rfl | (rw [hx]; rfl)) (Hst.out Hf.out)))
      have hne : eqDet ⟨x.mem, ⟨m, z1, z2, z3, u :: ds⟩ :: r, x.runs, x.laps, x.dems, x.rule⟩ x = false := by
        cases hq : eqDet ⟨x.mem, ⟨m, z1, z2, z3, u :: ds⟩ :: r, x.runs, x.laps, x.dems, x.rule⟩ x
        · rfl
        · have h8 := congrArg (fun d : DetD => d.bars.head?.bind (fun z => z.dims.head?)) (eqDet_iff.1 hq)
          simp only at h8
          rw [hx] at h8
          injection h8 with h8
          exact absurd h8 hun
      rw [hne] at HS1
      have K0' := hide (K0.out.far (p := ⟨g, 0, none⟩) n0 (.int .i64 u))
      have K5' := hide (K5.out.far (p := ⟨g, 0, none⟩) n5 (.int .i64 u))
      have K7' := hide (K7.out.far (p := ⟨g, 0, none⟩) n7 (.int .i64 u))
      have HW' := hide (HW.out.setCell (p := ⟨g, 0, none⟩) (show w.heap.size ≤ g by omega) (.int .i64 u))
      have HDD := hide (Hod.out.kept (grown_set w9 g 0 (.int .i64 u)) (fun k hk => by
        injection hk with hk
        subst hk
        exact Nat.lt_of_lt_of_le hlt6 Hod.out.low))
      have lg := hblk.lt
      clear hat hne hun hg6 hcv hlt6 hgl n0 n5 n7
      clear hx hA hcv2 hblk2
      go_wp2_with (first
        | (refine wpList_load_row_g (by rfl) 34 (.tmp 2) rfl w.heap.size rfl 34 _ (0, 0) _ K0'.out Tryz.underlying34 rfl HiC.out ?_)
        | (refine wpList_load_row_g (by rfl) 34 (.tmp 5) rfl w3.heap.size rfl 34 _ (0, 0) _ K5'.out Tryz.underlying34 rfl (HiX.out s3) ?_))
      refine HS1.out.mono ?_
      rintro e wa ⟨rfl, hb⟩
      have HS2 := hide (HSn.out Hf.out x s6 _ wa (below_step HW'.out hb (Nat.le_refl _)) (HDD.out.keep hb).at_ (Nat.le_refl _) Hdf.out (Hn12.out Hf.out s6 Hdf.out).1 (Hn12.out Hf.out s6 Hdf.out).2 (Hst.out Hf.out))
      rw [show eqDet x x = true from eqDet_iff.2 rfl] at HS2
      have KA := hide (K0'.out.keep hb)
      have KB := hide (K7'.out.keep hb)
      have HWa := hide (below_step HW'.out hb (Nat.le_refl _))
      clear hb HS1
      go_wp2_with (first
        | (refine wpList_load_row_g (by rfl) 34 (.tmp 2) rfl w.heap.size rfl 34 _ (0, 0) _ KA.out Tryz.underlying34 rfl HiC.out ?_)
        | (refine wpList_load_row_g (by rfl) 34 (.tmp 7) rfl w8.heap.size rfl 34 _ (0, 0) _ KB.out Tryz.underlying34 rfl (HiX.out s6) ?_))
      refine HS2.out.mono ?_
      rintro e wb ⟨rfl, hb⟩
      have HWb := hide (below_step HWa.out hb (Nat.le_refl _))
      clear hb HS2
      go_wp2_with fail
      go_ret
      exact ⟨rfl, HWb.out⟩
  · have a7 := K5.out.cell 7
    simp only [detCells] at a7
    simp at a7
    cases hx : x.runs with
    | nil =>
      have hn : s3.n4 = 0 := by rw [Hcf.out.l4, hx]; rfl
      rw [hn] at a7
      clear hx hn
      go_wp2_with fail
      go_ret
      exact ⟨rfl, HW.out⟩
    | cons q r =>
      obtain ⟨g, cs, hA, hgl, hg6, hblk, hcv, hat⟩ := Ho9.out.put_run hx
      have hn : 0 < s3.n4 := by rw [Hcf.out.l4, hx]; simp
      rw [hA] at a7
      have hnz : ((s3.n4 : Int) == 0) = false := by simp; omega
      have hlt6 := hg6 _ Ho6.out
      have n0 : w.heap.size ≠ g := by omega
      have n5 : w3.heap.size ≠ g := (blk_ne hblk K5.out (by decide)).symm
      have n7 : w8.heap.size ≠ g := (blk_ne hblk K7.out (by decide)).symm
      have hc0 := hblk.cell 4
      have hf0 := hblk.frozen 4
      rw [hcv] at hc0
      obtain ⟨u, hu⟩ : ∃ u, IntKind.i64.wrap (q.place.2.1 + 1) = u := ⟨_, rfl⟩
      have hun : u ≠ q.place.2.1 := by rw [← hu]; exact wrap_ne _
      have HS1 := hide (HSn.out Hf.out ⟨x.mem, x.bars, ⟨q.mark, q.tx, q.ty, (q.place.1, u, q.place.2.2), q.step, q.count⟩ :: r, x.laps, x.dems, x.rule⟩ s3 _ _ (HW.out.setCell (p := ⟨g, 4, none⟩) (show w.heap.size ≤ g by omega) (.int .i64 u)) (hat u) (Nat.le_refl _)
        (Hcf.out.like (by first | rfl | (rw [hx]; rfl)) rfl (by first | rfl | (rw [hx]; rfl)) (by first | rfl | (rw [hx]; rfl)) (by first | rfl | (rw [hx]; rfl)) (by first | rfl | (rw [hx]; rfl)) rfl) (Hn12.out Hf.out s3 Hcf.out).1 (Hn12.out Hf.out s3 Hcf.out).2 (steps_like (x := x) (by first | rfl | (rw [hx]; rfl)) (Hst.out Hf.out)))
      have hne : eqDet ⟨x.mem, x.bars, ⟨q.mark, q.tx, q.ty, (q.place.1, u, q.place.2.2), q.step, q.count⟩ :: r, x.laps, x.dems, x.rule⟩ x = false := by
        cases hq : eqDet ⟨x.mem, x.bars, ⟨q.mark, q.tx, q.ty, (q.place.1, u, q.place.2.2), q.step, q.count⟩ :: r, x.laps, x.dems, x.rule⟩ x
        · rfl
        · have h8 := congrArg (fun d : DetD => d.runs.head?.map (fun z => z.place.2.1)) (eqDet_iff.1 hq)
          simp only at h8
          rw [hx] at h8
          injection h8 with h8
          exact absurd h8 hun
      rw [hne] at HS1
      have K0' := hide (K0.out.far (p := ⟨g, 4, none⟩) n0 (.int .i64 u))
      have K5' := hide (K5.out.far (p := ⟨g, 4, none⟩) n5 (.int .i64 u))
      have K7' := hide (K7.out.far (p := ⟨g, 4, none⟩) n7 (.int .i64 u))
      have HW' := hide (HW.out.setCell (p := ⟨g, 4, none⟩) (show w.heap.size ≤ g by omega) (.int .i64 u))
      have HDD := hide (Hod.out.kept (grown_set w9 g 4 (.int .i64 u)) (fun k hk => by
        injection hk with hk
        subst hk
        exact Nat.lt_of_lt_of_le hlt6 Hod.out.low))
      have lg := hblk.lt
      clear hat hne hun hg6 hcv hlt6 hgl n0 n5 n7
      clear hx hA
      go_wp2_with (first
        | (refine wpList_load_row_g (by rfl) 34 (.tmp 2) rfl w.heap.size rfl 34 _ (0, 0) _ K0'.out Tryz.underlying34 rfl HiC.out ?_)
        | (refine wpList_load_row_g (by rfl) 34 (.tmp 5) rfl w3.heap.size rfl 34 _ (0, 0) _ K5'.out Tryz.underlying34 rfl (HiX.out s3) ?_))
      refine HS1.out.mono ?_
      rintro e wa ⟨rfl, hb⟩
      have HS2 := hide (HSn.out Hf.out x s6 _ wa (below_step HW'.out hb (Nat.le_refl _)) (HDD.out.keep hb).at_ (Nat.le_refl _) Hdf.out (Hn12.out Hf.out s6 Hdf.out).1 (Hn12.out Hf.out s6 Hdf.out).2 (Hst.out Hf.out))
      rw [show eqDet x x = true from eqDet_iff.2 rfl] at HS2
      have KA := hide (K0'.out.keep hb)
      have KB := hide (K7'.out.keep hb)
      have HWa := hide (below_step HW'.out hb (Nat.le_refl _))
      clear hb HS1
      go_wp2_with (first
        | (refine wpList_load_row_g (by rfl) 34 (.tmp 2) rfl w.heap.size rfl 34 _ (0, 0) _ KA.out Tryz.underlying34 rfl HiC.out ?_)
        | (refine wpList_load_row_g (by rfl) 34 (.tmp 7) rfl w8.heap.size rfl 34 _ (0, 0) _ KB.out Tryz.underlying34 rfl (HiX.out s6) ?_))
      refine HS2.out.mono ?_
      rintro e wb ⟨rfl, hb⟩
      have HWb := hide (below_step HWa.out hb (Nat.le_refl _))
      clear hb HS2
      go_wp2_with fail
      go_ret
      exact ⟨rfl, HWb.out⟩
  · have a9 := K5.out.cell 9
    simp only [detCells] at a9
    simp at a9
    cases hx : x.dems with
    | nil =>
      have hn : s3.n6 = 0 := by rw [Hcf.out.l6, hx]; rfl
      rw [hn] at a9
      clear hx hn
      go_wp2_with fail
      go_ret
      exact ⟨rfl, HW.out⟩
    | cons q r =>
      obtain ⟨m, z, dd⟩ := q
      have hn : 0 < s3.n6 := by rw [Hcf.out.l6, hx]; simp
      have hnz : ((s3.n6 : Int) == 0) = false := by simp; omega
      cases dd with
      | nil =>
        obtain ⟨g2, cs2, A2, c2, hA, hblk2, hcv2⟩ := Ho9.out.dem0 hx
        rw [hA] at a9
        have hb7 := hblk2.cell 7
        rw [hcv2] at hb7
        simp at hb7
        have lg2 := hblk2.lt
        clear hx hA hcv2 hblk2
        go_wp2_with fail
        go_ret
        exact ⟨rfl, HW.out⟩
      | cons d0 ds =>
        obtain ⟨g, cs, g2, cs2, c2, hA, hblk2, hcv2, hgl, hg6, hblk, hcv, hat⟩ := Ho9.out.put_step hx
        rw [hA] at a9
        have hb7 := hblk2.cell 7
        rw [hcv2] at hb7
        have lg2 := hblk2.lt
        have hnz2 : (((ds.length + 1 : Nat) : Int) == 0) = false := by simp; omega
        have hlt6 := hg6 _ Ho6.out
        have n0 : w.heap.size ≠ g := by omega
        have n5 : w3.heap.size ≠ g := (blk_ne hblk K5.out (by decide)).symm
        have n7 : w8.heap.size ≠ g := (blk_ne hblk K7.out (by decide)).symm
        have hc0 := hblk.cell 1
        have hf0 := hblk.frozen 1
        rw [hcv] at hc0
        obtain ⟨u, hu⟩ : ∃ u, IntKind.i64.wrap (d0.2 + 1) = u := ⟨_, rfl⟩
        have hun : u ≠ d0.2 := by rw [← hu]; exact wrap_ne _
        have HS1 := hide (HSn.out Hf.out ⟨x.mem, x.bars, x.runs, x.laps, ⟨m, z, (d0.1, u) :: ds⟩ :: r, x.rule⟩ s3 _ _ (HW.out.setCell (p := ⟨g, 1, none⟩) (show w.heap.size ≤ g by omega) (.int .i64 u)) (hat u) (Nat.le_refl _)
          (Hcf.out.like (by first | rfl | (rw [hx]; rfl)) rfl (by first | rfl | (rw [hx]; rfl)) (by first | rfl | (rw [hx]; rfl)) (by first | rfl | (rw [hx]; rfl)) (by first | rfl | (rw [hx]; rfl)) rfl) (Hn12.out Hf.out s3 Hcf.out).1 (Hn12.out Hf.out s3 Hcf.out).2 (steps_like (x := x) (by first | rfl | (rw [hx]; rfl)) (Hst.out Hf.out)))
        have hne : eqDet ⟨x.mem, x.bars, x.runs, x.laps, ⟨m, z, (d0.1, u) :: ds⟩ :: r, x.rule⟩ x = false := by
          cases hq : eqDet ⟨x.mem, x.bars, x.runs, x.laps, ⟨m, z, (d0.1, u) :: ds⟩ :: r, x.rule⟩ x
          · rfl
          · have h8 := congrArg (fun d : DetD => d.dems.head?.bind (fun y => y.steps.head?.map (fun v => v.2))) (eqDet_iff.1 hq)
            simp only at h8
            rw [hx] at h8
            injection h8 with h8
            exact absurd h8 hun
        rw [hne] at HS1
        have K0' := hide (K0.out.far (p := ⟨g, 1, none⟩) n0 (.int .i64 u))
        have K5' := hide (K5.out.far (p := ⟨g, 1, none⟩) n5 (.int .i64 u))
        have K7' := hide (K7.out.far (p := ⟨g, 1, none⟩) n7 (.int .i64 u))
        have HW' := hide (HW.out.setCell (p := ⟨g, 1, none⟩) (show w.heap.size ≤ g by omega) (.int .i64 u))
        have HDD := hide (Hod.out.kept (grown_set w9 g 1 (.int .i64 u)) (fun k hk => by
          injection hk with hk
          subst hk
          exact Nat.lt_of_lt_of_le hlt6 Hod.out.low))
        have lg := hblk.lt
        clear hat hne hun hg6 hcv hlt6 hgl n0 n5 n7
        clear hx hA hcv2 hblk2
        go_wp2_with (first
          | (refine wpList_load_row_g (by rfl) 34 (.tmp 2) rfl w.heap.size rfl 34 _ (0, 0) _ K0'.out Tryz.underlying34 rfl HiC.out ?_)
          | (refine wpList_load_row_g (by rfl) 34 (.tmp 5) rfl w3.heap.size rfl 34 _ (0, 0) _ K5'.out Tryz.underlying34 rfl (HiX.out s3) ?_))
        refine HS1.out.mono ?_
        rintro e wa ⟨rfl, hb⟩
        have HS2 := hide (HSn.out Hf.out x s6 _ wa (below_step HW'.out hb (Nat.le_refl _)) (HDD.out.keep hb).at_ (Nat.le_refl _) Hdf.out (Hn12.out Hf.out s6 Hdf.out).1 (Hn12.out Hf.out s6 Hdf.out).2 (Hst.out Hf.out))
        rw [show eqDet x x = true from eqDet_iff.2 rfl] at HS2
        have KA := hide (K0'.out.keep hb)
        have KB := hide (K7'.out.keep hb)
        have HWa := hide (below_step HW'.out hb (Nat.le_refl _))
        clear hb HS1
        go_wp2_with (first
          | (refine wpList_load_row_g (by rfl) 34 (.tmp 2) rfl w.heap.size rfl 34 _ (0, 0) _ KA.out Tryz.underlying34 rfl HiC.out ?_)
          | (refine wpList_load_row_g (by rfl) 34 (.tmp 7) rfl w8.heap.size rfl 34 _ (0, 0) _ KB.out Tryz.underlying34 rfl (HiX.out s6) ?_))
        refine HS2.out.mono ?_
        rintro e wb ⟨rfl, hb⟩
        have HWb := hide (below_step HWa.out hb (Nat.le_refl _))
        clear hb HS2
        go_wp2_with fail
        go_ret
        exact ⟨rfl, HWb.out⟩
  · have a8 := K5.out.cell 8
    simp only [detCells] at a8
    simp at a8
    cases hx : x.laps with
    | nil =>
      have hn : s3.n5 = 0 := by rw [Hcf.out.l5, hx]; rfl
      rw [hn] at a8
      clear hx hn
      go_wp2_with fail
      go_ret
      exact ⟨rfl, HW.out⟩
    | cons q r =>
      obtain ⟨g, cs, hA, hgl, hg6, hblk, hcv, hat⟩ := Ho9.out.put_lap hx
      have hn : 0 < s3.n5 := by rw [Hcf.out.l5, hx]; simp
      rw [hA] at a8
      have hnz : ((s3.n5 : Int) == 0) = false := by simp; omega
      have hlt6 := hg6 _ Ho6.out
      have n0 : w.heap.size ≠ g := by omega
      have n5 : w3.heap.size ≠ g := (blk_ne hblk K5.out (by decide)).symm
      have n7 : w8.heap.size ≠ g := (blk_ne hblk K7.out (by decide)).symm
      have hc0 := hblk.cell 1
      have hf0 := hblk.frozen 1
      rw [hcv] at hc0
      obtain ⟨u, hu⟩ : ∃ u, IntKind.i64.wrap (q.second + 1) = u := ⟨_, rfl⟩
      have hun : u ≠ q.second := by rw [← hu]; exact wrap_ne _
      have HS1 := hide (HSn.out Hf.out ⟨x.mem, x.bars, x.runs, ⟨q.first, u⟩ :: r, x.dems, x.rule⟩ s3 _ _ (HW.out.setCell (p := ⟨g, 1, none⟩) (show w.heap.size ≤ g by omega) (.int .i64 u)) (hat u) (Nat.le_refl _)
        (Hcf.out.like (by first | rfl | (rw [hx]; rfl)) rfl (by first | rfl | (rw [hx]; rfl)) (by first | rfl | (rw [hx]; rfl)) (by first | rfl | (rw [hx]; rfl)) (by first | rfl | (rw [hx]; rfl)) rfl) (Hn12.out Hf.out s3 Hcf.out).1 (Hn12.out Hf.out s3 Hcf.out).2 (steps_like (x := x) (by first | rfl | (rw [hx]; rfl)) (Hst.out Hf.out)))
      have hne : eqDet ⟨x.mem, x.bars, x.runs, ⟨q.first, u⟩ :: r, x.dems, x.rule⟩ x = false := by
        cases hq : eqDet ⟨x.mem, x.bars, x.runs, ⟨q.first, u⟩ :: r, x.dems, x.rule⟩ x
        · rfl
        · have h8 := congrArg (fun d : DetD => d.laps.head?.map (fun z => z.second)) (eqDet_iff.1 hq)
          simp only at h8
          rw [hx] at h8
          injection h8 with h8
          exact absurd h8 hun
      rw [hne] at HS1
      have K0' := hide (K0.out.far (p := ⟨g, 1, none⟩) n0 (.int .i64 u))
      have K5' := hide (K5.out.far (p := ⟨g, 1, none⟩) n5 (.int .i64 u))
      have K7' := hide (K7.out.far (p := ⟨g, 1, none⟩) n7 (.int .i64 u))
      have HW' := hide (HW.out.setCell (p := ⟨g, 1, none⟩) (show w.heap.size ≤ g by omega) (.int .i64 u))
      have HDD := hide (Hod.out.kept (grown_set w9 g 1 (.int .i64 u)) (fun k hk => by
        injection hk with hk
        subst hk
        exact Nat.lt_of_lt_of_le hlt6 Hod.out.low))
      have lg := hblk.lt
      clear hat hne hun hg6 hcv hlt6 hgl n0 n5 n7
      clear hx hA
      go_wp2_with (first
        | (refine wpList_load_row_g (by rfl) 34 (.tmp 2) rfl w.heap.size rfl 34 _ (0, 0) _ K0'.out Tryz.underlying34 rfl HiC.out ?_)
        | (refine wpList_load_row_g (by rfl) 34 (.tmp 5) rfl w3.heap.size rfl 34 _ (0, 0) _ K5'.out Tryz.underlying34 rfl (HiX.out s3) ?_))
      refine HS1.out.mono ?_
      rintro e wa ⟨rfl, hb⟩
      have HS2 := hide (HSn.out Hf.out x s6 _ wa (below_step HW'.out hb (Nat.le_refl _)) (HDD.out.keep hb).at_ (Nat.le_refl _) Hdf.out (Hn12.out Hf.out s6 Hdf.out).1 (Hn12.out Hf.out s6 Hdf.out).2 (Hst.out Hf.out))
      rw [show eqDet x x = true from eqDet_iff.2 rfl] at HS2
      have KA := hide (K0'.out.keep hb)
      have KB := hide (K7'.out.keep hb)
      have HWa := hide (below_step HW'.out hb (Nat.le_refl _))
      clear hb HS1
      go_wp2_with (first
        | (refine wpList_load_row_g (by rfl) 34 (.tmp 2) rfl w.heap.size rfl 34 _ (0, 0) _ KA.out Tryz.underlying34 rfl HiC.out ?_)
        | (refine wpList_load_row_g (by rfl) 34 (.tmp 7) rfl w8.heap.size rfl 34 _ (0, 0) _ KB.out Tryz.underlying34 rfl (HiX.out s6) ?_))
      refine HS2.out.mono ?_
      rintro e wb ⟨rfl, hb⟩
      have HWb := hide (below_step HWa.out hb (Nat.le_refl _))
      clear hb HS2
      go_wp2_with fail
      go_ret
      exact ⟨rfl, HWb.out⟩
  · obtain ⟨u, hu⟩ : ∃ u, IntKind.i64.wrap (x.rule.least + 1) = u := ⟨_, rfl⟩
    have hun : u ≠ x.rule.least := by rw [← hu]; exact wrap_ne _
    have hc0 := K5.out.cell 18
    have hf0 := K5.out.frozen 18
    simp only [detCells] at hc0
    simp at hc0
    have hat := ((Ho9.out.toLow.far (grown_set w9 w3.heap.size 18 (.int .i64 u)) K5.out).at_).rule ⟨x.rule.num, x.rule.den, x.rule.poorNum, x.rule.poorDen, x.rule.bendNum, x.rule.bendDen, x.rule.lapNum, x.rule.lapDen, u⟩
    have n0 : w.heap.size ≠ w3.heap.size := by omega
    have n7 : w8.heap.size ≠ w3.heap.size := by omega
    have HS1 := hide (HSn.out Hf.out ⟨x.mem, x.bars, x.runs, x.laps, x.dems, ⟨x.rule.num, x.rule.den, x.rule.poorNum, x.rule.poorDen, x.rule.bendNum, x.rule.bendDen, x.rule.lapNum, x.rule.lapDen, u⟩⟩ s3 _ _ (HW.out.setCell (p := ⟨w3.heap.size, 18, none⟩) (show w.heap.size ≤ w3.heap.size by omega) (.int .i64 u)) hat (Nat.le_refl _)
      (Hcf.out.like rfl rfl rfl rfl rfl rfl rfl) (Hn12.out Hf.out s3 Hcf.out).1 (Hn12.out Hf.out s3 Hcf.out).2 (Hst.out Hf.out))
    have hne : eqDet ⟨x.mem, x.bars, x.runs, x.laps, x.dems, ⟨x.rule.num, x.rule.den, x.rule.poorNum, x.rule.poorDen, x.rule.bendNum, x.rule.bendDen, x.rule.lapNum, x.rule.lapDen, u⟩⟩ x = false := by
      cases hq : eqDet ⟨x.mem, x.bars, x.runs, x.laps, x.dems, ⟨x.rule.num, x.rule.den, x.rule.poorNum, x.rule.poorDen, x.rule.bendNum, x.rule.bendDen, x.rule.lapNum, x.rule.lapDen, u⟩⟩ x
      · rfl
      · exact absurd (congrArg (fun d : DetD => d.rule.least) (eqDet_iff.1 hq)) hun
    rw [hne] at HS1
    have K0' := hide (K0.out.far (p := ⟨w3.heap.size, 18, none⟩) n0 (.int .i64 u))
    have k5' := K5.out.set_ 18 (.int .i64 u)
    have K5' := hide (show Blk (w9.setCell ⟨w3.heap.size, 18, none⟩ (.int .i64 u)) w3.heap.size 34 (detCells x.mem ⟨x.rule.num, x.rule.den, x.rule.poorNum, x.rule.poorDen, x.rule.bendNum, x.rule.bendDen, x.rule.lapNum, x.rule.lapDen, u⟩ s3) from by
      simp only [detCells, List.setIfInBounds_toArray, List.set_cons_zero, List.set_cons_succ] at k5' ⊢
      exact k5')
    have K7' := hide (K7.out.far (p := ⟨w3.heap.size, 18, none⟩) n7 (.int .i64 u))
    have HW' := hide (HW.out.setCell (p := ⟨w3.heap.size, 18, none⟩) (show w.heap.size ≤ w3.heap.size by omega) (.int .i64 u))
    have HDD := hide (Hod.out.kept (grown_set w9 w3.heap.size 18 (.int .i64 u)) (fun k hk => by
      injection hk with hk
      subst hk
      exact Nat.lt_of_lt_of_le hz36 Hod.out.low))
    clear hat hne hun n0 n7 k5'
    go_wp2_with (first
      | (refine wpList_load_row_g (by rfl) 34 (.tmp 2) rfl w.heap.size rfl 34 _ (0, 0) _ K0'.out Tryz.underlying34 rfl HiC.out ?_)
      | (refine wpList_load_row_g (by rfl) 34 (.tmp 5) rfl w3.heap.size rfl 34 _ (0, 0) _ K5'.out Tryz.underlying34 rfl (by kernel_rfl) ?_))
    refine HS1.out.mono ?_
    rintro e wa ⟨rfl, hb⟩
    have HS2 := hide (HSn.out Hf.out x s6 _ wa (below_step HW'.out hb (Nat.le_refl _)) (HDD.out.keep hb).at_ (Nat.le_refl _) Hdf.out (Hn12.out Hf.out s6 Hdf.out).1 (Hn12.out Hf.out s6 Hdf.out).2 (Hst.out Hf.out))
    rw [show eqDet x x = true from eqDet_iff.2 rfl] at HS2
    have KA := hide (K0'.out.keep hb)
    have KB := hide (K7'.out.keep hb)
    have HWa := hide (below_step HW'.out hb (Nat.le_refl _))
    clear hb HS1
    go_wp2_with (first
      | (refine wpList_load_row_g (by rfl) 34 (.tmp 2) rfl w.heap.size rfl 34 _ (0, 0) _ KA.out Tryz.underlying34 rfl HiC.out ?_)
      | (refine wpList_load_row_g (by rfl) 34 (.tmp 7) rfl w8.heap.size rfl 34 _ (0, 0) _ KB.out Tryz.underlying34 rfl (HiX.out s6) ?_))
    refine HS2.out.mono ?_
    rintro e wb ⟨rfl, hb⟩
    have HWb := hide (below_step HWa.out hb (Nat.le_refl _))
    clear hb HS2
    go_wp2_with fail
    go_ret
    exact ⟨rfl, HWb.out⟩
end Go.Proofs.YtpaanfjjnjjoeaaGreat
