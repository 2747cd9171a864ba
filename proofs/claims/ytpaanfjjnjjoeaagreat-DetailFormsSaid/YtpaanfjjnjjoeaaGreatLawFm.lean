/- The law DetailForms: Valid, Same, and Copy return what is specified. -/
import Derived.Test.YtpaanfjjnjjoeaaGreatQrow
import Derived.Test.YtpaanfjjnjjoeaaGreatSmeS
import Derived.Test.YtpaanfjjnjjoeaaGreatQbn
namespace Go.Proofs.YtpaanfjjnjjoeaaGreat
open Go.RowKit Go.Sort

set_option maxHeartbeats 8000000 in
set_option maxRecDepth 100000 in
theorem detailForms_lawW (HSL : SortLaw) (HCL : CompLaw) (x : DetD) (s : DetS) (y : DetD) (t : DetS) (w : World) {B B' : Nat} (h : DetAt w B x s) (hB : B ≤ w.heap.size) (hl : DetLen x s) (h' : DetAt w B' y t) (hB' : B' ≤ w.heap.size) (hl' : DetLen y t) :
    Calls Tryz.prog 5 #[detV x s, detV y t] w fun e w' => e = .returned (.bool true) ∧ Below w.heap.size w w' := by
  have HF := hide (fun (W : World) (hz : Below w.heap.size w W) => show Calls Tryz.prog 11 #[.agg (detCells x.mem x.rule s)] W _ from small25_any x s W (h.carry (hz.mono hB) (Nat.le_refl _)) (Nat.le_trans hB hz.size) hl)
  have HF' := hide (fun (W : World) (hz : Below w.heap.size w W) => show Calls Tryz.prog 11 #[.agg (detCells y.mem y.rule t)] W _ from small25_any y t W (h'.carry (hz.mono hB') (Nat.le_refl _)) (Nat.le_trans hB' hz.size) hl')
  have hn12 : ∀ f : Few x s, s.n1 ≤ 300000 ∧ s.n2 ≤ 300000 := fun f => ⟨Nat.le_trans f.boxes (by decide), Nat.le_trans f.holes (by decide)⟩
  have hn12' : ∀ f : Few y t, t.n1 ≤ 300000 ∧ t.n2 ≤ 300000 := fun f => ⟨Nat.le_trans f.boxes (by decide), Nat.le_trans f.holes (by decide)⟩
  have hds : ∀ f : Few x s, ∀ b ∈ x.bars, b.dims.length ≤ 300000 := fun f b hb => Nat.le_trans (f.tame b hb).2 (by decide)
  have hst : ∀ f : Few x s, ∀ d ∈ x.dems, d.steps.length ≤ 60000 := fun f d hd => Nat.le_trans (f.dems d hd).2 (by decide)
  have hst' : ∀ f : Few y t, ∀ d ∈ y.dems, d.steps.length ≤ 60000 := fun f d hd => Nat.le_trans (f.dems d hd).2 (by decide)
  have hst3 : ∀ f : Few x s, ∀ d ∈ x.dems, d.steps.length ≤ 300000 := fun f d hd => Nat.le_trans (f.dems d hd).2 (by decide)
  have HC := hide (fun (f : Few x s) (W : World) (hz : Below w.heap.size w W) => show Calls Tryz.prog 25 #[.agg (detCells x.mem x.rule s)] W _ from copy_ok x s W (h.carry (hz.mono hB) (Nat.le_refl _)) (Nat.le_trans hB hz.size) (few_fit hl f) (hn12 f).1 (hn12 f).2 (hds f) (hst3 f))
  have HV0 := hide (fun (f : Few x s) (W : World) (hz : Below w.heap.size w W) => show Calls Tryz.prog 26 #[.agg (detCells x.mem x.rule s)] W _ from detValid_any x s W (h.carry (hz.mono hB) (Nat.le_refl _)) (Nat.le_trans hB hz.size) (few_fit hl f))
  have HR0 := hide (fun (f : Few x s) (W : World) (hz : Below w.heap.size w W) => show Calls Tryz.prog 14 #[.agg (detCells x.mem x.rule s)] W _ from refValid25_any x s W (h.carry (hz.mono hB) (Nat.le_refl _)) (Nat.le_trans hB hz.size) (few_fit hl f) (few_dems f))
  have HS0 := hide (fun (f : Few x s) (f' : Few y t) (W : World) (hz : Below w.heap.size w W) => show Calls Tryz.prog 27 #[.agg (detCells x.mem x.rule s), .agg (detCells y.mem y.rule t)] W _ from
    detSame_any x y s t W (h.carry (hz.mono hB) (Nat.le_refl _)) (h'.carry (hz.mono hB') (Nat.le_refl _)) (Nat.le_trans hB hz.size) (Nat.le_trans hB' hz.size) (few_fit hl f) (few_fit hl' f') (hn12 f).1 (hn12 f).2 (hn12' f').1 (hn12' f').2 (hst f) (hst' f'))
  have HT0 := hide (fun (f : Few x s) (f' : Few y t) (W : World) (hz : Below w.heap.size w W) => show Calls Tryz.prog 28 #[.agg (detCells x.mem x.rule s), .agg (detCells y.mem y.rule t)] W _ from
    ref25Same_any x y s t W (h.carry (hz.mono hB) (Nat.le_refl _)) (h'.carry (hz.mono hB') (Nat.le_refl _)) (Nat.le_trans hB hz.size) (Nat.le_trans hB' hz.size) (few_fit hl f) (few_fit hl' f') (hn12 f).1 (hn12 f).2 (hn12' f').1 (hn12' f').2 (hst f) (hst' f'))
  have HSz := hide (fun (f : Few x s) (s' : DetS) (B2 : Nat) (W : World) (hz : Below w.heap.size w W) (h9 : DetAt W B2 x s') (hB2 : B2 ≤ W.heap.size) (hf : DetFit x s') => show Calls Tryz.prog 28 #[.agg (detCells x.mem x.rule s'), .agg (detCells x.mem x.rule s)] W _ from
    ref25Same_any x x s' s W h9 (h.carry (hz.mono hB) (Nat.le_refl _)) hB2 (Nat.le_trans hB hz.size) hf (few_fit hl f) (by rw [hf.l1, ← hl.l1]; exact (hn12 f).1) (by rw [hf.l2, ← hl.l2]; exact (hn12 f).2) (hn12 f).1 (hn12 f).2 (hst f) (hst f))
  have HZz := hide (fun (W : World) => show Calls Tryz.prog 28 #[.agg zeroD, .agg zeroD] W _ from ref25Same_any det0 det0 det0S det0S W (det0_at W W.heap.size) (det0_at W W.heap.size) (Nat.le_refl _) (Nat.le_refl _) det0_fit det0_fit (by decide) (by decide) (by decide) (by decide) (fun d hd => by cases hd) (fun d hd => by cases hd))
  rw [show eqDet x x = true from eqDet_iff.2 rfl] at HSz
  rw [show eqDet det0 det0 = true from eqDet_iff.2 rfl] at HZz
  have Hff := hide (fun (f : Few x s) => few_fit hl f)
  have K0 := hide ((Blk.new w 34 (detCells x.mem x.rule s)).alloc (.cells (detCells y.mem y.rule t) 34))
  have K1 := hide (Blk.new1 w (.cells (detCells x.mem x.rule s) 34) 34 (detCells y.mem y.rule t))
  have HW := hide (below_new2 w (.cells (detCells x.mem x.rule s) 34) (.cells (detCells y.mem y.rule t) 34))
  have HiX := hide (fun (s' : DetS) => show (Tryz.prog.info? 34).map (·.size) = some (detCells x.mem x.rule s').size from (by kernel_rfl : (Tryz.prog.info? 34).map (·.size) = some 19))
  have Hi0 := hide (show (Tryz.prog.info? 34).map (·.size) = some zeroD.size from (by kernel_rfl : (Tryz.prog.info? 34).map (·.size) = some 19))
  clear h h' hn12 hn12' hds hst hst' hst3 hl hl' hB hB'
  show Calls Tryz.prog 5 #[.agg (detCells x.mem x.rule s), .agg (detCells y.mem y.rule t)] w _
  obtain ⟨C, hC⟩ : ∃ C, C = detCells x.mem x.rule s := ⟨_, rfl⟩
  obtain ⟨D, hD⟩ : ∃ D, D = detCells y.mem y.rule t := ⟨_, rfl⟩
  have HiC := hide (show (Tryz.prog.info? 34).map (·.size) = some C.size by rw [hC]; exact HiX.out s)
  have HiD := hide (show (Tryz.prog.info? 34).map (·.size) = some D.size from by rw [hD]; exact (by kernel_rfl : (Tryz.prog.info? 34).map (·.size) = some 19))
  rw [← hC] at HF HC HV0 HR0 HS0 HT0 HSz K0 K1 HW ⊢
  rw [← hD] at HF' HS0 HT0 K0 K1 HW ⊢
  clear hC hD
  go_enter Tryz.func5, Tryz.ntmps5
  go_wp2_with fail
  refine (awake_ok HSL HCL _).mono ?_
  rintro e w1 ⟨rfl, hb⟩
  replace K0 := hide (K0.out.keep hb)
  replace K1 := hide (K1.out.keep hb)
  replace HW := hide (below_step HW.out hb (Nat.le_refl _))
  clear hb
  go_wp2_with (first
    | (refine wpList_load_row_g (by rfl) 34 (.tmp 2) rfl w.heap.size rfl 34 _ (0, 0) _ K0.out Tryz.underlying34 rfl HiC.out ?_)
    | (refine wpList_load_row_g (by rfl) 34 (.tmp 3) rfl (w.heap.size + 1) rfl 34 _ (0, 0) _ K1.out Tryz.underlying34 rfl HiD.out ?_))
  refine (HF.out _ HW.out).mono ?_
  rintro e w2 ⟨⟨q, rfl, hq⟩, hb⟩
  have Hq := hide hq
  replace K0 := hide (K0.out.keep hb)
  replace K1 := hide (K1.out.keep hb)
  replace HW := hide (below_step HW.out hb (Nat.le_refl _))
  clear hb
  clear hq HF
  cases q
  · go_wp2_with (first
                  | (refine wpList_load_row_g (by rfl) 34 (.tmp 2) rfl w.heap.size rfl 34 _ (0, 0) _ K0.out Tryz.underlying34 rfl HiC.out ?_)
                  | (refine wpList_load_row_g (by rfl) 34 (.tmp 3) rfl (w.heap.size + 1) rfl 34 _ (0, 0) _ K1.out Tryz.underlying34 rfl HiD.out ?_))
    go_ret
    exact ⟨rfl, HW.out⟩
  have Hf := hide (Hq.out rfl)
  clear Hq
  go_wp2_with (first
    | (refine wpList_load_row_g (by rfl) 34 (.tmp 2) rfl w.heap.size rfl 34 _ (0, 0) _ K0.out Tryz.underlying34 rfl HiC.out ?_)
    | (refine wpList_load_row_g (by rfl) 34 (.tmp 3) rfl (w.heap.size + 1) rfl 34 _ (0, 0) _ K1.out Tryz.underlying34 rfl HiD.out ?_))
  refine (HF'.out _ HW.out).mono ?_
  rintro e w3 ⟨⟨q, rfl, hq⟩, hb⟩
  have Hq := hide hq
  replace K0 := hide (K0.out.keep hb)
  replace K1 := hide (K1.out.keep hb)
  replace HW := hide (below_step HW.out hb (Nat.le_refl _))
  clear hb
  clear hq HF'
  cases q
  · go_wp2_with (first
                  | (refine wpList_load_row_g (by rfl) 34 (.tmp 2) rfl w.heap.size rfl 34 _ (0, 0) _ K0.out Tryz.underlying34 rfl HiC.out ?_)
                  | (refine wpList_load_row_g (by rfl) 34 (.tmp 3) rfl (w.heap.size + 1) rfl 34 _ (0, 0) _ K1.out Tryz.underlying34 rfl HiD.out ?_))
    go_ret
    exact ⟨rfl, HW.out⟩
  have Hf' := hide (Hq.out rfl)
  clear Hq
  have HV := hide (HV0.out Hf.out)
  have HR := hide (HR0.out Hf.out)
  have HS := hide (HS0.out Hf.out Hf'.out)
  have HT := hide (HT0.out Hf.out Hf'.out)
  have HCz := hide (HC.out Hf.out _ HW.out)
  clear HV0 HR0 HS0 HT0 HC
  generalize eqDet x y = EQ at *
  go_wp2_with (first
    | (refine wpList_load_row_g (by rfl) 34 (.tmp 2) rfl w.heap.size rfl 34 _ (0, 0) _ K0.out Tryz.underlying34 rfl HiC.out ?_)
    | (refine wpList_load_row_g (by rfl) 34 (.tmp 3) rfl (w.heap.size + 1) rfl 34 _ (0, 0) _ K1.out Tryz.underlying34 rfl HiD.out ?_))
  refine HCz.out.mono ?_
  rintro e w4 ⟨hcp, hb⟩
  replace K0 := hide (K0.out.keep hb)
  replace K1 := hide (K1.out.keep hb)
  replace HW := hide (below_step HW.out hb (Nat.le_refl _))
  clear hb
  clear HCz
  rcases hcp with ⟨hd, s', rfl, hcp⟩ | ⟨hd, rfl⟩
  · rw [hd] at HV HR
    have Hcp := hide hcp
    clear hcp hd
    have Hv := hide (show detV x s' = .agg (detCells x.mem x.rule s') from rfl)
    show _
    go_upto_region 6 with (refine wpList_store_row rfl 34 (.tmp 5) (.tmp 20) rfl w4.heap.size (detCells x.mem x.rule s') rfl rfl 34 _ (Blk.new w4 34 zeroD) (by kernel_rfl) rfl (by kernel_rfl) ?_)
    have k5 := setRow_heap _ w4.heap.size _ (detCells x.mem x.rule s') _ _ (Blk.new w4 34 zeroD)
    have hb := Below.setRow (below_new w4 (.cells zeroD 34)) (Nat.le_refl _) (detCells x.mem x.rule s')
    generalize World.setRow (w4.alloc (.cells zeroD 34)) w4.heap.size (detCells x.mem x.rule s') = w5 at *
    have K5 := hide (show Blk w5 w4.heap.size 34 (detCells x.mem x.rule s') from k5)
    have hb5 := hide hb
    replace K0 := hide (K0.out.keep hb)
    replace K1 := hide (K1.out.keep hb)
    replace HW := hide (below_step HW.out hb (Nat.le_refl _))
    clear hb
    clear k5
    have hr5 := (Hcp.out.keep hb5.out).read (Hff.out Hf.out)
    have Hr5 := hide hr5
    clear hr5 Hcp hb5 HZz Hv
    have HVq := hide (fun d os => Calls.regrown_of (HV.out (grow (redrawn w5 d) os) (below_step HW.out (below_regrown w5 d os) (Nat.le_refl _))))
    have HRq := hide (fun d os => Calls.regrown_of (HR.out (grow (redrawn w5 d) os) (below_step HW.out (below_regrown w5 d os) (Nat.le_refl _))))
    have HSq := hide (fun d os => Calls.regrown_of (HS.out (grow (redrawn w5 d) os) (below_step HW.out (below_regrown w5 d os) (Nat.le_refl _))))
    have HTq := hide (fun d os => Calls.regrown_of (HT.out (grow (redrawn w5 d) os) (below_step HW.out (below_regrown w5 d os) (Nat.le_refl _))))
    refine wp_region_quiet_below (by kernel_rfl) (by kernel_rfl) ?_
    repeat (first
      | (refine quiet_load_row (by rfl) 34 (.tmp 2) rfl w.heap.size rfl 34 _ (0, 0) _ (Blk.regrown K0.out) Tryz.underlying34 rfl HiC.out ?_; simp only [Act.put, List.setIfInBounds_toArray, List.set_cons_zero, List.set_cons_succ])
      | (refine quiet_load_row (by rfl) 34 (.tmp 3) rfl (w.heap.size + 1) rfl 34 _ (0, 0) _ (Blk.regrown K1.out) Tryz.underlying34 rfl HiD.out ?_; simp only [Act.put, List.setIfInBounds_toArray, List.set_cons_zero, List.set_cons_succ])
      | (go_big_quiet_step (first
          | (go_at_call 26; with_reducible exact HVq.out _ _)
          | (go_at_call 14; with_reducible exact HRq.out _ _)
          | (go_at_call 27; with_reducible exact HSq.out _ _)
          | (go_at_call 28; with_reducible exact HTq.out _ _))))
    refine wpQuiet_nil ?_
    intro w6 hw'
    have hb := show Below w5.heap.size w5 w6 by obtain ⟨p9, rfl⟩ := hw'; exact below_regrown _ _ _
    replace K5 := hide (K5.out.keep hb)
    have hb6 := hide hb
    replace K0 := hide (K0.out.keep hb)
    replace K1 := hide (K1.out.keep hb)
    replace HW := hide (below_step HW.out hb (Nat.le_refl _))
    clear hb
    clear hw' HVq HRq HSq HTq HV HS HT
    have HSw := hide (HSz.out Hf.out s' w6.heap.size w6)
    go_wp2_with (first
      | (refine wpList_load_row_g (by rfl) 34 (.tmp 2) rfl w.heap.size rfl 34 _ (0, 0) _ K0.out Tryz.underlying34 rfl HiC.out ?_)
      | (refine wpList_load_row_g (by rfl) 34 (.tmp 5) rfl w4.heap.size rfl 34 _ (0, 0) _ K5.out Tryz.underlying34 rfl (HiX.out s') ?_))
    refine (HR.out _ HW.out).mono ?_
    rintro e w7 ⟨rfl, hb⟩
    replace K5 := hide (K5.out.keep hb)
    have hb7 := hide hb
    replace K0 := hide (K0.out.keep hb)
    replace K1 := hide (K1.out.keep hb)
    replace HW := hide (below_step HW.out hb (Nat.le_refl _))
    clear hb
    have hat := ((Hr5.out.1.carry hb6.out hb6.out.size).carry hb7.out hb7.out.size)
    have HSw := hide (HSz.out Hf.out s' _ w7 HW.out hat (Nat.le_refl _) Hr5.out.2)
    clear hat HR HSz
    go_wp2_with (first
      | (refine wpList_load_row_g (by rfl) 34 (.tmp 2) rfl w.heap.size rfl 34 _ (0, 0) _ K0.out Tryz.underlying34 rfl HiC.out ?_)
      | (refine wpList_load_row_g (by rfl) 34 (.tmp 5) rfl w4.heap.size rfl 34 _ (0, 0) _ K5.out Tryz.underlying34 rfl (HiX.out s') ?_))
    refine HSw.out.mono ?_
    rintro e w8 ⟨rfl, hb⟩
    replace K0 := hide (K0.out.keep hb)
    replace K1 := hide (K1.out.keep hb)
    replace HW := hide (below_step HW.out hb (Nat.le_refl _))
    clear hb
    go_wp2_with fail
    go_ret
    exact ⟨rfl, HW.out⟩
  · rw [hd] at HV HR
    clear hd HSz Hff
    go_upto_region 6 with (refine wpList_store_row rfl 34 (.tmp 5) (.tmp 20) rfl w4.heap.size zeroD rfl rfl 34 _ (Blk.new w4 34 zeroD) (by kernel_rfl) rfl (by kernel_rfl) ?_)
    have k5 := setRow_heap _ w4.heap.size _ zeroD _ _ (Blk.new w4 34 zeroD)
    have hb := Below.setRow (below_new w4 (.cells zeroD 34)) (Nat.le_refl _) zeroD
    generalize World.setRow (w4.alloc (.cells zeroD 34)) w4.heap.size zeroD = w5 at *
    have K5 := hide (show Blk w5 w4.heap.size 34 zeroD from k5)
    have hb5 := hide hb
    replace K0 := hide (K0.out.keep hb)
    replace K1 := hide (K1.out.keep hb)
    replace HW := hide (below_step HW.out hb (Nat.le_refl _))
    clear hb
    clear k5
    clear hb5
    have HVq := hide (fun d os => Calls.regrown_of (HV.out (grow (redrawn w5 d) os) (below_step HW.out (below_regrown w5 d os) (Nat.le_refl _))))
    have HRq := hide (fun d os => Calls.regrown_of (HR.out (grow (redrawn w5 d) os) (below_step HW.out (below_regrown w5 d os) (Nat.le_refl _))))
    have HSq := hide (fun d os => Calls.regrown_of (HS.out (grow (redrawn w5 d) os) (below_step HW.out (below_regrown w5 d os) (Nat.le_refl _))))
    have HTq := hide (fun d os => Calls.regrown_of (HT.out (grow (redrawn w5 d) os) (below_step HW.out (below_regrown w5 d os) (Nat.le_refl _))))
    refine wp_region_quiet_below (by kernel_rfl) (by kernel_rfl) ?_
    repeat (first
      | (refine quiet_load_row (by rfl) 34 (.tmp 2) rfl w.heap.size rfl 34 _ (0, 0) _ (Blk.regrown K0.out) Tryz.underlying34 rfl HiC.out ?_; simp only [Act.put, List.setIfInBounds_toArray, List.set_cons_zero, List.set_cons_succ])
      | (refine quiet_load_row (by rfl) 34 (.tmp 3) rfl (w.heap.size + 1) rfl 34 _ (0, 0) _ (Blk.regrown K1.out) Tryz.underlying34 rfl HiD.out ?_; simp only [Act.put, List.setIfInBounds_toArray, List.set_cons_zero, List.set_cons_succ])
      | (go_big_quiet_step (first
          | (go_at_call 26; with_reducible exact HVq.out _ _)
          | (go_at_call 14; with_reducible exact HRq.out _ _)
          | (go_at_call 27; with_reducible exact HSq.out _ _)
          | (go_at_call 28; with_reducible exact HTq.out _ _))))
    refine wpQuiet_nil ?_
    intro w6 hw'
    have hb := show Below w5.heap.size w5 w6 by obtain ⟨p9, rfl⟩ := hw'; exact below_regrown _ _ _
    replace K5 := hide (K5.out.keep hb)
    have hb6 := hide hb
    replace K0 := hide (K0.out.keep hb)
    replace K1 := hide (K1.out.keep hb)
    replace HW := hide (below_step HW.out hb (Nat.le_refl _))
    clear hb
    clear hw' HVq HRq HSq HTq HV HS HT
    clear hb6
    go_wp2_with (first
      | (refine wpList_load_row_g (by rfl) 34 (.tmp 2) rfl w.heap.size rfl 34 _ (0, 0) _ K0.out Tryz.underlying34 rfl HiC.out ?_)
      | (refine wpList_load_row_g (by rfl) 34 (.tmp 5) rfl w4.heap.size rfl 34 _ (0, 0) _ K5.out Tryz.underlying34 rfl Hi0.out ?_))
    refine (HR.out _ HW.out).mono ?_
    rintro e w7 ⟨rfl, hb⟩
    replace K5 := hide (K5.out.keep hb)
    replace K0 := hide (K0.out.keep hb)
    replace K1 := hide (K1.out.keep hb)
    replace HW := hide (below_step HW.out hb (Nat.le_refl _))
    clear hb
    clear HR
    go_wp2_with (first
      | (refine wpList_load_row_g (by rfl) 34 (.tmp 2) rfl w.heap.size rfl 34 _ (0, 0) _ K0.out Tryz.underlying34 rfl HiC.out ?_)
      | (refine wpList_load_row_g (by rfl) 34 (.tmp 5) rfl w4.heap.size rfl 34 _ (0, 0) _ K5.out Tryz.underlying34 rfl Hi0.out ?_))
    refine (HZz.out _).mono ?_
    rintro e w8 ⟨rfl, hb⟩
    replace K0 := hide (K0.out.keep hb)
    replace K1 := hide (K1.out.keep hb)
    replace HW := hide (below_step HW.out hb (Nat.le_refl _))
    clear hb
    go_wp2_with fail
    go_ret
    exact ⟨rfl, HW.out⟩
end Go.Proofs.YtpaanfjjnjjoeaaGreat
