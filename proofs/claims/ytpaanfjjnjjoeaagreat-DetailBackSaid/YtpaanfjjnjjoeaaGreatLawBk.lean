/- The law DetailBack: a run that is put and dropped leaves a detail as it was. -/
import Derived.Test.YtpaanfjjnjjoeaaGreatQrow
import Derived.Test.YtpaanfjjnjjoeaaGreatDrpW
import Derived.Test.YtpaanfjjnjjoeaaGreatQbn
namespace Go.Proofs.YtpaanfjjnjjoeaaGreat
open Go.RowKit Go.Sort

set_option maxHeartbeats 8000000 in
set_option maxRecDepth 100000 in
theorem detailBack_lawW (HSL : SortLaw) (HCL : CompLaw) (x : DetD) (s : DetS) (r : RunD) (w : World) {B : Nat} (h : DetAt w B x s) (hB : B ≤ w.heap.size) (hl : DetLen x s) :
    Calls Tryz.prog 9 #[detV x s, .agg (runCells r)] w fun e w' => e = .returned (.bool true) ∧ Below w.heap.size w w' := by
  have HR := hide (fun (W : World) (hz : Below w.heap.size w W) => show Calls Tryz.prog 17 #[.agg (detCells x.mem x.rule s)] W _ from right49_any x s W (h.carry (hz.mono hB) (Nat.le_refl _)) (Nat.le_trans hB hz.size) hl)
  have hn12 : ∀ f : Few x s, s.n1 ≤ 300000 ∧ s.n2 ≤ 300000 := fun f => ⟨Nat.le_trans f.boxes (by decide), Nat.le_trans f.holes (by decide)⟩
  have hds : ∀ f : Few x s, ∀ b ∈ x.bars, b.dims.length ≤ 300000 := fun f b hb => Nat.le_trans (f.tame b hb).2 (by decide)
  have hst : ∀ f : Few x s, ∀ d ∈ x.dems, d.steps.length ≤ 60000 := fun f d hd => Nat.le_trans (f.dems d hd).2 (by decide)
  have hst3 : ∀ f : Few x s, ∀ d ∈ x.dems, d.steps.length ≤ 300000 := fun f d hd => Nat.le_trans (f.dems d hd).2 (by decide)
  have hrn : ∀ f : Few x s, x.runs.length + 1 ≤ 60000 := fun f => by have := f.runs; rw [hl.l4] at this; omega
  have HC := hide (fun (f : Few x s) (W : World) (hz : Below w.heap.size w W) => show Calls Tryz.prog 25 #[.agg (detCells x.mem x.rule s)] W _ from copy_ok x s W (h.carry (hz.mono hB) (Nat.le_refl _)) (Nat.le_trans hB hz.size) (few_fit hl f) (hn12 f).1 (hn12 f).2 (hds f) (hst3 f))
  have HP := hide (fun (f : Few x s) (W : World) (hz : Below w.heap.size w W) => show Calls Tryz.prog 32 #[.agg (detCells x.mem x.rule s), .agg (runCells r)] W _ from put_ok x s r W (h.carry (hz.mono hB) (Nat.le_refl _)) (Nat.le_trans hB hz.size) (few_fit hl f) (hn12 f).1 (hn12 f).2 (hds f) (hst3 f) (hrn f))
  -- the detail that was put
  have HV := hide (fun (s' : DetS) (B' : Nat) (W : World) (h9 : DetAt W B' (putD x r) s') (hB' : B' ≤ W.heap.size) (hf : DetFit (putD x r) s') => show Calls Tryz.prog 26 #[.agg (detCells x.mem x.rule s')] W _ from detValid_any (putD x r) s' W h9 hB' hf)
  have HSy := hide (fun (f : Few x s) (s' : DetS) (B' : Nat) (W : World) (hz : Below w.heap.size w W) (h9 : DetAt W B' (putD x r) s') (hB' : B' ≤ W.heap.size) (hf : DetFit (putD x r) s') => show Calls Tryz.prog 27 #[.agg (detCells x.mem x.rule s), .agg (detCells x.mem x.rule s')] W _ from
    detSame_any x (putD x r) s s' W (h.carry (hz.mono hB) (Nat.le_refl _)) h9 (Nat.le_trans hB hz.size) hB' (few_fit hl f) hf (hn12 f).1 (hn12 f).2 (by rw [hf.l1]; show x.mem.boxes.length ≤ 300000; rw [← hl.l1]; exact (hn12 f).1) (by rw [hf.l2]; show x.mem.holes.length ≤ 300000; rw [← hl.l2]; exact (hn12 f).2) (hst f) (hst f))
  have HD := hide (fun (f : Few x s) (s' : DetS) (B' : Nat) (W : World) (h9 : DetAt W B' (putD x r) s') (hB' : B' ≤ W.heap.size) (hf : DetFit (putD x r) s') (hk : s'.n4 ≤ s'.c4) => show Calls Tryz.prog 29 #[.agg (detCells x.mem x.rule s'), .int .i64 (x.runs.length : Int)] W _ from
    dropRun_ok (putD x r) s' (x.runs.length : Int) W h9 hB' hf (by rw [hf.l1]; show x.mem.boxes.length ≤ 300000; rw [← hl.l1]; exact (hn12 f).1) (by rw [hf.l2]; show x.mem.holes.length ≤ 300000; rw [← hl.l2]; exact (hn12 f).2) (hds f) (hst3 f) hk)
  -- two details that are equal to the first one
  have HSz := hide (fun (f : Few x s) (s' : DetS) (B' : Nat) (W : World) (hz : Below w.heap.size w W) (h9 : DetAt W B' x s') (hB' : B' ≤ W.heap.size) (hf : DetFit x s') => show Calls Tryz.prog 27 #[.agg (detCells x.mem x.rule s'), .agg (detCells x.mem x.rule s)] W _ from
    detSame_any x x s' s W h9 (h.carry (hz.mono hB) (Nat.le_refl _)) hB' (Nat.le_trans hB hz.size) hf (few_fit hl f) (by rw [hf.l1, ← hl.l1]; exact (hn12 f).1) (by rw [hf.l2, ← hl.l2]; exact (hn12 f).2) (hn12 f).1 (hn12 f).2 (hst f) (hst f))
  have hxx : eqDet x x = true := eqDet_iff.2 rfl
  have hxy : eqDet x (putD x r) = false := by
    cases hq : eqDet x (putD x r)
    · rfl
    · have := congrArg (fun d : DetD => d.runs.length) (eqDet_iff.1 hq)
      simp [putD] at this
  rw [hxx] at HSz
  rw [hxy] at HSy
  have Hpd := hide (fun (h9 : detOk x = true) => put_drop h9 r)
  have Hff := hide (fun (f : Few x s) => few_fit hl f)
  have HiX := hide (fun (s' : DetS) => show (Tryz.prog.info? 34).map (·.size) = some (detCells x.mem x.rule s').size from (by kernel_rfl : (Tryz.prog.info? 34).map (·.size) = some 19))
  have HoX := hide (fun (s' : DetS) => show (detCells x.mem x.rule s').all (·.oneCell') = true by kernel_rfl)
  have HzX := hide (fun (s' : DetS) => show zeroD.size = (detCells x.mem x.rule s').size by kernel_rfl)
  have Hi19 := hide (show (Tryz.prog.info? 34).map (·.size) = some 19 by kernel_rfl)
  have Hir := hide (show (Tryz.prog.info? 66).map (·.size) = some (runCells r).size by kernel_rfl)
  have K0 := hide ((Blk.new w 34 (detCells x.mem x.rule s)).alloc (.cells (runCells r) 66))
  have KR := hide (Blk.new1 w (.cells (detCells x.mem x.rule s) 34) 66 (runCells r))
  have HW := hide (below_new2 w (.cells (detCells x.mem x.rule s) 34) (.cells (runCells r) 66))
  have HL4 := hide hl.l4
  have HAt := hide (fun (W : World) (hz : Below w.heap.size w W) => h.carry (hz.mono hB) (Nat.le_refl B))
  clear h hn12 hds hst hst3 hrn hl hxx hxy
  show Calls Tryz.prog 9 #[.agg (detCells x.mem x.rule s), .agg (runCells r)] w _
  obtain ⟨C, hC⟩ : ∃ C, C = detCells x.mem x.rule s := ⟨_, rfl⟩
  have HiC := hide (show (Tryz.prog.info? 34).map (·.size) = some C.size by rw [hC]; exact HiX.out s)
  have HC7 := hide (show C[7]? = some (.slice s.a4 s.n4 s.c4) by rw [hC]; rfl)
  rw [← hC] at HR HC HP HSy HSz K0 KR HW ⊢
  clear hC
  go_enter Tryz.func9, Tryz.ntmps9
  go_wp2_with fail
  refine (awake_ok HSL HCL _).mono ?_
  rintro e w1 ⟨rfl, hb⟩
  replace K0 := hide (K0.out.keep hb)
  replace KR := hide (KR.out.keep hb)
  replace HW := hide (below_step HW.out hb (Nat.le_refl _))
  clear hb
  go_wp2_with (refine wpList_load_row_g (by rfl) 34 (.tmp 2) rfl w.heap.size rfl 34 _ (0, 0) _ K0.out Tryz.underlying34 rfl HiC.out ?_)
  refine (HR.out _ HW.out).mono ?_
  rintro e w2 ⟨⟨q, rfl, hq⟩, hb⟩
  have Hq := hide hq
  replace K0 := hide (K0.out.keep hb)
  replace KR := hide (KR.out.keep hb)
  replace HW := hide (below_step HW.out hb (Nat.le_refl _))
  clear hq HR hb
  have e0 := KR.out.cell 0
  simp at e0
  cases q
  · go_wp2_with fail
    go_ret
    exact ⟨rfl, HW.out⟩
  have Hf := hide (Hq.out rfl).1
  have Hd := hide (Hq.out rfl).2
  clear Hq
  by_cases h60 : 60 < (r.mark.size : Int)
  · go_wp2_with fail
    go_ret
    exact ⟨rfl, HW.out⟩
  have HCz := hide (HC.out Hf.out _ HW.out)
  clear HC
  go_wp2_with (refine wpList_load_row_g (by rfl) 34 (.tmp 2) rfl w.heap.size rfl 34 _ (0, 0) _ K0.out Tryz.underlying34 rfl HiC.out ?_)
  refine HCz.out.mono ?_
  rintro e w3 ⟨hcp, hb⟩
  replace K0 := hide (K0.out.keep hb)
  replace KR := hide (KR.out.keep hb)
  replace HW := hide (below_step HW.out hb (Nat.le_refl _))
  clear HCz hb e0 h60
  rcases hcp with ⟨_, s3, rfl, hcp⟩ | ⟨h9, _⟩
  rotate_left
  · rw [Hd.out] at h9
    cases h9
  have Hcp := hide hcp
  clear hcp
  have Hv := hide (show detV x s3 = .agg (detCells x.mem x.rule s3) from rfl)
  show _
  go_upto_region 6 with (refine wpList_store_row rfl 34 (.tmp 5) (.tmp 25) rfl w3.heap.size (detCells x.mem x.rule s3) rfl rfl 34 _ (Blk.new w3 34 zeroD) (by kernel_rfl) rfl (by kernel_rfl) ?_)
  have k5 := setRow_heap _ w3.heap.size _ (detCells x.mem x.rule s3) _ _ (Blk.new w3 34 zeroD)
  have hb := Below.setRow (below_new w3 (.cells zeroD 34)) (Nat.le_refl _) (detCells x.mem x.rule s3)
  generalize World.setRow (w3.alloc (.cells zeroD 34)) w3.heap.size (detCells x.mem x.rule s3) = w4 at *
  have K5 := hide (show Blk w4 w3.heap.size 34 (detCells x.mem x.rule s3) from k5)
  have Hc := hide (Hcp.out.keep hb)
  have Hcf := hide (Hcp.out.read (Hff.out Hf.out)).2
  replace K0 := hide (K0.out.keep hb)
  replace KR := hide (KR.out.keep hb)
  replace HW := hide (below_step HW.out hb (Nat.le_refl _))
  clear hb k5 Hcp Hv
  have HPz := hide (HP.out Hf.out _ HW.out)
  clear HP
  go_wp2_with (first
    | (refine wpList_load_row_g (by rfl) 34 (.tmp 2) rfl w.heap.size rfl 34 _ (0, 0) _ K0.out Tryz.underlying34 rfl HiC.out ?_)
    | (refine wpList_load_row_g (by rfl) 66 (.tmp 3) rfl (w.heap.size + 1) rfl 66 _ (0, 0) _ KR.out Tryz.underlying66 rfl Hir.out ?_))
  refine HPz.out.mono ?_
  rintro e w5 ⟨hpe, hb⟩
  replace K5 := hide (K5.out.keep hb)
  replace Hc := hide (Hc.out.keep hb)
  replace K0 := hide (K0.out.keep hb)
  replace KR := hide (KR.out.keep hb)
  replace HW := hide (below_step HW.out hb (Nat.le_refl _))
  clear HPz hb
  rcases hpe with ⟨h9, _⟩ | ⟨_, h8, rfl⟩ | ⟨_, h8, s5, he, hat, hfit, hcap⟩
  · rw [Hd.out] at h9
    cases h9
  · clear HV HSy HD HSz h8 Hc K5
    go_upto_region 10 with (refine wpList_store_row rfl 34 (.tmp 7) (.tmp 31) rfl w5.heap.size zeroD rfl rfl 34 _ (Blk.new w5 34 zeroD) (by kernel_rfl) rfl (by kernel_rfl) ?_)
    have k7 := setRow_heap _ w5.heap.size _ zeroD _ _ (Blk.new w5 34 zeroD)
    have hb := Below.setRow (below_new w5 (.cells zeroD 34)) (Nat.le_refl _) zeroD
    generalize World.setRow (w5.alloc (.cells zeroD 34)) w5.heap.size zeroD = w6 at *
    have K7 := hide (show Blk w6 w5.heap.size 34 zeroD from k7)
    replace K0 := hide (K0.out.keep hb)
    replace KR := hide (KR.out.keep hb)
    replace HW := hide (below_step HW.out hb (Nat.le_refl _))
    clear hb k7
    go_wp2_with (refine wpList_load_row_g (by rfl) 34 (.tmp 7) rfl w5.heap.size rfl 34 _ (0, 0) _ K7.out Tryz.underlying34 rfl (by exact Hi19.out) ?_)
    refine (zeroValid_any _).mono ?_
    rintro e w7 ⟨rfl, hb⟩
    replace K0 := hide (K0.out.keep hb)
    replace KR := hide (KR.out.keep hb)
    replace HW := hide (below_step HW.out hb (Nat.le_refl _))
    clear hb
    go_wp2_with fail
    go_ret
    exact ⟨rfl, HW.out⟩
  have he' : e = .returned (.tuple #[.agg (detCells x.mem x.rule s5), .int .i64 0]) := he
  subst he'
  have Hd8 := hide h8
  rw [h8] at HV
  clear he h8
  have Hat := hide hat
  have Hft := hide hfit
  have Hcap := hide hcap
  clear hat hfit hcap
  go_upto_region 11 with (refine wpList_store_row rfl 34 (.tmp 7) (.tmp 31) rfl w5.heap.size (detCells x.mem x.rule s5) rfl rfl 34 _ (Blk.new w5 34 zeroD) (by kernel_rfl) rfl (by kernel_rfl) ?_)
  have k7 := setRow_heap _ w5.heap.size _ (detCells x.mem x.rule s5) _ _ (Blk.new w5 34 zeroD)
  have hb := Below.setRow (below_new w5 (.cells zeroD 34)) (Nat.le_refl _) (detCells x.mem x.rule s5)
  generalize World.setRow (w5.alloc (.cells zeroD 34)) w5.heap.size (detCells x.mem x.rule s5) = w6 at *
  have K7 := hide (show Blk w6 w5.heap.size 34 (detCells x.mem x.rule s5) from k7)
  have Ha6 := hide (Hat.out.carry hb (Nat.le_refl _))
  have Hz56 := hide hb.size
  replace K5 := hide (K5.out.keep hb)
  replace Hc := hide (Hc.out.keep hb)
  replace K0 := hide (K0.out.keep hb)
  replace KR := hide (KR.out.keep hb)
  replace HW := hide (below_step HW.out hb (Nat.le_refl _))
  clear hb k7 Hat
  have hn5 : s5.n4 = s.n4 + 1 := by rw [Hft.out.l4, HL4.out]; simp [putD]
  obtain ⟨b9, off, q9, hA, _, hx9, hc9⟩ := RunsAt.get (k := x.runs.length) Ha6.out.h4 (by simp [putD])
  obtain rfl : r = q9 := by
    simp [putD] at hx9
    exact hx9
  have hs4 := (Hff.out Hf.out).m4
  have g7 := cell_regrown ((K0.out.cell 7).trans HC7.out)
  have h7 := K7.out.cell 7
  simp only [detCells] at h7
  simp at h7
  rw [hA, hn5] at h7
  have i7 := cell_regrown h7
  have HVq := hide (fun d os => Calls.regrown_of (HV.out s5 w5.heap.size (grow (redrawn w6 d) os) (Ha6.out.carry ((below_regrown w6 d os).mono Hz56.out) (Nat.le_refl _)) (Nat.le_trans Hz56.out (below_regrown w6 d os).size) Hft.out))
  have HSq := hide (fun d os => Calls.regrown_of (HSy.out Hf.out s5 w5.heap.size (grow (redrawn w6 d) os) (below_step HW.out (below_regrown w6 d os) (Nat.le_refl _)) (Ha6.out.carry ((below_regrown w6 d os).mono Hz56.out) (Nat.le_refl _)) (Nat.le_trans Hz56.out (below_regrown w6 d os).size) Hft.out))
  rw [← HL4.out] at hc9
  have zn : IntKind.i64.wrap ((s.n4 : Int) + 1) = (s.n4 : Int) + 1 := IntWalk.i64_in _ (by omega)
  have Hr0 := hide (show encRun r = (runCells r).toList from rfl)
  obtain ⟨mark, tx, ty, ⟨a1, a2, a3⟩, ⟨t1, t2, t3⟩, cnt⟩ := r
  have p0 := hc9 0 _ rfl
  have p1 := hc9 1 _ rfl
  have p2 := hc9 2 _ rfl
  have p3 := hc9 3 _ rfl
  have p4 := hc9 4 _ rfl
  have p5 := hc9 5 _ rfl
  have p6 := hc9 6 _ rfl
  have p7 := hc9 7 _ rfl
  have p8 := hc9 8 _ rfl
  have p9 := hc9 9 _ rfl
  simp only [Nat.add_zero] at p0 p1 p2 p3 p4 p5 p6 p7 p8 p9
  replace p0 := cell_regrown p0
  replace p1 := cell_regrown p1
  replace p2 := cell_regrown p2
  replace p3 := cell_regrown p3
  replace p4 := cell_regrown p4
  replace p5 := cell_regrown p5
  replace p6 := cell_regrown p6
  replace p7 := cell_regrown p7
  replace p8 := cell_regrown p8
  replace p9 := cell_regrown p9
  clear hc9 hx9 h7
  refine wp_region_quiet_below (by kernel_rfl) (by kernel_rfl) ?_
  repeat (first
    | (refine quiet_load_row (by rfl) 34 (.tmp 2) rfl w.heap.size rfl 34 _ (0, 0) _ (Blk.regrown K0.out) Tryz.underlying34 rfl HiC.out ?_; simp only [Act.put, List.setIfInBounds_toArray, List.set_cons_zero, List.set_cons_succ])
    | (refine quiet_load_row (by rfl) 34 (.tmp 7) rfl w5.heap.size rfl 34 _ (0, 0) _ (Blk.regrown K7.out) Tryz.underlying34 rfl (HiX.out s5) ?_; simp only [Act.put, List.setIfInBounds_toArray, List.set_cons_zero, List.set_cons_succ])
    | (refine quiet_load_row (by rfl) 66 (.tmp 3) rfl (w.heap.size + 1) rfl 66 _ (0, 0) _ (Blk.regrown KR.out) Tryz.underlying66 rfl Hir.out ?_; simp only [Act.put, List.setIfInBounds_toArray, List.set_cons_zero, List.set_cons_succ])
    | (go_big_quiet_step (first
        | (go_at_call 26; with_reducible exact HVq.out _ _)
        | (go_at_call 27; with_reducible exact HSq.out _ _))))
  refine wpQuiet_nil ?_
  intro w8 hw'
  have hb := show Below w6.heap.size w6 w8 by obtain ⟨p9, rfl⟩ := hw'; exact below_regrown _ _ _
  replace K7 := hide (K7.out.keep hb)
  replace K5 := hide (K5.out.keep hb)
  replace Hc := hide (Hc.out.keep hb)
  have Ha8 := hide (Ha6.out.carry (hb.mono Hz56.out) (Nat.le_refl _))
  have Hz58 := hide (Nat.le_trans Hz56.out hb.size)
  replace K0 := hide (K0.out.keep hb)
  replace KR := hide (KR.out.keep hb)
  replace HW := hide (below_step HW.out hb (Nat.le_refl _))
  clear hb hw' HVq HSq p0 p1 p2 p3 p4 p5 p6 p7 p8 p9 g7 i7 HV HSy Ha6 Hz56 hA hn5
  have g7 := (K0.out.cell 7).trans HC7.out
  have HDz := hide (HD.out Hf.out s5 w5.heap.size w8 Ha8.out Hz58.out Hft.out Hcap.out)
  rw [← HL4.out] at HDz
  clear HD
  go_wp2_with (first
    | (refine wpList_load_row_g (by rfl) 34 (.tmp 7) rfl w5.heap.size rfl 34 _ (0, 0) _ K7.out Tryz.underlying34 rfl (HiX.out s5) ?_))
  refine HDz.out.mono ?_
  rintro e w9 ⟨hde, hb⟩
  replace K5 := hide (K5.out.keep hb)
  replace Hc := hide (Hc.out.keep hb)
  replace K0 := hide (K0.out.keep hb)
  replace KR := hide (KR.out.keep hb)
  replace HW := hide (below_step HW.out hb (Nat.le_refl _))
  clear HDz hb g7
  rcases hde with ⟨h9, _⟩ | ⟨_, h9, _⟩ | ⟨_, j, hj, _, s9, he, hat, hfit⟩
  · rw [Hd8.out] at h9
    cases h9
  · exfalso
    have hq : (putD x ⟨mark, tx, ty, (a1, a2, a3), (t1, t2, t3), cnt⟩).runs.length = x.runs.length + 1 := by simp [putD]
    rw [hq, ← HL4.out] at h9
    omega
  obtain rfl : x.runs.length = j := by
    rw [← HL4.out]
    omega
  rw [Hpd.out Hd.out] at he hat hfit
  have he' : e = .returned (.tuple #[.agg (detCells x.mem x.rule s9), .int .i64 0]) := he
  subst he'
  clear he hj
  have Hat := hide hat
  have Hft9 := hide hfit
  clear hat hfit K7 Ha8 Hz58
  go_upto_region 14 with (refine wpList_store_row rfl 34 (.tmp 9) (.tmp 79) rfl w9.heap.size (detCells x.mem x.rule s9) rfl rfl 34 _ (Blk.new w9 34 zeroD) (by kernel_rfl) rfl (by kernel_rfl) ?_)
  have k9 := setRow_heap _ w9.heap.size _ (detCells x.mem x.rule s9) _ _ (Blk.new w9 34 zeroD)
  have hb := Below.setRow (below_new w9 (.cells zeroD 34)) (Nat.le_refl _) (detCells x.mem x.rule s9)
  generalize World.setRow (w9.alloc (.cells zeroD 34)) w9.heap.size (detCells x.mem x.rule s9) = wa at *
  have K9 := hide (show Blk wa w9.heap.size 34 (detCells x.mem x.rule s9) from k9)
  have Ha9 := hide (Hat.out.carry hb (Nat.le_refl _))
  replace K5 := hide (K5.out.keep hb)
  replace Hc := hide (Hc.out.keep hb)
  replace K0 := hide (K0.out.keep hb)
  replace KR := hide (KR.out.keep hb)
  replace HW := hide (below_step HW.out hb (Nat.le_refl _))
  have HS1 := hide (HSz.out Hf.out s9 w9.heap.size wa HW.out Ha9.out hb.size Hft9.out)
  clear hb k9 Hat
  go_wp2_with (first
    | (refine wpList_load_row_g (by rfl) 34 (.tmp 9) rfl w9.heap.size rfl 34 _ (0, 0) _ K9.out Tryz.underlying34 rfl (HiX.out s9) ?_)
    | (refine wpList_load_row_g (by rfl) 34 (.tmp 2) rfl w.heap.size rfl 34 _ (0, 0) _ K0.out Tryz.underlying34 rfl HiC.out ?_))
  refine HS1.out.mono ?_
  rintro e wb ⟨rfl, hb⟩
  replace K5 := hide (K5.out.keep hb)
  replace Hc := hide (Hc.out.keep hb)
  replace K0 := hide (K0.out.keep hb)
  replace KR := hide (KR.out.keep hb)
  replace HW := hide (below_step HW.out hb (Nat.le_refl _))
  clear hb HS1 K9 Ha9
  have HS2 := hide (HSz.out Hf.out s3 _ wb HW.out (Hc.out.read (Hff.out Hf.out)).1 (Nat.le_refl _) Hcf.out)
  go_wp2_with (first
    | (refine wpList_load_row_g (by rfl) 34 (.tmp 5) rfl w3.heap.size rfl 34 _ (0, 0) _ K5.out Tryz.underlying34 rfl (HiX.out s3) ?_)
    | (refine wpList_load_row_g (by rfl) 34 (.tmp 2) rfl w.heap.size rfl 34 _ (0, 0) _ K0.out Tryz.underlying34 rfl HiC.out ?_))
  refine HS2.out.mono ?_
  rintro e wc ⟨rfl, hb⟩
  replace K0 := hide (K0.out.keep hb)
  replace KR := hide (KR.out.keep hb)
  replace HW := hide (below_step HW.out hb (Nat.le_refl _))
  go_wp2_with fail
  go_ret
  exact ⟨rfl, HW.out⟩
end Go.Proofs.YtpaanfjjnjjoeaaGreat
