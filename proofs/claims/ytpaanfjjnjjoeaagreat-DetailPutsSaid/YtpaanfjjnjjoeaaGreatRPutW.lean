/- detail.Put. -/
import Derived.Test.YtpaanfjjnjjoeaaGreatRQbn
import Derived.Test.YtpaanfjjnjjoeaaGreatRQbi
import Derived.Test.YtpaanfjjnjjoeaaGreatRQbc
namespace Go.Proofs.YtpaanfjjnjjoeaaGreat
open Go.RowKit
def PutEnd (x : DetD) (r : RunD) (w' : World) (e : Ending) : Prop :=
 (detOk x = false ∧ e = .returned (.tuple #[.agg zeroD, .int .i64 1])) ∨ (detOk x = true ∧ detOk (putD x r) = false ∧ e = .returned (.tuple #[.agg zeroD, .int .i64 19])) ∨
  (detOk x = true ∧ detOk (putD x r) = true ∧ ∃ s', e = .returned (.tuple #[detV (putD x r) s', .int .i64 0]) ∧ DetAt w' w'.heap.size (putD x r) s' ∧ DetFit (putD x r) s' ∧ s'.n4 ≤ s'.c4)
abbrev runCells (r : RunD) : Array Value := #[.string r.mark, .int .i64 r.tx, .int .i64 r.ty, .int .i64 r.place.1, .int .i64 r.place.2.1, .int .i64 r.place.2.2, .int .i64 r.step.1, .int .i64 r.step.2.1, .int .i64 r.step.2.2, .int .i64 r.count]
set_option maxHeartbeats 8000000 in
set_option maxRecDepth 100000 in
theorem put_ok (x : DetD) (s : DetS) (r : RunD) {B : Nat} (w : World) (h : DetAt w B x s) (hB : B ≤ w.heap.size) (hf : DetFit x s) (hm1 : s.n1 ≤ 300000) (hm2 : s.n2 ≤ 300000) (hm3 : ∀ b ∈ x.bars, b.dims.length ≤ 300000) (hm6 : ∀ d ∈ x.dems, d.steps.length ≤ 300000) (hrn : x.runs.length + 1 ≤ 60000) :
  Calls Tryz.prog 32 #[detV x s, .agg (runCells r)] w fun e w' => PutEnd x r w' e ∧ Below w.heap.size w w' := by
 have HV := hide (fun (W : World) (hz : Below w.heap.size w W) => show Calls Tryz.prog 26 #[.agg (detCells x.mem x.rule s)] W _ from detValid_any x s W (h.carry (hz.mono hB) (Nat.le_refl _)) (Nat.le_trans hB hz.size) hf)
 have HC := hide (fun (W : World) (hz : Below w.heap.size w W) => show Calls Tryz.prog 63 #[.agg (detCells x.mem x.rule s)] W _ from copied_ok x s W (h.carry (hz.mono hB) (Nat.le_refl _)) (Nat.le_trans hB hz.size) hf hm1 hm2 hm3 hm6)
 have HV2 := hide (fun (s' : DetS) (LB : List BarX) (LD : List DemX) (lo : Nat) (W : World) (ho : OwnLow W lo (putD x r) s' LB LD) => show Calls Tryz.prog 26 #[.agg (detCells (putD x r).mem (putD x r).rule s')] W _ from
  detValid_any (putD x r) s' W ho.at_ (Nat.le_refl _) (ho.len.fit hf rfl rfl rfl (by simp [putD]; omega) (by show x.laps.length ≤ 60000; rw [← hf.l5]; exact hf.m5)))
 have HF := hide (fun (s' : DetS) (LB : List BarX) (LD : List DemX) (lo : Nat) (W : World) (ho : OwnLow W lo (putD x r) s' LB LD) => show DetFit (putD x r) s' from (ho.len.fit hf rfl rfl rfl (by simp [putD]; omega) (by show x.laps.length ≤ 60000; rw [← hf.l5]; exact hf.m5)))
 have K0 := hide (((Blk.new w 34 (detCells x.mem x.rule s)).alloc (.cells (runCells r) 66)).alloc (.cells zeroD 34))
 have KR := hide ((Blk.new1 w (.cells (detCells x.mem x.rule s) 34) 66 (runCells r)).alloc (.cells zeroD 34))
 have KZ := hide (Blk.new2 w (.cells (detCells x.mem x.rule s) 34) (.cells (runCells r) 66) 34 zeroD)
 have HW := hide ((below_new2 w (.cells (detCells x.mem x.rule s) 34) (.cells (runCells r) 66)).alloc (by simp; omega) (.cells zeroD 34))
 have Hi := hide (show (Tryz.prog.info? 34).map (·.size) = some 19 by kernel_rfl)
 have Hir := hide (show (Tryz.prog.info? 66).map (·.size) = some 10 by kernel_rfl)
 have HS0 := hide (show (detCells x.mem x.rule s).size = 19 from rfl)
 have Hrn := hide hrn
 obtain ⟨C, hC⟩ : ∃ C, C = detCells x.mem x.rule s := ⟨_, rfl⟩
 rw [← hC] at HV HC K0 KR KZ HW HS0
 show Calls Tryz.prog 32 #[.agg (detCells x.mem x.rule s), .agg (runCells r)] w _
 rw [← hC]
 have P1 := hide (fun (w' : World) (h9 : detOk x = false) => show PutEnd x r w' (.returned (.tuple #[.agg zeroD, .int .i64 1])) from .inl ⟨h9, rfl⟩)
 have P2 := hide (fun (w' : World) (h9 : detOk x = true) (h8 : detOk (putD x r) = false) => show PutEnd x r w' (.returned (.tuple #[.agg zeroD, .int .i64 19])) from .inr (.inl ⟨h9, h8, rfl⟩))
 have P3 := hide (fun (w' : World) (h9 : detOk x = true) (h8 : detOk (putD x r) = true) (s' : DetS) (h1 : DetAt w' w'.heap.size (putD x r) s') (h2 : DetFit (putD x r) s') (h3 : s'.n4 ≤ s'.c4) => show PutEnd x r w' (.returned (.tuple #[.agg (detCells (putD x r).mem (putD x r).rule s'), .int .i64 0])) from .inr (.inr ⟨h9, h8, s', rfl, h1, h2, h3⟩))
 generalize PutEnd x r = PE at *
 generalize detOk x = t at *
 generalize detOk (putD x r) = t2 at *
 clear h hf hm1 hm2 hm3 hm6 hrn hC hB
 go_enter Tryz.func32, Tryz.ntmps32
 go_wp2_with (refine wpList_load_row rfl 34 (.tmp 2) rfl w.heap.size rfl 34 _ (0, 0) _ K0.out Tryz.underlying34 rfl (by rw [HS0.out]; exact Hi.out) ?_)
 refine (HV.out _ HW.out).mono ?_
 rintro e w1 ⟨rfl, hb⟩
 replace HW := hide (below_step HW.out hb (Nat.le_refl _))
 replace K0 := hide (K0.out.keep hb)
 replace KR := hide (KR.out.keep hb)
 replace KZ := hide (KZ.out.keep hb)
 clear hb HV
 cases t
 ·clear HC HV2 HF K0 KR HS0
  go_wp2_with (refine wpList_store_row rfl 34 (.tmp 4) (.tmp 10) rfl (w.heap.size + 1 + 1) zeroD rfl rfl 34 _ KZ.out Hi.out rfl (by kernel_rfl) ?_)
  refine bodyPost_ret (results_ct rfl rfl (setRow_heap _ (w.heap.size + 1 + 1) _ zeroD _ _ KZ.out) Tryz.underlying34 rfl (by kernel_rfl)) rfl ?_
  exact ⟨P1.out _ (by simp), Below.setRow HW.out (by omega) _⟩
 ·have HCz := hide (HC.out _ HW.out)
  clear HC
  go_wp2_with (refine wpList_load_row rfl 34 (.tmp 2) rfl w.heap.size rfl 34 _ (0, 0) _ K0.out Tryz.underlying34 rfl (by rw [HS0.out]; exact Hi.out) ?_)
  refine HCz.out.mono ?_
  rintro e w2 ⟨s', b, LB, LD, rfl, hln, hown, hb⟩
  clear hln
  have HW2 := hide (below_step HW.out hb (Nat.le_refl _))
  have KR2 := hide (KR.out.keep hb)
  have KZ2 := hide (KZ.out.keep hb)
  have hz1 : w.heap.size + 2 < w1.heap.size := KZ.out.lt
  have hz12 : w1.heap.size ≤ w2.heap.size := hb.size
  have Hown := hide hown
  have K6 := hide (Blk.new w2 34 zeroD)
  have HX2 := hide (below_new w2 (.cells zeroD 34))
  clear hown hb HW K0 KR KZ P1 HS0
  have Hv := hide (show detV x s' = .agg (detCells x.mem x.rule s') from rfl)
  show _
  go_upto_region 4 with (refine wpList_store_row rfl 34 (.tmp 6) (.tmp 12) rfl w2.heap.size (detCells x.mem x.rule s') rfl rfl 34 _ K6.out (by kernel_rfl) rfl (by kernel_rfl) ?_)
  have k64 := setRow_heap _ w2.heap.size _ (detCells x.mem x.rule s') _ _ K6.out
  have hx4 := Below.setRow HX2.out (Nat.le_refl _) (detCells x.mem x.rule s')
  have hs4 : (World.setRow (w2.alloc (.cells zeroD 34)) w2.heap.size (detCells x.mem x.rule s')).heap.size = w2.heap.size + 1 := by simp
  generalize World.setRow (w2.alloc (.cells zeroD 34)) w2.heap.size (detCells x.mem x.rule s') = w4 at *
  have K64 := hide (show Blk w4 w2.heap.size 34 (detCells x.mem x.rule s') from k64)
  have HX4 := hide hx4
  have HW4 := hide (HW2.out.trans (hx4.mono (by omega)))
  have KR4 := hide (KR2.out.below hx4 KR2.out.lt)
  have KZ4 := hide (KZ2.out.below hx4 KZ2.out.lt)
  have e7 := K64.out.cell 7
  simp only [detCells] at e7
  simp at e7
  have HR4 := hide ((((Hown.out.r4.mono (Nat.le_trans Hown.out.low (Hown.out.from0 3)) (Nat.le_refl _)).row.keep hx4).alloc (.cells (runCells r) 66)))
  have HYS := hide (SlOf.lit encRun_len w4 66 (runCells r) [r] (by simp [encRun]) (Nat.lt_succ_self w4.heap.size))
  have HA4 := hide (show some w2.heap.size ≠ (Value.slice s'.a4 s'.n4 s'.c4).ownBlock from fun h9 => apart_new Hown.out.r4.row (Nat.le_refl _) h9.symm)
  have HAz := hide (show some (w.heap.size + 2) ≠ (Value.slice s'.a4 s'.n4 s'.c4).ownBlock from fun h9 => row_base (Hown.out.r4.mono (Nat.le_trans Hown.out.low (Hown.out.from0 3)) (Nat.le_refl _)).row hz1 h9.symm)
  have hz24 : w2.heap.size ≤ w4.heap.size := by omega
  clear hs4 k64 hx4 K6 HX2 HW2 KR2 KZ2
  go_upto_region 5 with (first
   | (refine wpList_load_row rfl 66 (.tmp 3) rfl (w.heap.size + 1) rfl 66 _ (0, 0) _ KR4.out Tryz.underlying66 rfl Hir.out ?_)
   | (at_builtin; refine wpList_appendG rfl _ _ 28 rfl w1.heap.size 66 (.agg #[.string ⟨#[]⟩, .int .i64 0, .int .i64 0, .int .i64 0, .int .i64 0, .int .i64 0, .int .i64 0, .int .i64 0, .int .i64 0, .int .i64 0]) 10 88 encRun Tryz.underlying28 (by kernel_rfl) rfl (by omega) encRun_len encRun_one _ x.runs [r] rfl HR4.out (some ⟨w4.heap.size, 0, none⟩) 1 1 rfl rfl HYS.out (by have := Hrn.out; omega) (by simp) (by omega) (by simp; omega) ?_; intro A5 c5 w5 hrow5 hb5 hg5; have K65 := hide ((K64.out.alloc (.cells (runCells r) 66)).grown hg5 HA4.out); have HR5 := hide hrow5; have HB5 := hide hb5; have HG5 := hide hg5; clear hrow5 hb5 hg5; have e9 := K65.out.cell 7; have f9 := K65.out.frozen 7; simp only [detCells] at e9; simp at e9))
  have hap6 : ∀ k, some w2.heap.size = some k → Apart (.slice A5 (x.runs.length + 1) c5) k := fun k hk => by
   injection hk with hk
   subst hk
   exact apart_type HR5.out K65.out (by decide)
  have hrow6 := row_kept HR5.out (grown_set w5 w2.heap.size 7 (.slice A5 (x.runs.length + 1) c5)) hap6
  have hg6 := ((grown_below ((HX4.out).alloc (by omega) (.cells (runCells r) 66)) (Value.slice s'.a4 s'.n4 s'.c4).ownBlock).trans HG5.out).andThen (grown_set w5 w2.heap.size 7 (.slice A5 (x.runs.length + 1) c5)) (fun j hj => by injection hj with hj; left; omega)
  have low6 := OwnDet.runs (y := putD x r) (s' := { s' with a4 := A5, n4 := x.runs.length + 1, c4 := c5 }) Hown.out hg6 (A := A5) (n := x.runs.length + 1) (c := c5) hrow6 rfl rfl
  have k66 := K65.out.set_ 7 (.slice A5 (x.runs.length + 1) c5)
  have K66 := hide (show Blk (w5.setCell ⟨w2.heap.size, 7, none⟩ (.slice A5 (x.runs.length + 1) c5)) w2.heap.size 34 (detCells (putD x r).mem (putD x r).rule { s' with a4 := A5, n4 := x.runs.length + 1, c4 := c5 }) from by
   simp only [detCells, zzD, zzE, zzF] at k66 ⊢
   exact k66)
  have KZ6 := hide (((KZ4.out.alloc (.cells (runCells r) 66)).grown HG5.out HAz.out).far (p := ⟨w2.heap.size, 7, none⟩) (show w.heap.size + 2 ≠ w2.heap.size by omega) (.slice A5 (x.runs.length + 1) c5))
  have HW6 := hide (((HW4.out.alloc (by omega) (.cells (runCells r) 66)).trans (HB5.out.mono (by omega))).setCell (p := ⟨w2.heap.size, 7, none⟩) (show w.heap.size ≤ w2.heap.size by omega) (.slice A5 (x.runs.length + 1) c5))
  generalize World.setCell w5 ⟨w2.heap.size, 7, none⟩ (.slice A5 (x.runs.length + 1) c5) = w6 at *
  have Low6 := hide low6
  obtain ⟨s6, hs6⟩ : ∃ q : DetS, q = { s' with a4 := A5, n4 := x.runs.length + 1, c4 := c5 } := ⟨_, rfl⟩
  rw [← hs6] at K66 Low6
  clear hap6 hrow6 hg6 low6 k66 HR5 HG5 HB5 K65 HR4 HYS HA4 HAz K64 KR4 KZ4 HW4 HX4 e7 Hir Hown e9 f9 hs6
  have Hcv := hide (HV2.out s6 LB LD _ w6 Low6.out)
  have Hft := hide (HF.out s6 LB LD _ w6 Low6.out)
  have Hi6 := hide (show (Tryz.prog.info? 34).map (·.size) = some (detCells (putD x r).mem (putD x r).rule s6).size by kernel_rfl)
  have Ho6 := hide (show (detCells (putD x r).mem (putD x r).rule s6).all (·.oneCell') = true by kernel_rfl)
  have Hz6 := hide (show zeroD.size = (detCells (putD x r).mem (putD x r).rule s6).size by kernel_rfl)
  have HP3 := hide (fun (w' : World) (ht : t2 = true) (h1 : DetAt w' w'.heap.size (putD x r) s6) (h3 : s6.n4 ≤ s6.c4) => P3.out w' (by simp) ht s6 h1 Hft.out h3)
  clear HV2 HF P3 Hft
  generalize detCells (putD x r).mem (putD x r).rule s6 = C6 at *
  go_wp2_with (refine wpList_load_row rfl 34 (.tmp 6) rfl w2.heap.size rfl 34 _ (0, 0) _ K66.out Tryz.underlying34 rfl Hi6.out ?_)
  refine Hcv.out.mono ?_
  rintro e w7 ⟨rfl, hb7⟩
  have HW7 := hide (below_step HW6.out hb7 (Nat.le_refl _))
  have K67 := hide (K66.out.keep hb7)
  have KZ7 := hide (KZ6.out.keep hb7)
  have Low7 := hide (Low6.out.keep hb7)
  clear hb7 Hcv K66 KZ6 Low6 HW6
  cases t2
  ·clear HP3 Low7
   go_wp2_with (refine wpList_store_row rfl 34 (.tmp 4) (.tmp 22) rfl (w.heap.size + 1 + 1) zeroD rfl rfl 34 _ KZ7.out Hi.out rfl (by kernel_rfl) ?_)
   refine bodyPost_ret (results_ct rfl rfl (setRow_heap _ (w.heap.size + 1 + 1) _ zeroD _ _ KZ7.out) Tryz.underlying34 rfl (by kernel_rfl)) rfl ?_
   exact ⟨P2.out _ (by simp) (by simp), Below.setRow HW7.out (by omega) _⟩
  ·go_wp2_with (first
    | (refine wpList_load_row rfl 34 (.tmp 6) rfl w2.heap.size rfl 34 _ (0, 0) _ K67.out Tryz.underlying34 rfl Hi6.out ?_)
    | (refine wpList_store_row rfl 34 (.tmp 4) (.tmp 23) rfl (w.heap.size + 1 + 1) C6 rfl rfl 34 _ KZ7.out Hi6.out Hz6.out Ho6.out ?_))
   refine bodyPost_ret (results_ct rfl rfl (setRow_heap _ (w.heap.size + 1 + 1) _ C6 _ _ KZ7.out) Tryz.underlying34 rfl Hi6.out) rfl ?_
   exact ⟨HP3.out _ (by simp) (Low7.out.kept (grown_row _ _ _) (fun k hk => by
    injection hk with hk
    omega)).at_ (row_high Low7.out.r4).2, Below.setRow HW7.out (by omega) _⟩
end Go.Proofs.YtpaanfjjnjjoeaaGreat
