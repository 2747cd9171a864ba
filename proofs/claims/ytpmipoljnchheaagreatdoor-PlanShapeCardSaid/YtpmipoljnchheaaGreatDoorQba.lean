/- The cells of a plan. -/
import Derived.Test.YtpmipoljnchheaaGreatDoorQat
import Derived.Test.YtpmipoljnchheaaGreatDoorQao
import Derived.Deep.RegionHeld3
namespace Go.Proofs.YtpmipoljnchheaaGreatDoor
open Go.RowKit

set_option maxHeartbeats 1000000 in
theorem made1_any (n s : Int) (g : Nat) (w : World) (h0 : w.cell? ⟨g, 0, none⟩ = some (.int .i64 s)) (hs : 1 ≤ s ∧ s ≤ 1048576) (hn : 0 ≤ n ∧ n ≤ 4194304) :
    Calls Tryz.prog 43 #[.int .i64 n, .pointer (some ⟨g, 0, none⟩)] w fun e w' => e = .returned (.int .i64 (upQ n s)) ∧ w' = w := by
  have z1 : IntKind.i64.wrap (n + s) = n + s := IntWalk.i64_in _ (by omega)
  have z2 : IntKind.i64.wrap (n + s - 1) = n + s - 1 := IntWalk.i64_in _ (by omega)
  go_enter Tryz.func43, Tryz.ntmps43
  go_wp2_with fail
  go_ret
  exact ⟨ret_int rfl, rfl⟩
theorem upQ_range {n s : Int} (h0 : 0 ≤ n) (h1 : n ≤ 4194304) (hs : 1 ≤ s ∧ s ≤ 1048576) : 0 ≤ upQ n s ∧ upQ n s ≤ 8388608 := by
  unfold upQ
  have a := Int.ediv_nonneg (a := n + s - 1) (b := s) (by omega) (by omega)
  have b := Int.ediv_le_self (a := n + s - 1) s (by omega)
  omega
theorem prod_range {a b : Int} (h0 : 0 ≤ a) (h1 : a ≤ 8388608) (h2 : 0 ≤ b) (h3 : b ≤ 8388608) : 0 ≤ a * b ∧ a * b ≤ 70368744177664 := by
  have a1 := Int.mul_nonneg h0 h2
  have a2 := Int.mul_le_mul h1 h3 h2 (by omega)
  omega
def zeroGrid : GridD := ⟨(0, 0, 0), 0, 0, 0⟩
def planGrid (x : DetD) (s : Int) : GridD := if planErr x s = 0 then gridOf x s else zeroGrid
abbrev gridCells (g : GridD) : Array Value := #[.int .i64 g.lo.1, .int .i64 g.lo.2.1, .int .i64 g.lo.2.2, .int .i64 g.scale, .int .i64 g.rows, .int .i64 g.cols]
theorem plan_bad {x : DetD} {s : Int} {e : Int} (h : planErr x s = e) (he : e ≠ 0) : planGrid x s = zeroGrid := by rw [planGrid, h, if_neg he]
theorem plan_ok {x : DetD} {s : Int} (h : planErr x s = 0) : planGrid x s = gridOf x s := by rw [planGrid, if_pos h]
set_option maxHeartbeats 4000000 in
set_option maxRecDepth 100000 in
theorem made_any (x : DetD) (s : DetS) (sc : Int) (w : World) {B : Nat} (h : DetAt w B x s) (hB : B ≤ w.heap.size) (hf : DetFit x s) :
    Calls Tryz.prog 21 #[detV x s, .int .i64 sc] w fun e w' => e = .returned (.tuple #[.agg (gridCells (planGrid x sc)), .int .i64 (planErr x sc)]) ∧ Below w.heap.size w w' := by
  have HV := hide (fun (W : World) (hz : Below w.heap.size w W) => lapValid_any x s W (h.carry (hz.mono hB) (Nat.le_refl _)) (Nat.le_trans hB hz.size) hf)
  have HS := hide (fun (W : World) (hz : Below w.heap.size w W) (hok : solidOk x.mem.boxes x.mem.holes = true) => solidHull_ok x.mem.boxes x.mem.holes s.a1 s.a2 s.n1 s.n2 s.c1 s.c2 W (h.h1.carry (Flat.carried _) (hz.mono hB) (Nat.le_refl _)) (h.h2.carry (Flat.carried _) (hz.mono hB) (Nat.le_refl _)) (Nat.le_trans hB hz.size) hf.l1 hf.l2 hok)
  have Hi := hide (show (Tryz.prog.info? 34).map (·.size) = some 19 by kernel_rfl)
  have K0 := hide (((Blk.new w 34 (detCells x.mem x.rule s)).alloc (.cells #[.int .i64 sc] 3)).alloc (.cells #[.int .i64 0, .int .i64 0, .int .i64 0, .int .i64 0, .int .i64 0, .int .i64 0] 65))
  have KS := hide ((Blk.new1 w (.cells (detCells x.mem x.rule s) 34) 3 #[.int .i64 sc]).alloc (.cells #[.int .i64 0, .int .i64 0, .int .i64 0, .int .i64 0, .int .i64 0, .int .i64 0] 65))
  have KG := hide (Blk.new2 w (.cells (detCells x.mem x.rule s) 34) (.cells #[.int .i64 sc] 3) 65 #[.int .i64 0, .int .i64 0, .int .i64 0, .int .i64 0, .int .i64 0, .int .i64 0])
  have HW := hide ((below_new2 w (.cells (detCells x.mem x.rule s) 34) (.cells #[.int .i64 sc] 3)).alloc (by simp; omega) (.cells #[.int .i64 0, .int .i64 0, .int .i64 0, .int .i64 0, .int .i64 0, .int .i64 0] 65))
  obtain ⟨er, her⟩ : ∃ e, e = planErr x sc := ⟨_, rfl⟩
  obtain ⟨gr, hgr⟩ : ∃ g, g = planGrid x sc := ⟨_, rfl⟩
  obtain ⟨td, htd⟩ : ∃ t, t = detOk x := ⟨_, rfl⟩
  have Hbad := hide (fun (e : Int) (h : er = e) (he : e ≠ 0) => show gr = zeroGrid by rw [hgr]; exact plan_bad (her ▸ h) he)
  have Hgood := hide (fun (h : er = 0) => show gr = gridOf x sc by rw [hgr]; exact plan_ok (her ▸ h))
  have He := hide (show er = if td = false then 1 else if sc < 1 ∨ 1048576 < sc then 2 else if 20000 < (gridOf x sc).rows * (gridOf x sc).cols then 6 else 0 by rw [her, htd]; rfl)
  rw [← htd] at HV
  rw [← her, ← hgr]
  have Hsol := hide (fun (hd : td = true) => (detOk_parts (htd ▸ hd)).2.2)
  have Hhull := hide (fun (hd : td = true) => detOk_hull (htd ▸ hd))
  have Hgr := hide (show gridOf x sc = ⟨(hullOf x.mem.boxes).lo, sc, upQ ((hullOf x.mem.boxes).hi.2.1 - (hullOf x.mem.boxes).lo.2.1) sc, upQ ((hullOf x.mem.boxes).hi.1 - (hullOf x.mem.boxes).lo.1) sc⟩ from rfl)
  obtain ⟨mem, bars, runs, laps, dems, rule⟩ := x
  obtain ⟨a1, n1, c1, a2, n2, c2, a3, n3, c3, a4, n4, c4, a5, n5, c5, a6, n6, c6⟩ := s
  obtain ⟨name, boxes, holes, cover, agg, poker⟩ := mem
  obtain ⟨r1, r2, r3, r4, r5, r6, r7, r8, r9⟩ := rule
  simp only [detCells] at K0 KS KG HW HS Hsol Hhull Hgr
  clear h hf her hgr htd
  show Calls Tryz.prog 21 #[.agg #[.string name, .slice a1 n1 c1, .slice a2 n2 c2, .int .i64 cover, .int .i64 agg, .int .i64 poker, .slice a3 n3 c3, .slice a4 n4 c4, .slice a5 n5 c5, .slice a6 n6 c6, .int .i64 r1, .int .i64 r2, .int .i64 r3, .int .i64 r4, .int .i64 r5, .int .i64 r6, .int .i64 r7, .int .i64 r8, .int .i64 r9], .int .i64 sc] w _
  go_enter Tryz.func21, Tryz.ntmps21
  go_wp2_with (refine wpList_load_row rfl 34 (.tmp 2) rfl w.heap.size rfl 34 _ (0, 0) _ K0.out Tryz.underlying34 rfl Hi.out ?_)
  refine (HV.out _ HW.out).mono ?_
  rintro e w2 ⟨rfl, hb2⟩
  have K0 := hide (K0.out.keep hb2)
  have KS := hide (KS.out.keep hb2)
  have KG := hide (KG.out.keep hb2)
  have HW := hide (below_step HW.out hb2 (Nat.le_refl _))
  clear hb2 HV Hi
  cases td
  · have hres := hide (show er = 1 by rw [He.out, if_pos rfl])
    have hg := hide (Hbad.out _ hres.out (by decide))
    have g0 := KG.out.cell 0
    have g1 := KG.out.cell 1
    have g2 := KG.out.cell 2
    have g3 := KG.out.cell 3
    have g4 := KG.out.cell 4
    have g5 := KG.out.cell 5
    have f0 := KG.out.frozen 0
    have f1 := KG.out.frozen 1
    have f2 := KG.out.frozen 2
    have f3 := KG.out.frozen 3
    have f4 := KG.out.frozen 4
    have f5 := KG.out.frozen 5
    simp at g0 g1 g2 g3 g4 g5
    have gl := KG.out.lt
    go_wp2_with fail
    refine bodyPost_ret (results_ct rfl rfl ((((((KG.out.set_ 0 _).set_ 1 _).set_ 2 _).set_ 3 _).set_ 4 _).set_ 5 _) Tryz.underlying65 rfl (by kernel_rfl)) rfl ?_
    refine ⟨?_, (((((HW.out.setCell (p := ⟨w.heap.size + 2, 0, none⟩) (by simp) _).setCell (p := ⟨w.heap.size + 2, 1, none⟩) (by simp) _).setCell (p := ⟨w.heap.size + 2, 2, none⟩) (by simp) _).setCell (p := ⟨w.heap.size + 2, 3, none⟩) (by simp) _).setCell (p := ⟨w.heap.size + 2, 4, none⟩) (by simp) _).setCell (p := ⟨w.heap.size + 2, 5, none⟩) (by simp) _⟩
    simp only [List.setIfInBounds_toArray, List.set_cons_zero, List.set_cons_succ]
    rw [hg.out, hres.out]
    rfl
  have s0 := KS.out.cell 0
  simp at s0
  have sl := KS.out.lt
  by_cases hs1 : sc < 1
  · have d0 : decide (sc < 1) = true := by simpa using hs1
    have hres := hide (show er = 2 by rw [He.out, if_neg (by decide), if_pos (.inl hs1)])
    have hg := hide (Hbad.out _ hres.out (by decide))
    have g0 := KG.out.cell 0
    have g1 := KG.out.cell 1
    have g2 := KG.out.cell 2
    have g3 := KG.out.cell 3
    have g4 := KG.out.cell 4
    have g5 := KG.out.cell 5
    have f0 := KG.out.frozen 0
    have f1 := KG.out.frozen 1
    have f2 := KG.out.frozen 2
    have f3 := KG.out.frozen 3
    have f4 := KG.out.frozen 4
    have f5 := KG.out.frozen 5
    simp at g0 g1 g2 g3 g4 g5
    have gl := KG.out.lt
    go_wp2_with fail
    refine bodyPost_ret (results_ct rfl rfl ((((((KG.out.set_ 0 _).set_ 1 _).set_ 2 _).set_ 3 _).set_ 4 _).set_ 5 _) Tryz.underlying65 rfl (by kernel_rfl)) rfl ?_
    refine ⟨?_, (((((HW.out.setCell (p := ⟨w.heap.size + 2, 0, none⟩) (by simp) _).setCell (p := ⟨w.heap.size + 2, 1, none⟩) (by simp) _).setCell (p := ⟨w.heap.size + 2, 2, none⟩) (by simp) _).setCell (p := ⟨w.heap.size + 2, 3, none⟩) (by simp) _).setCell (p := ⟨w.heap.size + 2, 4, none⟩) (by simp) _).setCell (p := ⟨w.heap.size + 2, 5, none⟩) (by simp) _⟩
    simp only [List.setIfInBounds_toArray, List.set_cons_zero, List.set_cons_succ]
    rw [hg.out, hres.out]
    rfl
  have d0 : decide (sc < 1) = false := by simpa using hs1
  by_cases hs2 : 1048576 < sc
  · have d1 : decide (1048576 < sc) = true := by simpa using hs2
    have hres := hide (show er = 2 by rw [He.out, if_neg (by decide), if_pos (.inr hs2)])
    have hg := hide (Hbad.out _ hres.out (by decide))
    have g0 := KG.out.cell 0
    have g1 := KG.out.cell 1
    have g2 := KG.out.cell 2
    have g3 := KG.out.cell 3
    have g4 := KG.out.cell 4
    have g5 := KG.out.cell 5
    have f0 := KG.out.frozen 0
    have f1 := KG.out.frozen 1
    have f2 := KG.out.frozen 2
    have f3 := KG.out.frozen 3
    have f4 := KG.out.frozen 4
    have f5 := KG.out.frozen 5
    simp at g0 g1 g2 g3 g4 g5
    have gl := KG.out.lt
    go_wp2_with fail
    refine bodyPost_ret (results_ct rfl rfl ((((((KG.out.set_ 0 _).set_ 1 _).set_ 2 _).set_ 3 _).set_ 4 _).set_ 5 _) Tryz.underlying65 rfl (by kernel_rfl)) rfl ?_
    refine ⟨?_, (((((HW.out.setCell (p := ⟨w.heap.size + 2, 0, none⟩) (by simp) _).setCell (p := ⟨w.heap.size + 2, 1, none⟩) (by simp) _).setCell (p := ⟨w.heap.size + 2, 2, none⟩) (by simp) _).setCell (p := ⟨w.heap.size + 2, 3, none⟩) (by simp) _).setCell (p := ⟨w.heap.size + 2, 4, none⟩) (by simp) _).setCell (p := ⟨w.heap.size + 2, 5, none⟩) (by simp) _⟩
    simp only [List.setIfInBounds_toArray, List.set_cons_zero, List.set_cons_succ]
    rw [hg.out, hres.out]
    rfl
  have d1 : decide (1048576 < sc) = false := by simpa using hs2
  have He2 := hide (show er = if 20000 < (gridOf ⟨⟨name, boxes, holes, cover, agg, poker⟩, bars, runs, laps, dems, ⟨r1, r2, r3, r4, r5, r6, r7, r8, r9⟩⟩ sc).rows * (gridOf ⟨⟨name, boxes, holes, cover, agg, poker⟩, bars, runs, laps, dems, ⟨r1, r2, r3, r4, r5, r6, r7, r8, r9⟩⟩ sc).cols then 6 else 0 by rw [He.out, if_neg (by decide), if_neg (by omega)])
  have hsr : 1 ≤ sc ∧ sc ≤ 1048576 := by omega
  have hhull := Hhull.out rfl
  have hsol := Hsol.out rfl
  have HSs := hide (fun (W : World) (hz : Below w.heap.size w W) => HS.out W hz hsol)
  generalize hullOf boxes = hb at *
  obtain ⟨⟨x1, x2, x3⟩, x4, x5, x6⟩ := hb
  simp only [boxOk_iff] at hhull
  simp only at Hgr
  obtain ⟨⟨u1, u2, u3⟩, ⟨v1, v2, v3⟩, t1, t2, t3⟩ := hhull
  have k1 := K0.out.cell 1
  have k2 := K0.out.cell 2
  simp at k1 k2
  have kl := K0.out.lt
  clear hsol HS Hsol Hhull He hs1 hs2
  go_wp2_with fail
  refine (HSs.out _ HW.out).mono ?_
  rintro e w3 ⟨rfl, hb3⟩
  have KS := hide (KS.out.keep hb3)
  have KG := hide (KG.out.keep hb3)
  have HW := hide (below_step HW.out hb3 (Nat.le_refl _))
  have s0 := KS.out.cell 0
  simp at s0
  have sl := KS.out.lt
  clear hb3 k1 k2 kl K0 HSs
  have z1 : IntKind.i64.wrap (x5 - x2) = x5 - x2 := IntWalk.i64_in _ (by omega)
  have z2 : IntKind.i64.wrap (x4 - x1) = x4 - x1 := IntWalk.i64_in _ (by omega)
  obtain ⟨rw1, hrw⟩ : ∃ r, r = upQ (x5 - x2) sc := ⟨_, rfl⟩
  obtain ⟨cl1, hcl⟩ : ∃ r, r = upQ (x4 - x1) sc := ⟨_, rfl⟩
  have hM1 := fun (W : World) (h0 : W.cell? ⟨w.heap.size + 1, 0, none⟩ = some (.int .i64 sc)) => made1_any (x5 - x2) sc (w.heap.size + 1) W h0 hsr (by omega)
  have hM2 := fun (W : World) (h0 : W.cell? ⟨w.heap.size + 1, 0, none⟩ = some (.int .i64 sc)) => made1_any (x4 - x1) sc (w.heap.size + 1) W h0 hsr (by omega)
  have hr1 := upQ_range (n := x5 - x2) (s := sc) (by omega) (by omega) hsr
  have hr2 := upQ_range (n := x4 - x1) (s := sc) (by omega) (by omega) hsr
  rw [← hrw] at hM1 hr1
  rw [← hcl] at hM2 hr2
  have Hgr2 := hide (Hgr.out.trans (by rw [← hrw, ← hcl] : _ = (⟨(x1, x2, x3), sc, rw1, cl1⟩ : GridD)))
  have HM1 := hide hM1
  have HM2 := hide hM2
  have hpr := prod_range hr1.1 hr1.2 hr2.1 hr2.2
  have z3 : IntKind.i64.wrap (rw1 * cl1) = rw1 * cl1 := IntWalk.i64_in _ (by omega)
  go_wp2_with fail
  obtain ⟨wa, hwa⟩ : ∃ wa, wa = w3.alloc (.cells #[.int .i64 x1, .int .i64 x2, .int .i64 x3, .int .i64 x4, .int .i64 x5, .int .i64 x6] 93) := ⟨_, rfl⟩
  have KB := hide (Blk.new w3 93 #[.int .i64 x1, .int .i64 x2, .int .i64 x3, .int .i64 x4, .int .i64 x5, .int .i64 x6])
  have HWB := hide (HW.out.alloc HW.out.size (.cells #[.int .i64 x1, .int .i64 x2, .int .i64 x3, .int .i64 x4, .int .i64 x5, .int .i64 x6] 93))
  have KGB := hide (KG.out.alloc (.cells #[.int .i64 x1, .int .i64 x2, .int .i64 x3, .int .i64 x4, .int .i64 x5, .int .i64 x6] 93))
  have KSB := hide (KS.out.alloc (.cells #[.int .i64 x1, .int .i64 x2, .int .i64 x3, .int .i64 x4, .int .i64 x5, .int .i64 x6] 93))
  rw [← hwa] at KB HWB KGB KSB ⊢
  have b0 := KB.out.cell 0
  have b1 := KB.out.cell 1
  have b2 := KB.out.cell 2
  have b3 := KB.out.cell 3
  have b4 := KB.out.cell 4
  have b5 := KB.out.cell 5
  have s0 := KSB.out.cell 0
  simp at b0 b1 b2 b3 b4 b5 s0
  have lb := KB.out.lt
  have ls := KSB.out.lt
  clear hM1 hM2 hrw hcl Hgr hwa
  go_cut [9] from 35 (fun s9 wx => s9 = .pointer (some ⟨wa.heap.size, 0, none⟩) ∧ wx = (wa.alloc (.cells #[.int .i64 x1, .int .i64 x2, .int .i64 x3, .int .i64 sc, .int .i64 rw1, .int .i64 cl1] 65)).drew)
  case first =>
    go_region_held3 (fun W => W.cell? ⟨w.heap.size + 1, 0, none⟩ = some (.int .i64 sc) ∧ W.cell? ⟨w3.heap.size, 0, none⟩ = some (.int .i64 x1) ∧ W.cell? ⟨w3.heap.size, 1, none⟩ = some (.int .i64 x2) ∧ W.cell? ⟨w3.heap.size, 2, none⟩ = some (.int .i64 x3) ∧ W.cell? ⟨w3.heap.size, 3, none⟩ = some (.int .i64 x4) ∧ W.cell? ⟨w3.heap.size, 4, none⟩ = some (.int .i64 x5))
      (first | go_keep)
      (first
        | (go_at_call 43; have hS := ‹World.cell? _ ⟨w.heap.size + 1, 0, none⟩ = some (.int .i64 sc) ∧ _ ∧ _ ∧ _ ∧ _ ∧ _›; (first | (with_reducible refine (HM1.out _ hS.1).mono ?_) | (with_reducible refine (HM2.out _ hS.1).mono ?_)); rintro e w' ⟨rfl, rfl⟩))
    all_goals
      go_wp2_with fail
      go_meet
      exact ⟨rfl, rfl⟩
  obtain ⟨rfl, hwb⟩ := hcut
  obtain ⟨gG, hgG⟩ : ∃ g, g = w.heap.size + 1 + 1 := ⟨_, rfl⟩
  have KGB := hide (show Blk wa gG 65 #[.int .i64 0, .int .i64 0, .int .i64 0, .int .i64 0, .int .i64 0, .int .i64 0] by rw [hgG]; exact KGB.out)
  have hwg : w.heap.size ≤ gG := by omega
  rw [← hgG]
  have HgG := hide hgG
  clear hgG
  have HWC := hide ((HWB.out.alloc HWB.out.size (.cells #[.int .i64 x1, .int .i64 x2, .int .i64 x3, .int .i64 sc, .int .i64 rw1, .int .i64 cl1] 65)).drew)
  have KGC := hide ((KGB.out.alloc (.cells #[.int .i64 x1, .int .i64 x2, .int .i64 x3, .int .i64 sc, .int .i64 rw1, .int .i64 cl1] 65)).drew)
  have KN := hide ((Blk.new wa 65 #[.int .i64 x1, .int .i64 x2, .int .i64 x3, .int .i64 sc, .int .i64 rw1, .int .i64 cl1]).drew)
  rw [← hwb] at HWC KGC KN
  have HNG := hide (show wa.heap.size ≠ gG by have := KGB.out.lt; omega)
  obtain ⟨gN, hgN⟩ : ∃ g, g = wa.heap.size := ⟨_, rfl⟩
  rw [← hgN] at KN HNG ⊢
  have g0 := KGC.out.cell 0
  have g1 := KGC.out.cell 1
  have g2 := KGC.out.cell 2
  have g3 := KGC.out.cell 3
  have g4 := KGC.out.cell 4
  have g5 := KGC.out.cell 5
  have f0 := KGC.out.frozen 0
  have f1 := KGC.out.frozen 1
  have f2 := KGC.out.frozen 2
  have f3 := KGC.out.frozen 3
  have f4 := KGC.out.frozen 4
  have f5 := KGC.out.frozen 5
  have n0 := KN.out.cell 0
  have n1 := KN.out.cell 1
  have n2 := KN.out.cell 2
  have n3 := KN.out.cell 3
  have n4 := KN.out.cell 4
  have n5 := KN.out.cell 5
  simp at g0 g1 g2 g3 g4 g5 n0 n1 n2 n3 n4 n5
  clear b0 b1 b2 b3 b4 b5 s0 HM1 HM2 hwb hgN lb ls sl hr1 hr2 hpr z1 z2 u1 u2 u3 v1 v2 v3 t1 t2 t3 KB HWB KGB KSB HW KS KG
  by_cases hbig : 20000 < rw1 * cl1
  · have d2 : decide (20000 < rw1 * cl1) = true := by simpa using hbig
    have hres := hide (show er = 6 by rw [He2.out, Hgr2.out, if_pos hbig])
    have hg := hide (Hbad.out _ hres.out (by decide))
    clear hbig
    go_wp2_with fail
    refine bodyPost_ret (results_ct rfl rfl ((((((KGC.out.set_ 0 _).set_ 1 _).set_ 2 _).set_ 3 _).set_ 4 _).set_ 5 _) Tryz.underlying65 rfl (by kernel_rfl)) rfl ?_
    refine ⟨?_, (((((HWC.out.setCell (p := ⟨gG, 0, none⟩) hwg _).setCell (p := ⟨gG, 1, none⟩) hwg _).setCell (p := ⟨gG, 2, none⟩) hwg _).setCell (p := ⟨gG, 3, none⟩) hwg _).setCell (p := ⟨gG, 4, none⟩) hwg _).setCell (p := ⟨gG, 5, none⟩) hwg _⟩
    simp only [List.setIfInBounds_toArray, List.set_cons_zero, List.set_cons_succ]
    rw [hg.out, hres.out]
    rfl
  · have d2 : decide (20000 < rw1 * cl1) = false := by simpa using hbig
    have hres := hide (show er = 0 by rw [He2.out, Hgr2.out, if_neg hbig])
    have hg := hide ((Hgood.out hres.out).trans Hgr2.out)
    clear hbig
    go_wp2_with fail
    refine bodyPost_ret (results_ct rfl rfl ((((((KGC.out.set_ 0 _).set_ 1 _).set_ 2 _).set_ 3 _).set_ 4 _).set_ 5 _) Tryz.underlying65 rfl (by kernel_rfl)) rfl ?_
    refine ⟨?_, (((((HWC.out.setCell (p := ⟨gG, 0, none⟩) hwg _).setCell (p := ⟨gG, 1, none⟩) hwg _).setCell (p := ⟨gG, 2, none⟩) hwg _).setCell (p := ⟨gG, 3, none⟩) hwg _).setCell (p := ⟨gG, 4, none⟩) hwg _).setCell (p := ⟨gG, 5, none⟩) hwg _⟩
    simp only [List.setIfInBounds_toArray, List.set_cons_zero, List.set_cons_succ]
    rw [hg.out, hres.out]
    rfl
end Go.Proofs.YtpmipoljnchheaaGreatDoor
