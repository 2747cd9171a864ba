/- The plan where it gives an error. The reference of layer 46: sizes, error numbers, letters. The reference of layer 46: the error number of a detail and a scale. The reference of layer 46: the cell of a point, the legend. -/
import Derived.Test.YtpmipoljnchheaaGreatMas
import Derived.Test.YtpmipoljnchheaaGreatMat
import Derived.Test.YtpmipoljnchheaaGreatMal
import Derived.Test.YtpmipoljnchheaaGreatMaq
import Derived.Deep.CutRange
namespace Go.Proofs.YtpmipoljnchheaaGreat
open Go.RowKit

set_option maxHeartbeats 4000000 in
set_option maxRecDepth 100000 in
theorem planCell_bad (x : DetD) (s : DetS) (sc : Int) (p1 p2 p3 : Int) (w : World) {B : Nat} (h : DetAt w B x s) (hB : B ≤ w.heap.size) (hf : DetFit x s) (he : planErr x sc ≠ 0) :
    Calls Tryz.prog 15 #[detV x s, .int .i64 sc, .agg #[.int .i64 p1, .int .i64 p2, .int .i64 p3]] w fun e w' => e = .returned (.tuple #[.int .i64 0, .int .i64 0, .int .i64 (planErr x sc)]) ∧ Below w.heap.size w w' := by
  have hM := fun (W : World) (hz : Below w.heap.size w W) => made_any x s sc W (h.carry (hz.mono hB) (Nat.le_refl _)) (Nat.le_trans hB hz.size) hf
  rw [plan_bad rfl he] at hM
  have HM := hide hM
  simp only [gridCells, zeroGrid] at HM
  generalize planErr x sc = er at *
  have e0 : (er == 0) = false := by simpa using he
  have e1 : (er != 0) = true := by simpa using he
  have Hi := hide (show (Tryz.prog.info? 34).map (·.size) = some 19 by kernel_rfl)
  have K0 := hide ((Blk.new w 34 (detCells x.mem x.rule s)).alloc (.cells #[.int .i64 p1, .int .i64 p2, .int .i64 p3] 44))
  have HW := hide ((below_new w (.cells (detCells x.mem x.rule s) 34)).alloc (by simp) (.cells #[.int .i64 p1, .int .i64 p2, .int .i64 p3] 44))
  obtain ⟨mem, bars, runs, laps, dems, rule⟩ := x
  obtain ⟨a1, n1, c1, a2, n2, c2, a3, n3, c3, a4, n4, c4, a5, n5, c5, a6, n6, c6⟩ := s
  obtain ⟨name, boxes, holes, cover, agg, poker⟩ := mem
  obtain ⟨r1, r2, r3, r4, r5, r6, r7, r8, r9⟩ := rule
  simp only [detCells] at K0 HW
  clear h hf hM he
  show Calls Tryz.prog 15 #[.agg #[.string name, .slice a1 n1 c1, .slice a2 n2 c2, .int .i64 cover, .int .i64 agg, .int .i64 poker, .slice a3 n3 c3, .slice a4 n4 c4, .slice a5 n5 c5, .slice a6 n6 c6, .int .i64 r1, .int .i64 r2, .int .i64 r3, .int .i64 r4, .int .i64 r5, .int .i64 r6, .int .i64 r7, .int .i64 r8, .int .i64 r9], .int .i64 sc, .agg #[.int .i64 p1, .int .i64 p2, .int .i64 p3]] w _
  go_enter Tryz.func15, Tryz.ntmps15
  go_wp2_with (refine wpList_load_row rfl 34 (.tmp 3) rfl w.heap.size rfl 34 _ (0, 0) _ K0.out Tryz.underlying34 rfl Hi.out ?_)
  refine (HM.out _ HW.out).mono ?_
  rintro e w2 ⟨rfl, hb2⟩
  have HW2 := hide (below_step HW.out hb2 (Nat.le_refl _))
  clear hb2 HM K0 HW Hi
  go_wp2_with fail
  go_ret3
  exact ⟨rfl, HW2.out.alloc HW2.out.size _⟩
set_option maxHeartbeats 4000000 in
set_option maxRecDepth 100000 in
theorem planAt_bad (x : DetD) (s : DetS) (sc : Int) (row col : Int) (w : World) {B : Nat} (h : DetAt w B x s) (hB : B ≤ w.heap.size) (hf : DetFit x s) (he : planErr x sc ≠ 0) :
    Calls Tryz.prog 21 #[detV x s, .int .i64 sc, .int .i64 row, .int .i64 col] w fun e w' => e = .returned (.tuple #[.slice none 0 0, .int .i64 (planErr x sc)]) ∧ Below w.heap.size w w' := by
  have hM := fun (W : World) (hz : Below w.heap.size w W) => made_any x s sc W (h.carry (hz.mono hB) (Nat.le_refl _)) (Nat.le_trans hB hz.size) hf
  rw [plan_bad rfl he] at hM
  have HM := hide hM
  simp only [gridCells, zeroGrid] at HM
  generalize planErr x sc = er at *
  have e0 : (er == 0) = false := by simpa using he
  have e1 : (er != 0) = true := by simpa using he
  have Hi := hide (show (Tryz.prog.info? 34).map (·.size) = some 19 by kernel_rfl)
  have K0 := hide (Blk.new w 34 (detCells x.mem x.rule s))
  have HW := hide (below_new w (.cells (detCells x.mem x.rule s) 34))
  obtain ⟨mem, bars, runs, laps, dems, rule⟩ := x
  obtain ⟨a1, n1, c1, a2, n2, c2, a3, n3, c3, a4, n4, c4, a5, n5, c5, a6, n6, c6⟩ := s
  obtain ⟨name, boxes, holes, cover, agg, poker⟩ := mem
  obtain ⟨r1, r2, r3, r4, r5, r6, r7, r8, r9⟩ := rule
  simp only [detCells] at K0 HW
  clear h hf hM he
  show Calls Tryz.prog 21 #[.agg #[.string name, .slice a1 n1 c1, .slice a2 n2 c2, .int .i64 cover, .int .i64 agg, .int .i64 poker, .slice a3 n3 c3, .slice a4 n4 c4, .slice a5 n5 c5, .slice a6 n6 c6, .int .i64 r1, .int .i64 r2, .int .i64 r3, .int .i64 r4, .int .i64 r5, .int .i64 r6, .int .i64 r7, .int .i64 r8, .int .i64 r9], .int .i64 sc, .int .i64 row, .int .i64 col] w _
  go_enter Tryz.func21, Tryz.ntmps21
  go_wp2_with (refine wpList_load_row rfl 34 (.tmp 4) rfl w.heap.size rfl 34 _ (0, 0) _ K0.out Tryz.underlying34 rfl Hi.out ?_)
  refine (HM.out _ HW.out).mono ?_
  rintro e w2 ⟨rfl, hb2⟩
  have HW2 := hide (below_step HW.out hb2 (Nat.le_refl _))
  clear hb2 HM K0 HW Hi
  go_wp2_with fail
  go_ret2
  exact ⟨rfl, HW2.out.alloc HW2.out.size _⟩
set_option maxHeartbeats 4000000 in
set_option maxRecDepth 100000 in
theorem planDraw_bad (x : DetD) (s : DetS) (sc : Int) (w : World) {B : Nat} (h : DetAt w B x s) (hB : B ≤ w.heap.size) (hf : DetFit x s) (he : planErr x sc ≠ 0) :
    Calls Tryz.prog 11 #[detV x s, .int .i64 sc] w fun e w' => e = .returned (.tuple #[.string ⟨#[]⟩, .int .i64 (planErr x sc)]) ∧ Below w.heap.size w w' := by
  have hM := fun (W : World) (hz : Below w.heap.size w W) => made_any x s sc W (h.carry (hz.mono hB) (Nat.le_refl _)) (Nat.le_trans hB hz.size) hf
  rw [plan_bad rfl he] at hM
  have HM := hide hM
  simp only [gridCells, zeroGrid] at HM
  generalize planErr x sc = er at *
  have e0 : (er == 0) = false := by simpa using he
  have e1 : (er != 0) = true := by simpa using he
  have Hi := hide (show (Tryz.prog.info? 34).map (·.size) = some 19 by kernel_rfl)
  have K0 := hide (Blk.new w 34 (detCells x.mem x.rule s))
  have HW := hide (below_new w (.cells (detCells x.mem x.rule s) 34))
  obtain ⟨mem, bars, runs, laps, dems, rule⟩ := x
  obtain ⟨a1, n1, c1, a2, n2, c2, a3, n3, c3, a4, n4, c4, a5, n5, c5, a6, n6, c6⟩ := s
  obtain ⟨name, boxes, holes, cover, agg, poker⟩ := mem
  obtain ⟨r1, r2, r3, r4, r5, r6, r7, r8, r9⟩ := rule
  simp only [detCells] at K0 HW
  clear h hf hM he
  show Calls Tryz.prog 11 #[.agg #[.string name, .slice a1 n1 c1, .slice a2 n2 c2, .int .i64 cover, .int .i64 agg, .int .i64 poker, .slice a3 n3 c3, .slice a4 n4 c4, .slice a5 n5 c5, .slice a6 n6 c6, .int .i64 r1, .int .i64 r2, .int .i64 r3, .int .i64 r4, .int .i64 r5, .int .i64 r6, .int .i64 r7, .int .i64 r8, .int .i64 r9], .int .i64 sc] w _
  go_enter Tryz.func11, Tryz.ntmps11
  go_wp2_with (refine wpList_load_row rfl 34 (.tmp 2) rfl w.heap.size rfl 34 _ (0, 0) _ K0.out Tryz.underlying34 rfl Hi.out ?_)
  refine (HM.out _ HW.out).mono ?_
  rintro e w2 ⟨rfl, hb2⟩
  have HW2 := hide (below_step HW.out hb2 (Nat.le_refl _))
  clear hb2 HM K0 HW Hi
  go_wp2_with fail
  go_ret2
  exact ⟨rfl, HW2.out.alloc HW2.out.size _⟩
set_option maxHeartbeats 4000000 in
set_option maxRecDepth 100000 in
theorem planAt_out (x : DetD) (s : DetS) (sc : Int) (row col : Int) (w : World) {B : Nat} (h : DetAt w B x s) (hB : B ≤ w.heap.size) (hf : DetFit x s) (he : planErr x sc = 0) (hout : row < 0 ∨ (gridOf x sc).rows ≤ row ∨ col < 0 ∨ (gridOf x sc).cols ≤ col) :
    Calls Tryz.prog 21 #[detV x s, .int .i64 sc, .int .i64 row, .int .i64 col] w fun e w' => e = .returned (.tuple #[.slice none 0 0, .int .i64 12]) ∧ Below w.heap.size w w' := by
  have hM := fun (W : World) (hz : Below w.heap.size w W) => made_any x s sc W (h.carry (hz.mono hB) (Nat.le_refl _)) (Nat.le_trans hB hz.size) hf
  rw [plan_ok he, he] at hM
  have HM := hide hM
  have hways : decide (row < 0) = true ∨ (decide (row < 0) = false ∧ decide ((gridOf x sc).rows ≤ row) = true) ∨ (decide (row < 0) = false ∧ decide ((gridOf x sc).rows ≤ row) = false ∧ decide (col < 0) = true) ∨ (decide (row < 0) = false ∧ decide ((gridOf x sc).rows ≤ row) = false ∧ decide (col < 0) = false ∧ decide ((gridOf x sc).cols ≤ col) = true) := by
    simp only [decide_eq_true_eq, decide_eq_false_iff_not]
    omega
  clear hout
  generalize gridOf x sc = g at *
  obtain ⟨⟨g1, g2, g3⟩, g4, g5, g6⟩ := g
  simp only [gridCells] at HM hways
  have Hi := hide (show (Tryz.prog.info? 34).map (·.size) = some 19 by kernel_rfl)
  have K0 := hide (Blk.new w 34 (detCells x.mem x.rule s))
  have HW := hide (below_new w (.cells (detCells x.mem x.rule s) 34))
  obtain ⟨mem, bars, runs, laps, dems, rule⟩ := x
  obtain ⟨a1, n1, c1, a2, n2, c2, a3, n3, c3, a4, n4, c4, a5, n5, c5, a6, n6, c6⟩ := s
  obtain ⟨name, boxes, holes, cover, agg, poker⟩ := mem
  obtain ⟨r1, r2, r3, r4, r5, r6, r7, r8, r9⟩ := rule
  simp only [detCells] at K0 HW
  clear h hf hM he
  show Calls Tryz.prog 21 #[.agg #[.string name, .slice a1 n1 c1, .slice a2 n2 c2, .int .i64 cover, .int .i64 agg, .int .i64 poker, .slice a3 n3 c3, .slice a4 n4 c4, .slice a5 n5 c5, .slice a6 n6 c6, .int .i64 r1, .int .i64 r2, .int .i64 r3, .int .i64 r4, .int .i64 r5, .int .i64 r6, .int .i64 r7, .int .i64 r8, .int .i64 r9], .int .i64 sc, .int .i64 row, .int .i64 col] w _
  go_enter Tryz.func21, Tryz.ntmps21
  go_wp2_with (refine wpList_load_row rfl 34 (.tmp 4) rfl w.heap.size rfl 34 _ (0, 0) _ K0.out Tryz.underlying34 rfl Hi.out ?_)
  refine (HM.out _ HW.out).mono ?_
  rintro e w2 ⟨rfl, hb2⟩
  have HW2 := hide (below_step HW.out hb2 (Nat.le_refl _))
  clear hb2 HM K0 HW Hi
  rcases hways with q0 | ⟨q0, q1⟩ | ⟨q0, q1, q2⟩ | ⟨q0, q1, q2, q3⟩
  all_goals
    go_wp2_with fail
    go_ret2
    exact ⟨rfl, HW2.out.alloc HW2.out.size _⟩
set_option maxHeartbeats 4000000 in
set_option maxRecDepth 100000 in
theorem planLegend_bad (x : DetD) (s : DetS) (w : World) {B : Nat} (h : DetAt w B x s) (hB : B ≤ w.heap.size) (hf : DetFit x s) (hd : detOk x = false) :
    Calls Tryz.prog 16 #[detV x s] w fun e w' => e = .returned (.tuple #[.string ⟨#[]⟩, .int .i64 1]) ∧ Below w.heap.size w w' := by
  have hV := fun (W : World) (hz : Below w.heap.size w W) => lapValid_any x s W (h.carry (hz.mono hB) (Nat.le_refl _)) (Nat.le_trans hB hz.size) hf
  rw [hd] at hV
  have HM := hide hV
  have Hi := hide (show (Tryz.prog.info? 34).map (·.size) = some 19 by kernel_rfl)
  have K0 := hide (Blk.new w 34 (detCells x.mem x.rule s))
  have HW := hide (below_new w (.cells (detCells x.mem x.rule s) 34))
  obtain ⟨mem, bars, runs, laps, dems, rule⟩ := x
  obtain ⟨a1, n1, c1, a2, n2, c2, a3, n3, c3, a4, n4, c4, a5, n5, c5, a6, n6, c6⟩ := s
  obtain ⟨name, boxes, holes, cover, agg, poker⟩ := mem
  obtain ⟨r1, r2, r3, r4, r5, r6, r7, r8, r9⟩ := rule
  simp only [detCells] at K0 HW
  clear h hf hV hd
  show Calls Tryz.prog 16 #[.agg #[.string name, .slice a1 n1 c1, .slice a2 n2 c2, .int .i64 cover, .int .i64 agg, .int .i64 poker, .slice a3 n3 c3, .slice a4 n4 c4, .slice a5 n5 c5, .slice a6 n6 c6, .int .i64 r1, .int .i64 r2, .int .i64 r3, .int .i64 r4, .int .i64 r5, .int .i64 r6, .int .i64 r7, .int .i64 r8, .int .i64 r9]] w _
  go_enter Tryz.func16, Tryz.ntmps16
  go_wp2_with (refine wpList_load_row rfl 34 (.tmp 1) rfl w.heap.size rfl 34 _ (0, 0) _ K0.out Tryz.underlying34 rfl Hi.out ?_)
  refine (HM.out _ HW.out).mono ?_
  rintro e w2 ⟨rfl, hb2⟩
  have HW2 := hide (below_step HW.out hb2 (Nat.le_refl _))
  clear hb2 HM K0 HW Hi
  go_wp2_with fail
  go_ret2
  exact ⟨rfl, HW2.out⟩
end Go.Proofs.YtpmipoljnchheaaGreat
namespace Go.Proofs.YtpmipoljnchheaaGreat
open Go.RowKit

set_option maxHeartbeats 1000000 in
theorem refUp_ok (n s : Int) (w : World) (hs : 1 ≤ s ∧ s ≤ 1048576) (hn : 0 ≤ n ∧ n ≤ 4194304) :
    Calls Tryz.prog 47 #[.int .i64 n, .int .i64 s] w fun e w' => e = .returned (.int .i64 (upQ n s)) ∧ w = w' := by
  have z1 : IntKind.i64.wrap (n + s) = n + s := IntWalk.i64_in _ (by omega)
  have z2 : IntKind.i64.wrap (n + s - 1) = n + s - 1 := IntWalk.i64_in _ (by omega)
  go_enter Tryz.func47, Tryz.ntmps47
  go_wp2_with fail
  go_ret
  exact ⟨ret_int rfl, rfl⟩
theorem byteStr8 (w : World) (n : Int) (d : UInt8) (h : (d.toNat : Int) = n) :
    (convert 91 9 (.slice (some ⟨w.heap.size, 0, none⟩) 1 1)).run Tryz.prog (w.alloc (.cells #[.int .u8 n] 5)) = .ok (.string ⟨#[d]⟩) (w.alloc (.cells #[.int .u8 n] 5)) := by
  subst h
  exact run_convert_bytes_back _ _ _ 5 ⟨w.heap.size, 0, none⟩ 1 [d] Tryz.underlying91 Tryz.underlying5 Tryz.underlying9 (fun j hj => by
    obtain rfl : j = 0 := by simp at hj; omega
    exact (Blk.new w 5 #[.int .u8 d.toNat]).cell 0)
set_option maxHeartbeats 1000000 in
set_option maxRecDepth 100000 in
theorem refLetter46_any (k : Int) (w : World) (hk : 0 ≤ k ∧ k ≤ 1000000) : Calls Tryz.prog 38 #[.int .i64 k] w fun e w' => e = .returned (.string ⟨#[letterOf k]⟩) ∧ Below w.heap.size w w' := by
  have h0 := Int.emod_nonneg k (show (26 : Int) ≠ 0 by decide)
  have h1 := Int.emod_lt_of_pos k (show (0 : Int) < 26 by decide)
  have hcv := byteStr8 w (97 + k % 26) (letterOf k) (letterOf_nat k)
  generalize letterOf k = d at *
  go_enter Tryz.func38, Tryz.ntmps38
  go_wp2_with fail
  go_ret
  exact ⟨rfl, below_new _ _⟩
set_option maxHeartbeats 4000000 in
set_option maxRecDepth 100000 in
theorem refSize46_ok (x : DetD) (s : DetS) (sc : Int) (w : World) {B : Nat} (h : DetAt w B x s) (hB : B ≤ w.heap.size) (hf : DetFit x s) (hd : detOk x = true) (hs : 1 ≤ sc ∧ sc ≤ 1048576) :
    Calls Tryz.prog 19 #[detV x s, .int .i64 sc] w fun e w' => e = .returned (.tuple #[.int .i64 (gridOf x sc).rows, .int .i64 (gridOf x sc).cols]) ∧ Below w.heap.size w w' := by
  obtain ⟨hb1, hb2, _⟩ := solid_boxes (detOk_parts hd).2.2
  have hbx := boxOk_iff.1 (detOk_hull hd)
  have HH := hide (fun (W : World) (hz : Below w.heap.size w W) => refHull17_ok x.mem.boxes x.mem.holes s.a1 s.a2 s.n1 s.n2 s.c1 s.c2 W (h.h1.carry (Flat.carried _) (hz.mono hB) (Nat.le_refl _)) (Nat.le_trans hB hz.size) hf.l1 hb1 (by omega))
  have Hr := hide (show (gridOf x sc).rows = upQ ((hullOf x.mem.boxes).hi.2.1 - (hullOf x.mem.boxes).lo.2.1) sc from rfl)
  have Hc := hide (show (gridOf x sc).cols = upQ ((hullOf x.mem.boxes).hi.1 - (hullOf x.mem.boxes).lo.1) sc from rfl)
  generalize (gridOf x sc).rows = R at *
  generalize (gridOf x sc).cols = C at *
  generalize hullOf x.mem.boxes = H at *
  obtain ⟨⟨x1, x2, x3⟩, x4, x5, x6⟩ := H
  simp only [bxV] at HH Hr Hc hbx
  have K0 := hide (Blk.new w 34 (detCells x.mem x.rule s))
  have HW := hide (below_new w (.cells (detCells x.mem x.rule s) 34))
  obtain ⟨mem, bars, runs, laps, dems, rule⟩ := x
  obtain ⟨a1, n1, c1, a2, n2, c2, a3, n3, c3, a4, n4, c4, a5, n5, c5, a6, n6, c6⟩ := s
  obtain ⟨name, boxes, holes, cover, agg, poker⟩ := mem
  obtain ⟨r1, r2, r3, r4, r5, r6, r7, r8, r9⟩ := rule
  simp only [detCells] at K0 HW
  simp only at HH
  have HUy := hide (fun (W : World) => (show Calls Tryz.prog 47 #[.int .i64 (x5 - x2), .int .i64 sc] W fun e w' => e = .returned (.int .i64 R) ∧ W = w' by rw [Hr.out]; exact refUp_ok (x5 - x2) sc W hs (by omega)))
  have HUx := hide (fun (W : World) => (show Calls Tryz.prog 47 #[.int .i64 (x4 - x1), .int .i64 sc] W fun e w' => e = .returned (.int .i64 C) ∧ W = w' by rw [Hc.out]; exact refUp_ok (x4 - x1) sc W hs (by omega)))
  have z1 : IntKind.i64.wrap (x5 - x2) = x5 - x2 := IntWalk.i64_in _ (by omega)
  have z2 : IntKind.i64.wrap (x4 - x1) = x4 - x1 := IntWalk.i64_in _ (by omega)
  have e1 := K0.out.cell 1
  have e2 := K0.out.cell 2
  simp at e1 e2
  clear h hf hd hB hb1 hb2 hbx hs Hr Hc
  show Calls Tryz.prog 19 #[.agg #[.string name, .slice a1 n1 c1, .slice a2 n2 c2, .int .i64 cover, .int .i64 agg, .int .i64 poker, .slice a3 n3 c3, .slice a4 n4 c4, .slice a5 n5 c5, .slice a6 n6 c6, .int .i64 r1, .int .i64 r2, .int .i64 r3, .int .i64 r4, .int .i64 r5, .int .i64 r6, .int .i64 r7, .int .i64 r8, .int .i64 r9], .int .i64 sc] w _
  go_enter Tryz.func19, Tryz.ntmps19
  go_wp2_with fail
  refine (HH.out _ HW.out).mono ?_
  rintro e w2 ⟨rfl, hb⟩
  have KB := hide (Blk.new w2 73 #[.int .i64 x1, .int .i64 x2, .int .i64 x3, .int .i64 x4, .int .i64 x5, .int .i64 x6])
  have HF := below_step HW.out hb (Nat.le_refl _)
  have HF := hide (HF.alloc HF.size (.cells #[.int .i64 x1, .int .i64 x2, .int .i64 x3, .int .i64 x4, .int .i64 x5, .int .i64 x6] 73))
  have d0 := KB.out.cell 0
  have d1 := KB.out.cell 1
  have d3 := KB.out.cell 3
  have d4 := KB.out.cell 4
  simp at d0 d1 d3 d4
  have lk := KB.out.lt
  clear hb HH HW K0 e1 e2
  go_wp2_with fail
  go_quiet ((first | (go_at_call 47; with_reducible exact quiet_eq (HUy.out _)) | (go_at_call 47; with_reducible exact quiet_eq (HUx.out _))))
  go_wp2_with fail
  go_ret2
  exact ⟨rfl, below_drewN' HF.out _⟩
end Go.Proofs.YtpmipoljnchheaaGreat
namespace Go.Proofs.YtpmipoljnchheaaGreat
open Go.RowKit

theorem planErr_ok {x : DetD} {s : Int} (h1 : detOk x = true) (h2 : 1 ≤ s ∧ s ≤ 1048576) : planErr x s = if 20000 < (gridOf x s).rows * (gridOf x s).cols then 6 else 0 := by
  rw [planErr, if_neg (by rw [h1]; decide), if_neg (by omega)]
set_option maxHeartbeats 4000000 in
set_option maxRecDepth 100000 in
theorem refGiven_any (x : DetD) (s : DetS) (sc : Int) (w : World) {B : Nat} (h : DetAt w B x s) (hB : B ≤ w.heap.size) (hf : DetFit x s) (hd : ∀ d ∈ x.dems, d.name.size ≤ maxLen ∧ d.steps.length ≤ 60000) :
    Calls Tryz.prog 12 #[detV x s, .int .i64 sc] w fun e w' => e = .returned (.int .i64 (planErr x sc)) ∧ Below w.heap.size w w' := by
  have HV := hide (fun (W : World) (hz : Below w.heap.size w W) => refValid25_any x s W (h.carry (hz.mono hB) (Nat.le_refl _)) (Nat.le_trans hB hz.size) hf hd)
  have HS := hide (fun (h1 : detOk x = true) (h2 : 1 ≤ sc ∧ sc ≤ 1048576) (W : World) (hz : Below w.heap.size w W) => refSize46_ok x s sc W (h.carry (hz.mono hB) (Nat.le_refl _)) (Nat.le_trans hB hz.size) hf h1 h2)
  have He1 := hide (fun (h1 : detOk x = false) => show planErr x sc = 1 by rw [planErr, if_pos h1])
  have He2 := hide (fun (h1 : detOk x = true) (h2 : sc < 1 ∨ 1048576 < sc) => show planErr x sc = 2 by rw [planErr, if_neg (by rw [h1]; decide), if_pos h2])
  have He3 := hide (fun (h1 : detOk x = true) (h2 : 1 ≤ sc ∧ sc ≤ 1048576) => planErr_ok h1 h2)
  have Hpr := hide (fun (h1 : detOk x = true) (h2 : 1 ≤ sc ∧ sc ≤ 1048576) => show 0 ≤ (gridOf x sc).rows * (gridOf x sc).cols ∧ (gridOf x sc).rows * (gridOf x sc).cols ≤ 70368744177664 by
    have hbx := boxOk_iff.1 (detOk_hull h1)
    have hr := upQ_range (n := (hullOf x.mem.boxes).hi.2.1 - (hullOf x.mem.boxes).lo.2.1) (s := sc) (by omega) (by omega) h2
    have hc := upQ_range (n := (hullOf x.mem.boxes).hi.1 - (hullOf x.mem.boxes).lo.1) (s := sc) (by omega) (by omega) h2
    exact prod_range hr.1 hr.2 hc.1 hc.2)
  have Hi := hide (show (Tryz.prog.info? 34).map (·.size) = some 19 by kernel_rfl)
  have K0 := hide (Blk.new w 34 (detCells x.mem x.rule s))
  have HW := hide (below_new w (.cells (detCells x.mem x.rule s) 34))
  obtain ⟨dk, hdk⟩ : ∃ b, b = detOk x := ⟨_, rfl⟩
  rw [← hdk] at HV HS He1 He2 He3 Hpr
  generalize (gridOf x sc).rows = R at *
  generalize (gridOf x sc).cols = C at *
  generalize planErr x sc = er at *
  obtain ⟨mem, bars, runs, laps, dems, rule⟩ := x
  obtain ⟨a1, n1, c1, a2, n2, c2, a3, n3, c3, a4, n4, c4, a5, n5, c5, a6, n6, c6⟩ := s
  obtain ⟨name, boxes, holes, cover, agg, poker⟩ := mem
  obtain ⟨r1, r2, r3, r4, r5, r6, r7, r8, r9⟩ := rule
  simp only [detCells] at K0 HW
  clear h hf hd hB hdk
  show Calls Tryz.prog 12 #[.agg #[.string name, .slice a1 n1 c1, .slice a2 n2 c2, .int .i64 cover, .int .i64 agg, .int .i64 poker, .slice a3 n3 c3, .slice a4 n4 c4, .slice a5 n5 c5, .slice a6 n6 c6, .int .i64 r1, .int .i64 r2, .int .i64 r3, .int .i64 r4, .int .i64 r5, .int .i64 r6, .int .i64 r7, .int .i64 r8, .int .i64 r9], .int .i64 sc] w _
  go_enter Tryz.func12, Tryz.ntmps12
  go_wp2_with (refine wpList_load_row rfl 34 (.tmp 2) rfl w.heap.size rfl 34 _ (0, 0) _ K0.out Tryz.underlying34 rfl Hi.out ?_)
  refine (HV.out _ HW.out).mono ?_
  rintro e w2 ⟨rfl, hb⟩
  have K2 := hide (K0.out.keep hb)
  have HW2 := hide (below_step HW.out hb (Nat.le_refl _))
  clear hb HV K0 HW
  cases dk
  · have Hr := hide (He1.out rfl)
    clear He1 He2 He3 Hpr HS
    go_wp2_with fail
    go_ret
    exact ⟨ret_int Hr.out.symm, HW2.out⟩
  by_cases hs1 : sc < 1
  · have d0 : decide (sc < 1) = true := by simpa using hs1
    have Hr := hide (He2.out rfl (.inl hs1))
    clear He1 He2 He3 Hpr HS hs1
    go_wp2_with fail
    go_ret
    exact ⟨ret_int Hr.out.symm, HW2.out⟩
  have d0 : decide (sc < 1) = false := by simpa using hs1
  by_cases hs2 : 1048576 < sc
  · have d1 : decide (1048576 < sc) = true := by simpa using hs2
    have Hr := hide (He2.out rfl (.inr hs2))
    clear He1 He2 He3 Hpr HS hs1 hs2
    go_wp2_with fail
    go_ret
    exact ⟨ret_int Hr.out.symm, HW2.out⟩
  have d1 : decide (1048576 < sc) = false := by simpa using hs2
  have Hr := hide (He3.out rfl ⟨by omega, by omega⟩)
  have hpr := Hpr.out rfl ⟨by omega, by omega⟩
  have HSS := hide (HS.out rfl ⟨by omega, by omega⟩)
  clear HS
  have z1 : IntKind.i64.wrap (R * C) = R * C := IntWalk.i64_in _ (by omega)
  obtain ⟨pr, hp⟩ : ∃ pr, pr = R * C := ⟨_, rfl⟩
  rw [← hp] at z1 Hr
  have m1 : R * C = pr := hp.symm
  clear He1 He2 He3 Hpr hs1 hs2 hpr hp
  go_wp2_with (refine wpList_load_row rfl 34 (.tmp 2) rfl w.heap.size rfl 34 _ (0, 0) _ K2.out Tryz.underlying34 rfl Hi.out ?_)
  refine (HSS.out _ HW2.out).mono ?_
  rintro e w3 ⟨rfl, hb⟩
  have HW3 := hide (below_step HW2.out hb (Nat.le_refl _))
  clear hb HSS K2 HW2 Hi
  by_cases hq : 20000 < pr
  · have d2 : decide (20000 < pr) = true := by simpa using hq
    have Hr := hide (show er = 6 by rw [Hr.out, if_pos hq])
    clear hq
    go_wp2_with fail
    go_ret
    exact ⟨ret_int Hr.out.symm, HW3.out⟩
  · have d2 : decide (20000 < pr) = false := by simpa using hq
    have Hr := hide (show er = 0 by rw [Hr.out, if_neg hq])
    clear hq
    go_wp2_with fail
    go_ret
    exact ⟨ret_int Hr.out.symm, HW3.out⟩
end Go.Proofs.YtpmipoljnchheaaGreat
namespace Go.Proofs.YtpmipoljnchheaaGreat
open Go.RowKit

def cellB (g : GridD) (p : Pt) : Array Value := if InGrid g p then #[.int .i64 (cellRow g p), .int .i64 (cellCol g p), .bool true] else #[.int .i64 0, .int .i64 0, .bool false]
theorem upQ_cover {n s : Int} (hs : 1 ≤ s) : n ≤ upQ n s * s := by
  unfold upQ
  have h1 := Int.lt_ediv_add_one_mul_self (n + s - 1) (show 0 < s by omega)
  rw [Int.add_mul, Int.one_mul] at h1
  omega
set_option maxHeartbeats 8000000 in
set_option maxRecDepth 100000 in
theorem refCell46_ok (x : DetD) (s : DetS) (sc : Int) (p : Pt) (w : World) {B : Nat} (h : DetAt w B x s) (hB : B ≤ w.heap.size) (hf : DetFit x s) (he : planErr x sc = 0) :
    Calls Tryz.prog 20 #[detV x s, .int .i64 sc, .agg #[.int .i64 p.1, .int .i64 p.2.1, .int .i64 p.2.2]] w fun e w' => e = .returned (.tuple (cellB (gridOf x sc) p)) ∧ Below w.heap.size w w' := by
  have hpf := plan_facts he
  obtain ⟨hb1, hb2, _⟩ := solid_boxes (detOk_parts hpf.det).2.2
  have hbx := boxOk_iff.1 (detOk_hull hpf.det)
  have HH := hide (fun (W : World) (hz : Below w.heap.size w W) => refHull17_ok x.mem.boxes x.mem.holes s.a1 s.a2 s.n1 s.n2 s.c1 s.c2 W (h.h1.carry (Flat.carried _) (hz.mono hB) (Nat.le_refl _)) (Nat.le_trans hB hz.size) hf.l1 hb1 (by omega))
  have HS := hide (fun (W : World) (hz : Below w.heap.size w W) => refSize46_ok x s sc W (h.carry (hz.mono hB) (Nat.le_refl _)) (Nat.le_trans hB hz.size) hf hpf.det hpf.sc)
  obtain ⟨p1, p2, p3⟩ := p
  have Hi := hide (show (Tryz.prog.info? 34).map (·.size) = some 19 by kernel_rfl)
  have K0 := hide ((Blk.new w 34 (detCells x.mem x.rule s)).alloc (.cells #[.int .i64 p1, .int .i64 p2, .int .i64 p3] 44))
  have KP := hide (Blk.new1 w (.cells (detCells x.mem x.rule s) 34) 44 #[.int .i64 p1, .int .i64 p2, .int .i64 p3])
  have HW := hide ((below_new w (.cells (detCells x.mem x.rule s) 34)).alloc (by simp) (.cells #[.int .i64 p1, .int .i64 p2, .int .i64 p3] 44))
  have hr := end_range hpf.sc hpf.rows.1 hpf.row
  have hc := end_range hpf.sc hpf.cols.1 hpf.col
  obtain ⟨hs0, hs1⟩ := hpf.sc
  have hcv1 : (hullOf x.mem.boxes).hi.1 - (hullOf x.mem.boxes).lo.1 ≤ (gridOf x sc).cols * sc := upQ_cover hs0
  have hcv2 : (hullOf x.mem.boxes).hi.2.1 - (hullOf x.mem.boxes).lo.2.1 ≤ (gridOf x sc).rows * sc := upQ_cover hs0
  have Hres := hide (show cellB (gridOf x sc) (p1, p2, p3) = if (((hullOf x.mem.boxes).lo.1 ≤ p1 ∧ p1 < (hullOf x.mem.boxes).lo.1 + (gridOf x sc).cols * sc) ∧ ((hullOf x.mem.boxes).lo.2.1 ≤ p2 ∧ p2 < (hullOf x.mem.boxes).lo.2.1 + (gridOf x sc).rows * sc)) then #[.int .i64 ((p2 - (hullOf x.mem.boxes).lo.2.1) / sc), .int .i64 ((p1 - (hullOf x.mem.boxes).lo.1) / sc), .bool true] else #[.int .i64 0, .int .i64 0, .bool false] from rfl)
  obtain ⟨res, hres⟩ : ∃ r, r = cellB (gridOf x sc) (p1, p2, p3) := ⟨_, rfl⟩
  rw [← hres] at Hres ⊢
  clear hres hpf he hb1 hb2
  generalize (gridOf x sc).rows = g5 at *
  generalize (gridOf x sc).cols = g6 at *
  generalize hullOf x.mem.boxes = H at *
  obtain ⟨⟨g1, g2, g3⟩, h1, h2, h3⟩ := H
  simp only [bxV] at HH hcv1 hcv2 Hres hbx
  obtain ⟨mem, bars, runs, laps, dems, rule⟩ := x
  obtain ⟨a1, n1, c1, a2, n2, c2, a3, n3, c3, a4, n4, c4, a5, n5, c5, a6, n6, c6⟩ := s
  obtain ⟨name, boxes, holes, cover, agg, poker⟩ := mem
  obtain ⟨r1, r2, r3, r4, r5, r6, r7, r8, r9⟩ := rule
  simp only [detCells] at K0 KP HW
  simp only at HH
  clear h hf hB
  have z1 : IntKind.i64.wrap (g6 * sc) = g6 * sc := IntWalk.i64_in _ (by omega)
  have z2 : IntKind.i64.wrap (g5 * sc) = g5 * sc := IntWalk.i64_in _ (by omega)
  obtain ⟨q6, hq6⟩ : ∃ q, q = g6 * sc := ⟨_, rfl⟩
  obtain ⟨q5, hq5⟩ : ∃ q, q = g5 * sc := ⟨_, rfl⟩
  rw [← hq6] at z1 hc Hres hcv1
  rw [← hq5] at z2 hr Hres hcv2
  have Hq6 := hide hq6.symm
  have Hq5 := hide hq5.symm
  have z3 : IntKind.i64.wrap (g1 + q6) = g1 + q6 := IntWalk.i64_in _ (by omega)
  have z4 : IntKind.i64.wrap (g2 + q5) = g2 + q5 := IntWalk.i64_in _ (by omega)
  have m6 : g6 * sc = q6 := Hq6.out
  have m5 : g5 * sc = q5 := Hq5.out
  clear hq5 hq6
  have e1 := K0.out.cell 1
  have e2 := K0.out.cell 2
  simp at e1 e2
  show Calls Tryz.prog 20 #[.agg #[.string name, .slice a1 n1 c1, .slice a2 n2 c2, .int .i64 cover, .int .i64 agg, .int .i64 poker, .slice a3 n3 c3, .slice a4 n4 c4, .slice a5 n5 c5, .slice a6 n6 c6, .int .i64 r1, .int .i64 r2, .int .i64 r3, .int .i64 r4, .int .i64 r5, .int .i64 r6, .int .i64 r7, .int .i64 r8, .int .i64 r9], .int .i64 sc, .agg #[.int .i64 p1, .int .i64 p2, .int .i64 p3]] w _
  go_enter Tryz.func20, Tryz.ntmps20
  go_wp2_with fail
  refine (HH.out _ HW.out).mono ?_
  rintro e w2 ⟨rfl, hb⟩
  have KD2 := hide ((K0.out.keep hb).alloc (.cells #[.int .i64 g1, .int .i64 g2, .int .i64 g3, .int .i64 h1, .int .i64 h2, .int .i64 h3] 73))
  have KP2 := hide ((KP.out.keep hb).alloc (.cells #[.int .i64 g1, .int .i64 g2, .int .i64 g3, .int .i64 h1, .int .i64 h2, .int .i64 h3] 73))
  have KB2 := hide (Blk.new w2 73 #[.int .i64 g1, .int .i64 g2, .int .i64 g3, .int .i64 h1, .int .i64 h2, .int .i64 h3])
  have HF := below_step HW.out hb (Nat.le_refl _)
  have HW2 := hide (HF.alloc HF.size (.cells #[.int .i64 g1, .int .i64 g2, .int .i64 g3, .int .i64 h1, .int .i64 h2, .int .i64 h3] 73))
  clear hb HH HW K0 KP e1 e2 HF
  obtain ⟨w3, hw3⟩ : ∃ w3, w3 = w2.alloc (.cells #[.int .i64 g1, .int .i64 g2, .int .i64 g3, .int .i64 h1, .int .i64 h2, .int .i64 h3] 73) := ⟨_, rfl⟩
  go_upto_region 2 with fail
  rw [← hw3] at KD2 KP2 KB2 HW2 ⊢
  clear hw3
  have e0 := KP2.out.cell 0
  have e1 := KP2.out.cell 1
  have d0 := KB2.out.cell 0
  have d1 := KB2.out.cell 1
  have d3 := KB2.out.cell 3
  have d4 := KB2.out.cell 4
  simp at e0 e1 d0 d1 d3 d4
  have lp := KP2.out.lt
  have lb := KB2.out.lt
  go_cut [49] from 20 (fun s49 wx => s49 = .bool (decide (p1 < g1) || (decide (h1 < p1) || (decide (p2 < g2) || decide (h2 < p2)))) ∧ wx = w3)
  case first =>
    have hways : decide (p1 < g1) = true ∨ (decide (p1 < g1) = false ∧ decide (h1 < p1) = true) ∨ (decide (p1 < g1) = false ∧ decide (h1 < p1) = false ∧ decide (p2 < g2) = true) ∨ (decide (p1 < g1) = false ∧ decide (h1 < p1) = false ∧ decide (p2 < g2) = false) := by
      cases decide (p1 < g1) <;> cases decide (h1 < p1) <;> cases decide (p2 < g2) <;> simp
    rcases hways with k0 | ⟨k0, k1⟩ | ⟨k0, k1, k2⟩ | ⟨k0, k1, k2⟩
    · go_wp2_with fail
      go_meet
      exact ⟨by rw [k0]; rfl, rfl⟩
    · go_wp2_with fail
      go_meet
      exact ⟨by rw [k0, k1]; rfl, rfl⟩
    · go_wp2_with fail
      go_meet
      exact ⟨by rw [k0, k1, k2]; rfl, rfl⟩
    · go_wp2_with fail
      go_meet
      exact ⟨by rw [k0, k1, k2]; rfl, rfl⟩
  case rest =>
    obtain ⟨rfl, rfl⟩ := hcut
    obtain ⟨bey, hbey⟩ : ∃ b, b = (decide (p1 < g1) || (decide (h1 < p1) || (decide (p2 < g2) || decide (h2 < p2)))) := ⟨_, rfl⟩
    rw [← hbey]
    cases bey
    · have hin : g1 ≤ p1 ∧ p1 ≤ h1 ∧ g2 ≤ p2 ∧ p2 ≤ h2 := by
        have h9 := hbey.symm
        simp only [Bool.or_eq_false_iff, decide_eq_false_iff_not] at h9
        omega
      have KD := KD2
      have KP := KP2
      have KB := KB2
      have HWD := HW2
      clear hbey e0 e1 d0 d1 d3 d4 lp lb KD2 KP2 KB2 HW2
      have y1 : IntKind.i64.wrap (p1 - g1) = p1 - g1 := IntWalk.i64_in _ (by omega)
      have y2 : IntKind.i64.wrap (p2 - g2) = p2 - g2 := IntWalk.i64_in _ (by omega)
      have u1 : 0 ≤ p1 - g1 ∧ p1 - g1 ≤ 9437184 := by omega
      have u2 : 0 ≤ p2 - g2 ∧ p2 - g2 ≤ 9437184 := by omega
      have Hrow := hide (show (g5 ≤ (p2 - g2) / sc) ↔ q5 ≤ p2 - g2 by rw [← Hq5.out]; exact Int.le_ediv_iff_mul_le (by omega))
      have Hcol := hide (show (g6 ≤ (p1 - g1) / sc) ↔ q6 ≤ p1 - g1 by rw [← Hq6.out]; exact Int.le_ediv_iff_mul_le (by omega))
      have Hre := Hres
      clear Hres
      go_wp2_with (refine wpList_load_row rfl 34 (.tmp 3) rfl w.heap.size rfl 34 _ (0, 0) _ KD.out Tryz.underlying34 rfl Hi.out ?_)
      refine (HS.out _ HWD.out).mono ?_
      rintro e w4 ⟨rfl, hb4⟩
      have KP4 := hide (KP.out.keep hb4)
      have KB4 := hide (KB.out.keep hb4)
      have HW4 := hide (below_step HWD.out hb4 (Nat.le_refl _))
      have e0 := KP4.out.cell 0
      have e1 := KP4.out.cell 1
      have d0 := KB4.out.cell 0
      have d1 := KB4.out.cell 1
      simp at e0 e1 d0 d1
      have lp := KP4.out.lt
      have lb := KB4.out.lt
      clear hb4 KD KP KB HWD HS Hi
      go_wp2_with fail
      go_quiet (fail)
      by_cases c0 : g5 ≤ (p2 - g2) / sc
      · have k0 : decide (g5 ≤ (p2 - g2) / sc) = true := by simpa using c0
        have Hr := hide (show res = #[.int .i64 0, .int .i64 0, .bool false] by rw [Hre.out, if_neg (by have := Hrow.out.1 c0; omega)])
        clear c0 Hre
        go_wp2_with fail
        go_ret3
        refine ⟨?_, below_drewN' HW4.out _⟩
        rw [Hr.out]
        rfl
      have k0 : decide (g5 ≤ (p2 - g2) / sc) = false := by simpa using c0
      by_cases c1 : g6 ≤ (p1 - g1) / sc
      · have k1 : decide (g6 ≤ (p1 - g1) / sc) = true := by simpa using c1
        have Hr := hide (show res = #[.int .i64 0, .int .i64 0, .bool false] by rw [Hre.out, if_neg (by have := Hcol.out.1 c1; omega)])
        clear c0 c1 Hre
        go_wp2_with fail
        go_ret3
        refine ⟨?_, below_drewN' HW4.out _⟩
        rw [Hr.out]
        rfl
      have k1 : decide (g6 ≤ (p1 - g1) / sc) = false := by simpa using c1
      have Hr := hide (show res = #[.int .i64 ((p2 - g2) / sc), .int .i64 ((p1 - g1) / sc), .bool true] by
        have h1 := (not_congr Hrow.out).1 c0
        have h2 := (not_congr Hcol.out).1 c1
        rw [Hre.out, if_pos (by omega)])
      clear c0 c1 Hre
      go_wp2_with fail
      go_ret3
      refine ⟨?_, below_drewN' HW4.out _⟩
      rw [Hr.out]
      rfl
    clear hbey
    go_wp2_with (refine wpList_load_row rfl 34 (.tmp 3) rfl w.heap.size rfl 34 _ (0, 0) _ KD2.out Tryz.underlying34 rfl Hi.out ?_)
    refine (HS.out _ HW2.out).mono ?_
    rintro e w5 ⟨rfl, hb5⟩
    have KD := hide (KD2.out.keep hb5)
    have KP := hide (KP2.out.keep hb5)
    have KB := hide (KB2.out.keep hb5)
    have HWD := hide (below_step HW2.out hb5 (Nat.le_refl _))
    clear hb5 e0 e1 d0 d1 d3 d4 lp lb KD2 KP2 KB2 HW2
    have e0 := KP.out.cell 0
    have e1 := KP.out.cell 1
    have d0 := KB.out.cell 0
    have d1 := KB.out.cell 1
    simp at e0 e1 d0 d1
    have lp := KP.out.lt
    have lb := KB.out.lt
    go_upto_region 4 with fail
    go_cut [93] from 56 (fun s93 wx => s93 = .bool (decide (p1 < g1) || (decide (p2 < g2) || (decide (g1 + q6 < p1) || decide (g2 + q5 < p2)))) ∧ wx = w5)
    case first =>
      have hways : decide (p1 < g1) = true ∨ (decide (p1 < g1) = false ∧ decide (p2 < g2) = true) ∨ (decide (p1 < g1) = false ∧ decide (p2 < g2) = false ∧ decide (g1 + q6 < p1) = true) ∨ (decide (p1 < g1) = false ∧ decide (p2 < g2) = false ∧ decide (g1 + q6 < p1) = false) := by
        cases decide (p1 < g1) <;> cases decide (p2 < g2) <;> cases decide (g1 + q6 < p1) <;> simp
      rcases hways with k0 | ⟨k0, k1⟩ | ⟨k0, k1, k2⟩ | ⟨k0, k1, k2⟩
      · go_wp2_with fail
        go_meet
        exact ⟨by rw [k0]; rfl, rfl⟩
      · go_wp2_with fail
        go_meet
        exact ⟨by rw [k0, k1]; rfl, rfl⟩
      · go_wp2_with fail
        go_meet
        exact ⟨by rw [k0, k1, k2]; rfl, rfl⟩
      · go_wp2_with fail
        go_meet
        exact ⟨by rw [k0, k1, k2]; rfl, rfl⟩
    case rest =>
      obtain ⟨rfl, rfl⟩ := hcut
      obtain ⟨bey, hbey⟩ : ∃ b, b = (decide (p1 < g1) || (decide (p2 < g2) || (decide (g1 + q6 < p1) || decide (g2 + q5 < p2)))) := ⟨_, rfl⟩
      rw [← hbey]
      cases bey
      · have hin : g1 ≤ p1 ∧ p1 ≤ g1 + q6 ∧ g2 ≤ p2 ∧ p2 ≤ g2 + q5 := by
          have h9 := hbey.symm
          simp only [Bool.or_eq_false_iff, decide_eq_false_iff_not] at h9
          omega
        clear hbey e0 e1 d0 d1 lp lb
        have y1 : IntKind.i64.wrap (p1 - g1) = p1 - g1 := IntWalk.i64_in _ (by omega)
        have y2 : IntKind.i64.wrap (p2 - g2) = p2 - g2 := IntWalk.i64_in _ (by omega)
        have u1 : 0 ≤ p1 - g1 ∧ p1 - g1 ≤ 9437184 := by omega
        have u2 : 0 ≤ p2 - g2 ∧ p2 - g2 ≤ 9437184 := by omega
        have Hrow := hide (show (g5 ≤ (p2 - g2) / sc) ↔ q5 ≤ p2 - g2 by rw [← Hq5.out]; exact Int.le_ediv_iff_mul_le (by omega))
        have Hcol := hide (show (g6 ≤ (p1 - g1) / sc) ↔ q6 ≤ p1 - g1 by rw [← Hq6.out]; exact Int.le_ediv_iff_mul_le (by omega))
        have Hre := Hres
        clear Hres
        go_wp2_with (refine wpList_load_row rfl 34 (.tmp 3) rfl w.heap.size rfl 34 _ (0, 0) _ KD.out Tryz.underlying34 rfl Hi.out ?_)
        refine (HS.out _ HWD.out).mono ?_
        rintro e w4 ⟨rfl, hb4⟩
        have KP4 := hide (KP.out.keep hb4)
        have KB4 := hide (KB.out.keep hb4)
        have HW4 := hide (below_step HWD.out hb4 (Nat.le_refl _))
        have e0 := KP4.out.cell 0
        have e1 := KP4.out.cell 1
        have d0 := KB4.out.cell 0
        have d1 := KB4.out.cell 1
        simp at e0 e1 d0 d1
        have lp := KP4.out.lt
        have lb := KB4.out.lt
        clear hb4 KD KP KB HWD HS Hi
        go_wp2_with fail
        go_quiet (fail)
        by_cases c0 : g5 ≤ (p2 - g2) / sc
        · have k0 : decide (g5 ≤ (p2 - g2) / sc) = true := by simpa using c0
          have Hr := hide (show res = #[.int .i64 0, .int .i64 0, .bool false] by rw [Hre.out, if_neg (by have := Hrow.out.1 c0; omega)])
          clear c0 Hre
          go_wp2_with fail
          go_ret3
          refine ⟨?_, below_drewN' HW4.out _⟩
          rw [Hr.out]
          rfl
        have k0 : decide (g5 ≤ (p2 - g2) / sc) = false := by simpa using c0
        by_cases c1 : g6 ≤ (p1 - g1) / sc
        · have k1 : decide (g6 ≤ (p1 - g1) / sc) = true := by simpa using c1
          have Hr := hide (show res = #[.int .i64 0, .int .i64 0, .bool false] by rw [Hre.out, if_neg (by have := Hcol.out.1 c1; omega)])
          clear c0 c1 Hre
          go_wp2_with fail
          go_ret3
          refine ⟨?_, below_drewN' HW4.out _⟩
          rw [Hr.out]
          rfl
        have k1 : decide (g6 ≤ (p1 - g1) / sc) = false := by simpa using c1
        have Hr := hide (show res = #[.int .i64 ((p2 - g2) / sc), .int .i64 ((p1 - g1) / sc), .bool true] by
          have h1 := (not_congr Hrow.out).1 c0
          have h2 := (not_congr Hcol.out).1 c1
          rw [Hre.out, if_pos (by omega)])
        clear c0 c1 Hre
        go_wp2_with fail
        go_ret3
        refine ⟨?_, below_drewN' HW4.out _⟩
        rw [Hr.out]
        rfl
      · have hout : ¬ ((g1 ≤ p1 ∧ p1 < g1 + q6) ∧ (g2 ≤ p2 ∧ p2 < g2 + q5)) := by
          have h9 := hbey.symm
          simp only [Bool.or_eq_true, decide_eq_true_eq] at h9
          omega
        have Hr := hide (show res = #[.int .i64 0, .int .i64 0, .bool false] by rw [Hres.out, if_neg hout])
        clear hbey hout Hres HS Hi
        go_wp2_with fail
        go_ret3
        refine ⟨?_, HWD.out⟩
        rw [Hr.out]
        rfl
end Go.Proofs.YtpmipoljnchheaaGreat
