/- What PlanShape calls: the split of a drawing, a mark of a bar, repeated points; the detail without bars. law46's awake: the example can be drawn, and its text and legend are right. The reference of layer 46: sizes, error numbers, letters. The reference of layer 46: the error number of a detail and a scale. law46.fine: a true or a false. The law PlanShape: the drawing has as many lines as rows, each with as many characters as columns. -/
import Derived.Test.YtpmipoljnchheaaGreatDoorQbc
import Derived.Test.YtpmipoljnchheaaGreatDoorShelf
import Derived.Lib.Repeat
import Derived.Test.YtpmipoljnchheaaGreatDoorQat
import Derived.Test.YtpmipoljnchheaaGreatDoorQaz
import Derived.Test.YtpmipoljnchheaaGreatDoorQap
import Derived.Test.YtpmipoljnchheaaGreatDoorQah
namespace Go.Proofs.YtpmipoljnchheaaGreatDoor
open Go.RowKit

theorem rem_range {i : Int} {n : Nat} (h0 : 0 ≤ i) (hn : 0 < n) : ∃ k : Nat, i % (n : Int) = (k : Int) ∧ Int.tmod i (n : Int) = (k : Int) ∧ k < n := by
  have h1 := Int.emod_nonneg i (show (n : Int) ≠ 0 by omega)
  have h2 := Int.emod_lt_of_pos i (show (0 : Int) < n by omega)
  obtain ⟨k, hk⟩ := Int.eq_ofNat_of_zero_le h1
  exact ⟨k, hk, by rw [Int.tmod_eq_emod_of_nonneg h0, hk], by omega⟩
theorem sched_ix {l : List BarD} : ∀ (r : List BarD) (k : Nat), schedFrom l k r = true → ∀ j y, r[j]? = some y → idx (markIs y.mark) l = ((k + j : Nat) : Int) := by
  intro r
  induction r with
  | nil => intro k _ j y h; simp at h
  | cons x r ih =>
    intro k h j y hj
    simp only [schedFrom, Bool.and_eq_true, decide_eq_true_eq] at h
    cases j with
    | zero =>
      simp only [List.getElem?_cons_zero, Option.some.injEq] at hj
      subst hj
      simpa using h.1.2
    | succ j =>
      rw [ih (k + 1) h.2 j y (by simpa using hj)]
      congr 1
      omega
/-- The library's MaxLen holds some number. -/
def MX (B : Nat) (w : World) : Prop := 0 < B ∧ ∃ m : Int, w.cell? ⟨0, 0, none⟩ = some (.int .i64 m)
theorem MX.carry {B : Nat} {w w' : World} (h : MX B w) (hb : Below B w w') : MX B w' := by
  obtain ⟨h1, m, h2⟩ := h
  exact ⟨h1, m, (hb.cell (p := ⟨0, 0, none⟩) h1).trans h2⟩
theorem flat_st (l : List ByteArray) : l.flatMap encSt = l.map Value.string := by
  induction l with
  | nil => rfl
  | cons x r ih => rw [List.flatMap_cons, ih]; rfl
theorem strs_blk (w : World) (t : TypeId) (l : List ByteArray) : StrsAt (w.alloc (.cells (l.map Value.string).toArray t)) (w.heap.size + 1) (some ⟨w.heap.size, 0, none⟩) l :=
  SlOf.lit encSt_len w t _ l (by rw [flat_st]) (by omega)
theorem draw_len (x : DetD) {s : Int} (h : planErr x s = 0) : (drawText x s).length ≤ 100000 := by
  have hp := plan_facts h
  have h1 := (plan_detOk h).2.2
  obtain ⟨R, hR⟩ := Int.eq_ofNat_of_zero_le (show 0 ≤ (gridOf x s).rows by have := hp.rows; omega)
  obtain ⟨C, hC⟩ := Int.eq_ofNat_of_zero_le (show 0 ≤ (gridOf x s).cols by have := hp.cols; omega)
  have h2 := hp.rows.2
  rw [hR, hC] at h1
  rw [hR] at h2
  rw [drawText, drawTo_len, hR, hC]
  simp only [Int.toNat_natCast]
  have h3 : R * C ≤ 20000 := by
    have h4 : ((R * C : Nat) : Int) ≤ 20000 := by rw [Int.natCast_mul]; exact h1
    omega
  rw [Nat.mul_add]
  omega
set_option maxHeartbeats 1000000 in
theorem splitDraw_any {x : DetD} {s : Int} (he : planErr x s = 0) (w : World) {B : Nat} (hm : MX B w) :
    Calls Tryz.prog 9 #[.string ⟨(drawText x s).toArray⟩, .string ⟨#[10]⟩] w fun e w' => ∃ b, e = .returned (.slice (some ⟨b, 0, none⟩) ((gridOf x s).rows.toNat + 1) ((gridOf x s).rows.toNat + 1)) ∧ StrsAt w' w'.heap.size (some ⟨b, 0, none⟩) (shapeLines x s) ∧ Below w.heap.size w w' := by
  obtain ⟨_, m, hm⟩ := hm
  have hl := draw_len x he
  refine (Tryz.strings_Split ⟨(drawText x s).toArray⟩ ⟨#[10]⟩ m w (by show (drawText x s).toArray.size < 4294967281; rw [List.size_toArray]; omega) hm (by decide)).mono ?_
  rintro e w' ⟨he, rfl⟩
  obtain ⟨h1, h2⟩ := shape_split x s
  rw [h2]
  refine ⟨w.heap.size, ?_, by simpa using strs_blk w 9 (shapeLines x s), below_new _ _⟩
  rw [he, h1]
theorem line_size (x : DetD) (s : Int) : ∀ y ∈ (shapeLines x s).take (gridOf x s).rows.toNat, lenNot (gridOf x s).cols.toNat y = false := by
  intro y hy
  have h1 : (shapeLines x s).take (gridOf x s).rows.toNat = (rowsOf (seenAt x s) (gridOf x s).cols.toNat (gridOf x s).rows.toNat).map (fun y => (⟨y.toArray⟩ : ByteArray)) := by
    rw [shapeLines, List.take_append_of_le_length (by simp [rowsOf]), List.take_of_length_le (by simp [rowsOf])]
  rw [h1] at hy
  simp only [List.mem_map, rowsOf] at hy
  obtain ⟨z, ⟨q, _, rfl⟩, rfl⟩ := hy
  simp [lenNot, ByteArray.size, drawRow_len]
theorem none_some {α : Type} {p : α → Bool} {l : List α} (h : ∀ y ∈ l, p y = false) : someOf p l = false := by
  simp only [someOf]
  rw [List.any_eq_false]
  intro y hy
  rw [h y hy]
  decide
/-- The byte of a row at a column. -/
theorem row_index (f : Int → Int → List Int) (r : Nat) {c C : Nat} (hc : c < C) (w : World) :
    (Instr.index 9 (.string ⟨(drawRow f r C).toArray⟩) (.int .i64 (c : Int))).run Tryz.prog w = .ok (.int .u8 ((cellByte (f r c)).toNat : Int)) w := by
  have hl : (drawRow f r C).length = C := drawRow_len f r C
  rw [run_index_string w 9 _ _ _ Tryz.underlying9, dif_pos ⟨by omega, by simp [ByteArray.size, hl]; omega⟩]
  have h2 := row_cell f r hc
  have e : ((c : Int)).toNat = c := by omega
  simp only [e]
  have h3 : (⟨(drawRow f r C).toArray⟩ : ByteArray)[c]'(by simp [ByteArray.size, hl]; omega) = cellByte (f r c) := by
    have h4 : (drawRow f r C)[c]'(by omega) = cellByte (f r c) := by
      rw [List.getElem?_eq_getElem (by omega)] at h2
      exact Option.some.inj h2
    rw [← h4]
    rfl
  rw [h3]
set_option maxHeartbeats 1000000 in
theorem shape2_any (x : BarD) (A : Option Addr) (c : Nat) (m : ByteArray) (g b off n cc : Nat) (w : World) (h0 : w.cell? ⟨g, 0, none⟩ = some (.slice (some ⟨b, off, none⟩) n cc)) (hn : 1 ≤ n) (h1 : w.cell? ⟨b, off, none⟩ = some (.string m)) :
    Calls Tryz.prog 14 #[.agg #[.string x.mark, .int .i64 x.size, .int .i64 x.count, .int .i64 x.code, .slice A x.dims.length c], .pointer (some ⟨g, 0, none⟩)] w fun e w' => e = .returned (.bool (markIs m x)) ∧ Below w.heap.size w w' := by
  have hlt : g < w.heap.size := World.block_lt_of_cell? w _ h0
  have hlt1 : b < w.heap.size := World.block_lt_of_cell? w _ h1
  have k0 := fun o => (World.cell?_alloc_lt w o ⟨g, 0, none⟩ hlt).trans h0
  have k1 := fun o => (World.cell?_alloc_lt w o ⟨b, off, none⟩ hlt1).trans h1
  have hn0 : 0 < n := hn
  have hn1 : (0 : Int) < (n : Int) := by omega
  clear h0 h1 hn
  go_enter Tryz.func14, Tryz.ntmps14
  go_wp2_with fail
  go_region
  go_wp2_with fail
  go_ret
  exact ⟨ret_bool (by rfl), (below_new _ _).drew⟩
/-- The slices of a detail without its bars. -/
def bareS (s : DetS) : DetS := { s with a4 := none, n4 := 0, c4 := 0, a5 := none, n5 := 0, c5 := 0 }
theorem bare_at {w : World} {B : Nat} {x : DetD} {s : DetS} (h : DetAt w B x s) : DetAt w B (bareOf x) (bareS s) :=
  ⟨h.h1, h.h2, h.h3, SlOf.nil _ _ _ _ _, SlOf.nil _ _ _ _ _, h.h6⟩
theorem bare_fit {x : DetD} {s : DetS} (h : DetFit x s) : DetFit (bareOf x) (bareS s) :=
  ⟨h.l1, h.l2, h.l3, rfl, rfl, h.l6, h.m3, Nat.zero_le _, Nat.zero_le _, h.m6, h.k6, h.name, h.tame, h.dems⟩
theorem repeat_point (n : Nat) : Lib.repeatL [46] n = List.replicate n 46 := by
  induction n with
  | zero => rfl
  | succ n ih => rw [Lib.repeatL, ih]; rfl
theorem bare_text (x : DetD) (s : Int) :
    drawText (bareOf x) s = Lib.repeatL (Lib.repeatL [46] (gridOf x s).cols.toNat ++ [10]) (gridOf x s).rows.toNat := by
  have hrow : ∀ (r C : Nat), drawRow (seenAt (bareOf x) s) r C = Lib.repeatL [46] C := by
    intro r C
    rw [repeat_point]
    induction C with
    | zero => rfl
    | succ C ih =>
      rw [drawRow_succ, ih, bare_seen, List.replicate_succ']
      rfl
  have hto : ∀ (C R : Nat), drawTo (seenAt (bareOf x) s) C R = Lib.repeatL (Lib.repeatL [46] C ++ [10]) R := by
    intro C R
    have hcomm : ∀ (l : List UInt8) (n : Nat), Lib.repeatL l n ++ l = l ++ Lib.repeatL l n := by
      intro l n
      induction n with
      | zero => simp [Lib.repeatL]
      | succ n ih => rw [Lib.repeatL, List.append_assoc, ih]
    induction R with
    | zero => rfl
    | succ R ih => rw [drawTo_succ, ih, hrow, Lib.repeatL, hcomm]
  rw [drawText, bare_grid, hto]
end Go.Proofs.YtpmipoljnchheaaGreatDoor
namespace Go.Proofs.YtpmipoljnchheaaGreatDoor
open Go.RowKit

set_option maxHeartbeats 4000000 in
set_option maxRecDepth 100000 in
theorem awake_any (w : World) : Calls Tryz.prog 4 #[] w fun e w' => e = .returned (.bool true) ∧ Below w.heap.size w w' := by
  have hD := fun (s : DetS) (W : World) (h : DetAt W W.heap.size exD s) (hf : DetFit exD s) => planDraw_ok exD s 100 W h (Nat.le_refl _) hf exD_err
  rw [exD_text] at hD
  have HD := hide hD
  have hL := fun (s : DetS) (W : World) (h : DetAt W W.heap.size exD s) (hf : DetFit exD s) => planLegend_ok exD s W h (Nat.le_refl _) hf exD_ok
  rw [exD_legend] at hL
  have HL := hide hL
  clear hD hL
  go_enter Tryz.func4, Tryz.ntmps4
  go_wp2_with fail
  refine (example_any _).mono ?_
  rintro e w2 ⟨s, rfl, hat, hfit, hb⟩
  have HB := hide hb
  clear hb
  go_wp2_with fail
  refine (HD.out s _ hat hfit).mono ?_
  rintro e w3 ⟨rfl, hb⟩
  have HB := hide (below_step HB.out hb (Nat.le_refl _))
  clear hb hat hfit
  go_wp2_with fail
  refine (example_any _).mono ?_
  rintro e w4 ⟨s', rfl, hat, hfit, hb⟩
  have HB := hide (below_step HB.out hb (Nat.le_refl _))
  clear hb
  go_wp2_with fail
  refine (HL.out s' _ hat hfit).mono ?_
  rintro e w5 ⟨rfl, hb⟩
  have HB := hide (below_step HB.out hb (Nat.le_refl _))
  clear hb hat hfit
  go_wp2_with fail
  go_ret
  exact ⟨rfl, HB.out⟩
end Go.Proofs.YtpmipoljnchheaaGreatDoor
namespace Go.Proofs.YtpmipoljnchheaaGreatDoor
open Go.RowKit

set_option maxHeartbeats 1000000 in
theorem refUp_ok (n s : Int) (w : World) (hs : 1 ≤ s ∧ s ≤ 1048576) (hn : 0 ≤ n ∧ n ≤ 4194304) :
    Calls Tryz.prog 41 #[.int .i64 n, .int .i64 s] w fun e w' => e = .returned (.int .i64 (upQ n s)) ∧ w = w' := by
  have z1 : IntKind.i64.wrap (n + s) = n + s := IntWalk.i64_in _ (by omega)
  have z2 : IntKind.i64.wrap (n + s - 1) = n + s - 1 := IntWalk.i64_in _ (by omega)
  go_enter Tryz.func41, Tryz.ntmps41
  go_wp2_with fail
  go_ret
  exact ⟨ret_int rfl, rfl⟩
theorem byteStr8 (w : World) (n : Int) (d : UInt8) (h : (d.toNat : Int) = n) :
    (convert 72 9 (.slice (some ⟨w.heap.size, 0, none⟩) 1 1)).run Tryz.prog (w.alloc (.cells #[.int .u8 n] 5)) = .ok (.string ⟨#[d]⟩) (w.alloc (.cells #[.int .u8 n] 5)) := by
  subst h
  exact run_convert_bytes_back _ _ _ 5 ⟨w.heap.size, 0, none⟩ 1 [d] Tryz.underlying72 Tryz.underlying5 Tryz.underlying9 (fun j hj => by
    obtain rfl : j = 0 := by simp at hj; omega
    exact (Blk.new w 5 #[.int .u8 d.toNat]).cell 0)
set_option maxHeartbeats 4000000 in
set_option maxRecDepth 100000 in
theorem refSize46_ok (x : DetD) (s : DetS) (sc : Int) (w : World) {B : Nat} (h : DetAt w B x s) (hB : B ≤ w.heap.size) (hf : DetFit x s) (hd : detOk x = true) (hs : 1 ≤ sc ∧ sc ≤ 1048576) :
    Calls Tryz.prog 20 #[detV x s, .int .i64 sc] w fun e w' => e = .returned (.tuple #[.int .i64 (gridOf x sc).rows, .int .i64 (gridOf x sc).cols]) ∧ Below w.heap.size w w' := by
  obtain ⟨hb1, hb2, _⟩ := solid_boxes (detOk_parts hd).2.2
  have hbx := boxOk_iff.1 (detOk_hull hd)
  have HH := hide (fun (W : World) (hz : Below w.heap.size w W) => refHull17_ok x.mem.boxes x.mem.holes s.a1 s.a2 s.n1 s.n2 s.c1 s.c2 W (h.h1.carry (Flat.carried _) (hz.mono hB) (Nat.le_refl _)) (Nat.le_trans hB hz.size) hf.l1 hb1 (by omega))
  have Hr := hide (show (gridOf x sc).rows = upQ ((hullOf x.mem.boxes).hi.2.1 - (hullOf x.mem.boxes).lo.2.1) sc from rfl)
  have Hc := hide (show (gridOf x sc).cols = upQ ((hullOf x.mem.boxes).hi.1 - (hullOf x.mem.boxes).lo.1) sc from rfl)
  generalize (gridOf x sc).rows = R at *
  generalize (gridOf x sc).cols = C at *
  generalize hullOf x.mem.boxes = H at *
  obtain ⟨⟨x1, x2, x3⟩, x4, x5, x6⟩ := H
  simp only [bxV] at HH Hr Hc hbx
  have K0 := hide (Blk.new w 34 (detCells x.mem x.rule s))
  have HW := hide (below_new w (.cells (detCells x.mem x.rule s) 34))
  obtain ⟨mem, bars, runs, laps, dems, rule⟩ := x
  obtain ⟨a1, n1, c1, a2, n2, c2, a3, n3, c3, a4, n4, c4, a5, n5, c5, a6, n6, c6⟩ := s
  obtain ⟨name, boxes, holes, cover, agg, poker⟩ := mem
  obtain ⟨r1, r2, r3, r4, r5, r6, r7, r8, r9⟩ := rule
  simp only [detCells] at K0 HW
  simp only at HH
  have HUy := hide (fun (W : World) => (show Calls Tryz.prog 41 #[.int .i64 (x5 - x2), .int .i64 sc] W fun e w' => e = .returned (.int .i64 R) ∧ W = w' by rw [Hr.out]; exact refUp_ok (x5 - x2) sc W hs (by omega)))
  have HUx := hide (fun (W : World) => (show Calls Tryz.prog 41 #[.int .i64 (x4 - x1), .int .i64 sc] W fun e w' => e = .returned (.int .i64 C) ∧ W = w' by rw [Hc.out]; exact refUp_ok (x4 - x1) sc W hs (by omega)))
  have z1 : IntKind.i64.wrap (x5 - x2) = x5 - x2 := IntWalk.i64_in _ (by omega)
  have z2 : IntKind.i64.wrap (x4 - x1) = x4 - x1 := IntWalk.i64_in _ (by omega)
  have e1 := K0.out.cell 1
  have e2 := K0.out.cell 2
  simp at e1 e2
  clear h hf hd hB hb1 hb2 hbx hs Hr Hc
  show Calls Tryz.prog 20 #[.agg #[.string name, .slice a1 n1 c1, .slice a2 n2 c2, .int .i64 cover, .int .i64 agg, .int .i64 poker, .slice a3 n3 c3, .slice a4 n4 c4, .slice a5 n5 c5, .slice a6 n6 c6, .int .i64 r1, .int .i64 r2, .int .i64 r3, .int .i64 r4, .int .i64 r5, .int .i64 r6, .int .i64 r7, .int .i64 r8, .int .i64 r9], .int .i64 sc] w _
  go_enter Tryz.func20, Tryz.ntmps20
  go_wp2_with fail
  refine (HH.out _ HW.out).mono ?_
  rintro e w2 ⟨rfl, hb⟩
  have KB := hide (Blk.new w2 93 #[.int .i64 x1, .int .i64 x2, .int .i64 x3, .int .i64 x4, .int .i64 x5, .int .i64 x6])
  have HF := below_step HW.out hb (Nat.le_refl _)
  have HF := hide (HF.alloc HF.size (.cells #[.int .i64 x1, .int .i64 x2, .int .i64 x3, .int .i64 x4, .int .i64 x5, .int .i64 x6] 93))
  have d0 := KB.out.cell 0
  have d1 := KB.out.cell 1
  have d3 := KB.out.cell 3
  have d4 := KB.out.cell 4
  simp at d0 d1 d3 d4
  have lk := KB.out.lt
  clear hb HH HW K0 e1 e2
  go_wp2_with fail
  go_quiet ((first | (go_at_call 41; with_reducible exact quiet_eq (HUy.out _)) | (go_at_call 41; with_reducible exact quiet_eq (HUx.out _))))
  go_wp2_with fail
  go_ret2
  exact ⟨rfl, below_drewN' HF.out _⟩
end Go.Proofs.YtpmipoljnchheaaGreatDoor
namespace Go.Proofs.YtpmipoljnchheaaGreatDoor
open Go.RowKit

theorem planErr_ok {x : DetD} {s : Int} (h1 : detOk x = true) (h2 : 1 ≤ s ∧ s ≤ 1048576) : planErr x s = if 20000 < (gridOf x s).rows * (gridOf x s).cols then 6 else 0 := by
  rw [planErr, if_neg (by rw [h1]; decide), if_neg (by omega)]
set_option maxHeartbeats 4000000 in
set_option maxRecDepth 100000 in
theorem refGiven_any (x : DetD) (s : DetS) (sc : Int) (w : World) {B : Nat} (h : DetAt w B x s) (hB : B ≤ w.heap.size) (hf : DetFit x s) (hd : ∀ d ∈ x.dems, d.name.size ≤ maxLen ∧ d.steps.length ≤ 60000) :
    Calls Tryz.prog 19 #[detV x s, .int .i64 sc] w fun e w' => e = .returned (.int .i64 (planErr x sc)) ∧ Below w.heap.size w w' := by
  have HV := hide (fun (W : World) (hz : Below w.heap.size w W) => refValid25_any x s W (h.carry (hz.mono hB) (Nat.le_refl _)) (Nat.le_trans hB hz.size) hf hd)
  have HS := hide (fun (h1 : detOk x = true) (h2 : 1 ≤ sc ∧ sc ≤ 1048576) (W : World) (hz : Below w.heap.size w W) => refSize46_ok x s sc W (h.carry (hz.mono hB) (Nat.le_refl _)) (Nat.le_trans hB hz.size) hf h1 h2)
  have He1 := hide (fun (h1 : detOk x = false) => show planErr x sc = 1 by rw [planErr, if_pos h1])
  have He2 := hide (fun (h1 : detOk x = true) (h2 : sc < 1 ∨ 1048576 < sc) => show planErr x sc = 2 by rw [planErr, if_neg (by rw [h1]; decide), if_pos h2])
  have He3 := hide (fun (h1 : detOk x = true) (h2 : 1 ≤ sc ∧ sc ≤ 1048576) => planErr_ok h1 h2)
  have Hpr := hide (fun (h1 : detOk x = true) (h2 : 1 ≤ sc ∧ sc ≤ 1048576) => show 0 ≤ (gridOf x sc).rows * (gridOf x sc).cols ∧ (gridOf x sc).rows * (gridOf x sc).cols ≤ 70368744177664 by
    have hbx := boxOk_iff.1 (detOk_hull h1)
    have hr := upQ_range (n := (hullOf x.mem.boxes).hi.2.1 - (hullOf x.mem.boxes).lo.2.1) (s := sc) (by omega) (by omega) h2
    have hc := upQ_range (n := (hullOf x.mem.boxes).hi.1 - (hullOf x.mem.boxes).lo.1) (s := sc) (by omega) (by omega) h2
    exact prod_range hr.1 hr.2 hc.1 hc.2)
  have Hi := hide (show (Tryz.prog.info? 34).map (·.size) = some 19 by kernel_rfl)
  have K0 := hide (Blk.new w 34 (detCells x.mem x.rule s))
  have HW := hide (below_new w (.cells (detCells x.mem x.rule s) 34))
  obtain ⟨dk, hdk⟩ : ∃ b, b = detOk x := ⟨_, rfl⟩
  rw [← hdk] at HV HS He1 He2 He3 Hpr
  generalize (gridOf x sc).rows = R at *
  generalize (gridOf x sc).cols = C at *
  generalize planErr x sc = er at *
  obtain ⟨mem, bars, runs, laps, dems, rule⟩ := x
  obtain ⟨a1, n1, c1, a2, n2, c2, a3, n3, c3, a4, n4, c4, a5, n5, c5, a6, n6, c6⟩ := s
  obtain ⟨name, boxes, holes, cover, agg, poker⟩ := mem
  obtain ⟨r1, r2, r3, r4, r5, r6, r7, r8, r9⟩ := rule
  simp only [detCells] at K0 HW
  clear h hf hd hB hdk
  show Calls Tryz.prog 19 #[.agg #[.string name, .slice a1 n1 c1, .slice a2 n2 c2, .int .i64 cover, .int .i64 agg, .int .i64 poker, .slice a3 n3 c3, .slice a4 n4 c4, .slice a5 n5 c5, .slice a6 n6 c6, .int .i64 r1, .int .i64 r2, .int .i64 r3, .int .i64 r4, .int .i64 r5, .int .i64 r6, .int .i64 r7, .int .i64 r8, .int .i64 r9], .int .i64 sc] w _
  go_enter Tryz.func19, Tryz.ntmps19
  go_wp2_with (refine wpList_load_row rfl 34 (.tmp 2) rfl w.heap.size rfl 34 _ (0, 0) _ K0.out Tryz.underlying34 rfl Hi.out ?_)
  refine (HV.out _ HW.out).mono ?_
  rintro e w2 ⟨rfl, hb⟩
  have K2 := hide (K0.out.keep hb)
  have HW2 := hide (below_step HW.out hb (Nat.le_refl _))
  clear hb HV K0 HW
  cases dk
  · have Hr := hide (He1.out rfl)
    clear He1 He2 He3 Hpr HS
    go_wp2_with fail
    go_ret
    exact ⟨ret_int Hr.out.symm, HW2.out⟩
  by_cases hs1 : sc < 1
  · have d0 : decide (sc < 1) = true := by simpa using hs1
    have Hr := hide (He2.out rfl (.inl hs1))
    clear He1 He2 He3 Hpr HS hs1
    go_wp2_with fail
    go_ret
    exact ⟨ret_int Hr.out.symm, HW2.out⟩
  have d0 : decide (sc < 1) = false := by simpa using hs1
  by_cases hs2 : 1048576 < sc
  · have d1 : decide (1048576 < sc) = true := by simpa using hs2
    have Hr := hide (He2.out rfl (.inr hs2))
    clear He1 He2 He3 Hpr HS hs1 hs2
    go_wp2_with fail
    go_ret
    exact ⟨ret_int Hr.out.symm, HW2.out⟩
  have d1 : decide (1048576 < sc) = false := by simpa using hs2
  have Hr := hide (He3.out rfl ⟨by omega, by omega⟩)
  have hpr := Hpr.out rfl ⟨by omega, by omega⟩
  have HSS := hide (HS.out rfl ⟨by omega, by omega⟩)
  clear HS
  have z1 : IntKind.i64.wrap (R * C) = R * C := IntWalk.i64_in _ (by omega)
  obtain ⟨pr, hp⟩ : ∃ pr, pr = R * C := ⟨_, rfl⟩
  rw [← hp] at z1 Hr
  have m1 : R * C = pr := hp.symm
  clear He1 He2 He3 Hpr hs1 hs2 hpr hp
  go_wp2_with (refine wpList_load_row rfl 34 (.tmp 2) rfl w.heap.size rfl 34 _ (0, 0) _ K2.out Tryz.underlying34 rfl Hi.out ?_)
  refine (HSS.out _ HW2.out).mono ?_
  rintro e w3 ⟨rfl, hb⟩
  have HW3 := hide (below_step HW2.out hb (Nat.le_refl _))
  clear hb HSS K2 HW2 Hi
  by_cases hq : 20000 < pr
  · have d2 : decide (20000 < pr) = true := by simpa using hq
    have Hr := hide (show er = 6 by rw [Hr.out, if_pos hq])
    clear hq
    go_wp2_with fail
    go_ret
    exact ⟨ret_int Hr.out.symm, HW3.out⟩
  · have d2 : decide (20000 < pr) = false := by simpa using hq
    have Hr := hide (show er = 0 by rw [Hr.out, if_neg hq])
    clear hq
    go_wp2_with fail
    go_ret
    exact ⟨ret_int Hr.out.symm, HW3.out⟩
end Go.Proofs.YtpmipoljnchheaaGreatDoor
namespace Go.Proofs.YtpmipoljnchheaaGreatDoor
open Go.RowKit

theorem wpList_load_row_g {P : Program} {ops : Array Oper} {rest : List Oper} {o : Oper} {a : Act} {w : World} {Q : Exit → Act → World → Prop} (hw : Region.wanted o (yielded ops a.tmps) = true) (ty : TypeId) (x : Operand) (ho : o.op = .load ty x)
    (g : Nat) (hx : a.eval x = .pointer (some ⟨g, 0, none⟩)) (t : TypeId) (cs : Array Value) (fr : Nat × Nat) (d : TypeDesc) (hg : w.heap[g]? = some (.cells cs t fr))
    (hu : P.underlying ty = some d) (hd : (match d with | .struct _ | .array _ _ => true | _ => false) = true) (hi : (P.info? ty).map (·.size) = some cs.size)
    (h : wpList P ops Q rest (a.put o.dst (.agg cs)) w) : wpList P ops Q (o :: rest) a w :=
  wpList_step fun K hK => by
    rw [if_pos hw]
    exact wp_load_row ty x ho g hx t cs fr d hg hu hd hi (hK _ _ h)
set_option maxHeartbeats 4000000 in
set_option maxRecDepth 100000 in
theorem fine_any (x : DetD) (s : DetS) (sc : Int) (w : World) {B : Nat} (h : DetAt w B x s) (hB : B ≤ w.heap.size) (hf : DetFit x s) (hd : ∀ d ∈ x.dems, d.name.size ≤ maxLen ∧ d.steps.length ≤ 60000) :
    Calls Tryz.prog 6 #[detV x s, .int .i64 sc] w fun e w' => RetB e True ∧ Below w.heap.size w w' := by
  have HG := hide (fun (W : World) (hz : Below w.heap.size w W) => refGiven_any x s sc W (h.carry (hz.mono hB) (Nat.le_refl _)) (Nat.le_trans hB hz.size) hf hd)
  have HRS := hide (fun (he : planErr x sc = 0) (W : World) (hz : Below w.heap.size w W) => refSize46_ok x s sc W (h.carry (hz.mono hB) (Nat.le_refl _)) (Nat.le_trans hB hz.size) hf (plan_facts he).det (plan_facts he).sc)
  have Hi := hide (show (Tryz.prog.info? 34).map (·.size) = some 19 by kernel_rfl)
  have K0 := hide (Blk.new w 34 (detCells x.mem x.rule s))
  have HW := hide (below_new w (.cells (detCells x.mem x.rule s) 34))
  clear h hB hf hd
  go_enter Tryz.func6, Tryz.ntmps6
  go_wp2_with (refine wpList_load_row rfl 34 (.tmp 2) rfl w.heap.size rfl 34 _ (0, 0) _ K0.out Tryz.underlying34 rfl Hi.out ?_)
  refine (HG.out _ HW.out).mono ?_
  rintro e w1 ⟨rfl, hb⟩
  have K0 := hide (K0.out.keep hb)
  have HW := hide (below_step HW.out hb (Nat.le_refl _))
  clear hb HG
  by_cases he : planErr x sc = 0
  · have HR := hide (HRS.out he)
    rw [he]
    generalize (gridOf x sc).rows = R at *
    generalize (gridOf x sc).cols = C at *
    clear HRS he
    go_wp2_with (refine wpList_load_row rfl 34 (.tmp 2) rfl w.heap.size rfl 34 _ (0, 0) _ K0.out Tryz.underlying34 rfl Hi.out ?_)
    refine (HR.out _ HW.out).mono ?_
    rintro e w2 ⟨rfl, hb⟩
    have HW := hide (below_step HW.out hb (Nat.le_refl _))
    clear hb HR
    go_wp2_with fail
    go_ret
    exact ⟨⟨_, rfl, fun _ => trivial⟩, HW.out⟩
  · have he' := hide he
    generalize planErr x sc = er at *
    have d1 : (er == 0) = false := by simpa using he'.out
    have d2 : (er != 0) = true := by simpa using he'.out
    clear HRS he
    go_wp2_with fail
    go_ret
    exact ⟨⟨_, rfl, fun _ => trivial⟩, HW.out⟩
end Go.Proofs.YtpmipoljnchheaaGreatDoor
namespace Go.Proofs.YtpmipoljnchheaaGreatDoor
open Go.RowKit

set_option maxHeartbeats 16000000 in
set_option maxRecDepth 100000 in
theorem planShape_law (x : DetD) (s : DetS) (sc i k : Int) (w : World) {B : Nat} (h : DetAt w B x s) (hB : B ≤ w.heap.size) (hl : DetLen x s) (hi : 0 ≤ i ∧ i < 65536) (hk : 0 ≤ k ∧ k < 65536) (hmx : MX w.heap.size w) :
    Calls Tryz.prog 3 #[detV x s, .int .i64 sc, .int .u16 i, .int .u16 k] w fun e w' => e = .returned (.bool true) ∧ Below w.heap.size w w' := by
  have HF := hide (fun (W : World) (hz : Below w.heap.size w W) => few_any x s W (h.carry (hz.mono hB) (Nat.le_refl _)) (Nat.le_trans hB hz.size) hl)
  have HFi := hide (fun (f : Few x s) (W : World) (hz : Below w.heap.size w W) => fine_any x s sc W (h.carry (hz.mono hB) (Nat.le_refl _)) (Nat.le_trans hB hz.size) (few_fit hl f) (fun d hd => ⟨Nat.le_trans (f.dems d hd).1 (by decide), by have := (f.dems d hd).2; omega⟩))
  have HD0 := hide (fun (f : Few x s) (he : planErr x sc = 0) (W : World) (hz : Below w.heap.size w W) => planDraw_ok x s sc W (h.carry (hz.mono hB) (Nat.le_refl _)) (Nat.le_trans hB hz.size) (few_fit hl f) he)
  have HD1 := hide (fun (f : Few x s) (he : planErr x sc ≠ 0) (W : World) (hz : Below w.heap.size w W) => planDraw_bad x s sc W (h.carry (hz.mono hB) (Nat.le_refl _)) (Nat.le_trans hB hz.size) (few_fit hl f) he)
  have HD2 := hide (fun (f : Few x s) (he : planErr x sc = 0) (W : World) (hz : Below w.heap.size w W) => planDraw_ok (bareOf x) (bareS s) sc W (bare_at (h.carry (hz.mono hB) (Nat.le_refl _))) (Nat.le_trans hB hz.size) (bare_fit (few_fit hl f)) (bare_err he))
  have HSz := hide (fun (f : Few x s) (W : World) (hz : Below w.heap.size w W) => planSize_any x s sc W (h.carry (hz.mono hB) (Nat.le_refl _)) (Nat.le_trans hB hz.size) (few_fit hl f))
  have HSp0 := hide (fun (he : planErr x sc = 0) (W : World) (hz : Below w.heap.size w W) => splitDraw_any he W (hmx.carry hz))
  have HAt0 := hide (fun (f : Few x s) (he : planErr x sc = 0) (row col : Int) (hr : 0 ≤ row ∧ row < (gridOf x sc).rows) (hc : 0 ≤ col ∧ col < (gridOf x sc).cols) (W : World) (hz : Below w.heap.size w W) => planAt_ok x s sc row col W (h.carry (hz.mono hB) (Nat.le_refl _)) (Nat.le_trans hB hz.size) (few_fit hl f) he hr hc)
  have HIx := hide (fun (f : Few x s) (m : ByteArray) (g b off c : Nat) (W : World) (hz : Below w.heap.size w W) (hg : W.cell? ⟨g, 0, none⟩ = some (.slice (some ⟨b, off, none⟩) 1 c)) (hm : W.cell? ⟨b, off, none⟩ = some (.string m)) => indexFuncBar_any s.a3 x.bars s.n3 s.c3 14 #[.pointer (some ⟨g, 0, none⟩)] (markIs m) W (h.h3.carry (hz.mono hB) (Nat.le_refl _)) (Nat.le_trans hB hz.size) hl.l3 (by have := f.bars; omega) Tryz.call14
    (fun y A' c' W' _ hb _ => shape2_any y A' c' m g b off 1 c W' ((hb.cell (p := ⟨g, 0, none⟩) (World.block_lt_of_cell? W _ hg)).trans hg) (Nat.le_refl _) ((hb.cell (p := ⟨b, off, none⟩) (World.block_lt_of_cell? W _ hm)).trans hm)))
  have Hi := hide (show (Tryz.prog.info? 34).map (·.size) = some 19 by kernel_rfl)
  have K0 := hide (Blk.new w 34 (detCells x.mem x.rule s))
  have HW := hide (below_new w (.cells (detCells x.mem x.rule s) 34))
  clear h hB hl hmx
  go_enter Tryz.func3, Tryz.ntmps3
  go_wp2_with fail
  refine (awake_any _).mono ?_
  rintro e w1 ⟨rfl, hb⟩
  replace K0 := hide (K0.out.keep hb)
  replace HW := hide (below_step HW.out hb (Nat.le_refl _))
  clear hb
  go_wp2_with (refine wpList_load_row rfl 34 (.tmp 4) rfl w.heap.size rfl 34 _ (0, 0) _ K0.out Tryz.underlying34 rfl Hi.out ?_)
  refine (HF.out _ HW.out).mono ?_
  rintro e w2 ⟨⟨t, rfl, ht⟩, hb⟩
  have Ht := hide ht
  replace K0 := hide (K0.out.keep hb)
  replace HW := hide (below_step HW.out hb (Nat.le_refl _))
  clear hb
  clear ht HF
  cases t
  · go_wp2_with fail
    go_ret
    exact ⟨rfl, HW.out⟩
  have Hf := hide (Ht.out rfl)
  have HFf := hide (HFi.out Hf.out)
  clear Ht HFi
  go_wp2_with (refine wpList_load_row_g (by rfl) 34 (.tmp 4) rfl w.heap.size rfl 34 _ (0, 0) _ K0.out Tryz.underlying34 rfl Hi.out ?_)
  refine (HFf.out _ HW.out).mono ?_
  rintro e w3 ⟨⟨t, rfl, _⟩, hb⟩
  replace K0 := hide (K0.out.keep hb)
  replace HW := hide (below_step HW.out hb (Nat.le_refl _))
  clear hb
  clear HFf
  cases t
  rotate_left
  · go_wp2_with fail
    go_ret
    exact ⟨rfl, HW.out⟩
  by_cases he : planErr x sc = 0
  rotate_left
  · have HD := hide (HD1.out Hf.out he)
    have he' := hide he
    generalize planErr x sc = er at *
    have d2 : (er != 0) = true := by simpa using he'.out
    clear HD0 HD1 HD2 HSz HSp0 HAt0 HIx he
    go_wp2_with (refine wpList_load_row rfl 34 (.tmp 4) rfl w.heap.size rfl 34 _ (0, 0) _ K0.out Tryz.underlying34 rfl Hi.out ?_)
    refine (HD.out _ HW.out).mono ?_
    rintro e w4 ⟨rfl, hb⟩
    replace K0 := hide (K0.out.keep hb)
    replace HW := hide (below_step HW.out hb (Nat.le_refl _))
    clear hb
    clear HD
    go_wp2_with fail
    go_ret
    exact ⟨rfl, HW.out⟩
  have hpf := plan_facts he
  have HD := hide (HD0.out Hf.out he)
  have HDB := hide (HD2.out Hf.out he)
  have HS := hide (HSz.out Hf.out)
  have HSp := hide (HSp0.out he)
  have HAt := hide (HAt0.out Hf.out he)
  have HI := hide (HIx.out Hf.out)
  rw [plan_ok he, he] at HS
  have hsch : schedOk x.bars = true := by
    have hq := (detOk_parts hpf.det).2.1
    simp only [laidOk, Bool.and_eq_true] at hq
    exact hq.1.1
  simp only [schedOk, Bool.and_eq_true] at hsch
  have Hsix := hide (fun (j : Nat) (y : BarD) (hj : x.bars[j]? = some y) => sched_ix x.bars 0 hsch.2 j y hj)
  rw [bare_text] at HDB
  have hRC0 := (plan_detOk he).2.2
  have hR1 := hpf.rows
  have hC1 := hpf.cols
  have Hlen := hide (shape_len x sc)
  have Hend := hide (shape_end x sc)
  have Hrow := hide (fun (r : Nat) (hr : r < (gridOf x sc).rows.toNat) => shape_row x sc hr)
  have Hlin := hide (none_some (line_size x sc))
  have Hls := hide (line_size x sc)
  clear HD0 HD1 HD2 HSz HSp0 HAt0 HIx he hpf hsch
  obtain ⟨R, hR⟩ := Int.eq_ofNat_of_zero_le (show 0 ≤ (gridOf x sc).rows by omega)
  obtain ⟨C, hC⟩ := Int.eq_ofNat_of_zero_le (show 0 ≤ (gridOf x sc).cols by omega)
  rw [hR, hC] at HDB HAt Hlin Hls HS
  rw [hR] at HSp Hlen Hend hR1
  rw [hC] at hC1
  rw [hR, hC] at hRC0
  have hRC : R * C ≤ 20000 := by
    have h4 : ((R * C : Nat) : Int) ≤ 20000 := by rw [Int.natCast_mul]; exact hRC0
    omega
  clear hRC0
  simp only [hR, hC] at Hrow
  simp only [Int.toNat_natCast] at HDB HSp Hlen Hend Hrow Hlin Hls
  obtain ⟨RI, hRI, hRI2, hRI3⟩ := rem_range hi.1 (show 0 < R by omega)
  obtain ⟨CI, hCI, hCI2, hCI3⟩ := rem_range hk.1 (show 0 < C by omega)
  have HA := hide (HAt.out (RI : Int) (CI : Int) ⟨by omega, by omega⟩ ⟨by omega, by omega⟩)
  have Hrw := hide (Hrow.out RI hRI3)
  have Hix := hide (fun (W : World) => row_index (seenAt x sc) RI hCI3 W)
  clear HAt Hrow
  obtain ⟨M, hM⟩ : ∃ M, M = marksAt x sc (RI : Int) (CI : Int) := ⟨_, rfl⟩
  rw [← hM] at HA
  have hMd : M = (seenAt x sc (RI : Int) (CI : Int)).map (barMark x.bars) := hM
  have Hmem := hide (fun (q : Int) (hq : q ∈ seenAt x sc (RI : Int) (CI : Int)) => seenAt_mem hq)
  clear hM
  generalize seenAt x sc (RI : Int) (CI : Int) = SE at *
  generalize shapeLines x sc = LN at *
  generalize (⟨(drawRow (seenAt x sc) RI C).toArray⟩ : ByteArray) = RW at *
  generalize (⟨(drawText x sc).toArray⟩ : ByteArray) = TX at *
  clear hR hC hRI hCI
  go_wp2_with (refine wpList_load_row rfl 34 (.tmp 4) rfl w.heap.size rfl 34 _ (0, 0) _ K0.out Tryz.underlying34 rfl Hi.out ?_)
  refine (HD.out _ HW.out).mono ?_
  rintro e w4 ⟨rfl, hb⟩
  replace K0 := hide (K0.out.keep hb)
  replace HW := hide (below_step HW.out hb (Nat.le_refl _))
  clear hb
  clear HD
  go_wp2_with (refine wpList_load_row rfl 34 (.tmp 4) rfl w.heap.size rfl 34 _ (0, 0) _ K0.out Tryz.underlying34 rfl Hi.out ?_)
  refine (HS.out _ HW.out).mono ?_
  rintro e w5 ⟨rfl, hb⟩
  replace K0 := hide (K0.out.keep hb)
  replace HW := hide (below_step HW.out hb (Nat.le_refl _))
  clear hb
  clear HS
  obtain ⟨wa, hwa⟩ : ∃ wa, wa = w5.alloc (.cells #[.int .i64 (C : Int)] 3) := ⟨_, rfl⟩
  have KG := hide (Blk.new w5 3 #[.int .i64 (C : Int)])
  have h5 := HW.out.size
  replace K0 := hide (K0.out.alloc (.cells #[.int .i64 (C : Int)] 3))
  replace HW := hide (HW.out.alloc h5 (.cells #[.int .i64 (C : Int)] 3))
  rw [← hwa] at KG K0 HW
  have Hg := hide h5
  clear h5
  go_wp2_with fail
  rw [← hwa]
  clear hwa
  generalize w5.heap.size = g at *
  refine (HSp.out _ HW.out).mono ?_
  rintro e w6 ⟨b, rfl, hstr, hb⟩
  replace K0 := hide (K0.out.keep hb)
  replace KG := hide (KG.out.keep hb)
  replace HW := hide (below_step HW.out hb (Nat.le_refl _))
  clear hb
  have Hstr := hide hstr
  obtain ⟨b1, o1, y1, hbA, _, hy1, hc1⟩ := StrsAt.get (k := R) hstr (by rw [Hlen.out]; omega)
  injection hbA with hbA
  injection hbA with e1 e2
  subst e1 e2
  rw [Hend.out] at hy1
  injection hy1 with hy1
  subst hy1
  rw [Nat.zero_add] at hc1
  clear hstr HSp
  have g0 := KG.out.cell 0
  simp at g0
  have z1 : IntKind.i64.wrap ((R : Int) + 1) = ((R + 1 : Nat) : Int) := by rw [IntWalk.i64_in _ (by omega)]; omega
  have z2 : (((R + 1 : Nat) : Int) != ((R + 1 : Nat) : Int)) = false := by simp
  have z3 : decide ((R : Int) < 1) = false := by simp; omega
  have z4 : decide ((C : Int) < 1) = false := by simp; omega
  go_wp2_with fail
  have HC := containsFuncStr_any _ (LN.take R) R (R + 1) 11 #[.pointer (some ⟨g, 0, none⟩)] (lenNot C) w6 (SlOf.take Hstr.out R) (Nat.le_refl _) (by rw [List.length_take, Hlen.out]; omega) (by omega)
    (fun y W hy hb => by
      have h1 := Hls.out y hy
      have h2 : y.size = C := by
        simp only [lenNot, decide_eq_false_iff_not, Decidable.not_not] at h1
        exact h1
      exact shape1_any y g C W (by rw [h2]; unfold maxLen; omega) ((hb.cell (p := ⟨g, 0, none⟩) KG.out.lt).trans g0)) Tryz.call11
  rw [Hlin.out] at HC
  refine HC.mono ?_
  rintro e w7 ⟨rfl, hb⟩
  have HB := hide hb
  replace K0 := hide (K0.out.keep hb)
  replace KG := hide (KG.out.keep hb)
  replace HW := hide (below_step HW.out hb (Nat.le_refl _))
  clear hb
  clear HC g0 hc1
  have g0 := KG.out.cell 0
  simp at g0
  have zi : IntKind.i64.wrap i = i := IntWalk.i64_in _ (by omega)
  have zk : IntKind.i64.wrap k = k := IntWalk.i64_in _ (by omega)
  have zr : (R : Int) ≠ 0 := by omega
  have zc : (C : Int) ≠ 0 := by omega
  have zr2 : ((R : Int) == 0) = false := by simp; omega
  have zc2 : ((C : Int) == 0) = false := by simp; omega
  go_wp2_with fail
  go_region
  replace K0 := hide K0.out.drew
  replace KG := hide KG.out.drew
  replace HW := hide HW.out.drew
  have HB2 := hide HB.out.drew
  clear HB g0 z1 z2 z3 z4 zi zk zr zc zr2 zc2
  go_wp2_with (refine wpList_load_row rfl 34 (.tmp 4) rfl w.heap.size rfl 34 _ (0, 0) _ K0.out Tryz.underlying34 rfl Hi.out ?_)
  obtain ⟨b2, o2, y2, hbA, hbl, hy2, hc2⟩ := StrsAt.get (k := RI) Hstr.out (by rw [Hlen.out]; omega)
  injection hbA with hbA
  injection hbA with e1 e2
  subst e1 e2
  rw [Hrw.out] at hy2
  injection hy2 with hy2
  subst hy2
  rw [Nat.zero_add] at hc2
  refine (HA.out _ HW.out).mono ?_
  rintro e w8 ⟨A, cA, rfl, hms, hb⟩
  have Hms := hide hms
  have hc2 := ((below_step HB2.out hb (Nat.le_refl _)).cell (p := ⟨b, RI, none⟩) hbl).trans hc2
  have hbl := Nat.lt_of_lt_of_le hbl (below_step HB2.out hb (Nat.le_refl _)).size
  replace K0 := hide (K0.out.keep hb)
  replace KG := hide (KG.out.keep hb)
  replace HW := hide (below_step HW.out hb (Nat.le_refl _))
  clear hb
  clear HA hms HB2 Hstr Hrw Hend Hlen
  have hc3 := fun o => (World.cell?_alloc_lt w8 o ⟨b, RI, none⟩ hbl).trans hc2
  clear hc2
  rcases SE with _ | ⟨q, _ | ⟨q2, SE⟩⟩
  · subst hMd
    simp only [List.map_nil, List.length_nil] at Hms ⊢
    have hix := Hix.out
    replace K0 := hide (K0.out.alloc (.cells #[.slice A 0 cA] 44))
    go_upto_region 21 with fail
    replace KG := hide (KG.out.alloc (.cells #[.slice A 0 cA] 44))
    replace HW := hide (HW.out.alloc HW.out.size (.cells #[.slice A 0 cA] 44))
    obtain ⟨wt, hwt⟩ : ∃ wt, wt = w8.alloc (.cells #[.slice A 0 cA] 44) := ⟨_, rfl⟩
    rw [← hwt] at K0 KG HW ⊢
    clear hwt hc3 hix Hms
    have KZ := hide (Blk.new wt 34 #[.string ⟨#[]⟩, .slice none 0 0, .slice none 0 0, .int .i64 0, .int .i64 0, .int .i64 0, .slice none 0 0, .slice none 0 0, .slice none 0 0, .slice none 0 0, .int .i64 0, .int .i64 0, .int .i64 0, .int .i64 0, .int .i64 0, .int .i64 0, .int .i64 0, .int .i64 0, .int .i64 0])
    have Hone : Hid ((detCells x.mem x.rule s).all (·.oneCell') = true) := hide (by kernel_rfl)
    go_upto_region 22 with (first
      | (refine wpList_load_row rfl 34 (.tmp 4) rfl w.heap.size rfl 34 _ (0, 0) _ K0.out Tryz.underlying34 rfl Hi.out ?_)
      | (refine wpList_store_row rfl 34 (.tmp 21) (.tmp 141) rfl wt.heap.size (detCells x.mem x.rule s) rfl rfl 34 _ KZ.out Hi.out rfl Hone.out ?_)
      | (refine wp_store_row 34 (.tmp 21) (.tmp 141) rfl wt.heap.size (detCells x.mem x.rule s) rfl rfl 34 _ KZ.out Hi.out rfl Hone.out ?_))
    have KY := hide (KZ.out.row_same (detCells x.mem x.rule s))
    have HWy := hide (Below.setRow (HW.out.alloc HW.out.size (.cells #[.string ⟨#[]⟩, .slice none 0 0, .slice none 0 0, .int .i64 0, .int .i64 0, .int .i64 0, .slice none 0 0, .slice none 0 0, .slice none 0 0, .slice none 0 0, .int .i64 0, .int .i64 0, .int .i64 0, .int .i64 0, .int .i64 0, .int .i64 0, .int .i64 0, .int .i64 0, .int .i64 0] 34)) HW.out.size (detCells x.mem x.rule s))
    have KGy := hide ((KG.out.alloc (.cells #[.string ⟨#[]⟩, .slice none 0 0, .slice none 0 0, .int .i64 0, .int .i64 0, .int .i64 0, .slice none 0 0, .slice none 0 0, .slice none 0 0, .slice none 0 0, .int .i64 0, .int .i64 0, .int .i64 0, .int .i64 0, .int .i64 0, .int .i64 0, .int .i64 0, .int .i64 0, .int .i64 0] 34)).row_other (Nat.ne_of_lt KG.out.lt) (detCells x.mem x.rule s))
    obtain ⟨wy, hwy⟩ : ∃ wy, wy = (wt.alloc (.cells #[.string ⟨#[]⟩, .slice none 0 0, .slice none 0 0, .int .i64 0, .int .i64 0, .int .i64 0, .slice none 0 0, .slice none 0 0, .slice none 0 0, .slice none 0 0, .int .i64 0, .int .i64 0, .int .i64 0, .int .i64 0, .int .i64 0, .int .i64 0, .int .i64 0, .int .i64 0, .int .i64 0] 34)).setRow wt.heap.size (detCells x.mem x.rule s) := ⟨_, rfl⟩
    rw [← hwy] at KY HWy KGy ⊢
    have Hgt := hide KG.out.lt
    have Hwt := hide HW.out.size
    generalize wt.heap.size = gd at *
    clear hwy KZ Hone K0 KG HW
    have y7 := KY.out.cell 7
    have y8 := (KY.out.set_ 7 (.slice none 0 0)).cell 8
    have v7 := KY.out.frozen 7
    have v8 := (KY.out.set_ 7 (.slice none 0 0)).frozen 8
    simp at y7 y8
    have KV := (KY.out.set_ 7 (.slice none 0 0)).set_ 8 (.slice none 0 0)
    simp only [detCells, List.setIfInBounds_toArray, List.set_cons_zero, List.set_cons_succ] at KV
    have KV := hide KV
    have KGv := hide ((KGy.out.far (p := ⟨gd, 7, none⟩) (Nat.ne_of_lt Hgt.out) (.slice none 0 0)).far (p := ⟨gd, 8, none⟩) (Nat.ne_of_lt Hgt.out) (.slice none 0 0))
    have HWv := hide ((HWy.out.setCell (p := ⟨gd, 7, none⟩) Hwt.out (.slice none 0 0)).setCell (p := ⟨gd, 8, none⟩) Hwt.out (.slice none 0 0))
    go_upto_region 23 with fail
    go_wp2_with (refine wpList_load_row rfl 34 (.tmp 21) rfl gd rfl 34 _ (0, 0) _ KV.out Tryz.underlying34 rfl Hi.out ?_)
    refine (HDB.out _ HWv.out).mono ?_
    rintro e w9 ⟨rfl, hb⟩
    replace KGv := hide (KGv.out.keep hb)
    replace HWv := hide (below_step HWv.out hb (Nat.le_refl _))
    clear hb HDB KV KY HWy KGy y7 y8 v7 v8
    have g0 := KGv.out.cell 0
    simp at g0
    go_wp2_with fail
    refine (Tryz.strings_Repeat ⟨#[46]⟩ C w9 (by omega) (by show 1 * C ≤ _; omega)).mono ?_
    rintro e w10 ⟨rfl, hb⟩
    replace HWv := hide (below_step HWv.out hb (Nat.le_refl _))
    clear hb g0 KGv
    have hRl : (Lib.repeatL [46] C).length = C := by rw [repeat_point]; simp
    have q1 : decide (9223372036854775807 < C + 1) = false := by simp; omega
    have q2 : ¬ 9223372036854775807 < C + 1 := by omega
    go_wp2_with fail
    have hd : (({ data := (Lib.repeatL [46] C).toArray } : ByteArray) ++ { data := #[10] }).data.toList = Lib.repeatL [46] C ++ [10] := by simp
    have hs9 : (({ data := (Lib.repeatL [46] C).toArray } : ByteArray) ++ { data := #[10] }).size = C + 1 := by
      rw [ByteArray.size_append]
      show (Lib.repeatL [46] C).toArray.size + 1 = C + 1
      rw [List.size_toArray, hRl]
    have HR2 := Tryz.strings_Repeat (({ data := (Lib.repeatL [46] C).toArray } : ByteArray) ++ { data := #[10] }) R w10 (by omega) (by rw [hs9, Nat.add_mul, Nat.mul_comm C R]; omega)
    rw [hd] at HR2
    refine HR2.mono ?_
    rintro e w11 ⟨rfl, hb⟩
    replace HWv := hide (below_step HWv.out hb (Nat.le_refl _))
    clear hb HR2 hd hs9 q1 q2 hRl
    generalize (⟨(Lib.repeatL (Lib.repeatL [46] C ++ [10]) R).toArray⟩ : ByteArray) = T at *
    go_wp2_with fail
    go_ret
    exact ⟨rfl, HWv.out⟩
  · obtain ⟨hq0, hq1⟩ := Hmem.out q (List.mem_cons_self ..)
    obtain ⟨j, rfl⟩ := Int.eq_ofNat_of_zero_le hq0
    have hj : j < x.bars.length := by omega
    obtain ⟨bd, hbd⟩ : ∃ bd, x.bars[j]? = some bd := ⟨_, List.getElem?_eq_getElem hj⟩
    have hbm : barMark x.bars (j : Int) = bd.mark := by
      unfold barMark
      rw [show ((j : Int)).toNat = j by omega, hbd]
    have hidx := Hsix.out j bd hbd
    rw [Nat.zero_add] at hidx
    subst hMd
    simp only [List.map_cons, List.map_nil, List.length_cons, List.length_nil, hbm, Nat.zero_add] at Hms ⊢
    obtain ⟨b3, o3, y3, rfl, hbl3, hy3, hc4⟩ := StrsAt.get (k := 0) Hms.out (by simp)
    simp at hy3
    subst hy3
    rw [Nat.add_zero] at hc4
    have HIq := HI.out bd.mark w8.heap.size b3 o3 cA
    rw [hidx] at HIq
    have HIq := hide HIq
    have hc5 := fun o => (World.cell?_alloc_lt w8 o ⟨b3, o3, none⟩ hbl3).trans hc4
    obtain ⟨m, hm1, hm2, hm3⟩ := rem_range (i := (j : Int)) (n := 26) (by omega) (by omega)
    have hm2' : Int.tmod (j : Int) 26 = (m : Int) := hm2
    have hm1' : (j : Int) % 26 = (m : Int) := hm1
    have hix : ∀ W : World, (Instr.index 9 (.string RW) (.int .i64 (CI : Int))).run Tryz.prog W = .ok (.int .u8 (97 + (m : Int))) W := by
      intro W
      have h9 := Hix.out W
      have h8 : ((cellByte [(j : Int)]).toNat : Int) = 97 + (m : Int) := by
        show ((letterOf (j : Int)).toNat : Int) = _
        rw [letterOf_nat, hm1']
      rw [h8] at h9
      exact h9
    have p1 : ((97 + (m : Int)) == 46) = false := by simp; omega
    have p2 : ((97 + (m : Int)) == 43) = false := by simp; omega
    have p3 : IntKind.i64.wrap (m : Int) = (m : Int) := IntWalk.i64_in _ (by omega)
    have p4 : IntKind.i64.wrap (97 + (m : Int)) = 97 + (m : Int) := IntWalk.i64_in _ (by omega)
    have p5 : IntKind.u8.wrap (97 + (m : Int)) = 97 + (m : Int) := IntWalk.u8_in _ (by omega)
    have p6 : decide ((j : Int) < 0) = false := by simp
    replace K0 := hide (K0.out.alloc (.cells #[.slice (some ⟨b3, o3, none⟩) 1 cA] 44))
    replace KG := hide (KG.out.alloc (.cells #[.slice (some ⟨b3, o3, none⟩) 1 cA] 44))
    replace HW := hide (HW.out.alloc HW.out.size (.cells #[.slice (some ⟨b3, o3, none⟩) 1 cA] 44))
    have e6 := K0.out.cell 6
    simp at e6
    have lk := K0.out.lt
    clear hm1 hm2 hm1' hc4 hbd hbm hidx hq0 hq1 HI Hix Hms Hsix Hmem
    go_wp2_with fail
    refine (HIq.out _ HW.out (show _ from (Blk.new w8 44 #[.slice (some ⟨b3, o3, none⟩) 1 cA]).cell 0) (hc5 _)).mono ?_
    rintro e wt ⟨rfl, hb⟩
    replace K0 := hide (K0.out.keep hb)
    replace KG := hide (KG.out.keep hb)
    replace HW := hide (below_step HW.out hb (Nat.le_refl _))
    clear hb
    clear hc5 HIq e6 lk
    go_upto_region 21 with fail
    clear hc3 hix p1 p2 p3 p4 p5 p6 hm2'
    have KZ := hide (Blk.new wt 34 #[.string ⟨#[]⟩, .slice none 0 0, .slice none 0 0, .int .i64 0, .int .i64 0, .int .i64 0, .slice none 0 0, .slice none 0 0, .slice none 0 0, .slice none 0 0, .int .i64 0, .int .i64 0, .int .i64 0, .int .i64 0, .int .i64 0, .int .i64 0, .int .i64 0, .int .i64 0, .int .i64 0])
    have Hone : Hid ((detCells x.mem x.rule s).all (·.oneCell') = true) := hide (by kernel_rfl)
    go_upto_region 22 with (first
      | (refine wpList_load_row rfl 34 (.tmp 4) rfl w.heap.size rfl 34 _ (0, 0) _ K0.out Tryz.underlying34 rfl Hi.out ?_)
      | (refine wpList_store_row rfl 34 (.tmp 21) (.tmp 141) rfl wt.heap.size (detCells x.mem x.rule s) rfl rfl 34 _ KZ.out Hi.out rfl Hone.out ?_)
      | (refine wp_store_row 34 (.tmp 21) (.tmp 141) rfl wt.heap.size (detCells x.mem x.rule s) rfl rfl 34 _ KZ.out Hi.out rfl Hone.out ?_))
    have KY := hide (KZ.out.row_same (detCells x.mem x.rule s))
    have HWy := hide (Below.setRow (HW.out.alloc HW.out.size (.cells #[.string ⟨#[]⟩, .slice none 0 0, .slice none 0 0, .int .i64 0, .int .i64 0, .int .i64 0, .slice none 0 0, .slice none 0 0, .slice none 0 0, .slice none 0 0, .int .i64 0, .int .i64 0, .int .i64 0, .int .i64 0, .int .i64 0, .int .i64 0, .int .i64 0, .int .i64 0, .int .i64 0] 34)) HW.out.size (detCells x.mem x.rule s))
    have KGy := hide ((KG.out.alloc (.cells #[.string ⟨#[]⟩, .slice none 0 0, .slice none 0 0, .int .i64 0, .int .i64 0, .int .i64 0, .slice none 0 0, .slice none 0 0, .slice none 0 0, .slice none 0 0, .int .i64 0, .int .i64 0, .int .i64 0, .int .i64 0, .int .i64 0, .int .i64 0, .int .i64 0, .int .i64 0, .int .i64 0] 34)).row_other (Nat.ne_of_lt KG.out.lt) (detCells x.mem x.rule s))
    obtain ⟨wy, hwy⟩ : ∃ wy, wy = (wt.alloc (.cells #[.string ⟨#[]⟩, .slice none 0 0, .slice none 0 0, .int .i64 0, .int .i64 0, .int .i64 0, .slice none 0 0, .slice none 0 0, .slice none 0 0, .slice none 0 0, .int .i64 0, .int .i64 0, .int .i64 0, .int .i64 0, .int .i64 0, .int .i64 0, .int .i64 0, .int .i64 0, .int .i64 0] 34)).setRow wt.heap.size (detCells x.mem x.rule s) := ⟨_, rfl⟩
    rw [← hwy] at KY HWy KGy ⊢
    have Hgt := hide KG.out.lt
    have Hwt := hide HW.out.size
    generalize wt.heap.size = gd at *
    clear hwy KZ Hone K0 KG HW
    have y7 := KY.out.cell 7
    have y8 := (KY.out.set_ 7 (.slice none 0 0)).cell 8
    have v7 := KY.out.frozen 7
    have v8 := (KY.out.set_ 7 (.slice none 0 0)).frozen 8
    simp at y7 y8
    have KV := (KY.out.set_ 7 (.slice none 0 0)).set_ 8 (.slice none 0 0)
    simp only [detCells, List.setIfInBounds_toArray, List.set_cons_zero, List.set_cons_succ] at KV
    have KV := hide KV
    have KGv := hide ((KGy.out.far (p := ⟨gd, 7, none⟩) (Nat.ne_of_lt Hgt.out) (.slice none 0 0)).far (p := ⟨gd, 8, none⟩) (Nat.ne_of_lt Hgt.out) (.slice none 0 0))
    have HWv := hide ((HWy.out.setCell (p := ⟨gd, 7, none⟩) Hwt.out (.slice none 0 0)).setCell (p := ⟨gd, 8, none⟩) Hwt.out (.slice none 0 0))
    go_upto_region 23 with fail
    go_wp2_with (refine wpList_load_row rfl 34 (.tmp 21) rfl gd rfl 34 _ (0, 0) _ KV.out Tryz.underlying34 rfl Hi.out ?_)
    refine (HDB.out _ HWv.out).mono ?_
    rintro e w9 ⟨rfl, hb⟩
    replace KGv := hide (KGv.out.keep hb)
    replace HWv := hide (below_step HWv.out hb (Nat.le_refl _))
    clear hb HDB KV KY HWy KGy y7 y8 v7 v8
    have g0 := KGv.out.cell 0
    simp at g0
    go_wp2_with fail
    refine (Tryz.strings_Repeat ⟨#[46]⟩ C w9 (by omega) (by show 1 * C ≤ _; omega)).mono ?_
    rintro e w10 ⟨rfl, hb⟩
    replace HWv := hide (below_step HWv.out hb (Nat.le_refl _))
    clear hb g0 KGv
    have hRl : (Lib.repeatL [46] C).length = C := by rw [repeat_point]; simp
    have q1 : decide (9223372036854775807 < C + 1) = false := by simp; omega
    have q2 : ¬ 9223372036854775807 < C + 1 := by omega
    go_wp2_with fail
    have hd : (({ data := (Lib.repeatL [46] C).toArray } : ByteArray) ++ { data := #[10] }).data.toList = Lib.repeatL [46] C ++ [10] := by simp
    have hs9 : (({ data := (Lib.repeatL [46] C).toArray } : ByteArray) ++ { data := #[10] }).size = C + 1 := by
      rw [ByteArray.size_append]
      show (Lib.repeatL [46] C).toArray.size + 1 = C + 1
      rw [List.size_toArray, hRl]
    have HR2 := Tryz.strings_Repeat (({ data := (Lib.repeatL [46] C).toArray } : ByteArray) ++ { data := #[10] }) R w10 (by omega) (by rw [hs9, Nat.add_mul, Nat.mul_comm C R]; omega)
    rw [hd] at HR2
    refine HR2.mono ?_
    rintro e w11 ⟨rfl, hb⟩
    replace HWv := hide (below_step HWv.out hb (Nat.le_refl _))
    clear hb HR2 hd hs9 q1 q2 hRl
    generalize (⟨(Lib.repeatL (Lib.repeatL [46] C ++ [10]) R).toArray⟩ : ByteArray) = T at *
    go_wp2_with fail
    go_ret
    exact ⟨rfl, HWv.out⟩
  · subst hMd
    simp only [List.map_cons, List.length_cons, List.length_map] at Hms ⊢
    have hn : 2 ≤ SE.length + 1 + 1 := by omega
    generalize SE.length + 1 + 1 = n at *
    have hix : ∀ W : World, (Instr.index 9 (.string RW) (.int .i64 (CI : Int))).run Tryz.prog W = .ok (.int .u8 43) W := Hix.out
    have p1 : ((n : Int) == 0) = false := by simp; omega
    have p2 : ((n : Int) == 1) = false := by simp; omega
    have p3 : decide (1 < (n : Int)) = true := by simp; omega
    replace K0 := hide (K0.out.alloc (.cells #[.slice A n cA] 44))
    go_upto_region 21 with fail
    replace KG := hide (KG.out.alloc (.cells #[.slice A n cA] 44))
    replace HW := hide (HW.out.alloc HW.out.size (.cells #[.slice A n cA] 44))
    obtain ⟨wt, hwt⟩ : ∃ wt, wt = w8.alloc (.cells #[.slice A n cA] 44) := ⟨_, rfl⟩
    rw [← hwt] at K0 KG HW ⊢
    clear hwt hc3 hix Hms p1 p2 p3
    have KZ := hide (Blk.new wt 34 #[.string ⟨#[]⟩, .slice none 0 0, .slice none 0 0, .int .i64 0, .int .i64 0, .int .i64 0, .slice none 0 0, .slice none 0 0, .slice none 0 0, .slice none 0 0, .int .i64 0, .int .i64 0, .int .i64 0, .int .i64 0, .int .i64 0, .int .i64 0, .int .i64 0, .int .i64 0, .int .i64 0])
    have Hone : Hid ((detCells x.mem x.rule s).all (·.oneCell') = true) := hide (by kernel_rfl)
    go_upto_region 22 with (first
      | (refine wpList_load_row rfl 34 (.tmp 4) rfl w.heap.size rfl 34 _ (0, 0) _ K0.out Tryz.underlying34 rfl Hi.out ?_)
      | (refine wpList_store_row rfl 34 (.tmp 21) (.tmp 141) rfl wt.heap.size (detCells x.mem x.rule s) rfl rfl 34 _ KZ.out Hi.out rfl Hone.out ?_)
      | (refine wp_store_row 34 (.tmp 21) (.tmp 141) rfl wt.heap.size (detCells x.mem x.rule s) rfl rfl 34 _ KZ.out Hi.out rfl Hone.out ?_))
    have KY := hide (KZ.out.row_same (detCells x.mem x.rule s))
    have HWy := hide (Below.setRow (HW.out.alloc HW.out.size (.cells #[.string ⟨#[]⟩, .slice none 0 0, .slice none 0 0, .int .i64 0, .int .i64 0, .int .i64 0, .slice none 0 0, .slice none 0 0, .slice none 0 0, .slice none 0 0, .int .i64 0, .int .i64 0, .int .i64 0, .int .i64 0, .int .i64 0, .int .i64 0, .int .i64 0, .int .i64 0, .int .i64 0] 34)) HW.out.size (detCells x.mem x.rule s))
    have KGy := hide ((KG.out.alloc (.cells #[.string ⟨#[]⟩, .slice none 0 0, .slice none 0 0, .int .i64 0, .int .i64 0, .int .i64 0, .slice none 0 0, .slice none 0 0, .slice none 0 0, .slice none 0 0, .int .i64 0, .int .i64 0, .int .i64 0, .int .i64 0, .int .i64 0, .int .i64 0, .int .i64 0, .int .i64 0, .int .i64 0] 34)).row_other (Nat.ne_of_lt KG.out.lt) (detCells x.mem x.rule s))
    obtain ⟨wy, hwy⟩ : ∃ wy, wy = (wt.alloc (.cells #[.string ⟨#[]⟩, .slice none 0 0, .slice none 0 0, .int .i64 0, .int .i64 0, .int .i64 0, .slice none 0 0, .slice none 0 0, .slice none 0 0, .slice none 0 0, .int .i64 0, .int .i64 0, .int .i64 0, .int .i64 0, .int .i64 0, .int .i64 0, .int .i64 0, .int .i64 0, .int .i64 0] 34)).setRow wt.heap.size (detCells x.mem x.rule s) := ⟨_, rfl⟩
    rw [← hwy] at KY HWy KGy ⊢
    have Hgt := hide KG.out.lt
    have Hwt := hide HW.out.size
    generalize wt.heap.size = gd at *
    clear hwy KZ Hone K0 KG HW
    have y7 := KY.out.cell 7
    have y8 := (KY.out.set_ 7 (.slice none 0 0)).cell 8
    have v7 := KY.out.frozen 7
    have v8 := (KY.out.set_ 7 (.slice none 0 0)).frozen 8
    simp at y7 y8
    have KV := (KY.out.set_ 7 (.slice none 0 0)).set_ 8 (.slice none 0 0)
    simp only [detCells, List.setIfInBounds_toArray, List.set_cons_zero, List.set_cons_succ] at KV
    have KV := hide KV
    have KGv := hide ((KGy.out.far (p := ⟨gd, 7, none⟩) (Nat.ne_of_lt Hgt.out) (.slice none 0 0)).far (p := ⟨gd, 8, none⟩) (Nat.ne_of_lt Hgt.out) (.slice none 0 0))
    have HWv := hide ((HWy.out.setCell (p := ⟨gd, 7, none⟩) Hwt.out (.slice none 0 0)).setCell (p := ⟨gd, 8, none⟩) Hwt.out (.slice none 0 0))
    go_upto_region 23 with fail
    go_wp2_with (refine wpList_load_row rfl 34 (.tmp 21) rfl gd rfl 34 _ (0, 0) _ KV.out Tryz.underlying34 rfl Hi.out ?_)
    refine (HDB.out _ HWv.out).mono ?_
    rintro e w9 ⟨rfl, hb⟩
    replace KGv := hide (KGv.out.keep hb)
    replace HWv := hide (below_step HWv.out hb (Nat.le_refl _))
    clear hb HDB KV KY HWy KGy y7 y8 v7 v8
    have g0 := KGv.out.cell 0
    simp at g0
    go_wp2_with fail
    refine (Tryz.strings_Repeat ⟨#[46]⟩ C w9 (by omega) (by show 1 * C ≤ _; omega)).mono ?_
    rintro e w10 ⟨rfl, hb⟩
    replace HWv := hide (below_step HWv.out hb (Nat.le_refl _))
    clear hb g0 KGv
    have hRl : (Lib.repeatL [46] C).length = C := by rw [repeat_point]; simp
    have q1 : decide (9223372036854775807 < C + 1) = false := by simp; omega
    have q2 : ¬ 9223372036854775807 < C + 1 := by omega
    go_wp2_with fail
    have hd : (({ data := (Lib.repeatL [46] C).toArray } : ByteArray) ++ { data := #[10] }).data.toList = Lib.repeatL [46] C ++ [10] := by simp
    have hs9 : (({ data := (Lib.repeatL [46] C).toArray } : ByteArray) ++ { data := #[10] }).size = C + 1 := by
      rw [ByteArray.size_append]
      show (Lib.repeatL [46] C).toArray.size + 1 = C + 1
      rw [List.size_toArray, hRl]
    have HR2 := Tryz.strings_Repeat (({ data := (Lib.repeatL [46] C).toArray } : ByteArray) ++ { data := #[10] }) R w10 (by omega) (by rw [hs9, Nat.add_mul, Nat.mul_comm C R]; omega)
    rw [hd] at HR2
    refine HR2.mono ?_
    rintro e w11 ⟨rfl, hb⟩
    replace HWv := hide (below_step HWv.out hb (Nat.le_refl _))
    clear hb HR2 hd hs9 q1 q2 hRl
    generalize (⟨(Lib.repeatL (Lib.repeatL [46] C ++ [10]) R).toArray⟩ : ByteArray) = T at *
    go_wp2_with fail
    go_ret
    exact ⟨rfl, HWv.out⟩
end Go.Proofs.YtpmipoljnchheaaGreatDoor
