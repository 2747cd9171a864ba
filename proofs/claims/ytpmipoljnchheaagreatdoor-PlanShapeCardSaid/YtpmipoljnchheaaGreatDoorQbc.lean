/- The size of a plan, and the marks in a cell. The marks in a cell. The drawing of a plan. Plain: a text of ended lines, split again. No walk stands here. Plain: the lines of a drawing, split again. No walk stands here. slices.IndexFunc, ContainsFunc over strings. The legend of a plan. The chapter's example, and that it holds. The plan where it gives an error. -/
import Derived.Test.YtpmipoljnchheaaGreatDoorQbb
import Derived.Test.YtpmipoljnchheaaGreatDoorQaa
import Derived.Lib.Split
import Derived.Test.YtpmipoljnchheaaGreatDoorQae
import Derived.StillTailTactics
namespace Go.Proofs.YtpmipoljnchheaaGreatDoor
open Go.RowKit

def encSt (s : ByteArray) : List Value := [.string s]
theorem encSt_len (s : ByteArray) : (encSt s).length = 1 := rfl
theorem encSt_one (s : ByteArray) : ∀ u ∈ encSt s, u.oneCell' = true := by
  intro u hu
  simp [encSt] at hu
  subst hu
  rfl
abbrev StrsAt (w : World) (B : Nat) (A : Option Addr) (l : List ByteArray) : Prop := SlOf w B 1 (Flat encSt) A l
theorem StrsAt.get {w : World} {B : Nat} {A : Option Addr} {l : List ByteArray} (h : StrsAt w B A l) {k : Nat} (hk : k < l.length) :
    ∃ b off x, A = some ⟨b, off, none⟩ ∧ b < B ∧ l[k]? = some x ∧ w.cell? ⟨b, off + k, none⟩ = some (.string x) := by
  obtain ⟨b, off, x, vs, hA, hb, hx, _, hr, hc⟩ := h.at_ hk
  have := hc 0 (.string x) (by rw [show vs = encSt x from hr]; rfl)
  simp at this
  exact ⟨b, off, x, hA, hb, hx, this⟩
def barMark (bars : List BarD) (k : Int) : ByteArray := match bars[k.toNat]? with
  | some x => x.mark
  | none => ByteArray.empty
def seenAt (x : DetD) (s row col : Int) : List Int := seenOf x.bars.length (gridOf x s) (rodsOf x.bars x.runs) row col
def marksAt (x : DetD) (s row col : Int) : List ByteArray := (seenAt x s row col).map (barMark x.bars)
theorem plan_detOk {x : DetD} {s : Int} (h : planErr x s = 0) : detOk x = true ∧ (1 ≤ s ∧ s ≤ 1048576) ∧ (gridOf x s).rows * (gridOf x s).cols ≤ 20000 := by
  unfold planErr at h
  split at h
  · cases h
  rename_i h1
  split at h
  · cases h
  rename_i h2
  split at h
  · cases h
  rename_i h3
  refine ⟨by simpa using h1, by omega, by omega⟩
theorem ediv_mul_range {n s : Int} (h0 : 0 ≤ n) (h1 : n ≤ 4194304) (hs : 1 ≤ s ∧ s ≤ 1048576) {k : Int} (hk : 0 ≤ k) (hk1 : k < upQ n s) : 0 ≤ k * s ∧ k * s ≤ 8388608 := by
  have a := Int.mul_nonneg hk (show 0 ≤ s by omega)
  have b := Int.ediv_mul_le (n + s - 1) (show s ≠ 0 by omega)
  have c := Int.mul_le_mul_of_nonneg_right (show k ≤ upQ n s by omega) (show 0 ≤ s by omega)
  unfold upQ at c
  omega
theorem thick_lt {b : BoxD} (h : thickOk b = true) : b.lo.1 < b.hi.1 ∧ b.lo.2.1 < b.hi.2.1 := by
  simp only [thickOk, Bool.and_eq_true, decide_eq_true_eq] at h
  omega
theorem hullOn_lt : ∀ (l : List BoxD) (a : BoxD), a.lo.1 < a.hi.1 ∧ a.lo.2.1 < a.hi.2.1 → (hullOn a l).lo.1 < (hullOn a l).hi.1 ∧ (hullOn a l).lo.2.1 < (hullOn a l).hi.2.1 := by
  intro l
  induction l with
  | nil => intro a h; exact h
  | cons b l ih =>
    intro a h
    refine ih _ ?_
    simp only [minP, maxP]
    omega
theorem upQ_pos {n s : Int} (h0 : 1 ≤ n) (hs : 1 ≤ s) : 1 ≤ upQ n s := by
  unfold upQ
  exact (Int.le_ediv_iff_mul_le (by omega)).2 (by omega)
structure PlanFacts (x : DetD) (s : Int) : Prop where
  det : detOk x = true
  laid : laidOk x.bars x.runs = true
  sc : 1 ≤ s ∧ s ≤ 1048576
  lo : nearBy 1048576 (gridOf x s).lo = true
  rows : 1 ≤ (gridOf x s).rows ∧ (gridOf x s).rows ≤ 20000
  cols : 1 ≤ (gridOf x s).cols ∧ (gridOf x s).cols ≤ 20000
  row : ∀ k, 0 ≤ k → k < (gridOf x s).rows → 0 ≤ k * s ∧ k * s ≤ 8388608
  col : ∀ k, 0 ≤ k → k < (gridOf x s).cols → 0 ≤ k * s ∧ k * s ≤ 8388608
theorem plan_facts {x : DetD} {s : Int} (h : planErr x s = 0) : PlanFacts x s := by
  obtain ⟨h1, h2, h3⟩ := plan_detOk h
  have hh := boxOk_iff.1 (detOk_hull h1)
  have hb := solid_boxes (detOk_parts h1).2.2
  have hlt : (hullOf x.mem.boxes).lo.1 < (hullOf x.mem.boxes).hi.1 ∧ (hullOf x.mem.boxes).lo.2.1 < (hullOf x.mem.boxes).hi.2.1 := by
    have hso := (detOk_parts h1).2.2
    simp only [solidOk, Bool.and_eq_true] at hso
    have hth := hso.1.2
    cases hbx : x.mem.boxes with
    | nil => rw [hbx] at hb; simp at hb
    | cons b l =>
      rw [hbx, List.all_cons, Bool.and_eq_true] at hth
      exact hullOn_lt _ _ (thick_lt hth.1)
  have hr1 : 1 ≤ (gridOf x s).rows := upQ_pos (by omega) h2.1
  have hc1 : 1 ≤ (gridOf x s).cols := upQ_pos (by omega) h2.1
  have hr2 := Int.mul_le_mul_of_nonneg_left hc1 (show 0 ≤ (gridOf x s).rows by omega)
  have hc2 := Int.mul_le_mul_of_nonneg_right hr1 (show 0 ≤ (gridOf x s).cols by omega)
  rw [Int.mul_one] at hr2
  rw [Int.one_mul] at hc2
  refine ⟨h1, (detOk_parts h1).2.1, h2, ?_, by omega, by omega, fun k k0 k1 => ediv_mul_range (by omega) (by omega) h2 k0 k1, fun k k0 k1 => ediv_mul_range (by omega) (by omega) h2 k0 k1⟩
  rw [nearBy_iff]
  simp only [gridOf]
  omega
theorem rods_lines {bars : List BarD} {runs : List RunD} (hok : laidOk bars runs = true) : ∀ r ∈ rodsOf bars runs, 0 ≤ r.line ∧ r.line < (bars.length : Nat) := by
  intro r hr
  simp only [rodsOf, List.mem_flatMap] at hr
  obtain ⟨l, hl, hr⟩ := hr
  simp only [rodsOfBar, List.mem_map] at hr
  obtain ⟨b, _, rfl⟩ := hr
  simp only
  have hbar : l.bar ∈ bars := by
    simp only [laidAll, List.mem_flatMap] at hl
    obtain ⟨u, hu, hl⟩ := hl
    obtain ⟨j, y, hj, hy, hyb, _⟩ := runOk_bar ((laidOk_mem hok).2.2 u hu)
    rw [laidRun_of hyb] at hl
    simp only [laidTo, List.mem_map] at hl
    obtain ⟨q, _, rfl⟩ := hl
    exact mem_of_get hy
  have h1 := idx_any (markIs l.bar.mark) bars
  have h2 : bars.any (markIs l.bar.mark) = true := List.any_eq_true.2 ⟨_, hbar, by simp [markIs]⟩
  rw [h2, decide_eq_true_eq] at h1
  exact ⟨h1, (idx_range _ _).2⟩
theorem rodsOf_len {bars : List BarD} {runs : List RunD} (hok : laidOk bars runs = true) : (rodsOf bars runs).length ≤ 12000 := by
  have h1 := (laidOk_len hok).2
  refine Nat.le_trans (rods_len _ (fun y hy => ?_)) (by omega : 6 * (laidAll bars runs).length ≤ 12000)
  obtain ⟨j, hj, rfl⟩ := List.getElem_of_mem hy
  exact (laid_near runs j _ (laidOk_mem hok).2.2 (List.getElem?_eq_getElem hj)).2.2
set_option maxHeartbeats 4000000 in
set_option maxRecDepth 100000 in
theorem planSize_any (x : DetD) (s : DetS) (sc : Int) (w : World) {B : Nat} (h : DetAt w B x s) (hB : B ≤ w.heap.size) (hf : DetFit x s) :
    Calls Tryz.prog 8 #[detV x s, .int .i64 sc] w fun e w' => e = .returned (.tuple #[.int .i64 (planGrid x sc).rows, .int .i64 (planGrid x sc).cols, .int .i64 (planErr x sc)]) ∧ Below w.heap.size w w' := by
  have HM := hide (fun (W : World) (hz : Below w.heap.size w W) => made_any x s sc W (h.carry (hz.mono hB) (Nat.le_refl _)) (Nat.le_trans hB hz.size) hf)
  have Hi := hide (show (Tryz.prog.info? 34).map (·.size) = some 19 by kernel_rfl)
  have K0 := hide (Blk.new w 34 (detCells x.mem x.rule s))
  have HW := hide (below_new w (.cells (detCells x.mem x.rule s) 34))
  generalize planGrid x sc = g at *
  generalize planErr x sc = er at *
  obtain ⟨⟨g1, g2, g3⟩, g4, g5, g6⟩ := g
  obtain ⟨mem, bars, runs, laps, dems, rule⟩ := x
  obtain ⟨a1, n1, c1, a2, n2, c2, a3, n3, c3, a4, n4, c4, a5, n5, c5, a6, n6, c6⟩ := s
  obtain ⟨name, boxes, holes, cover, agg, poker⟩ := mem
  obtain ⟨r1, r2, r3, r4, r5, r6, r7, r8, r9⟩ := rule
  simp only [detCells] at K0 HW
  clear h hf
  show Calls Tryz.prog 8 #[.agg #[.string name, .slice a1 n1 c1, .slice a2 n2 c2, .int .i64 cover, .int .i64 agg, .int .i64 poker, .slice a3 n3 c3, .slice a4 n4 c4, .slice a5 n5 c5, .slice a6 n6 c6, .int .i64 r1, .int .i64 r2, .int .i64 r3, .int .i64 r4, .int .i64 r5, .int .i64 r6, .int .i64 r7, .int .i64 r8, .int .i64 r9], .int .i64 sc] w _
  go_enter Tryz.func8, Tryz.ntmps8
  go_wp2_with (refine wpList_load_row rfl 34 (.tmp 2) rfl w.heap.size rfl 34 _ (0, 0) _ K0.out Tryz.underlying34 rfl Hi.out ?_)
  refine (HM.out _ HW.out).mono ?_
  rintro e w2 ⟨rfl, hb2⟩
  have HW2 := hide (below_step HW.out hb2 (Nat.le_refl _))
  clear hb2 HM K0 HW Hi
  go_wp2_with fail
  go_quiet (fail)
  go_wp2_with fail
  go_ret3
  exact ⟨rfl, below_drewN' (HW2.out.alloc HW2.out.size _) _⟩
end Go.Proofs.YtpmipoljnchheaaGreatDoor
namespace Go.Proofs.YtpmipoljnchheaaGreatDoor
open Go.RowKit

theorem seenAt_mem {x : DetD} {s row col k : Int} (h : k ∈ seenAt x s row col) : 0 ≤ k ∧ k < (x.bars.length : Nat) := (mem_seenOf.1 h).1
theorem seenAt_len (x : DetD) (s row col : Int) : (seenAt x s row col).length ≤ x.bars.length := by
  unfold seenAt seenOf
  refine Nat.le_trans (List.length_filter_le _ _) ?_
  rw [List.length_map, List.length_range]
  exact Nat.le_refl _
set_option maxHeartbeats 4000000 in
set_option maxRecDepth 100000 in
theorem planAt_ok (x : DetD) (s : DetS) (sc row col : Int) (w : World) {B : Nat} (h : DetAt w B x s) (hB : B ≤ w.heap.size) (hf : DetFit x s) (he : planErr x sc = 0) (hr : 0 ≤ row ∧ row < (gridOf x sc).rows) (hc : 0 ≤ col ∧ col < (gridOf x sc).cols) :
    Calls Tryz.prog 12 #[detV x s, .int .i64 sc, .int .i64 row, .int .i64 col] w fun e w' => ∃ A c, e = .returned (.tuple #[.slice A (marksAt x sc row col).length c, .int .i64 0]) ∧ StrsAt w' w'.heap.size A (marksAt x sc row col) ∧ Below w.heap.size w w' := by
  have hpf := plan_facts he
  have hM := fun (W : World) (hz : Below w.heap.size w W) => made_any x s sc W (h.carry (hz.mono hB) (Nat.le_refl _)) (Nat.le_trans hB hz.size) hf
  rw [plan_ok he, he] at hM
  have HM := hide hM
  have HR := hide (fun (W : World) (hz : Below w.heap.size w W) => rods_ok x s W (h.carry (hz.mono hB) (Nat.le_refl _)) (Nat.le_trans hB hz.size) hf hpf.laid)
  have hrl : (rodsOf x.bars x.runs).length ≤ 20000 := by have := rodsOf_len hpf.laid; omega
  have hrow := hpf.row row hr.1 hr.2
  have hcol := hpf.col col hc.1 hc.2
  have HS := hide (fun (W : World) (A : Option Addr) (c : Nat) (hA : RodsAt W W.heap.size A (rodsOf x.bars x.runs)) => seen_ok x.bars.length (gridOf x sc) A (rodsOf x.bars x.runs) (rodsOf x.bars x.runs).length c row col W hA (Nat.le_refl _) rfl hrl hpf.lo ⟨show 0 ≤ sc by have := hpf.sc; omega, hpf.sc.2⟩ (show 0 ≤ row * sc ∧ row * sc ≤ 1099511627776 by omega) (show 0 ≤ col * sc ∧ col * sc ≤ 1099511627776 by omega) (rods_lines hpf.laid))
  have Hi := hide (show (Tryz.prog.info? 34).map (·.size) = some 19 by kernel_rfl)
  have K0 := hide (Blk.new w 34 (detCells x.mem x.rule s))
  have HW := hide (below_new w (.cells (detCells x.mem x.rule s) 34))
  have H3 := hide h.h3
  have L3 := hide hf.l3
  have m3 := hf.m3
  have Hsm := hide (fun (k : Int) (hk : k ∈ seenAt x sc row col) => seenAt_mem hk)
  have Hsl := hide (seenAt_len x sc row col)
  have Hms := hide (show marksAt x sc row col = (seenAt x sc row col).map (barMark x.bars) from rfl)
  obtain ⟨hr0, hr1⟩ := hr
  obtain ⟨hc0, hc1⟩ := hc
  obtain ⟨SE, hSE⟩ : ∃ SE, SE = seenAt x sc row col := ⟨_, rfl⟩
  obtain ⟨MS, hMS⟩ : ∃ MS, MS = marksAt x sc row col := ⟨_, rfl⟩
  have HSb := hide (fun (W : World) (A : Option Addr) (c : Nat) (hA : RodsAt W W.heap.size A (rodsOf x.bars x.runs)) => (show Calls Tryz.prog 23 #[.agg (gridCells (gridOf x sc)), .slice A (rodsOf x.bars x.runs).length c, .int .i64 row, .int .i64 col] W fun e w' => ∃ A' c', e = .returned (.slice A' SE.length c') ∧ Ints w' w'.heap.size A' SE ∧ Below W.heap.size W w' by rw [hSE]; exact HS.out W A c hA))
  rw [← hSE] at Hsm Hsl Hms
  rw [← hMS] at Hms ⊢
  generalize rodsOf x.bars x.runs = RO at *
  generalize gridOf x sc = g at *
  obtain ⟨⟨g1, g2, g3⟩, g4, g5, g6⟩ := g
  simp only at hr1 hc1 HSb
  have d1 : decide (row < 0) = false := by simp; omega
  have d2 : decide (g5 ≤ row) = false := by simp; omega
  have d3 : decide (col < 0) = false := by simp; omega
  have d4 : decide (g6 ≤ col) = false := by simp; omega
  obtain ⟨mem, bars, runs, laps, dems, rule⟩ := x
  obtain ⟨a1, n1, c1, a2, n2, c2, a3, n3, c3, a4, n4, c4, a5, n5, c5, a6, n6, c6⟩ := s
  obtain ⟨name, boxes, holes, cover, agg, poker⟩ := mem
  obtain ⟨r1, r2, r3, r4, r5, r6, r7, r8, r9⟩ := rule
  simp only [detCells] at K0 HW
  simp only at H3 L3 m3 Hsm Hsl Hms
  clear h hf he hM hpf hrl hrow hcol HS hSE hMS hr0 hr1 hc0 hc1
  show Calls Tryz.prog 12 #[.agg #[.string name, .slice a1 n1 c1, .slice a2 n2 c2, .int .i64 cover, .int .i64 agg, .int .i64 poker, .slice a3 n3 c3, .slice a4 n4 c4, .slice a5 n5 c5, .slice a6 n6 c6, .int .i64 r1, .int .i64 r2, .int .i64 r3, .int .i64 r4, .int .i64 r5, .int .i64 r6, .int .i64 r7, .int .i64 r8, .int .i64 r9], .int .i64 sc, .int .i64 row, .int .i64 col] w _
  go_enter Tryz.func12, Tryz.ntmps12
  go_wp2_with (refine wpList_load_row rfl 34 (.tmp 4) rfl w.heap.size rfl 34 _ (0, 0) _ K0.out Tryz.underlying34 rfl Hi.out ?_)
  refine (HM.out _ HW.out).mono ?_
  rintro e w2 ⟨rfl, hb2⟩
  have K0 := hide (K0.out.keep hb2)
  have HW2 := hide (below_step HW.out hb2 (Nat.le_refl _))
  have KG := hide (Blk.new w2 65 #[.int .i64 g1, .int .i64 g2, .int .i64 g3, .int .i64 g4, .int .i64 g5, .int .i64 g6])
  have K1 := hide (K0.out.alloc (.cells #[.int .i64 g1, .int .i64 g2, .int .i64 g3, .int .i64 g4, .int .i64 g5, .int .i64 g6] 65))
  have HW3 := hide (HW2.out.alloc HW2.out.size (.cells #[.int .i64 g1, .int .i64 g2, .int .i64 g3, .int .i64 g4, .int .i64 g5, .int .i64 g6] 65))
  clear hb2 HM K0 HW
  go_wp2_with (refine wpList_load_row rfl 34 (.tmp 4) rfl w.heap.size rfl 34 _ (0, 0) _ K1.out Tryz.underlying34 rfl Hi.out ?_)
  refine (HR.out _ HW3.out).mono ?_
  rintro e w4 ⟨A4, c4', rfl, hro, hb4⟩
  have K1 := hide (K1.out.keep hb4)
  have KG := hide (KG.out.keep hb4)
  have HW4 := hide (below_step HW3.out hb4 (Nat.le_refl _))
  have HSs := hide (HSb.out w4 A4 c4' hro)
  have k0 := KG.out.cell 0
  have k1 := KG.out.cell 1
  have k2 := KG.out.cell 2
  have k3 := KG.out.cell 3
  have k4 := KG.out.cell 4
  have k5 := KG.out.cell 5
  simp at k0 k1 k2 k3 k4 k5
  have lg := KG.out.lt
  clear hb4 hro HR HW2 HW3 HSb Hi
  go_wp2_with fail
  refine HSs.out.mono ?_
  rintro e w5 ⟨A5, c5', rfl, hse, hb5⟩
  have K1 := hide (K1.out.keep hb5)
  have HW5 := hide (below_step HW4.out hb5 (Nat.le_refl _))
  have Hse := hide hse
  clear hb5 hse HSs KG k0 k1 k2 k3 k4 k5 lg HW4
  have hsl6 : SE.length ≤ 60000 := by
    have := Hsl.out
    have := L3.out
    omega
  go_wp2_with fail
  go_loopw [13, 59] (fun v iv wr => ∃ k : Nat, k ≤ SE.length ∧ iv = .int .i64 k ∧ (∃ acc : List ByteArray, Row wr w5.heap.size 9 1 encSt v acc ∧ Hid (acc = (SE.take k).map (barMark bars))) ∧ Below w5.heap.size w5 wr) (fun _ iv _ => SE.length - (intOf iv).toNat)
  case atStart => exact ⟨0, Nat.zero_le _, rfl, ⟨[], Row.nil _ _ _ _ _, hide rfl⟩, Below.refl _ _⟩
  case round =>
    obtain ⟨k, hk, rfl, ⟨acc, hrow, hacc⟩, hbr⟩ := hrel
    obtain ⟨A0, c0, rfl⟩ := hrow.val
    have hal : acc.length ≤ 1000000 := by
      have h9 := Hsl.out
      have h8 := L3.out
      rw [hacc.out, List.length_map, List.length_take]
      omega
    have Hrow := hide hrow
    by_cases hlt : k < SE.length
    · obtain ⟨b, off, q, rfl, hbl, hx, e0⟩ := Ints.get (k := k) (Hse.out.carry hbr hbr.size) hlt
      have hq := Hsm.out q (mem_of_get hx)
      obtain ⟨q0, hq1⟩ := hq
      obtain ⟨j, rfl⟩ := Int.eq_ofNat_of_zero_le q0
      have HWr := hide (below_step HW5.out hbr (Nat.le_refl _))
      obtain ⟨b3, off3, y, A', c', rfl, hbl3, hy, _, f0, f1, f2, f3, f4⟩ := BarsAt.get (k := j) (H3.out.carry (HWr.out.mono hB) (Nat.le_refl _)) (by omega)
      have Hn := hide (show (SE.take (k + 1)).map (barMark bars) = acc ++ [y.mark] by
        rw [take_snoc' hx, List.map_append, hacc.out, List.map_singleton]
        simp [barMark, hy])
      have hbw : b3 < wr.heap.size := by have := HWr.out.size; omega
      have kk := K1.out.below hbr K1.out.lt
      have e6 := kk.cell 6
      simp at e6
      have lk := kk.lt
      have hjn : j < n3 := by have := L3.out; omega
      have hs5 := hbr.size
      have Hbr := hide hbr
      have i0 : (0 : Int) ≤ (j : Int) := by omega
      clear hx hbl hbl3 hy q0 hq1 kk hrow hbr f1 f2 f3 f4
      go_wp2_with (at_builtin; refine wpList_append1 rfl (.tmp 63) (.tmp 70) 44 rfl w5.heap.size 9 (.string .empty) 1 16 encSt Tryz.underlying44 (by kernel_rfl) rfl (by omega) encSt_len encSt_one _ acc y.mark rfl (Hrow.out.alloc _) _ rfl (Blk.new wr _ _) hal (by omega) (le_alloc hs5 _) ?_; intro A9 c9 w9 hrow9 hb9 hkeep9)
      go_roundw
      case rel => exact ⟨k + 1, by omega, by go_num, ⟨acc ++ [y.mark], by simpa using hrow9, hide Hn.out.symm⟩, (Hbr.out.alloc hs5 _).trans hb9⟩
      case measure => simp [intOf]; omega
    · obtain rfl : k = SE.length := by omega
      have hf : acc = MS := by rw [hacc.out, List.take_length, Hms.out]
      have hlen := hide (show MS.length = acc.length by rw [hf])
      have Hr := hide (show StrsAt wr wr.heap.size A0 MS by rw [← hf]; exact Row.read Hrow.out encSt_len (by omega))
      have Hb := hide (below_step HW5.out hbr (Nat.le_refl _))
      clear hf hacc hrow Hrow hbr
      generalize acc.length = m at *
      go_wp2_with fail
      go_ret2
      exact ⟨A0, c0, by rw [hlen.out]; rfl, Hr.out, Hb.out⟩
end Go.Proofs.YtpmipoljnchheaaGreatDoor
namespace Go.Proofs.YtpmipoljnchheaaGreatDoor
open Go.RowKit

def letterOf (k : Int) : UInt8 := UInt8.ofNat (97 + (k % 26).toNat)
theorem letterOf_nat (k : Int) : ((letterOf k).toNat : Int) = 97 + k % 26 := by
  have h0 := Int.emod_nonneg k (show (26 : Int) ≠ 0 by decide)
  have h1 := Int.emod_lt_of_pos k (show (0 : Int) < 26 by decide)
  unfold letterOf
  rw [UInt8.toNat_ofNat']
  omega
set_option maxHeartbeats 400000 in
theorem planLetter_any (k : Int) (w : World) (hk : 0 ≤ k ∧ k ≤ 1000000) : Calls Tryz.prog 25 #[.int .i64 k] w fun e w' => e = .returned (.int .u8 ((letterOf k).toNat : Int)) ∧ w' = w := by
  have h0 := Int.emod_nonneg k (show (26 : Int) ≠ 0 by decide)
  have h1 := Int.emod_lt_of_pos k (show (0 : Int) < 26 by decide)
  have Hl := hide (letterOf_nat k)
  go_enter Tryz.func25, Tryz.ntmps25
  go_wp2_with fail
  go_ret
  refine ⟨?_, rfl⟩
  rw [Hl.out]
  congr 2
def cellByte : List Int → UInt8
  | [] => 46
  | [k] => letterOf k
  | _ => 43
def drawRow (f : Int → Int → List Int) (r c : Nat) : List UInt8 := (List.range c).map fun (k : Nat) => cellByte (f r k)
def drawTo (f : Int → Int → List Int) (C r : Nat) : List UInt8 := (List.range r).flatMap fun (q : Nat) => drawRow f q C ++ [10]
def drawText (x : DetD) (s : Int) : List UInt8 := drawTo (seenAt x s) (gridOf x s).cols.toNat (gridOf x s).rows.toNat
theorem drawRow_succ (f : Int → Int → List Int) (r c : Nat) : drawRow f r (c + 1) = drawRow f r c ++ [cellByte (f r c)] := by simp [drawRow, List.range_succ]
theorem drawRow_len (f : Int → Int → List Int) (r c : Nat) : (drawRow f r c).length = c := by simp [drawRow]
theorem drawTo_succ (f : Int → Int → List Int) (C r : Nat) : drawTo f C (r + 1) = drawTo f C r ++ (drawRow f r C ++ [10]) := by simp [drawTo, List.range_succ]
theorem drawTo_len (f : Int → Int → List Int) (C r : Nat) : (drawTo f C r).length = r * (C + 1) := by
  induction r with
  | zero => simp [drawTo]
  | succ r ih => rw [drawTo_succ, List.length_append, ih, List.length_append, drawRow_len, List.length_singleton, Nat.add_mul]; omega
def drawOut (x : DetD) (s : Int) : ByteArray := if planErr x s = 0 then ⟨(drawText x s).toArray⟩ else ByteArray.empty
set_option maxHeartbeats 4000000 in
set_option maxRecDepth 100000 in
theorem planDraw_ok (x : DetD) (s : DetS) (sc : Int) (w : World) {B : Nat} (h : DetAt w B x s) (hB : B ≤ w.heap.size) (hf : DetFit x s) (he : planErr x sc = 0) :
    Calls Tryz.prog 7 #[detV x s, .int .i64 sc] w fun e w' => e = .returned (.tuple #[.string ⟨(drawText x sc).toArray⟩, .int .i64 0]) ∧ Below w.heap.size w w' := by
  have hpf := plan_facts he
  have hM := fun (W : World) (hz : Below w.heap.size w W) => made_any x s sc W (h.carry (hz.mono hB) (Nat.le_refl _)) (Nat.le_trans hB hz.size) hf
  rw [plan_ok he, he] at hM
  have HM := hide hM
  have HR := hide (fun (W : World) (hz : Below w.heap.size w W) => rods_ok x s W (h.carry (hz.mono hB) (Nat.le_refl _)) (Nat.le_trans hB hz.size) hf hpf.laid)
  have hrl : (rodsOf x.bars x.runs).length ≤ 20000 := by have := rodsOf_len hpf.laid; omega
  obtain ⟨SE, hSE⟩ : ∃ SE : Int → Int → List Int, SE = seenAt x sc := ⟨_, rfl⟩
  have HSb := hide (fun (W : World) (A : Option Addr) (c : Nat) (row col : Int) (hr : 0 ≤ row ∧ row < (gridOf x sc).rows) (hc : 0 ≤ col ∧ col < (gridOf x sc).cols) (hA : RodsAt W W.heap.size A (rodsOf x.bars x.runs)) =>
    (show Calls Tryz.prog 23 #[.agg (gridCells (gridOf x sc)), .slice A (rodsOf x.bars x.runs).length c, .int .i64 row, .int .i64 col] W fun e w' => ∃ A' c', e = .returned (.slice A' (SE row col).length c') ∧ Ints w' w'.heap.size A' (SE row col) ∧ Below W.heap.size W w' by
      rw [hSE]
      have hrow := hpf.row row hr.1 hr.2
      have hcol := hpf.col col hc.1 hc.2
      exact seen_ok x.bars.length (gridOf x sc) A (rodsOf x.bars x.runs) (rodsOf x.bars x.runs).length c row col W hA (Nat.le_refl _) rfl hrl hpf.lo ⟨show 0 ≤ sc by have := hpf.sc; omega, hpf.sc.2⟩ (show 0 ≤ row * sc ∧ row * sc ≤ 1099511627776 by omega) (show 0 ≤ col * sc ∧ col * sc ≤ 1099511627776 by omega) (rods_lines hpf.laid)))
  have Hi := hide (show (Tryz.prog.info? 34).map (·.size) = some 19 by kernel_rfl)
  have K0 := hide (Blk.new w 34 (detCells x.mem x.rule s))
  have HW := hide (below_new w (.cells (detCells x.mem x.rule s) 34))
  have Hsm := hide (fun (row col k : Int) (hk : k ∈ SE row col) => show 0 ≤ k ∧ k ≤ 1000000 by
    rw [hSE] at hk
    have h1 := seenAt_mem hk
    have h2 := hf.l3
    have h3 := hf.m3
    omega)
  obtain ⟨R, hR⟩ : ∃ R : Nat, (gridOf x sc).rows = (R : Int) := Int.eq_ofNat_of_zero_le (by have := hpf.rows; omega)
  obtain ⟨C, hC⟩ : ∃ C : Nat, (gridOf x sc).cols = (C : Int) := Int.eq_ofNat_of_zero_le (by have := hpf.cols; omega)
  have hR2 : R ≤ 20000 := by have := hpf.rows; omega
  have hC2 : C ≤ 20000 := by have := hpf.cols; omega
  have hRC : R * C ≤ 20000 := by
    have h9 := (plan_detOk he).2.2
    rw [hR, hC] at h9
    exact_mod_cast h9
  have hlen : ∀ r, r ≤ R → r * (C + 1) ≤ 40000 := by
    intro r hr
    have h8 := Nat.mul_le_mul_right C hr
    rw [Nat.mul_add]
    omega
  obtain ⟨DT, hDT⟩ : ∃ DT : Nat → List UInt8, DT = drawTo SE C := ⟨_, rfl⟩
  obtain ⟨DR, hDR⟩ : ∃ DR : Nat → Nat → List UInt8, DR = drawRow SE := ⟨_, rfl⟩
  have Htext := hide (show drawText x sc = DT R by rw [hDT, drawText, ← hSE, hR, hC]; rfl)
  have HD0 := hide (show DT 0 = [] by rw [hDT]; rfl)
  have HDn := hide (fun (r : Nat) => show DT (r + 1) = DT r ++ (DR r C ++ [10]) by rw [hDT, hDR]; exact drawTo_succ SE C r)
  have HDs := hide (fun (r c : Nat) => show DR r (c + 1) = DR r c ++ [cellByte (SE r c)] by rw [hDR]; exact drawRow_succ SE r c)
  have HR0 := hide (fun (r : Nat) => show DR r 0 = [] by rw [hDR]; rfl)
  have HDl := hide (fun (r c : Nat) (hr : r ≤ R) (hc : c ≤ C) => show (DT r ++ DR r c).length ≤ 100000 by
    rw [hDT, hDR, List.length_append, drawTo_len, drawRow_len]
    have := hlen r hr
    omega)
  generalize drawText x sc = TX at *
  generalize rodsOf x.bars x.runs = RO at *
  generalize gridOf x sc = g at *
  obtain ⟨⟨g1, g2, g3⟩, g4, g5, g6⟩ := g
  simp only at hR hC
  subst hR
  subst hC
  obtain ⟨mem, bars, runs, laps, dems, rule⟩ := x
  obtain ⟨a1, n1, c1, a2, n2, c2, a3, n3, c3, a4, n4, c4, a5, n5, c5, a6, n6, c6⟩ := s
  obtain ⟨name, boxes, holes, cover, agg, poker⟩ := mem
  obtain ⟨r1, r2, r3, r4, r5, r6, r7, r8, r9⟩ := rule
  simp only [detCells] at K0 HW
  simp only at HSb
  clear h hf he hM hpf hrl hSE hlen hRC hDT hDR
  show Calls Tryz.prog 7 #[.agg #[.string name, .slice a1 n1 c1, .slice a2 n2 c2, .int .i64 cover, .int .i64 agg, .int .i64 poker, .slice a3 n3 c3, .slice a4 n4 c4, .slice a5 n5 c5, .slice a6 n6 c6, .int .i64 r1, .int .i64 r2, .int .i64 r3, .int .i64 r4, .int .i64 r5, .int .i64 r6, .int .i64 r7, .int .i64 r8, .int .i64 r9], .int .i64 sc] w _
  go_enter Tryz.func7, Tryz.ntmps7
  go_wp2_with (refine wpList_load_row rfl 34 (.tmp 2) rfl w.heap.size rfl 34 _ (0, 0) _ K0.out Tryz.underlying34 rfl Hi.out ?_)
  refine (HM.out _ HW.out).mono ?_
  rintro e w2 ⟨rfl, hb2⟩
  have K0 := hide (K0.out.keep hb2)
  have HW2 := hide (below_step HW.out hb2 (Nat.le_refl _))
  have KG := hide (Blk.new w2 65 #[.int .i64 g1, .int .i64 g2, .int .i64 g3, .int .i64 g4, .int .i64 R, .int .i64 C])
  have K1 := hide (K0.out.alloc (.cells #[.int .i64 g1, .int .i64 g2, .int .i64 g3, .int .i64 g4, .int .i64 R, .int .i64 C] 65))
  have HW3 := hide (HW2.out.alloc HW2.out.size (.cells #[.int .i64 g1, .int .i64 g2, .int .i64 g3, .int .i64 g4, .int .i64 R, .int .i64 C] 65))
  clear hb2 HM K0 HW
  go_wp2_with (refine wpList_load_row rfl 34 (.tmp 2) rfl w.heap.size rfl 34 _ (0, 0) _ K1.out Tryz.underlying34 rfl Hi.out ?_)
  refine (HR.out _ HW3.out).mono ?_
  rintro e w4 ⟨A4, c4', rfl, hro, hb4⟩
  have KG := hide (KG.out.keep hb4)
  have HW4 := hide (below_step HW3.out hb4 (Nat.le_refl _))
  have Hro := hide hro
  have k4 := (KG.out.alloc (.cells #[.pointer none, .slice none 0 0] 74)).cell 4
  simp at k4
  have lg := KG.out.lt
  have HF := hide (Lib.fresh_isBuilder 74 5 w4)
  have HFb := hide (below_new w4 (.cells #[.pointer none, .slice none 0 0] 74))
  have e4 := KG.out.cell 4
  simp at e4
  clear hb4 hro HR HW2 HW3 Hi K1
  go_wp2_with fail
  go_loopw [32] (fun iv wr => ∃ r : Nat, r ≤ R ∧ iv = .int .i64 r ∧ Bld wr 74 w4.heap.size w4.heap.size (DT r) ∧ Below w4.heap.size w4 wr) (fun iv _ => R - (intOf iv).toNat)
  case atStart => exact ⟨0, Nat.zero_le _, rfl, by rw [HD0.out]; exact HF.out, HFb.out⟩
  case round =>
    rename World => wo
    clear HF HFb k4
    obtain ⟨r, hr, rfl, hbd, hbr⟩ := hrel
    have Hbd := hide hbd
    have Hbr := hide hbr
    by_cases hrl : r < R
    · have kk := KG.out.below hbr KG.out.lt
      have e5 := kk.cell 5
      simp at e5
      have lk := kk.lt
      clear kk hbd hbr
      go_wp2_with fail
      go_loopw [37] (fun iv wr => ∃ c : Nat, c ≤ C ∧ iv = .int .i64 c ∧ Bld wr 74 w4.heap.size w4.heap.size (DT r ++ DR r c) ∧ Below w4.heap.size w4 wr) (fun iv _ => C - (intOf iv).toNat)
      case atStart => exact ⟨0, Nat.zero_le _, rfl, by rw [HR0.out, List.append_nil]; exact Hbd.out, Hbr.out⟩
      case round =>
        clear e5 lk
        obtain ⟨c, hc, rfl, hbd, hbr⟩ := hrel
        have Hbd := hide hbd
        have hbrs := hbr.size
        have hlt := HDl.out r c hr hc
        by_cases hcl : c < C
        · have kk := KG.out.below hbr KG.out.lt
          have e0 := kk.cell 0
          have e1 := kk.cell 1
          have e2 := kk.cell 2
          have e3 := kk.cell 3
          have e4' := kk.cell 4
          have e5 := kk.cell 5
          simp at e0 e1 e2 e3 e4' e5
          have lk := kk.lt
          have HSs := hide (HSb.out wr A4 c4' (r : Int) (c : Int) ⟨by omega, by omega⟩ ⟨by omega, by omega⟩ (Hro.out.carry (Flat.carried _) hbr hbr.size))
          have Hbr := hide hbr
          clear kk hbd hbr
          go_wp2_with fail
          refine HSs.out.mono ?_
          rintro e w6 ⟨A5, c5', rfl, hse, hb6⟩
          have hbr7 := hide (Hbr.out.trans (hb6.mono hbrs))
          have Hbd7 := hide (IsBuilder.keep Hbd.out hb6)
          have hbrs7 := hbr7.out.size
          have Hsk := hide (fun (k : Int) (hk : k ∈ SE r c) => Hsm.out r c k hk)
          clear hb6 HSs e0 e1 e2 e3 e4' e5 lk
          generalize hsl : SE (r : Int) (c : Int) = sl at *
          rcases sl with _ | ⟨k, _ | ⟨k2, t⟩⟩
          · have Hsl := hide hsl
            have HDs := hide (fun (r' c' : Nat) => HDs.out r' c')
            clear hsl hse
            go_wp2_with fail
            refine (writeByte_any _ builderType w4.heap.size w4.heap.size _ (cellByte (SE r c)) 46 _ (by rw [Hsl.out]; rfl) Hbd7.out (by omega) hbrs7).mono ?_
            rintro e w8 ⟨rfl, hb8, hbe8, hs8⟩
            have Hb8 := hide (show Bld w8 74 w4.heap.size w4.heap.size (DT r ++ DR r (c + 1)) by rw [HDs.out r c, ← List.append_assoc]; exact hb8)
            have hbr8 := hide (hbr7.out.trans hbe8)
            clear hb8 hbe8 hs8
            go_wp2_with fail
            go_roundw
            case rel => exact ⟨c + 1, by omega, by go_num, Hb8.out, hbr8.out⟩
            case measure => simp [intOf]; omega
          · obtain ⟨b, off, q, rfl, hbl, hx, e0⟩ := Ints.get (k := 0) hse (by simp)
            simp at hx
            subst hx
            simp only [Nat.add_zero] at e0
            obtain ⟨hk0, hk1⟩ := Hsk.out k (by simp)
            have Hsl := hide hsl
            clear hsl hse hbl
            go_wp2_with (go_at_call 25; refine (planLetter_any k _ ⟨hk0, hk1⟩).mono ?_; rintro e w7 ⟨rfl, rfl⟩)
            refine (writeByte_any _ builderType w4.heap.size w4.heap.size _ (cellByte (SE r c)) _ _ (by rw [Hsl.out]; rfl) Hbd7.out (by omega) hbrs7).mono ?_
            rintro e w8 ⟨rfl, hb8, hbe8, hs8⟩
            have Hb8 := hide (show Bld w8 74 w4.heap.size w4.heap.size (DT r ++ DR r (c + 1)) by rw [HDs.out r c, ← List.append_assoc]; exact hb8)
            have hbr8 := hide (hbr7.out.trans hbe8)
            clear hb8 hbe8 hs8
            go_wp2_with fail
            go_roundw
            case rel => exact ⟨c + 1, by omega, by go_num, Hb8.out, hbr8.out⟩
            case measure => simp [intOf]; omega
          · have Hsl := hide hsl
            obtain ⟨m, hm⟩ : ∃ m, m = (k :: k2 :: t).length := ⟨_, rfl⟩
            have hm2 : 2 ≤ m := by rw [hm]; simp
            have m0 : ((m : Int) == 0) = false := by simp; omega
            have m1 : ((m : Int) == 1) = false := by simp; omega
            have m2 : (m == 0) = false := by simp; omega
            have m3 : (m == 1) = false := by simp; omega
            have m4 : ¬ m = 0 := by omega
            have m5 : ¬ m = 1 := by omega
            rw [← hm]
            clear hsl hse hm
            go_wp2_with fail
            refine (writeByte_any _ builderType w4.heap.size w4.heap.size _ (cellByte (SE r c)) 43 _ (by rw [Hsl.out]; rfl) Hbd7.out (by omega) hbrs7).mono ?_
            rintro e w8 ⟨rfl, hb8, hbe8, hs8⟩
            have Hb8 := hide (show Bld w8 74 w4.heap.size w4.heap.size (DT r ++ DR r (c + 1)) by rw [HDs.out r c, ← List.append_assoc]; exact hb8)
            have hbr8 := hide (hbr7.out.trans hbe8)
            clear hb8 hbe8 hs8
            go_wp2_with fail
            go_roundw
            case rel => exact ⟨c + 1, by omega, by go_num, Hb8.out, hbr8.out⟩
            case measure => simp [intOf]; omega
        · obtain rfl : c = C := by omega
          have Hbr := hide hbr
          clear hbd hbr
          go_wp2_with fail
          refine (writeByte_any _ builderType w4.heap.size w4.heap.size _ 10 10 _ rfl Hbd.out (by omega) hbrs).mono ?_
          rintro e w8 ⟨rfl, hb8, hbe8, hs8⟩
          have Hb8 := hide (show Bld w8 74 w4.heap.size w4.heap.size (DT (r + 1)) by rw [HDn.out r, ← List.append_assoc]; exact hb8)
          have hbr8 := hide (Hbr.out.trans hbe8)
          clear hb8 hbe8 hs8
          go_wp2_with fail
          go_roundw
          case rel => exact ⟨r + 1, by omega, by go_num, Hb8.out, hbr8.out⟩
          case measure => simp [intOf]; omega
    · obtain rfl : r = R := by omega
      have Hs := hide (Tryz.Builder_String_any w4.heap.size w4.heap.size (DT r) wo hbd hbr.size)
      clear hbd hbr
      go_wp2_with fail
      refine Hs.out.mono ?_
      rintro e w9 ⟨rfl, hb9⟩
      have Hfin := hide (below_step HW4.out (Hbr.out.trans hb9) (Nat.le_refl _))
      clear Hs hb9
      go_wp2_with fail
      go_ret2
      exact ⟨by rw [Htext.out]; rfl, Hfin.out⟩
end Go.Proofs.YtpmipoljnchheaaGreatDoor
namespace Go.Proofs.YtpmipoljnchheaaGreatDoor
open Go.RowKit

theorem index_at {y r : List UInt8} (h : ∀ c ∈ y, c ≠ 10) : Lib.index (y ++ 10 :: r) [10] = y.length := by
  have hat : (y ++ 10 :: r)[y.length]? = some 10 := by simp
  rw [Lib.index_one]
  by_cases hm : Lib.indexByte (y ++ 10 :: r) 10 = -1
  · exact absurd hat (Lib.indexByte_none hm _)
  · have hge := Lib.indexByte_ge (y ++ 10 :: r) 10
    obtain ⟨i, hi⟩ := Int.eq_ofNat_of_zero_le (show 0 ≤ Lib.indexByte (y ++ 10 :: r) 10 by omega)
    rw [hi]
    obtain ⟨h1, h2⟩ := Lib.indexByte_some hi
    rcases Nat.lt_trichotomy i y.length with hlt | heq | hgt
    · rw [List.getElem?_append_left hlt] at h1
      exact absurd rfl (h 10 (mem_of_get h1))
    · rw [heq]
    · exact absurd hat (h2 _ hgt)
theorem index_nil10 : Lib.index [] [10] = -1 := by decide
/-- A text of ended lines, split at the newlines. -/
theorem split_text : ∀ (ls : List (List UInt8)), (∀ l ∈ ls, ∀ c ∈ l, c ≠ 10) →
    Lib.count (ls.flatMap (· ++ [10])) [10] = ls.length ∧ Lib.splitK [10] 0 ls.length (ls.flatMap (· ++ [10])) = ls ++ [[]] := by
  intro ls
  induction ls with
  | nil => intro _; exact ⟨Lib.count_miss index_nil10, rfl⟩
  | cons y r ih =>
    intro h
    obtain ⟨h1, h2⟩ := ih (fun l hl => h l (List.mem_cons_of_mem _ hl))
    have hi := index_at (y := y) (r := r.flatMap (· ++ [10])) (h y (List.mem_cons_self ..))
    have hs : (y :: r).flatMap (· ++ [10]) = y ++ 10 :: r.flatMap (· ++ [10]) := by simp
    have hdrop : (y ++ 10 :: r.flatMap (· ++ [10])).drop (y.length + 1) = r.flatMap (· ++ [10]) := by
      rw [List.drop_append, List.drop_eq_nil_of_le (by omega)]
      simp
    rw [hs]
    constructor
    · rw [Lib.count_hit (by simp) hi]
      simp only [List.length_cons, List.length_nil, Nat.zero_add]
      rw [hdrop, h1]
      omega
    · rw [List.length_cons, Lib.splitK, hi, if_neg (by simp)]
      simp only [Int.toNat_natCast, Nat.add_zero, List.length_cons, List.length_nil, Nat.zero_add]
      rw [hdrop, h2]
      simp
theorem bytes_back (b : ByteArray) : (⟨b.data.toList.toArray⟩ : ByteArray) = b := by cases b; rfl
theorem split_lines (ls : List (List UInt8)) (hno : ∀ y ∈ ls, ∀ c ∈ y, c ≠ 10) :
    Lib.countB ⟨(ls.flatMap (· ++ [10])).toArray⟩ ⟨#[10]⟩ = ls.length ∧ Lib.splitB ⟨#[10]⟩ 0 (Lib.countB ⟨(ls.flatMap (· ++ [10])).toArray⟩ ⟨#[10]⟩) ⟨(ls.flatMap (· ++ [10])).toArray⟩ = ls.map (fun y => ⟨y.toArray⟩) ++ [.empty] := by
  obtain ⟨h1, h2⟩ := split_text ls hno
  have hc : Lib.countB ⟨(ls.flatMap (· ++ [10])).toArray⟩ ⟨#[10]⟩ = ls.length := h1
  refine ⟨hc, ?_⟩
  have h3 := Lib.splitB_data ⟨#[10]⟩ 0 ls.length ⟨(ls.flatMap (· ++ [10])).toArray⟩
  rw [show (⟨(ls.flatMap (· ++ [10])).toArray⟩ : ByteArray).data.toList = ls.flatMap (· ++ [10]) by simp, show (⟨#[10]⟩ : ByteArray).data.toList = [10] from rfl, h2] at h3
  rw [hc]
  have h4 := congrArg (List.map fun y : List UInt8 => (⟨y.toArray⟩ : ByteArray)) h3
  rw [List.map_map, List.map_append] at h4
  have h5 : ((fun y : List UInt8 => (⟨y.toArray⟩ : ByteArray)) ∘ fun x : ByteArray => x.data.toList) = id := by
    funext b
    exact bytes_back b
  rw [h5, List.map_id] at h4
  exact h4
end Go.Proofs.YtpmipoljnchheaaGreatDoor
namespace Go.Proofs.YtpmipoljnchheaaGreatDoor
open Go.RowKit

def rowsOf (f : Int → Int → List Int) (C R : Nat) : List (List UInt8) := (List.range R).map fun (q : Nat) => drawRow f q C
theorem rowsOf_len (f : Int → Int → List Int) (C R : Nat) : (rowsOf f C R).length = R := by simp [rowsOf]
theorem draw_rows (f : Int → Int → List Int) (C R : Nat) : drawTo f C R = (rowsOf f C R).flatMap (· ++ [10]) := by
  rw [drawTo, rowsOf, List.flatMap_map]
theorem letter_not (k : Int) : letterOf k ≠ 10 ∧ letterOf k ≠ 46 ∧ letterOf k ≠ 43 := by
  have h : (k % 26).toNat < 26 := by omega
  unfold letterOf
  generalize (k % 26).toNat = n at h
  have key : ∀ n, n < 26 → UInt8.ofNat (97 + n) ≠ 10 ∧ UInt8.ofNat (97 + n) ≠ 46 ∧ UInt8.ofNat (97 + n) ≠ 43 := by decide
  exact key n h
theorem cell_not (l : List Int) : cellByte l ≠ 10 := by
  rcases l with _ | ⟨q, _ | ⟨r, l⟩⟩
  · decide
  · exact (letter_not q).1
  · exact (show (43 : UInt8) ≠ 10 by decide)
theorem cell_point (l : List Int) : cellByte l = 46 ↔ l = [] := by
  rcases l with _ | ⟨q, _ | ⟨r, l⟩⟩
  · exact ⟨fun _ => rfl, fun _ => rfl⟩
  · exact ⟨fun h => absurd h (letter_not q).2.1, fun h => by cases h⟩
  · exact ⟨fun h => absurd (show (43 : UInt8) = 46 from h) (by decide), fun h => by cases h⟩
theorem cell_plus (l : List Int) : cellByte l = 43 ↔ 1 < l.length := by
  rcases l with _ | ⟨q, _ | ⟨r, l⟩⟩
  · exact ⟨fun h => absurd h (by decide), fun h => absurd h (by decide)⟩
  · exact ⟨fun h => absurd h (letter_not q).2.2, fun h => absurd h (by simp)⟩
  · exact ⟨fun _ => by simp, fun _ => rfl⟩
theorem rows_no (f : Int → Int → List Int) (C R : Nat) : ∀ l ∈ rowsOf f C R, ∀ c ∈ l, c ≠ 10 := by
  intro l hl c hc
  simp only [rowsOf, List.mem_map] at hl
  obtain ⟨q, _, rfl⟩ := hl
  simp only [drawRow, List.mem_map] at hc
  obtain ⟨c', _, rfl⟩ := hc
  exact cell_not _
/-- The lines that a drawing has when it is split: its rows, and what is behind the last newline. -/
def shapeLines (x : DetD) (s : Int) : List ByteArray := (rowsOf (seenAt x s) (gridOf x s).cols.toNat (gridOf x s).rows.toNat).map (fun y => ⟨y.toArray⟩) ++ [.empty]
theorem shape_split (x : DetD) (s : Int) :
    Lib.countB ⟨(drawText x s).toArray⟩ ⟨#[10]⟩ = (gridOf x s).rows.toNat ∧ Lib.splitB ⟨#[10]⟩ 0 (Lib.countB ⟨(drawText x s).toArray⟩ ⟨#[10]⟩) ⟨(drawText x s).toArray⟩ = shapeLines x s := by
  have h := split_lines (rowsOf (seenAt x s) (gridOf x s).cols.toNat (gridOf x s).rows.toNat) (rows_no _ _ _)
  rw [← draw_rows, rowsOf_len] at h
  exact h
theorem shape_len (x : DetD) (s : Int) : (shapeLines x s).length = (gridOf x s).rows.toNat + 1 := by simp [shapeLines, rowsOf]
theorem shape_end (x : DetD) (s : Int) : (shapeLines x s)[(gridOf x s).rows.toNat]? = some .empty := by
  rw [shapeLines, List.getElem?_append_right (by simp [rowsOf])]
  simp [rowsOf]
theorem shape_row (x : DetD) (s : Int) {r : Nat} (hr : r < (gridOf x s).rows.toNat) : (shapeLines x s)[r]? = some ⟨(drawRow (seenAt x s) r (gridOf x s).cols.toNat).toArray⟩ := by
  rw [shapeLines, List.getElem?_append_left (by simpa [rowsOf] using hr), List.getElem?_map, rowsOf, List.getElem?_map, List.getElem?_range hr]
  rfl
theorem row_cell (f : Int → Int → List Int) (r : Nat) {c C : Nat} (hc : c < C) : (drawRow f r C)[c]? = some (cellByte (f r c)) := by
  rw [drawRow, List.getElem?_map, List.getElem?_range hc]
  rfl
/-- A detail without laid bars. -/
def bareOf (x : DetD) : DetD := { x with runs := [], laps := [] }
theorem bare_seen (x : DetD) (s row col : Int) : seenAt (bareOf x) s row col = [] := by
  rw [List.eq_nil_iff_forall_not_mem]
  intro z hz
  simp only [seenAt, seenOf, List.mem_filter, hitLines, rodsOf, bareOf, laidAll_nil] at hz
  simp at hz
theorem bare_grid (x : DetD) (s : Int) : gridOf (bareOf x) s = gridOf x s := rfl
theorem bare_ok {x : DetD} (h : detOk x = true) : detOk (bareOf x) = true := by
  have hl := (detOk_parts h).2.1
  have hs : schedOk x.bars = true := by
    simp only [laidOk, Bool.and_eq_true] at hl
    exact hl.1.1
  have hl2 : laidOk (bareOf x).bars (bareOf x).runs = true := by
    simp only [laidOk, bareOf, hs, Bool.true_and, List.length_nil, runsFit, Bool.and_true]
    exact decide_eq_true (by omega)
  simp only [detOk, detHead, Bool.and_eq_true] at h ⊢
  simp_all [bareOf, lapsFrom]
theorem bare_err {x : DetD} {s : Int} (h : planErr x s = 0) : planErr (bareOf x) s = 0 := by
  have h1 : detOk x = true := by
    cases hd : detOk x
    · rw [planErr, if_pos hd] at h; cases h
    · rfl
  have h2 := bare_ok h1
  unfold planErr at h ⊢
  rw [if_neg (by rw [h1]; decide)] at h
  rw [if_neg (by rw [h2]; decide), bare_grid]
  exact h
end Go.Proofs.YtpmipoljnchheaaGreatDoor
namespace Go.Proofs.YtpmipoljnchheaaGreatDoor
open Go.RowKit

set_option maxHeartbeats 1000000 in
theorem indexFuncStr_any (A : Option Addr) (l : List ByteArray) (n c : Nat) (fid : FuncId) (caps : Array Value) (p : ByteArray → Bool) (w : World) {B : Nat} (h : StrsAt w B A l) (hB : B ≤ w.heap.size) (hn : n = l.length) (hm : n ≤ 60000)
    (hf : ∀ x (W : World), x ∈ l → Below w.heap.size w W → Calls Tryz.prog fid (#[.string x] ++ caps) W fun e W' => e = .returned (.bool (p x)) ∧ Below W.heap.size W W')
    (hc : ∀ args w, (callFunc fid args).run Tryz.prog w = .ok (.enter fid args) w) :
    Calls Tryz.prog 28 #[.slice A n c, .func (.func fid) #[] caps] w fun e w' => e = .returned (.int .i64 (idx p l)) ∧ Below w.heap.size w w' := by
  have Hf := hide hf
  have hn' := hide hn
  have Hs := hide h
  clear hf hn h
  go_enter Tryz.func28, Tryz.ntmps28
  go_wp2_with fail
  go_loopw [8] (fun i wr => ∃ k : Nat, k ≤ n ∧ i = .int .i64 k ∧ NoneTo p l k ∧ Below w.heap.size w wr) (fun i _ => n - (intOf i).toNat)
  case atStart => exact ⟨0, Nat.zero_le _, rfl, NoneTo.zero _ _, Below.refl _ _⟩
  case round =>
    obtain ⟨k, hk, rfl, hw, hb⟩ := hrel
    by_cases hlt : k < n
    · obtain ⟨b, off, x, rfl, hbl, hx, h0⟩ := StrsAt.get (k := k) (Hs.out.carry (Flat.carried _) (hb.mono hB) (Nat.le_refl _)) (by rw [← hn'.out]; exact hlt)
      have Hx := hide hx
      have HF := hide (fun (W : World) (hW : Below w.heap.size w W) => Hf.out x W (mem_of_get hx) hW)
      clear hx hbl
      go_wp2_with fail
      refine (HF.out _ hb).mono ?_
      rintro e w1 ⟨rfl, hb1⟩
      clear h0
      have hb2 := below_step hb hb1 (Nat.le_refl _)
      cases hp : p x
      · have Hp := hide hp
        clear hp
        go_wp2_with fail
        go_roundw
        case rel => exact ⟨k + 1, by omega, by go_num, hw.succ Hx.out Hp.out, hb2⟩
        case measure => simp [intOf]; omega
      · have Hp := hide hp
        clear hp
        go_wp2_with fail
        go_ret
        exact ⟨ret_int (hw.hit Hx.out Hp.out).symm, hb2⟩
    · obtain rfl : k = n := by omega
      go_wp2_with fail
      go_ret
      exact ⟨ret_int (NoneTo.miss (by rw [← hn'.out]; exact hw)).symm, hb⟩
set_option maxHeartbeats 400000 in
theorem containsFuncStr_any (A : Option Addr) (l : List ByteArray) (n c : Nat) (fid : FuncId) (caps : Array Value) (p : ByteArray → Bool) (w : World) {B : Nat} (h : StrsAt w B A l) (hB : B ≤ w.heap.size) (hn : n = l.length) (hm : n ≤ 60000)
    (hf : ∀ x (W : World), x ∈ l → Below w.heap.size w W → Calls Tryz.prog fid (#[.string x] ++ caps) W fun e W' => e = .returned (.bool (p x)) ∧ Below W.heap.size W W')
    (hc : ∀ args w, (callFunc fid args).run Tryz.prog w = .ok (.enter fid args) w) :
    Calls Tryz.prog 10 #[.slice A n c, .func (.func fid) #[] caps] w fun e w' => e = .returned (.bool (someOf p l)) ∧ Below w.heap.size w w' := by
  have Hf := hide hf
  have hn' := hide hn
  have Hc := hide hc
  clear hf hn hc
  go_enter Tryz.func10, Tryz.ntmps10
  go_wp2_with fail
  refine (indexFuncStr_any A l n c fid caps p w h hB hn'.out hm Hf.out Hc.out).mono ?_
  rintro e w1 ⟨rfl, hb⟩
  go_wp2_with fail
  go_ret
  exact ⟨ret_bool (by rw [idx_any]; rfl), hb⟩
/-- Whether a string has another length than n. -/
def lenNot (n : Nat) (x : ByteArray) : Bool := decide (x.size ≠ n)
set_option maxHeartbeats 1000000 in
theorem shape1_any (x : ByteArray) (g n : Nat) (w : World) (_hx : x.size ≤ maxLen) (h0 : w.cell? ⟨g, 0, none⟩ = some (.int .i64 n)) :
    Calls Tryz.prog 11 #[.string x, .pointer (some ⟨g, 0, none⟩)] w fun e w' => e = .returned (.bool (lenNot n x)) ∧ Below w.heap.size w w' := by
  have hways : (((x.size : Int) != n) = true ∧ Hid (lenNot n x = true)) ∨ (((x.size : Int) != n) = false ∧ Hid (lenNot n x = false)) := by
    by_cases h : x.size = n
    · exact .inr ⟨by simp [h], hide (by simp [lenNot, h])⟩
    · exact .inl ⟨by simp; omega, hide (by simp [lenNot, h])⟩
  go_enter Tryz.func11, Tryz.ntmps11
  rcases hways with ⟨h1, h2⟩ | ⟨h1, h2⟩
  all_goals
    go_wp2_with fail
    go_ret
    exact ⟨ret_bool h2.out.symm, Below.refl _ _⟩
end Go.Proofs.YtpmipoljnchheaaGreatDoor
namespace Go.Proofs.YtpmipoljnchheaaGreatDoor
open Go.RowKit

theorem name_size {m : ByteArray} (h : isName m = true) : m.size ≤ 20 := by
  simp only [isName, Bool.and_eq_true, decide_eq_true_eq] at h
  omega
theorem mark_size {x : BarD} (h : barOk x = true) : x.mark.size ≤ 20 := by
  simp only [barOk, Bool.and_eq_true] at h
  exact name_size h.1.1.1.1.1.2
theorem enc_ascii (c : UInt8) (h : c.toNat < 128) : Utf8.encode (c.toNat : Int) = ⟨#[c]⟩ := by
  have hv : Utf8.valid (c.toNat : Int) = true := by
    simp [Utf8.valid]
    omega
  unfold Utf8.encode
  simp [hv, h]
def legendLine (i : Nat) (m : ByteArray) : List UInt8 := letterOf i :: 32 :: (m.data.toList ++ [10])
def legendTo (bars : List BarD) (k : Nat) : List UInt8 := (List.range k).flatMap fun i => legendLine i (barMark bars i)
theorem legendTo_succ (bars : List BarD) (k : Nat) : legendTo bars (k + 1) = legendTo bars k ++ legendLine k (barMark bars k) := by simp [legendTo, List.range_succ]
def legendText (bars : List BarD) : List UInt8 := legendTo bars bars.length
set_option maxHeartbeats 4000000 in
set_option maxRecDepth 100000 in
theorem planLegend_ok (x : DetD) (s : DetS) (w : World) {B : Nat} (h : DetAt w B x s) (hB : B ≤ w.heap.size) (hf : DetFit x s) (hd : detOk x = true) :
    Calls Tryz.prog 17 #[detV x s] w fun e w' => e = .returned (.tuple #[.string ⟨(legendText x.bars).toArray⟩, .int .i64 0]) ∧ Below w.heap.size w w' := by
  have hV := fun (W : World) (hz : Below w.heap.size w W) => lapValid_any x s W (h.carry (hz.mono hB) (Nat.le_refl _)) (Nat.le_trans hB hz.size) hf
  rw [hd] at hV
  have HV := hide hV
  have Hi := hide (show (Tryz.prog.info? 34).map (·.size) = some 19 by kernel_rfl)
  have K0 := hide (Blk.new w 34 (detCells x.mem x.rule s))
  have HW := hide (below_new w (.cells (detCells x.mem x.rule s) 34))
  have H3 := hide h.h3
  have L3 := hide hf.l3
  have hok := (detOk_parts hd).2.1
  have hbars := (laidOk_mem hok).1
  have Hmk := hide (fun (y : BarD) (hy : y ∈ x.bars) => show y.mark.size ≤ 20 from mark_size (hbars y hy))
  have hn3 : s.n3 ≤ 60000 := hf.m3
  obtain ⟨LT, hLT⟩ : ∃ LT : Nat → List UInt8, LT = legendTo x.bars := ⟨_, rfl⟩
  have HL0 := hide (show LT 0 = [] by rw [hLT]; rfl)
  have HLn := hide (fun (k : Nat) (y : BarD) (hy : x.bars[k]? = some y) => show LT (k + 1) = LT k ++ legendLine k y.mark by rw [hLT, legendTo_succ]; simp [barMark, hy])
  have HLt := hide (show legendText x.bars = LT s.n3 by rw [hLT, hf.l3]; rfl)
  obtain ⟨mem, bars, runs, laps, dems, rule⟩ := x
  obtain ⟨a1, n1, c1, a2, n2, c2, a3, n3, c3, a4, n4, c4, a5, n5, c5, a6, n6, c6⟩ := s
  obtain ⟨name, boxes, holes, cover, agg, poker⟩ := mem
  obtain ⟨r1, r2, r3, r4, r5, r6, r7, r8, r9⟩ := rule
  simp only [detCells] at K0 HW
  simp only at H3 L3 Hmk hn3 HLn HLt
  clear h hf hd hV hok hbars hLT
  show Calls Tryz.prog 17 #[.agg #[.string name, .slice a1 n1 c1, .slice a2 n2 c2, .int .i64 cover, .int .i64 agg, .int .i64 poker, .slice a3 n3 c3, .slice a4 n4 c4, .slice a5 n5 c5, .slice a6 n6 c6, .int .i64 r1, .int .i64 r2, .int .i64 r3, .int .i64 r4, .int .i64 r5, .int .i64 r6, .int .i64 r7, .int .i64 r8, .int .i64 r9]] w _
  go_enter Tryz.func17, Tryz.ntmps17
  go_wp2_with (refine wpList_load_row rfl 34 (.tmp 1) rfl w.heap.size rfl 34 _ (0, 0) _ K0.out Tryz.underlying34 rfl Hi.out ?_)
  refine (HV.out _ HW.out).mono ?_
  rintro e w2 ⟨rfl, hb2⟩
  have K0 := hide (K0.out.keep hb2)
  have HW2 := hide (below_step HW.out hb2 (Nat.le_refl _))
  have e6 := K0.out.cell 6
  simp at e6
  have lk := K0.out.lt
  have HF := hide (Lib.fresh_isBuilder 74 5 w2)
  have HFb := hide (below_new w2 (.cells #[.pointer none, .slice none 0 0] 74))
  clear hb2 HV HW Hi
  go_wp2_with fail
  go_loopw [13] (fun iv wr => ∃ k : Nat, k ≤ n3 ∧ iv = .int .i64 k ∧ Bld wr 74 w2.heap.size w2.heap.size (LT k) ∧ Hid ((LT k).length ≤ 23 * k) ∧ Below w2.heap.size w2 wr) (fun iv _ => n3 - (intOf iv).toNat)
  case atStart => exact ⟨0, Nat.zero_le _, rfl, by rw [HL0.out]; exact HF.out, hide (by rw [HL0.out]; simp), HFb.out⟩
  case round =>
    clear HF HFb e6 lk K0
    obtain ⟨k, hk, rfl, hbd, hln, hbr⟩ := hrel
    have Hbd := hide hbd
    have Hbr := hide hbr
    have hbrs := hbr.size
    by_cases hlt : k < n3
    · have HWr := hide (below_step HW2.out hbr (Nat.le_refl _))
      obtain ⟨b3, off3, y, A', c', rfl, hbl3, hy, _, f0, f1, f2, f3, f4⟩ := BarsAt.get (k := k) (H3.out.carry (HWr.out.mono hB) (Nat.le_refl _)) (by have := L3.out; omega)
      have hbw : b3 < wr.heap.size := by have := HWr.out.size; omega
      have Hm := Hmk.out y (mem_of_get hy)
      have Hn := hide (HLn.out k y hy)
      clear hbd hbr hbl3 hy
      obtain ⟨lb, hlb⟩ : ∃ lb, lb = letterOf (k : Int) := ⟨_, rfl⟩
      have hl128 : lb.toNat < 128 := by
        have h9 := letterOf_nat (k : Int)
        rw [← hlb] at h9
        omega
      have henc := enc_ascii lb hl128
      have HPL := hide (fun (W : World) => (show Calls Tryz.prog 25 #[.int .i64 k] W fun e w' => e = .returned (.int .u8 (lb.toNat : Int)) ∧ w' = W by rw [hlb]; exact planLetter_any (k : Int) W (by omega)))
      have Hlb := hide hlb
      clear hlb hl128
      go_wp2_with fail
      obtain ⟨wa, hwa⟩ : ∃ wa, wa = wr.alloc (.cells #[.string y.mark, .int .i64 y.size, .int .i64 y.count, .int .i64 y.code, .slice A' y.dims.length c'] 53) := ⟨_, rfl⟩
      have KB := hide (Blk.new wr 53 #[.string y.mark, .int .i64 y.size, .int .i64 y.count, .int .i64 y.code, .slice A' y.dims.length c'])
      have HBa := hide (Hbr.out.alloc hbrs (.cells #[.string y.mark, .int .i64 y.size, .int .i64 y.count, .int .i64 y.code, .slice A' y.dims.length c'] 53))
      have Hbda := hide (IsBuilder.keep Hbd.out (below_new wr (.cells #[.string y.mark, .int .i64 y.size, .int .i64 y.count, .int .i64 y.code, .slice A' y.dims.length c'] 53)))
      rw [← hwa] at KB HBa Hbda ⊢
      have e0 := KB.out.cell 0
      simp at e0
      have hbas := HBa.out.size
      have hS1 : ∀ W : World, (Op.stringOp .add ((⟨#[lb]⟩ : ByteArray) ++ (⟨#[32]⟩ : ByteArray)) y.mark).run Tryz.prog W = .ok (.string (((⟨#[lb]⟩ : ByteArray) ++ (⟨#[32]⟩ : ByteArray)) ++ y.mark)) W := fun W => run_string_add_sum W _ _ (by have : ((⟨#[lb]⟩ : ByteArray) ++ (⟨#[32]⟩ : ByteArray)).size = 2 := rfl; omega)
      have hS2 : ∀ W : World, (Op.stringOp .add (((⟨#[lb]⟩ : ByteArray) ++ (⟨#[32]⟩ : ByteArray)) ++ y.mark) (⟨#[10]⟩ : ByteArray)).run Tryz.prog W = .ok (.string ((((⟨#[lb]⟩ : ByteArray) ++ (⟨#[32]⟩ : ByteArray)) ++ y.mark) ++ (⟨#[10]⟩ : ByteArray))) W := fun W => run_string_add_sum W _ _ (by rw [ByteArray.size_append]; have : ((⟨#[lb]⟩ : ByteArray) ++ (⟨#[32]⟩ : ByteArray)).size = 2 := rfl; have : (⟨#[10]⟩ : ByteArray).size = 1 := rfl; omega)
      clear hwa f0 f1 f2 f3 f4
      go_still_tail 8, (by kernel_rfl)
      still_call (HPL.out _)
      repeat still_step
      try refine wpStill_nil ?_
      change wpList _ _ _ _ _ wa.drew
      obtain ⟨sv, hsv⟩ : ∃ sv, sv = (((⟨#[lb]⟩ : ByteArray) ++ (⟨#[32]⟩ : ByteArray)) ++ y.mark) ++ (⟨#[10]⟩ : ByteArray) := ⟨_, rfl⟩
      rw [← hsv]
      have Hsv := hide (show sv.data.toList = legendLine k y.mark by rw [hsv, legendLine, ← Hlb.out]; simp)
      have hsz : sv.size ≤ 23 := by
        have h9 := congrArg List.length Hsv.out
        simp only [legendLine, List.length_cons, List.length_append, List.length_nil, Array.length_toList] at h9
        have h8 : y.mark.data.size = y.mark.size := rfl
        have h7 : sv.data.size = sv.size := rfl
        omega
      have hl9 := hln.out
      clear hsv hS1 hS2 henc e0 HPL
      go_wp2_with fail
      refine (writeString_any _ builderType w2.heap.size w2.heap.size _ sv _ (IsBuilder.keep Hbda.out (Below.drew (Below.refl _ _))) (by omega) (by omega) (show w2.heap.size ≤ wa.drew.heap.size from hbas)).mono ?_
      rintro e w8 ⟨rfl, hb8, hbe8, hs8⟩
      have Hb8 := hide (show Bld w8 74 w2.heap.size w2.heap.size (LT (k + 1)) by rw [Hn.out, ← Hsv.out]; exact hb8)
      have hbr8 := hide ((HBa.out.drew).trans hbe8)
      have hl8 := hide (show (LT (k + 1)).length ≤ 23 * (k + 1) by
        rw [Hn.out, ← Hsv.out, List.length_append]
        have h7 : sv.data.toList.length = sv.size := by simp
        omega)
      clear hb8 hbe8 hs8
      go_wp2_with fail
      go_roundw
      case rel => exact ⟨k + 1, by omega, by go_num, Hb8.out, hl8, hbr8.out⟩
      case measure => simp [intOf]; omega
    · obtain rfl : k = n3 := by omega
      have Hs := hide (Tryz.Builder_String_any w2.heap.size w2.heap.size (LT k) wr hbd hbrs)
      clear hbd hbr
      go_wp2_with fail
      refine Hs.out.mono ?_
      rintro e w9 ⟨rfl, hb9⟩
      have Hfin := hide (below_step HW2.out (Hbr.out.trans hb9) (Nat.le_refl _))
      clear Hs hb9
      go_wp2_with fail
      go_ret2
      exact ⟨by rw [HLt.out]; rfl, Hfin.out⟩
end Go.Proofs.YtpmipoljnchheaaGreatDoor
namespace Go.Proofs.YtpmipoljnchheaaGreatDoor
open Go.RowKit

theorem at_any (x y z : Int) (w : World) : Calls Tryz.prog 34 #[.int .i64 x, .int .i64 y, .int .i64 z] w fun e w' => e = .returned (ptA (x, y, z)) ∧ Below w.heap.size w w' := by
  have kR := hide (Blk.new w 63 #[.int .i64 x, .int .i64 y, .int .i64 z])
  have hB := hide (below_new w (.cells #[.int .i64 x, .int .i64 y, .int .i64 z] 63))
  go_enter Tryz.func34, Tryz.ntmps34
  go_wp2_with fail
  refine bodyPost_ret (results_c rfl rfl kR.out Tryz.underlying63 rfl (by kernel_rfl)) rfl ?_
  exact ⟨rfl, hB.out⟩
def exMain : ByteArray := ⟨#[109, 97, 105, 110]⟩
def exD : DetD := ⟨⟨⟨#[109]⟩, [⟨(0, 0, 0), (400, 200, 300)⟩], [], 0, 16, 50⟩, [⟨exMain, 10, 1, 0, [200]⟩], [⟨exMain, 1, 2, (100, 50, 50), (0, 0, 0), 1⟩], [], [], ⟨40, 1, 1, 1, 1, 1, 1, 1, 0⟩⟩
theorem exD_err : planErr exD 100 = 0 := by decide +kernel
theorem exD_ok : detOk exD = true := by decide +kernel
theorem exD_text : drawText exD 100 = [46, 97, 97, 97, 10, 46, 46, 46, 46, 10] := by decide +kernel
theorem exD_legend : legendText exD.bars = [97, 32, 109, 97, 105, 110, 10] := by decide +kernel
abbrev exS (g1 g3 g4 : Nat) : DetS := ⟨some ⟨g1, 0, none⟩, 1, 1, none, 0, 0, some ⟨g3, 0, none⟩, 1, 1, some ⟨g4, 0, none⟩, 1, 1, none, 0, 0, none, 0, 0⟩
theorem exam_at {W : World} {g1 g2 g3 g4 : Nat} {t1 t2 t3 t4 : TypeId} (h1 : Blk W g1 t1 #[.int .i64 0, .int .i64 0, .int .i64 0, .int .i64 400, .int .i64 200, .int .i64 300]) (h2 : Blk W g2 t2 #[.int .i64 200])
    (h3 : Blk W g3 t3 #[.string ⟨#[109, 97, 105, 110]⟩, .int .i64 10, .int .i64 1, .int .i64 0, .slice (some ⟨g2, 0, none⟩) 1 1]) (h4 : Blk W g4 t4 #[.string ⟨#[109, 97, 105, 110]⟩, .int .i64 1, .int .i64 2, .int .i64 100, .int .i64 50, .int .i64 50, .int .i64 0, .int .i64 0, .int .i64 0, .int .i64 1]) : DetAt W W.heap.size exD (exS g1 g3 g4) :=
  ⟨blk_sl encB_len h1 (fun j u h => by simpa [exD, encB] using h) h1.lt, SlOf.nil _ _ _ _ _,
   SlOf.of_row (xs := [.string ⟨#[109, 97, 105, 110]⟩, .int .i64 10, .int .i64 1, .int .i64 0, .slice (some ⟨g2, 0, none⟩) 1 1]) h3.lt (fun j u hu => by rw [h3.cell]; simpa using hu)
     (fun k x hx => by
       have hk : k = 0 := by rcases Nat.lt_or_ge k 1 with h | h; · omega
                             · rw [List.getElem?_eq_none (by simpa [exD] using h)] at hx; cases hx
       subst hk
       obtain rfl : x = ⟨exMain, 10, 1, 0, [200]⟩ := by simpa [exD] using hx.symm
       refine ⟨[.string ⟨#[109, 97, 105, 110]⟩, .int .i64 10, .int .i64 1, .int .i64 0, .slice (some ⟨g2, 0, none⟩) 1 1], rfl, ⟨some ⟨g2, 0, none⟩, 1, rfl, blk_sl encInt_len h2 (fun j u h => by simpa [encInt] using h) h2.lt⟩, fun j v hj => ?_⟩
       simpa using hj),
   blk_sl encRun_len h4 (fun j u h => by simpa [exD, encRun, exMain] using h) h4.lt, SlOf.nil _ _ _ _ _, SlOf.nil _ _ _ _ _⟩
theorem exam_fit (g1 g3 g4 : Nat) : DetFit exD (exS g1 g3 g4) :=
  ⟨rfl, rfl, rfl, rfl, rfl, rfl, (by decide : (1 : Nat) ≤ 60000), (by decide : (1 : Nat) ≤ 60000), (by decide : (0 : Nat) ≤ 60000), (by decide : (0 : Nat) ≤ 60000), (by decide : (0 : Nat) ≤ 0), by decide, fun x hx => by
    obtain rfl : x = ⟨exMain, 10, 1, 0, [200]⟩ := by simpa [exD] using hx
    exact ⟨by decide, by decide⟩, fun d hd => by simp [exD] at hd⟩
set_option maxHeartbeats 4000000 in
set_option maxRecDepth 100000 in
theorem example_any (w : World) : Calls Tryz.prog 16 #[] w fun e w' => ∃ s : DetS, e = .returned (detV exD s) ∧ DetAt w' w'.heap.size exD s ∧ DetFit exD s ∧ Below w.heap.size w w' := by
  go_enter Tryz.func16, Tryz.ntmps16
  go_wp2_with fail
  have KZ := hide (Blk.new w 34 #[.string ⟨#[]⟩, .slice none 0 0, .slice none 0 0, .int .i64 0, .int .i64 0, .int .i64 0, .slice none 0 0, .slice none 0 0, .slice none 0 0, .slice none 0 0, .int .i64 0, .int .i64 0, .int .i64 0, .int .i64 0, .int .i64 0, .int .i64 0, .int .i64 0, .int .i64 0, .int .i64 0])
  have HW := hide (below_new w (.cells #[.string ⟨#[]⟩, .slice none 0 0, .slice none 0 0, .int .i64 0, .int .i64 0, .int .i64 0, .slice none 0 0, .slice none 0 0, .slice none 0 0, .slice none 0 0, .int .i64 0, .int .i64 0, .int .i64 0, .int .i64 0, .int .i64 0, .int .i64 0, .int .i64 0, .int .i64 0, .int .i64 0] 34))
  refine (at_any 400 200 300 _).mono ?_
  rintro e w2 ⟨rfl, hb2⟩
  have KZ := hide (KZ.out.keep hb2)
  have HW := hide (below_step HW.out hb2 (Nat.le_refl _))
  have hz : w.heap.size < w2.heap.size := by have := hb2.size; simp at this; omega
  have hz := hide hz
  clear hb2
  go_wp2_with fail
  refine (at_any 100 50 50 _).mono ?_
  rintro e w3 ⟨rfl, hb3⟩
  have KB : Hid (Blk w3 w2.heap.size 93 #[.int .i64 0, .int .i64 0, .int .i64 0, .int .i64 400, .int .i64 200, .int .i64 300]) := hide ((((Blk.new w2 _ _).alloc _).alloc _).keep hb3)
  have KI : Hid (Blk w3 (w2.heap.size + 1) 3 #[.int .i64 200]) := hide (((Blk.new1 w2 _ _ _).alloc _).keep hb3)
  have KR : Hid (Blk w3 (w2.heap.size + 2) 53 #[.string ⟨#[109, 97, 105, 110]⟩, .int .i64 10, .int .i64 1, .int .i64 0, .slice (some ⟨w2.heap.size + 1, 0, none⟩) 1 1]) := hide ((Blk.new2 w2 _ _ _ _).keep hb3)
  have KZ := hide (((((KZ.out.alloc _).alloc _).alloc _)).keep hb3)
  have HW := hide (below_step (((HW.out.alloc (Nat.le_of_lt hz.out) _).alloc (le_alloc (Nat.le_of_lt hz.out) _) _).alloc (le_alloc (le_alloc (Nat.le_of_lt hz.out) _) _) _) hb3 (Nat.le_refl _))
  have hz3 : w2.heap.size + 3 ≤ w3.heap.size := by have := hb3.size; simp at this; omega
  have hz3 := hide hz3
  clear hb3
  have KT := hide (Blk.new w3 97 #[.string ⟨#[109, 97, 105, 110]⟩, .int .i64 1, .int .i64 2, .int .i64 100, .int .i64 50, .int .i64 50, .int .i64 0, .int .i64 0, .int .i64 0, .int .i64 1])
  have KZ := hide (KZ.out.alloc (.cells #[.string ⟨#[109, 97, 105, 110]⟩, .int .i64 1, .int .i64 2, .int .i64 100, .int .i64 50, .int .i64 50, .int .i64 0, .int .i64 0, .int .i64 0, .int .i64 1] 97))
  have Hi : Hid ((Tryz.prog.info? 34).map (·.size) = some 19) := hide (by kernel_rfl)
  have Hone : Hid ((detCells exD.mem exD.rule ⟨some ⟨w2.heap.size, 0, none⟩, 1, 1, none, 0, 0, some ⟨w2.heap.size + 2, 0, none⟩, 1, 1, some ⟨w3.heap.size, 0, none⟩, 1, 1, none, 0, 0, none, 0, 0⟩).all (·.oneCell') = true) := hide (by kernel_rfl)
  go_wp2_with (first
    | (refine wpList_store_row rfl 34 (.tmp 0) (.tmp 14) rfl w.heap.size (detCells exD.mem exD.rule ⟨some ⟨w2.heap.size, 0, none⟩, 1, 1, none, 0, 0, some ⟨w2.heap.size + 2, 0, none⟩, 1, 1, some ⟨w3.heap.size, 0, none⟩, 1, 1, none, 0, 0, none, 0, 0⟩) rfl rfl 34 _ KZ.out Hi.out rfl Hone.out ?_)
    | (refine wp_store_row 34 (.tmp 0) (.tmp 14) rfl w.heap.size (detCells exD.mem exD.rule ⟨some ⟨w2.heap.size, 0, none⟩, 1, 1, none, 0, 0, some ⟨w2.heap.size + 2, 0, none⟩, 1, 1, some ⟨w3.heap.size, 0, none⟩, 1, 1, none, 0, 0, none, 0, 0⟩) rfl rfl 34 _ KZ.out Hi.out rfl Hone.out ?_))
  have kD := setRow_heap _ w.heap.size _ (detCells exD.mem exD.rule (exS w2.heap.size (w2.heap.size + 2) w3.heap.size)) _ _ KZ.out
  refine bodyPost_ret (results_c rfl rfl kD Tryz.underlying34 rfl (by kernel_rfl)) rfl ?_
  have q := hz.out
  have q3 := hz3.out
  refine ⟨exS w2.heap.size (w2.heap.size + 2) w3.heap.size, rfl, exam_at (g2 := w2.heap.size + 1) ((setRow_other _ _ _ _ (by omega)).trans (KB.out.alloc _)) ((setRow_other _ _ _ _ (by omega)).trans (KI.out.alloc _)) ((setRow_other _ _ _ _ (by omega)).trans (KR.out.alloc _)) ((setRow_other _ _ _ _ (by omega)).trans KT.out), exam_fit _ _ _, ?_⟩
  exact Below.setRow (HW.out.alloc (by omega) _) (Nat.le_refl _) _
end Go.Proofs.YtpmipoljnchheaaGreatDoor
namespace Go.Proofs.YtpmipoljnchheaaGreatDoor
open Go.RowKit

set_option maxHeartbeats 4000000 in
set_option maxRecDepth 100000 in
theorem planAt_bad (x : DetD) (s : DetS) (sc : Int) (row col : Int) (w : World) {B : Nat} (h : DetAt w B x s) (hB : B ≤ w.heap.size) (hf : DetFit x s) (he : planErr x sc ≠ 0) :
    Calls Tryz.prog 12 #[detV x s, .int .i64 sc, .int .i64 row, .int .i64 col] w fun e w' => e = .returned (.tuple #[.slice none 0 0, .int .i64 (planErr x sc)]) ∧ Below w.heap.size w w' := by
  have hM := fun (W : World) (hz : Below w.heap.size w W) => made_any x s sc W (h.carry (hz.mono hB) (Nat.le_refl _)) (Nat.le_trans hB hz.size) hf
  rw [plan_bad rfl he] at hM
  have HM := hide hM
  simp only [gridCells, zeroGrid] at HM
  generalize planErr x sc = er at *
  have e0 : (er == 0) = false := by simpa using he
  have e1 : (er != 0) = true := by simpa using he
  have Hi := hide (show (Tryz.prog.info? 34).map (·.size) = some 19 by kernel_rfl)
  have K0 := hide (Blk.new w 34 (detCells x.mem x.rule s))
  have HW := hide (below_new w (.cells (detCells x.mem x.rule s) 34))
  obtain ⟨mem, bars, runs, laps, dems, rule⟩ := x
  obtain ⟨a1, n1, c1, a2, n2, c2, a3, n3, c3, a4, n4, c4, a5, n5, c5, a6, n6, c6⟩ := s
  obtain ⟨name, boxes, holes, cover, agg, poker⟩ := mem
  obtain ⟨r1, r2, r3, r4, r5, r6, r7, r8, r9⟩ := rule
  simp only [detCells] at K0 HW
  clear h hf hM he
  show Calls Tryz.prog 12 #[.agg #[.string name, .slice a1 n1 c1, .slice a2 n2 c2, .int .i64 cover, .int .i64 agg, .int .i64 poker, .slice a3 n3 c3, .slice a4 n4 c4, .slice a5 n5 c5, .slice a6 n6 c6, .int .i64 r1, .int .i64 r2, .int .i64 r3, .int .i64 r4, .int .i64 r5, .int .i64 r6, .int .i64 r7, .int .i64 r8, .int .i64 r9], .int .i64 sc, .int .i64 row, .int .i64 col] w _
  go_enter Tryz.func12, Tryz.ntmps12
  go_wp2_with (refine wpList_load_row rfl 34 (.tmp 4) rfl w.heap.size rfl 34 _ (0, 0) _ K0.out Tryz.underlying34 rfl Hi.out ?_)
  refine (HM.out _ HW.out).mono ?_
  rintro e w2 ⟨rfl, hb2⟩
  have HW2 := hide (below_step HW.out hb2 (Nat.le_refl _))
  clear hb2 HM K0 HW Hi
  go_wp2_with fail
  go_ret2
  exact ⟨rfl, HW2.out.alloc HW2.out.size _⟩
set_option maxHeartbeats 4000000 in
set_option maxRecDepth 100000 in
theorem planDraw_bad (x : DetD) (s : DetS) (sc : Int) (w : World) {B : Nat} (h : DetAt w B x s) (hB : B ≤ w.heap.size) (hf : DetFit x s) (he : planErr x sc ≠ 0) :
    Calls Tryz.prog 7 #[detV x s, .int .i64 sc] w fun e w' => e = .returned (.tuple #[.string ⟨#[]⟩, .int .i64 (planErr x sc)]) ∧ Below w.heap.size w w' := by
  have hM := fun (W : World) (hz : Below w.heap.size w W) => made_any x s sc W (h.carry (hz.mono hB) (Nat.le_refl _)) (Nat.le_trans hB hz.size) hf
  rw [plan_bad rfl he] at hM
  have HM := hide hM
  simp only [gridCells, zeroGrid] at HM
  generalize planErr x sc = er at *
  have e0 : (er == 0) = false := by simpa using he
  have e1 : (er != 0) = true := by simpa using he
  have Hi := hide (show (Tryz.prog.info? 34).map (·.size) = some 19 by kernel_rfl)
  have K0 := hide (Blk.new w 34 (detCells x.mem x.rule s))
  have HW := hide (below_new w (.cells (detCells x.mem x.rule s) 34))
  obtain ⟨mem, bars, runs, laps, dems, rule⟩ := x
  obtain ⟨a1, n1, c1, a2, n2, c2, a3, n3, c3, a4, n4, c4, a5, n5, c5, a6, n6, c6⟩ := s
  obtain ⟨name, boxes, holes, cover, agg, poker⟩ := mem
  obtain ⟨r1, r2, r3, r4, r5, r6, r7, r8, r9⟩ := rule
  simp only [detCells] at K0 HW
  clear h hf hM he
  show Calls Tryz.prog 7 #[.agg #[.string name, .slice a1 n1 c1, .slice a2 n2 c2, .int .i64 cover, .int .i64 agg, .int .i64 poker, .slice a3 n3 c3, .slice a4 n4 c4, .slice a5 n5 c5, .slice a6 n6 c6, .int .i64 r1, .int .i64 r2, .int .i64 r3, .int .i64 r4, .int .i64 r5, .int .i64 r6, .int .i64 r7, .int .i64 r8, .int .i64 r9], .int .i64 sc] w _
  go_enter Tryz.func7, Tryz.ntmps7
  go_wp2_with (refine wpList_load_row rfl 34 (.tmp 2) rfl w.heap.size rfl 34 _ (0, 0) _ K0.out Tryz.underlying34 rfl Hi.out ?_)
  refine (HM.out _ HW.out).mono ?_
  rintro e w2 ⟨rfl, hb2⟩
  have HW2 := hide (below_step HW.out hb2 (Nat.le_refl _))
  clear hb2 HM K0 HW Hi
  go_wp2_with fail
  go_ret2
  exact ⟨rfl, HW2.out.alloc HW2.out.size _⟩
set_option maxHeartbeats 4000000 in
set_option maxRecDepth 100000 in
theorem planAt_out (x : DetD) (s : DetS) (sc : Int) (row col : Int) (w : World) {B : Nat} (h : DetAt w B x s) (hB : B ≤ w.heap.size) (hf : DetFit x s) (he : planErr x sc = 0) (hout : row < 0 ∨ (gridOf x sc).rows ≤ row ∨ col < 0 ∨ (gridOf x sc).cols ≤ col) :
    Calls Tryz.prog 12 #[detV x s, .int .i64 sc, .int .i64 row, .int .i64 col] w fun e w' => e = .returned (.tuple #[.slice none 0 0, .int .i64 12]) ∧ Below w.heap.size w w' := by
  have hM := fun (W : World) (hz : Below w.heap.size w W) => made_any x s sc W (h.carry (hz.mono hB) (Nat.le_refl _)) (Nat.le_trans hB hz.size) hf
  rw [plan_ok he, he] at hM
  have HM := hide hM
  have hways : decide (row < 0) = true ∨ (decide (row < 0) = false ∧ decide ((gridOf x sc).rows ≤ row) = true) ∨ (decide (row < 0) = false ∧ decide ((gridOf x sc).rows ≤ row) = false ∧ decide (col < 0) = true) ∨ (decide (row < 0) = false ∧ decide ((gridOf x sc).rows ≤ row) = false ∧ decide (col < 0) = false ∧ decide ((gridOf x sc).cols ≤ col) = true) := by
    simp only [decide_eq_true_eq, decide_eq_false_iff_not]
    omega
  clear hout
  generalize gridOf x sc = g at *
  obtain ⟨⟨g1, g2, g3⟩, g4, g5, g6⟩ := g
  simp only [gridCells] at HM hways
  have Hi := hide (show (Tryz.prog.info? 34).map (·.size) = some 19 by kernel_rfl)
  have K0 := hide (Blk.new w 34 (detCells x.mem x.rule s))
  have HW := hide (below_new w (.cells (detCells x.mem x.rule s) 34))
  obtain ⟨mem, bars, runs, laps, dems, rule⟩ := x
  obtain ⟨a1, n1, c1, a2, n2, c2, a3, n3, c3, a4, n4, c4, a5, n5, c5, a6, n6, c6⟩ := s
  obtain ⟨name, boxes, holes, cover, agg, poker⟩ := mem
  obtain ⟨r1, r2, r3, r4, r5, r6, r7, r8, r9⟩ := rule
  simp only [detCells] at K0 HW
  clear h hf hM he
  show Calls Tryz.prog 12 #[.agg #[.string name, .slice a1 n1 c1, .slice a2 n2 c2, .int .i64 cover, .int .i64 agg, .int .i64 poker, .slice a3 n3 c3, .slice a4 n4 c4, .slice a5 n5 c5, .slice a6 n6 c6, .int .i64 r1, .int .i64 r2, .int .i64 r3, .int .i64 r4, .int .i64 r5, .int .i64 r6, .int .i64 r7, .int .i64 r8, .int .i64 r9], .int .i64 sc, .int .i64 row, .int .i64 col] w _
  go_enter Tryz.func12, Tryz.ntmps12
  go_wp2_with (refine wpList_load_row rfl 34 (.tmp 4) rfl w.heap.size rfl 34 _ (0, 0) _ K0.out Tryz.underlying34 rfl Hi.out ?_)
  refine (HM.out _ HW.out).mono ?_
  rintro e w2 ⟨rfl, hb2⟩
  have HW2 := hide (below_step HW.out hb2 (Nat.le_refl _))
  clear hb2 HM K0 HW Hi
  rcases hways with q0 | ⟨q0, q1⟩ | ⟨q0, q1, q2⟩ | ⟨q0, q1, q2, q3⟩
  all_goals
    go_wp2_with fail
    go_ret2
    exact ⟨rfl, HW2.out.alloc HW2.out.size _⟩
set_option maxHeartbeats 4000000 in
set_option maxRecDepth 100000 in
theorem planLegend_bad (x : DetD) (s : DetS) (w : World) {B : Nat} (h : DetAt w B x s) (hB : B ≤ w.heap.size) (hf : DetFit x s) (hd : detOk x = false) :
    Calls Tryz.prog 17 #[detV x s] w fun e w' => e = .returned (.tuple #[.string ⟨#[]⟩, .int .i64 1]) ∧ Below w.heap.size w w' := by
  have hV := fun (W : World) (hz : Below w.heap.size w W) => lapValid_any x s W (h.carry (hz.mono hB) (Nat.le_refl _)) (Nat.le_trans hB hz.size) hf
  rw [hd] at hV
  have HM := hide hV
  have Hi := hide (show (Tryz.prog.info? 34).map (·.size) = some 19 by kernel_rfl)
  have K0 := hide (Blk.new w 34 (detCells x.mem x.rule s))
  have HW := hide (below_new w (.cells (detCells x.mem x.rule s) 34))
  obtain ⟨mem, bars, runs, laps, dems, rule⟩ := x
  obtain ⟨a1, n1, c1, a2, n2, c2, a3, n3, c3, a4, n4, c4, a5, n5, c5, a6, n6, c6⟩ := s
  obtain ⟨name, boxes, holes, cover, agg, poker⟩ := mem
  obtain ⟨r1, r2, r3, r4, r5, r6, r7, r8, r9⟩ := rule
  simp only [detCells] at K0 HW
  clear h hf hV hd
  show Calls Tryz.prog 17 #[.agg #[.string name, .slice a1 n1 c1, .slice a2 n2 c2, .int .i64 cover, .int .i64 agg, .int .i64 poker, .slice a3 n3 c3, .slice a4 n4 c4, .slice a5 n5 c5, .slice a6 n6 c6, .int .i64 r1, .int .i64 r2, .int .i64 r3, .int .i64 r4, .int .i64 r5, .int .i64 r6, .int .i64 r7, .int .i64 r8, .int .i64 r9]] w _
  go_enter Tryz.func17, Tryz.ntmps17
  go_wp2_with (refine wpList_load_row rfl 34 (.tmp 1) rfl w.heap.size rfl 34 _ (0, 0) _ K0.out Tryz.underlying34 rfl Hi.out ?_)
  refine (HM.out _ HW.out).mono ?_
  rintro e w2 ⟨rfl, hb2⟩
  have HW2 := hide (below_step HW.out hb2 (Nat.le_refl _))
  clear hb2 HM K0 HW Hi
  go_wp2_with fail
  go_ret2
  exact ⟨rfl, HW2.out⟩
end Go.Proofs.YtpmipoljnchheaaGreatDoor
