/- The lines of the schedule that are seen in a cell: the walk. The size of a plan, and the marks in a cell. Plain: the cell of a point; an end of a leg that is in a cell is seen there. No walk stands here. The cell of a point. -/
import Derived.Test.YtpmipoljnchheaaGreatMar
import Derived.Test.YtpmipoljnchheaaGreatShelf
import Derived.Deep.QuietTactic
import Derived.BigQuiet
namespace Go.Proofs.YtpmipoljnchheaaGreat
open Go.RowKit Go.Sort

set_option maxHeartbeats 4000000 in
set_option maxRecDepth 100000 in
theorem seen_ok (N : Nat) (g : GridD) (A : Option Addr) (l : List RodD) (n c : Nat) (row col : Int) (w : World) {B : Nat} (h : RodsAt w B A l) (hB : B ≤ w.heap.size) (hn : n = l.length) (hm : n ≤ 20000) (hlo : nearBy 1048576 g.lo = true) (hs : 0 ≤ g.scale ∧ g.scale ≤ 1048576)
    (hr : 0 ≤ row * g.scale ∧ row * g.scale ≤ 1099511627776) (hc : 0 ≤ col * g.scale ∧ col * g.scale ≤ 1099511627776) (hl : ∀ r ∈ l, 0 ≤ r.line ∧ r.line < N) :
    Calls Tryz.prog 34 #[.agg (gridCells g), .slice A n c, .int .i64 row, .int .i64 col] w fun e w' => ∃ A' c', e = .returned (.slice A' (seenOf N g l row col).length c') ∧ Ints w' w'.heap.size A' (seenOf N g l row col) ∧ Below w.heap.size w w' := by
  have Hseen := hide (seenOf_eq (n := N) (g := g) (l := l) (row := row) (col := col) hl)
  have Hh := hide h
  have Hn := hide hn
  have Hsn := hide (fun (k : Nat) (r : RodD) (hx : l[k]? = some r) => show hitLines g (l.take (k + 1)) row col = hitLines g (l.take k) row col ++ (if cellHit g row col r.leg then [r.line] else []) by rw [take_snoc' hx, hitLines_snoc])
  have Hch := hide (fun (b : BoxD) => show cellHit g row col b = (decide (b.lo.1 < g.lo.1 + col * g.scale + g.scale) && decide (g.lo.1 + col * g.scale ≤ b.hi.1) && decide (b.lo.2.1 < g.lo.2.1 + row * g.scale + g.scale) && decide (g.lo.2.1 + row * g.scale ≤ b.hi.2.1)) from rfl)
  have Hlen := hide (show (hitLines g l row col).length ≤ n by rw [hn, hitLines, List.length_map]; exact List.length_filter_le _ _)
  obtain ⟨HT, hHT⟩ : ∃ HT : Nat → List Int, HT = fun k => hitLines g (l.take k) row col := ⟨_, rfl⟩
  obtain ⟨SE, hSE⟩ : ∃ SE, SE = seenOf N g l row col := ⟨_, rfl⟩
  obtain ⟨CH, hCH⟩ : ∃ CH : BoxD → Bool, CH = cellHit g row col := ⟨_, rfl⟩
  have HT0 := hide (show HT 0 = [] by rw [hHT]; rfl)
  have HTn := hide (fun (k : Nat) (r : RodD) (hx : l[k]? = some r) => show HT (k + 1) = HT k ++ (if CH r.leg then [r.line] else []) by rw [hHT, hCH]; exact Hsn.out k r hx)
  have HTa := hide (show HT n = hitLines g l row col by rw [hHT, hn]; simp only [List.take_length])
  have HTl := hide (fun (k : Nat) => show (HT k).length ≤ 20000 by
    rw [hHT]
    show (hitLines g (l.take k) row col).length ≤ 20000
    rw [hitLines, List.length_map]
    exact Nat.le_trans (List.length_filter_le _ _) (by rw [List.length_take]; omega))
  rw [← hSE] at Hseen ⊢
  rw [← hCH] at Hch
  clear Hsn hHT hSE hCH
  obtain ⟨⟨g1, g2, g3⟩, sc, rws, cls⟩ := g
  simp only at hs hr hc hlo Hch
  obtain ⟨⟨u1, u2⟩, ⟨u3, u4⟩, _, _⟩ := nearBy_iff.1 hlo
  simp only at u1 u2 u3 u4
  have z1 : IntKind.i64.wrap (col * sc) = col * sc := IntWalk.i64_in _ (by omega)
  have z2 : IntKind.i64.wrap (row * sc) = row * sc := IntWalk.i64_in _ (by omega)
  have z3 : IntKind.i64.wrap (g1 + col * sc) = g1 + col * sc := IntWalk.i64_in _ (by omega)
  have z4 : IntKind.i64.wrap (g2 + row * sc) = g2 + row * sc := IntWalk.i64_in _ (by omega)
  obtain ⟨a, ha⟩ : ∃ a, a = g1 + col * sc := ⟨_, rfl⟩
  obtain ⟨b, hb⟩ : ∃ b, b = g2 + row * sc := ⟨_, rfl⟩
  have z5 : IntKind.i64.wrap (a + sc) = a + sc := IntWalk.i64_in _ (by omega)
  have z6 : IntKind.i64.wrap (b + sc) = b + sc := IntWalk.i64_in _ (by omega)
  have y3 : wrap64 (g1 + col * sc) = a := (IntWalk.wrap64_in _ (by omega)).trans ha.symm
  have y4 : wrap64 (g2 + row * sc) = b := (IntWalk.wrap64_in _ (by omega)).trans hb.symm
  have y5 : wrap64 (a + sc) = a + sc := IntWalk.wrap64_in _ (by omega)
  have y6 : wrap64 (b + sc) = b + sc := IntWalk.wrap64_in _ (by omega)
  rw [← ha] at Hch
  rw [← hb] at Hch
  have K0 := hide (Blk.new w 84 #[.int .i64 g1, .int .i64 g2, .int .i64 g3, .int .i64 sc, .int .i64 rws, .int .i64 cls])
  have HW := hide (below_new w (.cells #[.int .i64 g1, .int .i64 g2, .int .i64 g3, .int .i64 sc, .int .i64 rws, .int .i64 cls] 84))
  have HA := hide ha
  have HBb := hide hb
  clear h hn hl hlo u1 u2 u3 u4 hr hc ha hb
  show Calls Tryz.prog 34 #[.agg #[.int .i64 g1, .int .i64 g2, .int .i64 g3, .int .i64 sc, .int .i64 rws, .int .i64 cls], .slice A n c, .int .i64 row, .int .i64 col] w _
  go_enter Tryz.func34, Tryz.ntmps34
  go_wp2_with fail
  go_quiet (fail)
  go_wp2_with fail
  try rw [← HA.out]
  try rw [← HBb.out]
  clear z1 z2 z3 z4 y3 y4
  have K0 := hide (K0.out.drewN nq)
  have HW := hide (show Below w.heap.size w ((w.alloc (.cells #[.int .i64 g1, .int .i64 g2, .int .i64 g3, .int .i64 sc, .int .i64 rws, .int .i64 cls] 84)).drewN nq) from below_drewN' HW.out nq)
  go_loopw [11, 32] (fun v iv wr => ∃ k : Nat, k ≤ n ∧ iv = .int .i64 k ∧ (∃ acc : List Int, Row wr (w.heap.size + 1) 3 1 encInt v acc ∧ Hid (acc = HT k)) ∧ Blk wr w.heap.size 84 #[.int .i64 g1, .int .i64 g2, .int .i64 g3, .int .i64 sc, .int .i64 rws, .int .i64 cls] ∧ Below w.heap.size w wr) (fun _ iv _ => n - (intOf iv).toNat)
  case atStart => exact ⟨0, Nat.zero_le _, rfl, ⟨[], Row.nil _ _ _ _ _, hide HT0.out.symm⟩, K0.out, HW.out⟩
  case round =>
    clear K0 HW
    obtain ⟨k, hk, rfl, ⟨acc, hrow, hacc⟩, k0, hbr⟩ := hrel
    obtain ⟨A0, c0, rfl⟩ := hrow.val
    have hal : acc.length ≤ 1000000 := by rw [hacc.out]; have := HTl.out k; omega
    have Hrow := hide hrow
    have K0 := hide k0
    have Hbr := hide hbr
    by_cases hlt : k < n
    · obtain ⟨b', off, r, rfl, hbl, hx, hcx⟩ := RodsAt.get (k := k) (Hh.out.carry (Flat.carried _) (hbr.mono hB) (Nat.le_refl _)) (by rw [← Hn.out]; exact hlt)
      have Hx := hide (HTn.out k r hx)
      have Hcr := hide (Hch.out r.leg)
      obtain ⟨ch, hch⟩ : ∃ ch, ch = CH r.leg := ⟨_, rfl⟩
      rw [← hch] at Hx Hcr
      obtain ⟨⟨⟨x1, x2, x3⟩, x4, x5, x6⟩, ln⟩ := r
      have e0 := hcx 0 _ rfl
      have e1 := hcx 1 _ rfl
      have e2 := hcx 2 _ rfl
      have e3 := hcx 3 _ rfl
      have e4 := hcx 4 _ rfl
      have e5 := hcx 5 _ rfl
      have e6 := hcx 6 _ rfl
      simp only [Nat.add_zero] at e0 e1 e2 e3 e4 e5 e6 Hcr Hx
      have hbw : b' < wr.heap.size := by have := hbr.size; omega
      have g3' := k0.cell 3
      simp at g3'
      have l0 := k0.lt
      have hsw := hbr.size
      have hways : (decide (x1 < a + sc) = false ∧ Hid (ch = false)) ∨ (decide (x1 < a + sc) = true ∧ decide (a ≤ x4) = false ∧ Hid (ch = false)) ∨ (decide (x1 < a + sc) = true ∧ decide (a ≤ x4) = true ∧ decide (x2 < b + sc) = false ∧ Hid (ch = false)) ∨ (decide (x1 < a + sc) = true ∧ decide (a ≤ x4) = true ∧ decide (x2 < b + sc) = true ∧ decide (b ≤ x5) = false ∧ Hid (ch = false)) ∨ (decide (x1 < a + sc) = true ∧ decide (a ≤ x4) = true ∧ decide (x2 < b + sc) = true ∧ decide (b ≤ x5) = true ∧ Hid (ch = true)) := by
        have h9 := Hcr.out
        cases q1 : decide (x1 < a + sc)
        · exact .inl ⟨rfl, hide (by rw [h9, q1]; rfl)⟩
        right
        cases q2 : decide (a ≤ x4)
        · exact .inl ⟨rfl, rfl, hide (by rw [h9, q1, q2]; rfl)⟩
        right
        cases q3 : decide (x2 < b + sc)
        · exact .inl ⟨rfl, rfl, rfl, hide (by rw [h9, q1, q2, q3]; rfl)⟩
        right
        cases q4 : decide (b ≤ x5)
        · exact .inl ⟨rfl, rfl, rfl, rfl, hide (by rw [h9, q1, q2, q3, q4]; rfl)⟩
        · exact .inr ⟨rfl, rfl, rfl, rfl, hide (by rw [h9, q1, q2, q3, q4]; rfl)⟩
      clear hx hbl hcx hch hrow k0 hbr Hcr
      rcases hways with ⟨q1, hr⟩ | ⟨q1, q2, hr⟩ | ⟨q1, q2, q3, hr⟩ | ⟨q1, q2, q3, q4, hr⟩ | ⟨q1, q2, q3, q4, hr⟩
      · have hfin := hide (show HT (k + 1) = acc by rw [Hx.out, hr.out, hacc.out]; simp)
        go_wp2_with fail
        go_roundw
        case rel => exact ⟨k + 1, by omega, by go_num, ⟨acc, Hrow.out.alloc _, hide hfin.out.symm⟩, K0.out.alloc _, Hbr.out.alloc hsw _⟩
        case measure => simp [intOf]; omega
      · have hfin := hide (show HT (k + 1) = acc by rw [Hx.out, hr.out, hacc.out]; simp)
        go_wp2_with fail
        go_roundw
        case rel => exact ⟨k + 1, by omega, by go_num, ⟨acc, Hrow.out.alloc _, hide hfin.out.symm⟩, K0.out.alloc _, Hbr.out.alloc hsw _⟩
        case measure => simp [intOf]; omega
      · have hfin := hide (show HT (k + 1) = acc by rw [Hx.out, hr.out, hacc.out]; simp)
        go_wp2_with fail
        go_roundw
        case rel => exact ⟨k + 1, by omega, by go_num, ⟨acc, Hrow.out.alloc _, hide hfin.out.symm⟩, K0.out.alloc _, Hbr.out.alloc hsw _⟩
        case measure => simp [intOf]; omega
      · have hfin := hide (show HT (k + 1) = acc by rw [Hx.out, hr.out, hacc.out]; simp)
        go_wp2_with fail
        go_roundw
        case rel => exact ⟨k + 1, by omega, by go_num, ⟨acc, Hrow.out.alloc _, hide hfin.out.symm⟩, K0.out.alloc _, Hbr.out.alloc hsw _⟩
        case measure => simp [intOf]; omega
      · have hfin := hide (show HT (k + 1) = acc ++ [ln] by rw [Hx.out, hr.out, hacc.out]; rfl)
        go_wp2_with (at_builtin; refine wpList_append1 rfl (.tmp 72) (.tmp 75) 62 rfl (w.heap.size + 1) 3 (.int .i64 0) 1 8 encInt Tryz.underlying62 (by kernel_rfl) rfl (by omega) encInt_len encInt_one _ acc ln rfl ((Hrow.out.alloc _).alloc _) _ rfl (Blk.new1 wr _ _ _) hal (by omega) (by simp; omega) ?_; intro A9 c9 w9 hrow9 hb9 hkeep9)
        go_roundw
        case rel => exact ⟨k + 1, by omega, by go_num, ⟨acc ++ [ln], by simpa using hrow9, hide hfin.out.symm⟩, hkeep9 _ _ _ (by decide) ((K0.out.alloc _).alloc _), ((Hbr.out.alloc hsw _).alloc (le_alloc hsw _) _).trans (hb9.mono (Nat.le_succ _))⟩
        case measure => simp [intOf]; omega
    · obtain rfl : k = n := by omega
      rw [HTa.out] at hacc
      have Hse := hide (show SE = Lib.compact (acc.mergeSort fun x y => decide (x ≤ y)) by rw [hacc.out]; exact Hseen.out.symm)
      have Hb := hide hbr
      by_cases h0 : acc.length = 0
      · have h9 : acc = [] := List.length_eq_zero_iff.1 h0
        have Hse := hide (show SE = [] by rw [Hse.out, h9]; simp [Lib.compact, Lib.compactUpTo])
        clear hrow Hrow k0 K0 hbr Hbr hacc h9 hal
        rw [h0]
        clear h0
        go_wp2_with (first
          | (go_at_call 66; refine (Tryz.slices_Sort_int_none _ _ _).mono ?_; rintro e w2 ⟨rfl, rfl⟩)
          | (go_at_call 67; refine (Tryz.slices_Compact_int_empty _ _ _).mono ?_; rintro e w2 ⟨rfl, rfl⟩))
        go_ret
        exact ⟨A0, c0, by rw [Hse.out]; rfl, by rw [Hse.out]; exact SlOf.nil _ _ _ _ _, Hb.out⟩
      · have hown : wr.ownsRow w.heap.size 3 1 (.slice A0 acc.length c0) acc.length (acc.map (Value.int .i64)) := by
          have h9 := rowBase (Nat.le_succ _) hrow
          unfold Row at h9
          rwa [flat_ints] at h9
        obtain ⟨gg, cap, hv, hbg, hgl, hncap, hcm, hlen, hH⟩ := Lib.holds_of_ownsRow hown (by intro h9; injection h9 with _ h9 _; exact h0 h9)
        injection hv with hv1 hv2 hv3
        subst hv1
        subst hv3
        have HX := hide (And.intro hown (And.intro hbg (And.intro hgl (And.intro hncap hH))))
        have hS := Tryz.slices_Sort_int gg 0 c0 acc wr hH hgl (by omega)
        have HS := hide hS
        have Hl2 := hide (show (acc.mergeSort fun x y => decide (x ≤ y)).length = acc.length from List.length_mergeSort acc)
        clear hrow Hrow k0 K0 hbr Hbr hacc hown hH hlen hv2 hS hbg hgl hncap hcm
        go_wp2_with fail
        refine HS.out.mono ?_
        rintro e w2 ⟨rfl, nn, os, hw2⟩
        have hH2 : Holds (Value.int .i64) w2 gg 0 (acc.mergeSort fun x y => decide (x ≤ y)).toArray := by
          rw [hw2]
          exact holds_grow _ _ os gg 0 _ (by simpa [putRow, mapBlock, Sort.ahead] using HX.out.2.2.1) (holds_putRow _ _ gg 0 _ _ (holds_ahead _ wr nn gg 0 _ HX.out.2.2.2.2) (by simp))
        have hC := Tryz.slices_Compact_int gg 0 c0 (acc.mergeSort fun x y => decide (x ≤ y)) w2 hH2 (by rw [Hl2.out]; omega) (by rw [Hl2.out]; exact HX.out.2.2.2.1)
        rw [Hl2.out] at hC
        have HC := hide hC
        have Hw2 := hide hw2
        clear hC hH2 hw2 HS
        go_wp2_with fail
        refine HC.out.mono ?_
        rintro e w3 ⟨rfl, qq, hw3⟩
        rw [Hw2.out] at hw3
        have HF := hide (show Row w3 w.heap.size 3 1 encInt (.slice (some ⟨gg, 0, none⟩) (Lib.compact (acc.mergeSort fun x y => decide (x ≤ y))).length c0) (Lib.compact (acc.mergeSort fun x y => decide (x ≤ y))) ∧ Below w.heap.size w w3 by
          rw [hw3]
          exact sorted_left HX.out.1 Hb.out HX.out.2.1)
        clear hw3 HC Hw2
        rw [← Hse.out] at HF ⊢
        go_wp2_with fail
        go_ret
        exact ⟨some ⟨gg, 0, none⟩, c0, rfl, Row.read HF.out.1 encInt_len (by omega), HF.out.2⟩
end Go.Proofs.YtpmipoljnchheaaGreat
namespace Go.Proofs.YtpmipoljnchheaaGreat
open Go.RowKit

def encSt (s : ByteArray) : List Value := [.string s]
theorem encSt_len (s : ByteArray) : (encSt s).length = 1 := rfl
theorem encSt_one (s : ByteArray) : ∀ u ∈ encSt s, u.oneCell' = true := by
  intro u hu
  simp [encSt] at hu
  subst hu
  rfl
abbrev StrsAt (w : World) (B : Nat) (A : Option Addr) (l : List ByteArray) : Prop := SlOf w B 1 (Flat encSt) A l
theorem StrsAt.get {w : World} {B : Nat} {A : Option Addr} {l : List ByteArray} (h : StrsAt w B A l) {k : Nat} (hk : k < l.length) :
    ∃ b off x, A = some ⟨b, off, none⟩ ∧ b < B ∧ l[k]? = some x ∧ w.cell? ⟨b, off + k, none⟩ = some (.string x) := by
  obtain ⟨b, off, x, vs, hA, hb, hx, _, hr, hc⟩ := h.at_ hk
  have := hc 0 (.string x) (by rw [show vs = encSt x from hr]; rfl)
  simp at this
  exact ⟨b, off, x, hA, hb, hx, this⟩
def barMark (bars : List BarD) (k : Int) : ByteArray := match bars[k.toNat]? with
  | some x => x.mark
  | none => ByteArray.empty
def seenAt (x : DetD) (s row col : Int) : List Int := seenOf x.bars.length (gridOf x s) (rodsOf x.bars x.runs) row col
def marksAt (x : DetD) (s row col : Int) : List ByteArray := (seenAt x s row col).map (barMark x.bars)
theorem plan_detOk {x : DetD} {s : Int} (h : planErr x s = 0) : detOk x = true ∧ (1 ≤ s ∧ s ≤ 1048576) ∧ (gridOf x s).rows * (gridOf x s).cols ≤ 20000 := by
  unfold planErr at h
  split at h
  · cases h
  rename_i h1
  split at h
  · cases h
  rename_i h2
  split at h
  · cases h
  rename_i h3
  refine ⟨by simpa using h1, by omega, by omega⟩
theorem ediv_mul_range {n s : Int} (h0 : 0 ≤ n) (h1 : n ≤ 4194304) (hs : 1 ≤ s ∧ s ≤ 1048576) {k : Int} (hk : 0 ≤ k) (hk1 : k < upQ n s) : 0 ≤ k * s ∧ k * s ≤ 8388608 := by
  have a := Int.mul_nonneg hk (show 0 ≤ s by omega)
  have b := Int.ediv_mul_le (n + s - 1) (show s ≠ 0 by omega)
  have c := Int.mul_le_mul_of_nonneg_right (show k ≤ upQ n s by omega) (show 0 ≤ s by omega)
  unfold upQ at c
  omega
theorem thick_lt {b : BoxD} (h : thickOk b = true) : b.lo.1 < b.hi.1 ∧ b.lo.2.1 < b.hi.2.1 := by
  simp only [thickOk, Bool.and_eq_true, decide_eq_true_eq] at h
  omega
theorem hullOn_lt : ∀ (l : List BoxD) (a : BoxD), a.lo.1 < a.hi.1 ∧ a.lo.2.1 < a.hi.2.1 → (hullOn a l).lo.1 < (hullOn a l).hi.1 ∧ (hullOn a l).lo.2.1 < (hullOn a l).hi.2.1 := by
  intro l
  induction l with
  | nil => intro a h; exact h
  | cons b l ih =>
    intro a h
    refine ih _ ?_
    simp only [minP, maxP]
    omega
theorem upQ_pos {n s : Int} (h0 : 1 ≤ n) (hs : 1 ≤ s) : 1 ≤ upQ n s := by
  unfold upQ
  exact (Int.le_ediv_iff_mul_le (by omega)).2 (by omega)
structure PlanFacts (x : DetD) (s : Int) : Prop where
  det : detOk x = true
  laid : laidOk x.bars x.runs = true
  sc : 1 ≤ s ∧ s ≤ 1048576
  lo : nearBy 1048576 (gridOf x s).lo = true
  rows : 1 ≤ (gridOf x s).rows ∧ (gridOf x s).rows ≤ 20000
  cols : 1 ≤ (gridOf x s).cols ∧ (gridOf x s).cols ≤ 20000
  row : ∀ k, 0 ≤ k → k < (gridOf x s).rows → 0 ≤ k * s ∧ k * s ≤ 8388608
  col : ∀ k, 0 ≤ k → k < (gridOf x s).cols → 0 ≤ k * s ∧ k * s ≤ 8388608
theorem plan_facts {x : DetD} {s : Int} (h : planErr x s = 0) : PlanFacts x s := by
  obtain ⟨h1, h2, h3⟩ := plan_detOk h
  have hh := boxOk_iff.1 (detOk_hull h1)
  have hb := solid_boxes (detOk_parts h1).2.2
  have hlt : (hullOf x.mem.boxes).lo.1 < (hullOf x.mem.boxes).hi.1 ∧ (hullOf x.mem.boxes).lo.2.1 < (hullOf x.mem.boxes).hi.2.1 := by
    have hso := (detOk_parts h1).2.2
    simp only [solidOk, Bool.and_eq_true] at hso
    have hth := hso.1.2
    cases hbx : x.mem.boxes with
    | nil => rw [hbx] at hb; simp at hb
    | cons b l =>
      rw [hbx, List.all_cons, Bool.and_eq_true] at hth
      exact hullOn_lt _ _ (thick_lt hth.1)
  have hr1 : 1 ≤ (gridOf x s).rows := upQ_pos (by omega) h2.1
  have hc1 : 1 ≤ (gridOf x s).cols := upQ_pos (by omega) h2.1
  have hr2 := Int.mul_le_mul_of_nonneg_left hc1 (show 0 ≤ (gridOf x s).rows by omega)
  have hc2 := Int.mul_le_mul_of_nonneg_right hr1 (show 0 ≤ (gridOf x s).cols by omega)
  rw [Int.mul_one] at hr2
  rw [Int.one_mul] at hc2
  refine ⟨h1, (detOk_parts h1).2.1, h2, ?_, by omega, by omega, fun k k0 k1 => ediv_mul_range (by omega) (by omega) h2 k0 k1, fun k k0 k1 => ediv_mul_range (by omega) (by omega) h2 k0 k1⟩
  rw [nearBy_iff]
  simp only [gridOf]
  omega
theorem rods_lines {bars : List BarD} {runs : List RunD} (hok : laidOk bars runs = true) : ∀ r ∈ rodsOf bars runs, 0 ≤ r.line ∧ r.line < (bars.length : Nat) := by
  intro r hr
  simp only [rodsOf, List.mem_flatMap] at hr
  obtain ⟨l, hl, hr⟩ := hr
  simp only [rodsOfBar, List.mem_map] at hr
  obtain ⟨b, _, rfl⟩ := hr
  simp only
  have hbar : l.bar ∈ bars := by
    simp only [laidAll, List.mem_flatMap] at hl
    obtain ⟨u, hu, hl⟩ := hl
    obtain ⟨j, y, hj, hy, hyb, _⟩ := runOk_bar ((laidOk_mem hok).2.2 u hu)
    rw [laidRun_of hyb] at hl
    simp only [laidTo, List.mem_map] at hl
    obtain ⟨q, _, rfl⟩ := hl
    exact mem_of_get hy
  have h1 := idx_any (markIs l.bar.mark) bars
  have h2 : bars.any (markIs l.bar.mark) = true := List.any_eq_true.2 ⟨_, hbar, by simp [markIs]⟩
  rw [h2, decide_eq_true_eq] at h1
  exact ⟨h1, (idx_range _ _).2⟩
theorem rodsOf_len {bars : List BarD} {runs : List RunD} (hok : laidOk bars runs = true) : (rodsOf bars runs).length ≤ 12000 := by
  have h1 := (laidOk_len hok).2
  refine Nat.le_trans (rods_len _ (fun y hy => ?_)) (by omega : 6 * (laidAll bars runs).length ≤ 12000)
  obtain ⟨j, hj, rfl⟩ := List.getElem_of_mem hy
  exact (laid_near runs j _ (laidOk_mem hok).2.2 (List.getElem?_eq_getElem hj)).2.2
set_option maxHeartbeats 4000000 in
set_option maxRecDepth 100000 in
theorem planSize_any (x : DetD) (s : DetS) (sc : Int) (w : World) {B : Nat} (h : DetAt w B x s) (hB : B ≤ w.heap.size) (hf : DetFit x s) :
    Calls Tryz.prog 14 #[detV x s, .int .i64 sc] w fun e w' => e = .returned (.tuple #[.int .i64 (planGrid x sc).rows, .int .i64 (planGrid x sc).cols, .int .i64 (planErr x sc)]) ∧ Below w.heap.size w w' := by
  have HM := hide (fun (W : World) (hz : Below w.heap.size w W) => made_any x s sc W (h.carry (hz.mono hB) (Nat.le_refl _)) (Nat.le_trans hB hz.size) hf)
  have Hi := hide (show (Tryz.prog.info? 34).map (·.size) = some 19 by kernel_rfl)
  have K0 := hide (Blk.new w 34 (detCells x.mem x.rule s))
  have HW := hide (below_new w (.cells (detCells x.mem x.rule s) 34))
  generalize planGrid x sc = g at *
  generalize planErr x sc = er at *
  obtain ⟨⟨g1, g2, g3⟩, g4, g5, g6⟩ := g
  obtain ⟨mem, bars, runs, laps, dems, rule⟩ := x
  obtain ⟨a1, n1, c1, a2, n2, c2, a3, n3, c3, a4, n4, c4, a5, n5, c5, a6, n6, c6⟩ := s
  obtain ⟨name, boxes, holes, cover, agg, poker⟩ := mem
  obtain ⟨r1, r2, r3, r4, r5, r6, r7, r8, r9⟩ := rule
  simp only [detCells] at K0 HW
  clear h hf
  show Calls Tryz.prog 14 #[.agg #[.string name, .slice a1 n1 c1, .slice a2 n2 c2, .int .i64 cover, .int .i64 agg, .int .i64 poker, .slice a3 n3 c3, .slice a4 n4 c4, .slice a5 n5 c5, .slice a6 n6 c6, .int .i64 r1, .int .i64 r2, .int .i64 r3, .int .i64 r4, .int .i64 r5, .int .i64 r6, .int .i64 r7, .int .i64 r8, .int .i64 r9], .int .i64 sc] w _
  go_enter Tryz.func14, Tryz.ntmps14
  go_wp2_with (refine wpList_load_row rfl 34 (.tmp 2) rfl w.heap.size rfl 34 _ (0, 0) _ K0.out Tryz.underlying34 rfl Hi.out ?_)
  refine (HM.out _ HW.out).mono ?_
  rintro e w2 ⟨rfl, hb2⟩
  have HW2 := hide (below_step HW.out hb2 (Nat.le_refl _))
  clear hb2 HM K0 HW Hi
  go_wp2_with fail
  go_quiet (fail)
  go_wp2_with fail
  go_ret3
  exact ⟨rfl, below_drewN' (HW2.out.alloc HW2.out.size _) _⟩
end Go.Proofs.YtpmipoljnchheaaGreat
namespace Go.Proofs.YtpmipoljnchheaaGreat
open Go.RowKit

/-- A point is in the grid. -/
def InGrid (g : GridD) (p : Pt) : Prop := (g.lo.1 ≤ p.1 ∧ p.1 < g.lo.1 + g.cols * g.scale) ∧ (g.lo.2.1 ≤ p.2.1 ∧ p.2.1 < g.lo.2.1 + g.rows * g.scale)
instance (g : GridD) (p : Pt) : Decidable (InGrid g p) := by unfold InGrid; infer_instance
def cellRow (g : GridD) (p : Pt) : Int := (p.2.1 - g.lo.2.1) / g.scale
def cellCol (g : GridD) (p : Pt) : Int := (p.1 - g.lo.1) / g.scale
theorem div_cell {a s n : Int} (hs : 1 ≤ s) (h0 : 0 ≤ a) (h1 : a < n * s) : (0 ≤ a / s ∧ a / s < n) ∧ (a / s * s ≤ a ∧ a < a / s * s + s) := by
  refine ⟨⟨Int.ediv_nonneg h0 (by omega), (Int.ediv_lt_iff_lt_mul (by omega)).2 h1⟩, Int.ediv_mul_le a (by omega), ?_⟩
  have := Int.lt_ediv_add_one_mul_self a (show 0 < s by omega)
  rw [Int.add_mul, Int.one_mul] at this
  exact this
theorem cell_range {g : GridD} {p : Pt} (hs : 1 ≤ g.scale) (h : InGrid g p) : (0 ≤ cellRow g p ∧ cellRow g p < g.rows) ∧ (0 ≤ cellCol g p ∧ cellCol g p < g.cols) := by
  obtain ⟨⟨a, b⟩, c, d⟩ := h
  exact ⟨(div_cell hs (by omega) (by omega)).1, (div_cell hs (by omega) (by omega)).1⟩
theorem leg_mem : ∀ (l : List Pt) (b : BoxD), b ∈ legsOfPts l → b.lo.1 ≤ b.hi.1 ∧ b.lo.2.1 ≤ b.hi.2.1 := by
  intro l
  induction l with
  | nil => intro b h; simp [legsOfPts] at h
  | cons p l ih =>
    intro b h
    cases l with
    | nil => simp [legsOfPts] at h
    | cons q r =>
      rw [legsOfPts] at h
      rcases List.mem_cons.1 h with rfl | h
      · simp only [legBox, minP, maxP]
        omega
      · exact ih b h
theorem hit_end {g : GridD} {b : BoxD} {p : Pt} (hs : 1 ≤ g.scale) (hb : b.lo.1 ≤ b.hi.1 ∧ b.lo.2.1 ≤ b.hi.2.1) (hp : p = b.lo ∨ p = b.hi) (h : InGrid g p) : cellHit g (cellRow g p) (cellCol g p) b = true := by
  obtain ⟨⟨a1, a2⟩, a3, a4⟩ := h
  have h1 := (div_cell (a := p.1 - g.lo.1) (n := g.cols) hs (by omega) (by omega)).2
  have h2 := (div_cell (a := p.2.1 - g.lo.2.1) (n := g.rows) hs (by omega) (by omega)).2
  simp only [cellHit, Bool.and_eq_true, decide_eq_true_eq]
  unfold cellRow cellCol
  generalize (p.1 - g.lo.1) / g.scale * g.scale = q1 at h1 ⊢
  generalize (p.2.1 - g.lo.2.1) / g.scale * g.scale = q2 at h2 ⊢
  rcases hp with hp | hp <;> rw [hp] at h1 h2 a1 a2 a3 a4 <;> refine ⟨⟨⟨?_, ?_⟩, ?_⟩, ?_⟩ <;> omega
theorem rod_of {bars : List BarD} {runs : List RunD} {i : Nat} {ld : LaidD} {b : BoxD} (h : (laidAll bars runs)[i]? = some ld) (hb : b ∈ legsOfPts ld.pts) : (⟨b, idx (markIs ld.bar.mark) bars⟩ : RodD) ∈ rodsOf bars runs := by
  simp only [rodsOf, List.mem_flatMap]
  exact ⟨ld, mem_of_get h, List.mem_map.2 ⟨b, hb, rfl⟩⟩
theorem barMark_idx {bars : List BarD} {m : ByteArray} (h : 0 ≤ idx (markIs m) bars) : barMark bars (idx (markIs m) bars) = m := by
  obtain ⟨j, hj⟩ := Int.eq_ofNat_of_zero_le h
  obtain ⟨x, hx, hp, _⟩ := idx_spec hj
  rw [hj, barMark, Int.toNat_natCast, hx]
  exact (markIs_eq hp).symm
/-- An end of a leg that is in a cell is seen there. -/
theorem end_seen {x : DetD} {s : Int} (h : planErr x s = 0) {i : Nat} {ld : LaidD} {b : BoxD} {p : Pt} (hi : (laidAll x.bars x.runs)[i]? = some ld) (hb : b ∈ legsOfPts ld.pts) (hp : p = b.lo ∨ p = b.hi) (hin : InGrid (gridOf x s) p) :
    ld.bar.mark ∈ marksAt x s (cellRow (gridOf x s) p) (cellCol (gridOf x s) p) := by
  have hpf := plan_facts h
  have hr := rods_lines hpf.laid _ (rod_of hi hb)
  simp only at hr
  refine List.mem_map.2 ⟨idx (markIs ld.bar.mark) x.bars, mem_seenOf.2 ⟨hr, ?_⟩, barMark_idx hr.1⟩
  refine List.mem_map.2 ⟨_, List.mem_filter.2 ⟨rod_of hi hb, ?_⟩, rfl⟩
  exact hit_end hpf.sc.1 (leg_mem _ _ hb) hp hin
def runIs (m : ByteArray) (r : RunD) : Bool := r.mark.toList == m.toList
/-- A mark that is seen has a run. -/
theorem seen_run {x : DetD} {s row col : Int} (h : planErr x s = 0) {m : ByteArray} (hm : m ∈ marksAt x s row col) : x.runs.any (runIs m) = true := by
  have hpf := plan_facts h
  obtain ⟨k, hk, rfl⟩ := List.mem_map.1 hm
  obtain ⟨_, hk⟩ := mem_seenOf.1 hk
  obtain ⟨r, hr, rfl⟩ := List.mem_map.1 hk
  have hr := (List.mem_filter.1 hr).1
  have hln := (rods_lines hpf.laid r hr).1
  simp only [rodsOf, List.mem_flatMap] at hr
  obtain ⟨l, hl, hr⟩ := hr
  simp only [rodsOfBar, List.mem_map] at hr
  obtain ⟨b, _, rfl⟩ := hr
  simp only at hln ⊢
  rw [barMark_idx hln]
  simp only [laidAll, List.mem_flatMap] at hl
  obtain ⟨u, hu, hl⟩ := hl
  obtain ⟨j, y, hj, hy, hyb, _⟩ := runOk_bar ((laidOk_mem hpf.laid).2.2 u hu)
  rw [laidRun_of hyb] at hl
  simp only [laidTo, List.mem_map] at hl
  obtain ⟨q, _, rfl⟩ := hl
  obtain ⟨z, hz, hzm, _⟩ := idx_spec hj
  rw [hy] at hz
  injection hz with hz
  subst hz
  refine List.any_eq_true.2 ⟨u, hu, ?_⟩
  rw [runIs, ← markIs_eq hzm]
  exact beq_self_eq_true _
theorem legs_some {code : Int} (h : dimsE code = 0) : 1 ≤ (legsOf code).length := by
  cases hl : legsOf code with
  | nil => simp [dimsE, dimsN, hl] at h
  | cons a l => simp
theorem laid_legs {bars : List BarD} {runs : List RunD} {i : Nat} {l : LaidD} (hok : laidOk bars runs = true) (h : (laidAll bars runs)[i]? = some l) : 1 ≤ (legsOfPts l.pts).length ∧ (legsOfPts l.pts).length ≤ 6 := by
  refine ⟨?_, by have := (laid_near runs i l (laidOk_mem hok).2.2 h).2.2; rw [legsOfPts_len]; omega⟩
  have hl := mem_of_get h
  simp only [laidAll, List.mem_flatMap] at hl
  obtain ⟨u, hu, hl⟩ := hl
  obtain ⟨j, y, hj, hy, hyb, _⟩ := runOk_bar ((laidOk_mem hok).2.2 u hu)
  rw [laidRun_of hyb] at hl
  simp only [laidTo, List.mem_map] at hl
  obtain ⟨q, _, rfl⟩ := hl
  have hb := (laidOk_mem hok).1 y (mem_of_get hy)
  simp only [barOk, Bool.and_eq_true, decide_eq_true_eq] at hb
  have := legs_some hb.1.1.1.1.1.1
  rw [legsOfPts_len]
  simp only [ptsOf, List.length_map, pathOf_len]
  omega
end Go.Proofs.YtpmipoljnchheaaGreat
namespace Go.Proofs.YtpmipoljnchheaaGreat
open Go.RowKit

def cellTuple (g : GridD) (p : Pt) : Array Value := if InGrid g p then #[.int .i64 (cellRow g p), .int .i64 (cellCol g p), .int .i64 0] else #[.int .i64 0, .int .i64 0, .int .i64 12]
theorem end_range {n s : Int} (hs : 1 ≤ s ∧ s ≤ 1048576) (hn : 1 ≤ n) (h : ∀ k, 0 ≤ k → k < n → 0 ≤ k * s ∧ k * s ≤ 8388608) : 0 ≤ n * s ∧ n * s ≤ 9437184 := by
  have h1 := h (n - 1) (by omega) (by omega)
  rw [Int.sub_mul, Int.one_mul] at h1
  omega
set_option maxHeartbeats 4000000 in
set_option maxRecDepth 100000 in
theorem planCell_ok (x : DetD) (s : DetS) (sc : Int) (p : Pt) (w : World) {B : Nat} (h : DetAt w B x s) (hB : B ≤ w.heap.size) (hf : DetFit x s) (he : planErr x sc = 0) :
    Calls Tryz.prog 15 #[detV x s, .int .i64 sc, .agg #[.int .i64 p.1, .int .i64 p.2.1, .int .i64 p.2.2]] w fun e w' => e = .returned (.tuple (cellTuple (gridOf x sc) p)) ∧ Below w.heap.size w w' := by
  have hpf := plan_facts he
  have hM := fun (W : World) (hz : Below w.heap.size w W) => made_any x s sc W (h.carry (hz.mono hB) (Nat.le_refl _)) (Nat.le_trans hB hz.size) hf
  rw [plan_ok he, he] at hM
  have HM := hide hM
  obtain ⟨p1, p2, p3⟩ := p
  have Hi := hide (show (Tryz.prog.info? 34).map (·.size) = some 19 by kernel_rfl)
  have K0 := hide ((Blk.new w 34 (detCells x.mem x.rule s)).alloc (.cells #[.int .i64 p1, .int .i64 p2, .int .i64 p3] 44))
  have KP := hide (Blk.new1 w (.cells (detCells x.mem x.rule s) 34) 44 #[.int .i64 p1, .int .i64 p2, .int .i64 p3])
  have HW := hide ((below_new w (.cells (detCells x.mem x.rule s) 34)).alloc (by simp) (.cells #[.int .i64 p1, .int .i64 p2, .int .i64 p3] 44))
  have hr := end_range hpf.sc hpf.rows.1 hpf.row
  have hc := end_range hpf.sc hpf.cols.1 hpf.col
  have hlo := nearBy_iff.1 hpf.lo
  obtain ⟨hs0, hs1⟩ := hpf.sc
  have Hres := hide (show cellTuple (gridOf x sc) (p1, p2, p3) = if (((gridOf x sc).lo.1 ≤ p1 ∧ p1 < (gridOf x sc).lo.1 + (gridOf x sc).cols * sc) ∧ ((gridOf x sc).lo.2.1 ≤ p2 ∧ p2 < (gridOf x sc).lo.2.1 + (gridOf x sc).rows * sc)) then #[.int .i64 ((p2 - (gridOf x sc).lo.2.1) / sc), .int .i64 ((p1 - (gridOf x sc).lo.1) / sc), .int .i64 0] else #[.int .i64 0, .int .i64 0, .int .i64 12] from rfl)
  obtain ⟨res, hres⟩ : ∃ r, r = cellTuple (gridOf x sc) (p1, p2, p3) := ⟨_, rfl⟩
  rw [← hres] at Hres ⊢
  clear hres hpf hM he
  generalize gridOf x sc = g at *
  obtain ⟨⟨g1, g2, g3⟩, g4, g5, g6⟩ := g
  simp only at hr hc hlo Hres
  obtain ⟨mem, bars, runs, laps, dems, rule⟩ := x
  obtain ⟨a1, n1, c1, a2, n2, c2, a3, n3, c3, a4, n4, c4, a5, n5, c5, a6, n6, c6⟩ := s
  obtain ⟨name, boxes, holes, cover, agg, poker⟩ := mem
  obtain ⟨r1, r2, r3, r4, r5, r6, r7, r8, r9⟩ := rule
  simp only [detCells] at K0 KP HW
  clear h hf
  have z1 : IntKind.i64.wrap (g6 * sc) = g6 * sc := IntWalk.i64_in _ (by omega)
  have z2 : IntKind.i64.wrap (g5 * sc) = g5 * sc := IntWalk.i64_in _ (by omega)
  obtain ⟨q6, hq6⟩ : ∃ q, q = g6 * sc := ⟨_, rfl⟩
  obtain ⟨q5, hq5⟩ : ∃ q, q = g5 * sc := ⟨_, rfl⟩
  rw [← hq6] at z1 hc Hres
  rw [← hq5] at z2 hr Hres
  have Hq6 := hide hq6.symm
  have Hq5 := hide hq5.symm
  have z3 : IntKind.i64.wrap (g1 + q6) = g1 + q6 := IntWalk.i64_in _ (by omega)
  have z4 : IntKind.i64.wrap (g2 + q5) = g2 + q5 := IntWalk.i64_in _ (by omega)
  have m6 : g6 * sc = q6 := Hq6.out
  have m5 : g5 * sc = q5 := Hq5.out
  clear hq5 hq6
  have hways : decide (p1 < g1) = true ∨ (decide (p1 < g1) = false ∧ decide (g1 + q6 ≤ p1) = true) ∨ (decide (p1 < g1) = false ∧ decide (g1 + q6 ≤ p1) = false ∧ decide (p2 < g2) = true) ∨ (decide (p1 < g1) = false ∧ decide (g1 + q6 ≤ p1) = false ∧ decide (p2 < g2) = false ∧ decide (g2 + q5 ≤ p2) = true) ∨ (decide (p1 < g1) = false ∧ decide (g1 + q6 ≤ p1) = false ∧ decide (p2 < g2) = false ∧ decide (g2 + q5 ≤ p2) = false) := by
    cases decide (p1 < g1) <;> cases decide (g1 + q6 ≤ p1) <;> cases decide (p2 < g2) <;> cases decide (g2 + q5 ≤ p2) <;> simp
  show Calls Tryz.prog 15 #[.agg #[.string name, .slice a1 n1 c1, .slice a2 n2 c2, .int .i64 cover, .int .i64 agg, .int .i64 poker, .slice a3 n3 c3, .slice a4 n4 c4, .slice a5 n5 c5, .slice a6 n6 c6, .int .i64 r1, .int .i64 r2, .int .i64 r3, .int .i64 r4, .int .i64 r5, .int .i64 r6, .int .i64 r7, .int .i64 r8, .int .i64 r9], .int .i64 sc, .agg #[.int .i64 p1, .int .i64 p2, .int .i64 p3]] w _
  go_enter Tryz.func15, Tryz.ntmps15
  go_wp2_with (refine wpList_load_row rfl 34 (.tmp 3) rfl w.heap.size rfl 34 _ (0, 0) _ K0.out Tryz.underlying34 rfl Hi.out ?_)
  refine (HM.out _ HW.out).mono ?_
  rintro e w2 ⟨rfl, hb2⟩
  have KP := hide (KP.out.keep hb2)
  have HW2 := hide (below_step HW.out hb2 (Nat.le_refl _))
  have KG := hide (Blk.new w2 84 #[.int .i64 g1, .int .i64 g2, .int .i64 g3, .int .i64 g4, .int .i64 g5, .int .i64 g6])
  have KP := hide (KP.out.alloc (.cells #[.int .i64 g1, .int .i64 g2, .int .i64 g3, .int .i64 g4, .int .i64 g5, .int .i64 g6] 84))
  have HW3 := hide (HW2.out.alloc HW2.out.size (.cells #[.int .i64 g1, .int .i64 g2, .int .i64 g3, .int .i64 g4, .int .i64 g5, .int .i64 g6] 84))
  have k0 := KG.out.cell 0
  have k1 := KG.out.cell 1
  have k4 := KG.out.cell 4
  have k5 := KG.out.cell 5
  have e0 := KP.out.cell 0
  have e1 := KP.out.cell 1
  simp at k0 k1 k4 k5 e0 e1
  have lg := KG.out.lt
  have lp := KP.out.lt
  clear hb2 HM K0 HW HW2 Hi
  rcases hways with q0 | ⟨q0, q1⟩ | ⟨q0, q1, q2⟩ | ⟨q0, q1, q2, q3⟩ | ⟨q0, q1, q2, q3⟩
  · have Hr := hide (show res = #[.int .i64 0, .int .i64 0, .int .i64 12] by rw [Hres.out, if_neg (by simp only [decide_eq_true_eq] at q0; omega)])
    clear Hres
    go_wp2_with fail
    go_ret3
    refine ⟨?_, HW3.out⟩
    rw [Hr.out]
    rfl
  · have Hr := hide (show res = #[.int .i64 0, .int .i64 0, .int .i64 12] by rw [Hres.out, if_neg (by simp only [decide_eq_true_eq] at q1; omega)])
    clear Hres
    go_wp2_with fail
    go_ret3
    refine ⟨?_, HW3.out⟩
    rw [Hr.out]
    rfl
  · have Hr := hide (show res = #[.int .i64 0, .int .i64 0, .int .i64 12] by rw [Hres.out, if_neg (by simp only [decide_eq_true_eq] at q2; omega)])
    clear Hres
    go_wp2_with fail
    go_ret3
    refine ⟨?_, HW3.out⟩
    rw [Hr.out]
    rfl
  · have Hr := hide (show res = #[.int .i64 0, .int .i64 0, .int .i64 12] by rw [Hres.out, if_neg (by simp only [decide_eq_true_eq] at q3; omega)])
    clear Hres
    go_wp2_with fail
    go_ret3
    refine ⟨?_, HW3.out⟩
    rw [Hr.out]
    rfl
  · have o0 : g1 ≤ p1 := by simp only [decide_eq_false_iff_not] at q0; omega
    have o1 : p1 < g1 + q6 := by simp only [decide_eq_false_iff_not] at q1; omega
    have o2 : g2 ≤ p2 := by simp only [decide_eq_false_iff_not] at q2; omega
    have o3 : p2 < g2 + q5 := by simp only [decide_eq_false_iff_not] at q3; omega
    have Hr := hide (show res = #[.int .i64 ((p2 - g2) / sc), .int .i64 ((p1 - g1) / sc), .int .i64 0] by rw [Hres.out, if_pos ⟨⟨o0, o1⟩, o2, o3⟩])
    have y1 : IntKind.i64.wrap (p1 - g1) = p1 - g1 := IntWalk.i64_in _ (by omega)
    have y2 : IntKind.i64.wrap (p2 - g2) = p2 - g2 := IntWalk.i64_in _ (by omega)
    have u1 : 0 ≤ p1 - g1 ∧ p1 - g1 ≤ 9437184 := by omega
    have u2 : 0 ≤ p2 - g2 ∧ p2 - g2 ≤ 9437184 := by omega
    clear Hres o0 o1 o2 o3
    go_wp2_with fail
    go_quiet (fail)
    go_wp2_with fail
    go_ret3
    refine ⟨?_, below_drewN' HW3.out _⟩
    rw [Hr.out]
    rfl
end Go.Proofs.YtpmipoljnchheaaGreat
