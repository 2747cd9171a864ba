/- The lines of the schedule that are seen in a cell: the walk. The size of a plan, and the marks in a cell. The marks in a cell. strings.Builder, whatever struct it lies in first: its methods at a builder that the call itself has made. (After the guide's own walks, turned to a block of any type T.) -/
import Derived.Test.YtpmipoljnchheaaGreatMap
import Derived.Test.YtpmipoljnchheaaGreatShelf
import Derived.Deep.QuietTactic
import Derived.BigQuiet
import Derived.Test.YtpmipoljnchheaaGreatMaa
import Derived.Lib.Builder
import Derived.Lib.AppendStr
import Derived.Lib.UnsafeStr
import Derived.Laws.Externs
import Derived.RegionTactic
import Derived.BigRegion
namespace Go.Proofs.YtpmipoljnchheaaGreat
open Go.RowKit Go.Sort

set_option maxHeartbeats 4000000 in
set_option maxRecDepth 100000 in
theorem seen_ok (N : Nat) (g : GridD) (A : Option Addr) (l : List RodD) (n c : Nat) (row col : Int) (w : World) {B : Nat} (h : RodsAt w B A l) (hB : B ≤ w.heap.size) (hn : n = l.length) (hm : n ≤ 20000) (hlo : nearBy 1048576 g.lo = true) (hs : 0 ≤ g.scale ∧ g.scale ≤ 1048576)
    (hr : 0 ≤ row * g.scale ∧ row * g.scale ≤ 1099511627776) (hc : 0 ≤ col * g.scale ∧ col * g.scale ≤ 1099511627776) (hl : ∀ r ∈ l, 0 ≤ r.line ∧ r.line < N) :
    Calls Tryz.prog 34 #[.agg (gridCells g), .slice A n c, .int .i64 row, .int .i64 col] w fun e w' => ∃ A' c', e = .returned (.slice A' (seenOf N g l row col).length c') ∧ Ints w' w'.heap.size A' (seenOf N g l row col) ∧ Below w.heap.size w w' := by
  have Hseen := hide (seenOf_eq (n := N) (g := g) (l := l) (row := row) (col := col) hl)
  have Hh := hide h
  have Hn := hide hn
  have Hsn := hide (fun (k : Nat) (r : RodD) (hx : l[k]? = some r) => show hitLines g (l.take (k + 1)) row col = hitLines g (l.take k) row col ++ (if cellHit g row col r.leg then [r.line] else []) by rw [take_snoc' hx, hitLines_snoc])
  have Hch := hide (fun (b : BoxD) => show cellHit g row col b = (decide (b.lo.1 < g.lo.1 + col * g.scale + g.scale) && decide (g.lo.1 + col * g.scale ≤ b.hi.1) && decide (b.lo.2.1 < g.lo.2.1 + row * g.scale + g.scale) && decide (g.lo.2.1 + row * g.scale ≤ b.hi.2.1)) from rfl)
  have Hlen := hide (show (hitLines g l row col).length ≤ n by rw [hn, hitLines, List.length_map]; exact List.length_filter_le _ _)
  obtain ⟨HT, hHT⟩ : ∃ HT : Nat → List Int, HT = fun k => hitLines g (l.take k) row col := ⟨_, rfl⟩
  obtain ⟨SE, hSE⟩ : ∃ SE, SE = seenOf N g l row col := ⟨_, rfl⟩
  obtain ⟨CH, hCH⟩ : ∃ CH : BoxD → Bool, CH = cellHit g row col := ⟨_, rfl⟩
  have HT0 := hide (show HT 0 = [] by rw [hHT]; rfl)
  have HTn := hide (fun (k : Nat) (r : RodD) (hx : l[k]? = some r) => show HT (k + 1) = HT k ++ (if CH r.leg then [r.line] else []) by rw [hHT, hCH]; exact Hsn.out k r hx)
  have HTa := hide (show HT n = hitLines g l row col by rw [hHT, hn]; simp only [List.take_length])
  have HTl := hide (fun (k : Nat) => show (HT k).length ≤ 20000 by
    rw [hHT]
    show (hitLines g (l.take k) row col).length ≤ 20000
    rw [hitLines, List.length_map]
    exact Nat.le_trans (List.length_filter_le _ _) (by rw [List.length_take]; omega))
  rw [← hSE] at Hseen ⊢
  rw [← hCH] at Hch
  clear Hsn hHT hSE hCH
  obtain ⟨⟨g1, g2, g3⟩, sc, rws, cls⟩ := g
  simp only at hs hr hc hlo Hch
  obtain ⟨⟨u1, u2⟩, ⟨u3, u4⟩, _, _⟩ := nearBy_iff.1 hlo
  simp only at u1 u2 u3 u4
  have z1 : IntKind.i64.wrap (col * sc) = col * sc := IntWalk.i64_in _ (by omega)
  have z2 : IntKind.i64.wrap (row * sc) = row * sc := IntWalk.i64_in _ (by omega)
  have z3 : IntKind.i64.wrap (g1 + col * sc) = g1 + col * sc := IntWalk.i64_in _ (by omega)
  have z4 : IntKind.i64.wrap (g2 + row * sc) = g2 + row * sc := IntWalk.i64_in _ (by omega)
  obtain ⟨a, ha⟩ : ∃ a, a = g1 + col * sc := ⟨_, rfl⟩
  obtain ⟨b, hb⟩ : ∃ b, b = g2 + row * sc := ⟨_, rfl⟩
  have z5 : IntKind.i64.wrap (a + sc) = a + sc := IntWalk.i64_in _ (by omega)
  have z6 : IntKind.i64.wrap (b + sc) = b + sc := IntWalk.i64_in _ (by omega)
  have y3 : wrap64 (g1 + col * sc) = a := (IntWalk.wrap64_in _ (by omega)).trans ha.symm
  have y4 : wrap64 (g2 + row * sc) = b := (IntWalk.wrap64_in _ (by omega)).trans hb.symm
  have y5 : wrap64 (a + sc) = a + sc := IntWalk.wrap64_in _ (by omega)
  have y6 : wrap64 (b + sc) = b + sc := IntWalk.wrap64_in _ (by omega)
  rw [← ha] at Hch
  rw [← hb] at Hch
  have K0 := hide (Blk.new w 84 #[.int .i64 g1, .int .i64 g2, .int .i64 g3, .int .i64 sc, .int .i64 rws, .int .i64 cls])
  have HW := hide (below_new w (.cells #[.int .i64 g1, .int .i64 g2, .int .i64 g3, .int .i64 sc, .int .i64 rws, .int .i64 cls] 84))
  have HA := hide ha
  have HBb := hide hb
  clear h hn hl hlo u1 u2 u3 u4 hr hc ha hb
  show Calls Tryz.prog 34 #[.agg #[.int .i64 g1, .int .i64 g2, .int .i64 g3, .int .i64 sc, .int .i64 rws, .int .i64 cls], .slice A n c, .int .i64 row, .int .i64 col] w _
  go_enter Tryz.func34, Tryz.ntmps34
  go_wp2_with fail
  go_quiet (fail)
  go_wp2_with fail
  try rw [← HA.out]
  try rw [← HBb.out]
  clear z1 z2 z3 z4 y3 y4
  have K0 := hide (K0.out.drewN nq)
  have HW := hide (show Below w.heap.size w ((w.alloc (.cells #[.int .i64 g1, .int .i64 g2, .int .i64 g3, .int .i64 sc, .int .i64 rws, .int .i64 cls] 84)).drewN nq) from below_drewN' HW.out nq)
  go_loopw [11, 32] (fun v iv wr => ∃ k : Nat, k ≤ n ∧ iv = .int .i64 k ∧ (∃ acc : List Int, Row wr (w.heap.size + 1) 3 1 encInt v acc ∧ Hid (acc = HT k)) ∧ Blk wr w.heap.size 84 #[.int .i64 g1, .int .i64 g2, .int .i64 g3, .int .i64 sc, .int .i64 rws, .int .i64 cls] ∧ Below w.heap.size w wr) (fun _ iv _ => n - (intOf iv).toNat)
  case atStart => exact ⟨0, Nat.zero_le _, rfl, ⟨[], Row.nil _ _ _ _ _, hide HT0.out.symm⟩, K0.out, HW.out⟩
  case round =>
    clear K0 HW
    obtain ⟨k, hk, rfl, ⟨acc, hrow, hacc⟩, k0, hbr⟩ := hrel
    obtain ⟨A0, c0, rfl⟩ := hrow.val
    have hal : acc.length ≤ 1000000 := by rw [hacc.out]; have := HTl.out k; omega
    have Hrow := hide hrow
    have K0 := hide k0
    have Hbr := hide hbr
    by_cases hlt : k < n
    · obtain ⟨b', off, r, rfl, hbl, hx, hcx⟩ := RodsAt.get (k := k) (Hh.out.carry (Flat.carried _) (hbr.mono hB) (Nat.le_refl _)) (by rw [← Hn.out]; exact hlt)
      have Hx := hide (HTn.out k r hx)
      have Hcr := hide (Hch.out r.leg)
      obtain ⟨ch, hch⟩ : ∃ ch, ch = CH r.leg := ⟨_, rfl⟩
      rw [← hch] at Hx Hcr
      obtain ⟨⟨⟨x1, x2, x3⟩, x4, x5, x6⟩, ln⟩ := r
      have e0 := hcx 0 _ rfl
      have e1 := hcx 1 _ rfl
      have e2 := hcx 2 _ rfl
      have e3 := hcx 3 _ rfl
      have e4 := hcx 4 _ rfl
      have e5 := hcx 5 _ rfl
      have e6 := hcx 6 _ rfl
      simp only [Nat.add_zero] at e0 e1 e2 e3 e4 e5 e6 Hcr Hx
      have hbw : b' < wr.heap.size := by have := hbr.size; omega
      have g3' := k0.cell 3
      simp at g3'
      have l0 := k0.lt
      have hsw := hbr.size
      have hways : (decide (x1 < a + sc) = false ∧ Hid (ch = false)) ∨ (decide (x1 < a + sc) = true ∧ decide (a ≤ x4) = false ∧ Hid (ch = false)) ∨ (decide (x1 < a + sc) = true ∧ decide (a ≤ x4) = true ∧ decide (x2 < b + sc) = false ∧ Hid (ch = false)) ∨ (decide (x1 < a + sc) = true ∧ decide (a ≤ x4) = true ∧ decide (x2 < b + sc) = true ∧ decide (b ≤ x5) = false ∧ Hid (ch = false)) ∨ (decide (x1 < a + sc) = true ∧ decide (a ≤ x4) = true ∧ decide (x2 < b + sc) = true ∧ decide (b ≤ x5) = true ∧ Hid (ch = true)) := by
        have h9 := Hcr.out
        cases q1 : decide (x1 < a + sc)
        · exact .inl ⟨rfl, hide (by rw [h9, q1]; rfl)⟩
        right
        cases q2 : decide (a ≤ x4)
        · exact .inl ⟨rfl, rfl, hide (by rw [h9, q1, q2]; rfl)⟩
        right
        cases q3 : decide (x2 < b + sc)
        · exact .inl ⟨rfl, rfl, rfl, hide (by rw [h9, q1, q2, q3]; rfl)⟩
        right
        cases q4 : decide (b ≤ x5)
        · exact .inl ⟨rfl, rfl, rfl, rfl, hide (by rw [h9, q1, q2, q3, q4]; rfl)⟩
        · exact .inr ⟨rfl, rfl, rfl, rfl, hide (by rw [h9, q1, q2, q3, q4]; rfl)⟩
      clear hx hbl hcx hch hrow k0 hbr Hcr
      rcases hways with ⟨q1, hr⟩ | ⟨q1, q2, hr⟩ | ⟨q1, q2, q3, hr⟩ | ⟨q1, q2, q3, q4, hr⟩ | ⟨q1, q2, q3, q4, hr⟩
      · have hfin := hide (show HT (k + 1) = acc by rw [Hx.out, hr.out, hacc.out]; simp)
        go_wp2_with fail
        go_roundw
        case rel => exact ⟨k + 1, by omega, by go_num, ⟨acc, Hrow.out.alloc _, hide hfin.out.symm⟩, K0.out.alloc _, Hbr.out.alloc hsw _⟩
        case measure => simp [intOf]; omega
      · have hfin := hide (show HT (k + 1) = acc by rw [Hx.out, hr.out, hacc.out]; simp)
        go_wp2_with fail
        go_roundw
        case rel => exact ⟨k + 1, by omega, by go_num, ⟨acc, Hrow.out.alloc _, hide hfin.out.symm⟩, K0.out.alloc _, Hbr.out.alloc hsw _⟩
        case measure => simp [intOf]; omega
      · have hfin := hide (show HT (k + 1) = acc by rw [Hx.out, hr.out, hacc.out]; simp)
        go_wp2_with fail
        go_roundw
        case rel => exact ⟨k + 1, by omega, by go_num, ⟨acc, Hrow.out.alloc _, hide hfin.out.symm⟩, K0.out.alloc _, Hbr.out.alloc hsw _⟩
        case measure => simp [intOf]; omega
      · have hfin := hide (show HT (k + 1) = acc by rw [Hx.out, hr.out, hacc.out]; simp)
        go_wp2_with fail
        go_roundw
        case rel => exact ⟨k + 1, by omega, by go_num, ⟨acc, Hrow.out.alloc _, hide hfin.out.symm⟩, K0.out.alloc _, Hbr.out.alloc hsw _⟩
        case measure => simp [intOf]; omega
      · have hfin := hide (show HT (k + 1) = acc ++ [ln] by rw [Hx.out, hr.out, hacc.out]; rfl)
        go_wp2_with (at_builtin; refine wpList_append1 rfl (.tmp 72) (.tmp 75) 62 rfl (w.heap.size + 1) 3 (.int .i64 0) 1 8 encInt Tryz.underlying62 (by kernel_rfl) rfl (by omega) encInt_len encInt_one _ acc ln rfl ((Hrow.out.alloc _).alloc _) _ rfl (Blk.new1 wr _ _ _) hal (by omega) (by simp; omega) ?_; intro A9 c9 w9 hrow9 hb9 hkeep9)
        go_roundw
        case rel => exact ⟨k + 1, by omega, by go_num, ⟨acc ++ [ln], by simpa using hrow9, hide hfin.out.symm⟩, hkeep9 _ _ _ (by decide) ((K0.out.alloc _).alloc _), ((Hbr.out.alloc hsw _).alloc (le_alloc hsw _) _).trans (hb9.mono (Nat.le_succ _))⟩
        case measure => simp [intOf]; omega
    · obtain rfl : k = n := by omega
      rw [HTa.out] at hacc
      have Hse := hide (show SE = Lib.compact (acc.mergeSort fun x y => decide (x ≤ y)) by rw [hacc.out]; exact Hseen.out.symm)
      have Hb := hide hbr
      by_cases h0 : acc.length = 0
      · have h9 : acc = [] := List.length_eq_zero_iff.1 h0
        have Hse := hide (show SE = [] by rw [Hse.out, h9]; simp [Lib.compact, Lib.compactUpTo])
        clear hrow Hrow k0 K0 hbr Hbr hacc h9 hal
        rw [h0]
        clear h0
        go_wp2_with (first
          | (go_at_call 66; refine (Tryz.slices_Sort_int_none _ _ _).mono ?_; rintro e w2 ⟨rfl, rfl⟩)
          | (go_at_call 67; refine (Tryz.slices_Compact_int_empty _ _ _).mono ?_; rintro e w2 ⟨rfl, rfl⟩))
        go_ret
        exact ⟨A0, c0, by rw [Hse.out]; rfl, by rw [Hse.out]; exact SlOf.nil _ _ _ _ _, Hb.out⟩
      · have hown : wr.ownsRow w.heap.size 3 1 (.slice A0 acc.length c0) acc.length (acc.map (Value.int .i64)) := by
          have h9 := rowBase (Nat.le_succ _) hrow
          unfold Row at h9
          rwa [flat_ints] at h9
        obtain ⟨gg, cap, hv, hbg, hgl, hncap, hcm, hlen, hH⟩ := Lib.holds_of_ownsRow hown (by intro h9; injection h9 with _ h9 _; exact h0 h9)
        injection hv with hv1 hv2 hv3
        subst hv1
        subst hv3
        have HX := hide (And.intro hown (And.intro hbg (And.intro hgl (And.intro hncap hH))))
        have hS := Tryz.slices_Sort_int gg 0 c0 acc wr hH hgl (by omega)
        have HS := hide hS
        have Hl2 := hide (show (acc.mergeSort fun x y => decide (x ≤ y)).length = acc.length from List.length_mergeSort acc)
        clear hrow Hrow k0 K0 hbr Hbr hacc hown hH hlen hv2 hS hbg hgl hncap hcm
        go_wp2_with fail
        refine HS.out.mono ?_
        rintro e w2 ⟨rfl, nn, os, hw2⟩
        have hH2 : Holds (Value.int .i64) w2 gg 0 (acc.mergeSort fun x y => decide (x ≤ y)).toArray := by
          rw [hw2]
          exact holds_grow _ _ os gg 0 _ (by simpa [putRow, mapBlock, Sort.ahead] using HX.out.2.2.1) (holds_putRow _ _ gg 0 _ _ (holds_ahead _ wr nn gg 0 _ HX.out.2.2.2.2) (by simp))
        have hC := Tryz.slices_Compact_int gg 0 c0 (acc.mergeSort fun x y => decide (x ≤ y)) w2 hH2 (by rw [Hl2.out]; omega) (by rw [Hl2.out]; exact HX.out.2.2.2.1)
        rw [Hl2.out] at hC
        have HC := hide hC
        have Hw2 := hide hw2
        clear hC hH2 hw2 HS
        go_wp2_with fail
        refine HC.out.mono ?_
        rintro e w3 ⟨rfl, qq, hw3⟩
        rw [Hw2.out] at hw3
        have HF := hide (show Row w3 w.heap.size 3 1 encInt (.slice (some ⟨gg, 0, none⟩) (Lib.compact (acc.mergeSort fun x y => decide (x ≤ y))).length c0) (Lib.compact (acc.mergeSort fun x y => decide (x ≤ y))) ∧ Below w.heap.size w w3 by
          rw [hw3]
          exact sorted_left HX.out.1 Hb.out HX.out.2.1)
        clear hw3 HC Hw2
        rw [← Hse.out] at HF ⊢
        go_wp2_with fail
        go_ret
        exact ⟨some ⟨gg, 0, none⟩, c0, rfl, Row.read HF.out.1 encInt_len (by omega), HF.out.2⟩
end Go.Proofs.YtpmipoljnchheaaGreat
namespace Go.Proofs.YtpmipoljnchheaaGreat
open Go.RowKit

def encSt (s : ByteArray) : List Value := [.string s]
theorem encSt_len (s : ByteArray) : (encSt s).length = 1 := rfl
theorem encSt_one (s : ByteArray) : ∀ u ∈ encSt s, u.oneCell' = true := by
  intro u hu
  simp [encSt] at hu
  subst hu
  rfl
abbrev StrsAt (w : World) (B : Nat) (A : Option Addr) (l : List ByteArray) : Prop := SlOf w B 1 (Flat encSt) A l
theorem StrsAt.get {w : World} {B : Nat} {A : Option Addr} {l : List ByteArray} (h : StrsAt w B A l) {k : Nat} (hk : k < l.length) :
    ∃ b off x, A = some ⟨b, off, none⟩ ∧ b < B ∧ l[k]? = some x ∧ w.cell? ⟨b, off + k, none⟩ = some (.string x) := by
  obtain ⟨b, off, x, vs, hA, hb, hx, _, hr, hc⟩ := h.at_ hk
  have := hc 0 (.string x) (by rw [show vs = encSt x from hr]; rfl)
  simp at this
  exact ⟨b, off, x, hA, hb, hx, this⟩
def barMark (bars : List BarD) (k : Int) : ByteArray := match bars[k.toNat]? with
  | some x => x.mark
  | none => ByteArray.empty
def seenAt (x : DetD) (s row col : Int) : List Int := seenOf x.bars.length (gridOf x s) (rodsOf x.bars x.runs) row col
def marksAt (x : DetD) (s row col : Int) : List ByteArray := (seenAt x s row col).map (barMark x.bars)
theorem plan_detOk {x : DetD} {s : Int} (h : planErr x s = 0) : detOk x = true ∧ (1 ≤ s ∧ s ≤ 1048576) ∧ (gridOf x s).rows * (gridOf x s).cols ≤ 20000 := by
  unfold planErr at h
  split at h
  · cases h
  rename_i h1
  split at h
  · cases h
  rename_i h2
  split at h
  · cases h
  rename_i h3
  refine ⟨by simpa using h1, by omega, by omega⟩
theorem ediv_mul_range {n s : Int} (h0 : 0 ≤ n) (h1 : n ≤ 4194304) (hs : 1 ≤ s ∧ s ≤ 1048576) {k : Int} (hk : 0 ≤ k) (hk1 : k < upQ n s) : 0 ≤ k * s ∧ k * s ≤ 8388608 := by
  have a := Int.mul_nonneg hk (show 0 ≤ s by omega)
  have b := Int.ediv_mul_le (n + s - 1) (show s ≠ 0 by omega)
  have c := Int.mul_le_mul_of_nonneg_right (show k ≤ upQ n s by omega) (show 0 ≤ s by omega)
  unfold upQ at c
  omega
theorem thick_lt {b : BoxD} (h : thickOk b = true) : b.lo.1 < b.hi.1 ∧ b.lo.2.1 < b.hi.2.1 := by
  simp only [thickOk, Bool.and_eq_true, decide_eq_true_eq] at h
  omega
theorem hullOn_lt : ∀ (l : List BoxD) (a : BoxD), a.lo.1 < a.hi.1 ∧ a.lo.2.1 < a.hi.2.1 → (hullOn a l).lo.1 < (hullOn a l).hi.1 ∧ (hullOn a l).lo.2.1 < (hullOn a l).hi.2.1 := by
  intro l
  induction l with
  | nil => intro a h; exact h
  | cons b l ih =>
    intro a h
    refine ih _ ?_
    simp only [minP, maxP]
    omega
theorem upQ_pos {n s : Int} (h0 : 1 ≤ n) (hs : 1 ≤ s) : 1 ≤ upQ n s := by
  unfold upQ
  exact (Int.le_ediv_iff_mul_le (by omega)).2 (by omega)
structure PlanFacts (x : DetD) (s : Int) : Prop where
  det : detOk x = true
  laid : laidOk x.bars x.runs = true
  sc : 1 ≤ s ∧ s ≤ 1048576
  lo : nearBy 1048576 (gridOf x s).lo = true
  rows : 1 ≤ (gridOf x s).rows ∧ (gridOf x s).rows ≤ 20000
  cols : 1 ≤ (gridOf x s).cols ∧ (gridOf x s).cols ≤ 20000
  row : ∀ k, 0 ≤ k → k < (gridOf x s).rows → 0 ≤ k * s ∧ k * s ≤ 8388608
  col : ∀ k, 0 ≤ k → k < (gridOf x s).cols → 0 ≤ k * s ∧ k * s ≤ 8388608
theorem plan_facts {x : DetD} {s : Int} (h : planErr x s = 0) : PlanFacts x s := by
  obtain ⟨h1, h2, h3⟩ := plan_detOk h
  have hh := boxOk_iff.1 (detOk_hull h1)
  have hb := solid_boxes (detOk_parts h1).2.2
  have hlt : (hullOf x.mem.boxes).lo.1 < (hullOf x.mem.boxes).hi.1 ∧ (hullOf x.mem.boxes).lo.2.1 < (hullOf x.mem.boxes).hi.2.1 := by
    have hso := (detOk_parts h1).2.2
    simp only [solidOk, Bool.and_eq_true] at hso
    have hth := hso.1.2
    cases hbx : x.mem.boxes with
    | nil => rw [hbx] at hb; simp at hb
    | cons b l =>
      rw [hbx, List.all_cons, Bool.and_eq_true] at hth
      exact hullOn_lt _ _ (thick_lt hth.1)
  have hr1 : 1 ≤ (gridOf x s).rows := upQ_pos (by omega) h2.1
  have hc1 : 1 ≤ (gridOf x s).cols := upQ_pos (by omega) h2.1
  have hr2 := Int.mul_le_mul_of_nonneg_left hc1 (show 0 ≤ (gridOf x s).rows by omega)
  have hc2 := Int.mul_le_mul_of_nonneg_right hr1 (show 0 ≤ (gridOf x s).cols by omega)
  rw [Int.mul_one] at hr2
  rw [Int.one_mul] at hc2
  refine ⟨h1, (detOk_parts h1).2.1, h2, ?_, by omega, by omega, fun k k0 k1 => ediv_mul_range (by omega) (by omega) h2 k0 k1, fun k k0 k1 => ediv_mul_range (by omega) (by omega) h2 k0 k1⟩
  rw [nearBy_iff]
  simp only [gridOf]
  omega
theorem rods_lines {bars : List BarD} {runs : List RunD} (hok : laidOk bars runs = true) : ∀ r ∈ rodsOf bars runs, 0 ≤ r.line ∧ r.line < (bars.length : Nat) := by
  intro r hr
  simp only [rodsOf, List.mem_flatMap] at hr
  obtain ⟨l, hl, hr⟩ := hr
  simp only [rodsOfBar, List.mem_map] at hr
  obtain ⟨b, _, rfl⟩ := hr
  simp only
  have hbar : l.bar ∈ bars := by
    simp only [laidAll, List.mem_flatMap] at hl
    obtain ⟨u, hu, hl⟩ := hl
    obtain ⟨j, y, hj, hy, hyb, _⟩ := runOk_bar ((laidOk_mem hok).2.2 u hu)
    rw [laidRun_of hyb] at hl
    simp only [laidTo, List.mem_map] at hl
    obtain ⟨q, _, rfl⟩ := hl
    exact mem_of_get hy
  have h1 := idx_any (markIs l.bar.mark) bars
  have h2 : bars.any (markIs l.bar.mark) = true := List.any_eq_true.2 ⟨_, hbar, by simp [markIs]⟩
  rw [h2, decide_eq_true_eq] at h1
  exact ⟨h1, (idx_range _ _).2⟩
theorem rodsOf_len {bars : List BarD} {runs : List RunD} (hok : laidOk bars runs = true) : (rodsOf bars runs).length ≤ 12000 := by
  have h1 := (laidOk_len hok).2
  refine Nat.le_trans (rods_len _ (fun y hy => ?_)) (by omega : 6 * (laidAll bars runs).length ≤ 12000)
  obtain ⟨j, hj, rfl⟩ := List.getElem_of_mem hy
  exact (laid_near runs j _ (laidOk_mem hok).2.2 (List.getElem?_eq_getElem hj)).2.2
set_option maxHeartbeats 4000000 in
set_option maxRecDepth 100000 in
theorem planSize_any (x : DetD) (s : DetS) (sc : Int) (w : World) {B : Nat} (h : DetAt w B x s) (hB : B ≤ w.heap.size) (hf : DetFit x s) :
    Calls Tryz.prog 14 #[detV x s, .int .i64 sc] w fun e w' => e = .returned (.tuple #[.int .i64 (planGrid x sc).rows, .int .i64 (planGrid x sc).cols, .int .i64 (planErr x sc)]) ∧ Below w.heap.size w w' := by
  have HM := hide (fun (W : World) (hz : Below w.heap.size w W) => made_any x s sc W (h.carry (hz.mono hB) (Nat.le_refl _)) (Nat.le_trans hB hz.size) hf)
  have Hi := hide (show (Tryz.prog.info? 34).map (·.size) = some 19 by kernel_rfl)
  have K0 := hide (Blk.new w 34 (detCells x.mem x.rule s))
  have HW := hide (below_new w (.cells (detCells x.mem x.rule s) 34))
  generalize planGrid x sc = g at *
  generalize planErr x sc = er at *
  obtain ⟨⟨g1, g2, g3⟩, g4, g5, g6⟩ := g
  obtain ⟨mem, bars, runs, laps, dems, rule⟩ := x
  obtain ⟨a1, n1, c1, a2, n2, c2, a3, n3, c3, a4, n4, c4, a5, n5, c5, a6, n6, c6⟩ := s
  obtain ⟨name, boxes, holes, cover, agg, poker⟩ := mem
  obtain ⟨r1, r2, r3, r4, r5, r6, r7, r8, r9⟩ := rule
  simp only [detCells] at K0 HW
  clear h hf
  show Calls Tryz.prog 14 #[.agg #[.string name, .slice a1 n1 c1, .slice a2 n2 c2, .int .i64 cover, .int .i64 agg, .int .i64 poker, .slice a3 n3 c3, .slice a4 n4 c4, .slice a5 n5 c5, .slice a6 n6 c6, .int .i64 r1, .int .i64 r2, .int .i64 r3, .int .i64 r4, .int .i64 r5, .int .i64 r6, .int .i64 r7, .int .i64 r8, .int .i64 r9], .int .i64 sc] w _
  go_enter Tryz.func14, Tryz.ntmps14
  go_wp2_with (refine wpList_load_row rfl 34 (.tmp 2) rfl w.heap.size rfl 34 _ (0, 0) _ K0.out Tryz.underlying34 rfl Hi.out ?_)
  refine (HM.out _ HW.out).mono ?_
  rintro e w2 ⟨rfl, hb2⟩
  have HW2 := hide (below_step HW.out hb2 (Nat.le_refl _))
  clear hb2 HM K0 HW Hi
  go_wp2_with fail
  go_quiet (fail)
  go_wp2_with fail
  go_ret3
  exact ⟨rfl, below_drewN' (HW2.out.alloc HW2.out.size _) _⟩
end Go.Proofs.YtpmipoljnchheaaGreat
namespace Go.Proofs.YtpmipoljnchheaaGreat
open Go.RowKit

theorem seenAt_mem {x : DetD} {s row col k : Int} (h : k ∈ seenAt x s row col) : 0 ≤ k ∧ k < (x.bars.length : Nat) := (mem_seenOf.1 h).1
theorem seenAt_len (x : DetD) (s row col : Int) : (seenAt x s row col).length ≤ x.bars.length := by
  unfold seenAt seenOf
  refine Nat.le_trans (List.length_filter_le _ _) ?_
  rw [List.length_map, List.length_range]
  exact Nat.le_refl _
set_option maxHeartbeats 4000000 in
set_option maxRecDepth 100000 in
theorem planAt_ok (x : DetD) (s : DetS) (sc row col : Int) (w : World) {B : Nat} (h : DetAt w B x s) (hB : B ≤ w.heap.size) (hf : DetFit x s) (he : planErr x sc = 0) (hr : 0 ≤ row ∧ row < (gridOf x sc).rows) (hc : 0 ≤ col ∧ col < (gridOf x sc).cols) :
    Calls Tryz.prog 21 #[detV x s, .int .i64 sc, .int .i64 row, .int .i64 col] w fun e w' => ∃ A c, e = .returned (.tuple #[.slice A (marksAt x sc row col).length c, .int .i64 0]) ∧ StrsAt w' w'.heap.size A (marksAt x sc row col) ∧ Below w.heap.size w w' := by
  have hpf := plan_facts he
  have hM := fun (W : World) (hz : Below w.heap.size w W) => made_any x s sc W (h.carry (hz.mono hB) (Nat.le_refl _)) (Nat.le_trans hB hz.size) hf
  rw [plan_ok he, he] at hM
  have HM := hide hM
  have HR := hide (fun (W : World) (hz : Below w.heap.size w W) => rods_ok x s W (h.carry (hz.mono hB) (Nat.le_refl _)) (Nat.le_trans hB hz.size) hf hpf.laid)
  have hrl : (rodsOf x.bars x.runs).length ≤ 20000 := by have := rodsOf_len hpf.laid; omega
  have hrow := hpf.row row hr.1 hr.2
  have hcol := hpf.col col hc.1 hc.2
  have HS := hide (fun (W : World) (A : Option Addr) (c : Nat) (hA : RodsAt W W.heap.size A (rodsOf x.bars x.runs)) => seen_ok x.bars.length (gridOf x sc) A (rodsOf x.bars x.runs) (rodsOf x.bars x.runs).length c row col W hA (Nat.le_refl _) rfl hrl hpf.lo ⟨show 0 ≤ sc by have := hpf.sc; omega, hpf.sc.2⟩ (show 0 ≤ row * sc ∧ row * sc ≤ 1099511627776 by omega) (show 0 ≤ col * sc ∧ col * sc ≤ 1099511627776 by omega) (rods_lines hpf.laid))
  have Hi := hide (show (Tryz.prog.info? 34).map (·.size) = some 19 by kernel_rfl)
  have K0 := hide (Blk.new w 34 (detCells x.mem x.rule s))
  have HW := hide (below_new w (.cells (detCells x.mem x.rule s) 34))
  have H3 := hide h.h3
  have L3 := hide hf.l3
  have m3 := hf.m3
  have Hsm := hide (fun (k : Int) (hk : k ∈ seenAt x sc row col) => seenAt_mem hk)
  have Hsl := hide (seenAt_len x sc row col)
  have Hms := hide (show marksAt x sc row col = (seenAt x sc row col).map (barMark x.bars) from rfl)
  obtain ⟨hr0, hr1⟩ := hr
  obtain ⟨hc0, hc1⟩ := hc
  obtain ⟨SE, hSE⟩ : ∃ SE, SE = seenAt x sc row col := ⟨_, rfl⟩
  obtain ⟨MS, hMS⟩ : ∃ MS, MS = marksAt x sc row col := ⟨_, rfl⟩
  have HSb := hide (fun (W : World) (A : Option Addr) (c : Nat) (hA : RodsAt W W.heap.size A (rodsOf x.bars x.runs)) => (show Calls Tryz.prog 34 #[.agg (gridCells (gridOf x sc)), .slice A (rodsOf x.bars x.runs).length c, .int .i64 row, .int .i64 col] W fun e w' => ∃ A' c', e = .returned (.slice A' SE.length c') ∧ Ints w' w'.heap.size A' SE ∧ Below W.heap.size W w' by rw [hSE]; exact HS.out W A c hA))
  rw [← hSE] at Hsm Hsl Hms
  rw [← hMS] at Hms ⊢
  generalize rodsOf x.bars x.runs = RO at *
  generalize gridOf x sc = g at *
  obtain ⟨⟨g1, g2, g3⟩, g4, g5, g6⟩ := g
  simp only at hr1 hc1 HSb
  have d1 : decide (row < 0) = false := by simp; omega
  have d2 : decide (g5 ≤ row) = false := by simp; omega
  have d3 : decide (col < 0) = false := by simp; omega
  have d4 : decide (g6 ≤ col) = false := by simp; omega
  obtain ⟨mem, bars, runs, laps, dems, rule⟩ := x
  obtain ⟨a1, n1, c1, a2, n2, c2, a3, n3, c3, a4, n4, c4, a5, n5, c5, a6, n6, c6⟩ := s
  obtain ⟨name, boxes, holes, cover, agg, poker⟩ := mem
  obtain ⟨r1, r2, r3, r4, r5, r6, r7, r8, r9⟩ := rule
  simp only [detCells] at K0 HW
  simp only at H3 L3 m3 Hsm Hsl Hms
  clear h hf he hM hpf hrl hrow hcol HS hSE hMS hr0 hr1 hc0 hc1
  show Calls Tryz.prog 21 #[.agg #[.string name, .slice a1 n1 c1, .slice a2 n2 c2, .int .i64 cover, .int .i64 agg, .int .i64 poker, .slice a3 n3 c3, .slice a4 n4 c4, .slice a5 n5 c5, .slice a6 n6 c6, .int .i64 r1, .int .i64 r2, .int .i64 r3, .int .i64 r4, .int .i64 r5, .int .i64 r6, .int .i64 r7, .int .i64 r8, .int .i64 r9], .int .i64 sc, .int .i64 row, .int .i64 col] w _
  go_enter Tryz.func21, Tryz.ntmps21
  go_wp2_with (refine wpList_load_row rfl 34 (.tmp 4) rfl w.heap.size rfl 34 _ (0, 0) _ K0.out Tryz.underlying34 rfl Hi.out ?_)
  refine (HM.out _ HW.out).mono ?_
  rintro e w2 ⟨rfl, hb2⟩
  have K0 := hide (K0.out.keep hb2)
  have HW2 := hide (below_step HW.out hb2 (Nat.le_refl _))
  have KG := hide (Blk.new w2 84 #[.int .i64 g1, .int .i64 g2, .int .i64 g3, .int .i64 g4, .int .i64 g5, .int .i64 g6])
  have K1 := hide (K0.out.alloc (.cells #[.int .i64 g1, .int .i64 g2, .int .i64 g3, .int .i64 g4, .int .i64 g5, .int .i64 g6] 84))
  have HW3 := hide (HW2.out.alloc HW2.out.size (.cells #[.int .i64 g1, .int .i64 g2, .int .i64 g3, .int .i64 g4, .int .i64 g5, .int .i64 g6] 84))
  clear hb2 HM K0 HW
  go_wp2_with (refine wpList_load_row rfl 34 (.tmp 4) rfl w.heap.size rfl 34 _ (0, 0) _ K1.out Tryz.underlying34 rfl Hi.out ?_)
  refine (HR.out _ HW3.out).mono ?_
  rintro e w4 ⟨A4, c4', rfl, hro, hb4⟩
  have K1 := hide (K1.out.keep hb4)
  have KG := hide (KG.out.keep hb4)
  have HW4 := hide (below_step HW3.out hb4 (Nat.le_refl _))
  have HSs := hide (HSb.out w4 A4 c4' hro)
  have k0 := KG.out.cell 0
  have k1 := KG.out.cell 1
  have k2 := KG.out.cell 2
  have k3 := KG.out.cell 3
  have k4 := KG.out.cell 4
  have k5 := KG.out.cell 5
  simp at k0 k1 k2 k3 k4 k5
  have lg := KG.out.lt
  clear hb4 hro HR HW2 HW3 HSb Hi
  go_wp2_with fail
  refine HSs.out.mono ?_
  rintro e w5 ⟨A5, c5', rfl, hse, hb5⟩
  have K1 := hide (K1.out.keep hb5)
  have HW5 := hide (below_step HW4.out hb5 (Nat.le_refl _))
  have Hse := hide hse
  clear hb5 hse HSs KG k0 k1 k2 k3 k4 k5 lg HW4
  have hsl6 : SE.length ≤ 60000 := by
    have := Hsl.out
    have := L3.out
    omega
  go_wp2_with fail
  go_loopw [13, 59] (fun v iv wr => ∃ k : Nat, k ≤ SE.length ∧ iv = .int .i64 k ∧ (∃ acc : List ByteArray, Row wr w5.heap.size 9 1 encSt v acc ∧ Hid (acc = (SE.take k).map (barMark bars))) ∧ Below w5.heap.size w5 wr) (fun _ iv _ => SE.length - (intOf iv).toNat)
  case atStart => exact ⟨0, Nat.zero_le _, rfl, ⟨[], Row.nil _ _ _ _ _, hide rfl⟩, Below.refl _ _⟩
  case round =>
    obtain ⟨k, hk, rfl, ⟨acc, hrow, hacc⟩, hbr⟩ := hrel
    obtain ⟨A0, c0, rfl⟩ := hrow.val
    have hal : acc.length ≤ 1000000 := by
      have h9 := Hsl.out
      have h8 := L3.out
      rw [hacc.out, List.length_map, List.length_take]
      omega
    have Hrow := hide hrow
    by_cases hlt : k < SE.length
    · obtain ⟨b, off, q, rfl, hbl, hx, e0⟩ := Ints.get (k := k) (Hse.out.carry hbr hbr.size) hlt
      have hq := Hsm.out q (mem_of_get hx)
      obtain ⟨q0, hq1⟩ := hq
      obtain ⟨j, rfl⟩ := Int.eq_ofNat_of_zero_le q0
      have HWr := hide (below_step HW5.out hbr (Nat.le_refl _))
      obtain ⟨b3, off3, y, A', c', rfl, hbl3, hy, _, f0, f1, f2, f3, f4⟩ := BarsAt.get (k := j) (H3.out.carry (HWr.out.mono hB) (Nat.le_refl _)) (by omega)
      have Hn := hide (show (SE.take (k + 1)).map (barMark bars) = acc ++ [y.mark] by
        rw [take_snoc' hx, List.map_append, hacc.out, List.map_singleton]
        simp [barMark, hy])
      have hbw : b3 < wr.heap.size := by have := HWr.out.size; omega
      have kk := K1.out.below hbr K1.out.lt
      have e6 := kk.cell 6
      simp at e6
      have lk := kk.lt
      have hjn : j < n3 := by have := L3.out; omega
      have hs5 := hbr.size
      have Hbr := hide hbr
      have i0 : (0 : Int) ≤ (j : Int) := by omega
      clear hx hbl hbl3 hy q0 hq1 kk hrow hbr f1 f2 f3 f4
      go_wp2_with (at_builtin; refine wpList_append1 rfl (.tmp 63) (.tmp 70) 56 rfl w5.heap.size 9 (.string .empty) 1 16 encSt Tryz.underlying56 (by kernel_rfl) rfl (by omega) encSt_len encSt_one _ acc y.mark rfl (Hrow.out.alloc _) _ rfl (Blk.new wr _ _) hal (by omega) (le_alloc hs5 _) ?_; intro A9 c9 w9 hrow9 hb9 hkeep9)
      go_roundw
      case rel => exact ⟨k + 1, by omega, by go_num, ⟨acc ++ [y.mark], by simpa using hrow9, hide Hn.out.symm⟩, (Hbr.out.alloc hs5 _).trans hb9⟩
      case measure => simp [intOf]; omega
    · obtain rfl : k = SE.length := by omega
      have hf : acc = MS := by rw [hacc.out, List.take_length, Hms.out]
      have hlen := hide (show MS.length = acc.length by rw [hf])
      have Hr := hide (show StrsAt wr wr.heap.size A0 MS by rw [← hf]; exact Row.read Hrow.out encSt_len (by omega))
      have Hb := hide (below_step HW5.out hbr (Nat.le_refl _))
      clear hf hacc hrow Hrow hbr
      generalize acc.length = m at *
      go_wp2_with fail
      go_ret2
      exact ⟨A0, c0, by rw [hlen.out]; rfl, Hr.out, Hb.out⟩
end Go.Proofs.YtpmipoljnchheaaGreat
namespace Go.Proofs.YtpmipoljnchheaaGreat
open Go.RowKit

theorem IsBuilder.keep {T e B b : Nat} {bs : List Value} {w w' : World} (h : Lib.IsBuilder T e B b bs w) (hb : Below w.heap.size w w') : Lib.IsBuilder T e B b bs w' := by
  rcases h with ⟨h1, v, hbk, hown, hne⟩ | ⟨h1, v, hbk, hown, hne⟩
  · exact .inl ⟨h1, v, (hb.block b (Blk.lt (cs := _) hbk)).trans hbk, hown.kept (row := none) ⟨hb.os, hb.tape, hb.output, hb.size, fun k hk _ => hb.block k hk⟩ (by cases v.ownBlock <;> simp), hne⟩
  · exact .inr ⟨h1, v, (hb.block b (Blk.lt (cs := _) hbk)).trans hbk, hown.kept (row := none) ⟨hb.os, hb.tape, hb.output, hb.size, fun k hk _ => hb.block k hk⟩ (by cases v.ownBlock <;> simp), hne⟩
theorem IsBuilder.lt {T e B b : Nat} {bs : List Value} {w : World} (h : Lib.IsBuilder T e B b bs w) : b < w.heap.size := by
  rcases h with h | h <;> exact h.lt
/-- The builder of block b, of type T, with the bytes l. -/
abbrev Bld (w : World) (T B b : Nat) (l : List UInt8) : Prop := Lib.IsBuilder T 5 B b (Lib.byteCells l) w
/-- Whatever is no byte row and not block b is as it was. -/
def Spares (b : Nat) (w w' : World) : Prop := ∀ g t cs, g ≠ b → t ≠ 5 → Blk w g t cs → Blk w' g t cs
theorem Spares.refl (b : Nat) (w : World) : Spares b w w := fun _ _ _ _ _ h => h
theorem Spares.trans {b : Nat} {u v w : World} (h : Spares b u v) (k : Spares b v w) : Spares b u w := fun g t cs h1 h2 h3 => k g t cs h1 h2 (h g t cs h1 h2 h3)
theorem Spares.set {b : Nat} {u w : World} (h : Spares b u w) (i : Nat) (v : Value) : Spares b u (w.setCell ⟨b, i, none⟩ v) := fun g t cs h1 h2 h3 => (h g t cs h1 h2 h3).far (p := ⟨b, i, none⟩) h1 v
theorem Spares.keep {b : Nat} {u w w' : World} (h : Spares b u w) (hb : Below w.heap.size w w') : Spares b u w' := fun g t cs h1 h2 h3 => (h g t cs h1 h2 h3).keep hb
theorem Spares.grown {b : Nat} {u w w' : World} {v : Value} {B n : Nat} {xs : List Value} (h : Spares b u w) (hown : w.ownsRow B 5 1 v n xs) (hg : w.grownBy w' v.ownBlock) : Spares b u w' :=
  fun g t cs h1 h2 h3 => (h g t cs h1 h2 h3).grown hg (fun he => Lib.ownBlock_ne hown (h g t cs h1 h2 h3) h2 he.symm)
/-- What is asked of the type of the block in which a builder lies first. -/
structure BldType (T : Nat) : Prop where
  lies : liesAt Tryz.prog (Tryz.prog).depth T (2 / (Tryz.prog).cellsOf T) 0 93 1 = true
  ne : T ≠ 5
theorem builderType : BldType 93 := ⟨by kernel_rfl, by decide⟩
theorem Tryz.sizeBuilder : ((Tryz.prog).info? 93).map (·.size) = some 2 := by kernel_rfl
theorem Tryz.infoByte : ((Tryz.prog).info? 5).map (fun i => (i.zero, i.size, i.bytes)) = some (some (.int .u8 0), 1, 1) := by kernel_rfl

set_option maxHeartbeats 1000000 in
set_option maxRecDepth 100000 in
theorem copyCheck_used (b : Nat) (w : World) (h0 : w.cell? ⟨b, 0, none⟩ = some (.pointer (some ⟨b, 0, none⟩))) :
    Calls Tryz.prog 68 #[.pointer (some ⟨b, 0, none⟩)] w fun e w' => e = .returned (.tuple #[]) ∧ w' = w := by
  obtain ⟨j, hj, _⟩ := Option.map_eq_some_iff.1 Tryz.sizeBuilder
  go_enter Tryz.func68, Tryz.ntmps68
  go_wp2
  rw [Lib.run_neq_ptr_same w _ Tryz.underlying90 hj]
  go_wp2
  go_end0
  exact ⟨rfl, rfl⟩

set_option maxHeartbeats 1000000 in
set_option maxRecDepth 100000 in
theorem copyCheck_fresh (T : Nat) (hT : BldType T) (b : Nat) (w : World) (h0 : w.cell? ⟨b, 0, none⟩ = some (.pointer none)) (hsh : w.shape? b = some (T, 2)) (hfz : w.frozen? ⟨b, 0, none⟩ = false) :
    Calls Tryz.prog 68 #[.pointer (some ⟨b, 0, none⟩)] w fun e w' => e = .returned (.tuple #[]) ∧ w' = w.setCell ⟨b, 0, none⟩ (.pointer (some ⟨b, 0, none⟩)) := by
  obtain ⟨j, hj, hjs⟩ := Option.map_eq_some_iff.1 Tryz.sizeBuilder
  go_enter Tryz.func68, Tryz.ntmps68
  go_wp2
  rw [Lib.run_to_unsafe w ⟨b, 0, none⟩ Tryz.underlying90 Tryz.underlying166 hj (by rw [hjs]; decide) hsh (Nat.zero_lt_succ 1)]
  simp only [Result.andThen]
  rw [Oper.upon_value]
  go_wp2
  rw [run_callFunc_extern Tryz.func93 (by kernel_rfl) (by kernel_rfl) (by kernel_rfl) (e := Extern.AbiNoEscape.same) (by kernel_rfl)]
  rw [Lib.run_noEscape]
  simp only [Result.andThen]
  rw [Oper.upon_value]
  go_wp2
  rw [Lib.run_from_unsafe w ⟨b, 0, none⟩ Tryz.underlying166 Tryz.underlying90 hj hsh hT.lies]
  simp only [Result.andThen]
  rw [Oper.upon_value]
  go_wp2
  go_end0
  exact ⟨rfl, rfl⟩
theorem copyCheck_any (T : Nat) (hT : BldType T) (B b : Nat) (bs : List Value) (w : World) (h : Lib.IsBuilder T 5 B b bs w) :
    Calls Tryz.prog 68 #[.pointer (some ⟨b, 0, none⟩)] w fun e w' => e = .returned (.tuple #[]) ∧ (Lib.BuilderAt T 5 B b (.pointer (some ⟨b, 0, none⟩)) bs w' ∧ Below B w w' ∧ Spares b w w') := by
  rcases h with h | h
  · refine (copyCheck_fresh T hT b w h.cell0 h.shape h.frozen0).mono ?_
    rintro e w' ⟨rfl, rfl⟩
    exact ⟨rfl, h.used _, (Below.refl B w).setCell (p := ⟨b, 0, none⟩) h.1 _, (Spares.refl b w).set _ _⟩
  · refine (copyCheck_used b w h.cell0).mono ?_
    rintro e w' ⟨rfl, rfl⟩
    exact ⟨rfl, h, Below.refl B _, Spares.refl b _⟩

set_option maxHeartbeats 2000000 in
set_option maxRecDepth 100000 in
theorem writeByte_any (T : Nat) (hT : BldType T) (B b : Nat) (l : List UInt8) (c : UInt8) (cn : Int) (w : World) (hcn : (c.toNat : Int) = cn) (h : Bld w T B b l) (hlen : l.length ≤ 100000000000) (hBw : B ≤ w.heap.size) :
    Calls Tryz.prog 35 #[.pointer (some ⟨b, 0, none⟩), .int .u8 cn] w fun e w' => e = .returned .nilIface ∧ Bld w' T B b (l ++ [c]) ∧ Below B w w' ∧ Spares b w w' := by
  subst hcn
  obtain ⟨i0, hi, hz0, hz1, hz2⟩ := info_parts Tryz.infoByte
  have hbl := Lib.byteCells_length l
  go_enter Tryz.func35, Tryz.ntmps35
  go_wp2_with (go_at_call 68; refine (copyCheck_any T hT B b _ _ h).mono ?_)
  rintro e w1 ⟨rfl, h1, hb1, hsp1⟩
  have Hsp := hide hsp1
  clear hsp1
  obtain ⟨hB, v, hbk, hown, hne⟩ := h1
  have c0 : w1.cell? ⟨b, 0, none⟩ = some (.pointer (some ⟨b, 0, none⟩)) := by rw [Lib.cell_of_heap hbk]; rfl
  have c1 : w1.cell? ⟨b, 1, none⟩ = some v := by rw [Lib.cell_of_heap hbk]; rfl
  go_wp2_with (at_builtin; refine wpList_append_own _ rfl _ _ 91 rfl B 5 i0 (.int .u8 0) 1 1 Tryz.underlying91 hi hz0 hz1 hz2 rfl (by decide) _ _ _ rfl (hown.alloc _) ⟨w1.heap.size, 0, none⟩ 1 1 [.int .u8 c.toNat] rfl rfl ?c1 ?c2 ?c3 ?c4 ?c5 ?_)
  case c1 =>
    intro j u hj
    match j, hj with
    | 0, hj => simp at hj; subst hj; simp [Addr.add]
  case c2 => intro u hu; simp at hu; subst hu; rfl
  case c3 => unfold maxLen; omega
  case c4 => omega
  case c5 => have := hb1.size; simp; omega
  intro v' w2 hown' hgrow _
  have hlt : b < w1.heap.size := Blk.lt (cs := _) hbk
  have hb2 : w2.heap[b]? = some (.cells #[.pointer (some ⟨b, 0, none⟩), v] T (0, 0)) := by
    rw [hgrow.block b (by simp; omega) (fun e => hne e.symm), Lib.alloc_old w1 _ b hlt]
    exact hbk
  have d0 : w2.cell? ⟨b, 0, none⟩ = some (.pointer (some ⟨b, 0, none⟩)) := by rw [Lib.cell_of_heap hb2]; rfl
  have d1 : w2.cell? ⟨b, 1, none⟩ = some v := by rw [Lib.cell_of_heap hb2]; rfl
  have f1 : w2.frozen? ⟨b, 1, none⟩ = false := Lib.frozen_of_heap hb2 1
  obtain ⟨g, cap, rfl⟩ : ∃ g cap, v' = .slice (some ⟨g, 0, none⟩) (l.length + 1) cap := by
    rcases hown'.2 with ⟨_, h0⟩ | ⟨g, cap, cur, hv, _⟩
    · omega
    · exact ⟨g, cap, hv⟩
  go_wp2
  go_ret
  refine ⟨rfl, .inr ?_, ?_, ?_⟩
  · exact Lib.BuilderAt.put (T := T) (e := 5) hB hb2 (bs' := Lib.byteCells (l ++ [c])) (by simpa [Lib.byteCells] using hown') hT.ne
  · exact ((hb1.alloc (by have := hb1.size; omega) _).grown hgrow (by have := hb1.size; simp; omega) (fun k hk => (hown.lt k hk).1)).setCell (p := ⟨b, 1, none⟩) hB _
  · exact ((Hsp.out.keep (below_new _ _)).grown (hown.alloc _) hgrow).set _ _

set_option maxHeartbeats 2000000 in
set_option maxRecDepth 100000 in
theorem writeString_any (T : Nat) (hT : BldType T) (B b : Nat) (l : List UInt8) (s : ByteArray) (w : World) (h : Bld w T B b l) (hlen : l.length ≤ 100000000000) (hs : s.size ≤ 10000000000) (hBw : B ≤ w.heap.size) :
    Calls Tryz.prog 40 #[.pointer (some ⟨b, 0, none⟩), .string s] w fun e w' => e = .returned (.tuple #[.int .i64 s.size, .nilIface]) ∧ Bld w' T B b (l ++ s.data.toList) ∧ Below B w w' ∧ Spares b w w' := by
  obtain ⟨i0, hi, hz0, hz1, hz2⟩ := info_parts Tryz.infoByte
  have hbl := Lib.byteCells_length l
  go_enter Tryz.func40, Tryz.ntmps40
  go_wp2_with (go_at_call 68; refine (copyCheck_any T hT B b _ _ h).mono ?_)
  rintro e w1 ⟨rfl, h1, hb1, hsp1⟩
  have Hsp := hide hsp1
  clear hsp1
  obtain ⟨hB, v, hbk, hown, hne⟩ := h1
  have c0 : w1.cell? ⟨b, 0, none⟩ = some (.pointer (some ⟨b, 0, none⟩)) := by rw [Lib.cell_of_heap hbk]; rfl
  have c1 : w1.cell? ⟨b, 1, none⟩ = some v := by rw [Lib.cell_of_heap hbk]; rfl
  go_wp2_with (at_builtin; refine Lib.wpList_append_own_string _ rfl _ _ 91 9 rfl B 5 i0 Tryz.underlying91 Tryz.underlying9 hi hz0 hz1 hz2 _ _ _ rfl hown s rfl ?c3 ?c4 ?c5 ?_)
  case c3 => unfold maxLen; omega
  case c4 => omega
  case c5 => have := hb1.size; omega
  intro v' w2 hown' hgrow _
  have hlt : b < w1.heap.size := Blk.lt (cs := _) hbk
  have hb2 : w2.heap[b]? = some (.cells #[.pointer (some ⟨b, 0, none⟩), v] T (0, 0)) := by
    rw [hgrow.block b hlt (fun e => hne e.symm)]
    exact hbk
  have d0 : w2.cell? ⟨b, 0, none⟩ = some (.pointer (some ⟨b, 0, none⟩)) := by rw [Lib.cell_of_heap hb2]; rfl
  have d1 : w2.cell? ⟨b, 1, none⟩ = some v := by rw [Lib.cell_of_heap hb2]; rfl
  have f1 : w2.frozen? ⟨b, 1, none⟩ = false := Lib.frozen_of_heap hb2 1
  obtain ⟨ao, n', cap, rfl⟩ : ∃ ao n' cap, v' = .slice ao n' cap := by
    rcases hown'.2 with ⟨hv, _⟩ | ⟨g, cap, cur, hv, _⟩
    · exact ⟨_, _, _, hv⟩
    · exact ⟨_, _, _, hv⟩
  go_wp2
  go_ret2
  refine ⟨rfl, .inr ?_, ?_, ?_⟩
  · exact Lib.BuilderAt.put (T := T) (e := 5) hB hb2 (bs' := Lib.byteCells (l ++ s.data.toList)) (by simpa [Lib.byteCells, Lib.strCells, Lib.strCells_length] using hown') hT.ne
  · exact (hb1.grown hgrow (by have := hb1.size; omega) (fun k hk => (hown.lt k hk).1)).setCell (p := ⟨b, 1, none⟩) hB _
  · exact (Hsp.out.grown hown hgrow).set _ _

set_option maxHeartbeats 2000000 in
set_option maxRecDepth 100000 in
theorem builderString_some (T : Nat) (B b : Nat) (l : List UInt8) (w : World) (h : Bld w T B b l) (h0 : l ≠ []) :
    Calls Tryz.prog 37 #[.pointer (some ⟨b, 0, none⟩)] w fun e w' => e = .returned (.string ⟨l.toArray⟩) ∧ Below B w w' := by
  obtain ⟨p, hB, v, hbk, hown, hne⟩ : ∃ p, Lib.BuilderAt T 5 B b p (Lib.byteCells l) w := by
    rcases h with h | h
    · exact ⟨_, h⟩
    · exact ⟨_, h⟩
  have hl0 : l.length ≠ 0 := by simpa using h0
  rw [Lib.byteCells_length] at hown
  obtain ⟨g, cap, cur, rfl, hbg, hg, hnc, hcm, hcs, htake⟩ : ∃ g cap cur, v = .slice (some ⟨g, 0, none⟩) l.length cap ∧ B ≤ g ∧ w.heap[g]? = some (.cells cur 5 (0, 0)) ∧ l.length ≤ cap ∧ cap ≤ maxLen ∧ cur.size = cap * 1 ∧ cur.toList.take (l.length * 1) = Lib.byteCells l := by
    rcases hown.2 with ⟨_, hz⟩ | ⟨g, cap, cur, hv, r⟩
    · exact absurd hz hl0
    · exact ⟨g, cap, cur, hv, r⟩
  have c1 : w.drew.cell? ⟨b, 1, none⟩ = some (.slice (some ⟨g, 0, none⟩) l.length cap) := by
    have : w.drew.heap[b]? = some (.cells #[p, .slice (some ⟨g, 0, none⟩) l.length cap] T (0, 0)) := hbk
    rw [Lib.cell_of_heap this]; rfl
  have hSD : (Builtin.unsafeSliceData_ #[91] 136 #[.slice (some ⟨g, 0, none⟩) l.length cap]).run Tryz.prog w.drew = .ok (.pointer (some ⟨g, 0, none⟩)) w.drew :=
    Lib.run_unsafeSliceData_row _ _ _ _ _ _ (by omega)
  have hUS : (Builtin.unsafeString_ #[136, 3] 9 #[.pointer (some ⟨g, 0, none⟩), .int .i64 l.length]).run Tryz.prog w.drew = .ok (.string ⟨l.toArray⟩) (w.drew.freeze ⟨g, 0, none⟩ l.length) := by
    refine Lib.run_unsafeString_row w.drew 136 3 9 5 Tryz.underlying136 (by kernel_rfl) g cur.size (by have hg' : w.drew.heap[g]? = some (.cells cur 5 (0, 0)) := hg; simp [World.shape?, hg']) l h0 (by omega) (by unfold maxLen at hcm; omega) ?_
    intro j x hx
    have := hown.cells (g := g) rfl j (.int .u8 x.toNat) (by simp [Lib.byteCells, hx])
    exact this
  go_enter Tryz.func37, Tryz.ntmps37
  go_wp2
  go_region
  all_goals (go_wp2; go_ret; exact ⟨rfl, Lib.below_freeze (Below.drew (Below.refl B w)) (p := ⟨g, 0, none⟩) hbg _⟩)
end Go.Proofs.YtpmipoljnchheaaGreat
