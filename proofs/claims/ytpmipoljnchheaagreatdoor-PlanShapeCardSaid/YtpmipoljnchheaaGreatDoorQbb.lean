/- The lines of the schedule that are seen in a cell: the walk. -/
import Derived.Test.YtpmipoljnchheaaGreatDoorQaz
import Derived.Test.YtpmipoljnchheaaGreatDoorShelf
import Derived.Deep.QuietTactic
import Derived.BigQuiet
namespace Go.Proofs.YtpmipoljnchheaaGreatDoor
open Go.RowKit Go.Sort

set_option maxHeartbeats 4000000 in
set_option maxRecDepth 100000 in
theorem seen_ok (N : Nat) (g : GridD) (A : Option Addr) (l : List RodD) (n c : Nat) (row col : Int) (w : World) {B : Nat} (h : RodsAt w B A l) (hB : B ≤ w.heap.size) (hn : n = l.length) (hm : n ≤ 20000) (hlo : nearBy 1048576 g.lo = true) (hs : 0 ≤ g.scale ∧ g.scale ≤ 1048576)
    (hr : 0 ≤ row * g.scale ∧ row * g.scale ≤ 1099511627776) (hc : 0 ≤ col * g.scale ∧ col * g.scale ≤ 1099511627776) (hl : ∀ r ∈ l, 0 ≤ r.line ∧ r.line < N) :
    Calls Tryz.prog 23 #[.agg (gridCells g), .slice A n c, .int .i64 row, .int .i64 col] w fun e w' => ∃ A' c', e = .returned (.slice A' (seenOf N g l row col).length c') ∧ Ints w' w'.heap.size A' (seenOf N g l row col) ∧ Below w.heap.size w w' := by
  have Hseen := hide (seenOf_eq (n := N) (g := g) (l := l) (row := row) (col := col) hl)
  have Hh := hide h
  have Hn := hide hn
  have Hsn := hide (fun (k : Nat) (r : RodD) (hx : l[k]? = some r) => show hitLines g (l.take (k + 1)) row col = hitLines g (l.take k) row col ++ (if cellHit g row col r.leg then [r.line] else []) by rw [take_snoc' hx, hitLines_snoc])
  have Hch := hide (fun (b : BoxD) => show cellHit g row col b = (decide (b.lo.1 < g.lo.1 + col * g.scale + g.scale) && decide (g.lo.1 + col * g.scale ≤ b.hi.1) && decide (b.lo.2.1 < g.lo.2.1 + row * g.scale + g.scale) && decide (g.lo.2.1 + row * g.scale ≤ b.hi.2.1)) from rfl)
  have Hlen := hide (show (hitLines g l row col).length ≤ n by rw [hn, hitLines, List.length_map]; exact List.length_filter_le _ _)
  obtain ⟨HT, hHT⟩ : ∃ HT : Nat → List Int, HT = fun k => hitLines g (l.take k) row col := ⟨_, rfl⟩
  obtain ⟨SE, hSE⟩ : ∃ SE, SE = seenOf N g l row col := ⟨_, rfl⟩
  obtain ⟨CH, hCH⟩ : ∃ CH : BoxD → Bool, CH = cellHit g row col := ⟨_, rfl⟩
  have HT0 := hide (show HT 0 = [] by rw [hHT]; rfl)
  have HTn := hide (fun (k : Nat) (r : RodD) (hx : l[k]? = some r) => show HT (k + 1) = HT k ++ (if CH r.leg then [r.line] else []) by rw [hHT, hCH]; exact Hsn.out k r hx)
  have HTa := hide (show HT n = hitLines g l row col by rw [hHT, hn]; simp only [List.take_length])
  have HTl := hide (fun (k : Nat) => show (HT k).length ≤ 20000 by
    rw [hHT]
    show (hitLines g (l.take k) row col).length ≤ 20000
    rw [hitLines, List.length_map]
    exact Nat.le_trans (List.length_filter_le _ _) (by rw [List.length_take]; omega))
  rw [← hSE] at Hseen ⊢
  rw [← hCH] at Hch
  clear Hsn hHT hSE hCH
  obtain ⟨⟨g1, g2, g3⟩, sc, rws, cls⟩ := g
  simp only at hs hr hc hlo Hch
  obtain ⟨⟨u1, u2⟩, ⟨u3, u4⟩, _, _⟩ := nearBy_iff.1 hlo
  simp only at u1 u2 u3 u4
  have z1 : IntKind.i64.wrap (col * sc) = col * sc := IntWalk.i64_in _ (by omega)
  have z2 : IntKind.i64.wrap (row * sc) = row * sc := IntWalk.i64_in _ (by omega)
  have z3 : IntKind.i64.wrap (g1 + col * sc) = g1 + col * sc := IntWalk.i64_in _ (by omega)
  have z4 : IntKind.i64.wrap (g2 + row * sc) = g2 + row * sc := IntWalk.i64_in _ (by omega)
  obtain ⟨a, ha⟩ : ∃ a, a = g1 + col * sc := ⟨_, rfl⟩
  obtain ⟨b, hb⟩ : ∃ b, b = g2 + row * sc := ⟨_, rfl⟩
  have z5 : IntKind.i64.wrap (a + sc) = a + sc := IntWalk.i64_in _ (by omega)
  have z6 : IntKind.i64.wrap (b + sc) = b + sc := IntWalk.i64_in _ (by omega)
  have y3 : wrap64 (g1 + col * sc) = a := (IntWalk.wrap64_in _ (by omega)).trans ha.symm
  have y4 : wrap64 (g2 + row * sc) = b := (IntWalk.wrap64_in _ (by omega)).trans hb.symm
  have y5 : wrap64 (a + sc) = a + sc := IntWalk.wrap64_in _ (by omega)
  have y6 : wrap64 (b + sc) = b + sc := IntWalk.wrap64_in _ (by omega)
  rw [← ha] at Hch
  rw [← hb] at Hch
  have K0 := hide (Blk.new w 65 #[.int .i64 g1, .int .i64 g2, .int .i64 g3, .int .i64 sc, .int .i64 rws, .int .i64 cls])
  have HW := hide (below_new w (.cells #[.int .i64 g1, .int .i64 g2, .int .i64 g3, .int .i64 sc, .int .i64 rws, .int .i64 cls] 65))
  have HA := hide ha
  have HBb := hide hb
  clear h hn hl hlo u1 u2 u3 u4 hr hc ha hb
  show Calls Tryz.prog 23 #[.agg #[.int .i64 g1, .int .i64 g2, .int .i64 g3, .int .i64 sc, .int .i64 rws, .int .i64 cls], .slice A n c, .int .i64 row, .int .i64 col] w _
  go_enter Tryz.func23, Tryz.ntmps23
  go_wp2_with fail
  go_quiet (fail)
  go_wp2_with fail
  try rw [← HA.out]
  try rw [← HBb.out]
  clear z1 z2 z3 z4 y3 y4
  have K0 := hide (K0.out.drewN nq)
  have HW := hide (show Below w.heap.size w ((w.alloc (.cells #[.int .i64 g1, .int .i64 g2, .int .i64 g3, .int .i64 sc, .int .i64 rws, .int .i64 cls] 65)).drewN nq) from below_drewN' HW.out nq)
  go_loopw [11, 32] (fun v iv wr => ∃ k : Nat, k ≤ n ∧ iv = .int .i64 k ∧ (∃ acc : List Int, Row wr (w.heap.size + 1) 3 1 encInt v acc ∧ Hid (acc = HT k)) ∧ Blk wr w.heap.size 65 #[.int .i64 g1, .int .i64 g2, .int .i64 g3, .int .i64 sc, .int .i64 rws, .int .i64 cls] ∧ Below w.heap.size w wr) (fun _ iv _ => n - (intOf iv).toNat)
  case atStart => exact ⟨0, Nat.zero_le _, rfl, ⟨[], Row.nil _ _ _ _ _, hide HT0.out.symm⟩, K0.out, HW.out⟩
  case round =>
    clear K0 HW
    obtain ⟨k, hk, rfl, ⟨acc, hrow, hacc⟩, k0, hbr⟩ := hrel
    obtain ⟨A0, c0, rfl⟩ := hrow.val
    have hal : acc.length ≤ 1000000 := by rw [hacc.out]; have := HTl.out k; omega
    have Hrow := hide hrow
    have K0 := hide k0
    have Hbr := hide hbr
    by_cases hlt : k < n
    · obtain ⟨b', off, r, rfl, hbl, hx, hcx⟩ := RodsAt.get (k := k) (Hh.out.carry (Flat.carried _) (hbr.mono hB) (Nat.le_refl _)) (by rw [← Hn.out]; exact hlt)
      have Hx := hide (HTn.out k r hx)
      have Hcr := hide (Hch.out r.leg)
      obtain ⟨ch, hch⟩ : ∃ ch, ch = CH r.leg := ⟨_, rfl⟩
      rw [← hch] at Hx Hcr
      obtain ⟨⟨⟨x1, x2, x3⟩, x4, x5, x6⟩, ln⟩ := r
      have e0 := hcx 0 _ rfl
      have e1 := hcx 1 _ rfl
      have e2 := hcx 2 _ rfl
      have e3 := hcx 3 _ rfl
      have e4 := hcx 4 _ rfl
      have e5 := hcx 5 _ rfl
      have e6 := hcx 6 _ rfl
      simp only [Nat.add_zero] at e0 e1 e2 e3 e4 e5 e6 Hcr Hx
      have hbw : b' < wr.heap.size := by have := hbr.size; omega
      have g3' := k0.cell 3
      simp at g3'
      have l0 := k0.lt
      have hsw := hbr.size
      have hways : (decide (x1 < a + sc) = false ∧ Hid (ch = false)) ∨ (decide (x1 < a + sc) = true ∧ decide (a ≤ x4) = false ∧ Hid (ch = false)) ∨ (decide (x1 < a + sc) = true ∧ decide (a ≤ x4) = true ∧ decide (x2 < b + sc) = false ∧ Hid (ch = false)) ∨ (decide (x1 < a + sc) = true ∧ decide (a ≤ x4) = true ∧ decide (x2 < b + sc) = true ∧ decide (b ≤ x5) = false ∧ Hid (ch = false)) ∨ (decide (x1 < a + sc) = true ∧ decide (a ≤ x4) = true ∧ decide (x2 < b + sc) = true ∧ decide (b ≤ x5) = true ∧ Hid (ch = true)) := by
        have h9 := Hcr.out
        cases q1 : decide (x1 < a + sc)
        · exact .inl ⟨rfl, hide (by rw [h9, q1]; rfl)⟩
        right
        cases q2 : decide (a ≤ x4)
        · exact .inl ⟨rfl, rfl, hide (by rw [h9, q1, q2]; rfl)⟩
        right
        cases q3 : decide (x2 < b + sc)
        · exact .inl ⟨rfl, rfl, rfl, hide (by rw [h9, q1, q2, q3]; rfl)⟩
        right
        cases q4 : decide (b ≤ x5)
        · exact .inl ⟨rfl, rfl, rfl, rfl, hide (by rw [h9, q1, q2, q3, q4]; rfl)⟩
        · exact .inr ⟨rfl, rfl, rfl, rfl, hide (by rw [h9, q1, q2, q3, q4]; rfl)⟩
      clear hx hbl hcx hch hrow k0 hbr Hcr
      rcases hways with ⟨q1, hr⟩ | ⟨q1, q2, hr⟩ | ⟨q1, q2, q3, hr⟩ | ⟨q1, q2, q3, q4, hr⟩ | ⟨q1, q2, q3, q4, hr⟩
      · have hfin := hide (show HT (k + 1) = acc by rw [Hx.out, hr.out, hacc.out]; simp)
        go_wp2_with fail
        go_roundw
        case rel => exact ⟨k + 1, by omega, by go_num, ⟨acc, Hrow.out.alloc _, hide hfin.out.symm⟩, K0.out.alloc _, Hbr.out.alloc hsw _⟩
        case measure => simp [intOf]; omega
      · have hfin := hide (show HT (k + 1) = acc by rw [Hx.out, hr.out, hacc.out]; simp)
        go_wp2_with fail
        go_roundw
        case rel => exact ⟨k + 1, by omega, by go_num, ⟨acc, Hrow.out.alloc _, hide hfin.out.symm⟩, K0.out.alloc _, Hbr.out.alloc hsw _⟩
        case measure => simp [intOf]; omega
      · have hfin := hide (show HT (k + 1) = acc by rw [Hx.out, hr.out, hacc.out]; simp)
        go_wp2_with fail
        go_roundw
        case rel => exact ⟨k + 1, by omega, by go_num, ⟨acc, Hrow.out.alloc _, hide hfin.out.symm⟩, K0.out.alloc _, Hbr.out.alloc hsw _⟩
        case measure => simp [intOf]; omega
      · have hfin := hide (show HT (k + 1) = acc by rw [Hx.out, hr.out, hacc.out]; simp)
        go_wp2_with fail
        go_roundw
        case rel => exact ⟨k + 1, by omega, by go_num, ⟨acc, Hrow.out.alloc _, hide hfin.out.symm⟩, K0.out.alloc _, Hbr.out.alloc hsw _⟩
        case measure => simp [intOf]; omega
      · have hfin := hide (show HT (k + 1) = acc ++ [ln] by rw [Hx.out, hr.out, hacc.out]; rfl)
        go_wp2_with (at_builtin; refine wpList_append1 rfl (.tmp 72) (.tmp 75) 51 rfl (w.heap.size + 1) 3 (.int .i64 0) 1 8 encInt Tryz.underlying51 (by kernel_rfl) rfl (by omega) encInt_len encInt_one _ acc ln rfl ((Hrow.out.alloc _).alloc _) _ rfl (Blk.new1 wr _ _ _) hal (by omega) (by simp; omega) ?_; intro A9 c9 w9 hrow9 hb9 hkeep9)
        go_roundw
        case rel => exact ⟨k + 1, by omega, by go_num, ⟨acc ++ [ln], by simpa using hrow9, hide hfin.out.symm⟩, hkeep9 _ _ _ (by decide) ((K0.out.alloc _).alloc _), ((Hbr.out.alloc hsw _).alloc (le_alloc hsw _) _).trans (hb9.mono (Nat.le_succ _))⟩
        case measure => simp [intOf]; omega
    · obtain rfl : k = n := by omega
      rw [HTa.out] at hacc
      have Hse := hide (show SE = Lib.compact (acc.mergeSort fun x y => decide (x ≤ y)) by rw [hacc.out]; exact Hseen.out.symm)
      have Hb := hide hbr
      by_cases h0 : acc.length = 0
      · have h9 : acc = [] := List.length_eq_zero_iff.1 h0
        have Hse := hide (show SE = [] by rw [Hse.out, h9]; simp [Lib.compact, Lib.compactUpTo])
        clear hrow Hrow k0 K0 hbr Hbr hacc h9 hal
        rw [h0]
        clear h0
        go_wp2_with (first
          | (go_at_call 48; refine (Tryz.slices_Sort_int_none _ _ _).mono ?_; rintro e w2 ⟨rfl, rfl⟩)
          | (go_at_call 49; refine (Tryz.slices_Compact_int_empty _ _ _).mono ?_; rintro e w2 ⟨rfl, rfl⟩))
        go_ret
        exact ⟨A0, c0, by rw [Hse.out]; rfl, by rw [Hse.out]; exact SlOf.nil _ _ _ _ _, Hb.out⟩
      · have hown : wr.ownsRow w.heap.size 3 1 (.slice A0 acc.length c0) acc.length (acc.map (Value.int .i64)) := by
          have h9 := rowBase (Nat.le_succ _) hrow
          unfold Row at h9
          rwa [flat_ints] at h9
        obtain ⟨gg, cap, hv, hbg, hgl, hncap, hcm, hlen, hH⟩ := Lib.holds_of_ownsRow hown (by intro h9; injection h9 with _ h9 _; exact h0 h9)
        injection hv with hv1 hv2 hv3
        subst hv1
        subst hv3
        have HX := hide (And.intro hown (And.intro hbg (And.intro hgl (And.intro hncap hH))))
        have hS := Tryz.slices_Sort_int gg 0 c0 acc wr hH hgl (by omega)
        have HS := hide hS
        have Hl2 := hide (show (acc.mergeSort fun x y => decide (x ≤ y)).length = acc.length from List.length_mergeSort acc)
        clear hrow Hrow k0 K0 hbr Hbr hacc hown hH hlen hv2 hS hbg hgl hncap hcm
        go_wp2_with fail
        refine HS.out.mono ?_
        rintro e w2 ⟨rfl, nn, os, hw2⟩
        have hH2 : Holds (Value.int .i64) w2 gg 0 (acc.mergeSort fun x y => decide (x ≤ y)).toArray := by
          rw [hw2]
          exact holds_grow _ _ os gg 0 _ (by simpa [putRow, mapBlock, Sort.ahead] using HX.out.2.2.1) (holds_putRow _ _ gg 0 _ _ (holds_ahead _ wr nn gg 0 _ HX.out.2.2.2.2) (by simp))
        have hC := Tryz.slices_Compact_int gg 0 c0 (acc.mergeSort fun x y => decide (x ≤ y)) w2 hH2 (by rw [Hl2.out]; omega) (by rw [Hl2.out]; exact HX.out.2.2.2.1)
        rw [Hl2.out] at hC
        have HC := hide hC
        have Hw2 := hide hw2
        clear hC hH2 hw2 HS
        go_wp2_with fail
        refine HC.out.mono ?_
        rintro e w3 ⟨rfl, qq, hw3⟩
        rw [Hw2.out] at hw3
        have HF := hide (show Row w3 w.heap.size 3 1 encInt (.slice (some ⟨gg, 0, none⟩) (Lib.compact (acc.mergeSort fun x y => decide (x ≤ y))).length c0) (Lib.compact (acc.mergeSort fun x y => decide (x ≤ y))) ∧ Below w.heap.size w w3 by
          rw [hw3]
          exact sorted_left HX.out.1 Hb.out HX.out.2.1)
        clear hw3 HC Hw2
        rw [← Hse.out] at HF ⊢
        go_wp2_with fail
        go_ret
        exact ⟨some ⟨gg, 0, none⟩, c0, rfl, Row.read HF.out.1 encInt_len (by omega), HF.out.2⟩
end Go.Proofs.YtpmipoljnchheaaGreatDoor
