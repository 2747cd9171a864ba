/- slices.Sort and slices.Compact of whole numbers, over a row of the call's own: by the shelf's contracts. -/
import Derived.Test.YtkmpddaobncheaaGreatDoorQac
import Derived.Test.YtkmpddaobncheaaGreatDoorShelf
import Derived.Lib.RowBridge
import Derived.Sort.OwnSortedInts
import Derived.Lib.OwnBridge
namespace Go.Proofs.YtkmpddaobncheaaGreatDoor
open Go.RowKit Go.Sort

theorem flatInts (l : List Int) : l.flatMap encInt = l.map (Value.int .i64) := by
  induction l with
  | nil => rfl
  | cons x l ih => rw [List.flatMap_cons, List.map_cons, ih]; rfl
theorem sortLaw : SortLaw := by
  intro A l n c base w h hm
  obtain ⟨A9, c9, hv⟩ := h.val
  injection hv with h1 h2 h3
  subst h1
  subst h2
  subst h3
  by_cases h0 : l.length = 0
  · have hl : l = [] := List.length_eq_zero_iff.1 h0
    subst hl
    refine (Tryz.slices_Sort_int_none A c w).mono ?_
    rintro e w' ⟨rfl, rfl⟩
    exact ⟨rfl, by simpa using h, Below.refl _ _⟩
  · have hown : w.ownsRow base 3 1 (.slice A l.length c) l.length (l.map (Value.int .i64)) := by
      have h9 := h
      unfold Row at h9
      rwa [flatInts] at h9
    have hown2 := hown
    obtain ⟨gg, cap, hv, hbg, hgl, hncap, hcm, hlen, hH⟩ := Lib.holds_of_ownsRow hown (by intro h9; injection h9 with _ h9 _; exact h0 h9)
    injection hv with hv1 hv2 hv3
    subst hv1
    subst hv3
    rcases hown2.2 with ⟨h9, _⟩ | ⟨g', cap', cur, hv, hbase, hb, e1, e2, e3, e4⟩
    · cases h9
    cases hv
    have hl2 : (l.mergeSort fun x y => decide (x ≤ y)).length = l.length := List.length_mergeSort l
    refine (Tryz.slices_Sort_int gg 0 c l w hH hgl (by omega)).mono ?_
    rintro e w' ⟨rfl, nn, os, rfl⟩
    have hs := ownsRow_sortedI (n := nn) (os := os) (ts := l.mergeSort fun x y => decide (x ≤ y)) hl2 hbase hb e1 e2 e3
    refine ⟨rfl, ?_, (Below.refl base w).grown (grownBy_sortedI _) ?_ (fun j hj => by cases hj; exact hbg)⟩
    · unfold Row
      rw [flatInts, hl2]
      exact hs
    · exact Nat.le_trans hbg (Nat.le_of_lt hgl)
theorem compLaw : CompLaw := by
  intro A l n c base w h hm
  obtain ⟨A9, c9, hv⟩ := h.val
  injection hv with h1 h2 h3
  subst h1
  subst h2
  subst h3
  by_cases h0 : l.length = 0
  · have hl : l = [] := List.length_eq_zero_iff.1 h0
    subst hl
    refine (Tryz.slices_Compact_int_empty A c w).mono ?_
    rintro e w' ⟨rfl, rfl⟩
    exact ⟨A, rfl, h, Below.refl _ _⟩
  · have hown : w.ownsRow base 3 1 (.slice A l.length c) l.length (l.map (Value.int .i64)) := by
      have h9 := h
      unfold Row at h9
      rwa [flatInts] at h9
    obtain ⟨gg, cap, hv, hbg, hgl, hncap, hcm, hlen, hH⟩ := Lib.holds_of_ownsRow hown (by intro h9; injection h9 with _ h9 _; exact h0 h9)
    injection hv with hv1 hv2 hv3
    subst hv1
    subst hv3
    have hle := Lib.compact_length_le l
    refine (Tryz.slices_Compact_int gg 0 c l w hH (by omega) hncap).mono ?_
    rintro e w' ⟨rfl, q, rfl⟩
    have hc := Lib.ownsRow_putRow (q := q) (k := (Lib.compact l).length) (ys := Lib.compact l ++ List.replicate (l.length - (Lib.compact l).length) 0) hown (by simp; omega) (by omega)
    rw [List.take_left] at hc
    refine ⟨some ⟨gg, 0, none⟩, rfl, ?_, Lib.below_putRow (Below.refl _ _) hbg⟩
    unfold Row
    rw [flatInts]
    exact hc
end Go.Proofs.YtkmpddaobncheaaGreatDoor
