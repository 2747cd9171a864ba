/- The text of findings, for every list. -/
import Derived.Test.YtnhmdgkhmkeopaaGreatDoorFindS
namespace Go.Proofs.YtnhmdgkhmkeopaaGreatDoor
open Go.RowKit

theorem sd_nil (w : World) : (Builtin.unsafeSliceData_ #[72] 108 #[.slice none 0 0]).run Tryz.prog w = .ok (.pointer none) w := by kernel_rfl
theorem us_nil (w : World) : (Builtin.unsafeString_ #[108, 3] 9 #[.pointer none, .int .i64 0]).run Tryz.prog w = .ok (.string .empty) w := by kernel_rfl
set_option maxHeartbeats 1000000 in
theorem builderString_fresh (w : World) (b : Nat) (c1 : ∀ d, ({ w with drawn := d } : World).cell? ⟨b, 1, none⟩ = some (.slice none 0 0)) :
    Calls Tryz.prog 29 #[.pointer (some ⟨b, 0, none⟩)] w fun e w' => e = .returned (.string .empty) ∧ Below w.heap.size w w' := by
  have h1 : w.drew.cell? ⟨b, 1, none⟩ = some (.slice none 0 0) := c1 _
  have hSD := sd_nil w.drew
  have hUS := us_nil w.drew
  clear c1
  go_enter Tryz.func29, Tryz.ntmps29
  go_wp2
  go_region
  all_goals (go_wp2; go_ret; exact ⟨rfl, Below.drew (Below.refl _ w)⟩)

set_option maxHeartbeats 1000000 in
set_option maxRecDepth 100000 in
theorem repFindings_any (A : Option Addr) (l : List FinD) (n c : Nat) (w : World) {B : Nat} (h : FinsAt w B A l) (hB : B ≤ w.heap.size) (hn : n = l.length) (hm : ∀ x ∈ l, x.name.size ≤ maxLen) (ht : TB B w) :
    Calls Tryz.prog 16 #[.slice A n c] w fun e w' => e = .returned (.tuple #[.string (finStr l), .int .i64 (finErr l)]) ∧ Below w.heap.size w w' := by
  have hn' := hide hn
  have Hs := hide h
  have Hm := hide hm
  by_cases h1000 : 1000 < n
  · have hs := hide (show finStr l = .empty by rw [finStr, ← hn, if_pos h1000])
    have he := hide (show finErr l = 4 by rw [finErr, ← hn, if_pos h1000])
    have d0 : decide (1000 < (n : Int)) = true := by simp; omega
    clear hn h hm h1000
    go_enter Tryz.func16, Tryz.ntmps16
    go_wp2_with fail
    go_ret2
    exact ⟨by rw [hs.out, he.out]; rfl, Below.refl _ _⟩
  cases hany : anyOf finBad l
  · have hs := hide (show finStr l = ⟨(finLines l).toArray⟩ by rw [finStr, ← hn, if_neg h1000, hany, if_neg (by simp)])
    have he := hide (show finErr l = 0 by rw [finErr, ← hn, if_neg h1000, hany, if_neg (by simp)])
    have hok : ∀ x ∈ l, finBad x = false := by
      intro x hx
      rw [anyOf, List.any_eq_false] at hany
      simpa using hany x hx
    by_cases hnil : l = []
    · subst hnil
      have Hc := hide hany
      obtain rfl : n = 0 := hn
      clear h hm h1000 hok hany
      go_enter Tryz.func16, Tryz.ntmps16
      go_wp2_with fail
      refine (containsFuncFin_any A [] 0 c 37 finBad w Hs.out hB rfl (by omega) Tryz.call37 (fun x W hx => by cases hx)).mono ?_
      rintro e w3 ⟨rfl, hb3⟩
      rw [Hc.out]
      have Hb3 := hide hb3
      have c1 := fun d => (show ({ (w3.alloc (.cells #[.pointer none, .slice none 0 0] 76)) with drawn := d } : World).cell? ⟨w3.heap.size, 1, none⟩ = some (.slice none 0 0) from (Blk.new w3 76 #[.pointer none, .slice none 0 0]).cell 1)
      clear hb3
      go_wp2_with fail
      go_loopw [16] (fun i wr => i = .int .i64 0 ∧ wr = w3.alloc (.cells #[.pointer none, .slice none 0 0] 76)) (fun _ _ => 0)
      case atStart => exact ⟨rfl, rfl⟩
      case round =>
        obtain ⟨rfl, rfl⟩ := hrel
        go_wp2_with fail
        refine (builderString_fresh _ _ c1).mono ?_
        rintro e w7 ⟨rfl, hb7⟩
        go_wp2_with fail
        go_ret2
        exact ⟨by rw [hs.out, he.out]; rfl, below_step (Hb3.out.alloc Hb3.out.size _) hb7 (Nat.le_refl _)⟩
    · refine (repFindings_ok A l n c w h hB hn (by omega) hnil hok ht).mono ?_
      rintro e w1 ⟨rfl, hb⟩
      exact ⟨by rw [hs.out, he.out], hb⟩
  · have hs := hide (show finStr l = .empty by rw [finStr, ← hn, if_neg h1000, hany, if_pos rfl])
    have he := hide (show finErr l = 1 by rw [finErr, ← hn, if_neg h1000, hany, if_pos rfl])
    have Hc := hide hany
    have hn1 : n ≤ 1000 := by omega
    have d0 : decide (1000 < (n : Int)) = false := by simp; omega
    clear hn h hm h1000 hany
    go_enter Tryz.func16, Tryz.ntmps16
    go_wp2_with fail
    refine (containsFuncFin_any A l n c 37 finBad w Hs.out hB hn'.out (by omega) Tryz.call37 (fun x W hx => findings1_any x W (Hm.out x hx))).mono ?_
    rintro e w3 ⟨rfl, hb3⟩
    rw [Hc.out]
    go_wp2_with fail
    go_ret2
    exact ⟨by rw [hs.out, he.out]; rfl, hb3⟩
end Go.Proofs.YtnhmdgkhmkeopaaGreatDoor
