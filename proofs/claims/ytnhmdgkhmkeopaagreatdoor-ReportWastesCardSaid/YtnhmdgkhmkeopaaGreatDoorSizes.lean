/- Sizes of bars: the list of sizes, and whether a number is one. -/
import Derived.Test.YtnhmdgkhmkeopaaGreatDoorBase
import Derived.Test.YtnhmdgkhmkeopaaGreatDoorPure
namespace Go.Proofs.YtnhmdgkhmkeopaaGreatDoor
open Go.RowKit

set_option maxHeartbeats 400000 in
theorem index_any (A : Option Addr) (l : List Int) (n c : Nat) (x : Int) (w : World) {B : Nat} (h : Ints w B A l) (hn : n = l.length) (hm : n ≤ 60000) :
    Calls Tryz.prog 62 #[.slice A n c, .int .i64 x] w fun e w' => e = .returned (.int .i64 (idx (fun y => x == y) l)) ∧ w = w' := by
  have hn' := hide hn; clear hn
  go_enter Tryz.func62, Tryz.ntmps62
  go_wp2
  go_loop [5, 8] (fun _ i => ∃ k : Nat, k ≤ n ∧ i = .int .i64 k ∧ NoneTo (fun y => x == y) l k) (fun _ i => n - (intOf i).toNat)
  case atStart => exact ⟨0, Nat.zero_le _, rfl, NoneTo.zero _ _⟩
  case round =>
    obtain ⟨k, hk, rfl, hw⟩ := hrel
    by_cases hlt : k < n
    · obtain ⟨b, off, y, rfl, hb, hy, hc⟩ := h.get (k := k) (by rw [← hn'.out]; exact hlt)
      have Hy := hide hy
      clear hy hb h
      go_wp2_with fail
      · go_ret
        exact ⟨ret_int (hw.hit Hy.out (by assumption)).symm, rfl⟩
      · go_round
        case rel => exact ⟨k + 1, by omega, by go_num, hw.succ Hy.out (by assumption)⟩
        case measure => simp [intOf]; omega
    · obtain rfl : k = n := by omega
      go_wp2_with fail
      go_ret
      exact ⟨ret_int (NoneTo.miss (by rw [← hn'.out]; exact hw)).symm, rfl⟩

def steelSizes : List Int := [6, 8, 10, 12, 16, 20, 25, 32, 40]
def has (x : Int) (l : List Int) : Bool := l.contains x
def isSize (d : Int) : Bool := has d steelSizes

set_option maxHeartbeats 400000 in
theorem contains_any (A : Option Addr) (l : List Int) (n c : Nat) (x : Int) (w : World) {B : Nat} (h : Ints w B A l) (hn : n = l.length) (hm : n ≤ 60000) :
    Calls Tryz.prog 119 #[.slice A n c, .int .i64 x] w fun e w' => e = .returned (.bool (has x l)) ∧ w = w' := by
  have hn' := hide hn; clear hn
  go_enter Tryz.func119, Tryz.ntmps119
  go_wp2_with (go_at_call 62; refine (index_any A l n c x _ h hn'.out hm).mono ?_; rintro e w' ⟨rfl, rfl⟩)
  go_ret
  refine ⟨ret_bool ?_, rfl⟩
  rw [idx_any, has, Bool.eq_iff_iff]
  simp

set_option maxHeartbeats 400000 in
theorem sizes_any (w : World) :
    Calls Tryz.prog 53 #[] w fun e w' => ∃ A, e = .returned (.slice A 9 9) ∧ Ints w' w'.heap.size A steelSizes ∧ Below w.heap.size w w' := by
  go_enter Tryz.func53, Tryz.ntmps53
  go_wp2
  go_ret
  exact ⟨_, rfl, SlOf.lit encInt_len _ _ _ _ rfl (by simp), (Below.refl _ _).alloc (Nat.le_refl _) _⟩

set_option maxHeartbeats 400000 in
theorem size_any (d : Int) (w : World) :
    Calls Tryz.prog 89 #[.int .i64 d] w fun e w' => e = .returned (.bool (isSize d)) ∧ Below w.heap.size w w' := by
  go_enter Tryz.func89, Tryz.ntmps89
  go_wp2_with (first | (go_at_call 53; refine (sizes_any _).mono ?_; rintro e w1 ⟨A, rfl, hi, hb⟩) | (go_at_call 119; refine (contains_any A steelSizes 9 9 d _ hi rfl (by omega)).mono ?_; rintro e w2 ⟨rfl, rfl⟩))
  go_ret
  exact ⟨rfl, hb⟩

theorem isSize_mem {d : Int} (h : isSize d = true) : d ∈ steelSizes := by simpa [isSize, has] using h
theorem isSize_range {d : Int} (h : isSize d = true) : 6 ≤ d ∧ d ≤ 40 := by
  have := isSize_mem h
  simp [steelSizes] at this
  omega


end Go.Proofs.YtnhmdgkhmkeopaaGreatDoor
