/- The set of ASCII bytes that the ten digits make. -/
import Derived.Test.YtnhmdgkhmkeopaaGreatDoorTrim
import Derived.Deep.WholeRow
namespace Go.Proofs.YtnhmdgkhmkeopaaGreatDoor
open Go.RowKit

def tenDigits : ByteArray := ⟨#[48, 49, 50, 51, 52, 53, 54, 55, 56, 57]⟩
/-- The first k digits are in. -/
def DigTo (cs : Array Value) (k : Nat) : Prop := cs.size = 256 ∧ ∀ j : Nat, j < 256 → cs[j]? = some (.bool (decide (48 ≤ j) && decide (j < 48 + k)))
theorem DigTo.full {cs : Array Value} (h : DigTo cs 10) : DigSet cs := by
  refine ⟨h.1, fun j hj => ?_⟩
  rw [h.2 j hj]
  congr 2
  rw [Bool.eq_iff_iff]
  simp [isDigit]
  omega
theorem DigTo.step {cs : Array Value} {k : Nat} (h : DigTo cs k) : DigTo (cs.setIfInBounds (48 + k) (.bool true)) (k + 1) := by
  refine ⟨by simp [h.1], fun j hj => ?_⟩
  by_cases hjk : j = 48 + k
  · subst hjk
    rw [Array.getElem?_setIfInBounds_self_of_lt (by rw [h.1]; omega)]
    simp
  · rw [Array.getElem?_setIfInBounds_ne (by omega), h.2 j hj]
    congr 2
    rw [Bool.eq_iff_iff]
    simp
    omega
theorem ten_get {k : Nat} (h : k < 10) : tenDigits[k]'(by show k < 10; exact h) = UInt8.ofNat (48 + k) := by
  have : k = 0 ∨ k = 1 ∨ k = 2 ∨ k = 3 ∨ k = 4 ∨ k = 5 ∨ k = 6 ∨ k = 7 ∨ k = 8 ∨ k = 9 := by omega
  rcases this with rfl | rfl | rfl | rfl | rfl | rfl | rfl | rfl | rfl | rfl <;> rfl
set_option maxRecDepth 100000 in
theorem digTo_zero : DigTo Tryz.zeroCells152 0 := by
  have h : Tryz.zeroCells152 = Array.replicate 256 (.bool false) := by kernel_rfl
  rw [h]
  refine ⟨by simp, fun j hj => ?_⟩
  rw [Array.getElem?_replicate, if_pos hj]
  congr 2
  symm
  simp
  try omega
set_option maxHeartbeats 4000000 in
set_option maxRecDepth 100000 in
theorem makeSet_ten (w : World) :
    Calls Tryz.prog 108 #[.string tenDigits] w fun e w' => ∃ cs, e = .returned (.tuple #[.agg cs, .bool true]) ∧ DigSet cs ∧ Below w.heap.size w w' := by
  have hs : tenDigits.size = 10 := rfl
  have Hs := hide hs
  go_enter Tryz.func108, Tryz.ntmps108
  go_wp2_with fail
  go_loopw [4] (fun i wr => ∃ k : Nat, k ≤ 10 ∧ i = .int .i64 k ∧ ∃ cs : Array Value, DigTo cs k ∧ wr = w.alloc (.cells cs 152)) (fun i _ => 10 - (intOf i).toNat)
  case atStart => exact ⟨0, Nat.zero_le _, rfl, _, digTo_zero, rfl⟩
  case round =>
    obtain ⟨k, hk, rfl, cs, hd, rfl⟩ := hrel
    have hb := Blk.new w 152 cs
    have Hd := hide hd
    by_cases hlt : k < 10
    · have ht : (tenDigits[k]'(by show k < 10; exact hlt)).toNat = 48 + k := by
        rw [ten_get hlt, UInt8.toNat_ofNat', Nat.mod_eq_of_lt (by omega)]
      have c0 := hb.cell (48 + k)
      rw [hd.2 (48 + k) (by omega)] at c0
      have f0 := hb.frozen (48 + k)
      rw [← ht] at c0 f0
      have c00 := hb.cell 0
      rw [hd.2 0 (by omega)] at c00
      have hlt128 : ((tenDigits[k]'(by show k < 10; exact hlt)).toNat : Int) < 128 := by omega
      have Ht := hide ht
      clear hb hd ht
      go_wp2_with fail
      go_roundw
      case rel => exact ⟨k + 1, by omega, by go_num, _, Hd.out.step, by rw [Ht.out]⟩
      case measure => simp [intOf]; omega
    · obtain rfl : k = 10 := by omega
      have hsz := hd.1
      have hi : ((Tryz.prog).info? 152).map (·.size) = some cs.size := by rw [hsz]; kernel_rfl
      have hone : cs.all (·.oneCell') = true := by
        rw [Array.all_eq_true]
        intro j hj
        have := hd.2 j (by omega)
        rw [Array.getElem?_eq_getElem hj] at this
        injection this with this
        rw [this]
        rfl
      have r1 := run_loadAt_new (P := Tryz.prog) w 152 cs 256 4 Tryz.underlying152 hi
      have r2 := run_storeAt_new (P := Tryz.prog) w 152 cs cs hi rfl hone
      have r3 := run_loadCellsFrom_new (P := Tryz.prog) w 152 cs 256 hsz
      have r4 := run_storeCells_new (P := Tryz.prog) w 152 cs cs hi rfl hone
      have Hi := hide hi
      have Hone := hide hone
      have Hb := hide hb
      clear hb hd hi hone hsz r1 r2 r3 r4
      go_wp2_with (first
        | (refine wpList_load_row rfl 152 (.tmp 2) rfl w.heap.size rfl 152 cs (0, 0) _ Hb.out Tryz.underlying152 rfl Hi.out ?_)
        | (refine wpList_store_row rfl 152 (.tmp 2) (.tmp 20) rfl w.heap.size cs rfl rfl 152 cs Hb.out Hi.out rfl Hone.out ?_)
        | (refine wp_load_row 152 (.tmp 2) rfl w.heap.size rfl 152 cs (0, 0) _ Hb.out Tryz.underlying152 rfl Hi.out ?_)
        | (refine wp_store_row 152 (.tmp 2) (.tmp 20) rfl w.heap.size cs rfl rfl 152 cs Hb.out Hi.out rfl Hone.out ?_))
      rw [World.setRow_alloc_new]
      refine bodyPost_ret (results_ct rfl rfl (Blk.new w _ cs) Tryz.underlying152 rfl Hi.out) rfl ?_
      exact ⟨cs, rfl, Hd.out.full, below_new _ _⟩
end Go.Proofs.YtnhmdgkhmkeopaaGreatDoor
