/- strings.Trim by the ten digits: what is left is empty just where all bytes are digits. -/
import Derived.Test.YtnhmdgkhmkeopaaGreatDoorTrimS
namespace Go.Proofs.YtnhmdgkhmkeopaaGreatDoor
open Go.RowKit

theorem digSet_one {cs : Array Value} (hd : DigSet cs) : cs.all (·.oneCell') = true := by
  rw [Array.all_eq_true]
  intro j hj
  have := hd.2 j (by have := hd.1; omega)
  rw [Array.getElem?_eq_getElem hj] at this
  injection this with this
  rw [this]
  rfl
theorem store_set (w : World) (cs : Array Value) (hd : DigSet cs) : (storeCells ⟨w.heap.size, 0, none⟩ cs.toList 0).run Tryz.prog (w.alloc (.cells Tryz.zeroCells152 152)) = .ok () (w.alloc (.cells cs 152)) :=
  run_storeCells_new w 152 _ cs (by rw [hd.1]; kernel_rfl) (by rw [hd.1]; kernel_rfl) (digSet_one hd)

set_option maxHeartbeats 4000000 in
set_option maxRecDepth 100000 in
theorem trim_ten (s : ByteArray) (w : World) (hs : s.size ≤ 300000) (q0 : (s.toList == ([] : List UInt8)) = false) :
    Calls Tryz.prog 76 #[.string s, .string tenDigits] w fun e w' => ∃ r : ByteArray, e = .returned (.string r) ∧ Hid (noBytes r = allDigits s.data.toList) ∧ Below w.heap.size w w' := by
  have hs10 : tenDigits.size = 10 := rfl
  have q1 : tenDigits.toList.isEmpty = false := by decide +kernel
  go_enter Tryz.func76, Tryz.ntmps76
  go_wp2_with (go_at_call 108; refine (makeSet_ten _).mono ?_; rintro e w1 ⟨cs, rfl, hd, hb1⟩; have hd9 := hide hd; have hsz := hd.1; have r4 := store_set w1 cs hd; clear hd)
  clear r4 hsz
  have Hb := hide (Blk.new w1 152 cs)
  refine (trimRight_any w1.heap.size _ cs s _ Hb.out hd9.out hs).mono ?_
  rintro e w2 ⟨r, rfl, hr, hra, rfl⟩
  go_wp2_with fail
  refine (trimLeft_any w1.heap.size _ cs r _ Hb.out hd9.out (by omega)).mono ?_
  rintro e w2 ⟨r2, rfl, hr2, rfl⟩
  go_wp2_with fail
  go_ret
  exact ⟨r2, rfl, hide (hr2.out.trans hra.out), hb1.alloc hb1.size _⟩
end Go.Proofs.YtnhmdgkhmkeopaaGreatDoor
