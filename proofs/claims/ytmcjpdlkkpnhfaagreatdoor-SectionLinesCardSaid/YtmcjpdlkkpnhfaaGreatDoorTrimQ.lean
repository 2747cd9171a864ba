/- strings.Trim by the signs of a drawing: what is left is empty just where all bytes are signs. -/
import Derived.Test.YtmcjpdlkkpnhfaaGreatDoorLineS
import Derived.Deep.WholeRow
namespace Go.Proofs.YtmcjpdlkkpnhfaaGreatDoor
open Go.RowKit

/-- A block of 256 answers: just the ten digits are in. -/
def PicSet (cs : Array Value) : Prop := cs.size = 256 ∧ ∀ j : Nat, j < 256 → cs[j]? = some (.bool (isPic j))
set_option maxHeartbeats 1000000 in
theorem asciiContains_any (g : Nat) (t : TypeId) (cs : Array Value) (c : UInt8) (w : World) (hb : Blk w g t cs) (hd : PicSet cs) :
    Calls Tryz.prog 56 #[.pointer (some ⟨g, 0, none⟩), .int .u8 c.toNat] w fun e w' => e = .returned (.bool (isPic c.toNat)) ∧ w = w' := by
  have hc : w.cell? ⟨g, c.toNat, none⟩ = some (.bool (isPic c.toNat)) := by
    rw [hb.cell]
    exact hd.2 _ c.toNat_lt
  have hlt : c.toNat < 256 := c.toNat_lt
  have h0 : w.cell? ⟨g, 0, none⟩ = some (.bool (isPic 0)) := by
    rw [hb.cell]
    exact hd.2 0 (by omega)
  clear hb hd
  go_enter Tryz.func56, Tryz.ntmps56
  go_wp2_with fail
  go_ret
  exact ⟨rfl, rfl⟩

def noBytes (r : ByteArray) : Bool := decide (r.size = 0)
def bytesOf (v : Value) : Nat := match v with | .string b => b.size | _ => 0
theorem extract_list (s : ByteArray) (a b : Nat) : (s.extract a b).data.toList = (s.data.toList.take b).drop a := by
  simp [ByteArray.data_extract, Array.toList_extract, List.extract, List.drop_take]
set_option maxHeartbeats 1000000 in
theorem trimLeft_any (g : Nat) (t : TypeId) (cs : Array Value) (s : ByteArray) (w : World) (hb : Blk w g t cs) (hd : PicSet cs) (hs : s.size ≤ 300000) :
    Calls Tryz.prog 32 #[.string s, .pointer (some ⟨g, 0, none⟩)] w fun e w' => ∃ r : ByteArray, e = .returned (.string r) ∧ Hid (noBytes r = allPics s.data.toList) ∧ w = w' := by
  have Hb := hide hb
  have Hd := hide hd
  clear hb hd
  go_enter Tryz.func32, Tryz.ntmps32
  go_wp2_with fail
  go_loop [0] (fun v => ∃ x : ByteArray, v = .string x ∧ x.size ≤ s.size ∧ Hid (allPics x.data.toList = allPics s.data.toList)) (fun v => bytesOf v)
  case atStart => exact ⟨s, rfl, Nat.le_refl _, hide rfl⟩
  case round =>
    obtain ⟨x, rfl, hx, hall⟩ := hrel
    by_cases h0 : 0 < x.size
    · have hget : x.data.toList = (x[0]'h0) :: (x.data.toList.drop 1) := by
        have h1 : x.data.toList[0]? = some (x[0]'h0) := List.getElem?_eq_getElem (by simp; omega)
        have h2 := drop_at' h1
        rw [List.drop_zero] at h2
        exact h2
      cases hdg : isPic ((x[0]'h0).toNat : Int)
      · have hno : allPics x.data.toList = false := by
          rw [hget, allPics, List.all_cons, hdg]
          rfl
        have Hno := hide hno
        have Hdg := hide hdg
        clear hno hget hdg
        go_wp2_with (go_at_call 56; refine (asciiContains_any g t cs _ _ Hb.out Hd.out).mono ?_; rintro e w' ⟨rfl, rfl⟩; rw [Hdg.out])
        go_ret
        have hx1 : noBytes x = false := by rw [noBytes, decide_eq_false_iff_not]; omega
        exact ⟨x, rfl, hide (by rw [← hall.out, Hno.out]; exact hx1), rfl⟩
      · have hnext : allPics (x.extract 1 x.size).data.toList = allPics x.data.toList := by
          rw [extract_list, List.take_of_length_le (by simp)]
          conv => rhs; rw [hget, allPics, List.all_cons, hdg]
          rfl
        have Hnext := hide hnext
        have Hdg := hide hdg
        have hxs : (x.extract 1 x.size).size = x.size - 1 := by simp [ByteArray.size_extract]
        have Hxs := hide hxs
        clear hnext hget hdg hxs
        go_wp2_with (go_at_call 56; refine (asciiContains_any g t cs _ _ Hb.out Hd.out).mono ?_; rintro e w' ⟨rfl, rfl⟩; rw [Hdg.out])
        go_round
        case rel => exact ⟨_, rfl, by rw [Hxs.out]; omega, hide (Hnext.out.trans hall.out)⟩
        case measure => simp only [bytesOf]; rw [Hxs.out]; omega
    · have hx0 : x.size = 0 := by omega
      have hnil : x.data.toList = [] := List.eq_nil_of_length_eq_zero (by simpa using hx0)
      have Hn := hide (show allPics s.data.toList = true by rw [← hall.out, hnil]; rfl)
      clear hnil
      go_wp2_with fail
      go_ret
      have hx1 : noBytes x = true := by rw [noBytes, decide_eq_true_eq]; exact hx0
      exact ⟨x, rfl, hide (by rw [Hn.out]; exact hx1), rfl⟩

set_option maxHeartbeats 1000000 in
theorem trimRight_any (g : Nat) (t : TypeId) (cs : Array Value) (s : ByteArray) (w : World) (hb : Blk w g t cs) (hd : PicSet cs) (hs : s.size ≤ 300000) :
    Calls Tryz.prog 33 #[.string s, .pointer (some ⟨g, 0, none⟩)] w fun e w' => ∃ r : ByteArray, e = .returned (.string r) ∧ r.size ≤ s.size ∧ Hid (allPics r.data.toList = allPics s.data.toList) ∧ w = w' := by
  have Hb := hide hb
  have Hd := hide hd
  clear hb hd
  go_enter Tryz.func33, Tryz.ntmps33
  go_wp2_with fail
  go_loop [0] (fun v => ∃ x : ByteArray, v = .string x ∧ x.size ≤ s.size ∧ Hid (allPics x.data.toList = allPics s.data.toList)) (fun v => bytesOf v)
  case atStart => exact ⟨s, rfl, Nat.le_refl _, hide rfl⟩
  case round =>
    obtain ⟨x, rfl, hx, hall⟩ := hrel
    by_cases h0 : 0 < x.size
    · have hlast : x.data.toList = x.data.toList.take (x.size - 1) ++ [x[x.size - 1]'(by omega)] := by
        have h1 : x.data.toList[x.size - 1]? = some (x[x.size - 1]'(by omega)) := List.getElem?_eq_getElem (by simp; omega)
        rw [← take_snoc' h1, show x.size - 1 + 1 = x.size by omega, List.take_of_length_le (by simp)]
      have hnat : ((x.size : Int) - 1) = ((x.size - 1 : Nat) : Int) := by omega
      cases hdg : isPic ((x[x.size - 1]'(by omega)).toNat : Int)
      · have Hdg := hide hdg
        clear hdg hlast
        go_wp2_with (go_at_call 56; refine (asciiContains_any g t cs _ _ Hb.out Hd.out).mono ?_; rintro e w' ⟨rfl, rfl⟩; rw [Hdg.out])
        go_ret
        exact ⟨x, rfl, hx, hall, rfl⟩
      · have hnext : allPics (x.extract 0 (x.size - 1)).data.toList = allPics x.data.toList := by
          rw [extract_list, List.drop_zero]
          conv => rhs; rw [hlast, allPics, List.all_append, List.all_cons, hdg]
          simp [allPics]
        have Hnext := hide hnext
        have Hdg := hide hdg
        have hxs : (x.extract 0 (x.size - 1)).size = x.size - 1 := by simp [ByteArray.size_extract]
        have Hxs := hide hxs
        clear hnext hlast hdg hxs
        go_wp2_with (go_at_call 56; refine (asciiContains_any g t cs _ _ Hb.out Hd.out).mono ?_; rintro e w' ⟨rfl, rfl⟩; rw [Hdg.out])
        go_round
        case rel => exact ⟨_, rfl, by rw [Hxs.out]; omega, hide (Hnext.out.trans hall.out)⟩
        case measure => simp only [bytesOf]; rw [Hxs.out]; omega
    · go_wp2_with fail
      go_ret
      exact ⟨x, rfl, hx, hall, rfl⟩

def picSet : ByteArray := ⟨#[46, 35, 43, 111]⟩
def picList : List Nat := [46, 35, 43, 111]
def picCode (k : Nat) : Nat := picList.getD k 0
/-- The first k signs are in. -/
def inPics (k j : Nat) : Bool := (picList.take k).contains j
def PicTo (cs : Array Value) (k : Nat) : Prop := cs.size = 256 ∧ ∀ j : Nat, j < 256 → cs[j]? = some (.bool (inPics k j))
theorem PicTo.full {cs : Array Value} (h : PicTo cs 4) : PicSet cs := by
  refine ⟨h.1, fun j hj => ?_⟩
  rw [h.2 j hj]
  congr 2
  rw [Bool.eq_iff_iff]
  simp [inPics, picList, isPic]
  omega
theorem code_lt {k : Nat} (h : k < 4) : picCode k < 128 := by
  have : k = 0 ∨ k = 1 ∨ k = 2 ∨ k = 3 := by omega
  rcases this with rfl | rfl | rfl | rfl <;> decide
theorem in_next {k : Nat} (h : k < 4) (j : Nat) : inPics (k + 1) j = (decide (j = picCode k) || inPics k j) := by
  have : k = 0 ∨ k = 1 ∨ k = 2 ∨ k = 3 := by omega
  rw [Bool.eq_iff_iff]
  rcases this with rfl | rfl | rfl | rfl <;> simp [inPics, picList, picCode] <;> omega
theorem PicTo.step {cs : Array Value} {k : Nat} (h : PicTo cs k) (hk : k < 4) : PicTo (cs.setIfInBounds (picCode k) (.bool true)) (k + 1) := by
  have hc := code_lt hk
  refine ⟨by simp [h.1], fun j hj => ?_⟩
  rw [in_next hk]
  by_cases hjk : j = picCode k
  · subst hjk
    rw [Array.getElem?_setIfInBounds_self_of_lt (by rw [h.1]; omega)]
    simp
  · rw [Array.getElem?_setIfInBounds_ne (by omega), h.2 j hj]
    simp [hjk]
theorem pic_get {k : Nat} (h : k < 4) : (picSet[k]'(by show k < 4; exact h)).toNat = picCode k := by
  have : k = 0 ∨ k = 1 ∨ k = 2 ∨ k = 3 := by omega
  rcases this with rfl | rfl | rfl | rfl <;> rfl
set_option maxRecDepth 100000 in
theorem picTo_zero : PicTo Tryz.zeroCells79 0 := by
  have h : Tryz.zeroCells79 = Array.replicate 256 (.bool false) := by kernel_rfl
  rw [h]
  refine ⟨by simp, fun j hj => ?_⟩
  rw [Array.getElem?_replicate, if_pos hj]
  rfl
set_option maxHeartbeats 4000000 in
set_option maxRecDepth 100000 in
theorem makeSet_pic (w : World) :
    Calls Tryz.prog 31 #[.string picSet] w fun e w' => ∃ cs, e = .returned (.tuple #[.agg cs, .bool true]) ∧ PicSet cs ∧ Below w.heap.size w w' := by
  have hs : picSet.size = 4 := rfl
  have Hs := hide hs
  go_enter Tryz.func31, Tryz.ntmps31
  go_wp2_with fail
  go_loopw [4] (fun i wr => ∃ k : Nat, k ≤ 4 ∧ i = .int .i64 k ∧ ∃ cs : Array Value, PicTo cs k ∧ wr = w.alloc (.cells cs 79)) (fun i _ => 4 - (intOf i).toNat)
  case atStart => exact ⟨0, Nat.zero_le _, rfl, _, picTo_zero, rfl⟩
  case round =>
    obtain ⟨k, hk, rfl, cs, hd, rfl⟩ := hrel
    have hb := Blk.new w 79 cs
    have Hd := hide hd
    by_cases hlt : k < 4
    · have ht : (picSet[k]'(by show k < 4; exact hlt)).toNat = picCode k := pic_get hlt
      have hc128 := code_lt hlt
      have c0 := hb.cell (picCode k)
      rw [hd.2 (picCode k) (by omega)] at c0
      have f0 := hb.frozen (picCode k)
      rw [← ht] at c0 f0
      have c00 := hb.cell 0
      rw [hd.2 0 (by omega)] at c00
      have hlt128 : ((picSet[k]'(by show k < 4; exact hlt)).toNat : Int) < 128 := by omega
      have Ht := hide ht
      clear hb hd ht hc128
      go_wp2_with fail
      go_roundw
      case rel => exact ⟨k + 1, by omega, by go_num, _, Hd.out.step (by omega), by rw [Ht.out]⟩
      case measure => simp [intOf]; omega
    · obtain rfl : k = 4 := by omega
      have hsz := hd.1
      have hi : ((Tryz.prog).info? 79).map (·.size) = some cs.size := by rw [hsz]; kernel_rfl
      have hone : cs.all (·.oneCell') = true := by
        rw [Array.all_eq_true]
        intro j hj
        have := hd.2 j (by omega)
        rw [Array.getElem?_eq_getElem hj] at this
        injection this with this
        rw [this]
        rfl
      have r1 := run_loadAt_new (P := Tryz.prog) w 79 cs 256 4 Tryz.underlying79 hi
      have r2 := run_storeAt_new (P := Tryz.prog) w 79 cs cs hi rfl hone
      have r3 := run_loadCellsFrom_new (P := Tryz.prog) w 79 cs 256 hsz
      have r4 := run_storeCells_new (P := Tryz.prog) w 79 cs cs hi rfl hone
      have Hi := hide hi
      have Hone := hide hone
      have Hb := hide hb
      clear hb hd hi hone hsz r1 r2 r3 r4
      go_wp2_with (first
        | (refine wpList_load_row rfl 79 (.tmp 2) rfl w.heap.size rfl 79 cs (0, 0) _ Hb.out Tryz.underlying79 rfl Hi.out ?_)
        | (refine wpList_store_row rfl 79 (.tmp 2) (.tmp 20) rfl w.heap.size cs rfl rfl 79 cs Hb.out Hi.out rfl Hone.out ?_)
        | (refine wp_load_row 79 (.tmp 2) rfl w.heap.size rfl 79 cs (0, 0) _ Hb.out Tryz.underlying79 rfl Hi.out ?_)
        | (refine wp_store_row 79 (.tmp 2) (.tmp 20) rfl w.heap.size cs rfl rfl 79 cs Hb.out Hi.out rfl Hone.out ?_))
      rw [World.setRow_alloc_new]
      refine bodyPost_ret (results_ct rfl rfl (Blk.new w _ cs) Tryz.underlying79 rfl Hi.out) rfl ?_
      exact ⟨cs, rfl, Hd.out.full, below_new _ _⟩
theorem picSet_one {cs : Array Value} (hd : PicSet cs) : cs.all (·.oneCell') = true := by
  rw [Array.all_eq_true]
  intro j hj
  have := hd.2 j (by have := hd.1; omega)
  rw [Array.getElem?_eq_getElem hj] at this
  injection this with this
  rw [this]
  rfl
theorem store_set (w : World) (cs : Array Value) (hd : PicSet cs) : (storeCells ⟨w.heap.size, 0, none⟩ cs.toList 0).run Tryz.prog (w.alloc (.cells Tryz.zeroCells79 79)) = .ok () (w.alloc (.cells cs 79)) :=
  run_storeCells_new w 79 _ cs (by rw [hd.1]; kernel_rfl) (by rw [hd.1]; kernel_rfl) (picSet_one hd)

set_option maxHeartbeats 4000000 in
set_option maxRecDepth 100000 in
theorem trim_pic (s : ByteArray) (w : World) (hs : s.size ≤ 300000) (q0 : (s.toList == ([] : List UInt8)) = false) :
    Calls Tryz.prog 10 #[.string s, .string picSet] w fun e w' => ∃ r : ByteArray, e = .returned (.string r) ∧ Hid (noBytes r = allPics s.data.toList) ∧ Below w.heap.size w w' := by
  have hs10 : picSet.size = 4 := rfl
  have q1 : picSet.toList.isEmpty = false := by decide +kernel
  go_enter Tryz.func10, Tryz.ntmps10
  go_wp2_with (go_at_call 31; refine (makeSet_pic _).mono ?_; rintro e w1 ⟨cs, rfl, hd, hb1⟩; have hd9 := hide hd; have hsz := hd.1; have r4 := store_set w1 cs hd; clear hd)
  clear r4 hsz
  have Hb := hide (Blk.new w1 79 cs)
  refine (trimRight_any w1.heap.size _ cs s _ Hb.out hd9.out hs).mono ?_
  rintro e w2 ⟨r, rfl, hr, hra, rfl⟩
  go_wp2_with fail
  refine (trimLeft_any w1.heap.size _ cs r _ Hb.out hd9.out (by omega)).mono ?_
  rintro e w2 ⟨r2, rfl, hr2, rfl⟩
  go_wp2_with fail
  go_ret
  exact ⟨r2, rfl, hide (hr2.out.trans hra.out), hb1.alloc hb1.size _⟩
end Go.Proofs.YtmcjpdlkkpnhfaaGreatDoor
