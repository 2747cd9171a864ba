/- strings.Trim's two halves over a set of ASCII bytes: the set of the ten digits. -/
import Derived.Test.YtnhmdgkhmkeopaaGreatDoorNum
namespace Go.Proofs.YtnhmdgkhmkeopaaGreatDoor
open Go.RowKit

/-- A block of 256 answers: just the ten digits are in. -/
def DigSet (cs : Array Value) : Prop := cs.size = 256 ∧ ∀ j : Nat, j < 256 → cs[j]? = some (.bool (isDigit j))
set_option maxHeartbeats 1000000 in
theorem asciiContains_any (g : Nat) (t : TypeId) (cs : Array Value) (c : UInt8) (w : World) (hb : Blk w g t cs) (hd : DigSet cs) :
    Calls Tryz.prog 134 #[.pointer (some ⟨g, 0, none⟩), .int .u8 c.toNat] w fun e w' => e = .returned (.bool (isDigit c.toNat)) ∧ w = w' := by
  have hc : w.cell? ⟨g, c.toNat, none⟩ = some (.bool (isDigit c.toNat)) := by
    rw [hb.cell]
    exact hd.2 _ c.toNat_lt
  have hlt : c.toNat < 256 := c.toNat_lt
  have h0 : w.cell? ⟨g, 0, none⟩ = some (.bool (isDigit 0)) := by
    rw [hb.cell]
    exact hd.2 0 (by omega)
  clear hb hd
  go_enter Tryz.func134, Tryz.ntmps134
  go_wp2_with fail
  go_ret
  exact ⟨rfl, rfl⟩

def noBytes (r : ByteArray) : Bool := decide (r.size = 0)
def bytesOf (v : Value) : Nat := match v with | .string b => b.size | _ => 0
theorem extract_list (s : ByteArray) (a b : Nat) : (s.extract a b).data.toList = (s.data.toList.take b).drop a := by
  simp [ByteArray.data_extract, Array.toList_extract, List.extract, List.drop_take]
set_option maxHeartbeats 1000000 in
theorem trimLeft_any (g : Nat) (t : TypeId) (cs : Array Value) (s : ByteArray) (w : World) (hb : Blk w g t cs) (hd : DigSet cs) (hs : s.size ≤ 300000) :
    Calls Tryz.prog 109 #[.string s, .pointer (some ⟨g, 0, none⟩)] w fun e w' => ∃ r : ByteArray, e = .returned (.string r) ∧ Hid (noBytes r = allDigits s.data.toList) ∧ w = w' := by
  have Hb := hide hb
  have Hd := hide hd
  clear hb hd
  go_enter Tryz.func109, Tryz.ntmps109
  go_wp2_with fail
  go_loop [0] (fun v => ∃ x : ByteArray, v = .string x ∧ x.size ≤ s.size ∧ Hid (allDigits x.data.toList = allDigits s.data.toList)) (fun v => bytesOf v)
  case atStart => exact ⟨s, rfl, Nat.le_refl _, hide rfl⟩
  case round =>
    obtain ⟨x, rfl, hx, hall⟩ := hrel
    by_cases h0 : 0 < x.size
    · have hget : x.data.toList = (x[0]'h0) :: (x.data.toList.drop 1) := by
        have h1 : x.data.toList[0]? = some (x[0]'h0) := List.getElem?_eq_getElem (by simp; omega)
        have h2 := drop_at' h1
        rw [List.drop_zero] at h2
        exact h2
      cases hdg : isDigit ((x[0]'h0).toNat : Int)
      · have hno : allDigits x.data.toList = false := by
          rw [hget, allDigits, List.all_cons, hdg]
          rfl
        have Hno := hide hno
        have Hdg := hide hdg
        clear hno hget hdg
        go_wp2_with (go_at_call 134; refine (asciiContains_any g t cs _ _ Hb.out Hd.out).mono ?_; rintro e w' ⟨rfl, rfl⟩; rw [Hdg.out])
        go_ret
        have hx1 : noBytes x = false := by rw [noBytes, decide_eq_false_iff_not]; omega
        exact ⟨x, rfl, hide (by rw [← hall.out, Hno.out]; exact hx1), rfl⟩
      · have hnext : allDigits (x.extract 1 x.size).data.toList = allDigits x.data.toList := by
          rw [extract_list, List.take_of_length_le (by simp)]
          conv => rhs; rw [hget, allDigits, List.all_cons, hdg]
          rfl
        have Hnext := hide hnext
        have Hdg := hide hdg
        have hxs : (x.extract 1 x.size).size = x.size - 1 := by simp [ByteArray.size_extract]
        have Hxs := hide hxs
        clear hnext hget hdg hxs
        go_wp2_with (go_at_call 134; refine (asciiContains_any g t cs _ _ Hb.out Hd.out).mono ?_; rintro e w' ⟨rfl, rfl⟩; rw [Hdg.out])
        go_round
        case rel => exact ⟨_, rfl, by rw [Hxs.out]; omega, hide (Hnext.out.trans hall.out)⟩
        case measure => simp only [bytesOf]; rw [Hxs.out]; omega
    · have hx0 : x.size = 0 := by omega
      have hnil : x.data.toList = [] := List.eq_nil_of_length_eq_zero (by simpa using hx0)
      have Hn := hide (show allDigits s.data.toList = true by rw [← hall.out, hnil]; rfl)
      clear hnil
      go_wp2_with fail
      go_ret
      have hx1 : noBytes x = true := by rw [noBytes, decide_eq_true_eq]; exact hx0
      exact ⟨x, rfl, hide (by rw [Hn.out]; exact hx1), rfl⟩

set_option maxHeartbeats 1000000 in
theorem trimRight_any (g : Nat) (t : TypeId) (cs : Array Value) (s : ByteArray) (w : World) (hb : Blk w g t cs) (hd : DigSet cs) (hs : s.size ≤ 300000) :
    Calls Tryz.prog 110 #[.string s, .pointer (some ⟨g, 0, none⟩)] w fun e w' => ∃ r : ByteArray, e = .returned (.string r) ∧ r.size ≤ s.size ∧ Hid (allDigits r.data.toList = allDigits s.data.toList) ∧ w = w' := by
  have Hb := hide hb
  have Hd := hide hd
  clear hb hd
  go_enter Tryz.func110, Tryz.ntmps110
  go_wp2_with fail
  go_loop [0] (fun v => ∃ x : ByteArray, v = .string x ∧ x.size ≤ s.size ∧ Hid (allDigits x.data.toList = allDigits s.data.toList)) (fun v => bytesOf v)
  case atStart => exact ⟨s, rfl, Nat.le_refl _, hide rfl⟩
  case round =>
    obtain ⟨x, rfl, hx, hall⟩ := hrel
    by_cases h0 : 0 < x.size
    · have hlast : x.data.toList = x.data.toList.take (x.size - 1) ++ [x[x.size - 1]'(by omega)] := by
        have h1 : x.data.toList[x.size - 1]? = some (x[x.size - 1]'(by omega)) := List.getElem?_eq_getElem (by simp; omega)
        rw [← take_snoc' h1, show x.size - 1 + 1 = x.size by omega, List.take_of_length_le (by simp)]
      have hnat : ((x.size : Int) - 1) = ((x.size - 1 : Nat) : Int) := by omega
      cases hdg : isDigit ((x[x.size - 1]'(by omega)).toNat : Int)
      · have Hdg := hide hdg
        clear hdg hlast
        go_wp2_with (go_at_call 134; refine (asciiContains_any g t cs _ _ Hb.out Hd.out).mono ?_; rintro e w' ⟨rfl, rfl⟩; rw [Hdg.out])
        go_ret
        exact ⟨x, rfl, hx, hall, rfl⟩
      · have hnext : allDigits (x.extract 0 (x.size - 1)).data.toList = allDigits x.data.toList := by
          rw [extract_list, List.drop_zero]
          conv => rhs; rw [hlast, allDigits, List.all_append, List.all_cons, hdg]
          simp [allDigits]
        have Hnext := hide hnext
        have Hdg := hide hdg
        have hxs : (x.extract 0 (x.size - 1)).size = x.size - 1 := by simp [ByteArray.size_extract]
        have Hxs := hide hxs
        clear hnext hlast hdg hxs
        go_wp2_with (go_at_call 134; refine (asciiContains_any g t cs _ _ Hb.out Hd.out).mono ?_; rintro e w' ⟨rfl, rfl⟩; rw [Hdg.out])
        go_round
        case rel => exact ⟨_, rfl, by rw [Hxs.out]; omega, hide (Hnext.out.trans hall.out)⟩
        case measure => simp only [bytesOf]; rw [Hxs.out]; omega
    · go_wp2_with fail
      go_ret
      exact ⟨x, rfl, hx, hall, rfl⟩
end Go.Proofs.YtnhmdgkhmkeopaaGreatDoor
