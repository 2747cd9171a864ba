/- The names of decimal: which bytes are letters, digits, and how many bytes a word has. -/
import Derived.Test.YtnhmdgkhmkeopaaGreatDoorBase
namespace Go.Proofs.YtnhmdgkhmkeopaaGreatDoor
open Go.RowKit

def isLetter (c : Int) : Bool := (decide (97 ≤ c) && decide (c ≤ 122)) || (decide (65 ≤ c) && decide (c ≤ 90))
def isDigit (c : Int) : Bool := decide (48 ≤ c) && decide (c ≤ 57)
def isWord (c : UInt8) : Bool := isLetter c.toNat || isDigit c.toNat || ((c.toNat : Int) == 95)
def wordLen (l : List UInt8) : Nat := (l.takeWhile isWord).length
def isName (s : ByteArray) : Bool :=
  decide (s.size ≠ 0) && decide (s.size ≤ 20) && (match s.data.toList with | c :: _ => isLetter c.toNat | [] => false) && decide (wordLen s.data.toList = s.size)

theorem drop_at (s : ByteArray) (k : Nat) (h : k < s.size) : s.data.toList.drop k = s[k] :: s.data.toList.drop (k + 1) := by
  rw [List.drop_eq_getElem_cons (by simpa using h)]; rfl

theorem wordLen_cons (c : UInt8) (l : List UInt8) : wordLen (c :: l) = if isWord c then wordLen l + 1 else 0 := by
  unfold wordLen; rw [List.takeWhile_cons]; split <;> simp
theorem wordLen_le (l : List UInt8) : wordLen l ≤ l.length := by
  unfold wordLen; exact (List.takeWhile_prefix isWord).length_le

set_option maxHeartbeats 400000 in
theorem letter_any (c : Int) (w : World) :
    Calls Tryz.prog 70 #[.int .u8 c] w fun e w' => e = .returned (.bool (isLetter c)) ∧ w = w' := by
  go_enter Tryz.func70, Tryz.ntmps70
  go_wp2
  all_goals
    go_ret
    exact ⟨ret_bool (by rw [Bool.eq_iff_iff]; simp [isLetter]; omega), rfl⟩

set_option maxHeartbeats 400000 in
theorem digit_any (c : Int) (w : World) :
    Calls Tryz.prog 103 #[.int .u8 c] w fun e w' => e = .returned (.bool (isDigit c)) ∧ w = w' := by
  go_enter Tryz.func103, Tryz.ntmps103
  go_wp2
  all_goals
    go_ret
    exact ⟨ret_bool (by rw [Bool.eq_iff_iff]; simp [isDigit]; try omega), rfl⟩

set_option maxHeartbeats 400000 in
theorem word_any (s : ByteArray) (w : World) (hs : s.size ≤ maxLen) :
    Calls Tryz.prog 71 #[.string s] w fun e w' => e = .returned (.int .i64 (wordLen s.data.toList)) ∧ w = w' := by
  unfold maxLen at hs
  go_enter Tryz.func71, Tryz.ntmps71
  go_wp2
  go_loop [3] (fun i => ∃ k : Nat, k ≤ s.size ∧ i = .int .i64 k ∧ Hid (k + wordLen (s.data.toList.drop k) = wordLen s.data.toList)) (fun i => s.size - (intOf i).toNat)
  case atStart => exact ⟨0, Nat.zero_le _, rfl, hide (by simp)⟩
  case round =>
    obtain ⟨k, hk, rfl, hw⟩ := hrel
    by_cases hlt : k < s.size
    · have hd := hide (drop_at s k hlt)
      go_wp2_with (first | (go_at_call 70; refine (letter_any _ _).mono ?_; rintro e w' ⟨rfl, rfl⟩) | (go_at_call 103; refine (digit_any _ _).mono ?_; rintro e w' ⟨rfl, rfl⟩))
      all_goals first
        | (go_ret
           exact ⟨ret_int (by have h1 := hw.out; rw [hd.out, wordLen_cons, if_neg (by simp_all [isWord])] at h1; omega), rfl⟩)
        | (go_round
           case rel => exact ⟨k + 1, by omega, by go_num, hide (by have h1 := hw.out; rw [hd.out, wordLen_cons, if_pos (by simp_all [isWord])] at h1; omega)⟩
           case measure => simp [intOf]; omega)
    · go_wp2
      go_ret
      exact ⟨ret_int (by have h1 := hw.out; rw [List.drop_eq_nil_of_le (by simp; omega)] at h1; simp [wordLen] at h1 ⊢; omega), rfl⟩

theorem isName_cons {s : ByteArray} {c : UInt8} {r : List UInt8} (h : s.data.toList = c :: r) : isName s = (decide (s.size ≤ 20) && isLetter c.toNat && decide (wordLen (c :: r) = s.size)) := by
  have h0 : s.size ≠ 0 := by have : s.data.toList.length = s.size := by simp
                             rw [h] at this; simp at this; omega
  simp [isName, h, h0]

set_option maxHeartbeats 400000 in
theorem isName_any (s : ByteArray) (w : World) (hs : s.size ≤ maxLen) :
    Calls Tryz.prog 38 #[.string s] w fun e w' => e = .returned (.bool (isName s)) ∧ w = w' := by
  by_cases h0 : s.size = 0
  · have hl : s.data.toList = [] := List.eq_nil_of_length_eq_zero (by simpa using h0)
    have hn := hide (show isName s = false by simp [isName, h0])
    have he : s.toList = [] := by rw [ByteArray.toList_eq, hl]
    clear hs
    go_enter Tryz.func38, Tryz.ntmps38
    go_wp2_with fail
    go_ret
    exact ⟨ret_bool (by rw [hn.out]), rfl⟩
  · obtain ⟨c, r, hl⟩ : ∃ c r, s.data.toList = c :: r := by
      cases h : s.data.toList with
      | nil => exfalso; have : s.data.toList.length = s.size := by simp
               rw [h] at this; simp at this; omega
      | cons c r => exact ⟨c, r, rfl⟩
    have hn := hide (isName_cons hl)
    have hp : 0 < s.size := by omega
    have hc : s[0]'hp = c := by
      have : s.data.toList[0]? = some c := by rw [hl]; rfl
      have h2 : s.data.toList[0]? = some (s[0]'hp) := List.getElem?_eq_getElem (by simp; omega)
      rw [h2] at this; injection this
    have hne : s.toList.isEmpty = false := by rw [ByteArray.toList_eq, hl]; rfl
    have HC := hide hc
    have HL := hide hl
    clear h0 hc hl
    go_enter Tryz.func38, Tryz.ntmps38
    go_wp2_with (first | (go_at_call 70; refine (letter_any _ _).mono ?_; rintro e w' ⟨rfl, rfl⟩) | (go_at_call 71; refine (word_any _ _ hs).mono ?_; rintro e w' ⟨rfl, rfl⟩))
    all_goals
      go_ret
      refine ⟨ret_bool ?_, rfl⟩
      rw [hn.out, ← HL.out, ← HC.out, Bool.eq_iff_iff]
      simp_all <;> omega
end Go.Proofs.YtnhmdgkhmkeopaaGreatDoor
