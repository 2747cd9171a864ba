/- Plain: a line of a finding cut at its first blank, against its words; a text cut at its first newline, against its lines. No walk stands here. -/
import Derived.Test.YtnhmdgkhmkeopaaGreatDoorParR
import Derived.Test.YtnhmdgkhmkeopaaGreatDoorTrim
import Derived.Lib.CutLaws
import Derived.Lib.IndexBytes
import Derived.Lib.Atoi
namespace Go.Proofs.YtnhmdgkhmkeopaaGreatDoor
open Go.RowKit

theorem wordsFrom_none (s : ByteArray) : ∀ (m a k : Nat), k + (m + 1) = s.size + 1 → (∀ j, k ≤ j → s.data.toList[j]? ≠ some 32) → wordsFrom s (m + 1) a k = [s.extract a s.size] := by
  intro m
  induction m with
  | zero =>
    intro a k hk h
    obtain rfl : k = s.size := by omega
    rw [wordsFrom, if_pos (by simp [wordEnd]), wordsFrom]
  | succ m ih =>
    intro a k hk h
    have hne : wordEnd s k = false := by
      have := h k (Nat.le_refl _)
      simp only [wordEnd, Bool.or_eq_false_iff, decide_eq_false_iff_not, beq_eq_false_iff_ne, ne_eq]
      exact ⟨by omega, this⟩
    rw [wordsFrom, hne, if_neg (by simp)]
    exact ih a (k + 1) (by omega) (fun j hj => h j (by omega))
theorem wordsFrom_hit (s : ByteArray) (i : Nat) (hi : s.data.toList[i]? = some 32) : ∀ (m a k : Nat), k + m = s.size + 1 → k ≤ i → (∀ j, k ≤ j → j < i → s.data.toList[j]? ≠ some 32) →
    wordsFrom s m a k = s.extract a i :: wordsFrom s (s.size - i) (i + 1) (i + 1) := by
  have hlt : i < s.size := by have := lt_of_get hi; simpa using this
  intro m
  induction m with
  | zero => intro a k hk hki; omega
  | succ m ih =>
    intro a k hk hki h
    by_cases he : k = i
    · subst he
      rw [wordsFrom, if_pos (by simp [wordEnd, hi]), show m = s.size - k by omega]
    · have hne : wordEnd s k = false := by
        have := h k (Nat.le_refl _) (by omega)
        simp only [wordEnd, Bool.or_eq_false_iff, decide_eq_false_iff_not, beq_eq_false_iff_ne, ne_eq]
        exact ⟨by omega, this⟩
      rw [wordsFrom, hne, if_neg (by simp)]
      exact ih a (k + 1) (by omega) (by omega) (fun j hj => h j (by omega))
theorem wordsFrom_pos (s : ByteArray) : ∀ (m a k : Nat), k + (m + 1) = s.size + 1 → wordsFrom s (m + 1) a k ≠ [] := by
  intro m
  induction m with
  | zero =>
    intro a k hk
    obtain rfl : k = s.size := by omega
    rw [wordsFrom, if_pos (by simp [wordEnd])]
    simp
  | succ m ih =>
    intro a k hk
    rw [wordsFrom]
    split
    · simp
    · exact ih a (k + 1) (by omega)

/-- The place of a byte in a string; -1 if it is not there. -/
theorem indexB_one (s : ByteArray) (c : UInt8) : Lib.indexB s ⟨#[c]⟩ = Lib.indexByte s.data.toList c := Lib.index_one _ _
theorem indexB_hit {s : ByteArray} {c : UInt8} {i : Nat} (h : Lib.indexB s ⟨#[c]⟩ = i) : s.data.toList[i]? = some c ∧ ∀ k, k < i → s.data.toList[k]? ≠ some c := by
  rw [indexB_one] at h
  exact Lib.indexByte_some h
theorem indexB_miss {s : ByteArray} {c : UInt8} (h : Lib.indexB s ⟨#[c]⟩ = -1) : ∀ k : Nat, s.data.toList[k]? ≠ some c := by
  rw [indexB_one] at h
  exact Lib.indexByte_none h

theorem name_word {s : ByteArray} (h : isName s = true) {k : Nat} {c : UInt8} (hc : s.data.toList[k]? = some c) : isWord c = true := by
  simp only [isName, Bool.and_eq_true, decide_eq_true_eq] at h
  have hl := h.2
  have hpre : s.data.toList.takeWhile isWord = s.data.toList := by
    have h1 := List.takeWhile_prefix (l := s.data.toList) isWord
    refine List.IsPrefix.eq_of_length h1 ?_
    unfold wordLen at hl
    rw [hl]
    simp
  have := mem_of_get hc
  rw [← hpre] at this
  exact List.all_eq_true.1 (List.all_takeWhile (l := s.data.toList) (p := isWord)) c this
theorem name_no {s : ByteArray} (h : isName s = true) {k : Nat} {c : UInt8} (hc : s.data.toList[k]? = some c) : c ≠ 32 ∧ c ≠ 10 := by
  have := name_word h hc
  constructor <;> (rintro rfl; revert this; decide)

theorem rfForm_miss {s : ByteArray} (h : Lib.indexB s ⟨#[32]⟩ = -1) : rfForm s = false := by
  have : wordsB s = [s.extract 0 s.size] := wordsFrom_none s s.size 0 0 (by omega) (fun j _ => indexB_miss h j)
  simp [rfForm, this]
theorem words_hit {s : ByteArray} {i : Nat} (h : Lib.indexB s ⟨#[32]⟩ = i) : wordsB s = s.extract 0 i :: wordsFrom s (s.size - i) (i + 1) (i + 1) := by
  obtain ⟨h1, h2⟩ := indexB_hit h
  exact wordsFrom_hit s i h1 (s.size + 1) 0 0 (by omega) (Nat.zero_le _) (fun j _ hj => h2 j hj)
theorem get_tail {s : ByteArray} {i j : Nat} : (s.extract (i + 1) s.size).data.toList[j]? = s.data.toList[i + 1 + j]? := by
  rw [extract_list, List.take_of_length_le (by simp), List.getElem?_drop]
/-- The words of a line that has a blank at place i. -/
theorem rfForm_hit {s : ByteArray} {i : Nat} (h : Lib.indexB s ⟨#[32]⟩ = i) : rfForm s = (isName (s.extract (i + 1) s.size) && decide ((s.extract 0 i).size ≤ 7)) := by
  have hw := words_hit h
  have hlt : i < s.size := by have := lt_of_get (indexB_hit h).1; simpa using this
  cases hnm : isName (s.extract (i + 1) s.size)
  · rw [Bool.false_and]
    rcases h2 : wordsFrom s (s.size - i) (i + 1) (i + 1) with _ | ⟨x, r⟩
    · rw [h2] at hw; simp [rfForm, hw]
    · rcases r with _ | ⟨y, r⟩
      · rw [h2] at hw
        rw [rfForm, word1, hw]
        suffices hx : x = s.extract (i + 1) s.size by
          rw [hx]; simp [hnm]
        by_cases hno : ∀ j, i + 1 ≤ j → s.data.toList[j]? ≠ some 32
        · have := wordsFrom_none s (s.size - i - 1) (i + 1) (i + 1) (by omega) hno
          rw [show s.size - i - 1 + 1 = s.size - i by omega, h2] at this
          injection this
        · exfalso
          have hex : ∃ j, i + 1 ≤ j ∧ s.data.toList[j]? = some 32 := by
            apply Classical.byContradiction
            intro hn
            apply hno
            intro j hj hj2
            exact hn ⟨j, hj, hj2⟩
          obtain ⟨j, hj, hj2, hmin⟩ : ∃ j, i + 1 ≤ j ∧ s.data.toList[j]? = some 32 ∧ ∀ q, i + 1 ≤ q → q < j → s.data.toList[q]? ≠ some 32 := by
            obtain ⟨j0, a, b⟩ := hex
            induction j0 using Nat.strongRecOn with
            | _ j0 ih =>
              by_cases hq : ∃ q, i + 1 ≤ q ∧ q < j0 ∧ s.data.toList[q]? = some 32
              · obtain ⟨q, q1, q2, q3⟩ := hq
                exact ih q q2 q1 q3
              · exact ⟨j0, a, b, fun q q1 q2 q3 => hq ⟨q, q1, q2, q3⟩⟩
          have hjl : j < s.size := by have := lt_of_get hj2; simpa using this
          have h3 := wordsFrom_hit s j hj2 (s.size - i) (i + 1) (i + 1) (by omega) hj hmin
          rw [h2] at h3
          injection h3 with _ h3
          have := wordsFrom_pos s (s.size - j - 1) (j + 1) (j + 1) (by omega)
          rw [show s.size - j - 1 + 1 = s.size - j by omega] at this
          exact this h3.symm
      · rw [h2] at hw; simp [rfForm, hw]
  · have hno : ∀ j, i + 1 ≤ j → s.data.toList[j]? ≠ some 32 := by
      intro j hj hj2
      refine (name_no hnm (k := j - (i + 1)) ?_).1 rfl
      rw [get_tail, show i + 1 + (j - (i + 1)) = j by omega]
      exact hj2
    have h3 := wordsFrom_none s (s.size - i - 1) (i + 1) (i + 1) (by omega) hno
    rw [show s.size - i - 1 + 1 = s.size - i by omega] at h3
    rw [h3] at hw
    simp [rfForm, word0, word1, hw, hnm]
theorem rfWords_hit {s : ByteArray} {i : Nat} (h : Lib.indexB s ⟨#[32]⟩ = i) (hnm : isName (s.extract (i + 1) s.size) = true) : word0 s = s.extract 0 i ∧ word1 s = s.extract (i + 1) s.size := by
  have hw := words_hit h
  have hlt : i < s.size := by have := lt_of_get (indexB_hit h).1; simpa using this
  have hno : ∀ j, i + 1 ≤ j → s.data.toList[j]? ≠ some 32 := by
    intro j hj hj2
    refine (name_no hnm (k := j - (i + 1)) ?_).1 rfl
    rw [get_tail, show i + 1 + (j - (i + 1)) = j by omega]
    exact hj2
  have h3 := wordsFrom_none s (s.size - i - 1) (i + 1) (i + 1) (by omega) hno
  rw [show s.size - i - 1 + 1 = s.size - i by omega] at h3
  rw [h3] at hw
  simp [word0, word1, hw]

/-- A numeral of digits alone, read by Atoi. -/
theorem decFrom_digits : ∀ (l : List UInt8) (acc : Nat), allDigits l = true → Lib.decFrom acc l = some (l.foldl (fun n c => 10 * n + (c.toNat - 48)) acc) := by
  intro l
  induction l with
  | nil => intro acc _; rfl
  | cons c l ih =>
    intro acc h
    rw [allDigits, List.all_cons, Bool.and_eq_true] at h
    have hd := h.1
    simp only [isDigit, Bool.and_eq_true, decide_eq_true_eq] at hd
    have hv : Lib.digitVal c = some (c.toNat - 48) := by
      unfold Lib.digitVal
      rw [if_pos (by omega)]
    simp only [Lib.decFrom, hv, List.foldl_cons]
    rw [ih _ h.2, show acc * 10 + (c.toNat - 48) = 10 * acc + (c.toNat - 48) by omega]
theorem numVal_nat (l : List UInt8) (h : allDigits l = true) : numVal l = ((l.foldl (fun n c => 10 * n + (c.toNat - 48)) 0 : Nat) : Int) := by
  have key : ∀ (l : List UInt8) (a : Int) (b : Nat), a = b → allDigits l = true → l.foldl (fun n c => 10 * n + ((c.toNat : Int) - 48)) a = ((l.foldl (fun n c => 10 * n + (c.toNat - 48)) b : Nat) : Int) := by
    intro l
    induction l with
    | nil => intro a b e _; exact e
    | cons c l ih =>
      intro a b e h
      rw [allDigits, List.all_cons, Bool.and_eq_true] at h
      have hd := h.1
      simp only [isDigit, Bool.and_eq_true, decide_eq_true_eq] at hd
      rw [List.foldl_cons, List.foldl_cons]
      exact ih _ _ (by omega) h.2
  exact key l 0 0 rfl h
theorem atoi_digits {l : List UInt8} (hn : l ≠ []) (h : allDigits l = true) : Lib.atoi l = some (numVal l) := by
  cases l with
  | nil => exact absurd rfl hn
  | cons c r =>
    have h0 := h
    rw [allDigits, List.all_cons, Bool.and_eq_true] at h0
    have hd := h0.1
    simp only [isDigit, Bool.and_eq_true, decide_eq_true_eq] at hd
    have h45 : (c == 45) = false := by
      rw [beq_eq_false_iff_ne]; rintro rfl; revert hd; decide
    have h43 : (c == 43) = false := by
      rw [beq_eq_false_iff_ne]; rintro rfl; revert hd; decide
    rw [Lib.atoi, h45, if_neg (by simp), h43, if_neg (by simp), Lib.decNat, if_neg (by simp)]
    rw [decFrom_digits (c :: r) 0 h, Option.map_some, numVal_nat (c :: r) h]
end Go.Proofs.YtnhmdgkhmkeopaaGreatDoor
