/- Plain: the lines of a text, on lists of bytes; findings, written and read again. No walk stands here. -/
import Derived.Test.YtnhmdgkhmkeopaaGreatDoorCutW
import Derived.Test.YtnhmdgkhmkeopaaGreatDoorFindS
namespace Go.Proofs.YtnhmdgkhmkeopaaGreatDoor
open Go.RowKit

/-- The ended lines of a text, 'cur' being what has been read of the line that is open. -/
def splitL : List UInt8 → List UInt8 → List (List UInt8)
  | [], _ => []
  | c :: r, cur => if c = 10 then cur :: splitL r [] else splitL r (cur ++ [c])
/-- What is left open at the end. -/
def lastL : List UInt8 → List UInt8 → List UInt8
  | [], cur => cur
  | c :: r, cur => if c = 10 then lastL r [] else lastL r (cur ++ [c])

theorem lines_list (s : ByteArray) : ∀ (m a k : Nat), k + m = s.size → a ≤ k →
    (linesFrom s m a k).map (·.data.toList) = splitL (s.data.toList.drop k) ((s.data.toList.take k).drop a) ∧
    (lastL (s.data.toList.drop k) ((s.data.toList.take k).drop a)).length = s.size - lastFrom s m a k ∧ lastFrom s m a k ≤ s.size := by
  intro m
  induction m with
  | zero =>
    intro a k hk ha
    have hd : s.data.toList.drop k = [] := List.drop_eq_nil_of_le (by simp; omega)
    rw [hd, linesFrom, lastFrom, splitL, lastL, List.length_drop, List.length_take]
    refine ⟨rfl, ?_, by omega⟩
    simp
    omega
  | succ m ih =>
    intro a k hk ha
    have hks : k < s.size := by omega
    have hx : s.data.toList[k]? = some (s.data.toList[k]'(by simpa using hks)) := List.getElem?_eq_getElem _
    obtain ⟨c, hc⟩ : ∃ c, s.data.toList[k]? = some c := ⟨_, hx⟩
    have hd := drop_at' hc
    have ht := take_snoc' hc
    rw [linesFrom, lastFrom, hc, hd]
    by_cases h10 : c = 10
    · subst h10
      simp only [beq_self_eq_true, if_true, splitL, lastL, List.map_cons]
      obtain ⟨h1, h2, h3⟩ := ih (k + 1) (k + 1) (by omega) (Nat.le_refl _)
      have e : (s.data.toList.take (k + 1)).drop (k + 1) = [] := List.drop_eq_nil_of_le (by rw [List.length_take]; omega)
      rw [e] at h1 h2
      exact ⟨by rw [h1, extract_list], h2, h3⟩
    · rw [if_neg (by simpa using h10), if_neg (by simpa using h10), splitL, lastL, if_neg h10, if_neg h10]
      obtain ⟨h1, h2, h3⟩ := ih a (k + 1) (by omega) (by omega)
      rw [ht, List.drop_append_of_le_length (by rw [List.length_take]; simp; omega)] at h1 h2
      exact ⟨h1, h2, h3⟩
theorem linesB_list (s : ByteArray) : (linesB s).map (·.data.toList) = splitL s.data.toList [] := by
  have := (lines_list s s.size 0 0 (by omega) (Nat.le_refl _)).1
  simpa [linesB] using this
theorem openEnd_list (s : ByteArray) : openEnd s = !(lastL s.data.toList []).isEmpty := by
  have h := (lines_list s s.size 0 0 (by omega) (Nat.le_refl _)).2
  simp only [List.drop_zero, List.take_zero, List.drop_nil] at h
  rw [openEnd, Bool.eq_iff_iff]
  cases hl : lastL s.data.toList [] with
  | nil => rw [hl] at h; simp at h; simp; omega
  | cons c r => rw [hl] at h; simp at h; simp; omega

/-- Lines that hold no newline, written one behind the other. -/
theorem splitL_text : ∀ (ls : List (List UInt8)), (∀ l ∈ ls, ∀ c ∈ l, c ≠ 10) → splitL (ls.flatMap (· ++ [10])) [] = ls ∧ lastL (ls.flatMap (· ++ [10])) [] = [] := by
  intro ls h
  have one : ∀ (l r cur : List UInt8), (∀ c ∈ l, c ≠ 10) → splitL (l ++ 10 :: r) cur = (cur ++ l) :: splitL r [] ∧ lastL (l ++ 10 :: r) cur = lastL r [] := by
    intro l
    induction l with
    | nil => intro r cur _; simp [splitL, lastL]
    | cons c l ih =>
      intro r cur hl
      have hc : c ≠ 10 := hl c (List.mem_cons_self ..)
      have := ih r (cur ++ [c]) (fun x hx => hl x (List.mem_cons_of_mem _ hx))
      rw [List.cons_append, splitL, lastL, if_neg hc, if_neg hc, this.1, this.2]
      simp
  induction ls with
  | nil => simp [splitL, lastL]
  | cons l ls ih =>
    have h1 := one l (ls.flatMap (· ++ [10])) [] (h l (List.mem_cons_self ..))
    have h2 := ih (fun x hx => h x (List.mem_cons_of_mem _ hx))
    rw [List.flatMap_cons, List.append_assoc, List.singleton_append, h1.1, h1.2, h2.1, h2.2]
    simp
/-- A text whose last line is ended is its lines. -/
theorem text_splitL : ∀ (t cur : List UInt8), lastL t cur = [] → cur ++ t = (splitL t cur).flatMap (· ++ [10]) := by
  intro t
  induction t with
  | nil => intro cur h; simp [lastL] at h; simp [splitL, h]
  | cons c r ih =>
    intro cur h
    rw [lastL] at h
    rw [splitL]
    by_cases h10 : c = 10
    · subst h10
      simp only [if_true] at h ⊢
      have := ih [] h
      rw [List.flatMap_cons, ← this]
      simp
    · rw [if_neg h10] at h ⊢
      rw [← ih _ h]
      simp

/-! Numerals. -/
theorem numVal_dec : ∀ (n : Nat), numVal (Lib.decDigits n) = n ∧ allDigits (Lib.decDigits n) = true ∧ Lib.decDigits n ≠ [] ∧ ((Lib.decDigits n).head? = some 48 → n = 0) ∧ (n ≠ 0 → (Lib.decDigits n).head? ≠ some 48) := by
  intro n
  induction n using Nat.strongRecOn with
  | _ n ih =>
    by_cases h : n < 10
    · rw [Lib.decDigits_one h]
      have : n = 0 ∨ n = 1 ∨ n = 2 ∨ n = 3 ∨ n = 4 ∨ n = 5 ∨ n = 6 ∨ n = 7 ∨ n = 8 ∨ n = 9 := by omega
      rcases this with rfl | rfl | rfl | rfl | rfl | rfl | rfl | rfl | rfl | rfl <;> decide
    · obtain ⟨h1, h2, h3, h4, h5⟩ := ih (n / 10) (by omega)
      have hd : Lib.decDigits n = Lib.decDigits (n / 10) ++ [UInt8.ofNat (48 + n % 10)] := by
        rw [Lib.decDigits, dif_neg h]
      have h8 : ((UInt8.ofNat (48 + n % 10)).toNat) = 48 + n % 10 := by
        rw [UInt8.toNat_ofNat', Nat.mod_eq_of_lt (by omega)]
      rw [hd, numVal_snoc, h1, h8]
      have hhead : (Lib.decDigits (n / 10) ++ [UInt8.ofNat (48 + n % 10)]).head? = (Lib.decDigits (n / 10)).head? := by
        cases hq : Lib.decDigits (n / 10) with
        | nil => exact absurd hq h3
        | cons c r => rfl
      refine ⟨by omega, ?_, by simp, ?_, ?_⟩
      · rw [allDigits, List.all_append, ← allDigits, h2]
        simp [isDigit, h8]
        omega
      · rw [hhead]; intro h; have := h4 h; omega
      · rw [hhead]; intro _; exact h5 (by omega)
/-- Two numerals without a leading nought that have one value are one. -/
theorem dec_numVal (l : List UInt8) (hd : allDigits l = true) (hn : l ≠ []) (hz : l.length = 1 ∨ l.head? ≠ some 48) : Lib.decDigits (numVal l).toNat = l := by
  have key : ∀ (r : List UInt8), allDigits r.reverse = true → r ≠ [] → (r.length = 1 ∨ r.reverse.head? ≠ some 48) → Lib.decDigits (numVal r.reverse).toNat = r.reverse := by
    intro r
    induction r with
    | nil => intro _ h _; exact absurd rfl h
    | cons c r ih =>
      intro h _ hz
      rw [List.reverse_cons] at h hz ⊢
      have hall := h
      simp only [allDigits, List.all_append, List.all_cons, List.all_nil, Bool.and_true, Bool.and_eq_true] at h
      have hc := h.2
      simp only [isDigit, Bool.and_eq_true, decide_eq_true_eq] at hc
      have hr := numVal_range r.reverse h.1
      rw [numVal_snoc]
      cases r with
      | nil =>
        simp only [List.reverse_nil, List.nil_append]
        have : (10 * numVal [] + ((c.toNat : Int) - 48)).toNat = c.toNat - 48 := by simp [numVal]; omega
        rw [this, Lib.decDigits_one (by omega)]
        congr 1
        apply UInt8.toNat_inj.1
        rw [UInt8.toNat_ofNat', Nat.mod_eq_of_lt (by omega)]
        omega
      | cons b q =>
        have hh : (b :: q).reverse.head? ≠ some 48 := by
          rcases hz with hz | hz
          · simp at hz
          · intro h9
            apply hz
            rw [List.head?_append, h9]
            rfl
        have hi := ih h.1 (by simp) (.inr hh)
        generalize hv : numVal (b :: q).reverse = v at hi hr ⊢
        have hv1 : v ≠ 0 := by
          intro h0
          rw [h0] at hi
          have : (b :: q).reverse = [48] := by rw [← hi]; exact Lib.decDigits_one (by omega)
          rw [this] at hh
          exact hh rfl
        have hge : ¬ (10 * v + ((c.toNat : Int) - 48)).toNat < 10 := by omega
        rw [Lib.decDigits, dif_neg hge, show (10 * v + ((c.toNat : Int) - 48)).toNat / 10 = v.toNat by omega, hi]
        congr 2
        apply UInt8.toNat_inj.1
        rw [UInt8.toNat_ofNat', Nat.mod_eq_of_lt (by omega)]
        omega
  have := key l.reverse
  rw [List.reverse_reverse, List.length_reverse] at this
  exact this hd (by simpa using hn) hz

/-! Findings. -/
def finLineL (x : FinD) : List UInt8 := Lib.itoa x.kind ++ 32 :: x.name.data.toList
theorem finLines_flat (l : List FinD) : finLines l = (l.map finLineL).flatMap (· ++ [10]) := by
  rw [finLines, List.flatMap_map]
  congr 1
theorem itoa_nat (n : Nat) : Lib.itoa (n : Int) = Lib.decDigits n := Lib.itoa_nonneg n
theorem digit_not {l : List UInt8} (h : allDigits l = true) {c : UInt8} (hc : c ∈ l) : c ≠ 32 ∧ c ≠ 10 := by
  have := List.all_eq_true.1 h c hc
  constructor <;> (rintro rfl; revert this; decide)
end Go.Proofs.YtnhmdgkhmkeopaaGreatDoor
