/- Plain: the report of sections, its lines, and what it tells. No walk stands here. -/
import Derived.Test.YtkmpddaobncheaaGreatDoorQbb
import Derived.Test.YtkmpddaobncheaaGreatDoorQae
import Derived.Lib.Split
import Derived.Lib.IndexMore
namespace Go.Proofs.YtkmpddaobncheaaGreatDoor
open Go.RowKit

theorem tIndex_at {y r : List UInt8} (h : ∀ c ∈ y, c ≠ 10) : Lib.index (y ++ 10 :: r) [10] = y.length := by
  have hat : (y ++ 10 :: r)[y.length]? = some 10 := by simp
  rw [Lib.index_one]
  by_cases hm : Lib.indexByte (y ++ 10 :: r) 10 = -1
  · exact absurd hat (Lib.indexByte_none hm _)
  · have hge := Lib.indexByte_ge (y ++ 10 :: r) 10
    obtain ⟨i, hi⟩ := Int.eq_ofNat_of_zero_le (show 0 ≤ Lib.indexByte (y ++ 10 :: r) 10 by omega)
    rw [hi]
    obtain ⟨h1, h2⟩ := Lib.indexByte_some hi
    rcases Nat.lt_trichotomy i y.length with hlt | heq | hgt
    · rw [List.getElem?_append_left hlt] at h1
      exact absurd rfl (h 10 (mem_of_get h1))
    · rw [heq]
    · exact absurd hat (h2 _ hgt)
theorem tIndex_nil : Lib.index [] [10] = -1 := by decide
/-- A text of ended lines, split at the newlines. -/
theorem tSplit_text : ∀ (ls : List (List UInt8)), (∀ l ∈ ls, ∀ c ∈ l, c ≠ 10) →
    Lib.count (ls.flatMap (· ++ [10])) [10] = ls.length ∧ Lib.splitK [10] 0 ls.length (ls.flatMap (· ++ [10])) = ls ++ [[]] := by
  intro ls
  induction ls with
  | nil => intro _; exact ⟨Lib.count_miss tIndex_nil, rfl⟩
  | cons y r ih =>
    intro h
    obtain ⟨h1, h2⟩ := ih (fun l hl => h l (List.mem_cons_of_mem _ hl))
    have hi := tIndex_at (y := y) (r := r.flatMap (· ++ [10])) (h y (List.mem_cons_self ..))
    have hs : (y :: r).flatMap (· ++ [10]) = y ++ 10 :: r.flatMap (· ++ [10]) := by simp
    have hdrop : (y ++ 10 :: r.flatMap (· ++ [10])).drop (y.length + 1) = r.flatMap (· ++ [10]) := by
      rw [List.drop_append, List.drop_eq_nil_of_le (by omega)]
      simp
    rw [hs]
    constructor
    · rw [Lib.count_hit (by simp) hi]
      simp only [List.length_cons, List.length_nil, Nat.zero_add]
      rw [hdrop, h1]
      omega
    · rw [List.length_cons, Lib.splitK, hi, if_neg (by simp)]
      simp only [Int.toNat_natCast, Nat.add_zero, List.length_cons, List.length_nil, Nat.zero_add]
      rw [hdrop, h2]
      simp
theorem tBytes (b : ByteArray) : (⟨b.data.toList.toArray⟩ : ByteArray) = b := by cases b; rfl
theorem tSplit_lines (ls : List (List UInt8)) (hno : ∀ y ∈ ls, ∀ c ∈ y, c ≠ 10) :
    Lib.countB ⟨(ls.flatMap (· ++ [10])).toArray⟩ ⟨#[10]⟩ = ls.length ∧ Lib.splitB ⟨#[10]⟩ 0 (Lib.countB ⟨(ls.flatMap (· ++ [10])).toArray⟩ ⟨#[10]⟩) ⟨(ls.flatMap (· ++ [10])).toArray⟩ = ls.map (fun y => ⟨y.toArray⟩) ++ [.empty] := by
  obtain ⟨h1, h2⟩ := tSplit_text ls hno
  have hc : Lib.countB ⟨(ls.flatMap (· ++ [10])).toArray⟩ ⟨#[10]⟩ = ls.length := h1
  refine ⟨hc, ?_⟩
  have h3 := Lib.splitB_data ⟨#[10]⟩ 0 ls.length ⟨(ls.flatMap (· ++ [10])).toArray⟩
  rw [show (⟨(ls.flatMap (· ++ [10])).toArray⟩ : ByteArray).data.toList = ls.flatMap (· ++ [10]) by simp, show (⟨#[10]⟩ : ByteArray).data.toList = [10] from rfl, h2] at h3
  rw [hc]
  have h4 := congrArg (List.map fun y : List UInt8 => (⟨y.toArray⟩ : ByteArray)) h3
  rw [List.map_map, List.map_append] at h4
  have h5 : ((fun y : List UInt8 => (⟨y.toArray⟩ : ByteArray)) ∘ fun x : ByteArray => x.data.toList) = id := by
    funext b
    exact tBytes b
  rw [h5, List.map_id] at h4
  exact h4

def wDemand : ByteArray := ⟨#[100, 101, 109, 97, 110, 100]⟩
def wFails : ByteArray := ⟨#[102, 97, 105, 108, 115]⟩
def wAt : ByteArray := ⟨#[97, 116]⟩
def wSuff : ByteArray := ⟨#[115, 117, 102, 102, 105, 99, 101, 115]⟩
/-- Where the steel of a demand fails first. -/
def failPt (x : DetD) (d : DemD) : Int := (firstFail x d).getD 0
theorem short_first (x : DetD) (d : DemD) : shortB x d = (firstFail x d).isSome := by
  unfold shortB failsB firstFail
  induction marksOf (supSteps x d) d.steps with
  | nil => rfl
  | cons p l ih =>
    rw [List.any_cons, List.find?_cons, ih]
    cases failAt (supSteps x d) d.steps p <;> rfl
theorem failPt_in (x : DetD) (d : DemD) : -1048576 ≤ failPt x d ∧ failPt x d ≤ 1048576 := by
  unfold failPt
  cases h : firstFail x d with
  | none => decide
  | some p => exact markL_in (List.mem_of_find?_eq_some h)
theorem first_pt {x : DetD} {d : DemD} (h : shortB x d = true) : firstFail x d = some (failPt x d) := by
  rw [short_first] at h
  unfold failPt
  cases q : firstFail x d with
  | none => rw [q] at h; cases h
  | some p => rfl
def tellWords (x : DetD) (d : DemD) : List Word := if shortB x d then [.str wDemand, .str d.name, .str wFails, .str wAt, .num (failPt x d)] else [.str wDemand, .str d.name, .str wSuff]
def tellLine (x : DetD) (d : DemD) : List UInt8 := spaced (tellWords x d)
def tellText (x : DetD) (l : List DemD) : List UInt8 := l.flatMap fun d => lineBytes (tellWords x d)
theorem tellText_snoc (x : DetD) (l : List DemD) (d : DemD) : tellText x (l ++ [d]) = tellText x l ++ lineBytes (tellWords x d) := by simp [tellText]
theorem tellText_lines (x : DetD) (l : List DemD) : tellText x l = (l.map (tellLine x)).flatMap (· ++ [10]) := by
  rw [tellText, List.flatMap_map]
  rfl
theorem tName_size {d : DemD} (h : demOk d = true) : d.name.size ≤ 20 ∧ isName d.name = true := by
  simp only [demOk, Bool.and_eq_true] at h
  have h1 : isName d.name = true := h.1.1
  refine ⟨?_, h1⟩
  simp only [isName, Bool.and_eq_true, decide_eq_true_eq] at h1
  omega
theorem tName_no {s : ByteArray} (h : isName s = true) {c : UInt8} (hc : c ∈ s.data.toList) : c ≠ 32 ∧ c ≠ 10 := by
  simp only [isName, Bool.and_eq_true, decide_eq_true_eq] at h
  have hl := h.2
  have hpre : s.data.toList.takeWhile isWord = s.data.toList := by
    have h1 := List.takeWhile_prefix (l := s.data.toList) isWord
    refine List.IsPrefix.eq_of_length h1 ?_
    unfold wordLen at hl
    rw [hl]
    simp
  rw [← hpre] at hc
  have := List.all_eq_true.1 (List.all_takeWhile (l := s.data.toList) (p := isWord)) c hc
  constructor <;> (rintro rfl; revert this; decide)
theorem tDigits : ∀ (n : Nat), ∀ c ∈ Lib.decDigits n, 48 ≤ c.toNat ∧ c.toNat ≤ 57 := by
  intro n
  induction n using Nat.strongRecOn with
  | _ n ih =>
    intro c hc
    by_cases h : n < 10
    · rw [Lib.decDigits_one h, List.mem_singleton] at hc
      subst hc
      rw [UInt8.toNat_ofNat', Nat.mod_eq_of_lt (by omega)]
      omega
    · rw [Lib.decDigits, dif_neg h] at hc
      rcases List.mem_append.1 hc with hc | hc
      · exact ih (n / 10) (by omega) c hc
      · rw [List.mem_singleton] at hc
        subst hc
        rw [UInt8.toNat_ofNat', Nat.mod_eq_of_lt (by omega)]
        omega
theorem tItoa_no {n : Int} {c : UInt8} (hc : c ∈ Lib.itoa n) : c ≠ 32 ∧ c ≠ 10 := by
  unfold Lib.itoa at hc
  split at hc
  · rcases List.mem_cons.1 hc with rfl | hc
    · decide
    · have := tDigits _ c hc
      constructor <;> (rintro rfl; revert this; decide)
  · have := tDigits _ c hc
    constructor <;> (rintro rfl; revert this; decide)
/-- The two words that a failure is told by, with their blanks. -/
def failPat : List UInt8 := [32, 102, 97, 105, 108, 115, 32, 97, 116, 32]
def demPre : List UInt8 := [100, 101, 109, 97, 110, 100, 32]
def sufEnd : List UInt8 := [32, 115, 117, 102, 102, 105, 99, 101, 115]
theorem tellLine_short {x : DetD} {d : DemD} (h : shortB x d = true) : tellLine x d = demPre ++ d.name.data.toList ++ failPat ++ Lib.itoa (failPt x d) := by
  rw [tellLine, tellWords, if_pos h]
  simp [spaced, Word.bytes, wDemand, wFails, wAt, demPre, failPat]
theorem tellLine_suff {x : DetD} {d : DemD} (h : shortB x d = false) : tellLine x d = demPre ++ d.name.data.toList ++ sufEnd := by
  rw [tellLine, tellWords, if_neg (by rw [h]; simp)]
  simp [spaced, Word.bytes, wDemand, wSuff, demPre, sufEnd]
theorem tellLine_no {x : DetD} {d : DemD} (h : demOk d = true) : ∀ c ∈ tellLine x d, c ≠ 10 := by
  intro c hc
  have hn := (tName_size h).2
  cases hs : shortB x d
  · rw [tellLine_suff hs] at hc
    simp only [List.mem_append] at hc
    rcases hc with (hc | hc) | hc
    · rintro rfl; revert hc; decide
    · exact (tName_no hn hc).2
    · rintro rfl; revert hc; decide
  · rw [tellLine_short hs] at hc
    simp only [List.mem_append] at hc
    rcases hc with ((hc | hc) | hc) | hc
    · rintro rfl; revert hc; decide
    · exact (tName_no hn hc).2
    · rintro rfl; revert hc; decide
    · exact (tItoa_no hc).2
theorem tellWords_ok {x : DetD} {d : DemD} (h : demOk d = true) : ∀ y ∈ tellWords x d, y.ok := by
  have hn := (tName_size h).1
  have hp := failPt_in x d
  intro y hy
  unfold tellWords at hy
  split at hy
  · simp only [List.mem_cons, List.not_mem_nil, or_false] at hy
    rcases hy with rfl | rfl | rfl | rfl | rfl
    · simp [Word.ok, wDemand, ByteArray.size]
    · simp only [Word.ok]; omega
    · simp [Word.ok, wFails, ByteArray.size]
    · simp [Word.ok, wAt, ByteArray.size]
    · simp only [Word.ok]; omega
  · simp only [List.mem_cons, List.not_mem_nil, or_false] at hy
    rcases hy with rfl | rfl | rfl
    · simp [Word.ok, wDemand, ByteArray.size]
    · simp only [Word.ok]; omega
    · simp [Word.ok, wSuff, ByteArray.size]
theorem tellText_len {x : DetD} : ∀ (l : List DemD), (∀ d ∈ l, demOk d = true) → (tellText x l).length ≤ 6000000 * l.length := by
  intro l
  induction l with
  | nil => intro _; simp [tellText]
  | cons d r ih =>
    intro h
    have h1 := lineBytes_len (tellWords_ok (x := x) (h d (List.mem_cons_self ..)))
    have h2 := ih (fun y hy => h y (List.mem_cons_of_mem _ hy))
    have h3 : (tellWords x d).length ≤ 5 := by unfold tellWords; split <;> simp
    have h4 : tellText x (d :: r) = lineBytes (tellWords x d) ++ tellText x r := by simp [tellText]
    rw [h4, List.length_append, List.length_cons]
    omega
theorem pat_ten {y r P : List UInt8} (h10 : ∀ c ∈ P, c ≠ 10) (h : P <:+: y ++ 10 :: r) : P <:+: y ∨ P <:+: r := by
  obtain ⟨a, b, h⟩ := h
  rcases List.append_eq_append_iff.1 h with ⟨c, h1, h2⟩ | ⟨c, h1, h2⟩
  · exact .inl ⟨a, c, h1.symm⟩
  · cases c with
    | nil => exact .inl ⟨a, [], by simpa using h1⟩
    | cons c0 c =>
      rw [List.cons_append, List.cons.injEq] at h2
      obtain ⟨h3, h2⟩ := h2
      subst h3
      rcases List.append_eq_append_iff.1 h1 with ⟨e, h3, h4⟩ | ⟨e, h3, h4⟩
      · exact absurd rfl (h10 10 (by rw [h4]; simp))
      · cases e with
        | nil => exact absurd rfl (h10 10 (by rw [List.nil_append] at h4; rw [← h4]; simp))
        | cons e0 e =>
          rw [List.cons_append, List.cons.injEq] at h4
          exact .inr ⟨e, b, by rw [h2, h4.2]⟩
theorem pat_lines {P : List UInt8} (h10 : ∀ c ∈ P, c ≠ 10) (h0 : P ≠ []) : ∀ (ls : List (List UInt8)), P <:+: ls.flatMap (· ++ [10]) → ∃ y ∈ ls, P <:+: y := by
  intro ls
  induction ls with
  | nil =>
    intro h
    obtain ⟨a, b, h⟩ := h
    simp at h
    exact absurd h.2.1 h0
  | cons y r ih =>
    intro h
    have hs : (y :: r).flatMap (· ++ [10]) = y ++ 10 :: r.flatMap (· ++ [10]) := by simp
    rw [hs] at h
    rcases pat_ten h10 h with h | h
    · exact ⟨y, List.mem_cons_self .., h⟩
    · obtain ⟨z, hz, h⟩ := ih h
      exact ⟨z, List.mem_cons_of_mem _ hz, h⟩
theorem contains_infix (s P : List UInt8) : Lib.contains s P = true ↔ P <:+: s := by
  rw [Lib.contains, decide_eq_true_eq]
  rcases Lib.index_spec s P with ⟨h1, h2⟩ | ⟨i, h1, h2, h3, _⟩
  · constructor
    · intro h; omega
    · rintro ⟨a, b, h⟩
      have h3 := h2 a.length (by rw [← h]; simp)
      rw [Lib.occAt, ← h, List.append_assoc, List.drop_left] at h3
      have h4 : P.isPrefixOf (P ++ b) = true := by rw [List.isPrefixOf_iff_prefix]; exact List.prefix_append _ _
      rw [h4] at h3
      cases h3
  · constructor
    · intro _
      rw [Lib.occAt, List.isPrefixOf_iff_prefix] at h3
      obtain ⟨b, h3⟩ := h3
      exact ⟨s.take i, b, by rw [List.append_assoc, h3, List.take_append_drop]⟩
    · intro _; omega
theorem suff_not {x : DetD} {d : DemD} (h : demOk d = true) (hs : shortB x d = false) : ¬ failPat <:+: tellLine x d := by
  intro hi
  have h1 := hi.sublist.count_le 32
  rw [tellLine_suff hs, List.count_append, List.count_append] at h1
  have h2 : d.name.data.toList.count 32 = 0 := List.count_eq_zero.2 (fun hc => (tName_no (tName_size h).2 hc).1 rfl)
  rw [h2] at h1
  revert h1
  decide
/-- The report tells a failure exactly if a demand has a finding. -/
theorem tells_contains {x : DetD} {l : List DemD} (h : ∀ d ∈ l, demOk d = true) : Lib.contains (tellText x l) failPat = decide (0 < (shortFinsOf x l).length) := by
  have h1 : decide (0 < (shortFinsOf x l).length) = l.any (shortB x) := by
    rw [shortFinsOf, List.length_map]
    rw [Bool.eq_iff_iff, decide_eq_true_eq, List.length_pos_iff_exists_mem, List.any_eq_true]
    constructor
    · rintro ⟨d, hd⟩; exact ⟨d, List.mem_filter.1 hd⟩
    · rintro ⟨d, hd⟩; exact ⟨d, List.mem_filter.2 hd⟩
  rw [h1, Bool.eq_iff_iff, contains_infix, List.any_eq_true, tellText_lines]
  constructor
  · intro hi
    obtain ⟨y, hy, hi⟩ := pat_lines (by decide) (by decide) _ hi
    obtain ⟨d, hd, rfl⟩ := List.mem_map.1 hy
    refine ⟨d, hd, ?_⟩
    cases hs : shortB x d
    · exact absurd hi (suff_not (h d hd) hs)
    · rfl
  · rintro ⟨d, hd, hs⟩
    obtain ⟨a, b, rfl⟩ := List.append_of_mem hd
    refine ⟨(a.map (tellLine x)).flatMap (· ++ [10]) ++ (demPre ++ d.name.data.toList), Lib.itoa (failPt x d) ++ [10] ++ (b.map (tellLine x)).flatMap (· ++ [10]), ?_⟩
    rw [List.map_append, List.map_cons, List.flatMap_append, List.flatMap_cons, tellLine_short hs]
    simp [List.append_assoc]
def tellStrs (x : DetD) (l : List DemD) : List ByteArray := (l.map (tellLine x)).map (fun y => ⟨y.toArray⟩) ++ [.empty]
theorem tellStrs_len (x : DetD) (l : List DemD) : (tellStrs x l).length = l.length + 1 := by simp [tellStrs]
theorem tellStrs_at {x : DetD} {l : List DemD} {k : Nat} {d : DemD} (h : l[k]? = some d) : (tellStrs x l)[k]? = some ⟨(tellLine x d).toArray⟩ := by
  have hk := lt_of_get h
  rw [tellStrs, List.getElem?_append_left (by simpa using hk), List.getElem?_map, List.getElem?_map, h]
  rfl
theorem tellStrs_end (x : DetD) (l : List DemD) : (tellStrs x l)[l.length]? = some .empty := by
  rw [tellStrs, List.getElem?_append_right (by simp)]
  simp
end Go.Proofs.YtkmpddaobncheaaGreatDoor
