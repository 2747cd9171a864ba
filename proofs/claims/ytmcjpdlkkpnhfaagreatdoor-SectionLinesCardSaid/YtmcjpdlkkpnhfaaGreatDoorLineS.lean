/- Plain: the lines of a section's drawing; its signs; its sizes at a doubled scale. No walk stands here. -/
import Derived.Test.YtmcjpdlkkpnhfaaGreatDoorQbf
import Derived.Lib.CutLaws
import Derived.Lib.IndexBytes
namespace Go.Proofs.YtmcjpdlkkpnhfaaGreatDoor
open Go.RowKit

def isPic (c : Int) : Bool := decide (c = 46) || decide (c = 35) || decide (c = 43) || decide (c = 111)
def allPics (l : List UInt8) : Bool := l.all fun c => isPic c.toNat
theorem sign_pic (r p i : Bool) : isPic (sign3 r p i).toNat = true := by
  cases r <;> cases p <;> cases i <;> rfl
theorem pic_no {c : UInt8} (h : isPic c.toNat = true) : c ≠ 10 := by
  rintro rfl
  revert h
  decide
theorem signS_pic (x : DetD) (a sc : Int) (k c : Nat) : isPic (signS x a sc k c).toNat = true := sign_pic _ _ _
def lineB (G : Nat → Nat → UInt8) (C k : Nat) : List UInt8 := (List.range C).map (G k)
/-- The lines from the j-th one on, of R lines. -/
def linesFrom (G : Nat → Nat → UInt8) (C R j : Nat) : List UInt8 := ((List.range R).drop j).flatMap fun q => rowB G C (R - 1 - q)
theorem top_lines (G : Nat → Nat → UInt8) (C m : Nat) : ∀ n, textTop (rowB G C) m n = (List.range n).flatMap fun q => rowB G C (m - 1 - q) := by
  intro n
  induction n with
  | zero => rfl
  | succ n ih => rw [textTop, ih, List.range_succ, List.flatMap_append]; simp
theorem lines_zero (G : Nat → Nat → UInt8) (C R : Nat) : linesFrom G C R 0 = textTop (rowB G C) R R := by
  rw [top_lines, linesFrom, List.drop_zero]
theorem lines_end (G : Nat → Nat → UInt8) (C R : Nat) : linesFrom G C R R = [] := by
  rw [linesFrom, List.drop_eq_nil_of_le (by simp)]
  rfl
theorem lines_step (G : Nat → Nat → UInt8) {C R j : Nat} (h : j < R) : linesFrom G C R j = lineB G C (R - 1 - j) ++ 10 :: linesFrom G C R (j + 1) := by
  have h1 : (List.range R)[j]? = some j := by simp [h]
  rw [linesFrom, drop_at' h1, List.flatMap_cons, rowB, List.append_assoc]
  rfl
theorem lines_len (G : Nat → Nat → UInt8) (C R : Nat) : ∀ n j, R ≤ j + n → (linesFrom G C R j).length ≤ n * (C + 1) := by
  intro n
  induction n with
  | zero =>
    intro j h
    rw [linesFrom, List.drop_eq_nil_of_le (by simp; omega)]
    simp
  | succ n ih =>
    intro j h
    by_cases hj : j < R
    · rw [lines_step G hj, List.length_append, List.length_cons]
      have h1 := ih (j + 1) (by omega)
      have h2 : (lineB G C (R - 1 - j)).length = C := by simp [lineB]
      rw [Nat.add_mul, Nat.one_mul]
      omega
    · rw [linesFrom, List.drop_eq_nil_of_le (by simp; omega)]
      simp
theorem line_pics {G : Nat → Nat → UInt8} (hG : ∀ k c, isPic (G k c).toNat = true) (C k : Nat) : allPics (lineB G C k) = true := by
  simp [allPics, lineB, hG]
theorem line_no {G : Nat → Nat → UInt8} (hG : ∀ k c, isPic (G k c).toNat = true) (C k : Nat) : ∀ c ∈ lineB G C k, c ≠ 10 := by
  intro c hc
  simp only [lineB, List.mem_map] at hc
  obtain ⟨q, _, rfl⟩ := hc
  exact pic_no (hG k q)
theorem index_end {y r : List UInt8} (h : ∀ c ∈ y, c ≠ 10) : Lib.index (y ++ 10 :: r) [10] = y.length := by
  have hat : (y ++ 10 :: r)[y.length]? = some 10 := by simp
  rw [Lib.index_one]
  by_cases hm : Lib.indexByte (y ++ 10 :: r) 10 = -1
  · exact absurd hat (Lib.indexByte_none hm _)
  · have hge := Lib.indexByte_ge (y ++ 10 :: r) 10
    obtain ⟨i, hi⟩ := Int.eq_ofNat_of_zero_le (show 0 ≤ Lib.indexByte (y ++ 10 :: r) 10 by omega)
    rw [hi]
    obtain ⟨h1, h2⟩ := Lib.indexByte_some hi
    rcases Nat.lt_trichotomy i y.length with hlt | heq | hgt
    · rw [List.getElem?_append_left hlt] at h1
      exact absurd rfl (h 10 (mem_of_get h1))
    · rw [heq]
    · exact absurd hat (h2 _ hgt)
theorem cut_end {y r : List UInt8} (h : ∀ c ∈ y, c ≠ 10) : Lib.cut (y ++ 10 :: r) [10] = (y, r, true) := by
  have hi := index_end (r := r) h
  unfold Lib.cut
  rw [hi, if_pos (by omega)]
  simp
theorem count_lines {G : Nat → Nat → UInt8} (hG : ∀ k c, isPic (G k c).toNat = true) (C R : Nat) : ∀ n j, j + n = R → Lib.countByte (linesFrom G C R j) 10 = n := by
  intro n
  induction n with
  | zero =>
    intro j h
    obtain rfl : j = R := by omega
    rw [lines_end]
    rfl
  | succ n ih =>
    intro j h
    have h1 := ih (j + 1) (by omega)
    unfold Lib.countByte at h1 ⊢
    have h2 : (lineB G C (R - 1 - j)).count 10 = 0 := List.count_eq_zero.2 (fun hc => line_no hG C _ 10 hc rfl)
    rw [lines_step G (by omega), List.count_append, List.count_cons_self, h1, h2]
    omega
theorem mem_lines {G : Nat → Nat → UInt8} {C m n : Nat} {b : UInt8} (h : b ∈ textTop (rowB G C) m n) : b = 10 ∨ ∃ k c, b = G k c := by
  rw [top_lines] at h
  simp only [List.mem_flatMap, rowB, List.mem_append, List.mem_map, List.mem_singleton] at h
  obtain ⟨q, _, ⟨c, _, rfl⟩ | rfl⟩ := h
  · exact .inr ⟨_, _, rfl⟩
  · exact .inl rfl
/-- A text holds a byte. -/
def hasB (T : ByteArray) (c : UInt8) : Bool := decide (0 ≤ Lib.indexByte T.data.toList c)
theorem hasB_mem {l : List UInt8} {c : UInt8} (h : hasB ⟨l.toArray⟩ c = true) : c ∈ l := by
  have h1 : 0 ≤ Lib.indexByte l c := by simpa [hasB] using h
  obtain ⟨i, hi⟩ := Int.eq_ofNat_of_zero_le h1
  exact mem_of_get (Lib.indexByte_some hi).1
theorem sect_ring {x : DetD} {a sc : Int} (h : hasB ⟨(sectText x a sc).toArray⟩ 111 = true) : ∃ p ∈ cutsOf x a, p.cross = true := by
  rcases mem_lines (hasB_mem h) with h1 | ⟨k, c, h1⟩
  · cases h1
  · rw [signS, signTo] at h1
    cases hr : (cutsOf x a).any (ringIn (hullOf x.mem.boxes).lo.2.1 (hullOf x.mem.boxes).lo.2.2 sc k c)
    · rw [hr] at h1
      exfalso
      revert h1
      cases (cutsOf x a).any (plusIn (hullOf x.mem.boxes).lo.2.1 (hullOf x.mem.boxes).lo.2.2 sc k c) <;> cases insAt x a sc k c <;> decide
    · rw [List.any_eq_true] at hr
      obtain ⟨p, hp, hp2⟩ := hr
      rw [ringIn, Bool.and_eq_true] at hp2
      exact ⟨p, hp, hp2.1⟩
theorem sect_drawn {x : DetD} {a sc : Int} (h : (hasB ⟨(sectText x a sc).toArray⟩ 111 || hasB ⟨(sectText x a sc).toArray⟩ 43) = true) : 0 < (cutsOf x a).length := by
  rw [Bool.or_eq_true] at h
  rcases h with h | h
  · obtain ⟨p, hp, _⟩ := sect_ring h
    exact List.length_pos_of_mem hp
  · rcases mem_lines (hasB_mem h) with h1 | ⟨k, c, h1⟩
    · cases h1
    · cases hc : cutsOf x a with
      | cons p l => simp
      | nil =>
        rw [signS, signTo, hc, List.any_nil, List.any_nil] at h1
        exfalso
        revert h1
        cases insAt x a sc k c <;> decide
theorem area_one {d : Int} (h : isSize d = true) : 1 ≤ areaOf d := by
  have hm := isSize_mem h
  simp [steelSizes] at hm
  rcases hm with rfl | rfl | rfl | rfl | rfl | rfl | rfl | rfl | rfl <;> decide
theorem steel_some : ∀ l : List PieceD, (∀ p ∈ l, isSize p.size = true) → (∃ p ∈ l, p.cross = true) → 0 < steelOf l := by
  refine snoc_ind ?_ ?_
  · rintro _ ⟨p, hp, _⟩; simp at hp
  · intro l q ih h ⟨p, hp, hx⟩
    have h1 := (steel_range l (fun u hu => h u (by simp [hu]))).1
    have h2 := area_one (h q (by simp))
    rw [steelOf_snoc, steelOne]
    rw [List.mem_append, List.mem_singleton] at hp
    rcases hp with hp | rfl
    · have := ih (fun u hu => h u (by simp [hu])) ⟨p, hp, hx⟩
      split <;> omega
    · rw [if_pos hx]
      omega
theorem sect_steel {x : DetD} {a sc : Int} (hd : detOk x = true) (h : hasB ⟨(sectText x a sc).toArray⟩ 111 = true) : 0 < steelOf (cutsOf x a) :=
  steel_some _ (cuts_fine (detOk_parts hd).2.1 a).2 (sect_ring h)
theorem twice_one {H s : Int} (h0 : 0 ≤ H) (hs : 1 ≤ s) : 1 ≤ H / (2 * s) + 1 ∧ H / (2 * s) + 1 ≤ H / s + 1 ∧ H / s + 1 ≤ 2 * (H / (2 * s) + 1) ∧ H / s + 1 ≤ H + 1 := by
  have h1 : H / (2 * s) = H / s / 2 := by rw [Int.ediv_ediv_of_nonneg (by omega), Int.mul_comm s 2]
  have h2 := Int.ediv_nonneg h0 (show 0 ≤ s by omega)
  have h3 : H / s ≤ H := Int.ediv_le_self _ h0
  omega
/-- The numbers of columns and rows, at a scale and at the doubled one. -/
theorem twice_size {x : DetD} {sc : Int} (hd : detOk x = true) (hs : 1 ≤ sc) :
    ∃ C R D T : Nat, colsOf x sc = (C : Int) ∧ rowsS x sc = (R : Int) ∧ colsOf x (2 * sc) = (D : Int) ∧ rowsS x (2 * sc) = (T : Int) ∧ 1 ≤ D ∧ 1 ≤ T ∧ D ≤ C ∧ T ≤ R ∧ C ≤ 2 * D ∧ R ≤ 2 * T ∧ C ≤ 4000000 ∧ R ≤ 4000000 := by
  have hh := boxOk_iff.1 (detOk_hull hd)
  obtain ⟨a1, a2, a3, a4⟩ := twice_one (H := (hullOf x.mem.boxes).hi.2.1 - (hullOf x.mem.boxes).lo.2.1) (s := sc) (by omega) hs
  obtain ⟨b1, b2, b3, b4⟩ := twice_one (H := (hullOf x.mem.boxes).hi.2.2 - (hullOf x.mem.boxes).lo.2.2) (s := sc) (by omega) hs
  have e1 : colsOf x sc = ((hullOf x.mem.boxes).hi.2.1 - (hullOf x.mem.boxes).lo.2.1) / sc + 1 := rfl
  have e2 : rowsS x sc = ((hullOf x.mem.boxes).hi.2.2 - (hullOf x.mem.boxes).lo.2.2) / sc + 1 := rfl
  have e3 : colsOf x (2 * sc) = ((hullOf x.mem.boxes).hi.2.1 - (hullOf x.mem.boxes).lo.2.1) / (2 * sc) + 1 := rfl
  have e4 : rowsS x (2 * sc) = ((hullOf x.mem.boxes).hi.2.2 - (hullOf x.mem.boxes).lo.2.2) / (2 * sc) + 1 := rfl
  exact ⟨(colsOf x sc).toNat, (rowsS x sc).toNat, (colsOf x (2 * sc)).toNat, (rowsS x (2 * sc)).toNat, by omega, by omega, by omega, by omega, by omega, by omega, by omega, by omega, by omega, by omega, by omega, by omega⟩
/-- What is left of the drawing behind so many lines; a line of it. -/
def restB (x : DetD) (a sc : Int) (C R j : Nat) : ByteArray := ⟨(linesFrom (signS x a sc) C R j).toArray⟩
def lineOf (x : DetD) (a sc : Int) (C R j : Nat) : ByteArray := ⟨(lineB (signS x a sc) C (R - 1 - j)).toArray⟩
theorem rest_zero {x : DetD} {a sc : Int} {C R : Nat} (hc : colsOf x sc = (C : Int)) (hr : rowsS x sc = (R : Int)) : (⟨(sectText x a sc).toArray⟩ : ByteArray) = restB x a sc C R 0 := by
  rw [restB, lines_zero, sectText, hc, hr]
  rfl
theorem rest_size {x : DetD} {a sc : Int} {C R : Nat} : (restB x a sc C R 0).size = R * (C + 1) := by
  show (linesFrom (signS x a sc) C R 0).toArray.size = _
  rw [List.size_toArray, lines_zero, textTop_len]
theorem rest_end {x : DetD} {a sc : Int} {C R : Nat} : restB x a sc C R R = ⟨#[]⟩ := by
  rw [restB, lines_end]
theorem rest_cut {x : DetD} {a sc : Int} {C R j : Nat} (h : j < R) : Lib.cut (restB x a sc C R j).data.toList [10] = ((lineOf x a sc C R j).data.toList, (restB x a sc C R (j + 1)).data.toList, true) := by
  show Lib.cut (linesFrom (signS x a sc) C R j).toArray.toList [10] = _
  rw [List.toList_toArray, lines_step _ h, cut_end (line_no (signS_pic x a sc) C _)]
  simp [lineOf, restB]
theorem line_size {x : DetD} {a sc : Int} {C R j : Nat} : (lineOf x a sc C R j).size = C ∧ allPics (lineOf x a sc C R j).data.toList = true := by
  refine ⟨?_, ?_⟩
  · show (lineB (signS x a sc) C (R - 1 - j)).toArray.size = C
    rw [List.size_toArray]
    simp [lineB]
  · show allPics (lineB (signS x a sc) C (R - 1 - j)).toArray.toList = true
    rw [List.toList_toArray]
    exact line_pics (signS_pic x a sc) C _
theorem rest_count {x : DetD} {a sc : Int} {C R : Nat} : Lib.countByte (restB x a sc C R 0).data.toList 10 = R := by
  show Lib.countByte (linesFrom (signS x a sc) C R 0).toArray.toList 10 = R
  rw [List.toList_toArray]
  exact count_lines (signS_pic x a sc) C R R 0 (by omega)
theorem rest_le {x : DetD} {a sc : Int} {C R j : Nat} : (restB x a sc C R j).size ≤ R * (C + 1) := by
  show (linesFrom (signS x a sc) C R j).toArray.size ≤ _
  rw [List.size_toArray]
  exact lines_len _ C R R j (by omega)
end Go.Proofs.YtmcjpdlkkpnhfaaGreatDoor
