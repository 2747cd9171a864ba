/- Plain: cutting plans: what makes them right, what they use, and the lines of their report. No walk stands here. -/
import Derived.Test.YtnhmdgkhmkeopaaGreatDoorStock
import Derived.Test.YtnhmdgkhmkeopaaGreatDoorSumP
namespace Go.Proofs.YtnhmdgkhmkeopaaGreatDoor
open Go.RowKit

def w64 (n : Int) : Int := wrap64 n
def lenAt (s : List StkD) (k : Int) : Int := match s[k.toNat]? with | some x => x.length | none => 0
/-- Whether pieces fit into a length. -/
def fitsFrom : Int → List PieD → List Int → Bool
  | len, x :: r, n :: q => !(decide (n < 0) || decide (x.count < n) || decide (len.tdiv x.length < n)) && fitsFrom (len - n * x.length) r q
  | _, _, _ => true
def patBad (m : Int) (x : PatD) : Bool := decide (x.stock < 0) || decide (m ≤ x.stock) || decide (x.times < 1) || decide (1000000 < x.times)
def planOk (m : Nat) (p : List PatD) : Bool := decide (p.length ≤ 1000) && !p.any (patBad m)
def patFits (s : List StkD) (l : List PieD) (x : PatD) : Bool := decide (x.pieces.length = l.length) && fitsFrom (lenAt s x.stock) l x.pieces
/-- The pieces of a pattern, counted in. -/
def madeTo (made pieces : List Int) (t : Int) : Nat → List Int
  | 0 => made
  | j + 1 => (madeTo made pieces t j).set j (w64 ((madeTo made pieces t j).getD j 0 + w64 (pieces.getD j 0 * t)))
def usedTo (used : List Int) (x : PatD) : List Int := used.set x.stock.toNat (w64 (used.getD x.stock.toNat 0 + x.times))
def rightFrom (s : List StkD) (l : List PieD) : List PatD → List Int → List Int → Option (List Int × List Int)
  | [], used, made => some (used, made)
  | x :: r, used, made => if patFits s l x then rightFrom s l r (usedTo used x) (madeTo made x.pieces x.times x.pieces.length) else none
def sameMade : List PieD → List Int → Bool
  | x :: r, m :: q => (m == x.count) && sameMade r q
  | _, _ => true
def inStock : List StkD → List Int → Bool
  | x :: r, u :: q => !(decide (0 ≤ x.count) && decide (x.count < u)) && inStock r q
  | _, _ => true
def rightEnd (s : List StkD) (l : List PieD) : Option (List Int × List Int) → Bool
  | none => false
  | some (u, m) => sameMade l m && inStock s u
def rightOk (s : List StkD) (l : List PieD) (p : List PatD) : Bool := planOk s.length p && rightEnd s l (rightFrom s l p (List.replicate s.length 0) (List.replicate l.length 0))
def usedN (p : List PatD) : Int := p.foldl (fun a x => a + x.times) 0
def usedSum (s : List StkD) (p : List PatD) : Int := p.foldl (fun a x => a + x.times * lenAt s x.stock) 0

theorem madeTo_length (made pieces : List Int) (t : Int) : ∀ j, (madeTo made pieces t j).length = made.length := by
  intro j
  induction j with
  | zero => rfl
  | succ j ih => rw [madeTo, List.length_set, ih]
theorem usedTo_length (used : List Int) (x : PatD) : (usedTo used x).length = used.length := by rw [usedTo, List.length_set]
theorem rightFrom_at {s : List StkD} {l : List PieD} {p : List PatD} {k : Nat} {x : PatD} (h : p[k]? = some x) (u m : List Int) :
    rightFrom s l (p.drop k) u m = if patFits s l x then rightFrom s l (p.drop (k + 1)) (usedTo u x) (madeTo m x.pieces x.times x.pieces.length) else none := by
  rw [drop_at' h, rightFrom]
theorem sameMade_at {l : List PieD} {m : List Int} {k : Nat} {x : PieD} {n : Int} (h : l[k]? = some x) (hm : m[k]? = some n) :
    sameMade (l.drop k) (m.drop k) = ((n == x.count) && sameMade (l.drop (k + 1)) (m.drop (k + 1))) := by
  rw [drop_at' h, drop_at' hm, sameMade]
theorem inStock_at {s : List StkD} {u : List Int} {k : Nat} {x : StkD} {n : Int} (h : s[k]? = some x) (hm : u[k]? = some n) :
    inStock (s.drop k) (u.drop k) = (!(decide (0 ≤ x.count) && decide (x.count < n)) && inStock (s.drop (k + 1)) (u.drop (k + 1))) := by
  rw [drop_at' h, drop_at' hm, inStock]
theorem fits_at {l : List PieD} {p : List Int} {k : Nat} {x : PieD} {n : Int} (len : Int) (h : l[k]? = some x) (hm : p[k]? = some n) :
    fitsFrom len (l.drop k) (p.drop k) = (!(decide (n < 0) || decide (x.count < n) || decide (len.tdiv x.length < n)) && fitsFrom (len - n * x.length) (l.drop (k + 1)) (p.drop (k + 1))) := by
  rw [drop_at' h, drop_at' hm, fitsFrom]
theorem planOk_len {m : Nat} {p : List PatD} (h : planOk m p = true) : p.length ≤ 1000 := by
  simp only [planOk, Bool.and_eq_true, decide_eq_true_eq] at h
  exact h.1
theorem planOk_mem {m : Nat} {p : List PatD} (h : planOk m p = true) {x : PatD} (hx : x ∈ p) : 0 ≤ x.stock ∧ x.stock < m ∧ 1 ≤ x.times ∧ x.times ≤ 1000000 := by
  simp only [planOk, Bool.and_eq_true, Bool.not_eq_true', List.any_eq_false] at h
  have := h.2 x hx
  simp only [patBad, Bool.or_eq_true, decide_eq_true_eq] at this
  omega
theorem stkFrom_mem : ∀ (l : List StkD) (seen : List Int), stkFrom seen l = true → ∀ x ∈ l, 1 ≤ x.length ∧ x.length ≤ 1048576 := by
  intro l
  induction l with
  | nil => intro _ _ x hx; cases hx
  | cons y r ih =>
    intro seen h x hx
    rw [stkFrom, Bool.and_eq_true, Bool.and_eq_true] at h
    rcases List.mem_cons.1 hx with rfl | hx
    · have h1 := h.1.1
      simp only [stkBad, Bool.not_eq_true', Bool.or_eq_false_iff, Bool.not_eq_false'] at h1
      exact lenOk_range h1.1.1
    · exact ih _ h.2 x hx
theorem stkOk_mem {s : List StkD} (h : stkOk s = true) {x : StkD} (hx : x ∈ s) : 1 ≤ x.length ∧ x.length ≤ 1048576 := by
  rw [stkOk, Bool.and_eq_true] at h
  exact stkFrom_mem s [] h.2 x hx
theorem stkOk_len {s : List StkD} (h : stkOk s = true) : s.length ≤ 10 := by
  rw [stkOk, Bool.and_eq_true, decide_eq_true_eq] at h
  exact h.1
theorem lenAt_get {s : List StkD} {k : Int} {x : StkD} (h : s[k.toNat]? = some x) : lenAt s k = x.length := by rw [lenAt, h]
theorem lenAt_range {s : List StkD} (h : stkOk s = true) {k : Int} (h0 : 0 ≤ k) (h1 : k < s.length) : 1 ≤ lenAt s k ∧ lenAt s k ≤ 1048576 := by
  have hk : k.toNat < s.length := by omega
  rw [lenAt_get (List.getElem?_eq_getElem hk)]
  exact stkOk_mem h (List.getElem_mem _)
theorem usedN_snoc (p : List PatD) (x : PatD) : usedN (p ++ [x]) = usedN p + x.times := by simp [usedN]
theorem usedSum_snoc (s : List StkD) (p : List PatD) (x : PatD) : usedSum s (p ++ [x]) = usedSum s p + x.times * lenAt s x.stock := by simp [usedSum]
theorem used_range {s : List StkD} (hs : stkOk s = true) : ∀ (p : List PatD), (∀ x ∈ p, 0 ≤ x.stock ∧ x.stock < s.length ∧ 1 ≤ x.times ∧ x.times ≤ 1000000) →
    (0 ≤ usedN p ∧ usedN p ≤ 1000000 * p.length) ∧ 0 ≤ usedSum s p ∧ usedSum s p ≤ 1048576000000 * p.length := by
  have key : ∀ r : List PatD, (∀ x ∈ r.reverse, 0 ≤ x.stock ∧ x.stock < s.length ∧ 1 ≤ x.times ∧ x.times ≤ 1000000) →
      (0 ≤ usedN r.reverse ∧ usedN r.reverse ≤ 1000000 * r.reverse.length) ∧ 0 ≤ usedSum s r.reverse ∧ usedSum s r.reverse ≤ 1048576000000 * r.reverse.length := by
    intro r
    induction r with
    | nil => intro _; simp [usedN, usedSum]
    | cons x r ih =>
      intro h
      rw [List.reverse_cons] at h ⊢
      obtain ⟨⟨a1, a2⟩, b1, b2⟩ := ih (fun y hy => h y (List.mem_append_left _ hy))
      obtain ⟨c1, c2, c3, c4⟩ := h x (by simp)
      obtain ⟨d1, d2⟩ := lenAt_range hs c1 c2
      have e0 : 0 ≤ x.times * lenAt s x.stock := Int.mul_nonneg (by omega) (by omega)
      have e1 : x.times * lenAt s x.stock ≤ 1000000 * 1048576 := Int.mul_le_mul c4 d2 (by omega) (by omega)
      rw [usedN_snoc, usedSum_snoc, List.length_append, List.length_singleton]
      generalize x.times * lenAt s x.stock = e at *
      omega
  intro p h
  have := key p.reverse
  rw [List.reverse_reverse] at this
  exact this h
theorem fits_bound : ∀ (l : List PieD) (p : List Int) (len : Int), fitsFrom len l p = true → p.length ≤ l.length → (∀ x ∈ l, x.count ≤ 1000000) → ∀ n ∈ p, 0 ≤ n ∧ n ≤ 1000000 := by
  intro l
  induction l with
  | nil => intro p len _ hl _ n hn; simp at hl; subst hl; cases hn
  | cons x r ih =>
    intro p len h hl hc n hn
    cases p with
    | nil => cases hn
    | cons m q =>
      rw [fitsFrom, Bool.and_eq_true] at h
      have h1 := h.1
      simp only [Bool.not_eq_true', Bool.or_eq_false_iff, decide_eq_false_iff_not] at h1
      have h2 := hc x (List.mem_cons_self ..)
      rcases List.mem_cons.1 hn with rfl | hn
      · omega
      · exact ih q _ h.2 (by simpa using hl) (fun y hy => hc y (List.mem_cons_of_mem _ hy)) n hn
theorem rightFrom_mem {s : List StkD} {l : List PieD} : ∀ (p : List PatD) (u m : List Int), rightFrom s l p u m ≠ none → ∀ x ∈ p, patFits s l x = true := by
  intro p
  induction p with
  | nil => intro _ _ _ x hx; cases hx
  | cons y r ih =>
    intro u m h x hx
    rw [rightFrom] at h
    by_cases hy : patFits s l y = true
    · rw [if_pos hy] at h
      rcases List.mem_cons.1 hx with rfl | hx
      · exact hy
      · exact ih _ _ h x hx
    · rw [if_neg hy] at h
      exact absurd rfl h
theorem rightOk_plan {s : List StkD} {l : List PieD} {p : List PatD} (h : rightOk s l p = true) : planOk s.length p = true := by
  rw [rightOk, Bool.and_eq_true] at h
  exact h.1
theorem rightOk_mem {s : List StkD} {l : List PieD} {p : List PatD} (h : rightOk s l p = true) {x : PatD} (hx : x ∈ p) : patFits s l x = true := by
  rw [rightOk, Bool.and_eq_true] at h
  have h2 := h.2
  refine rightFrom_mem p (List.replicate s.length 0) (List.replicate l.length 0) (fun hn => ?_) x hx
  rw [hn] at h2
  cases h2
theorem rightOk_pieces {s : List StkD} {l : List PieD} {p : List PatD} (h : rightOk s l p = true) (hl : ordOk l = true) {x : PatD} (hx : x ∈ p) :
    x.pieces.length = l.length ∧ ∀ n ∈ x.pieces, 0 ≤ n ∧ n ≤ 1000000 := by
  have h1 := rightOk_mem h hx
  rw [patFits, Bool.and_eq_true, decide_eq_true_eq] at h1
  refine ⟨h1.1, fits_bound l _ _ h1.2 (by omega) (fun y hy => ?_)⟩
  exact (ordOk_mem hl hy).2.2.2

/-! The report. -/
def wLengths : ByteArray := ⟨#[108, 101, 110, 103, 116, 104, 115]⟩
def wSum : ByteArray := ⟨#[115, 117, 109]⟩
def wWaste : ByteArray := ⟨#[119, 97, 115, 116, 101]⟩
def wLength : ByteArray := ⟨#[108, 101, 110, 103, 116, 104]⟩
def wTimes : ByteArray := ⟨#[116, 105, 109, 101, 115]⟩
def wPieces : ByteArray := ⟨#[112, 105, 101, 99, 101, 115]⟩
def headWords (n sum waste : Int) : List Word := [.str wLengths, .num n, .str wSum, .num sum, .str wWaste, .num waste]
def patWords (s : List StkD) (x : PatD) : List Word := [.str wLength, .num (lenAt s x.stock), .str wTimes, .num x.times, .str wPieces] ++ x.pieces.map Word.num
def patLines (s : List StkD) (p : List PatD) : List UInt8 := p.flatMap fun x => lineBytes (patWords s x)
def wasteOf (s : List StkD) (l : List PieD) (p : List PatD) : Int := usedSum s p - ordSum l
def cutText (s : List StkD) (l : List PieD) (p : List PatD) : List UInt8 := lineBytes (headWords (usedN p) (usedSum s p) (wasteOf s l p)) ++ patLines s p
theorem patLines_snoc (s : List StkD) (p : List PatD) (x : PatD) : patLines s (p ++ [x]) = patLines s p ++ lineBytes (patWords s x) := by
  simp [patLines, List.flatMap_append]

theorem num_plain' (n : Int) : (Word.num n).plain ∧ Lib.atoi (Word.num n).bytes = some n := by
  by_cases h : 0 ≤ n
  · exact num_plain h
  · obtain ⟨k, hk⟩ := Int.eq_ofNat_of_zero_le (show 0 ≤ -n by omega)
    obtain ⟨v1, v2, v3, _, _⟩ := numVal_dec k
    have hb : (Word.num n).bytes = 45 :: Lib.decDigits k := by
      rw [Word.bytes, Lib.itoa, if_pos (by omega), show n.natAbs = k by omega]
    rw [Word.plain, hb]
    refine ⟨⟨by simp, ?_, ?_⟩, ?_⟩
    · intro c hc
      rcases List.mem_cons.1 hc with rfl | hc
      · decide
      · exact (digit_sp (List.all_eq_true.1 v2 c hc)).1
    · intro c hc
      rcases List.mem_cons.1 hc with rfl | hc
      · decide
      · exact (digit_sp (List.all_eq_true.1 v2 c hc)).2
    · have he : (Lib.decDigits k).isEmpty = false := by
        cases hd : Lib.decDigits k with
        | nil => exact absurd hd v3
        | cons _ _ => rfl
      rw [Lib.atoi, if_pos (by decide), Lib.decNat, he, if_neg (by simp), decFrom_digits _ 0 v2, Option.map_some, ← numVal_nat _ v2, v1]
      congr 1
      omega
theorem num_len' {n : Int} (h0 : -10000000000000000 < n) (h1 : n < 10000000000000000) : (Word.num n).bytes.length ≤ 18 := by
  by_cases h : 0 ≤ n
  · exact num_len h h1
  · have := dec_len 15 n.natAbs (by omega)
    rw [Word.bytes, Lib.itoa, if_pos (by omega), List.length_cons]
    omega
abbrev WordFit (b : ByteArray) : Prop := ((Word.str b).plain ∧ (Word.str b).bytes.length ≤ 18) ∧ Lib.atoi (Word.str b).bytes = none
theorem word_plain {b : ByteArray} (h1 : b.data.toList ≠ []) (h2 : ∀ c ∈ b.data.toList, Lib.isSp c = false ∧ c.toNat < 128) (h3 : Lib.atoi b.data.toList = none) (h4 : b.data.toList.length ≤ 18) :
    WordFit b :=
  ⟨⟨⟨h1, fun c hc => (h2 c hc).1, fun c hc => (h2 c hc).2⟩, h4⟩, h3⟩
theorem wLengths_plain : WordFit wLengths := word_plain (b := wLengths) (by decide) (by show ∀ c ∈ ([108, 101, 110, 103, 116, 104, 115] : List UInt8), _; decide) (by decide) (by decide)
theorem wSum_plain : WordFit wSum := word_plain (b := wSum) (by decide) (by show ∀ c ∈ ([115, 117, 109] : List UInt8), _; decide) (by decide) (by decide)
theorem wWaste_plain : WordFit wWaste := word_plain (b := wWaste) (by decide) (by show ∀ c ∈ ([119, 97, 115, 116, 101] : List UInt8), _; decide) (by decide) (by decide)
theorem wLength_plain : WordFit wLength := word_plain (b := wLength) (by decide) (by show ∀ c ∈ ([108, 101, 110, 103, 116, 104] : List UInt8), _; decide) (by decide) (by decide)
theorem wTimes_plain : WordFit wTimes := word_plain (b := wTimes) (by decide) (by show ∀ c ∈ ([116, 105, 109, 101, 115] : List UInt8), _; decide) (by decide) (by decide)
theorem wPieces_plain : WordFit wPieces := word_plain (b := wPieces) (by decide) (by show ∀ c ∈ ([112, 105, 101, 99, 101, 115] : List UInt8), _; decide) (by decide) (by decide)
theorem headLine_fit {n sum waste : Int} (h : ∀ x ∈ [n, sum, waste], -10000000000000000 < x ∧ x < 10000000000000000) :
    LineFit (spaced (headWords n sum waste)) ∧ (∀ c ∈ spaced (headWords n sum waste), c ≠ 10) ∧ lineNums (spaced (headWords n sum waste)) = [n, sum, waste] := by
  have a := h n (by simp)
  have b := h sum (by simp)
  have c := h waste (by simp)
  have hw : ∀ x ∈ headWords n sum waste, x.plain ∧ x.bytes.length ≤ 18 := by
    intro x hx
    simp only [headWords, List.mem_cons, List.not_mem_nil, or_false] at hx
    rcases hx with rfl | rfl | rfl | rfl | rfl | rfl
    · exact wLengths_plain.1
    · exact ⟨(num_plain' _).1, num_len' a.1 a.2⟩
    · exact wSum_plain.1
    · exact ⟨(num_plain' _).1, num_len' b.1 b.2⟩
    · exact wWaste_plain.1
    · exact ⟨(num_plain' _).1, num_len' c.1 c.2⟩
  obtain ⟨f1, f2⟩ := fit_of (ws := headWords n sum waste) (by simp [headWords]) hw
  refine ⟨f1, f2, ?_⟩
  rw [lineNums, fields_spaced _ (fun x hx => (hw x hx).1)]
  simp [headWords, wLengths_plain.2, wSum_plain.2, wWaste_plain.2, (num_plain' _).2]
theorem nums_map (l : List Int) : ((l.map Word.num).map Word.bytes).filterMap Lib.atoi = l := by
  induction l with
  | nil => rfl
  | cons x r ih => rw [List.map_cons, List.map_cons, List.filterMap_cons, (num_plain' x).2, ih]
theorem patLine_fit {s : List StkD} {x : PatD} (hl : x.pieces.length ≤ 90) (h : ∀ n ∈ lenAt s x.stock :: x.times :: x.pieces, -10000000000000000 < n ∧ n < 10000000000000000) :
    LineFit (spaced (patWords s x)) ∧ (∀ c ∈ spaced (patWords s x), c ≠ 10) ∧ lineNums (spaced (patWords s x)) = lenAt s x.stock :: x.times :: x.pieces := by
  have a := h (lenAt s x.stock) (by simp)
  have b := h x.times (by simp)
  have hw : ∀ y ∈ patWords s x, y.plain ∧ y.bytes.length ≤ 18 := by
    intro y hy
    simp only [patWords, List.mem_append, List.mem_cons, List.not_mem_nil, or_false, List.mem_map] at hy
    rcases hy with (rfl | rfl | rfl | rfl | rfl) | ⟨n, hn, rfl⟩
    · exact wLength_plain.1
    · exact ⟨(num_plain' _).1, num_len' a.1 a.2⟩
    · exact wTimes_plain.1
    · exact ⟨(num_plain' _).1, num_len' b.1 b.2⟩
    · exact wPieces_plain.1
    · have c := h n (by simp [hn])
      exact ⟨(num_plain' _).1, num_len' c.1 c.2⟩
  obtain ⟨f1, f2⟩ := fit_of (ws := patWords s x) (by simp [patWords]; omega) hw
  refine ⟨f1, f2, ?_⟩
  rw [lineNums, fields_spaced _ (fun y hy => (hw y hy).1), patWords, List.map_append, List.filterMap_append, nums_map]
  simp [wLength_plain.2, wTimes_plain.2, wPieces_plain.2, (num_plain' _).2]
def cutLines (s : List StkD) (l : List PieD) (p : List PatD) : List (List UInt8) := spaced (headWords (usedN p) (usedSum s p) (wasteOf s l p)) :: p.map fun x => spaced (patWords s x)
theorem cutText_lines (s : List StkD) (l : List PieD) (p : List PatD) : cutText s l p = (cutLines s l p).flatMap (· ++ [10]) := by
  rw [cutText, cutLines, List.flatMap_cons, List.flatMap_map]
  rfl
end Go.Proofs.YtnhmdgkhmkeopaaGreatDoor
