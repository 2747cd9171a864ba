/- Plain: the steel of sections as a sum over all legs; between neighbouring ends it is the same. No walk stands here. -/
import Derived.Test.YtmcjpdlkkpnhfaaGreatQbf
namespace Go.Proofs.YtmcjpdlkkpnhfaaGreat
open Go.RowKit

def legSteel (a sz : Int) (b : BoxD) : Int := if b.lo.1 ≤ a ∧ a < b.hi.1 then areaOf sz else 0
theorem steelOf_append (l m : List PieceD) : steelOf (l ++ m) = steelOf l + steelOf m := by simp [steelOf]
theorem steel_legs (a bar sz : Int) : ∀ l : List BoxD, steelOf (legPieces a bar sz l) = (l.map (legSteel a sz)).sum := by
  refine snoc_ind ?_ ?_
  · rfl
  · intro l b ih
    rw [legPieces_snoc, steelOf_append, ih, List.map_append, List.sum_append]
    congr 1
    simp only [List.map_cons, List.map_nil, List.sum_cons, List.sum_nil, legSteel, overX, Bool.and_eq_true, decide_eq_true_eq]
    split
    · rename_i h
      simp only [steelOf, steelOne, pieceOf, List.map_cons, List.map_nil, List.sum_cons, List.sum_nil, decide_eq_true_eq, Int.add_zero]
      split
      · rw [if_pos ⟨h.1, by assumption⟩]
      · rw [if_neg (by omega)]
    · rename_i h
      simp only [steelOf, List.map_nil, List.sum_nil]
      rw [if_neg (by omega)]
      rfl
def barSteel (a : Int) (x : LaidD) : Int := ((legsOfPts x.pts).map (legSteel a x.bar.size)).sum
theorem steel_pieces (a : Int) : ∀ l : List LaidD, steelOf (piecesTo a l) = (l.map (barSteel a)).sum := by
  refine snoc_ind ?_ ?_
  · rfl
  · intro l x ih
    rw [piecesTo_snoc, steelOf_append, ih, steel_legs, List.map_append, List.sum_append]
    simp [barSteel]
def endIn (a n : Int) (b : BoxD) : Bool := (decide (a < b.lo.1) && decide (b.lo.1 ≤ a + n)) || (decide (a < b.hi.1) && decide (b.hi.1 ≤ a + n))
def missB (a : Int) (b : BoxD) : Bool := decide (a < b.lo.1) || decide (b.hi.1 ≤ a)
def endsOf (a n : Int) (l : List LaidD) : Bool := l.any fun x => (legsOfPts x.pts).any (endIn a n)
def beyondOf (a : Int) (l : List LaidD) : Bool := l.all fun x => (legsOfPts x.pts).all (missB a)
def allLegs (x : LaidD) : Int := ((legsOfPts x.pts).length : Int) * areaOf x.bar.size
def allOf (l : List LaidD) : Int := (l.map allLegs).sum
theorem leg_same {a n sz : Int} {b : BoxD} (hn : 0 ≤ n) (h : endIn a n b = false) : legSteel a sz b = legSteel (a + n) sz b := by
  simp only [endIn, Bool.or_eq_false_iff, Bool.and_eq_false_iff, decide_eq_false_iff_not] at h
  unfold legSteel
  by_cases h1 : b.lo.1 ≤ a ∧ a < b.hi.1
  · rw [if_pos h1, if_pos (by omega)]
  · rw [if_neg h1, if_neg (by omega)]
theorem same_steel {a n : Int} (hn : 0 ≤ n) {l : List LaidD} (h : endsOf a n l = false) : steelOf (piecesTo a l) = steelOf (piecesTo (a + n) l) := by
  rw [steel_pieces, steel_pieces]
  congr 1
  refine List.map_congr_left fun x hx => ?_
  rw [endsOf, List.any_eq_false] at h
  have h1 := h x hx
  rw [Bool.not_eq_true, List.any_eq_false] at h1
  unfold barSteel
  congr 1
  exact List.map_congr_left fun b hb => leg_same hn (by simpa using h1 b hb)
theorem sum_zero {α : Type} {f : α → Int} : ∀ l : List α, (∀ x ∈ l, f x = 0) → (l.map f).sum = 0 := by
  intro l
  induction l with
  | nil => intro _; rfl
  | cons x l ih => intro h; rw [List.map_cons, List.sum_cons, h x (by simp), ih (fun y hy => h y (by simp [hy]))]; rfl
theorem sum_le {α : Type} {f g : α → Int} : ∀ l : List α, (∀ x ∈ l, f x ≤ g x) → (l.map f).sum ≤ (l.map g).sum := by
  intro l
  induction l with
  | nil => intro _; exact Int.le_refl _
  | cons x l ih =>
    intro h
    have h1 := h x (by simp)
    have h2 := ih (fun y hy => h y (by simp [hy]))
    rw [List.map_cons, List.sum_cons, List.map_cons, List.sum_cons]
    omega
theorem sum_const {α : Type} (c : Int) : ∀ l : List α, (l.map fun _ => c).sum = (l.length : Int) * c := by
  intro l
  induction l with
  | nil => simp
  | cons x l ih =>
    rw [List.map_cons, List.sum_cons, ih, List.length_cons]
    push_cast
    rw [Int.add_mul]
    omega
theorem beyond_steel {a : Int} {l : List LaidD} (h : beyondOf a l = true) : steelOf (piecesTo a l) = 0 := by
  rw [steel_pieces]
  refine sum_zero l fun x hx => sum_zero _ fun b hb => ?_
  rw [beyondOf, List.all_eq_true] at h
  have h1 := List.all_eq_true.1 (h x hx) b hb
  simp only [missB, Bool.or_eq_true, decide_eq_true_eq] at h1
  rw [legSteel, if_neg (by omega)]
theorem area_pos (d : Int) : 0 ≤ areaOf d := by
  unfold areaOf
  refine Int.ediv_nonneg ?_ (by omega)
  have : 0 ≤ d * d := by
    rcases Int.le_total 0 d with h | h
    · exact Int.mul_nonneg h h
    · exact Int.mul_nonneg_of_nonpos_of_nonpos h h
  rw [Int.mul_assoc]
  omega
theorem leg_pos (a sz : Int) (b : BoxD) : 0 ≤ legSteel a sz b ∧ legSteel a sz b ≤ areaOf sz := by
  have := area_pos sz
  unfold legSteel
  split <;> omega
theorem steel_all (a : Int) (l : List LaidD) : 0 ≤ steelOf (piecesTo a l) ∧ steelOf (piecesTo a l) ≤ allOf l := by
  rw [steel_pieces]
  constructor
  · have h := sum_le (f := fun _ => 0) (g := barSteel a) l fun x _ => by
      have h1 := sum_le (f := fun _ => 0) (g := legSteel a x.bar.size) (legsOfPts x.pts) fun b _ => (leg_pos a x.bar.size b).1
      rw [sum_const, Int.mul_zero] at h1
      exact h1
    rw [sum_const, Int.mul_zero] at h
    exact h
  · refine sum_le l fun x _ => ?_
    have h1 := sum_le (f := legSteel a x.bar.size) (g := fun _ => areaOf x.bar.size) (legsOfPts x.pts) fun b _ => (leg_pos a x.bar.size b).2
    rw [sum_const] at h1
    exact h1
end Go.Proofs.YtmcjpdlkkpnhfaaGreat
