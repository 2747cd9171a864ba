/- Legs of valid bars: plain facts. -/
import Derived.Test.YtnhmdgkhmkeopaaGreatDoorSched
namespace Go.Proofs.YtnhmdgkhmkeopaaGreatDoor
open Go.RowKit

theorem fits_mem {rest : Int} {l : List Int} (h : fits rest l = true) : ∀ d ∈ l, 1 ≤ d ∧ d ≤ rest := by
  induction l generalizing rest with
  | nil => intro d hd; cases hd
  | cons y r ih =>
    simp only [fits, Bool.and_eq_true, decide_eq_true_eq] at h
    intro d hd
    rcases List.mem_cons.1 hd with rfl | hd
    · omega
    · have := ih h.2 d hd
      omega
theorem foldl_max_ge (l : List (Int × Int)) (a : Int) : a ≤ l.foldl (fun a p => max a p.1) a ∧ ∀ p ∈ l, p.1 ≤ l.foldl (fun a p => max a p.1) a := by
  induction l generalizing a with
  | nil => simp
  | cons y r ih =>
    have := ih (max a y.1)
    refine ⟨by simp only [List.foldl_cons]; omega, fun p hp => ?_⟩
    rcases List.mem_cons.1 hp with rfl | hp
    · simp only [List.foldl_cons]; omega
    · exact this.2 p hp
def legDim (x : BarD) (p : Int × Int) : Int := x.dims.getD p.1.toNat 0
def legLens (x : BarD) : List Int := (legsOf x.code).map (legDim x)
structure BarGood (x : BarD) : Prop where
  size : isSize x.size = true
  count : 1 ≤ x.count ∧ x.count ≤ 1000
  leg : ∀ p ∈ legsOf x.code, 0 ≤ p.1 ∧ p.1.toNat < x.dims.length ∧ x.dims[p.1.toNat]? = some (legDim x p) ∧ 1 ≤ legDim x p ∧ legDim x p ≤ 262144
  legs : legLens x ≠ []
theorem barGood_of {x : BarD} (h : barOk x = true) : BarGood x := by
  rw [barOk_pre] at h
  simp only [Bool.and_eq_true, barPre, decide_eq_true_eq] at h
  obtain ⟨⟨⟨⟨⟨⟨h0, h1⟩, h2⟩, h3⟩, h4⟩, h5⟩, h6⟩ := h
  refine ⟨h2, ⟨h3, h4⟩, fun p hp => ?_, ?_⟩
  · have hd := legs_dims _ p hp
    have hm := (foldl_max_ge (legsOf x.code) (-1)).2 p hp
    have hl : p.1.toNat < x.dims.length := by unfold dimsN at h5; omega
    have hg : x.dims[p.1.toNat]? = some (legDim x p) := by rw [legDim, List.getD_eq_getElem?_getD, List.getElem?_eq_getElem hl]; rfl
    exact ⟨hd.1, hl, hg, fits_mem h6 _ (mem_of_get hg)⟩
  · intro he
    have : legsOf x.code = [] := by simpa [legLens] using he
    rw [dimsE, dimsN, this] at h0
    simp at h0

theorem code_cases {code : Int} (h : legsOf code ≠ []) : code = 0 ∨ code = 11 ∨ code = 21 ∨ code = 26 ∨ code = 31 ∨ code = 41 ∨ code = 51 ∨ code = 98 := by
  unfold legsOf at h
  refine Decidable.byContradiction fun hn => ?_
  simp only [not_or] at hn
  obtain ⟨h0, h1, h2, h3, h4, h5, h6, h7⟩ := hn
  simp [h0, h1, h2, h3, h4, h5, h6, h7] at h
/-- The legs have at most twice the length of the dimensions. -/
theorem legs_sum {x : BarD} (h : barOk x = true) : (legLens x).foldl (fun s n => s + n) 0 ≤ 524288 := by
  have hg := barGood_of h
  have hc : legsOf x.code ≠ [] := by
    intro he
    exact hg.legs (by simp [legLens, he])
  rw [barOk_pre] at h
  simp only [Bool.and_eq_true, barPre, decide_eq_true_eq] at h
  obtain ⟨⟨_, h5⟩, h6⟩ := h
  obtain ⟨mark, size, count, code, dims⟩ := x
  simp only at h5 h6 hc
  clear hg
  rcases code_cases hc with rfl | rfl | rfl | rfl | rfl | rfl | rfl | rfl
  all_goals
    simp [dimsN, legsOf] at h5
    rcases dims with _ | ⟨a, _ | ⟨b, _ | ⟨c, _ | ⟨d, _ | ⟨e, _ | ⟨f, r⟩⟩⟩⟩⟩⟩ <;> simp at h5 <;> (try omega)
    all_goals
      simp [fits] at h6
      simp [legLens, legsOf, legDim]
      omega

end Go.Proofs.YtnhmdgkhmkeopaaGreatDoor
