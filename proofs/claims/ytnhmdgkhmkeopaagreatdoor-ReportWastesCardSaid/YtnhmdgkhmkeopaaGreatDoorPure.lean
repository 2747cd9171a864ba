/- Plain lists and numbers: the place of the first element with a property, and sums. No statement of the program is spoken of here. -/
import Derived.WalkKit
namespace Go.Proofs.YtnhmdgkhmkeopaaGreatDoor

section
variable {α : Type}
/-- The place of the first element for which p holds; -1 if there is none. -/
def idx (p : α → Bool) (l : List α) : Int := match l.findIdx? p with | some i => (i : Int) | none => -1
/-- Among the first k elements there is none for which p holds. -/
def NoneTo (p : α → Bool) (l : List α) (k : Nat) : Prop := ∀ j y, j < k → l[j]? = some y → p y = false
theorem NoneTo.zero (p : α → Bool) (l : List α) : NoneTo p l 0 := fun _ _ h => absurd h (by omega)
theorem NoneTo.succ {p : α → Bool} {l : List α} {k : Nat} {y : α} (h : NoneTo p l k) (hy : l[k]? = some y) (hp : p y = false) : NoneTo p l (k + 1) := by
  intro j z hj hz
  rcases Nat.lt_or_ge j k with h1 | h1
  · exact h j z h1 hz
  · obtain rfl : j = k := by omega
    rw [hy] at hz; injection hz with hz; rw [← hz]; exact hp
theorem NoneTo.hit {p : α → Bool} {l : List α} {k : Nat} {y : α} (h : NoneTo p l k) (hy : l[k]? = some y) (hp : p y = true) : idx p l = k := by
  have hk : k < l.length := (List.getElem?_eq_some_iff.1 hy).1
  have : l.findIdx? p = some k := by
    rw [List.findIdx?_eq_some_iff_getElem]
    refine ⟨hk, ?_, fun j hj => ?_⟩
    · rw [List.getElem?_eq_getElem hk] at hy; injection hy with hy; rw [hy]; exact hp
    · rw [h j _ hj (List.getElem?_eq_getElem (by omega))]; simp
  simp [idx, this]
theorem NoneTo.miss {p : α → Bool} {l : List α} (h : NoneTo p l l.length) : idx p l = -1 := by
  have : l.findIdx? p = none := by
    rw [List.findIdx?_eq_none_iff]
    intro x hx
    obtain ⟨j, hj, rfl⟩ := List.getElem_of_mem hx
    exact h j _ hj (List.getElem?_eq_getElem hj)
  simp [idx, this]
theorem idx_range (p : α → Bool) (l : List α) : -1 ≤ idx p l ∧ idx p l < l.length := by
  unfold idx
  split
  · rename_i i h
    have := (List.findIdx?_eq_some_iff_getElem.1 h).1
    omega
  · omega
theorem idx_any (p : α → Bool) (l : List α) : decide (0 ≤ idx p l) = l.any p := by
  unfold idx
  split
  · rename_i i h
    obtain ⟨hi, hp, _⟩ := List.findIdx?_eq_some_iff_getElem.1 h
    have : l.any p = true := List.any_eq_true.2 ⟨_, List.getElem_mem hi, hp⟩
    rw [this]; simp
  · rename_i h
    rw [List.findIdx?_eq_none_iff] at h
    have : l.any p = false := by rw [List.any_eq_false]; intro x hx; rw [h x hx]; simp
    rw [this]; simp
theorem idx_spec {p : α → Bool} {l : List α} {k : Nat} (h : idx p l = k) : ∃ y, l[k]? = some y ∧ p y = true ∧ NoneTo p l k := by
  unfold idx at h
  split at h
  · rename_i i hi
    obtain ⟨hl, hp, hn⟩ := List.findIdx?_eq_some_iff_getElem.1 hi
    obtain rfl : i = k := by omega
    refine ⟨_, List.getElem?_eq_getElem hl, hp, fun j y hj hy => ?_⟩
    rw [List.getElem?_eq_getElem (by omega)] at hy
    injection hy with hy
    have := hn j hj
    rw [hy] at this
    simpa using this
  · omega
end

theorem idx_at {l : List Int} {x : Int} {j : Nat} (hn : l.Nodup) (h : l[j]? = some x) : idx (fun y => x == y) l = j := by
  refine NoneTo.hit (fun i y hi hy => ?_) h (by simp)
  have hj := (List.getElem?_eq_some_iff.1 h)
  have hy' := (List.getElem?_eq_some_iff.1 hy)
  obtain ⟨hj1, rfl⟩ := hj
  obtain ⟨hi1, rfl⟩ := hy'
  simp only [beq_eq_false_iff_ne]
  intro he
  exact List.pairwise_iff_getElem.1 hn i j hi1 hj1 hi he.symm
theorem take_snoc' {α : Type} {l : List α} {k : Nat} {y : α} (h : l[k]? = some y) : l.take (k + 1) = l.take k ++ [y] := by
  have hk : k < l.length := (List.getElem?_eq_some_iff.1 h).1
  rw [List.getElem?_eq_getElem hk] at h
  injection h with h
  rw [List.take_succ_eq_append_getElem hk, h]
theorem drop_at' {α : Type} {l : List α} {k : Nat} {y : α} (h : l[k]? = some y) : l.drop k = y :: l.drop (k + 1) := by
  have hk : k < l.length := (List.getElem?_eq_some_iff.1 h).1
  rw [List.getElem?_eq_getElem hk] at h
  injection h with h
  rw [List.drop_eq_getElem_cons hk, h]
theorem lt_of_get {α : Type} {l : List α} {k : Nat} {y : α} (h : l[k]? = some y) : k < l.length := (List.getElem?_eq_some_iff.1 h).1
theorem mem_of_get {α : Type} {l : List α} {k : Nat} {y : α} (h : l[k]? = some y) : y ∈ l := List.mem_of_getElem? h
theorem if_max (a b : Int) : (if a < b then b else a) = max a b := by rw [Int.max_def]; split <;> split <;> omega
theorem if_min (a b : Int) : (if b < a then b else a) = min a b := by rw [Int.min_def]; split <;> split <;> omega
end Go.Proofs.YtnhmdgkhmkeopaaGreatDoor
