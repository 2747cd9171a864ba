/- Arguments opened: a slice of elements, for any kind of element. -/
import Derived.Test.YtkmpddaobncheaaGreatDoorOpen
namespace Go.Proofs.YtkmpddaobncheaaGreatDoor
open Go.RowKit Go.ChangeShapes Go.WideShapes Go.Deep

section
variable {H : Type} {enc : TypeId × Value → H} {w : World} {base : Nat} {held : Bool}
set_option maxRecDepth 100000 in
theorem slice_open {α : Type} [Inhabited α] {ts t : TypeId} {size : Nat} {R : World → Nat → List Value → α → Prop} (hu : (Tryz.prog).underlying ts = some (.slice t)) (hsz : (Tryz.prog).cellsOf t = size) (h0s : 0 < size)
    (helem : ∀ (n : Nat) (cs : List Value) (x : DataW H × List MemPlace), DataW.trod enc Tryz.prog w base (fun _ => true) held n t cs = some x → ∃ b : α, R w w.heap.size cs b)
    {n : Nat} {cs : List Value} {x : DataW H × List MemPlace} (h : DataW.trod enc Tryz.prog w base (fun _ => true) held n ts cs = some x) :
    ∃ (A : Option Addr) (l : List α) (c : Nat), cs = [.slice A l.length c] ∧ SlOf w w.heap.size size R A l ∧ l.length ≤ maxLen ∧ l.length ≤ c := by
  rcases open_slice hu h with ⟨rfl, _⟩ | ⟨a, len, cap, m, n', D, Pl, rfl, _, hl, hm, hmm, _, hi⟩
  · exact ⟨none, [], 0, rfl, SlOf.nil _ _ _ _ _, by simp, by simp⟩
  · have hmm' : m = cap := by simpa using hmm
    have key : ∀ i, i < len → ∃ b : α, ∃ vs : List Value, vs.length = size ∧ R w w.heap.size vs b ∧ ∀ j v, vs[j]? = some v → w.cell? (a.add (i * size + j)) = some v := by
      intro i hlt
      obtain ⟨cs', hc, ht⟩ := hi i (by omega)
      obtain ⟨b, hb⟩ := helem _ _ _ ht
      rw [hsz] at hc
      obtain ⟨_, hcl, hat⟩ := World.cells?_some hc
      refine ⟨b, cs', hcl, hb, fun j v hj => ?_⟩
      have := hat j (by have := lt_of_get hj; omega)
      rw [Go.Deep.add_add, hj] at this
      exact this
    obtain ⟨f, hf⟩ : ∃ f : Nat → α, ∀ i, i < len → ∃ vs : List Value, vs.length = size ∧ R w w.heap.size vs (f i) ∧ ∀ j v, vs[j]? = some v → w.cell? (a.add (i * size + j)) = some v := by
      refine ⟨fun i => if h : i < len then (key i h).choose else default, fun i hi => ?_⟩
      simp only [dif_pos hi]
      exact (key i hi).choose_spec
    refine ⟨some a, (List.range len).map f, cap, by simp, ?_, by simp; omega, by simp; omega⟩
    intro h0
    have h0' : 0 < len := by simpa using h0
    obtain ⟨b, off, spot⟩ := a
    obtain ⟨vs0, hvl, _, hc0⟩ := hf 0 h0'
    obtain ⟨u, hu⟩ := some_of_lt (l := vs0) (j := 0) (by omega)
    have hcell := hc0 0 u hu
    have hspot : spot = none := by simpa [Addr.add] using World.cell?_spot hcell
    subst hspot
    refine ⟨b, off, rfl, World.block_lt_of_cell? w _ (by simpa [Addr.add] using hcell), fun k y hy => ?_⟩
    simp only [List.getElem?_map, Option.map_eq_some_iff] at hy
    obtain ⟨k', hk', rfl⟩ := hy
    have hkl : k < len := by
      have := lt_of_get hk'
      simpa using this
    obtain rfl : k' = k := by
      rw [List.getElem?_range hkl] at hk'
      injection hk' with hk'
      exact hk'.symm
    obtain ⟨vs, h1, h2, h3⟩ := hf k' hkl
    exact ⟨vs, h1, h2, fun j v hj => by have := h3 j v hj; simpa [add_at, Nat.add_assoc] using this⟩
end
end Go.Proofs.YtkmpddaobncheaaGreatDoor
