/- The law's argument: findings as they came in. -/
import Derived.Test.YtnhmdgkhmkeopaaGreatDoorFind
import Derived.Deep.Slices
import Derived.Deep.Fields
import Derived.ChangeSame
import Derived.ChangeSlices
namespace Go.Proofs.YtnhmdgkhmkeopaaGreatDoor
open Go.RowKit Go.ChangeShapes Go.WideShapes Go.Deep

theorem addF_at (b off i : Nat) : (⟨b, off, none⟩ : Addr).add i = ⟨b, off + i, none⟩ := by
  unfold Addr.add
  split <;> simp_all
theorem getF_lt {α : Type} {l : List α} {j : Nat} (h : j < l.length) : ∃ y, l[j]? = some y := ⟨_, List.getElem?_eq_getElem h⟩
theorem len2v {l : List Value} (h : l.length = 2) : ∃ a b, l = [a, b] := by
  rcases l with _ | ⟨a, _ | ⟨b, _ | ⟨c, r⟩⟩⟩ <;> simp at h
  exact ⟨a, b, rfl⟩
section
variable {H : Type} {enc : TypeId × Value → H} {w : World} {base : Nat} {held : Bool}
theorem fin_open {n : Nat} {cs : List Value} {x : DataW H × List MemPlace} (h : DataW.trod enc Tryz.prog w base (fun _ => true) held n 49 cs = some x) :
    ∃ b : FinD, cs = encFin b := by
  obtain ⟨xs, m, _, _, hl, hxl, hf⟩ := DataW.trod_struct Tryz.underlying49 h
  have hx2 : xs.length = 2 := hxl
  rw [show (Tryz.prog).cellsOf 49 = 2 by kernel_rfl] at hl
  obtain ⟨v0, v1, rfl⟩ := len2v hl
  have cs1 : (Tryz.prog).cellsOf 9 = 1 := by kernel_rfl
  have ci1 : (Tryz.prog).cellsOf 3 = 1 := by kernel_rfl
  have h0 : DataW.trod enc Tryz.prog w base (fun _ => true) held m 3 (([v0, v1].drop 0).take ((Tryz.prog).cellsOf 3)) = xs[0]? := hf 0 _ rfl
  have h1 : DataW.trod enc Tryz.prog w base (fun _ => true) held m 9 (([v0, v1].drop 1).take ((Tryz.prog).cellsOf 9)) = xs[1]? := hf 1 _ rfl
  obtain ⟨y0, e0⟩ := getF_lt (l := xs) (j := 0) (by omega)
  obtain ⟨y1, e1⟩ := getF_lt (l := xs) (j := 1) (by omega)
  rw [ci1, e0] at h0
  rw [cs1, e1] at h1
  obtain ⟨n1, hn1, _, _⟩ := DataW.trod_int Tryz.underlying3 h0
  obtain ⟨s, hs, _, _⟩ := DataW.trod_string Tryz.underlying9 h1
  simp at hs hn1
  exact ⟨⟨n1, s⟩, by rw [hn1, hs]; rfl⟩

theorem fins_open {n : Nat} {cs : List Value} {x : DataW H × List MemPlace} (h : DataW.trod enc Tryz.prog w base (fun _ => true) held n 35 cs = some x) :
    ∃ (A : Option Addr) (l : List FinD) (c : Nat), cs = [.slice A l.length c] ∧ FinsAt w w.heap.size A l := by
  rcases open_slice Tryz.underlying35 h with ⟨rfl, _⟩ | ⟨a, len, cap, m, n', D, Pl, rfl, _, hl, hm, hmm, _, hi⟩
  · exact ⟨none, [], 0, rfl, SlOf.nil _ _ _ _ _⟩
  · have hmm' : m = cap := by simpa using hmm
    have key : ∀ i, i < len → ∃ b : FinD, ∀ j v, (encFin b)[j]? = some v → w.cell? (a.add (i * 2 + j)) = some v := by
      intro i hlt
      obtain ⟨cs', hc, ht⟩ := hi i (by omega)
      obtain ⟨b, hb⟩ := fin_open ht
      rw [show (Tryz.prog).cellsOf 49 = 2 by kernel_rfl] at hc
      obtain ⟨_, hcl, hat⟩ := World.cells?_some hc
      refine ⟨b, fun j v hj => ?_⟩
      rw [← hb] at hj
      have := hat j (by have := lt_of_get hj; omega)
      rw [Go.Deep.add_add, hj] at this
      exact this
    obtain ⟨f, hf⟩ : ∃ f : Nat → FinD, ∀ i, i < len → ∀ j v, (encFin (f i))[j]? = some v → w.cell? (a.add (i * 2 + j)) = some v := by
      refine ⟨fun i => if h : i < len then (key i h).choose else ⟨0, .empty⟩, fun i hi => ?_⟩
      simp only [dif_pos hi]
      exact (key i hi).choose_spec
    refine ⟨some a, (List.range len).map f, cap, by simp, ?_⟩
    intro h0
    have h0' : 0 < len := by simpa using h0
    obtain ⟨b, off, spot⟩ := a
    have hcell := hf 0 h0' 0 _ rfl
    have hspot : spot = none := by simpa [Addr.add] using World.cell?_spot hcell
    subst hspot
    refine ⟨b, off, rfl, World.block_lt_of_cell? w _ (by simpa [Addr.add] using hcell), fun k y hy => ?_⟩
    simp only [List.getElem?_map, Option.map_eq_some_iff] at hy
    obtain ⟨k', hk', rfl⟩ := hy
    have hkl : k < len := by
      have := lt_of_get hk'
      simpa using this
    obtain rfl : k' = k := by
      rw [List.getElem?_range hkl] at hk'
      injection hk' with hk'
      exact hk'.symm
    exact ⟨encFin (f k'), rfl, rfl, fun j v hj => by have := hf k' hkl j v hj; simpa [addF_at, Nat.add_assoc] using this⟩
end
end Go.Proofs.YtnhmdgkhmkeopaaGreatDoor
