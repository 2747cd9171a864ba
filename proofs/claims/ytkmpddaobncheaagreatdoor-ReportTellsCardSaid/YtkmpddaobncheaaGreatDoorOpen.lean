/- The law's argument: bars as they came in. -/
import Derived.Test.YtkmpddaobncheaaGreatDoorQaa
import Derived.Deep.Slices
import Derived.Deep.Fields
import Derived.ChangeSame
import Derived.ChangeSlices
namespace Go.Proofs.YtkmpddaobncheaaGreatDoor
open Go.RowKit Go.ChangeShapes Go.WideShapes Go.Deep

theorem add_at (b off i : Nat) : (⟨b, off, none⟩ : Addr).add i = ⟨b, off + i, none⟩ := by
  unfold Addr.add
  split <;> simp_all
section
variable {H : Type} {enc : TypeId × Value → H} {w : World} {base : Nat} {held : Bool}
theorem ints_open {n : Nat} {cs : List Value} {x : DataW H × List MemPlace} (h : DataW.trod enc Tryz.prog w base (fun _ => true) held n 66 cs = some x) :
    ∃ (A : Option Addr) (l : List Int) (c : Nat), cs = [.slice A l.length c] ∧ Ints w w.heap.size A l := by
  rcases open_ints Tryz.underlying66 Tryz.underlying3 (by kernel_rfl) h with ⟨rfl, _⟩ | ⟨a, len, cap, zs, rfl, _, hl, hm, hz, _, hcell, _⟩
  · exact ⟨none, [], 0, rfl, SlOf.nil _ _ _ _ _⟩
  · have hz' : zs.length = cap := by simpa using hz
    refine ⟨some a, zs.take len, cap, by simp [hz', Nat.min_eq_left hl], ?_⟩
    intro h0
    rw [List.length_take] at h0
    obtain ⟨b, off, spot⟩ := a
    have hc := hcell 0 (by omega)
    have hspot : spot = none := by simpa [Addr.add] using World.cell?_spot hc
    subst hspot
    refine ⟨b, off, rfl, World.block_lt_of_cell? w _ (by simpa [Addr.add] using hc), fun k y hy => ?_⟩
    have hk : k < len := by
      have := lt_of_get hy
      rw [List.length_take] at this
      omega
    have hy' : zs[k]? = some y := by rw [List.getElem?_take, if_pos hk] at hy; exact hy
    have hck := hcell k (by omega)
    rw [List.getD_eq_getElem?_getD, hy'] at hck
    refine ⟨encInt y, rfl, rfl, fun j v hj => ?_⟩
    cases j with
    | zero =>
      simp [encInt] at hj
      subst hj
      simpa [add_at] using hck
    | succ j => simp [encInt] at hj

theorem len5v {l : List Value} (h : l.length = 5) : ∃ a b c d e, l = [a, b, c, d, e] := by
  rcases l with _ | ⟨a, _ | ⟨b, _ | ⟨c, _ | ⟨d, _ | ⟨e, _ | ⟨f, r⟩⟩⟩⟩⟩⟩ <;> simp at h
  exact ⟨a, b, c, d, e, rfl⟩
theorem some_of_lt {α : Type} {l : List α} {j : Nat} (h : j < l.length) : ∃ y, l[j]? = some y := ⟨_, List.getElem?_eq_getElem h⟩

theorem bar_open {n : Nat} {cs : List Value} {x : DataW H × List MemPlace} (h : DataW.trod enc Tryz.prog w base (fun _ => true) held n 68 cs = some x) :
    ∃ b : BarD, barR w w.heap.size cs b := by
  obtain ⟨xs, m, _, _, hl, hxl, hf⟩ := DataW.trod_struct Tryz.underlying68 h
  have hx5 : xs.length = 5 := hxl
  rw [show (Tryz.prog).cellsOf 68 = 5 by kernel_rfl] at hl
  obtain ⟨v0, v1, v2, v3, v4, rfl⟩ := len5v hl
  have c9 : (Tryz.prog).cellsOf 9 = 1 := by kernel_rfl
  have c3 : (Tryz.prog).cellsOf 3 = 1 := by kernel_rfl
  have c30 : (Tryz.prog).cellsOf 66 = 1 := by kernel_rfl
  have h0 : DataW.trod enc Tryz.prog w base (fun _ => true) held m 9 (([v0, v1, v2, v3, v4].drop 0).take ((Tryz.prog).cellsOf 9)) = xs[0]? := hf 0 _ rfl
  have h1 : DataW.trod enc Tryz.prog w base (fun _ => true) held m 3 (([v0, v1, v2, v3, v4].drop 1).take ((Tryz.prog).cellsOf 3)) = xs[1]? := hf 1 _ rfl
  have h2 : DataW.trod enc Tryz.prog w base (fun _ => true) held m 3 (([v0, v1, v2, v3, v4].drop 2).take ((Tryz.prog).cellsOf 3)) = xs[2]? := hf 2 _ rfl
  have h3 : DataW.trod enc Tryz.prog w base (fun _ => true) held m 3 (([v0, v1, v2, v3, v4].drop 3).take ((Tryz.prog).cellsOf 3)) = xs[3]? := hf 3 _ rfl
  have h4 : DataW.trod enc Tryz.prog w base (fun _ => true) held m 66 (([v0, v1, v2, v3, v4].drop 4).take ((Tryz.prog).cellsOf 66)) = xs[4]? := hf 4 _ rfl
  obtain ⟨y0, e0⟩ := some_of_lt (l := xs) (j := 0) (by omega)
  obtain ⟨y1, e1⟩ := some_of_lt (l := xs) (j := 1) (by omega)
  obtain ⟨y2, e2⟩ := some_of_lt (l := xs) (j := 2) (by omega)
  obtain ⟨y3, e3⟩ := some_of_lt (l := xs) (j := 3) (by omega)
  obtain ⟨y4, e4⟩ := some_of_lt (l := xs) (j := 4) (by omega)
  rw [c9, e0] at h0
  rw [c3, e1] at h1
  rw [c3, e2] at h2
  rw [c3, e3] at h3
  rw [c30, e4] at h4
  obtain ⟨s, hs, _, _⟩ := DataW.trod_string Tryz.underlying9 h0
  obtain ⟨n1, hn1, _, _⟩ := DataW.trod_int Tryz.underlying3 h1
  obtain ⟨n2, hn2, _, _⟩ := DataW.trod_int Tryz.underlying3 h2
  obtain ⟨n3, hn3, _, _⟩ := DataW.trod_int Tryz.underlying3 h3
  obtain ⟨A, l, c, hA, hi⟩ := ints_open h4
  simp at hs hn1 hn2 hn3 hA
  exact ⟨⟨s, n1, n2, n3, l⟩, A, c, by rw [hs, hn1, hn2, hn3, hA], hi⟩

end
end Go.Proofs.YtkmpddaobncheaaGreatDoor
