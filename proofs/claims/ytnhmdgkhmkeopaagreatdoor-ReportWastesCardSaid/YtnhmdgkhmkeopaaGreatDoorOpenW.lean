/- The arguments of ReportWastes: stock, an order, patterns. -/
import Derived.Test.YtnhmdgkhmkeopaaGreatDoorOpenG
import Derived.Test.YtnhmdgkhmkeopaaGreatDoorStock
namespace Go.Proofs.YtnhmdgkhmkeopaaGreatDoor
open Go.RowKit Go.ChangeShapes Go.WideShapes Go.Deep

section
variable {H : Type} {enc : TypeId × Value → H} {w : World} {base : Nat} {held : Bool}
theorem stk_open {n : Nat} {cs : List Value} {x : DataW H × List MemPlace} (h : DataW.trod enc Tryz.prog w base (fun _ => true) held n 65 cs = some x) :
    ∃ b : StkD, Flat encStk w w.heap.size cs b := by
  obtain ⟨xs, m, _, _, hl, hxl, hf⟩ := DataW.trod_struct Tryz.underlying65 h
  have hx2 : xs.length = 2 := hxl
  rw [show (Tryz.prog).cellsOf 65 = 2 by kernel_rfl] at hl
  obtain ⟨v0, v1, rfl⟩ := len2v' hl
  have ci1 : (Tryz.prog).cellsOf 3 = 1 := by kernel_rfl
  have h0 : DataW.trod enc Tryz.prog w base (fun _ => true) held m 3 (([v0, v1].drop 0).take ((Tryz.prog).cellsOf 3)) = xs[0]? := hf 0 _ rfl
  have h1 : DataW.trod enc Tryz.prog w base (fun _ => true) held m 3 (([v0, v1].drop 1).take ((Tryz.prog).cellsOf 3)) = xs[1]? := hf 1 _ rfl
  obtain ⟨y0, e0⟩ := some_of_lt (l := xs) (j := 0) (by omega)
  obtain ⟨y1, e1⟩ := some_of_lt (l := xs) (j := 1) (by omega)
  rw [ci1, e0] at h0
  rw [ci1, e1] at h1
  obtain ⟨n1, hn1, _, _⟩ := DataW.trod_int Tryz.underlying3 h0
  obtain ⟨n2, hn2, _, _⟩ := DataW.trod_int Tryz.underlying3 h1
  simp at hn1 hn2
  exact ⟨⟨n1, n2⟩, by rw [hn1, hn2]; rfl⟩
theorem pie_open {n : Nat} {cs : List Value} {x : DataW H × List MemPlace} (h : DataW.trod enc Tryz.prog w base (fun _ => true) held n 129 cs = some x) :
    ∃ b : PieD, Flat encPie w w.heap.size cs b := by
  obtain ⟨xs, m, _, _, hl, hxl, hf⟩ := DataW.trod_struct Tryz.underlying129 h
  have hx2 : xs.length = 2 := hxl
  rw [show (Tryz.prog).cellsOf 129 = 2 by kernel_rfl] at hl
  obtain ⟨v0, v1, rfl⟩ := len2v' hl
  have ci1 : (Tryz.prog).cellsOf 3 = 1 := by kernel_rfl
  have h0 : DataW.trod enc Tryz.prog w base (fun _ => true) held m 3 (([v0, v1].drop 0).take ((Tryz.prog).cellsOf 3)) = xs[0]? := hf 0 _ rfl
  have h1 : DataW.trod enc Tryz.prog w base (fun _ => true) held m 3 (([v0, v1].drop 1).take ((Tryz.prog).cellsOf 3)) = xs[1]? := hf 1 _ rfl
  obtain ⟨y0, e0⟩ := some_of_lt (l := xs) (j := 0) (by omega)
  obtain ⟨y1, e1⟩ := some_of_lt (l := xs) (j := 1) (by omega)
  rw [ci1, e0] at h0
  rw [ci1, e1] at h1
  obtain ⟨n1, hn1, _, _⟩ := DataW.trod_int Tryz.underlying3 h0
  obtain ⟨n2, hn2, _, _⟩ := DataW.trod_int Tryz.underlying3 h1
  simp at hn1 hn2
  exact ⟨⟨n1, n2⟩, by rw [hn1, hn2]; rfl⟩
theorem pat_open {n : Nat} {cs : List Value} {x : DataW H × List MemPlace} (h : DataW.trod enc Tryz.prog w base (fun _ => true) held n 63 cs = some x) :
    ∃ b : PatD, patR w w.heap.size cs b := by
  obtain ⟨xs, m, _, _, hl, hxl, hf⟩ := DataW.trod_struct Tryz.underlying63 h
  have hx3 : xs.length = 3 := hxl
  rw [show (Tryz.prog).cellsOf 63 = 3 by kernel_rfl] at hl
  obtain ⟨v0, v1, v2, rfl⟩ := len3v' hl
  have ci1 : (Tryz.prog).cellsOf 3 = 1 := by kernel_rfl
  have cs1 : (Tryz.prog).cellsOf 32 = 1 := by kernel_rfl
  have h0 : DataW.trod enc Tryz.prog w base (fun _ => true) held m 3 (([v0, v1, v2].drop 0).take ((Tryz.prog).cellsOf 3)) = xs[0]? := hf 0 _ rfl
  have h1 : DataW.trod enc Tryz.prog w base (fun _ => true) held m 32 (([v0, v1, v2].drop 1).take ((Tryz.prog).cellsOf 32)) = xs[1]? := hf 1 _ rfl
  have h2 : DataW.trod enc Tryz.prog w base (fun _ => true) held m 3 (([v0, v1, v2].drop 2).take ((Tryz.prog).cellsOf 3)) = xs[2]? := hf 2 _ rfl
  obtain ⟨y0, e0⟩ := some_of_lt (l := xs) (j := 0) (by omega)
  obtain ⟨y1, e1⟩ := some_of_lt (l := xs) (j := 1) (by omega)
  obtain ⟨y2, e2⟩ := some_of_lt (l := xs) (j := 2) (by omega)
  rw [ci1, e0] at h0
  rw [cs1, e1] at h1
  rw [ci1, e2] at h2
  obtain ⟨n1, hn1, _, _⟩ := DataW.trod_int Tryz.underlying3 h0
  obtain ⟨A, l, c, hA, hi⟩ := ints_open h1
  obtain ⟨n2, hn2, _, _⟩ := DataW.trod_int Tryz.underlying3 h2
  simp at hn1 hn2 hA
  exact ⟨⟨n1, l, n2⟩, A, c, by rw [hn1, hn2, hA], hi⟩
instance : Inhabited StkD := ⟨⟨0, 0⟩⟩
instance : Inhabited PieD := ⟨⟨0, 0⟩⟩
instance : Inhabited PatD := ⟨⟨0, [], 0⟩⟩
theorem stks_open {n : Nat} {cs : List Value} {x : DataW H × List MemPlace} (h : DataW.trod enc Tryz.prog w base (fun _ => true) held n 51 cs = some x) :
    ∃ (A : Option Addr) (l : List StkD) (c : Nat), cs = [.slice A l.length c] ∧ StksAt w w.heap.size A l ∧ l.length ≤ maxLen ∧ l.length ≤ c :=
  slice_open Tryz.underlying51 (by kernel_rfl) (by decide) (fun _ _ _ h => stk_open h) h
theorem pies_open {n : Nat} {cs : List Value} {x : DataW H × List MemPlace} (h : DataW.trod enc Tryz.prog w base (fun _ => true) held n 52 cs = some x) :
    ∃ (A : Option Addr) (l : List PieD) (c : Nat), cs = [.slice A l.length c] ∧ PiesAt w w.heap.size A l ∧ l.length ≤ maxLen ∧ l.length ≤ c :=
  slice_open Tryz.underlying52 (by kernel_rfl) (by decide) (fun _ _ _ h => pie_open h) h
theorem pats_open {n : Nat} {cs : List Value} {x : DataW H × List MemPlace} (h : DataW.trod enc Tryz.prog w base (fun _ => true) held n 53 cs = some x) :
    ∃ (A : Option Addr) (l : List PatD) (c : Nat), cs = [.slice A l.length c] ∧ PatsAt w w.heap.size A l ∧ l.length ≤ maxLen ∧ l.length ≤ c :=
  slice_open Tryz.underlying53 (by kernel_rfl) (by decide) (fun _ _ _ h => pat_open h) h
end
end Go.Proofs.YtnhmdgkhmkeopaaGreatDoor
