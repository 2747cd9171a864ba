/- The argument of a law on details: a detail as it came in. -/
import Derived.Test.YtkmpddaobncheaaGreatDoorOpenG
import Derived.Test.YtkmpddaobncheaaGreatDoorQau
namespace Go.Proofs.YtkmpddaobncheaaGreatDoor
open Go.RowKit Go.ChangeShapes Go.WideShapes Go.Deep

theorem cons_len {l : List Value} {n : Nat} (h : l.length = n + 1) : ∃ a r, l = a :: r ∧ r.length = n := by
  cases l with
  | nil => simp at h
  | cons a r => exact ⟨a, r, rfl, by simpa using h⟩
theorem len0v {l : List Value} (h : l.length = 0) : l = [] := List.eq_nil_of_length_eq_zero h
instance : Inhabited BoxD := ⟨⟨(0, 0, 0), (0, 0, 0)⟩⟩
instance : Inhabited RunD := ⟨⟨.empty, 0, 0, (0, 0, 0), (0, 0, 0), 0⟩⟩
instance : Inhabited JoinD := ⟨⟨0, 0⟩⟩
instance : Inhabited DemD := ⟨⟨.empty, ⟨(0, 0, 0), (0, 0, 0)⟩, []⟩⟩
instance : Inhabited BarD := ⟨⟨.empty, 0, 0, 0, []⟩⟩
section
variable {H : Type} {enc : TypeId × Value → H} {w : World} {base : Nat} {held : Bool}
set_option maxRecDepth 100000 in
theorem pt_open {n : Nat} {cs : List Value} {x : DataW H × List MemPlace} (h : DataW.trod enc Tryz.prog w base (fun _ => true) held n 49 cs = some x) :
    ∃ p : Pt, cs = encPt p := by
  obtain ⟨xs, m, _, _, hl, hxl, hf⟩ := DataW.trod_struct Tryz.underlying49 h
  have hx : xs.length = 3 := hxl
  rw [show (Tryz.prog).cellsOf 49 = 3 by kernel_rfl] at hl
  obtain ⟨v0, cs0, e0, hl⟩ := cons_len hl
  obtain ⟨v1, cs1, e1, hl⟩ := cons_len hl
  obtain ⟨v2, cs2, e2, hl⟩ := cons_len hl
  have e9 := len0v hl
  subst e9 e2 e1 e0
  have h0 : DataW.trod enc Tryz.prog w base (fun _ => true) held m 3 (([v0, v1, v2].drop 0).take ((Tryz.prog).cellsOf 3)) = xs[0]? := hf 0 _ rfl
  have h1 : DataW.trod enc Tryz.prog w base (fun _ => true) held m 3 (([v0, v1, v2].drop 1).take ((Tryz.prog).cellsOf 3)) = xs[1]? := hf 1 _ rfl
  have h2 : DataW.trod enc Tryz.prog w base (fun _ => true) held m 3 (([v0, v1, v2].drop 2).take ((Tryz.prog).cellsOf 3)) = xs[2]? := hf 2 _ rfl
  obtain ⟨y0, e0⟩ := some_of_lt (l := xs) (j := 0) (by omega)
  rw [show (Tryz.prog).cellsOf 3 = 1 by kernel_rfl, e0] at h0
  obtain ⟨y1, e1⟩ := some_of_lt (l := xs) (j := 1) (by omega)
  rw [show (Tryz.prog).cellsOf 3 = 1 by kernel_rfl, e1] at h1
  obtain ⟨y2, e2⟩ := some_of_lt (l := xs) (j := 2) (by omega)
  rw [show (Tryz.prog).cellsOf 3 = 1 by kernel_rfl, e2] at h2
  obtain ⟨n0, z0, _, _⟩ := DataW.trod_int Tryz.underlying3 h0
  obtain ⟨n1, z1, _, _⟩ := DataW.trod_int Tryz.underlying3 h1
  obtain ⟨n2, z2, _, _⟩ := DataW.trod_int Tryz.underlying3 h2
  simp at z0 z1 z2
  exact ⟨(n0, n1, n2), by rw [z0, z1, z2]; rfl⟩
set_option maxRecDepth 100000 in
theorem box_open {n : Nat} {cs : List Value} {x : DataW H × List MemPlace} (h : DataW.trod enc Tryz.prog w base (fun _ => true) held n 51 cs = some x) :
    ∃ b : BoxD, cs = encB b := by
  obtain ⟨xs, m, _, _, hl, hxl, hf⟩ := DataW.trod_struct Tryz.underlying51 h
  have hx : xs.length = 2 := hxl
  rw [show (Tryz.prog).cellsOf 51 = 6 by kernel_rfl] at hl
  obtain ⟨v0, cs0, e0, hl⟩ := cons_len hl
  obtain ⟨v1, cs1, e1, hl⟩ := cons_len hl
  obtain ⟨v2, cs2, e2, hl⟩ := cons_len hl
  obtain ⟨v3, cs3, e3, hl⟩ := cons_len hl
  obtain ⟨v4, cs4, e4, hl⟩ := cons_len hl
  obtain ⟨v5, cs5, e5, hl⟩ := cons_len hl
  have e9 := len0v hl
  subst e9 e5 e4 e3 e2 e1 e0
  have h0 : DataW.trod enc Tryz.prog w base (fun _ => true) held m 49 (([v0, v1, v2, v3, v4, v5].drop 0).take ((Tryz.prog).cellsOf 49)) = xs[0]? := hf 0 _ rfl
  have h1 : DataW.trod enc Tryz.prog w base (fun _ => true) held m 49 (([v0, v1, v2, v3, v4, v5].drop 3).take ((Tryz.prog).cellsOf 49)) = xs[1]? := hf 1 _ rfl
  obtain ⟨y0, e0⟩ := some_of_lt (l := xs) (j := 0) (by omega)
  rw [show (Tryz.prog).cellsOf 49 = 3 by kernel_rfl, e0] at h0
  obtain ⟨y1, e1⟩ := some_of_lt (l := xs) (j := 1) (by omega)
  rw [show (Tryz.prog).cellsOf 49 = 3 by kernel_rfl, e1] at h1
  obtain ⟨p, z0⟩ := pt_open h0
  obtain ⟨q, z1⟩ := pt_open h1
  simp [encPt] at z0 z1
  exact ⟨⟨p, q⟩, by rw [z0.1, z0.2.1, z0.2.2, z1.1, z1.2.1, z1.2.2]; rfl⟩
set_option maxRecDepth 100000 in
theorem trn_open {n : Nat} {cs : List Value} {x : DataW H × List MemPlace} (h : DataW.trod enc Tryz.prog w base (fun _ => true) held n 118 cs = some x) :
    ∃ a b : Int, cs = [.int .i64 a, .int .i64 b] := by
  obtain ⟨xs, m, _, _, hl, hxl, hf⟩ := DataW.trod_struct Tryz.underlying118 h
  have hx : xs.length = 2 := hxl
  rw [show (Tryz.prog).cellsOf 118 = 2 by kernel_rfl] at hl
  obtain ⟨v0, cs0, e0, hl⟩ := cons_len hl
  obtain ⟨v1, cs1, e1, hl⟩ := cons_len hl
  have e9 := len0v hl
  subst e9 e1 e0
  have h0 : DataW.trod enc Tryz.prog w base (fun _ => true) held m 3 (([v0, v1].drop 0).take ((Tryz.prog).cellsOf 3)) = xs[0]? := hf 0 _ rfl
  have h1 : DataW.trod enc Tryz.prog w base (fun _ => true) held m 3 (([v0, v1].drop 1).take ((Tryz.prog).cellsOf 3)) = xs[1]? := hf 1 _ rfl
  obtain ⟨y0, e0⟩ := some_of_lt (l := xs) (j := 0) (by omega)
  rw [show (Tryz.prog).cellsOf 3 = 1 by kernel_rfl, e0] at h0
  obtain ⟨y1, e1⟩ := some_of_lt (l := xs) (j := 1) (by omega)
  rw [show (Tryz.prog).cellsOf 3 = 1 by kernel_rfl, e1] at h1
  obtain ⟨n0, z0, _, _⟩ := DataW.trod_int Tryz.underlying3 h0
  obtain ⟨n1, z1, _, _⟩ := DataW.trod_int Tryz.underlying3 h1
  simp at z0 z1
  exact ⟨n0, n1, by rw [z0, z1]⟩
set_option maxRecDepth 100000 in
theorem run_open {n : Nat} {cs : List Value} {x : DataW H × List MemPlace} (h : DataW.trod enc Tryz.prog w base (fun _ => true) held n 120 cs = some x) :
    ∃ r : RunD, Flat encRun w w.heap.size cs r := by
  obtain ⟨xs, m, _, _, hl, hxl, hf⟩ := DataW.trod_struct Tryz.underlying120 h
  have hx : xs.length = 5 := hxl
  rw [show (Tryz.prog).cellsOf 120 = 10 by kernel_rfl] at hl
  obtain ⟨v0, cs0, e0, hl⟩ := cons_len hl
  obtain ⟨v1, cs1, e1, hl⟩ := cons_len hl
  obtain ⟨v2, cs2, e2, hl⟩ := cons_len hl
  obtain ⟨v3, cs3, e3, hl⟩ := cons_len hl
  obtain ⟨v4, cs4, e4, hl⟩ := cons_len hl
  obtain ⟨v5, cs5, e5, hl⟩ := cons_len hl
  obtain ⟨v6, cs6, e6, hl⟩ := cons_len hl
  obtain ⟨v7, cs7, e7, hl⟩ := cons_len hl
  obtain ⟨v8, cs8, e8, hl⟩ := cons_len hl
  obtain ⟨v9, cs9, e9, hl⟩ := cons_len hl
  have e9 := len0v hl
  subst e9 e9 e8 e7 e6 e5 e4 e3 e2 e1 e0
  have h0 : DataW.trod enc Tryz.prog w base (fun _ => true) held m 9 (([v0, v1, v2, v3, v4, v5, v6, v7, v8, v9].drop 0).take ((Tryz.prog).cellsOf 9)) = xs[0]? := hf 0 _ rfl
  have h1 : DataW.trod enc Tryz.prog w base (fun _ => true) held m 118 (([v0, v1, v2, v3, v4, v5, v6, v7, v8, v9].drop 1).take ((Tryz.prog).cellsOf 118)) = xs[1]? := hf 1 _ rfl
  have h2 : DataW.trod enc Tryz.prog w base (fun _ => true) held m 49 (([v0, v1, v2, v3, v4, v5, v6, v7, v8, v9].drop 3).take ((Tryz.prog).cellsOf 49)) = xs[2]? := hf 2 _ rfl
  have h3 : DataW.trod enc Tryz.prog w base (fun _ => true) held m 49 (([v0, v1, v2, v3, v4, v5, v6, v7, v8, v9].drop 6).take ((Tryz.prog).cellsOf 49)) = xs[3]? := hf 3 _ rfl
  have h4 : DataW.trod enc Tryz.prog w base (fun _ => true) held m 3 (([v0, v1, v2, v3, v4, v5, v6, v7, v8, v9].drop 9).take ((Tryz.prog).cellsOf 3)) = xs[4]? := hf 4 _ rfl
  obtain ⟨y0, e0⟩ := some_of_lt (l := xs) (j := 0) (by omega)
  rw [show (Tryz.prog).cellsOf 9 = 1 by kernel_rfl, e0] at h0
  obtain ⟨y1, e1⟩ := some_of_lt (l := xs) (j := 1) (by omega)
  rw [show (Tryz.prog).cellsOf 118 = 2 by kernel_rfl, e1] at h1
  obtain ⟨y2, e2⟩ := some_of_lt (l := xs) (j := 2) (by omega)
  rw [show (Tryz.prog).cellsOf 49 = 3 by kernel_rfl, e2] at h2
  obtain ⟨y3, e3⟩ := some_of_lt (l := xs) (j := 3) (by omega)
  rw [show (Tryz.prog).cellsOf 49 = 3 by kernel_rfl, e3] at h3
  obtain ⟨y4, e4⟩ := some_of_lt (l := xs) (j := 4) (by omega)
  rw [show (Tryz.prog).cellsOf 3 = 1 by kernel_rfl, e4] at h4
  obtain ⟨n0, z0, _, _⟩ := DataW.trod_string Tryz.underlying9 h0
  obtain ⟨n4, z4, _, _⟩ := DataW.trod_int Tryz.underlying3 h4
  obtain ⟨a, b, z1⟩ := trn_open h1
  obtain ⟨p, z2⟩ := pt_open h2
  obtain ⟨q, z3⟩ := pt_open h3
  simp [encPt] at z0 z1 z2 z3 z4
  exact ⟨⟨n0, a, b, p, q, n4⟩, by rw [z0, z1.1, z1.2, z2.1, z2.2.1, z2.2.2, z3.1, z3.2.1, z3.2.2, z4]; rfl⟩
set_option maxRecDepth 100000 in
theorem join_open {n : Nat} {cs : List Value} {x : DataW H × List MemPlace} (h : DataW.trod enc Tryz.prog w base (fun _ => true) held n 163 cs = some x) :
    ∃ j : JoinD, Flat encJoin w w.heap.size cs j := by
  obtain ⟨xs, m, _, _, hl, hxl, hf⟩ := DataW.trod_struct Tryz.underlying163 h
  have hx : xs.length = 2 := hxl
  rw [show (Tryz.prog).cellsOf 163 = 2 by kernel_rfl] at hl
  obtain ⟨v0, cs0, e0, hl⟩ := cons_len hl
  obtain ⟨v1, cs1, e1, hl⟩ := cons_len hl
  have e9 := len0v hl
  subst e9 e1 e0
  have h0 : DataW.trod enc Tryz.prog w base (fun _ => true) held m 3 (([v0, v1].drop 0).take ((Tryz.prog).cellsOf 3)) = xs[0]? := hf 0 _ rfl
  have h1 : DataW.trod enc Tryz.prog w base (fun _ => true) held m 3 (([v0, v1].drop 1).take ((Tryz.prog).cellsOf 3)) = xs[1]? := hf 1 _ rfl
  obtain ⟨y0, e0⟩ := some_of_lt (l := xs) (j := 0) (by omega)
  rw [show (Tryz.prog).cellsOf 3 = 1 by kernel_rfl, e0] at h0
  obtain ⟨y1, e1⟩ := some_of_lt (l := xs) (j := 1) (by omega)
  rw [show (Tryz.prog).cellsOf 3 = 1 by kernel_rfl, e1] at h1
  obtain ⟨n0, z0, _, _⟩ := DataW.trod_int Tryz.underlying3 h0
  obtain ⟨n1, z1, _, _⟩ := DataW.trod_int Tryz.underlying3 h1
  simp at z0 z1
  exact ⟨⟨n0, n1⟩, by rw [z0, z1]; rfl⟩
set_option maxRecDepth 100000 in
theorem step_open {n : Nat} {cs : List Value} {x : DataW H × List MemPlace} (h : DataW.trod enc Tryz.prog w base (fun _ => true) held n 112 cs = some x) :
    ∃ j : Int × Int, Flat encStp w w.heap.size cs j := by
  obtain ⟨xs, m, _, _, hl, hxl, hf⟩ := DataW.trod_struct Tryz.underlying112 h
  have hx : xs.length = 2 := hxl
  rw [show (Tryz.prog).cellsOf 112 = 2 by kernel_rfl] at hl
  obtain ⟨v0, cs0, e0, hl⟩ := cons_len hl
  obtain ⟨v1, cs1, e1, hl⟩ := cons_len hl
  have e9 := len0v hl
  subst e9 e1 e0
  have h0 : DataW.trod enc Tryz.prog w base (fun _ => true) held m 3 (([v0, v1].drop 0).take ((Tryz.prog).cellsOf 3)) = xs[0]? := hf 0 _ rfl
  have h1 : DataW.trod enc Tryz.prog w base (fun _ => true) held m 3 (([v0, v1].drop 1).take ((Tryz.prog).cellsOf 3)) = xs[1]? := hf 1 _ rfl
  obtain ⟨y0, e0⟩ := some_of_lt (l := xs) (j := 0) (by omega)
  rw [show (Tryz.prog).cellsOf 3 = 1 by kernel_rfl, e0] at h0
  obtain ⟨y1, e1⟩ := some_of_lt (l := xs) (j := 1) (by omega)
  rw [show (Tryz.prog).cellsOf 3 = 1 by kernel_rfl, e1] at h1
  obtain ⟨n0, z0, _, _⟩ := DataW.trod_int Tryz.underlying3 h0
  obtain ⟨n1, z1, _, _⟩ := DataW.trod_int Tryz.underlying3 h1
  simp at z0 z1
  exact ⟨(n0, n1), by rw [z0, z1]; rfl⟩
theorem boxes_open {n : Nat} {cs : List Value} {x : DataW H × List MemPlace} (h : DataW.trod enc Tryz.prog w base (fun _ => true) held n 22 cs = some x) :
    ∃ (A : Option Addr) (l : List BoxD) (c : Nat), cs = [.slice A l.length c] ∧ BoxesAt w w.heap.size A l ∧ l.length ≤ maxLen ∧ l.length ≤ c :=
  slice_open Tryz.underlying22 (by kernel_rfl) (by decide) (fun _ _ _ h => box_open h) h
theorem runs_open {n : Nat} {cs : List Value} {x : DataW H × List MemPlace} (h : DataW.trod enc Tryz.prog w base (fun _ => true) held n 28 cs = some x) :
    ∃ (A : Option Addr) (l : List RunD) (c : Nat), cs = [.slice A l.length c] ∧ RunsAt w w.heap.size A l ∧ l.length ≤ maxLen ∧ l.length ≤ c :=
  slice_open Tryz.underlying28 (by kernel_rfl) (by decide) (fun _ _ _ h => run_open h) h
theorem joins_open {n : Nat} {cs : List Value} {x : DataW H × List MemPlace} (h : DataW.trod enc Tryz.prog w base (fun _ => true) held n 29 cs = some x) :
    ∃ (A : Option Addr) (l : List JoinD) (c : Nat), cs = [.slice A l.length c] ∧ JoinsAt w w.heap.size A l ∧ l.length ≤ maxLen ∧ l.length ≤ c :=
  slice_open Tryz.underlying29 (by kernel_rfl) (by decide) (fun _ _ _ h => join_open h) h
theorem steps_open {n : Nat} {cs : List Value} {x : DataW H × List MemPlace} (h : DataW.trod enc Tryz.prog w base (fun _ => true) held n 52 cs = some x) :
    ∃ (A : Option Addr) (l : List (Int × Int)) (c : Nat), cs = [.slice A l.length c] ∧ StpsAt w w.heap.size A l ∧ l.length ≤ maxLen ∧ l.length ≤ c :=
  slice_open Tryz.underlying52 (by kernel_rfl) (by decide) (fun _ _ _ h => step_open h) h
theorem barsG_open {n : Nat} {cs : List Value} {x : DataW H × List MemPlace} (h : DataW.trod enc Tryz.prog w base (fun _ => true) held n 27 cs = some x) :
    ∃ (A : Option Addr) (l : List BarD) (c : Nat), cs = [.slice A l.length c] ∧ BarsAt w w.heap.size A l ∧ l.length ≤ maxLen ∧ l.length ≤ c :=
  slice_open Tryz.underlying27 (by kernel_rfl) (by decide) (fun _ _ _ h => bar_open h) h
set_option maxRecDepth 100000 in
theorem dem_open {n : Nat} {cs : List Value} {x : DataW H × List MemPlace} (h : DataW.trod enc Tryz.prog w base (fun _ => true) held n 54 cs = some x) :
    ∃ d : DemD, demR w w.heap.size cs d := by
  obtain ⟨xs, m, _, _, hl, hxl, hf⟩ := DataW.trod_struct Tryz.underlying54 h
  have hx : xs.length = 3 := hxl
  rw [show (Tryz.prog).cellsOf 54 = 8 by kernel_rfl] at hl
  obtain ⟨v0, cs0, e0, hl⟩ := cons_len hl
  obtain ⟨v1, cs1, e1, hl⟩ := cons_len hl
  obtain ⟨v2, cs2, e2, hl⟩ := cons_len hl
  obtain ⟨v3, cs3, e3, hl⟩ := cons_len hl
  obtain ⟨v4, cs4, e4, hl⟩ := cons_len hl
  obtain ⟨v5, cs5, e5, hl⟩ := cons_len hl
  obtain ⟨v6, cs6, e6, hl⟩ := cons_len hl
  obtain ⟨v7, cs7, e7, hl⟩ := cons_len hl
  have e9 := len0v hl
  subst e9 e7 e6 e5 e4 e3 e2 e1 e0
  have h0 : DataW.trod enc Tryz.prog w base (fun _ => true) held m 9 (([v0, v1, v2, v3, v4, v5, v6, v7].drop 0).take ((Tryz.prog).cellsOf 9)) = xs[0]? := hf 0 _ rfl
  have h1 : DataW.trod enc Tryz.prog w base (fun _ => true) held m 51 (([v0, v1, v2, v3, v4, v5, v6, v7].drop 1).take ((Tryz.prog).cellsOf 51)) = xs[1]? := hf 1 _ rfl
  have h2 : DataW.trod enc Tryz.prog w base (fun _ => true) held m 52 (([v0, v1, v2, v3, v4, v5, v6, v7].drop 7).take ((Tryz.prog).cellsOf 52)) = xs[2]? := hf 2 _ rfl
  obtain ⟨y0, e0⟩ := some_of_lt (l := xs) (j := 0) (by omega)
  rw [show (Tryz.prog).cellsOf 9 = 1 by kernel_rfl, e0] at h0
  obtain ⟨y1, e1⟩ := some_of_lt (l := xs) (j := 1) (by omega)
  rw [show (Tryz.prog).cellsOf 51 = 6 by kernel_rfl, e1] at h1
  obtain ⟨y2, e2⟩ := some_of_lt (l := xs) (j := 2) (by omega)
  rw [show (Tryz.prog).cellsOf 52 = 1 by kernel_rfl, e2] at h2
  obtain ⟨n0, z0, _, _⟩ := DataW.trod_string Tryz.underlying9 h0
  obtain ⟨b, z1⟩ := box_open h1
  obtain ⟨A, l, c, z2, hs, _⟩ := steps_open h2
  simp [encB] at z0 z1 z2
  exact ⟨⟨n0, b, l⟩, A, c, by rw [z0, z1.1, z1.2.1, z1.2.2.1, z1.2.2.2.1, z1.2.2.2.2.1, z1.2.2.2.2.2, z2]; rfl, hs⟩
theorem dems_open {n : Nat} {cs : List Value} {x : DataW H × List MemPlace} (h : DataW.trod enc Tryz.prog w base (fun _ => true) held n 30 cs = some x) :
    ∃ (A : Option Addr) (l : List DemD) (c : Nat), cs = [.slice A l.length c] ∧ DemsAt w w.heap.size A l ∧ l.length ≤ maxLen ∧ l.length ≤ c :=
  slice_open Tryz.underlying30 (by kernel_rfl) (by decide) (fun _ _ _ h => dem_open h) h
set_option maxRecDepth 100000 in
theorem rule_open {n : Nat} {cs : List Value} {x : DataW H × List MemPlace} (h : DataW.trod enc Tryz.prog w base (fun _ => true) held n 32 cs = some x) :
    ∃ r : RuleD, cs = [.int .i64 r.num, .int .i64 r.den, .int .i64 r.poorNum, .int .i64 r.poorDen, .int .i64 r.bendNum, .int .i64 r.bendDen, .int .i64 r.lapNum, .int .i64 r.lapDen, .int .i64 r.least] := by
  obtain ⟨xs, m, _, _, hl, hxl, hf⟩ := DataW.trod_struct Tryz.underlying32 h
  have hx : xs.length = 9 := hxl
  rw [show (Tryz.prog).cellsOf 32 = 9 by kernel_rfl] at hl
  obtain ⟨v0, cs0, e0, hl⟩ := cons_len hl
  obtain ⟨v1, cs1, e1, hl⟩ := cons_len hl
  obtain ⟨v2, cs2, e2, hl⟩ := cons_len hl
  obtain ⟨v3, cs3, e3, hl⟩ := cons_len hl
  obtain ⟨v4, cs4, e4, hl⟩ := cons_len hl
  obtain ⟨v5, cs5, e5, hl⟩ := cons_len hl
  obtain ⟨v6, cs6, e6, hl⟩ := cons_len hl
  obtain ⟨v7, cs7, e7, hl⟩ := cons_len hl
  obtain ⟨v8, cs8, e8, hl⟩ := cons_len hl
  have e9 := len0v hl
  subst e9 e8 e7 e6 e5 e4 e3 e2 e1 e0
  have h0 : DataW.trod enc Tryz.prog w base (fun _ => true) held m 3 (([v0, v1, v2, v3, v4, v5, v6, v7, v8].drop 0).take ((Tryz.prog).cellsOf 3)) = xs[0]? := hf 0 _ rfl
  have h1 : DataW.trod enc Tryz.prog w base (fun _ => true) held m 3 (([v0, v1, v2, v3, v4, v5, v6, v7, v8].drop 1).take ((Tryz.prog).cellsOf 3)) = xs[1]? := hf 1 _ rfl
  have h2 : DataW.trod enc Tryz.prog w base (fun _ => true) held m 3 (([v0, v1, v2, v3, v4, v5, v6, v7, v8].drop 2).take ((Tryz.prog).cellsOf 3)) = xs[2]? := hf 2 _ rfl
  have h3 : DataW.trod enc Tryz.prog w base (fun _ => true) held m 3 (([v0, v1, v2, v3, v4, v5, v6, v7, v8].drop 3).take ((Tryz.prog).cellsOf 3)) = xs[3]? := hf 3 _ rfl
  have h4 : DataW.trod enc Tryz.prog w base (fun _ => true) held m 3 (([v0, v1, v2, v3, v4, v5, v6, v7, v8].drop 4).take ((Tryz.prog).cellsOf 3)) = xs[4]? := hf 4 _ rfl
  have h5 : DataW.trod enc Tryz.prog w base (fun _ => true) held m 3 (([v0, v1, v2, v3, v4, v5, v6, v7, v8].drop 5).take ((Tryz.prog).cellsOf 3)) = xs[5]? := hf 5 _ rfl
  have h6 : DataW.trod enc Tryz.prog w base (fun _ => true) held m 3 (([v0, v1, v2, v3, v4, v5, v6, v7, v8].drop 6).take ((Tryz.prog).cellsOf 3)) = xs[6]? := hf 6 _ rfl
  have h7 : DataW.trod enc Tryz.prog w base (fun _ => true) held m 3 (([v0, v1, v2, v3, v4, v5, v6, v7, v8].drop 7).take ((Tryz.prog).cellsOf 3)) = xs[7]? := hf 7 _ rfl
  have h8 : DataW.trod enc Tryz.prog w base (fun _ => true) held m 3 (([v0, v1, v2, v3, v4, v5, v6, v7, v8].drop 8).take ((Tryz.prog).cellsOf 3)) = xs[8]? := hf 8 _ rfl
  obtain ⟨y0, e0⟩ := some_of_lt (l := xs) (j := 0) (by omega)
  rw [show (Tryz.prog).cellsOf 3 = 1 by kernel_rfl, e0] at h0
  obtain ⟨y1, e1⟩ := some_of_lt (l := xs) (j := 1) (by omega)
  rw [show (Tryz.prog).cellsOf 3 = 1 by kernel_rfl, e1] at h1
  obtain ⟨y2, e2⟩ := some_of_lt (l := xs) (j := 2) (by omega)
  rw [show (Tryz.prog).cellsOf 3 = 1 by kernel_rfl, e2] at h2
  obtain ⟨y3, e3⟩ := some_of_lt (l := xs) (j := 3) (by omega)
  rw [show (Tryz.prog).cellsOf 3 = 1 by kernel_rfl, e3] at h3
  obtain ⟨y4, e4⟩ := some_of_lt (l := xs) (j := 4) (by omega)
  rw [show (Tryz.prog).cellsOf 3 = 1 by kernel_rfl, e4] at h4
  obtain ⟨y5, e5⟩ := some_of_lt (l := xs) (j := 5) (by omega)
  rw [show (Tryz.prog).cellsOf 3 = 1 by kernel_rfl, e5] at h5
  obtain ⟨y6, e6⟩ := some_of_lt (l := xs) (j := 6) (by omega)
  rw [show (Tryz.prog).cellsOf 3 = 1 by kernel_rfl, e6] at h6
  obtain ⟨y7, e7⟩ := some_of_lt (l := xs) (j := 7) (by omega)
  rw [show (Tryz.prog).cellsOf 3 = 1 by kernel_rfl, e7] at h7
  obtain ⟨y8, e8⟩ := some_of_lt (l := xs) (j := 8) (by omega)
  rw [show (Tryz.prog).cellsOf 3 = 1 by kernel_rfl, e8] at h8
  obtain ⟨n0, z0, _, _⟩ := DataW.trod_int Tryz.underlying3 h0
  obtain ⟨n1, z1, _, _⟩ := DataW.trod_int Tryz.underlying3 h1
  obtain ⟨n2, z2, _, _⟩ := DataW.trod_int Tryz.underlying3 h2
  obtain ⟨n3, z3, _, _⟩ := DataW.trod_int Tryz.underlying3 h3
  obtain ⟨n4, z4, _, _⟩ := DataW.trod_int Tryz.underlying3 h4
  obtain ⟨n5, z5, _, _⟩ := DataW.trod_int Tryz.underlying3 h5
  obtain ⟨n6, z6, _, _⟩ := DataW.trod_int Tryz.underlying3 h6
  obtain ⟨n7, z7, _, _⟩ := DataW.trod_int Tryz.underlying3 h7
  obtain ⟨n8, z8, _, _⟩ := DataW.trod_int Tryz.underlying3 h8
  simp at z0 z1 z2 z3 z4 z5 z6 z7 z8
  exact ⟨⟨n0, n1, n2, n3, n4, n5, n6, n7, n8⟩, by rw [z0, z1, z2, z3, z4, z5, z6, z7, z8]⟩
set_option maxRecDepth 100000 in
theorem solid_open {n : Nat} {cs : List Value} {x : DataW H × List MemPlace} (h : DataW.trod enc Tryz.prog w base (fun _ => true) held n 24 cs = some x) :
    ∃ (A1 A2 : Option Addr) (l1 l2 : List BoxD) (c1 c2 : Nat), cs = [.slice A1 l1.length c1, .slice A2 l2.length c2] ∧ BoxesAt w w.heap.size A1 l1 ∧ BoxesAt w w.heap.size A2 l2 := by
  obtain ⟨xs, m, _, _, hl, hxl, hf⟩ := DataW.trod_struct Tryz.underlying24 h
  have hx : xs.length = 2 := hxl
  rw [show (Tryz.prog).cellsOf 24 = 2 by kernel_rfl] at hl
  obtain ⟨v0, cs0, e0, hl⟩ := cons_len hl
  obtain ⟨v1, cs1, e1, hl⟩ := cons_len hl
  have e9 := len0v hl
  subst e9 e1 e0
  have h0 : DataW.trod enc Tryz.prog w base (fun _ => true) held m 22 (([v0, v1].drop 0).take ((Tryz.prog).cellsOf 22)) = xs[0]? := hf 0 _ rfl
  have h1 : DataW.trod enc Tryz.prog w base (fun _ => true) held m 22 (([v0, v1].drop 1).take ((Tryz.prog).cellsOf 22)) = xs[1]? := hf 1 _ rfl
  obtain ⟨y0, e0⟩ := some_of_lt (l := xs) (j := 0) (by omega)
  rw [show (Tryz.prog).cellsOf 22 = 1 by kernel_rfl, e0] at h0
  obtain ⟨y1, e1⟩ := some_of_lt (l := xs) (j := 1) (by omega)
  rw [show (Tryz.prog).cellsOf 22 = 1 by kernel_rfl, e1] at h1
  obtain ⟨A1, l1, c1, z0, hs1, _⟩ := boxes_open h0
  obtain ⟨A2, l2, c2, z1, hs2, _⟩ := boxes_open h1
  simp at z0 z1
  exact ⟨A1, A2, l1, l2, c1, c2, by rw [z0, z1], hs1, hs2⟩
set_option maxRecDepth 100000 in
theorem mem_open {n : Nat} {cs : List Value} {x : DataW H × List MemPlace} (h : DataW.trod enc Tryz.prog w base (fun _ => true) held n 26 cs = some x) :
    ∃ (m : MemD) (A1 A2 : Option Addr) (c1 c2 : Nat), cs = [.string m.name, .slice A1 m.boxes.length c1, .slice A2 m.holes.length c2, .int .i64 m.cover, .int .i64 m.aggregate, .int .i64 m.poker] ∧ BoxesAt w w.heap.size A1 m.boxes ∧ BoxesAt w w.heap.size A2 m.holes := by
  obtain ⟨xs, m, _, _, hl, hxl, hf⟩ := DataW.trod_struct Tryz.underlying26 h
  have hx : xs.length = 5 := hxl
  rw [show (Tryz.prog).cellsOf 26 = 6 by kernel_rfl] at hl
  obtain ⟨v0, cs0, e0, hl⟩ := cons_len hl
  obtain ⟨v1, cs1, e1, hl⟩ := cons_len hl
  obtain ⟨v2, cs2, e2, hl⟩ := cons_len hl
  obtain ⟨v3, cs3, e3, hl⟩ := cons_len hl
  obtain ⟨v4, cs4, e4, hl⟩ := cons_len hl
  obtain ⟨v5, cs5, e5, hl⟩ := cons_len hl
  have e9 := len0v hl
  subst e9 e5 e4 e3 e2 e1 e0
  have h0 : DataW.trod enc Tryz.prog w base (fun _ => true) held m 9 (([v0, v1, v2, v3, v4, v5].drop 0).take ((Tryz.prog).cellsOf 9)) = xs[0]? := hf 0 _ rfl
  have h1 : DataW.trod enc Tryz.prog w base (fun _ => true) held m 24 (([v0, v1, v2, v3, v4, v5].drop 1).take ((Tryz.prog).cellsOf 24)) = xs[1]? := hf 1 _ rfl
  have h2 : DataW.trod enc Tryz.prog w base (fun _ => true) held m 3 (([v0, v1, v2, v3, v4, v5].drop 3).take ((Tryz.prog).cellsOf 3)) = xs[2]? := hf 2 _ rfl
  have h3 : DataW.trod enc Tryz.prog w base (fun _ => true) held m 3 (([v0, v1, v2, v3, v4, v5].drop 4).take ((Tryz.prog).cellsOf 3)) = xs[3]? := hf 3 _ rfl
  have h4 : DataW.trod enc Tryz.prog w base (fun _ => true) held m 3 (([v0, v1, v2, v3, v4, v5].drop 5).take ((Tryz.prog).cellsOf 3)) = xs[4]? := hf 4 _ rfl
  obtain ⟨y0, e0⟩ := some_of_lt (l := xs) (j := 0) (by omega)
  rw [show (Tryz.prog).cellsOf 9 = 1 by kernel_rfl, e0] at h0
  obtain ⟨y1, e1⟩ := some_of_lt (l := xs) (j := 1) (by omega)
  rw [show (Tryz.prog).cellsOf 24 = 2 by kernel_rfl, e1] at h1
  obtain ⟨y2, e2⟩ := some_of_lt (l := xs) (j := 2) (by omega)
  rw [show (Tryz.prog).cellsOf 3 = 1 by kernel_rfl, e2] at h2
  obtain ⟨y3, e3⟩ := some_of_lt (l := xs) (j := 3) (by omega)
  rw [show (Tryz.prog).cellsOf 3 = 1 by kernel_rfl, e3] at h3
  obtain ⟨y4, e4⟩ := some_of_lt (l := xs) (j := 4) (by omega)
  rw [show (Tryz.prog).cellsOf 3 = 1 by kernel_rfl, e4] at h4
  obtain ⟨n0, z0, _, _⟩ := DataW.trod_string Tryz.underlying9 h0
  obtain ⟨n2, z2, _, _⟩ := DataW.trod_int Tryz.underlying3 h2
  obtain ⟨n3, z3, _, _⟩ := DataW.trod_int Tryz.underlying3 h3
  obtain ⟨n4, z4, _, _⟩ := DataW.trod_int Tryz.underlying3 h4
  obtain ⟨A1, A2, l1, l2, c1, c2, z1, hs1, hs2⟩ := solid_open h1
  simp at z0 z1 z2 z3 z4
  exact ⟨⟨n0, l1, l2, n2, n3, n4⟩, A1, A2, c1, c2, by rw [z0, z1.1, z1.2, z2, z3, z4], hs1, hs2⟩
set_option maxRecDepth 100000 in
theorem det_open4 {n : Nat} {cs : List Value} {x : DataW H × List MemPlace} (h : DataW.trod enc Tryz.prog w base (fun _ => true) held n 34 cs = some x) :
    ∃ (x : DetD) (s : DetS), cs = (detCells x.mem x.rule s).toList ∧ DetAt w w.heap.size x s ∧ DetLen x s ∧ s.n4 ≤ s.c4 := by
  obtain ⟨xs, m, _, _, hl, hxl, hf⟩ := DataW.trod_struct Tryz.underlying34 h
  have hx : xs.length = 6 := hxl
  rw [show (Tryz.prog).cellsOf 34 = 19 by kernel_rfl] at hl
  obtain ⟨v0, cs0, e0, hl⟩ := cons_len hl
  obtain ⟨v1, cs1, e1, hl⟩ := cons_len hl
  obtain ⟨v2, cs2, e2, hl⟩ := cons_len hl
  obtain ⟨v3, cs3, e3, hl⟩ := cons_len hl
  obtain ⟨v4, cs4, e4, hl⟩ := cons_len hl
  obtain ⟨v5, cs5, e5, hl⟩ := cons_len hl
  obtain ⟨v6, cs6, e6, hl⟩ := cons_len hl
  obtain ⟨v7, cs7, e7, hl⟩ := cons_len hl
  obtain ⟨v8, cs8, e8, hl⟩ := cons_len hl
  obtain ⟨v9, cs9, e9, hl⟩ := cons_len hl
  obtain ⟨v10, cs10, e10, hl⟩ := cons_len hl
  obtain ⟨v11, cs11, e11, hl⟩ := cons_len hl
  obtain ⟨v12, cs12, e12, hl⟩ := cons_len hl
  obtain ⟨v13, cs13, e13, hl⟩ := cons_len hl
  obtain ⟨v14, cs14, e14, hl⟩ := cons_len hl
  obtain ⟨v15, cs15, e15, hl⟩ := cons_len hl
  obtain ⟨v16, cs16, e16, hl⟩ := cons_len hl
  obtain ⟨v17, cs17, e17, hl⟩ := cons_len hl
  obtain ⟨v18, cs18, e18, hl⟩ := cons_len hl
  have e9 := len0v hl
  subst e9 e18 e17 e16 e15 e14 e13 e12 e11 e10 e9 e8 e7 e6 e5 e4 e3 e2 e1 e0
  have h0 : DataW.trod enc Tryz.prog w base (fun _ => true) held m 26 (([v0, v1, v2, v3, v4, v5, v6, v7, v8, v9, v10, v11, v12, v13, v14, v15, v16, v17, v18].drop 0).take ((Tryz.prog).cellsOf 26)) = xs[0]? := hf 0 _ rfl
  have h1 : DataW.trod enc Tryz.prog w base (fun _ => true) held m 27 (([v0, v1, v2, v3, v4, v5, v6, v7, v8, v9, v10, v11, v12, v13, v14, v15, v16, v17, v18].drop 6).take ((Tryz.prog).cellsOf 27)) = xs[1]? := hf 1 _ rfl
  have h2 : DataW.trod enc Tryz.prog w base (fun _ => true) held m 28 (([v0, v1, v2, v3, v4, v5, v6, v7, v8, v9, v10, v11, v12, v13, v14, v15, v16, v17, v18].drop 7).take ((Tryz.prog).cellsOf 28)) = xs[2]? := hf 2 _ rfl
  have h3 : DataW.trod enc Tryz.prog w base (fun _ => true) held m 29 (([v0, v1, v2, v3, v4, v5, v6, v7, v8, v9, v10, v11, v12, v13, v14, v15, v16, v17, v18].drop 8).take ((Tryz.prog).cellsOf 29)) = xs[3]? := hf 3 _ rfl
  have h4 : DataW.trod enc Tryz.prog w base (fun _ => true) held m 30 (([v0, v1, v2, v3, v4, v5, v6, v7, v8, v9, v10, v11, v12, v13, v14, v15, v16, v17, v18].drop 9).take ((Tryz.prog).cellsOf 30)) = xs[4]? := hf 4 _ rfl
  have h5 : DataW.trod enc Tryz.prog w base (fun _ => true) held m 32 (([v0, v1, v2, v3, v4, v5, v6, v7, v8, v9, v10, v11, v12, v13, v14, v15, v16, v17, v18].drop 10).take ((Tryz.prog).cellsOf 32)) = xs[5]? := hf 5 _ rfl
  obtain ⟨y0, e0⟩ := some_of_lt (l := xs) (j := 0) (by omega)
  rw [show (Tryz.prog).cellsOf 26 = 6 by kernel_rfl, e0] at h0
  obtain ⟨y1, e1⟩ := some_of_lt (l := xs) (j := 1) (by omega)
  rw [show (Tryz.prog).cellsOf 27 = 1 by kernel_rfl, e1] at h1
  obtain ⟨y2, e2⟩ := some_of_lt (l := xs) (j := 2) (by omega)
  rw [show (Tryz.prog).cellsOf 28 = 1 by kernel_rfl, e2] at h2
  obtain ⟨y3, e3⟩ := some_of_lt (l := xs) (j := 3) (by omega)
  rw [show (Tryz.prog).cellsOf 29 = 1 by kernel_rfl, e3] at h3
  obtain ⟨y4, e4⟩ := some_of_lt (l := xs) (j := 4) (by omega)
  rw [show (Tryz.prog).cellsOf 30 = 1 by kernel_rfl, e4] at h4
  obtain ⟨y5, e5⟩ := some_of_lt (l := xs) (j := 5) (by omega)
  rw [show (Tryz.prog).cellsOf 32 = 9 by kernel_rfl, e5] at h5
  obtain ⟨mem, A1, A2, c1, c2, z0, hs1, hs2⟩ := mem_open h0
  obtain ⟨A3, l3, c3, z1, hs3, _⟩ := barsG_open h1
  obtain ⟨A4, l4, c4, z2, hs4, _, hk4⟩ := runs_open h2
  obtain ⟨A5, l5, c5, z3, hs5, _⟩ := joins_open h3
  obtain ⟨A6, l6, c6, z4, hs6, _, hk6⟩ := dems_open h4
  obtain ⟨r, z5⟩ := rule_open h5
  simp only [List.drop_succ_cons, List.drop_zero, List.take_succ_cons, List.take_zero, List.cons.injEq, and_true] at z0 z1 z2 z3 z4 z5
  obtain ⟨u0, u1, u2, u3, u4, u5⟩ := z0
  obtain ⟨t0, t1, t2, t3, t4, t5, t6, t7, t8⟩ := z5
  refine ⟨⟨mem, l3, l4, l5, l6, r⟩, ⟨A1, mem.boxes.length, c1, A2, mem.holes.length, c2, A3, l3.length, c3, A4, l4.length, c4, A5, l5.length, c5, A6, l6.length, c6⟩, ?_, ⟨hs1, hs2, hs3, hs4, hs5, hs6⟩, ⟨rfl, rfl, rfl, rfl, rfl, rfl, hk6⟩, hk4⟩
  rw [u0, u1, u2, u3, u4, u5, z1, z2, z3, z4, t0, t1, t2, t3, t4, t5, t6, t7, t8]
theorem det_open {n : Nat} {cs : List Value} {x : DataW H × List MemPlace} (h : DataW.trod enc Tryz.prog w base (fun _ => true) held n 34 cs = some x) :
    ∃ (x : DetD) (s : DetS), cs = (detCells x.mem x.rule s).toList ∧ DetAt w w.heap.size x s ∧ DetLen x s := by
  obtain ⟨x, s, h1, h2, h3, _⟩ := det_open4 h
  exact ⟨x, s, h1, h2, h3⟩
end
end Go.Proofs.YtkmpddaobncheaaGreatDoor
