/- Turns: the images of the three directions, and of points. -/
import Derived.Test.YtkmpddaobncheaaGreatDoorQah
import Derived.Deep.RegionHeld3
import Derived.StillTailTactics
import Derived.Deep.Cut
import Derived.Deep.WholeRow
import Derived.Laws.Tables
namespace Go.Proofs.YtkmpddaobncheaaGreatDoor
open Go.RowKit

theorem Below.setRow {B g : Nat} {a w : World} (h : Below B a w) (hg : B ≤ g) (cs : Array Value) : Below B a (w.setRow g cs) :=
  ⟨h.os, h.tape, h.output, by rw [setRow_size]; exact h.size, fun k hk => (setRow_other w g k cs (by omega)).trans (h.block k hk)⟩
theorem size_alloc' (w : World) (o : Obj) : (w.alloc o).heap.size = w.heap.size + 1 := by simp
theorem bcell {W w1 : World} (hb : Below W.heap.size W w1) : (∀ b o, b < W.heap.size → w1.cell? ⟨b, o, none⟩ = W.cell? ⟨b, o, none⟩) ∧ (∀ b o, b < W.heap.size → w1.frozen? ⟨b, o, none⟩ = W.frozen? ⟨b, o, none⟩) :=
  ⟨fun b o h => hb.cell (p := ⟨b, o, none⟩) h, fun b o h => hb.frozen (p := ⟨b, o, none⟩) h⟩
theorem Below.al {a w : World} (h : Below a.heap.size a w) (o : Obj) : Below a.heap.size a (w.alloc o) := h.alloc h.size o
theorem Below.dr {a w : World} (h : Below a.heap.size a w) : Below a.heap.size a w.drew := Below.drew h
theorem Below.sc {a w : World} (h : Below a.heap.size a w) (g o : Nat) (v : Value) (hg : a.heap.size ≤ g) : Below a.heap.size a (w.setCell ⟨g, o, none⟩ v) := h.setCell hg v
theorem lt_of_cell {w : World} {g o : Nat} {v : Value} (h : w.cell? ⟨g, o, none⟩ = some v) : g < w.heap.size := by
  by_cases hg : g < w.heap.size
  · exact hg
  · exfalso
    have : w.heap[g]? = none := Array.getElem?_eq_none (by omega)
    simp [World.cell?, this] at h
theorem cell_oth {w : World} {g o k i : Nat} {v : Value} {r : Option Value} (hne : k ≠ g ∨ i ≠ o) (h : w.cell? ⟨k, i, none⟩ = r) : (w.setCell ⟨g, o, none⟩ v).cell? ⟨k, i, none⟩ = r :=
  (World.cell?_setCell_other _ _ _ _ (by intro e; simp only [Addr.mk.injEq] at e; omega)).trans h
theorem cell_al {w : World} {o : Obj} {k i : Nat} {r : Option Value} (hk : k < w.heap.size) (h : w.cell? ⟨k, i, none⟩ = r) : (w.alloc o).cell? ⟨k, i, none⟩ = r :=
  ((below_new w o).cell (p := ⟨k, i, none⟩) hk).trans h
theorem cell_fresh {w : World} {c : Array Value} {t : TypeId} {k i : Nat} {v : Value} (hk : k = w.heap.size) (h : c[i]? = some v) : (w.alloc (.cells c t)).cell? ⟨k, i, none⟩ = some v := by
  subst hk
  exact ((Blk.new w t c).cell i).trans h
theorem cell_fresh0 {w : World} {x y z : Value} {t : TypeId} {k : Nat} (hk : k = w.heap.size) : (w.alloc (.cells #[x, y, z] t)).cell? ⟨k, 0, none⟩ = some x := cell_fresh hk rfl
theorem cell_fresh1 {w : World} {x y z : Value} {t : TypeId} {k : Nat} (hk : k = w.heap.size) : (w.alloc (.cells #[x, y, z] t)).cell? ⟨k, 1, none⟩ = some y := cell_fresh hk rfl
theorem cell_fresh2 {w : World} {x y z : Value} {t : TypeId} {k : Nat} (hk : k = w.heap.size) : (w.alloc (.cells #[x, y, z] t)).cell? ⟨k, 2, none⟩ = some z := cell_fresh hk rfl
def Stands (w : World) (g o : Nat) : Prop := ∃ v, w.cell? ⟨g, o, none⟩ = some v
theorem stands_set {w : World} {g o k i : Nat} {v : Value} (h : Stands w k i) : Stands (w.setCell ⟨g, o, none⟩ v) k i := by
  obtain ⟨x, hx⟩ := h
  by_cases e : (⟨k, i, none⟩ : Addr) = ⟨g, o, none⟩
  · rw [← e]
    exact ⟨v, World.cell?_setCell_same w _ _ hx⟩
  · exact ⟨x, (World.cell?_setCell_other _ _ _ _ (by first | exact e | exact fun h => e h.symm)).trans hx⟩
theorem cell_sam {w : World} {g o : Nat} {v : Value} (h : Stands w g o) : (w.setCell ⟨g, o, none⟩ v).cell? ⟨g, o, none⟩ = some v := by
  obtain ⟨x, hx⟩ := h
  exact World.cell?_setCell_same w _ _ hx
theorem stands_of {w : World} {g o : Nat} {v : Value} (h : w.cell? ⟨g, o, none⟩ = some v) : Stands w g o := ⟨v, h⟩
theorem nine_below {B : Nat} {a w : World} {b : Nat} {v0 v1 v2 v3 v4 v5 v6 v7 v8 : Value} (h : Below B a w) (hb : B ≤ b) : Below B a (((((((((w.setCell ⟨b, 0, none⟩ v0).setCell ⟨b, 1, none⟩ v1).setCell ⟨b, 2, none⟩ v2).setCell ⟨b, 3, none⟩ v3).setCell ⟨b, 4, none⟩ v4).setCell ⟨b, 5, none⟩ v5).setCell ⟨b, 6, none⟩ v6).setCell ⟨b, 7, none⟩ v7).setCell ⟨b, 8, none⟩ v8) :=
  ((((((((h.setCell (p := ⟨b, 0, none⟩) hb v0).setCell (p := ⟨b, 1, none⟩) hb v1).setCell (p := ⟨b, 2, none⟩) hb v2).setCell (p := ⟨b, 3, none⟩) hb v3).setCell (p := ⟨b, 4, none⟩) hb v4).setCell (p := ⟨b, 5, none⟩) hb v5).setCell (p := ⟨b, 6, none⟩) hb v6).setCell (p := ⟨b, 7, none⟩) hb v7).setCell (p := ⟨b, 8, none⟩) hb v8
set_option maxHeartbeats 4000000 in
set_option maxRecDepth 100000 in
theorem columns_any (x y : Int) (w : World) (h : turnOk x y = true) :
    Calls Tryz.prog 273 #[.agg #[.int .i64 x, .int .i64 y]] w fun e w' => ∃ a b c : Pt, e = .returned (.agg #[.int .i64 a.1, .int .i64 a.2.1, .int .i64 a.2.2, .int .i64 b.1, .int .i64 b.2.1, .int .i64 b.2.2, .int .i64 c.1, .int .i64 c.2.1, .int .i64 c.2.2]) ∧ Hid (a = unitV x ∧ b = unitV y ∧ c = crossV (unitV x) (unitV y)) ∧ Below w.heap.size w w' := by
  have hx : axis6 x := by
    simp only [turnOk, Bool.and_eq_true] at h
    exact axis6_of h.1.1.1
  have hy : axis6 y := by
    simp only [turnOk, Bool.and_eq_true] at h
    exact axis6_of h.1.1.2
  have HX := hide (fun (w : World) => unit_any x w hx)
  have HY := hide (fun (w : World) => unit_any y w hy)
  have HC := hide (fun (w : World) => cross_any (unitV x) (unitV y) w (unitish_of hx) (unitish_of hy))
  obtain ⟨a, ha⟩ : ∃ a, a = unitV x := ⟨_, rfl⟩
  obtain ⟨b, hb⟩ : ∃ b, b = unitV y := ⟨_, rfl⟩
  obtain ⟨c, hc⟩ : ∃ c, c = crossV (unitV x) (unitV y) := ⟨_, rfl⟩
  rw [← ha] at HX
  rw [← hb] at HY
  rw [← hc, ← ha, ← hb] at HC
  have Hres := hide (And.intro ha (And.intro hb hc))
  clear ha hb hc hx hy h
  obtain ⟨a1, a2, a3⟩ := a
  obtain ⟨b1, b2, b3⟩ := b
  obtain ⟨c1, c2, c3⟩ := c
  simp only [ptV] at HX HY HC
  go_enter Tryz.func273, Tryz.ntmps273
  go_wp2_with fail
  obtain ⟨wa, hwa⟩ : ∃ wa, wa = (w.alloc (.cells #[.int .i64 x, .int .i64 y] 118)).alloc (.cells #[.int .i64 0, .int .i64 0, .int .i64 0, .int .i64 0, .int .i64 0, .int .i64 0, .int .i64 0, .int .i64 0, .int .i64 0] 325) := ⟨_, rfl⟩
  have b0 := (Blk.new w 118 #[.int .i64 x, .int .i64 y]).alloc (.cells #[.int .i64 0, .int .i64 0, .int .i64 0, .int .i64 0, .int .i64 0, .int .i64 0, .int .i64 0, .int .i64 0, .int .i64 0] 325)
  have b1 := Blk.new1 w (.cells #[.int .i64 x, .int .i64 y] 118) 325 #[.int .i64 0, .int .i64 0, .int .i64 0, .int .i64 0, .int .i64 0, .int .i64 0, .int .i64 0, .int .i64 0, .int .i64 0]
  have hw := hide (below_new2 w (.cells #[.int .i64 x, .int .i64 y] 118) (.cells #[.int .i64 0, .int .i64 0, .int .i64 0, .int .i64 0, .int .i64 0, .int .i64 0, .int .i64 0, .int .i64 0, .int .i64 0] 325))
  rw [← hwa] at b0 b1 hw ⊢
  have k0 := b0.cell 0
  have k1 := b0.cell 1
  simp at k0 k1
  have hl0 := b0.lt
  have hl1 := b1.lt
  have B1 := hide b1
  clear hwa b0 b1
  have colS : ∀ W, Below wa.heap.size wa W → W.cell? ⟨w.heap.size, 0, none⟩ = some (.int .i64 x) ∧ W.cell? ⟨w.heap.size, 1, none⟩ = some (.int .i64 y) ∧ Below wa.heap.size wa W := fun W h => ⟨(h.cell hl0).trans k0, (h.cell hl0).trans k1, h⟩
  have ColS := hide colS
  clear colS
  have one3 : ∀ a b c : Int, (#[Value.int .i64 a, Value.int .i64 b, Value.int .i64 c] : Array Value).all (·.oneCell') = true := by
    intro a b c
    simp
    exact ⟨rfl, rfl, rfl⟩
  have One3 := hide one3
  clear one3
  go_cut [3, 4] from 5 (fun s3 s4 W => ∃ g3 g4 : Nat, s3 = .pointer (some ⟨g3, 0, none⟩) ∧ s4 = .pointer (some ⟨g4, 0, none⟩) ∧ wa.heap.size ≤ g3 ∧ wa.heap.size ≤ g4
    ∧ W.cell? ⟨g3, 0, none⟩ = some (.int .i64 a1) ∧ W.cell? ⟨g3, 1, none⟩ = some (.int .i64 a2) ∧ W.cell? ⟨g3, 2, none⟩ = some (.int .i64 a3)
    ∧ W.cell? ⟨g4, 0, none⟩ = some (.int .i64 b1) ∧ W.cell? ⟨g4, 1, none⟩ = some (.int .i64 b2) ∧ W.cell? ⟨g4, 2, none⟩ = some (.int .i64 b3) ∧ Below wa.heap.size wa W)
  case first =>
    go_region_held3 (fun W => W.cell? ⟨w.heap.size, 0, none⟩ = some (.int .i64 x) ∧ W.cell? ⟨w.heap.size, 1, none⟩ = some (.int .i64 y) ∧ Below wa.heap.size wa W)
      (first
        | (refine ColS.out _ ?_; (repeat (first | with_reducible assumption | with_reducible exact Below.refl _ _ | with_reducible apply Below.al | with_reducible apply Below.dr | (with_reducible refine Below.sc ?_ _ _ _ (by (try simp only [size_alloc', World.size_setCell, World.size_drew]); omega)))); done)
        | go_keep)
      (first
        | (go_at_call 300; have hS := ‹_ ∧ _ ∧ Below wa.heap.size wa _›; (first | (with_reducible refine (HX.out _).mono ?_) | (with_reducible refine (HY.out _).mono ?_)); rintro e wz ⟨rfl, hbz⟩; have n4 := fun (c : Array Value) (t : TypeId) (i : Nat) => (Blk.new wa t c).cell i; have n5 := fun (c : Array Value) (t : TypeId) (i : Nat) => (Blk.new wa t c).frozen i; have n2 := fun (o : Obj) (c : Array Value) (t : TypeId) (i : Nat) => (Blk.new1 wa o t c).cell i; have n3 := fun (o : Obj) (c : Array Value) (t : TypeId) (i : Nat) => (Blk.new1 wa o t c).frozen i; have n0 := fun (c c' : Array Value) (t t' : TypeId) (i : Nat) => ((Blk.new wa t c).alloc (.cells c' t')).cell i; have n1 := fun (c c' : Array Value) (t t' : TypeId) (i : Nat) => ((Blk.new wa t c).alloc (.cells c' t')).frozen i; have hB := below_step hS.2.2 hbz (Nat.le_refl _); have hBs := hB.size; have q0 := fun (c c' : Array Value) (t t' : TypeId) (i : Nat) => ((Blk.new wz t c).alloc (.cells c' t')).cell i; have q1 := fun (c c' : Array Value) (t t' : TypeId) (i : Nat) => ((Blk.new wz t c).alloc (.cells c' t')).frozen i; have q2 := fun (o : Obj) (c : Array Value) (t : TypeId) (i : Nat) => (Blk.new1 wz o t c).cell i; have q3 := fun (o : Obj) (c : Array Value) (t : TypeId) (i : Nat) => (Blk.new1 wz o t c).frozen i; have q4 := fun (c : Array Value) (t : TypeId) (i : Nat) => (Blk.new wz t c).cell i; have q5 := fun (c : Array Value) (t : TypeId) (i : Nat) => (Blk.new wz t c).frozen i; obtain ⟨hcz, hfz⟩ := bcell hbz; have hsz := hbz.size; (try simp only [World.size_drew, World.cell?_drew, size_alloc'] at hcz); (try simp only [World.size_drew, World.frozen?_drew, size_alloc'] at hfz); (try simp only [World.size_drew, size_alloc'] at hsz); (try (have hlt9 := Nat.lt_of_lt_of_le (Nat.lt_succ_self _) hsz)); (try (have hlt8 := Nat.lt_of_succ_lt (Nat.lt_of_lt_of_le (Nat.lt_succ_self _) hsz))); (try (have hlt7 : wa.heap.size < wz.heap.size := by omega)); (try (have hlt6 : wa.heap.size + 1 < wz.heap.size := by omega)); have q6 := fun (o : Obj) (b i : Nat) (h : b < wz.heap.size) => (below_new wz o).cell (p := ⟨b, i, none⟩) h; have q7 := fun (o : Obj) (b i : Nat) (h : b < wz.heap.size) => (below_new wz o).frozen (p := ⟨b, i, none⟩) h; have q8 := fun (o o' : Obj) (b i : Nat) (h : b < wz.heap.size) => (below_new2 wz o o').cell (p := ⟨b, i, none⟩) h; have q9 := fun (o o' : Obj) (b i : Nat) (h : b < wz.heap.size) => (below_new2 wz o o').frozen (p := ⟨b, i, none⟩) h))
    go_goals
    all_goals (first | (go_step; go_meet) | (go_step; go_step; go_meet) | (go_wp2_with fail; go_meet))
    all_goals (refine ⟨_, _, rfl, rfl, ?_, ?_, ?_, ?_, ?_, ?_, ?_, ?_, ?_⟩ <;> first | ((repeat (first | with_reducible assumption | with_reducible exact Below.refl _ _ | with_reducible apply Below.al | with_reducible apply Below.dr | (with_reducible refine Below.sc ?_ _ _ _ (by (try simp only [size_alloc', World.size_setCell, World.size_drew]); omega)))); done) | omega | (go_keep; done) | ((repeat (first | with_reducible exact cell_fresh0 (by (first | omega | (simp only [World.size_setCell]; done) | (simp only [size_alloc', World.size_setCell, World.size_drew]; omega))) | with_reducible exact cell_fresh1 (by (first | omega | (simp only [World.size_setCell]; done) | (simp only [size_alloc', World.size_setCell, World.size_drew]; omega))) | with_reducible exact cell_fresh2 (by (first | omega | (simp only [World.size_setCell]; done) | (simp only [size_alloc', World.size_setCell, World.size_drew]; omega))) | with_reducible refine cell_al (by (first | omega | (simp only [World.size_setCell]; done) | (simp only [World.size_setCell]; omega))) ?_ | with_reducible refine cell_oth (by (first | omega | (simp only [size_alloc', World.size_setCell, World.size_drew]; done) | (simp only [size_alloc', World.size_setCell, World.size_drew]; omega))) ?_ | with_reducible refine cell_sam ?_ | with_reducible refine stands_set ?_)); done) | ((repeat (first | with_reducible exact cell_fresh0 (by (first | omega | (simp only [size_alloc', World.size_setCell, World.size_drew]; done) | (simp only [size_alloc', World.size_setCell, World.size_drew]; omega))) | with_reducible exact cell_fresh1 (by (first | omega | (simp only [size_alloc', World.size_setCell, World.size_drew]; done) | (simp only [size_alloc', World.size_setCell, World.size_drew]; omega))) | with_reducible exact cell_fresh2 (by (first | omega | (simp only [size_alloc', World.size_setCell, World.size_drew]; done) | (simp only [size_alloc', World.size_setCell, World.size_drew]; omega))) | with_reducible refine cell_al (by (first | omega | (simp only [World.size_setCell]; done) | (simp only [World.size_setCell]; omega))) ?_ | with_reducible refine cell_oth (by (first | omega | (simp only [size_alloc', World.size_setCell, World.size_drew]; done) | (simp only [size_alloc', World.size_setCell, World.size_drew]; omega))) ?_ | with_reducible refine cell_sam ?_ | with_reducible refine stands_set ?_)); refine stands_of (v := .int .i64 0) ?_; simp [*]; done) | ((repeat (first | with_reducible exact cell_fresh0 (by (first | omega | (simp only [size_alloc', World.size_setCell, World.size_drew]; done) | (simp only [size_alloc', World.size_setCell, World.size_drew]; omega))) | with_reducible exact cell_fresh1 (by (first | omega | (simp only [size_alloc', World.size_setCell, World.size_drew]; done) | (simp only [size_alloc', World.size_setCell, World.size_drew]; omega))) | with_reducible exact cell_fresh2 (by (first | omega | (simp only [size_alloc', World.size_setCell, World.size_drew]; done) | (simp only [size_alloc', World.size_setCell, World.size_drew]; omega))) | with_reducible refine cell_al (by (first | omega | (simp only [size_alloc', World.size_setCell, World.size_drew]; done) | (simp only [size_alloc', World.size_setCell, World.size_drew]; omega))) ?_ | with_reducible refine cell_oth (by (first | omega | (simp only [size_alloc', World.size_setCell, World.size_drew]; done) | (simp only [size_alloc', World.size_setCell, World.size_drew]; omega))) ?_ | with_reducible refine cell_sam ?_ | with_reducible refine stands_set ?_)); refine stands_of (v := .int .i64 0) ((hcz _ _ (by omega)).trans ?_); (repeat (first | with_reducible exact cell_fresh0 (by (first | omega | (simp only [size_alloc']; done) | (simp only [size_alloc']; omega))) | with_reducible exact cell_fresh1 (by (first | omega | (simp only [size_alloc']; done) | (simp only [size_alloc']; omega))) | with_reducible exact cell_fresh2 (by (first | omega | (simp only [size_alloc']; done) | (simp only [size_alloc']; omega))) | with_reducible refine cell_al (by (first | omega | (simp only [size_alloc']; done) | (simp only [size_alloc']; omega))) ?_ | with_reducible refine cell_oth (by (first | omega | (simp only [size_alloc', World.size_setCell, World.size_drew]; done) | (simp only [size_alloc', World.size_setCell, World.size_drew]; omega))) ?_ | with_reducible refine cell_sam ?_ | with_reducible refine stands_set ?_)); done) | ((repeat (first | with_reducible exact cell_fresh0 (by (first | omega | (simp only [size_alloc', World.size_setCell, World.size_drew]; done) | (simp only [size_alloc', World.size_setCell, World.size_drew]; omega))) | with_reducible exact cell_fresh1 (by (first | omega | (simp only [size_alloc', World.size_setCell, World.size_drew]; done) | (simp only [size_alloc', World.size_setCell, World.size_drew]; omega))) | with_reducible exact cell_fresh2 (by (first | omega | (simp only [size_alloc', World.size_setCell, World.size_drew]; done) | (simp only [size_alloc', World.size_setCell, World.size_drew]; omega))) | with_reducible refine cell_al (by (first | omega | (simp only [size_alloc', World.size_setCell, World.size_drew]; done) | (simp only [size_alloc', World.size_setCell, World.size_drew]; omega))) ?_ | with_reducible refine cell_oth (by (first | omega | (simp only [size_alloc', World.size_setCell, World.size_drew]; done) | (simp only [size_alloc', World.size_setCell, World.size_drew]; omega))) ?_ | with_reducible refine cell_sam ?_ | with_reducible refine stands_set ?_)); refine stands_of (v := .int .i64 0) ((hcz _ _ (by omega)).trans ?_); (repeat (first | with_reducible exact cell_fresh0 (by (first | omega | (simp only [size_alloc', World.size_setCell, World.size_drew]; done) | (simp only [size_alloc', World.size_setCell, World.size_drew]; omega))) | with_reducible exact cell_fresh1 (by (first | omega | (simp only [size_alloc', World.size_setCell, World.size_drew]; done) | (simp only [size_alloc', World.size_setCell, World.size_drew]; omega))) | with_reducible exact cell_fresh2 (by (first | omega | (simp only [size_alloc', World.size_setCell, World.size_drew]; done) | (simp only [size_alloc', World.size_setCell, World.size_drew]; omega))) | with_reducible refine cell_al (by (first | omega | (simp only [size_alloc', World.size_setCell, World.size_drew]; done) | (simp only [size_alloc', World.size_setCell, World.size_drew]; omega))) ?_ | with_reducible refine cell_oth (by (first | omega | (simp only [size_alloc', World.size_setCell, World.size_drew]; done) | (simp only [size_alloc', World.size_setCell, World.size_drew]; omega))) ?_ | with_reducible refine cell_sam ?_ | with_reducible refine stands_set ?_)); simp [*]; done) | ((repeat (first | with_reducible exact cell_fresh0 (by (first | omega | (simp only [size_alloc', World.size_setCell, World.size_drew]; done) | (simp only [size_alloc', World.size_setCell, World.size_drew]; omega))) | with_reducible exact cell_fresh1 (by (first | omega | (simp only [size_alloc', World.size_setCell, World.size_drew]; done) | (simp only [size_alloc', World.size_setCell, World.size_drew]; omega))) | with_reducible exact cell_fresh2 (by (first | omega | (simp only [size_alloc', World.size_setCell, World.size_drew]; done) | (simp only [size_alloc', World.size_setCell, World.size_drew]; omega))) | with_reducible refine cell_al (by (first | omega | (simp only [size_alloc', World.size_setCell, World.size_drew]; done) | (simp only [size_alloc', World.size_setCell, World.size_drew]; omega))) ?_ | with_reducible refine cell_oth (by (first | omega | (simp only [size_alloc', World.size_setCell, World.size_drew]; done) | (simp only [size_alloc', World.size_setCell, World.size_drew]; omega))) ?_ | with_reducible refine cell_sam ?_ | with_reducible refine stands_set ?_)); have hq := ‹∀ (b o : Nat), b < wa.heap.size + 1 + 1 → World.cell? _ ⟨b, o, none⟩ = World.cell? ((wa.alloc _).alloc _) ⟨b, o, none⟩›; refine stands_of (v := .int .i64 0) ((hcz _ _ (by omega)).trans ((hq _ _ (by omega)).trans ?_)); (repeat (first | with_reducible exact cell_fresh0 (by (first | omega | (simp only [size_alloc']; done) | (simp only [size_alloc']; omega))) | with_reducible exact cell_fresh1 (by (first | omega | (simp only [size_alloc']; done) | (simp only [size_alloc']; omega))) | with_reducible exact cell_fresh2 (by (first | omega | (simp only [size_alloc']; done) | (simp only [size_alloc']; omega))) | with_reducible refine cell_al (by (first | omega | (simp only [size_alloc']; done) | (simp only [size_alloc']; omega))) ?_ | with_reducible refine cell_oth (by (first | omega | (simp only [size_alloc', World.size_setCell, World.size_drew]; done) | (simp only [size_alloc', World.size_setCell, World.size_drew]; omega))) ?_ | with_reducible refine cell_sam ?_ | with_reducible refine stands_set ?_)); done))
  case rest =>
    obtain ⟨g3, g4, rfl, rfl, hg3, hg4, p0, p1, p2, r0, r1, r2, hBc⟩ := hcut
    obtain ⟨hcc, hfc⟩ := bcell hBc
    have m1 := fun i => B1.out.cell i
    have m2 := fun i => B1.out.frozen i
    have hgs3 : g3 < wc.heap.size := lt_of_cell p0
    have hgs4 : g4 < wc.heap.size := lt_of_cell r0
    have hsc := hBc.size
    have D := hide (show wc.drew.cell? ⟨g3, 0, none⟩ = some (.int .i64 a1) ∧ wc.drew.cell? ⟨g3, 1, none⟩ = some (.int .i64 a2) ∧ wc.drew.cell? ⟨g3, 2, none⟩ = some (.int .i64 a3) ∧ wc.drew.cell? ⟨g4, 0, none⟩ = some (.int .i64 b1) ∧ wc.drew.cell? ⟨g4, 1, none⟩ = some (.int .i64 b2) ∧ wc.drew.cell? ⟨g4, 2, none⟩ = some (.int .i64 b3) from ⟨p0, p1, p2, r0, r1, r2⟩)
    go_wp2_with fail
    go_region_held3 (fun W => W.cell? ⟨g3, 0, none⟩ = some (.int .i64 a1) ∧ W.cell? ⟨g3, 1, none⟩ = some (.int .i64 a2) ∧ W.cell? ⟨g3, 2, none⟩ = some (.int .i64 a3) ∧ W.cell? ⟨g4, 0, none⟩ = some (.int .i64 b1) ∧ W.cell? ⟨g4, 1, none⟩ = some (.int .i64 b2) ∧ W.cell? ⟨g4, 2, none⟩ = some (.int .i64 b3))
      (first
        | (with_reducible exact D.out)
        | (with_reducible exact ⟨(hcz _ _ hgs3).trans p0, (hcz _ _ hgs3).trans p1, (hcz _ _ hgs3).trans p2, (hcz _ _ hgs4).trans r0, (hcz _ _ hgs4).trans r1, (hcz _ _ hgs4).trans r2⟩)
        | (refine ⟨?_, ?_, ?_, ?_, ?_, ?_⟩ <;> ((repeat (first | with_reducible exact cell_fresh0 (by (first | omega | (simp only [size_alloc', World.size_setCell, World.size_drew]; done) | (simp only [size_alloc', World.size_setCell, World.size_drew]; omega))) | with_reducible exact cell_fresh1 (by (first | omega | (simp only [size_alloc', World.size_setCell, World.size_drew]; done) | (simp only [size_alloc', World.size_setCell, World.size_drew]; omega))) | with_reducible exact cell_fresh2 (by (first | omega | (simp only [size_alloc', World.size_setCell, World.size_drew]; done) | (simp only [size_alloc', World.size_setCell, World.size_drew]; omega))) | with_reducible refine cell_al (by (first | omega | (simp only [size_alloc', World.size_setCell, World.size_drew]; done) | (simp only [size_alloc', World.size_setCell, World.size_drew]; omega))) ?_ | with_reducible refine cell_oth (by (first | omega | (simp only [size_alloc', World.size_setCell, World.size_drew]; done) | (simp only [size_alloc', World.size_setCell, World.size_drew]; omega))) ?_ | with_reducible refine cell_sam ?_ | with_reducible refine stands_set ?_)); first | with_reducible exact (hcz _ _ hgs3).trans p0 | with_reducible exact (hcz _ _ hgs3).trans p1 | with_reducible exact (hcz _ _ hgs3).trans p2 | with_reducible exact (hcz _ _ hgs4).trans r0 | with_reducible exact (hcz _ _ hgs4).trans r1 | with_reducible exact (hcz _ _ hgs4).trans r2)))
      (first
        | (go_at_call 301; (with_reducible refine (HC.out _).mono ?_); rintro e wz ⟨rfl, hbz⟩; obtain ⟨hcz, hfz⟩ := bcell hbz; have hsz := hbz.size; (try simp only [World.size_drew, World.cell?_drew] at hcz); (try simp only [World.size_drew, World.frozen?_drew] at hfz); (try simp only [World.size_drew] at hsz); have hlt5 : w.heap.size + 1 < wc.heap.size := by omega))
    go_goals
    have hfin := hide (nine_below (v0 := .int .i64 a1) (v1 := .int .i64 a2) (v2 := .int .i64 a3) (v3 := .int .i64 b1) (v4 := .int .i64 b2) (v5 := .int .i64 b3) (v6 := .int .i64 c1) (v7 := .int .i64 c2) (v8 := .int .i64 c3) (below_step (below_step hw.out hBc (Nat.le_refl _)).drew hbz (Nat.le_refl _)) (Nat.le_succ w.heap.size))
    go_wp2_with fail
    have BZ := ((B1.out.below hBc hl1).drew).below hbz hlt5
    refine bodyPost_ret (results_c rfl rfl (((((((((BZ.set_ 0 _).set_ 1 _).set_ 2 _).set_ 3 _).set_ 4 _).set_ 5 _).set_ 6 _).set_ 7 _).set_ 8 _) Tryz.underlying325 rfl (by kernel_rfl)) rfl ?_
    refine ⟨(a1, a2, a3), (b1, b2, b3), (c1, c2, c3), ?_, Hres, hfin.out⟩
    simp only [List.setIfInBounds_toArray, List.set_cons_zero, List.set_cons_succ]
end Go.Proofs.YtkmpddaobncheaaGreatDoor
