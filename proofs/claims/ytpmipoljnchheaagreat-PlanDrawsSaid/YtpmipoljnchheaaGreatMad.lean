/- Turns: the images of the three directions, and of points. Points that are near. Plain laws of the geometry of laid bars. No walk stands here. The image of a point. -/
import Derived.Test.YtpmipoljnchheaaGreatMac
import Derived.Deep.RegionHeld3
import Derived.StillTailTactics
import Derived.Deep.Cut
import Derived.Deep.WholeRow
import Derived.Laws.Tables
import Derived.Test.YtpmipoljnchheaaGreatMab
import Derived.BigRegion
namespace Go.Proofs.YtpmipoljnchheaaGreat
open Go.RowKit

theorem drew_heap' (w : World) : w.drew.heap = w.heap := rfl
theorem Blk.row_same {w : World} {g : Nat} {t : TypeId} {cs : Array Value} (h : Blk w g t cs) (cs' : Array Value) : Blk (w.setRow g cs') g t cs' := setRow_heap w g cs cs' t (0, 0) h
theorem Blk.row_other {w : World} {g k : Nat} {t : TypeId} {cs : Array Value} (h : Blk w g t cs) (hk : g ≠ k) (cs' : Array Value) : Blk (w.setRow k cs') g t cs := (setRow_other w k g cs' hk).trans h
theorem Below.setRow {B g : Nat} {a w : World} (h : Below B a w) (hg : B ≤ g) (cs : Array Value) : Below B a (w.setRow g cs) :=
  ⟨h.os, h.tape, h.output, by rw [setRow_size]; exact h.size, fun k hk => (setRow_other w g k cs (by omega)).trans (h.block k hk)⟩
/-- A whole row stored, in a region that draws its order. -/
theorem step_store_row {P : Program} {w : World} {ops : Array Oper} {o : Oper} {a : Act} {K : Act → World → Prop} {Q : Exit → Act → World → Prop} {E : Prop} (hgd : o.guard = none) (ty : TypeId) (x y : Operand) (ho : o.op = .store ty x y)
    (g : Nat) (cells : Array Value) (hx : a.eval x = .pointer (some ⟨g, 0, none⟩)) (hy : a.eval y = .agg cells) (t : TypeId) (old : Array Value) (hg : Blk w g t old) (hi : (P.info? ty).map (·.size) = some cells.size)
    (hold : old.size = cells.size) (h1 : cells.all (·.oneCell') = true) (h : K (a.put o.dst undef) (w.setRow g cells)) : if Region.wanted o (yielded ops a.tmps) = true then Oper.wp P o a w K Q else E := by
  have hw : Region.wanted o (yielded ops a.tmps) = true := by simp [Region.wanted, hgd]
  rw [if_pos hw]
  exact wp_store_row ty x y ho g cells hx hy t old hg hi hold h1 h
theorem size_alloc' (w : World) (o : Obj) : (w.alloc o).heap.size = w.heap.size + 1 := by simp
theorem bcell {W w1 : World} (hb : Below W.heap.size W w1) : (∀ b o, b < W.heap.size → w1.cell? ⟨b, o, none⟩ = W.cell? ⟨b, o, none⟩) ∧ (∀ b o, b < W.heap.size → w1.frozen? ⟨b, o, none⟩ = W.frozen? ⟨b, o, none⟩) :=
  ⟨fun b o h => hb.cell (p := ⟨b, o, none⟩) h, fun b o h => hb.frozen (p := ⟨b, o, none⟩) h⟩
theorem Below.al {a w : World} (h : Below a.heap.size a w) (o : Obj) : Below a.heap.size a (w.alloc o) := h.alloc h.size o
theorem Below.dr {a w : World} (h : Below a.heap.size a w) : Below a.heap.size a w.drew := Below.drew h
theorem Below.sc {a w : World} (h : Below a.heap.size a w) (g o : Nat) (v : Value) (hg : a.heap.size ≤ g) : Below a.heap.size a (w.setCell ⟨g, o, none⟩ v) := h.setCell hg v
theorem lt_of_cell {w : World} {g o : Nat} {v : Value} (h : w.cell? ⟨g, o, none⟩ = some v) : g < w.heap.size := by
  by_cases hg : g < w.heap.size
  · exact hg
  · exfalso
    have : w.heap[g]? = none := Array.getElem?_eq_none (by omega)
    simp [World.cell?, this] at h
theorem cell_oth {w : World} {g o k i : Nat} {v : Value} {r : Option Value} (hne : k ≠ g ∨ i ≠ o) (h : w.cell? ⟨k, i, none⟩ = r) : (w.setCell ⟨g, o, none⟩ v).cell? ⟨k, i, none⟩ = r :=
  (World.cell?_setCell_other _ _ _ _ (by intro e; simp only [Addr.mk.injEq] at e; omega)).trans h
theorem cell_al {w : World} {o : Obj} {k i : Nat} {r : Option Value} (hk : k < w.heap.size) (h : w.cell? ⟨k, i, none⟩ = r) : (w.alloc o).cell? ⟨k, i, none⟩ = r :=
  ((below_new w o).cell (p := ⟨k, i, none⟩) hk).trans h
theorem cell_fresh {w : World} {c : Array Value} {t : TypeId} {k i : Nat} {v : Value} (hk : k = w.heap.size) (h : c[i]? = some v) : (w.alloc (.cells c t)).cell? ⟨k, i, none⟩ = some v := by
  subst hk
  exact ((Blk.new w t c).cell i).trans h
theorem cell_fresh0 {w : World} {x y z : Value} {t : TypeId} {k : Nat} (hk : k = w.heap.size) : (w.alloc (.cells #[x, y, z] t)).cell? ⟨k, 0, none⟩ = some x := cell_fresh hk rfl
theorem cell_fresh1 {w : World} {x y z : Value} {t : TypeId} {k : Nat} (hk : k = w.heap.size) : (w.alloc (.cells #[x, y, z] t)).cell? ⟨k, 1, none⟩ = some y := cell_fresh hk rfl
theorem cell_fresh2 {w : World} {x y z : Value} {t : TypeId} {k : Nat} (hk : k = w.heap.size) : (w.alloc (.cells #[x, y, z] t)).cell? ⟨k, 2, none⟩ = some z := cell_fresh hk rfl
def Stands (w : World) (g o : Nat) : Prop := ∃ v, w.cell? ⟨g, o, none⟩ = some v
theorem stands_set {w : World} {g o k i : Nat} {v : Value} (h : Stands w k i) : Stands (w.setCell ⟨g, o, none⟩ v) k i := by
  obtain ⟨x, hx⟩ := h
  by_cases e : (⟨k, i, none⟩ : Addr) = ⟨g, o, none⟩
  · rw [← e]
    exact ⟨v, World.cell?_setCell_same w _ _ hx⟩
  · exact ⟨x, (World.cell?_setCell_other _ _ _ _ (by first | exact e | exact fun h => e h.symm)).trans hx⟩
theorem cell_sam {w : World} {g o : Nat} {v : Value} (h : Stands w g o) : (w.setCell ⟨g, o, none⟩ v).cell? ⟨g, o, none⟩ = some v := by
  obtain ⟨x, hx⟩ := h
  exact World.cell?_setCell_same w _ _ hx
theorem stands_of {w : World} {g o : Nat} {v : Value} (h : w.cell? ⟨g, o, none⟩ = some v) : Stands w g o := ⟨v, h⟩
theorem nine_below {B : Nat} {a w : World} {b : Nat} {v0 v1 v2 v3 v4 v5 v6 v7 v8 : Value} (h : Below B a w) (hb : B ≤ b) : Below B a (((((((((w.setCell ⟨b, 0, none⟩ v0).setCell ⟨b, 1, none⟩ v1).setCell ⟨b, 2, none⟩ v2).setCell ⟨b, 3, none⟩ v3).setCell ⟨b, 4, none⟩ v4).setCell ⟨b, 5, none⟩ v5).setCell ⟨b, 6, none⟩ v6).setCell ⟨b, 7, none⟩ v7).setCell ⟨b, 8, none⟩ v8) :=
  ((((((((h.setCell (p := ⟨b, 0, none⟩) hb v0).setCell (p := ⟨b, 1, none⟩) hb v1).setCell (p := ⟨b, 2, none⟩) hb v2).setCell (p := ⟨b, 3, none⟩) hb v3).setCell (p := ⟨b, 4, none⟩) hb v4).setCell (p := ⟨b, 5, none⟩) hb v5).setCell (p := ⟨b, 6, none⟩) hb v6).setCell (p := ⟨b, 7, none⟩) hb v7).setCell (p := ⟨b, 8, none⟩) hb v8
set_option maxHeartbeats 4000000 in
set_option maxRecDepth 100000 in
theorem columns_any (x y : Int) (w : World) (h : turnOk x y = true) :
    Calls Tryz.prog 193 #[.agg #[.int .i64 x, .int .i64 y]] w fun e w' => ∃ a b c : Pt, e = .returned (.agg #[.int .i64 a.1, .int .i64 a.2.1, .int .i64 a.2.2, .int .i64 b.1, .int .i64 b.2.1, .int .i64 b.2.2, .int .i64 c.1, .int .i64 c.2.1, .int .i64 c.2.2]) ∧ Hid (a = unitV x ∧ b = unitV y ∧ c = crossV (unitV x) (unitV y)) ∧ Below w.heap.size w w' := by
  have hx : axis6 x := by
    simp only [turnOk, Bool.and_eq_true] at h
    exact axis6_of h.1.1.1
  have hy : axis6 y := by
    simp only [turnOk, Bool.and_eq_true] at h
    exact axis6_of h.1.1.2
  have HX := hide (fun (w : World) => unit_any x w hx)
  have HY := hide (fun (w : World) => unit_any y w hy)
  have HC := hide (fun (w : World) => cross_any (unitV x) (unitV y) w (unitish_of hx) (unitish_of hy))
  obtain ⟨a, ha⟩ : ∃ a, a = unitV x := ⟨_, rfl⟩
  obtain ⟨b, hb⟩ : ∃ b, b = unitV y := ⟨_, rfl⟩
  obtain ⟨c, hc⟩ : ∃ c, c = crossV (unitV x) (unitV y) := ⟨_, rfl⟩
  rw [← ha] at HX
  rw [← hb] at HY
  rw [← hc, ← ha, ← hb] at HC
  have Hres := hide (And.intro ha (And.intro hb hc))
  clear ha hb hc hx hy h
  obtain ⟨a1, a2, a3⟩ := a
  obtain ⟨b1, b2, b3⟩ := b
  obtain ⟨c1, c2, c3⟩ := c
  simp only [ptV] at HX HY HC
  go_enter Tryz.func193, Tryz.ntmps193
  go_wp2_with fail
  obtain ⟨wa, hwa⟩ : ∃ wa, wa = (w.alloc (.cells #[.int .i64 x, .int .i64 y] 77)).alloc (.cells #[.int .i64 0, .int .i64 0, .int .i64 0, .int .i64 0, .int .i64 0, .int .i64 0, .int .i64 0, .int .i64 0, .int .i64 0] 241) := ⟨_, rfl⟩
  have b0 := (Blk.new w 77 #[.int .i64 x, .int .i64 y]).alloc (.cells #[.int .i64 0, .int .i64 0, .int .i64 0, .int .i64 0, .int .i64 0, .int .i64 0, .int .i64 0, .int .i64 0, .int .i64 0] 241)
  have b1 := Blk.new1 w (.cells #[.int .i64 x, .int .i64 y] 77) 241 #[.int .i64 0, .int .i64 0, .int .i64 0, .int .i64 0, .int .i64 0, .int .i64 0, .int .i64 0, .int .i64 0, .int .i64 0]
  have hw := hide (below_new2 w (.cells #[.int .i64 x, .int .i64 y] 77) (.cells #[.int .i64 0, .int .i64 0, .int .i64 0, .int .i64 0, .int .i64 0, .int .i64 0, .int .i64 0, .int .i64 0, .int .i64 0] 241))
  rw [← hwa] at b0 b1 hw ⊢
  have k0 := b0.cell 0
  have k1 := b0.cell 1
  simp at k0 k1
  have hl0 := b0.lt
  have hl1 := b1.lt
  have B1 := hide b1
  clear hwa b0 b1
  have colS : ∀ W, Below wa.heap.size wa W → W.cell? ⟨w.heap.size, 0, none⟩ = some (.int .i64 x) ∧ W.cell? ⟨w.heap.size, 1, none⟩ = some (.int .i64 y) ∧ Below wa.heap.size wa W := fun W h => ⟨(h.cell hl0).trans k0, (h.cell hl0).trans k1, h⟩
  have ColS := hide colS
  clear colS
  have one3 : ∀ a b c : Int, (#[Value.int .i64 a, Value.int .i64 b, Value.int .i64 c] : Array Value).all (·.oneCell') = true := by
    intro a b c
    simp
    exact ⟨rfl, rfl, rfl⟩
  have One3 := hide one3
  clear one3
  go_cut [3, 4] from 5 (fun s3 s4 W => ∃ g3 g4 : Nat, s3 = .pointer (some ⟨g3, 0, none⟩) ∧ s4 = .pointer (some ⟨g4, 0, none⟩) ∧ wa.heap.size ≤ g3 ∧ wa.heap.size ≤ g4
    ∧ W.cell? ⟨g3, 0, none⟩ = some (.int .i64 a1) ∧ W.cell? ⟨g3, 1, none⟩ = some (.int .i64 a2) ∧ W.cell? ⟨g3, 2, none⟩ = some (.int .i64 a3)
    ∧ W.cell? ⟨g4, 0, none⟩ = some (.int .i64 b1) ∧ W.cell? ⟨g4, 1, none⟩ = some (.int .i64 b2) ∧ W.cell? ⟨g4, 2, none⟩ = some (.int .i64 b3) ∧ Below wa.heap.size wa W)
  case first =>
    go_region_held3 (fun W => W.cell? ⟨w.heap.size, 0, none⟩ = some (.int .i64 x) ∧ W.cell? ⟨w.heap.size, 1, none⟩ = some (.int .i64 y) ∧ Below wa.heap.size wa W)
      (first
        | (refine ColS.out _ ?_; (repeat (first | with_reducible assumption | with_reducible exact Below.refl _ _ | with_reducible apply Below.al | with_reducible apply Below.dr | (with_reducible refine Below.sc ?_ _ _ _ (by (try simp only [size_alloc', World.size_setCell, World.size_drew]); omega)))); done)
        | go_keep)
      (first
        | (go_at_call 194; have hS := ‹_ ∧ _ ∧ Below wa.heap.size wa _›; (first | (with_reducible refine (HX.out _).mono ?_) | (with_reducible refine (HY.out _).mono ?_)); rintro e wz ⟨rfl, hbz⟩; have n4 := fun (c : Array Value) (t : TypeId) (i : Nat) => (Blk.new wa t c).cell i; have n5 := fun (c : Array Value) (t : TypeId) (i : Nat) => (Blk.new wa t c).frozen i; have n2 := fun (o : Obj) (c : Array Value) (t : TypeId) (i : Nat) => (Blk.new1 wa o t c).cell i; have n3 := fun (o : Obj) (c : Array Value) (t : TypeId) (i : Nat) => (Blk.new1 wa o t c).frozen i; have n0 := fun (c c' : Array Value) (t t' : TypeId) (i : Nat) => ((Blk.new wa t c).alloc (.cells c' t')).cell i; have n1 := fun (c c' : Array Value) (t t' : TypeId) (i : Nat) => ((Blk.new wa t c).alloc (.cells c' t')).frozen i; have hB := below_step hS.2.2 hbz (Nat.le_refl _); have hBs := hB.size; have q0 := fun (c c' : Array Value) (t t' : TypeId) (i : Nat) => ((Blk.new wz t c).alloc (.cells c' t')).cell i; have q1 := fun (c c' : Array Value) (t t' : TypeId) (i : Nat) => ((Blk.new wz t c).alloc (.cells c' t')).frozen i; have q2 := fun (o : Obj) (c : Array Value) (t : TypeId) (i : Nat) => (Blk.new1 wz o t c).cell i; have q3 := fun (o : Obj) (c : Array Value) (t : TypeId) (i : Nat) => (Blk.new1 wz o t c).frozen i; have q4 := fun (c : Array Value) (t : TypeId) (i : Nat) => (Blk.new wz t c).cell i; have q5 := fun (c : Array Value) (t : TypeId) (i : Nat) => (Blk.new wz t c).frozen i; obtain ⟨hcz, hfz⟩ := bcell hbz; have hsz := hbz.size; (try simp only [World.size_drew, World.cell?_drew, size_alloc'] at hcz); (try simp only [World.size_drew, World.frozen?_drew, size_alloc'] at hfz); (try simp only [World.size_drew, size_alloc'] at hsz); (try (have hlt9 := Nat.lt_of_lt_of_le (Nat.lt_succ_self _) hsz)); (try (have hlt8 := Nat.lt_of_succ_lt (Nat.lt_of_lt_of_le (Nat.lt_succ_self _) hsz))); (try (have hlt7 : wa.heap.size < wz.heap.size := by omega)); (try (have hlt6 : wa.heap.size + 1 < wz.heap.size := by omega)); have q6 := fun (o : Obj) (b i : Nat) (h : b < wz.heap.size) => (below_new wz o).cell (p := ⟨b, i, none⟩) h; have q7 := fun (o : Obj) (b i : Nat) (h : b < wz.heap.size) => (below_new wz o).frozen (p := ⟨b, i, none⟩) h; have q8 := fun (o o' : Obj) (b i : Nat) (h : b < wz.heap.size) => (below_new2 wz o o').cell (p := ⟨b, i, none⟩) h; have q9 := fun (o o' : Obj) (b i : Nat) (h : b < wz.heap.size) => (below_new2 wz o o').frozen (p := ⟨b, i, none⟩) h))
    go_goals
    all_goals (first | (go_step; go_meet) | (go_step; go_step; go_meet) | (go_wp2_with fail; go_meet))
    all_goals (refine ⟨_, _, rfl, rfl, ?_, ?_, ?_, ?_, ?_, ?_, ?_, ?_, ?_⟩ <;> first | ((repeat (first | with_reducible assumption | with_reducible exact Below.refl _ _ | with_reducible apply Below.al | with_reducible apply Below.dr | (with_reducible refine Below.sc ?_ _ _ _ (by (try simp only [size_alloc', World.size_setCell, World.size_drew]); omega)))); done) | omega | (go_keep; done) | ((repeat (first | with_reducible exact cell_fresh0 (by (first | omega | (simp only [size_alloc', World.size_setCell, World.size_drew]; done) | (simp only [size_alloc', World.size_setCell, World.size_drew]; omega))) | with_reducible exact cell_fresh1 (by (first | omega | (simp only [size_alloc', World.size_setCell, World.size_drew]; done) | (simp only [size_alloc', World.size_setCell, World.size_drew]; omega))) | with_reducible exact cell_fresh2 (by (first | omega | (simp only [size_alloc', World.size_setCell, World.size_drew]; done) | (simp only [size_alloc', World.size_setCell, World.size_drew]; omega))) | with_reducible refine cell_al (by (first | omega | (simp only [size_alloc', World.size_setCell, World.size_drew]; done) | (simp only [size_alloc', World.size_setCell, World.size_drew]; omega))) ?_ | with_reducible refine cell_oth (by (first | omega | (simp only [size_alloc', World.size_setCell, World.size_drew]; done) | (simp only [size_alloc', World.size_setCell, World.size_drew]; omega))) ?_ | with_reducible refine cell_sam ?_ | with_reducible refine stands_set ?_)); done) | ((repeat (first | with_reducible exact cell_fresh0 (by (first | omega | (simp only [size_alloc', World.size_setCell, World.size_drew]; done) | (simp only [size_alloc', World.size_setCell, World.size_drew]; omega))) | with_reducible exact cell_fresh1 (by (first | omega | (simp only [size_alloc', World.size_setCell, World.size_drew]; done) | (simp only [size_alloc', World.size_setCell, World.size_drew]; omega))) | with_reducible exact cell_fresh2 (by (first | omega | (simp only [size_alloc', World.size_setCell, World.size_drew]; done) | (simp only [size_alloc', World.size_setCell, World.size_drew]; omega))) | with_reducible refine cell_al (by (first | omega | (simp only [size_alloc', World.size_setCell, World.size_drew]; done) | (simp only [size_alloc', World.size_setCell, World.size_drew]; omega))) ?_ | with_reducible refine cell_oth (by (first | omega | (simp only [size_alloc', World.size_setCell, World.size_drew]; done) | (simp only [size_alloc', World.size_setCell, World.size_drew]; omega))) ?_ | with_reducible refine cell_sam ?_ | with_reducible refine stands_set ?_)); refine stands_of (v := .int .i64 0) ?_; simp [*]; done) | ((repeat (first | with_reducible exact cell_fresh0 (by (first | omega | (simp only [size_alloc', World.size_setCell, World.size_drew]; done) | (simp only [size_alloc', World.size_setCell, World.size_drew]; omega))) | with_reducible exact cell_fresh1 (by (first | omega | (simp only [size_alloc', World.size_setCell, World.size_drew]; done) | (simp only [size_alloc', World.size_setCell, World.size_drew]; omega))) | with_reducible exact cell_fresh2 (by (first | omega | (simp only [size_alloc', World.size_setCell, World.size_drew]; done) | (simp only [size_alloc', World.size_setCell, World.size_drew]; omega))) | with_reducible refine cell_al (by (first | omega | (simp only [size_alloc', World.size_setCell, World.size_drew]; done) | (simp only [size_alloc', World.size_setCell, World.size_drew]; omega))) ?_ | with_reducible refine cell_oth (by (first | omega | (simp only [size_alloc', World.size_setCell, World.size_drew]; done) | (simp only [size_alloc', World.size_setCell, World.size_drew]; omega))) ?_ | with_reducible refine cell_sam ?_ | with_reducible refine stands_set ?_)); refine stands_of (v := .int .i64 0) ((hcz _ _ (by omega)).trans ?_); (repeat (first | with_reducible exact cell_fresh0 (by (first | omega | (simp only [size_alloc', World.size_setCell, World.size_drew]; done) | (simp only [size_alloc', World.size_setCell, World.size_drew]; omega))) | with_reducible exact cell_fresh1 (by (first | omega | (simp only [size_alloc', World.size_setCell, World.size_drew]; done) | (simp only [size_alloc', World.size_setCell, World.size_drew]; omega))) | with_reducible exact cell_fresh2 (by (first | omega | (simp only [size_alloc', World.size_setCell, World.size_drew]; done) | (simp only [size_alloc', World.size_setCell, World.size_drew]; omega))) | with_reducible refine cell_al (by (first | omega | (simp only [size_alloc', World.size_setCell, World.size_drew]; done) | (simp only [size_alloc', World.size_setCell, World.size_drew]; omega))) ?_ | with_reducible refine cell_oth (by (first | omega | (simp only [size_alloc', World.size_setCell, World.size_drew]; done) | (simp only [size_alloc', World.size_setCell, World.size_drew]; omega))) ?_ | with_reducible refine cell_sam ?_ | with_reducible refine stands_set ?_)); done) | ((repeat (first | with_reducible exact cell_fresh0 (by (first | omega | (simp only [size_alloc', World.size_setCell, World.size_drew]; done) | (simp only [size_alloc', World.size_setCell, World.size_drew]; omega))) | with_reducible exact cell_fresh1 (by (first | omega | (simp only [size_alloc', World.size_setCell, World.size_drew]; done) | (simp only [size_alloc', World.size_setCell, World.size_drew]; omega))) | with_reducible exact cell_fresh2 (by (first | omega | (simp only [size_alloc', World.size_setCell, World.size_drew]; done) | (simp only [size_alloc', World.size_setCell, World.size_drew]; omega))) | with_reducible refine cell_al (by (first | omega | (simp only [size_alloc', World.size_setCell, World.size_drew]; done) | (simp only [size_alloc', World.size_setCell, World.size_drew]; omega))) ?_ | with_reducible refine cell_oth (by (first | omega | (simp only [size_alloc', World.size_setCell, World.size_drew]; done) | (simp only [size_alloc', World.size_setCell, World.size_drew]; omega))) ?_ | with_reducible refine cell_sam ?_ | with_reducible refine stands_set ?_)); refine stands_of (v := .int .i64 0) ((hcz _ _ (by omega)).trans ?_); (repeat (first | with_reducible exact cell_fresh0 (by (first | omega | (simp only [size_alloc', World.size_setCell, World.size_drew]; done) | (simp only [size_alloc', World.size_setCell, World.size_drew]; omega))) | with_reducible exact cell_fresh1 (by (first | omega | (simp only [size_alloc', World.size_setCell, World.size_drew]; done) | (simp only [size_alloc', World.size_setCell, World.size_drew]; omega))) | with_reducible exact cell_fresh2 (by (first | omega | (simp only [size_alloc', World.size_setCell, World.size_drew]; done) | (simp only [size_alloc', World.size_setCell, World.size_drew]; omega))) | with_reducible refine cell_al (by (first | omega | (simp only [size_alloc', World.size_setCell, World.size_drew]; done) | (simp only [size_alloc', World.size_setCell, World.size_drew]; omega))) ?_ | with_reducible refine cell_oth (by (first | omega | (simp only [size_alloc', World.size_setCell, World.size_drew]; done) | (simp only [size_alloc', World.size_setCell, World.size_drew]; omega))) ?_ | with_reducible refine cell_sam ?_ | with_reducible refine stands_set ?_)); simp [*]; done) | ((repeat (first | with_reducible exact cell_fresh0 (by (first | omega | (simp only [size_alloc', World.size_setCell, World.size_drew]; done) | (simp only [size_alloc', World.size_setCell, World.size_drew]; omega))) | with_reducible exact cell_fresh1 (by (first | omega | (simp only [size_alloc', World.size_setCell, World.size_drew]; done) | (simp only [size_alloc', World.size_setCell, World.size_drew]; omega))) | with_reducible exact cell_fresh2 (by (first | omega | (simp only [size_alloc', World.size_setCell, World.size_drew]; done) | (simp only [size_alloc', World.size_setCell, World.size_drew]; omega))) | with_reducible refine cell_al (by (first | omega | (simp only [size_alloc', World.size_setCell, World.size_drew]; done) | (simp only [size_alloc', World.size_setCell, World.size_drew]; omega))) ?_ | with_reducible refine cell_oth (by (first | omega | (simp only [size_alloc', World.size_setCell, World.size_drew]; done) | (simp only [size_alloc', World.size_setCell, World.size_drew]; omega))) ?_ | with_reducible refine cell_sam ?_ | with_reducible refine stands_set ?_)); have hq := ‹∀ (b o : Nat), b < wa.heap.size + 1 + 1 → World.cell? _ ⟨b, o, none⟩ = World.cell? ((wa.alloc _).alloc _) ⟨b, o, none⟩›; refine stands_of (v := .int .i64 0) ((hcz _ _ (by omega)).trans ((hq _ _ (by omega)).trans ?_)); (repeat (first | with_reducible exact cell_fresh0 (by (first | omega | (simp only [size_alloc', World.size_setCell, World.size_drew]; done) | (simp only [size_alloc', World.size_setCell, World.size_drew]; omega))) | with_reducible exact cell_fresh1 (by (first | omega | (simp only [size_alloc', World.size_setCell, World.size_drew]; done) | (simp only [size_alloc', World.size_setCell, World.size_drew]; omega))) | with_reducible exact cell_fresh2 (by (first | omega | (simp only [size_alloc', World.size_setCell, World.size_drew]; done) | (simp only [size_alloc', World.size_setCell, World.size_drew]; omega))) | with_reducible refine cell_al (by (first | omega | (simp only [size_alloc', World.size_setCell, World.size_drew]; done) | (simp only [size_alloc', World.size_setCell, World.size_drew]; omega))) ?_ | with_reducible refine cell_oth (by (first | omega | (simp only [size_alloc', World.size_setCell, World.size_drew]; done) | (simp only [size_alloc', World.size_setCell, World.size_drew]; omega))) ?_ | with_reducible refine cell_sam ?_ | with_reducible refine stands_set ?_)); done))
  case rest =>
    obtain ⟨g3, g4, rfl, rfl, hg3, hg4, p0, p1, p2, r0, r1, r2, hBc⟩ := hcut
    obtain ⟨hcc, hfc⟩ := bcell hBc
    have m1 := fun i => B1.out.cell i
    have m2 := fun i => B1.out.frozen i
    have hgs3 : g3 < wc.heap.size := lt_of_cell p0
    have hgs4 : g4 < wc.heap.size := lt_of_cell r0
    have hsc := hBc.size
    have D := hide (show wc.drew.cell? ⟨g3, 0, none⟩ = some (.int .i64 a1) ∧ wc.drew.cell? ⟨g3, 1, none⟩ = some (.int .i64 a2) ∧ wc.drew.cell? ⟨g3, 2, none⟩ = some (.int .i64 a3) ∧ wc.drew.cell? ⟨g4, 0, none⟩ = some (.int .i64 b1) ∧ wc.drew.cell? ⟨g4, 1, none⟩ = some (.int .i64 b2) ∧ wc.drew.cell? ⟨g4, 2, none⟩ = some (.int .i64 b3) from ⟨p0, p1, p2, r0, r1, r2⟩)
    go_wp2_with fail
    go_region_held3 (fun W => W.cell? ⟨g3, 0, none⟩ = some (.int .i64 a1) ∧ W.cell? ⟨g3, 1, none⟩ = some (.int .i64 a2) ∧ W.cell? ⟨g3, 2, none⟩ = some (.int .i64 a3) ∧ W.cell? ⟨g4, 0, none⟩ = some (.int .i64 b1) ∧ W.cell? ⟨g4, 1, none⟩ = some (.int .i64 b2) ∧ W.cell? ⟨g4, 2, none⟩ = some (.int .i64 b3))
      (first
        | (with_reducible exact D.out)
        | (with_reducible exact ⟨(hcz _ _ hgs3).trans p0, (hcz _ _ hgs3).trans p1, (hcz _ _ hgs3).trans p2, (hcz _ _ hgs4).trans r0, (hcz _ _ hgs4).trans r1, (hcz _ _ hgs4).trans r2⟩)
        | (refine ⟨?_, ?_, ?_, ?_, ?_, ?_⟩ <;> ((repeat (first | with_reducible exact cell_fresh0 (by (first | omega | (simp only [size_alloc', World.size_setCell, World.size_drew]; done) | (simp only [size_alloc', World.size_setCell, World.size_drew]; omega))) | with_reducible exact cell_fresh1 (by (first | omega | (simp only [size_alloc', World.size_setCell, World.size_drew]; done) | (simp only [size_alloc', World.size_setCell, World.size_drew]; omega))) | with_reducible exact cell_fresh2 (by (first | omega | (simp only [size_alloc', World.size_setCell, World.size_drew]; done) | (simp only [size_alloc', World.size_setCell, World.size_drew]; omega))) | with_reducible refine cell_al (by (first | omega | (simp only [size_alloc', World.size_setCell, World.size_drew]; done) | (simp only [size_alloc', World.size_setCell, World.size_drew]; omega))) ?_ | with_reducible refine cell_oth (by (first | omega | (simp only [size_alloc', World.size_setCell, World.size_drew]; done) | (simp only [size_alloc', World.size_setCell, World.size_drew]; omega))) ?_ | with_reducible refine cell_sam ?_ | with_reducible refine stands_set ?_)); first | with_reducible exact (hcz _ _ hgs3).trans p0 | with_reducible exact (hcz _ _ hgs3).trans p1 | with_reducible exact (hcz _ _ hgs3).trans p2 | with_reducible exact (hcz _ _ hgs4).trans r0 | with_reducible exact (hcz _ _ hgs4).trans r1 | with_reducible exact (hcz _ _ hgs4).trans r2)))
      (first
        | (go_at_call 195; (with_reducible refine (HC.out _).mono ?_); rintro e wz ⟨rfl, hbz⟩; obtain ⟨hcz, hfz⟩ := bcell hbz; have hsz := hbz.size; (try simp only [World.size_drew, World.cell?_drew, size_alloc'] at hcz); (try simp only [World.size_drew, World.frozen?_drew, size_alloc'] at hfz); (try simp only [World.size_drew, size_alloc'] at hsz); have hlt5 : w.heap.size + 1 < wc.heap.size := by omega))
    go_goals
    have hfin := hide (nine_below (v0 := .int .i64 a1) (v1 := .int .i64 a2) (v2 := .int .i64 a3) (v3 := .int .i64 b1) (v4 := .int .i64 b2) (v5 := .int .i64 b3) (v6 := .int .i64 c1) (v7 := .int .i64 c2) (v8 := .int .i64 c3) (below_step (below_step hw.out hBc (Nat.le_refl _)).drew hbz (Nat.le_refl _)) (Nat.le_succ w.heap.size))
    go_wp2_with fail
    have BZ := ((B1.out.below hBc hl1).drew).below hbz hlt5
    refine bodyPost_ret (results_c rfl rfl (((((((((BZ.set_ 0 _).set_ 1 _).set_ 2 _).set_ 3 _).set_ 4 _).set_ 5 _).set_ 6 _).set_ 7 _).set_ 8 _) Tryz.underlying241 rfl (by kernel_rfl)) rfl ?_
    refine ⟨(a1, a2, a3), (b1, b2, b3), (c1, c2, c3), ?_, Hres, hfin.out⟩
    simp only [List.setIfInBounds_toArray, List.set_cons_zero, List.set_cons_succ]
end Go.Proofs.YtpmipoljnchheaaGreat
namespace Go.Proofs.YtpmipoljnchheaaGreat
open Go.RowKit

def inR (v : Int) : Bool := within v (-1048576) 1048576
theorem inR_no {v : Int} (h : inR v = false) : decide (v < -1048576) = true ∨ (decide (v < -1048576) = false ∧ decide (1048576 < v) = true) := by
  simp only [inR, within, Bool.and_eq_false_iff, decide_eq_false_iff_not] at h
  simp only [decide_eq_true_eq, decide_eq_false_iff_not]
  omega
theorem inR_yes {v : Int} (h : inR v = true) : decide (v < -1048576) = false ∧ decide (1048576 < v) = false := by
  simp only [inR, within, Bool.and_eq_true, decide_eq_true_eq] at h
  simp only [decide_eq_false_iff_not]
  omega
theorem near_list (x y z : Int) : nearBy 1048576 (x, y, z) = [x, y, z].all inR := by
  simp [nearBy, inR, Bool.and_assoc]
set_option maxHeartbeats 1000000 in
theorem near_any (A : Option Addr) (l : List Pt) (n c : Nat) (w : World) {B : Nat} (h : PtsAt w B A l) (hB : B ≤ w.heap.size) (hn : n = l.length) (hm : n ≤ 300000) :
    Calls Tryz.prog 177 #[.slice A n c] w fun e w' => e = .returned (.bool (l.all (nearBy 1048576))) ∧ Below w.heap.size w w' := by
  have Hs := hide h
  have hn' := hide hn
  have Hok := hide (show l.all (nearBy 1048576) = (l.drop 0).all (nearBy 1048576) from rfl)
  obtain ⟨rb, hrb⟩ : ∃ rb, rb = l.all (nearBy 1048576) := ⟨_, rfl⟩
  rw [← hrb] at Hok ⊢
  clear h hn hrb
  go_enter Tryz.func177, Tryz.ntmps177
  go_wp2_with fail
  go_loopw [9] (fun i wr => ∃ k : Nat, k ≤ n ∧ i = .int .i64 k ∧ Hid (rb = (l.drop k).all (nearBy 1048576)) ∧ Below w.heap.size w wr) (fun i _ => n - (intOf i).toNat)
  case atStart => exact ⟨0, Nat.zero_le _, rfl, Hok, Below.refl _ _⟩
  case round =>
    obtain ⟨k, hk, rfl, hq, hbr⟩ := hrel
    by_cases hlt : k < n
    · obtain ⟨b, off, x, hA, hbl, hx, k0, k1, k2⟩ := PtsAt.get (k := k) (Hs.out.carry (Flat.carried _) (hbr.mono hB) (Nat.le_refl B)) (by rw [← hn'.out]; exact hlt)
      obtain ⟨x1, x2, x3⟩ := x
      have Hq := hide (hq.out.trans (by rw [drop_at' hx, List.all_cons, near_list]))
      obtain ⟨rest, hrest⟩ : ∃ r, r = (l.drop (k + 1)).all (nearBy 1048576) := ⟨_, rfl⟩
      rw [← hrest] at Hq
      have Hrest := hide hrest
      clear hrest
      simp only at k0 k1 k2
      subst hA
      clear hx hq hbl
      have i0 := at3_0
      have i1 := at3_1
      have i2 := at3_2
      go_wp2_with fail
      go_loopw [20] (fun i wr' => ∃ j : Nat, j ≤ 3 ∧ i = .int .i64 j ∧ Hid (rb = ((([x1, x2, x3] : List Int).drop j).all inR && rest)) ∧ Below w.heap.size w wr') (fun i _ => 3 - (intOf i).toNat)
      case atStart => exact ⟨0, Nat.zero_le _, rfl, Hq, hbr.alloc hbr.size _⟩
      case round =>
        obtain ⟨j, hj, rfl, hjq, hbj⟩ := hrel
        rcases j with _ | _ | _ | _ | j
        · cases hv : inR x1
          · have hres := hide (show rb = false by rw [hjq.out]; simp [List.all_cons, hv])
            have hcase := inR_no hv
            clear hv hjq
            rcases hcase with q0 | ⟨q0, q1⟩
            all_goals
              go_wp2_with fail
              go_ret
              exact ⟨ret_bool hres.out.symm, hbj⟩
          · have hn2 := hide (show rb = ((([x1, x2, x3] : List Int).drop 1).all inR && rest) by rw [hjq.out]; simp [List.all_cons, hv])
            obtain ⟨q0, q1⟩ := inR_yes hv
            clear hv hjq
            go_wp2_with fail
            go_roundw
            case rel => exact ⟨1, by omega, by go_num, hn2, hbj⟩
            case measure => simp [intOf]
        · cases hv : inR x2
          · have hres := hide (show rb = false by rw [hjq.out]; simp [List.all_cons, hv])
            have hcase := inR_no hv
            clear hv hjq
            rcases hcase with q0 | ⟨q0, q1⟩
            all_goals
              go_wp2_with fail
              go_ret
              exact ⟨ret_bool hres.out.symm, hbj⟩
          · have hn2 := hide (show rb = ((([x1, x2, x3] : List Int).drop 2).all inR && rest) by rw [hjq.out]; simp [List.all_cons, hv])
            obtain ⟨q0, q1⟩ := inR_yes hv
            clear hv hjq
            go_wp2_with fail
            go_roundw
            case rel => exact ⟨2, by omega, by go_num, hn2, hbj⟩
            case measure => simp [intOf]
        · cases hv : inR x3
          · have hres := hide (show rb = false by rw [hjq.out]; simp [List.all_cons, hv])
            have hcase := inR_no hv
            clear hv hjq
            rcases hcase with q0 | ⟨q0, q1⟩
            all_goals
              go_wp2_with fail
              go_ret
              exact ⟨ret_bool hres.out.symm, hbj⟩
          · have hn2 := hide (show rb = ((([x1, x2, x3] : List Int).drop 3).all inR && rest) by rw [hjq.out]; simp [List.all_cons, hv])
            obtain ⟨q0, q1⟩ := inR_yes hv
            clear hv hjq
            go_wp2_with fail
            go_roundw
            case rel => exact ⟨3, by omega, by go_num, hn2, hbj⟩
            case measure => simp [intOf]
        · have hend := hide (show rb = rest by rw [hjq.out]; rfl)
          go_wp2_with fail
          go_roundw
          case rel => exact ⟨k + 1, by omega, by go_num, hide (hend.out.trans Hrest.out), hbj⟩
          case measure => simp [intOf]; omega
        · omega
    · obtain rfl : k = n := by omega
      have hfull := hide (show rb = true by rw [hq.out, hn'.out, List.drop_length]; rfl)
      go_wp2_with fail
      go_ret
      exact ⟨ret_bool hfull.out.symm, hbr⟩
end Go.Proofs.YtpmipoljnchheaaGreat
namespace Go.Proofs.YtpmipoljnchheaaGreat
open Go.RowKit

theorem nearBy_iff {m : Int} {p : Pt} : nearBy m p = true ↔ (-m ≤ p.1 ∧ p.1 ≤ m) ∧ (-m ≤ p.2.1 ∧ p.2.1 ≤ m) ∧ (-m ≤ p.2.2 ∧ p.2.2 ≤ m) := by
  simp [nearBy, within, and_assoc]
theorem nearBy_mono {m n : Int} {p : Pt} (h : nearBy m p = true) (hm : m ≤ n) : nearBy n p = true := by
  rw [nearBy_iff] at h ⊢
  omega
theorem pathFrom_len (o : Pt) (l : List Pt) : (pathFrom o l).length = l.length + 1 := by
  induction l generalizing o with
  | nil => rfl
  | cons m r ih => rw [pathFrom, List.length_cons, ih, List.length_cons]
theorem pathOf_len (x : BarD) : (pathOf x).length = (legsOf x.code).length + 1 := by rw [pathOf, pathFrom_len, movesOf, List.length_map]
theorem legsOf_len (code : Int) : (legsOf code).length ≤ 6 := by
  unfold legsOf
  repeat' split
  all_goals decide
/-- The path of a valid bar stays near. -/
theorem path_near {x : BarD} (h : barOk x = true) : ∀ p ∈ pathOf x, nearBy 524288 p = true := by
  have hg := barGood_of h
  have hc : legsOf x.code ≠ [] := by
    intro he
    exact hg.legs (by simp [legLens, he])
  rw [barOk_pre] at h
  simp only [Bool.and_eq_true, barPre, decide_eq_true_eq] at h
  obtain ⟨⟨_, h5⟩, h6⟩ := h
  obtain ⟨mark, size, count, code, dims⟩ := x
  simp only at h5 h6 hc
  clear hg
  rcases code_cases hc with rfl | rfl | rfl | rfl | rfl | rfl | rfl | rfl
  all_goals
    simp [dimsN, legsOf] at h5
    rcases dims with _ | ⟨a, _ | ⟨b, _ | ⟨c, _ | ⟨d, _ | ⟨e, _ | ⟨f, r⟩⟩⟩⟩⟩⟩ <;> simp at h5 <;> (try omega)
    all_goals
      simp [fits] at h6
      intro p hp
      simp [pathOf, movesOf, legsOf, ptOf, legDim, pathFrom, addP] at hp
      rw [nearBy_iff]
      rcases hp with rfl | rfl | rfl | rfl | rfl | rfl | rfl <;> simp <;> omega
theorem mul_between {k c s : Int} (h0 : 0 ≤ k) (h1 : k ≤ c) : (0 ≤ s → 0 ≤ k * s ∧ k * s ≤ c * s) ∧ (s ≤ 0 → c * s ≤ k * s ∧ k * s ≤ 0) := by
  refine ⟨fun hs => ⟨Int.mul_nonneg h0 hs, Int.mul_le_mul_of_nonneg_right h1 hs⟩, fun hs => ⟨?_, ?_⟩⟩
  · have := Int.mul_le_mul_of_nonneg_right h1 (show 0 ≤ -s by omega)
    rw [Int.mul_neg, Int.mul_neg] at this
    omega
  · have := Int.mul_nonneg h0 (show 0 ≤ -s by omega)
    rw [Int.mul_neg] at this
    omega
theorem between {k c s p m : Int} (h0 : 0 ≤ k) (h1 : k ≤ c) (a : -m ≤ p + 0 * s ∧ p + 0 * s ≤ m) (b : -m ≤ p + c * s ∧ p + c * s ≤ m) : -m ≤ p + k * s ∧ p + k * s ≤ m := by
  obtain ⟨f, g⟩ := mul_between (s := s) h0 h1
  rcases Int.le_total 0 s with hs | hs
  · have := f hs; omega
  · have := g hs; omega
theorem near_between {k c : Int} {p s : Pt} {m : Int} (h0 : 0 ≤ k) (h1 : k ≤ c) (a : nearBy m (addP p (mulP 0 s)) = true) (b : nearBy m (addP p (mulP c s)) = true) : nearBy m (addP p (mulP k s)) = true := by
  rw [nearBy_iff] at a b ⊢
  simp only [addP, mulP] at a b ⊢
  exact ⟨between h0 h1 a.1 b.1, between h0 h1 a.2.1 b.2.1, between h0 h1 a.2.2 b.2.2⟩
/-- Between the first and the last bar of a run all lie near. -/
theorem run_near {x : BarD} {r : RunD} {m k : Int} (h0 : (ptsOf x r 0).all (nearBy m) = true) (h1 : (ptsOf x r (r.count - 1)).all (nearBy m) = true) (hk : 0 ≤ k) (hk1 : k ≤ r.count - 1) : ∀ p ∈ ptsOf x r k, nearBy m p = true := by
  intro p hp
  obtain ⟨q, hq, rfl⟩ := List.mem_map.1 hp
  exact near_between hk hk1 (List.all_eq_true.1 h0 _ (List.mem_map.2 ⟨q, hq, rfl⟩)) (List.all_eq_true.1 h1 _ (List.mem_map.2 ⟨q, hq, rfl⟩))
theorem isMain_leg (p q : Pt) : isMain (legBox p q) = (!decide (p.1 = q.1) && decide (p.2.1 = q.2.1) && decide (p.2.2 = q.2.2)) := by
  rw [Bool.eq_iff_iff]
  simp only [isMain, legBox, minP, maxP, Bool.and_eq_true, decide_eq_true_eq, Bool.not_eq_true', decide_eq_false_iff_not]
  obtain ⟨p1, p2, p3⟩ := p
  obtain ⟨q1, q2, q3⟩ := q
  simp only [Int.min_def, Int.max_def]
  repeat' split
  all_goals
    simp only [decide_eq_true_eq]
    omega
theorem legsOfPts_len : ∀ l : List Pt, (legsOfPts l).length = l.length - 1 := by
  intro l
  induction l with
  | nil => rfl
  | cons p r ih =>
    cases r with
    | nil => rfl
    | cons q r => rw [legsOfPts, List.length_cons, ih]; simp
theorem legsOfPts_at : ∀ (l : List Pt) (k : Nat) (p q : Pt), l[k]? = some p → l[k + 1]? = some q → (legsOfPts l)[k]? = some (legBox p q) := by
  intro l
  induction l with
  | nil => intro k p q h _; simp at h
  | cons x r ih =>
    intro k p q hp hq
    cases r with
    | nil => simp at hq
    | cons y r =>
      cases k with
      | zero =>
        simp only [List.getElem?_cons_zero, Option.some.injEq, List.getElem?_cons_succ] at hp hq
        subst hp; subst hq
        rfl
      | succ k =>
        rw [legsOfPts, List.getElem?_cons_succ]
        exact ih k p q hp hq
theorem pathFrom_at : ∀ (l : List Pt) (o : Pt) (k : Nat) (p m : Pt), (pathFrom o l)[k]? = some p → l[k]? = some m → (pathFrom o l)[k + 1]? = some (addP p m) := by
  intro l
  induction l with
  | nil => intro o k p m _ h; simp at h
  | cons x r ih =>
    intro o k p m hp hm
    cases k with
    | zero =>
      simp only [pathFrom, List.getElem?_cons_zero, Option.some.injEq] at hp
      simp only [List.getElem?_cons_zero, Option.some.injEq] at hm
      subst hp; subst hm
      rw [pathFrom, List.getElem?_cons_succ]
      cases r <;> rfl
    | succ k =>
      rw [pathFrom, List.getElem?_cons_succ] at hp ⊢
      exact ih _ k p m hp (by simpa using hm)
theorem pathOf_zero (x : BarD) : (pathOf x)[0]? = some (0, 0, 0) := by
  rw [pathOf]
  cases movesOf x <;> rfl
theorem pathOf_next {x : BarD} {k : Nat} {o : Pt} {p : Int × Int} (ho : (pathOf x)[k]? = some o) (hp : (legsOf x.code)[k]? = some p) : (pathOf x)[k + 1]? = some (addP o (ptOf p.2 (legDim x p))) :=
  pathFrom_at _ _ k o _ ho (by rw [movesOf, List.getElem?_map, hp]; rfl)
theorem legs_ways (code : Int) : ∀ p ∈ legsOf code, p.2 = 120 ∨ p.2 = 88 ∨ p.2 = 121 ∨ p.2 = 89 ∨ p.2 = 122 := by
  have h : (legsOf code).all (fun p => decide (p.2 = 120 ∨ p.2 = 88 ∨ p.2 = 121 ∨ p.2 = 89 ∨ p.2 = 122)) = true := by
    unfold legsOf
    (repeat' split) <;> rfl
  intro p hp
  have := List.all_eq_true.1 h p hp
  simpa using this
end Go.Proofs.YtpmipoljnchheaaGreat
namespace Go.Proofs.YtpmipoljnchheaaGreat
open Go.RowKit

def vRow (q : Pt) : Nat → Array Value
  | 0 => #[.int .i64 0, .int .i64 0, .int .i64 0]
  | 1 => #[.int .i64 q.1, .int .i64 0, .int .i64 0]
  | 2 => #[.int .i64 q.1, .int .i64 q.2.1, .int .i64 0]
  | _ => #[.int .i64 q.1, .int .i64 q.2.1, .int .i64 q.2.2]
set_option maxHeartbeats 4000000 in
set_option maxRecDepth 100000 in
theorem image_any (x y : Int) (p : Pt) (w : World) (h : turnOk x y = true) (hp : nearBy 1099511627776 p = true) :
    Calls Tryz.prog 191 #[.agg #[.int .i64 x, .int .i64 y], .agg #[.int .i64 p.1, .int .i64 p.2.1, .int .i64 p.2.2]] w fun e w' => ∃ q : Pt, e = .returned (.agg #[.int .i64 q.1, .int .i64 q.2.1, .int .i64 q.2.2]) ∧ Hid (q = imgV x y p) ∧ Below w.heap.size w w' := by
  have HC := hide (fun (w : World) => columns_any x y w h)
  obtain ⟨HP1, HP2, HP3⟩ := nearBy_iff.1 hp
  have hx : axis6 x := by
    simp only [turnOk, Bool.and_eq_true] at h
    exact axis6_of h.1.1.1
  have hy : axis6 y := by
    simp only [turnOk, Bool.and_eq_true] at h
    exact axis6_of h.1.1.2
  have HU := hide (And.intro (unitish_of hx) (And.intro (unitish_of hy) (cross_unit h)))
  have Hi := hide (show imgV x y p = linV (unitV x) (unitV y) (crossV (unitV x) (unitV y)) p from rfl)
  obtain ⟨p1, p2, p3⟩ := p
  simp only at HP1 HP2 HP3
  have g3 := Blk.new1 w (.cells #[.int .i64 x, .int .i64 y] 77) 44 #[.int .i64 p1, .int .i64 p2, .int .i64 p3]
  clear h hx hy hp
  go_enter Tryz.func191, Tryz.ntmps191
  go_wp2_with (go_at_call 193; refine (HC.out _).mono ?_; rintro e w2 ⟨a, b, c, rfl, hres, hb2⟩)
  obtain ⟨ha, hb, hc⟩ := hres.out
  obtain ⟨⟨HA1, HA2, HA3⟩, ⟨HB1, HB2, HB3⟩, HG1, HG2, HG3⟩ := HU.out
  rw [← ha] at HA1 HA2 HA3
  rw [← hb] at HB1 HB2 HB3
  rw [← hc] at HG1 HG2 HG3
  have Hq := hide (show imgV x y (p1, p2, p3) = linV a b c (p1, p2, p3) by rw [Hi.out, ha, hb, hc])
  clear ha hb hc hres HU Hi HC
  obtain ⟨a1, a2, a3⟩ := a
  obtain ⟨b1, b2, b3⟩ := b
  obtain ⟨c1, c2, c3⟩ := c
  simp only at HA1 HA2 HA3 HB1 HB2 HB3 HG1 HG2 HG3
  obtain ⟨q, hq⟩ : ∃ q, q = linV (a1, a2, a3) (b1, b2, b3) (c1, c2, c3) (p1, p2, p3) := ⟨_, rfl⟩
  rw [← hq] at Hq
  have hq1 : q.1 = a1 * p1 + b1 * p2 + c1 * p3 := by rw [hq]; rfl
  have hq2 : q.2.1 = a2 * p1 + b2 * p2 + c2 * p3 := by rw [hq]; rfl
  have hq3 : q.2.2 = a3 * p1 + b3 * p2 + c3 * p3 := by rw [hq]; rfl
  have HQ := hide (And.intro hq1 (And.intro hq2 hq3))
  clear hq hq1 hq2 hq3
  obtain ⟨w3, hw3⟩ : ∃ w3, w3 = (w2.alloc (.cells #[.int .i64 a1, .int .i64 a2, .int .i64 a3, .int .i64 b1, .int .i64 b2, .int .i64 b3, .int .i64 c1, .int .i64 c2, .int .i64 c3] 241)).alloc (.cells #[.int .i64 0, .int .i64 0, .int .i64 0] 234) := ⟨_, rfl⟩
  have k5 := (Blk.new w2 241 #[.int .i64 a1, .int .i64 a2, .int .i64 a3, .int .i64 b1, .int .i64 b2, .int .i64 b3, .int .i64 c1, .int .i64 c2, .int .i64 c3]).alloc (.cells #[.int .i64 0, .int .i64 0, .int .i64 0] 234)
  have k6 := Blk.new1 w2 (.cells #[.int .i64 a1, .int .i64 a2, .int .i64 a3, .int .i64 b1, .int .i64 b2, .int .i64 b3, .int .i64 c1, .int .i64 c2, .int .i64 c3] 241) 234 #[.int .i64 0, .int .i64 0, .int .i64 0]
  rw [← hw3] at k5 k6 ⊢
  have kP := (((g3.alloc (.cells #[.int .i64 0, .int .i64 0, .int .i64 0] 44)).keep hb2).alloc (.cells #[.int .i64 a1, .int .i64 a2, .int .i64 a3, .int .i64 b1, .int .i64 b2, .int .i64 b3, .int .i64 c1, .int .i64 c2, .int .i64 c3] 241)).alloc (.cells #[.int .i64 0, .int .i64 0, .int .i64 0] 234)
  have kR := (((Blk.new2 w (.cells #[.int .i64 x, .int .i64 y] 77) (.cells #[.int .i64 p1, .int .i64 p2, .int .i64 p3] 44) 44 #[.int .i64 0, .int .i64 0, .int .i64 0]).keep hb2).alloc (.cells #[.int .i64 a1, .int .i64 a2, .int .i64 a3, .int .i64 b1, .int .i64 b2, .int .i64 b3, .int .i64 c1, .int .i64 c2, .int .i64 c3] 241)).alloc (.cells #[.int .i64 0, .int .i64 0, .int .i64 0] 234)
  have hbw := (below_step ((below_new2 w (.cells #[.int .i64 x, .int .i64 y] 77) (.cells #[.int .i64 p1, .int .i64 p2, .int .i64 p3] 44)).alloc (by simp; omega) (.cells #[.int .i64 0, .int .i64 0, .int .i64 0] 44)) hb2 (Nat.le_refl _)).trans ((below_new2 w2 (.cells #[.int .i64 a1, .int .i64 a2, .int .i64 a3, .int .i64 b1, .int .i64 b2, .int .i64 b3, .int .i64 c1, .int .i64 c2, .int .i64 c3] 241) (.cells #[.int .i64 0, .int .i64 0, .int .i64 0] 234)).mono (by have := hb2.size; simp at this; omega))
  have hsz : w.heap.size + 3 ≤ w2.heap.size := by have := hb2.size; simp at this; omega
  rw [← hw3] at kP kR hbw
  have KP := hide kP
  have KR := hide kR
  have K5 := hide k5
  have K6 := hide k6
  have Hbw := hide hbw
  obtain ⟨g5, hg5⟩ : ∃ g5, g5 = w2.heap.size := ⟨_, rfl⟩
  rw [← hg5] at K5 K6 ⊢
  have h5w : w.heap.size + 3 ≤ g5 := by omega
  clear kP kR k5 k6 hbw hw3 hb2 g3 hg5 hsz
  go_loopw [10] (fun i wr => ∃ j : Nat, j ≤ 3 ∧ i = .int .i64 j ∧ Blk wr (w.heap.size + 1) 44 #[.int .i64 p1, .int .i64 p2, .int .i64 p3] ∧ Blk wr (w.heap.size + 2) 44 #[.int .i64 0, .int .i64 0, .int .i64 0] ∧ Blk wr g5 241 #[.int .i64 a1, .int .i64 a2, .int .i64 a3, .int .i64 b1, .int .i64 b2, .int .i64 b3, .int .i64 c1, .int .i64 c2, .int .i64 c3] ∧ Blk wr (g5 + 1) 234 (vRow q j) ∧ Below w.heap.size w wr) (fun i _ => 3 - (intOf i).toNat)
  case atStart => exact ⟨0, by omega, rfl, KP.out, KR.out, K5.out, K6.out, Hbw.out⟩
  case round =>
    clear KP KR K5 K6 Hbw
    obtain ⟨j, hj, rfl, kP, kR, k5, k6, hbw⟩ := hrel
    have uP := hide kP
    have uR := hide kR
    have u5 := hide k5
    have u6 := hide k6
    clear kP kR k5 k6
    rcases j with _ | _ | _ | _ | j
    · have u1 := mulM_bound (m := 1099511627776) HA1 HP1 (by omega)
      have u2 := mulM_bound (m := 1099511627776) HB1 HP2 (by omega)
      have u3 := mulM_bound (m := 1099511627776) HG1 HP3 (by omega)
      have s1 : IntKind.i64.wrap (a1 * p1) = a1 * p1 := IntWalk.i64_in _ (by omega)
      have s2 : IntKind.i64.wrap (b1 * p2) = b1 * p2 := IntWalk.i64_in _ (by omega)
      have s3 : IntKind.i64.wrap (a1 * p1 + b1 * p2) = a1 * p1 + b1 * p2 := IntWalk.i64_in _ (by omega)
      have s4 : IntKind.i64.wrap (c1 * p3) = c1 * p3 := IntWalk.i64_in _ (by omega)
      have s5 : IntKind.i64.wrap (a1 * p1 + b1 * p2 + c1 * p3) = a1 * p1 + b1 * p2 + c1 * p3 := IntWalk.i64_in _ (by omega)
      have e1 := u5.out.cell 0
      have e2 := u5.out.cell 3
      have e3 := u5.out.cell 6
      have e4 := u6.out.cell 0
      have e5 := u6.out.frozen 0
      have e6 := uP.out.cell 0
      have e7 := uP.out.cell 1
      have e8 := uP.out.cell 2
      simp [vRow] at e1 e2 e3 e4 e6 e7 e8
      clear u1 u2 u3
      go_wp2_with fail
      go_still_tail 25, (by kernel_rfl)
      change wpList _ _ _ _ _ (World.drew wr)
      go_wp2_with fail
      have hv := (show (vRow q 0).setIfInBounds 0 (.int .i64 (a1 * p1 + b1 * p2 + c1 * p3)) = vRow q 1 by rw [← HQ.out.1]; simp only [vRow, List.setIfInBounds_toArray, List.set_cons_zero, List.set_cons_succ])
      have n6 := (u6.out.set_ 0 (.int .i64 (a1 * p1 + b1 * p2 + c1 * p3))).drew
      rw [hv] at n6
      go_roundw
      case rel => exact ⟨1, by omega, by go_num, (uP.out.far (p := ⟨g5 + 1, 0, none⟩) (by show w.heap.size + 1 ≠ g5 + 1; omega) _).drew, (uR.out.far (p := ⟨g5 + 1, 0, none⟩) (by show w.heap.size + 2 ≠ g5 + 1; omega) _).drew, (u5.out.far (p := ⟨g5 + 1, 0, none⟩) (by show g5 ≠ g5 + 1; omega) _).drew, n6, (hbw.setCell (p := ⟨g5 + 1, 0, none⟩) (by show w.heap.size ≤ g5 + 1; omega) _).drew⟩
      case measure => simp [intOf]
    · have u1 := mulM_bound (m := 1099511627776) HA2 HP1 (by omega)
      have u2 := mulM_bound (m := 1099511627776) HB2 HP2 (by omega)
      have u3 := mulM_bound (m := 1099511627776) HG2 HP3 (by omega)
      have s1 : IntKind.i64.wrap (a2 * p1) = a2 * p1 := IntWalk.i64_in _ (by omega)
      have s2 : IntKind.i64.wrap (b2 * p2) = b2 * p2 := IntWalk.i64_in _ (by omega)
      have s3 : IntKind.i64.wrap (a2 * p1 + b2 * p2) = a2 * p1 + b2 * p2 := IntWalk.i64_in _ (by omega)
      have s4 : IntKind.i64.wrap (c2 * p3) = c2 * p3 := IntWalk.i64_in _ (by omega)
      have s5 : IntKind.i64.wrap (a2 * p1 + b2 * p2 + c2 * p3) = a2 * p1 + b2 * p2 + c2 * p3 := IntWalk.i64_in _ (by omega)
      have e1 := u5.out.cell 1
      have e2 := u5.out.cell 4
      have e3 := u5.out.cell 7
      have e4 := u6.out.cell 1
      have e5 := u6.out.frozen 1
      have e6 := uP.out.cell 0
      have e7 := uP.out.cell 1
      have e8 := uP.out.cell 2
      simp [vRow] at e1 e2 e3 e4 e6 e7 e8
      clear u1 u2 u3
      go_wp2_with fail
      go_still_tail 25, (by kernel_rfl)
      change wpList _ _ _ _ _ (World.drew wr)
      go_wp2_with fail
      have hv := (show (vRow q 1).setIfInBounds 1 (.int .i64 (a2 * p1 + b2 * p2 + c2 * p3)) = vRow q 2 by rw [← HQ.out.2.1]; simp only [vRow, List.setIfInBounds_toArray, List.set_cons_zero, List.set_cons_succ])
      have n6 := (u6.out.set_ 1 (.int .i64 (a2 * p1 + b2 * p2 + c2 * p3))).drew
      rw [hv] at n6
      go_roundw
      case rel => exact ⟨2, by omega, by go_num, (uP.out.far (p := ⟨g5 + 1, 1, none⟩) (by show w.heap.size + 1 ≠ g5 + 1; omega) _).drew, (uR.out.far (p := ⟨g5 + 1, 1, none⟩) (by show w.heap.size + 2 ≠ g5 + 1; omega) _).drew, (u5.out.far (p := ⟨g5 + 1, 1, none⟩) (by show g5 ≠ g5 + 1; omega) _).drew, n6, (hbw.setCell (p := ⟨g5 + 1, 1, none⟩) (by show w.heap.size ≤ g5 + 1; omega) _).drew⟩
      case measure => simp [intOf]
    · have u1 := mulM_bound (m := 1099511627776) HA3 HP1 (by omega)
      have u2 := mulM_bound (m := 1099511627776) HB3 HP2 (by omega)
      have u3 := mulM_bound (m := 1099511627776) HG3 HP3 (by omega)
      have s1 : IntKind.i64.wrap (a3 * p1) = a3 * p1 := IntWalk.i64_in _ (by omega)
      have s2 : IntKind.i64.wrap (b3 * p2) = b3 * p2 := IntWalk.i64_in _ (by omega)
      have s3 : IntKind.i64.wrap (a3 * p1 + b3 * p2) = a3 * p1 + b3 * p2 := IntWalk.i64_in _ (by omega)
      have s4 : IntKind.i64.wrap (c3 * p3) = c3 * p3 := IntWalk.i64_in _ (by omega)
      have s5 : IntKind.i64.wrap (a3 * p1 + b3 * p2 + c3 * p3) = a3 * p1 + b3 * p2 + c3 * p3 := IntWalk.i64_in _ (by omega)
      have e1 := u5.out.cell 2
      have e2 := u5.out.cell 5
      have e3 := u5.out.cell 8
      have e4 := u6.out.cell 2
      have e5 := u6.out.frozen 2
      have e6 := uP.out.cell 0
      have e7 := uP.out.cell 1
      have e8 := uP.out.cell 2
      simp [vRow] at e1 e2 e3 e4 e6 e7 e8
      clear u1 u2 u3
      go_wp2_with fail
      go_still_tail 25, (by kernel_rfl)
      change wpList _ _ _ _ _ (World.drew wr)
      go_wp2_with fail
      have hv := (show (vRow q 2).setIfInBounds 2 (.int .i64 (a3 * p1 + b3 * p2 + c3 * p3)) = vRow q 3 by rw [← HQ.out.2.2]; simp only [vRow, List.setIfInBounds_toArray, List.set_cons_zero, List.set_cons_succ])
      have n6 := (u6.out.set_ 2 (.int .i64 (a3 * p1 + b3 * p2 + c3 * p3))).drew
      rw [hv] at n6
      go_roundw
      case rel => exact ⟨3, by omega, by go_num, (uP.out.far (p := ⟨g5 + 1, 2, none⟩) (by show w.heap.size + 1 ≠ g5 + 1; omega) _).drew, (uR.out.far (p := ⟨g5 + 1, 2, none⟩) (by show w.heap.size + 2 ≠ g5 + 1; omega) _).drew, (u5.out.far (p := ⟨g5 + 1, 2, none⟩) (by show g5 ≠ g5 + 1; omega) _).drew, n6, (hbw.setCell (p := ⟨g5 + 1, 2, none⟩) (by show w.heap.size ≤ g5 + 1; omega) _).drew⟩
      case measure => simp [intOf]
    · have e4 := u6.out.cell 0
      have e5 := u6.out.cell 1
      have e6 := u6.out.cell 2
      have e7 := uR.out.cell 0
      have e8 := uR.out.cell 1
      have e9 := uR.out.cell 2
      have f7 := uR.out.frozen 0
      have f8 := uR.out.frozen 1
      have f9 := uR.out.frozen 2
      simp [vRow] at e4 e5 e6 e7 e8 e9
      go_wp2_with fail
      have hfin := hide (((hbw.setCell (p := ⟨w.heap.size + 1 + 1, 0, none⟩) (by show w.heap.size ≤ w.heap.size + 1 + 1; omega) (.int .i64 q.1)).setCell (p := ⟨w.heap.size + 1 + 1, 1, none⟩) (by show w.heap.size ≤ w.heap.size + 1 + 1; omega) (.int .i64 q.2.1)).setCell (p := ⟨w.heap.size + 1 + 1, 2, none⟩) (by show w.heap.size ≤ w.heap.size + 1 + 1; omega) (.int .i64 q.2.2))
      have hR : Blk wr (w.heap.size + 1 + 1) 44 #[.int .i64 0, .int .i64 0, .int .i64 0] := uR.out
      refine bodyPost_ret (results_c rfl rfl (((hR.set_ 0 _).set_ 1 _).set_ 2 _) Tryz.underlying44 rfl (by kernel_rfl)) rfl ?_
      refine ⟨q, ?_, hide Hq.out.symm, hfin.out⟩
      simp only [List.setIfInBounds_toArray, List.set_cons_zero, List.set_cons_succ]
    · omega
end Go.Proofs.YtpmipoljnchheaaGreat
