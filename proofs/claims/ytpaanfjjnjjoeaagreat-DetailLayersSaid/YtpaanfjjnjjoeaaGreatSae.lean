/- Turns: the images of the three directions, and of points. -/
import Derived.Test.YtpaanfjjnjjoeaaGreatSad
import Derived.Deep.Cut
import Derived.Deep.WholeRow
import Derived.Laws.Tables
set_option maxHeartbeats 8000000
set_option maxRecDepth 100000
namespace Go.Proofs.YtpaanfjjnjjoeaaGreat
open Go.RowKit
theorem Below.setRow {B g : Nat} {a w : World} (h : Below B a w) (hg : B ≤ g) (cs : Array Value) : Below B a (w.setRow g cs) :=
 ⟨h.os, h.tape, h.output, by rw [setRow_size]; exact h.size, fun k hk => (setRow_other w g k cs (by omega)).trans (h.block k hk)⟩
theorem zq (w : World) (o : Obj) : (w.alloc o).heap.size = w.heap.size + 1 := by simp
theorem zrI {W w1 : World} (hb : Below W.heap.size W w1) : (∀ b o, b < W.heap.size → w1.cell? ⟨b, o, none⟩ = W.cell? ⟨b, o, none⟩) ∧ (∀ b o, b < W.heap.size → w1.frozen? ⟨b, o, none⟩ = W.frozen? ⟨b, o, none⟩) :=
 ⟨fun b o h => hb.cell (p := ⟨b, o, none⟩) h, fun b o h => hb.frozen (p := ⟨b, o, none⟩) h⟩
theorem Below.al {a w : World} (h : Below a.heap.size a w) (o : Obj) : Below a.heap.size a (w.alloc o) := h.alloc h.size o
theorem Below.dr {a w : World} (h : Below a.heap.size a w) : Below a.heap.size a w.drew := Below.drew h
theorem Below.sc {a w : World} (h : Below a.heap.size a w) (g o : Nat) (v : Value) (hg : a.heap.size ≤ g) : Below a.heap.size a (w.setCell ⟨g, o, none⟩ v) := h.setCell hg v
theorem zhi {w : World} {g o : Nat} {v : Value} (h : w.cell? ⟨g, o, none⟩ = some v) : g < w.heap.size := by
 by_cases hg : g < w.heap.size
 ·exact hg
 ·exfalso;have : w.heap[g]? = none := Array.getElem?_eq_none (by omega);simp [World.cell?, this] at h
theorem zcP {w : World} {g o k i : Nat} {v : Value} {r : Option Value} (hne : k ≠ g ∨ i ≠ o) (h : w.cell? ⟨k, i, none⟩ = r) : (w.setCell ⟨g, o, none⟩ v).cell? ⟨k, i, none⟩ = r :=
 (World.cell?_setCell_other _ _ _ _ (by intro e; simp only [Addr.mk.injEq] at e; omega)).trans h
theorem zeL {w : World} {o : Obj} {k i : Nat} {r : Option Value} (hk : k < w.heap.size) (h : w.cell? ⟨k, i, none⟩ = r) : (w.alloc o).cell? ⟨k, i, none⟩ = r :=
 ((zk w o).cell (p := ⟨k, i, none⟩) hk).trans h
theorem zhr {w : World} {c : Array Value} {t : TypeId} {k i : Nat} {v : Value} (hk : k = w.heap.size) (h : c[i]? = some v) : (w.alloc (.cells c t)).cell? ⟨k, i, none⟩ = some v := by
 subst hk;exact ((Blk.new w t c).cell i).trans h
theorem zcg {w : World} {x y z : Value} {t : TypeId} {k : Nat} (hk : k = w.heap.size) : (w.alloc (.cells #[x, y, z] t)).cell? ⟨k, 0, none⟩ = some x := zhr hk rfl
theorem zcf {w : World} {x y z : Value} {t : TypeId} {k : Nat} (hk : k = w.heap.size) : (w.alloc (.cells #[x, y, z] t)).cell? ⟨k, 1, none⟩ = some y := zhr hk rfl
theorem zce {w : World} {x y z : Value} {t : TypeId} {k : Nat} (hk : k = w.heap.size) : (w.alloc (.cells #[x, y, z] t)).cell? ⟨k, 2, none⟩ = some z := zhr hk rfl
def zlA (w : World) (g o : Nat) : Prop := ∃ v, w.cell? ⟨g, o, none⟩ = some v
theorem zcK {w : World} {g o k i : Nat} {v : Value} (h : zlA w k i) : zlA (w.setCell ⟨g, o, none⟩ v) k i := by
 obtain ⟨x, hx⟩ := h;by_cases e : (⟨k, i, none⟩ : Addr) = ⟨g, o, none⟩
 ·rw [← e];exact ⟨v, World.cell?_setCell_same w _ _ hx⟩
 ·exact ⟨x, (World.cell?_setCell_other _ _ _ _ (by first | exact e | exact fun h => e h.symm)).trans hx⟩
theorem zdN {w : World} {g o : Nat} {v : Value} (h : zlA w g o) : (w.setCell ⟨g, o, none⟩ v).cell? ⟨g, o, none⟩ = some v := by
 obtain ⟨x, hx⟩ := h;exact World.cell?_setCell_same w _ _ hx
theorem zgT {w : World} {g o : Nat} {v : Value} (h : w.cell? ⟨g, o, none⟩ = some v) : zlA w g o := ⟨v, h⟩
theorem zoQ {B : Nat} {a w : World} {b : Nat} {v0 v1 v2 v3 v4 v5 v6 v7 v8 : Value} (h : Below B a w) (hb : B ≤ b) : Below B a (((((((((w.setCell ⟨b, 0, none⟩ v0).setCell ⟨b, 1, none⟩ v1).setCell ⟨b, 2, none⟩ v2).setCell ⟨b, 3, none⟩ v3).setCell ⟨b, 4, none⟩ v4).setCell ⟨b, 5, none⟩ v5).setCell ⟨b, 6, none⟩ v6).setCell ⟨b, 7, none⟩ v7).setCell ⟨b, 8, none⟩ v8) :=
 ((((((((h.setCell (p := ⟨b, 0, none⟩) hb v0).setCell (p := ⟨b, 1, none⟩) hb v1).setCell (p := ⟨b, 2, none⟩) hb v2).setCell (p := ⟨b, 3, none⟩) hb v3).setCell (p := ⟨b, 4, none⟩) hb v4).setCell (p := ⟨b, 5, none⟩) hb v5).setCell (p := ⟨b, 6, none⟩) hb v6).setCell (p := ⟨b, 7, none⟩) hb v7).setCell (p := ⟨b, 8, none⟩) hb v8
theorem zn3 (x y : Int) (w : World) (h : zav x y = true) :
  Calls Tryz.prog 303 #[.agg #[.int .i64 x, .int .i64 y]] w fun e w' => ∃ a b c : Pt, e = .returned (.agg #[.int .i64 a.1, .int .i64 a.2.1, .int .i64 a.2.2, .int .i64 b.1, .int .i64 b.2.1, .int .i64 b.2.2, .int .i64 c.1, .int .i64 c.2.1, .int .i64 c.2.2]) ∧ Hid (a = zaQ x ∧ b = zaQ y ∧ c = zdw (zaQ x) (zaQ y)) ∧ Below w.heap.size w w' := by
 have hx : ze0 x := by
  simp only [zav, zm] at h;exact zdq h.1.1.1
 have hy : ze0 y := by
  simp only [zav, zm] at h;exact zdq h.1.1.2
 have HX := zf (fun (w : World) => zmB x w hx);have HY := zf (fun (w : World) => zmB y w hy);have HC := zf (fun (w : World) => zrl (zaQ x) (zaQ y) w (zcm hx) (zcm hy));obtain ⟨a, ha⟩ : ∃ a, a = zaQ x := ⟨_, rfl⟩;obtain ⟨b, hb⟩ : ∃ b, b = zaQ y := ⟨_, rfl⟩;obtain ⟨c, hc⟩ : ∃ c, c = zdw (zaQ x) (zaQ y) := ⟨_, rfl⟩;rw [← ha] at HX;rw [← hb] at HY;rw [← hc, ← ha, ← hb] at HC;have Hres := zf (And.intro ha (And.intro hb hc));clear ha hb hc hx hy h;obtain ⟨a1, a2, a3⟩ := a;obtain ⟨b1, b2, b3⟩ := b;obtain ⟨c1, c2, c3⟩ := c;simp only [ptV] at HX HY HC;go_enter Tryz.func303, Tryz.ntmps303;go_wp2_with fail;obtain ⟨wa, hwa⟩ : ∃ wa, wa = (w.alloc (.cells #[.int .i64 x, .int .i64 y] 64)).alloc (.cells #[.int .i64 0, .int .i64 0, .int .i64 0, .int .i64 0, .int .i64 0, .int .i64 0, .int .i64 0, .int .i64 0, .int .i64 0] 325) := ⟨_, rfl⟩;have b0 := (Blk.new w 64 #[.int .i64 x, .int .i64 y]).alloc (.cells #[.int .i64 0, .int .i64 0, .int .i64 0, .int .i64 0, .int .i64 0, .int .i64 0, .int .i64 0, .int .i64 0, .int .i64 0] 325);have b1 := Blk.new1 w (.cells #[.int .i64 x, .int .i64 y] 64) 325 #[.int .i64 0, .int .i64 0, .int .i64 0, .int .i64 0, .int .i64 0, .int .i64 0, .int .i64 0, .int .i64 0, .int .i64 0];have hw := zf (zH w (.cells #[.int .i64 x, .int .i64 y] 64) (.cells #[.int .i64 0, .int .i64 0, .int .i64 0, .int .i64 0, .int .i64 0, .int .i64 0, .int .i64 0, .int .i64 0, .int .i64 0] 325));rw [← hwa] at b0 b1 hw ⊢;have k0 := b0.cell 0;have k1 := b0.cell 1;simp at k0 k1;have hl0 := b0.lt;have hl1 := b1.lt;have B1 := zf b1;clear hwa b0 b1;have colS : ∀ W, Below wa.heap.size wa W → W.cell? ⟨w.heap.size, 0, none⟩ = some (.int .i64 x) ∧ W.cell? ⟨w.heap.size, 1, none⟩ = some (.int .i64 y) ∧ Below wa.heap.size wa W := fun W h => ⟨(h.cell hl0).trans k0, (h.cell hl0).trans k1, h⟩;have ColS := zf colS;clear colS;have one3 : ∀ a b c : Int, (#[Value.int .i64 a, Value.int .i64 b, Value.int .i64 c] : Array Value).all (·.oneCell') = true := by
  intro a b c;simp;exact ⟨rfl, rfl, rfl⟩
 have One3 := zf one3;clear one3;go_cut [3, 4] from 5 (fun s3 s4 W => ∃ g3 g4 : Nat, s3 = .pointer (some ⟨g3, 0, none⟩) ∧ s4 = .pointer (some ⟨g4, 0, none⟩) ∧ wa.heap.size ≤ g3 ∧ wa.heap.size ≤ g4
  ∧ W.cell? ⟨g3, 0, none⟩ = some (.int .i64 a1) ∧ W.cell? ⟨g3, 1, none⟩ = some (.int .i64 a2) ∧ W.cell? ⟨g3, 2, none⟩ = some (.int .i64 a3)
  ∧ W.cell? ⟨g4, 0, none⟩ = some (.int .i64 b1) ∧ W.cell? ⟨g4, 1, none⟩ = some (.int .i64 b2) ∧ W.cell? ⟨g4, 2, none⟩ = some (.int .i64 b3) ∧ Below wa.heap.size wa W)
 case first =>
  go_region_held3 (fun W => W.cell? ⟨w.heap.size, 0, none⟩ = some (.int .i64 x) ∧ W.cell? ⟨w.heap.size, 1, none⟩ = some (.int .i64 y) ∧ Below wa.heap.size wa W)
   (first
    | (refine ColS.out _ ?_; (repeat (first | with_reducible assumption | with_reducible exact Below.refl _ _ | with_reducible apply Below.al | with_reducible apply Below.dr | (with_reducible refine Below.sc ?_ _ _ _ (by (try simp only [zq, zzG, zzH]); omega)))); done)
    | go_keep)
   (first
    | (go_at_call 324; have hS := ‹_ ∧ _ ∧ Below wa.heap.size wa _›; (first | (with_reducible refine (HX.out _).mono ?_) | (with_reducible refine (HY.out _).mono ?_)); rintro e wz ⟨rfl, hbz⟩; have n4 := fun (c : Array Value) (t : TypeId) (i : Nat) => (Blk.new wa t c).cell i; have n5 := fun (c : Array Value) (t : TypeId) (i : Nat) => (Blk.new wa t c).frozen i; have n2 := fun (o : Obj) (c : Array Value) (t : TypeId) (i : Nat) => (Blk.new1 wa o t c).cell i; have n3 := fun (o : Obj) (c : Array Value) (t : TypeId) (i : Nat) => (Blk.new1 wa o t c).frozen i; have n0 := fun (c c' : Array Value) (t t' : TypeId) (i : Nat) => ((Blk.new wa t c).alloc (.cells c' t')).cell i; have n1 := fun (c c' : Array Value) (t t' : TypeId) (i : Nat) => ((Blk.new wa t c).alloc (.cells c' t')).frozen i; have hB := zg hS.2.2 hbz (ze _); have hBs := hB.size; have q0 := fun (c c' : Array Value) (t t' : TypeId) (i : Nat) => ((Blk.new wz t c).alloc (.cells c' t')).cell i; have q1 := fun (c c' : Array Value) (t t' : TypeId) (i : Nat) => ((Blk.new wz t c).alloc (.cells c' t')).frozen i; have q2 := fun (o : Obj) (c : Array Value) (t : TypeId) (i : Nat) => (Blk.new1 wz o t c).cell i; have q3 := fun (o : Obj) (c : Array Value) (t : TypeId) (i : Nat) => (Blk.new1 wz o t c).frozen i; have q4 := fun (c : Array Value) (t : TypeId) (i : Nat) => (Blk.new wz t c).cell i; have q5 := fun (c : Array Value) (t : TypeId) (i : Nat) => (Blk.new wz t c).frozen i; obtain ⟨hcz, hfz⟩ := zrI hbz; have hsz := hbz.size; (try simp only [zzH, World.cell?_drew, zq] at hcz); (try simp only [zzH, World.frozen?_drew, zq] at hfz); (try simp only [zzH, zq] at hsz); (try (have hlt9 := zt (zK _) hsz)); (try (have hlt8 := Nat.lt_of_succ_lt (zt (zK _) hsz))); (try (have hlt7 : wa.heap.size < wz.heap.size := by omega)); (try (have hlt6 : wa.heap.size + 1 < wz.heap.size := by omega)); have q6 := fun (o : Obj) (b i : Nat) (h : b < wz.heap.size) => (zk wz o).cell (p := ⟨b, i, none⟩) h; have q7 := fun (o : Obj) (b i : Nat) (h : b < wz.heap.size) => (zk wz o).frozen (p := ⟨b, i, none⟩) h; have q8 := fun (o o' : Obj) (b i : Nat) (h : b < wz.heap.size) => (zH wz o o').cell (p := ⟨b, i, none⟩) h; have q9 := fun (o o' : Obj) (b i : Nat) (h : b < wz.heap.size) => (zH wz o o').frozen (p := ⟨b, i, none⟩) h))
  go_goals
  all_goals (first | (go_step; go_meet) | (go_step; go_step; go_meet) | (go_wp2_with fail; go_meet))
  all_goals (refine ⟨_, _, rfl, rfl, ?_, ?_, ?_, ?_, ?_, ?_, ?_, ?_, ?_⟩ <;> first | ((repeat (first | with_reducible assumption | with_reducible exact Below.refl _ _ | with_reducible apply Below.al | with_reducible apply Below.dr | (with_reducible refine Below.sc ?_ _ _ _ (by (try simp only [zq, zzG, zzH]); omega)))); done) | omega | (go_keep; done) | ((repeat (first | with_reducible exact zcg (by (first | omega | (simp only [zzG]; done) | (simp only [zq, zzG, zzH]; omega))) | with_reducible exact zcf (by (first | omega | (simp only [zzG]; done) | (simp only [zq, zzG, zzH]; omega))) | with_reducible exact zce (by (first | omega | (simp only [zzG]; done) | (simp only [zq, zzG, zzH]; omega))) | with_reducible refine zeL (by (first | omega | (simp only [zzG]; done) | (simp only [zzG]; omega))) ?_ | with_reducible refine zcP (by (first | omega | (simp only [zq, zzG, zzH]; done) | (simp only [zq, zzG, zzH]; omega))) ?_ | with_reducible refine zdN ?_ | with_reducible refine zcK ?_)); done) | ((repeat (first | with_reducible exact zcg (by (first | omega | (simp only [zq, zzG, zzH]; done) | (simp only [zq, zzG, zzH]; omega))) | with_reducible exact zcf (by (first | omega | (simp only [zq, zzG, zzH]; done) | (simp only [zq, zzG, zzH]; omega))) | with_reducible exact zce (by (first | omega | (simp only [zq, zzG, zzH]; done) | (simp only [zq, zzG, zzH]; omega))) | with_reducible refine zeL (by (first | omega | (simp only [zzG]; done) | (simp only [zzG]; omega))) ?_ | with_reducible refine zcP (by (first | omega | (simp only [zq, zzG, zzH]; done) | (simp only [zq, zzG, zzH]; omega))) ?_ | with_reducible refine zdN ?_ | with_reducible refine zcK ?_)); refine zgT (v := .int .i64 0) ?_; simp [*]; done) | ((repeat (first | with_reducible exact zcg (by (first | omega | (simp only [zq, zzG, zzH]; done) | (simp only [zq, zzG, zzH]; omega))) | with_reducible exact zcf (by (first | omega | (simp only [zq, zzG, zzH]; done) | (simp only [zq, zzG, zzH]; omega))) | with_reducible exact zce (by (first | omega | (simp only [zq, zzG, zzH]; done) | (simp only [zq, zzG, zzH]; omega))) | with_reducible refine zeL (by (first | omega | (simp only [zq, zzG, zzH]; done) | (simp only [zq, zzG, zzH]; omega))) ?_ | with_reducible refine zcP (by (first | omega | (simp only [zq, zzG, zzH]; done) | (simp only [zq, zzG, zzH]; omega))) ?_ | with_reducible refine zdN ?_ | with_reducible refine zcK ?_)); refine zgT (v := .int .i64 0) ((hcz _ _ (by omega)).trans ?_); (repeat (first | with_reducible exact zcg (by (first | omega | (simp only [zq]; done) | (simp only [zq]; omega))) | with_reducible exact zcf (by (first | omega | (simp only [zq]; done) | (simp only [zq]; omega))) | with_reducible exact zce (by (first | omega | (simp only [zq]; done) | (simp only [zq]; omega))) | with_reducible refine zeL (by (first | omega | (simp only [zq]; done) | (simp only [zq]; omega))) ?_ | with_reducible refine zcP (by (first | omega | (simp only [zq, zzG, zzH]; done) | (simp only [zq, zzG, zzH]; omega))) ?_ | with_reducible refine zdN ?_ | with_reducible refine zcK ?_)); done) | ((repeat (first | with_reducible exact zcg (by (first | omega | (simp only [zq, zzG, zzH]; done) | (simp only [zq, zzG, zzH]; omega))) | with_reducible exact zcf (by (first | omega | (simp only [zq, zzG, zzH]; done) | (simp only [zq, zzG, zzH]; omega))) | with_reducible exact zce (by (first | omega | (simp only [zq, zzG, zzH]; done) | (simp only [zq, zzG, zzH]; omega))) | with_reducible refine zeL (by (first | omega | (simp only [zq, zzG, zzH]; done) | (simp only [zq, zzG, zzH]; omega))) ?_ | with_reducible refine zcP (by (first | omega | (simp only [zq, zzG, zzH]; done) | (simp only [zq, zzG, zzH]; omega))) ?_ | with_reducible refine zdN ?_ | with_reducible refine zcK ?_)); refine zgT (v := .int .i64 0) ((hcz _ _ (by omega)).trans ?_); (repeat (first | with_reducible exact zcg (by (first | omega | (simp only [zq, zzG, zzH]; done) | (simp only [zq, zzG, zzH]; omega))) | with_reducible exact zcf (by (first | omega | (simp only [zq, zzG, zzH]; done) | (simp only [zq, zzG, zzH]; omega))) | with_reducible exact zce (by (first | omega | (simp only [zq, zzG, zzH]; done) | (simp only [zq, zzG, zzH]; omega))) | with_reducible refine zeL (by (first | omega | (simp only [zq, zzG, zzH]; done) | (simp only [zq, zzG, zzH]; omega))) ?_ | with_reducible refine zcP (by (first | omega | (simp only [zq, zzG, zzH]; done) | (simp only [zq, zzG, zzH]; omega))) ?_ | with_reducible refine zdN ?_ | with_reducible refine zcK ?_)); simp [*]; done) | ((repeat (first | with_reducible exact zcg (by (first | omega | (simp only [zq, zzG, zzH]; done) | (simp only [zq, zzG, zzH]; omega))) | with_reducible exact zcf (by (first | omega | (simp only [zq, zzG, zzH]; done) | (simp only [zq, zzG, zzH]; omega))) | with_reducible exact zce (by (first | omega | (simp only [zq, zzG, zzH]; done) | (simp only [zq, zzG, zzH]; omega))) | with_reducible refine zeL (by (first | omega | (simp only [zq, zzG, zzH]; done) | (simp only [zq, zzG, zzH]; omega))) ?_ | with_reducible refine zcP (by (first | omega | (simp only [zq, zzG, zzH]; done) | (simp only [zq, zzG, zzH]; omega))) ?_ | with_reducible refine zdN ?_ | with_reducible refine zcK ?_)); have hq := ‹∀ (b o : Nat), b < wa.heap.size + 1 + 1 → World.cell? _ ⟨b, o, none⟩ = World.cell? ((wa.alloc _).alloc _) ⟨b, o, none⟩›; refine zgT (v := .int .i64 0) ((hcz _ _ (by omega)).trans ((hq _ _ (by omega)).trans ?_)); (repeat (first | with_reducible exact zcg (by (first | omega | (simp only [zq]; done) | (simp only [zq]; omega))) | with_reducible exact zcf (by (first | omega | (simp only [zq]; done) | (simp only [zq]; omega))) | with_reducible exact zce (by (first | omega | (simp only [zq]; done) | (simp only [zq]; omega))) | with_reducible refine zeL (by (first | omega | (simp only [zq]; done) | (simp only [zq]; omega))) ?_ | with_reducible refine zcP (by (first | omega | (simp only [zq, zzG, zzH]; done) | (simp only [zq, zzG, zzH]; omega))) ?_ | with_reducible refine zdN ?_ | with_reducible refine zcK ?_)); done))
 case rest =>
  obtain ⟨g3, g4, rfl, rfl, hg3, hg4, p0, p1, p2, r0, r1, r2, hBc⟩ := hcut;obtain ⟨hcc, hfc⟩ := zrI hBc;have m1 := fun i => B1.out.cell i;have m2 := fun i => B1.out.frozen i;have hgs3 : g3 < wc.heap.size := zhi p0;have hgs4 : g4 < wc.heap.size := zhi r0;have hsc := hBc.size;have D := zf (show wc.drew.cell? ⟨g3, 0, none⟩ = some (.int .i64 a1) ∧ wc.drew.cell? ⟨g3, 1, none⟩ = some (.int .i64 a2) ∧ wc.drew.cell? ⟨g3, 2, none⟩ = some (.int .i64 a3) ∧ wc.drew.cell? ⟨g4, 0, none⟩ = some (.int .i64 b1) ∧ wc.drew.cell? ⟨g4, 1, none⟩ = some (.int .i64 b2) ∧ wc.drew.cell? ⟨g4, 2, none⟩ = some (.int .i64 b3) from ⟨p0, p1, p2, r0, r1, r2⟩);go_wp2_with fail
  go_region_held3 (fun W => W.cell? ⟨g3, 0, none⟩ = some (.int .i64 a1) ∧ W.cell? ⟨g3, 1, none⟩ = some (.int .i64 a2) ∧ W.cell? ⟨g3, 2, none⟩ = some (.int .i64 a3) ∧ W.cell? ⟨g4, 0, none⟩ = some (.int .i64 b1) ∧ W.cell? ⟨g4, 1, none⟩ = some (.int .i64 b2) ∧ W.cell? ⟨g4, 2, none⟩ = some (.int .i64 b3))
   (first
    | (with_reducible exact D.out)
    | (with_reducible exact ⟨(hcz _ _ hgs3).trans p0, (hcz _ _ hgs3).trans p1, (hcz _ _ hgs3).trans p2, (hcz _ _ hgs4).trans r0, (hcz _ _ hgs4).trans r1, (hcz _ _ hgs4).trans r2⟩)
    | (refine ⟨?_, ?_, ?_, ?_, ?_, ?_⟩ <;> ((repeat (first | with_reducible exact zcg (by (first | omega | (simp only [zq, zzG, zzH]; done) | (simp only [zq, zzG, zzH]; omega))) | with_reducible exact zcf (by (first | omega | (simp only [zq, zzG, zzH]; done) | (simp only [zq, zzG, zzH]; omega))) | with_reducible exact zce (by (first | omega | (simp only [zq, zzG, zzH]; done) | (simp only [zq, zzG, zzH]; omega))) | with_reducible refine zeL (by (first | omega | (simp only [zq, zzG, zzH]; done) | (simp only [zq, zzG, zzH]; omega))) ?_ | with_reducible refine zcP (by (first | omega | (simp only [zq, zzG, zzH]; done) | (simp only [zq, zzG, zzH]; omega))) ?_ | with_reducible refine zdN ?_ | with_reducible refine zcK ?_)); first | with_reducible exact (hcz _ _ hgs3).trans p0 | with_reducible exact (hcz _ _ hgs3).trans p1 | with_reducible exact (hcz _ _ hgs3).trans p2 | with_reducible exact (hcz _ _ hgs4).trans r0 | with_reducible exact (hcz _ _ hgs4).trans r1 | with_reducible exact (hcz _ _ hgs4).trans r2)))
   (first
    | (go_at_call 325; (with_reducible refine (HC.out _).mono ?_); rintro e wz ⟨rfl, hbz⟩; obtain ⟨hcz, hfz⟩ := zrI hbz; have hsz := hbz.size; (try simp only [zzH, World.cell?_drew] at hcz); (try simp only [zzH, World.frozen?_drew] at hfz); (try simp only [zzH] at hsz); have hlt5 : w.heap.size + 1 < wc.heap.size := by omega))
  go_goals
  have hfin := zf (zoQ (v0 := .int .i64 a1) (v1 := .int .i64 a2) (v2 := .int .i64 a3) (v3 := .int .i64 b1) (v4 := .int .i64 b2) (v5 := .int .i64 b3) (v6 := .int .i64 c1) (v7 := .int .i64 c2) (v8 := .int .i64 c3) (zg (zg hw.out hBc (ze _)).drew hbz (ze _)) (zao w.heap.size));go_wp2_with fail;have BZ := ((B1.out.below hBc hl1).drew).below hbz hlt5;refine bodyPost_ret (zaU rfl rfl (((((((((BZ.set_ 0 _).set_ 1 _).set_ 2 _).set_ 3 _).set_ 4 _).set_ 5 _).set_ 6 _).set_ 7 _).set_ 8 _) Tryz.underlying325 rfl (by kernel_rfl)) rfl ?_;refine ⟨(a1, a2, a3), (b1, b2, b3), (c1, c2, c3), ?_, Hres, hfin.out⟩;simp only [zzD, zzE, zzF]
def inR (v : Int) : Bool := within v (-1048576) 1048576
theorem zoc {v : Int} (h : inR v = false) : decide (v < -1048576) = true ∨ (decide (v < -1048576) = false ∧ decide (1048576 < v) = true) := by
 simp only [inR, within, Bool.and_eq_false_iff, zzI] at h;simp only [zzJ, zzI];omega
theorem zlH {v : Int} (h : inR v = true) : decide (v < -1048576) = false ∧ decide (1048576 < v) = false := by
 simp only [inR, within, zm, zzJ] at h;simp only [zzI];omega
theorem zqy (x y z : Int) : zJ 1048576 (x, y, z) = [x, y, z].all inR := by
 simp [zJ, inR, Bool.and_assoc]
theorem zmL (A : Option Addr) (l : List Pt) (n c : Nat) (w : World) {B : Nat} (h : PtsAt w B A l) (hB : B ≤ w.heap.size) (hn : n = l.length) (hm : n ≤ 300000) :
  Calls Tryz.prog 245 #[.slice A n c] w fun e w' => e = .returned (.bool (l.all (zJ 1048576))) ∧ Below w.heap.size w w' := by
 have Hs := zf h;have hn' := zf hn;have Hok := zf (show l.all (zJ 1048576) = (l.drop 0).all (zJ 1048576) from rfl);obtain ⟨rb, hrb⟩ : ∃ rb, rb = l.all (zJ 1048576) := ⟨_, rfl⟩;rw [← hrb] at Hok ⊢;clear h hn hrb;go_enter Tryz.func245, Tryz.ntmps245;go_wp2;go_loopw [9] (fun i wr => ∃ k : Nat, k ≤ n ∧ i = .int .i64 k ∧ Hid (rb = (l.drop k).all (zJ 1048576)) ∧ Below w.heap.size w wr) (fun i _ => n - (intOf i).toNat)
 case atStart => exact ⟨0, zu _, rfl, Hok, Below.refl _ _⟩
 case round =>
  obtain ⟨k, hk, rfl, hq, hbr⟩ := hrel;by_cases hlt : k < n
  ·obtain ⟨b, off, x, hA, hbl, hx, k0, k1, k2⟩ := PtsAt.get (k := k) (Hs.out.carry (Flat.carried _) (hbr.mono hB) (ze B)) (by rw [← hn'.out]; exact hlt);obtain ⟨x1, x2, x3⟩ := x;have Hq := zf (hq.out.trans (by rw [zaX hx, List.all_cons, zqy]));obtain ⟨rest, hrest⟩ : ∃ r, r = (l.drop (k + 1)).all (zJ 1048576) := ⟨_, rfl⟩;rw [← hrest] at Hq;have Hrest := zf hrest;clear hrest;simp only at k0 k1 k2;subst hA;clear hx hq hbl;have i0 := ztH;have i1 := ztG;have i2 := ztF;go_wp2;go_loopw [20] (fun i wr' => ∃ j : Nat, j ≤ 3 ∧ i = .int .i64 j ∧ Hid (rb = ((([x1, x2, x3] : List Int).drop j).all inR && rest)) ∧ Below w.heap.size w wr') (fun i _ => 3 - (intOf i).toNat)
   case atStart => exact ⟨0, zu _, rfl, Hq, hbr.alloc hbr.size _⟩
   case round =>
    obtain ⟨j, hj, rfl, hjq, hbj⟩ := hrel;rcases j with _ | _ | _ | _ | j
    ·cases hv : inR x1
     ·have hres := zf (show rb = false by rw [hjq.out]; simp [List.all_cons, hv]);have hcase := zoc hv;clear hv hjq;rcases hcase with q0 | ⟨q0, q1⟩
      all_goals
       go_wp2;go_ret;exact ⟨zo hres.out.symm, hbj⟩
     ·have hn2 := zf (show rb = ((([x1, x2, x3] : List Int).drop 1).all inR && rest) by rw [hjq.out]; simp [List.all_cons, hv]);obtain ⟨q0, q1⟩ := zlH hv;clear hv hjq;go_wp2;go_roundw
      case rel => exact ⟨1, by omega, by go_num, hn2, hbj⟩
      case measure => simp [intOf]
    ·cases hv : inR x2
     ·have hres := zf (show rb = false by rw [hjq.out]; simp [List.all_cons, hv]);have hcase := zoc hv;clear hv hjq;rcases hcase with q0 | ⟨q0, q1⟩
      all_goals
       go_wp2;go_ret;exact ⟨zo hres.out.symm, hbj⟩
     ·have hn2 := zf (show rb = ((([x1, x2, x3] : List Int).drop 2).all inR && rest) by rw [hjq.out]; simp [List.all_cons, hv]);obtain ⟨q0, q1⟩ := zlH hv;clear hv hjq;go_wp2;go_roundw
      case rel => exact ⟨2, by omega, by go_num, hn2, hbj⟩
      case measure => simp [intOf]
    ·cases hv : inR x3
     ·have hres := zf (show rb = false by rw [hjq.out]; simp [List.all_cons, hv]);have hcase := zoc hv;clear hv hjq;rcases hcase with q0 | ⟨q0, q1⟩
      all_goals
       go_wp2;go_ret;exact ⟨zo hres.out.symm, hbj⟩
     ·have hn2 := zf (show rb = ((([x1, x2, x3] : List Int).drop 3).all inR && rest) by rw [hjq.out]; simp [List.all_cons, hv]);obtain ⟨q0, q1⟩ := zlH hv;clear hv hjq;go_wp2;go_roundw
      case rel => exact ⟨3, by omega, by go_num, hn2, hbj⟩
      case measure => simp [intOf]
    ·have hend := zf (show rb = rest by rw [hjq.out]; rfl);go_wp2;go_roundw
     case rel => exact ⟨k + 1, by omega, by go_num, zf (hend.out.trans Hrest.out), hbj⟩
     case measure => simp [intOf]; omega
    ·omega
  ·obtain rfl : k = n := by omega
   have hfull := zf (show rb = true by rw [hq.out, hn'.out, zar]; rfl);go_wp2;go_ret;exact ⟨zo hfull.out.symm, hbr⟩
abbrev dmV (d : DemD) (A : Option Addr) (n c : Nat) : Value := .agg #[.string d.name, .int .i64 d.zone.lo.1, .int .i64 d.zone.lo.2.1, .int .i64 d.zone.lo.2.2, .int .i64 d.zone.hi.1, .int .i64 d.zone.hi.2.1, .int .i64 d.zone.hi.2.2, .slice A n c]
abbrev dmC (d : DemD) (A : Option Addr) (n c : Nat) : Array Value := #[.string d.name, .int .i64 d.zone.lo.1, .int .i64 d.zone.lo.2.1, .int .i64 d.zone.lo.2.2, .int .i64 d.zone.hi.1, .int .i64 d.zone.hi.2.1, .int .i64 d.zone.hi.2.2, .slice A n c]
def zpV (l : List DemD) : Prop := ∀ d ∈ l, d.name.size ≤ maxLen ∧ (d.steps.length : Int) ≤ 9223372036854775807
theorem zgl (d : DemD) (A : Option Addr) (c : Nat) (w : World) {B : Nat} (h : StpsAt w B A d.steps) (hB : B ≤ w.heap.size) (hm : d.name.size ≤ maxLen) (hl : (d.steps.length : Int) ≤ 9223372036854775807) :
  Calls Tryz.prog 184 #[dmV d A d.steps.length c] w fun e w' => e = .returned (.bool (zeC d)) ∧ Below w.heap.size w w' := by
 have HN := zf (fun (wz : World) => zf3 d.name wz hm);have HX := zf (fun (wz : World) => za0 d.zone wz);have HS := zf (fun (wz : World) (hz : Below w.heap.size w wz) => zdR A d.steps d.steps.length c wz (h.carry (Flat.carried _) (hz.mono hB) (ze B)) (zh hB hz.size) rfl hl);obtain ⟨tn, htn⟩ : ∃ t, t = zb8 d.name := ⟨_, rfl⟩;obtain ⟨tx, htx⟩ : ∃ t, t = zad d.zone := ⟨_, rfl⟩;obtain ⟨ts, hts⟩ : ∃ t, t = zau d.steps := ⟨_, rfl⟩;have Hr := zf (show zeC d = (tn && tx && ts) by rw [zeC, htn, htx, hts]);rw [← htn] at HN;rw [← htx] at HX;rw [← hts] at HS;clear htn htx hts h;have Hb := zf (Blk.new w 69 (dmC d A d.steps.length c));have Hw := zf (zk w (.cells (dmC d A d.steps.length c) 69));obtain ⟨name, ⟨⟨x, y, z⟩, ⟨x2, y2, z2⟩⟩, steps⟩ := d;simp only [dmC] at HN HX HS Hb Hw;obtain ⟨n, hn⟩ : ∃ n, n = steps.length := ⟨_, rfl⟩;simp only [dmV];rw [← hn] at HS Hb Hw ⊢;clear hn;cases tn
 ·go_enter Tryz.func184, Tryz.ntmps184;go_wp2_with (go_at_call 167; refine (HN.out _).mono ?_; rintro e w2 ⟨rfl, rfl⟩);go_ret;exact ⟨zo Hr.out.symm, Hw.out⟩
 cases tx
 ·go_enter Tryz.func184, Tryz.ntmps184;go_wp2_with (first
   | (go_at_call 167; refine (HN.out _).mono ?_; rintro e w2 ⟨rfl, rfl⟩)
   | (go_at_call 122; refine (HX.out _).mono ?_; rintro e w2 ⟨rfl, hb2⟩))
  go_ret;exact ⟨zo Hr.out.symm, zg Hw.out hb2 (ze _)⟩
 ·go_enter Tryz.func184, Tryz.ntmps184;go_wp2_with (first
   | (go_at_call 167; refine (HN.out _).mono ?_; rintro e w2 ⟨rfl, rfl⟩)
   | (go_at_call 122; refine (HX.out _).mono ?_; rintro e w2 ⟨rfl, hb2⟩; have c7 := (Hb.out.keep hb2).cell 7; simp at c7)
   | (go_at_call 241; refine (HS.out _ (zg Hw.out hb2 (ze _))).mono ?_; rintro e w3 ⟨rfl, hb3⟩))
  go_ret;exact ⟨zo Hr.out.symm, zg (zg Hw.out hb2 (ze _)) hb3 (ze _)⟩
theorem zis (A : Option Addr) (l : List DemD) (n c : Nat) (fid : FuncId) (caps : Array Value) (p : DemD → Bool) (w : World) {B : Nat} (h : DemsAt w B A l) (hB : B ≤ w.heap.size) (hn : n = l.length) (hm : n ≤ 60000)
  (hc : ∀ args w, (callFunc fid args).run Tryz.prog w = .ok (.enter fid args) w)
  (hf : ∀ x A' c' (W : World), x ∈ l → Below w.heap.size w W → Calls Tryz.prog fid (#[dmV x A' x.steps.length c'] ++ caps) W fun e W' => e = .returned (.bool (p x)) ∧ Below W.heap.size W W') :
  Calls Tryz.prog 242 #[.slice A n c, .func (.func fid) #[] caps] w fun e w' => e = .returned (.int .i64 (idx p l)) ∧ Below w.heap.size w w' := by
 have Hf := zf hf;have hn' := zf hn;have Hs := zf h;clear hf hn h;go_enter Tryz.func242, Tryz.ntmps242;go_wp2;go_loopw [8] (fun i wr => ∃ k : Nat, k ≤ n ∧ i = .int .i64 k ∧ NoneTo p l k ∧ Below w.heap.size w wr) (fun i _ => n - (intOf i).toNat)
 case atStart => exact ⟨0, zu _, rfl, NoneTo.zero _ _, Below.refl _ _⟩
 case round =>
  obtain ⟨k, hk, rfl, hw, hb⟩ := hrel;by_cases hlt : k < n
  ·obtain ⟨b, off, x, A', c', rfl, hbl, hx, hi, hcells⟩ := DemsAt.get (k := k) (Hs.out.carry zba (hb.mono hB) (ze _)) (by rw [← hn'.out]; exact hlt);have h0 := hcells 0 _ rfl;have h1 := hcells 1 _ rfl;have h2 := hcells 2 _ rfl;have h3 := hcells 3 _ rfl;have h4 := hcells 4 _ rfl;have h5 := hcells 5 _ rfl;have h6 := hcells 6 _ rfl;have h7 := hcells 7 _ rfl;rw [Nat.add_zero] at h0;have Hx := zf hx;have HF := zf (fun (W : World) (hW : Below w.heap.size w W) => Hf.out x A' c' W (zv hx) hW);clear hx hi hcells hbl;go_wp2_with fail;refine (HF.out _ hb).mono ?_;rintro e w1 ⟨rfl, hb1⟩;clear h0 h1 h2 h3 h4 h5 h6 h7;have hb2 := zg hb hb1 (ze _);cases hp : p x
   ·have Hp := zf hp;clear hp;go_wp2;go_roundw
    case rel => exact ⟨k + 1, by omega, by go_num, hw.succ Hx.out Hp.out, hb2⟩
    case measure => simp [intOf]; omega
   ·have Hp := zf hp;clear hp;go_wp2;go_ret;exact ⟨zam (hw.hit Hx.out Hp.out).symm, hb2⟩
  ·obtain rfl : k = n := by omega
   go_wp2;go_ret;exact ⟨zam (NoneTo.miss (by rw [← hn'.out]; exact hw)).symm, hb⟩
theorem zgZ (A : Option Addr) (l : List DemD) (n c : Nat) (fid : FuncId) (caps : Array Value) (p : DemD → Bool) (w : World) {B : Nat} (h : DemsAt w B A l) (hB : B ≤ w.heap.size) (hn : n = l.length) (hm : n ≤ 60000)
  (hc : ∀ args w, (callFunc fid args).run Tryz.prog w = .ok (.enter fid args) w)
  (hf : ∀ x A' c' (W : World), x ∈ l → Below w.heap.size w W → Calls Tryz.prog fid (#[dmV x A' x.steps.length c'] ++ caps) W fun e W' => e = .returned (.bool (p x)) ∧ Below W.heap.size W W') :
  Calls Tryz.prog 185 #[.slice A n c, .func (.func fid) #[] caps] w fun e w' => e = .returned (.bool (za5 p l)) ∧ Below w.heap.size w w' := by
 have Hf := zf hf;have hn' := zf hn;have Hc := zf hc;clear hf hn hc;go_enter Tryz.func185, Tryz.ntmps185;go_wp2_with fail;refine (zis A l n c fid caps p w h hB hn'.out hm Hc.out Hf.out).mono ?_;rintro e w1 ⟨rfl, hb⟩;go_wp2;go_ret;exact ⟨zo (by rw [zfj]; rfl), hb⟩
theorem znZ (x : DemD) (A : Option Addr) (c : Nat) (m : ByteArray) (g : Nat) (w : World) (h0 : w.cell? ⟨g, 0, none⟩ = some (.string m)) :
  Calls Tryz.prog 186 #[dmV x A x.steps.length c, .pointer (some ⟨g, 0, none⟩)] w fun e w' => e = .returned (.bool (zc2 m x)) ∧ Below w.heap.size w w' := by
 have hg : g < w.heap.size := World.block_lt_of_cell? w _ h0;have h1 := fun o => (World.cell?_alloc_lt w o ⟨g, 0, none⟩ hg).trans h0;obtain ⟨name, ⟨⟨x, y, z⟩, ⟨x2, y2, z2⟩⟩, steps⟩ := x;go_enter Tryz.func186, Tryz.ntmps186;go_wp2;go_ret;exact ⟨zo (by rfl), zk _ _⟩
theorem znY {l : List DemD} {k : Nat} {d : DemD} (h : l[k]? = some d) : zc7 (l.take k) (l.drop k) = (zeC d && !za5 (zc2 d.name) (l.take k) && zc7 (l.take (k + 1)) (l.drop (k + 1))) := by
 rw [zaX h, zQ h]
 rfl
theorem zi4 (A : Option Addr) (l : List DemD) (n c : Nat) (w : World) {B : Nat} (h : DemsAt w B A l) (hB : B ≤ w.heap.size) (hn : n = l.length) (hm : (n : Int) ≤ 9223372036854775807) (hcap : n ≤ c) (ht : zpV l) :
  Calls Tryz.prog 118 #[.slice A n c] w fun e w' => e = .returned (.bool (zb0 l)) ∧ Below w.heap.size w w' := by
 have hn' := zf hn;have Hs := zf h;have Ht := zf ht;by_cases h20 : 20 < n
 ·have hr := zf (show zb0 l = false by simp [zb0]; omega);have d0 : decide (20 < (n : Int)) = true := by simp; omega
  clear hn h h20 ht;go_enter Tryz.func118, Tryz.ntmps118;go_wp2;go_ret;exact ⟨zo hr.out.symm, Below.refl _ _⟩
 have hr := zf (show zb0 l = zc7 (l.take 0) (l.drop 0) by simp [zb0]; omega);have d0 : decide (20 < (n : Int)) = false := by simp; omega
 have hn2 : n ≤ 20 := by omega
 clear hn h h20 ht hm;go_enter Tryz.func118, Tryz.ntmps118;go_wp2;go_loopw [10] (fun i wr => ∃ k : Nat, k ≤ n ∧ i = .int .i64 k ∧ Hid (zb0 l = zc7 (l.take k) (l.drop k)) ∧ Below w.heap.size w wr) (fun i _ => n - (intOf i).toNat)
 case atStart => exact ⟨0, zu _, rfl, hr, Below.refl _ _⟩
 case round =>
  obtain ⟨k, hk, rfl, hq, hbr⟩ := hrel;by_cases hlt : k < n
  ·have HR := zf (Hs.out.carry zba (hbr.mono hB) (ze B));have hBr := zh hB hbr.size;obtain ⟨b, off, x, A', c', hA, hbl, hx, hi, hcells⟩ := DemsAt.get (k := k) HR.out (by rw [← hn'.out]; exact hlt);have h0 := hcells 0 _ rfl;have h1 := hcells 1 _ rfl;have h2 := hcells 2 _ rfl;have h3 := hcells 3 _ rfl;have h4 := hcells 4 _ rfl;have h5 := hcells 5 _ rfl;have h6 := hcells 6 _ rfl;have h7 := hcells 7 _ rfl;rw [Nat.add_zero] at h0;have hs1 := zf (hq.out.trans (znY hx));have hxt := Ht.out x (zv hx);have hlk : (l.take k).length = k := by rw [zG, ← hn'.out]; omega
   have HRt := zf (fun (W : World) (hW : Below wr.heap.size wr W) => zgl x A' c' W (hi.carry (Flat.carried _) (hW.mono hBr) (ze B)) (zh hBr hW.size) hxt.1 hxt.2);have HC := zf (fun (W : World) (hW : Below wr.heap.size wr W) (caps : Array Value) (hf : ∀ y A2 c2 (W2 : World), y ∈ l.take k → Below W.heap.size W W2 → Calls Tryz.prog 186 (#[dmV y A2 y.steps.length c2] ++ caps) W2 fun e W' => e = .returned (.bool (zc2 x.name y)) ∧ Below W2.heap.size W2 W') (c3 : Nat) =>
    zgZ A (l.take k) k c3 186 caps (zc2 x.name) W (SlOf.take (HR.out.carry zba (hW.mono hBr) (ze B)) k) (zh hBr hW.size) hlk.symm (by omega) Tryz.call186 hf)
   obtain ⟨tr, htr⟩ : ∃ t, t = zeC x := ⟨_, rfl⟩;obtain ⟨ts, hts⟩ : ∃ t, t = za5 (zc2 x.name) (l.take k) := ⟨_, rfl⟩;rw [← htr, ← hts] at hs1;rw [← htr] at HRt;rw [← hts] at HC;have Hb := zf (Blk.new wr 69 (dmC x A' x.steps.length c'));have Hw := zf (zk wr (.cells (dmC x A' x.steps.length c') 69));subst hA;clear hx hi hcells hbl htr hts hq hlk hxt;obtain ⟨name, ⟨⟨x, y, z⟩, ⟨x2, y2, z2⟩⟩, steps⟩ := x;simp only [dmC] at h0 h1 h2 h3 h4 h5 h6 h7 HRt HC Hb Hw;cases tr
   ·have hres := zf (show false = zb0 l by rw [hs1.out]; rfl);go_wp2_with (go_at_call 184; refine (HRt.out _ Hw.out).mono ?_; rintro e w2 ⟨rfl, hb2⟩);go_ret;exact ⟨zo hres.out, hbr.trans ((zg Hw.out hb2 (ze _)).mono hbr.size)⟩
   ·go_wp2_with fail;refine (HRt.out _ Hw.out).mono ?_;rintro e w2 ⟨rfl, hb2⟩;have Hb2 := zf (Hb.out.keep hb2);have Hw2 := zf (zg Hw.out hb2 (ze _));have c0 := Hb2.out.cell 0;simp at c0;clear hb2;go_wp2_with fail;refine (HC.out _ Hw2.out #[.pointer (some ⟨wr.heap.size, 0, none⟩)] (fun y A2 c2 W2 _ hW => znZ y A2 c2 name wr.heap.size W2 (by have h9 := (Hb2.out.keep hW).cell 0; simpa using h9)) _).mono ?_;rintro e w3 ⟨rfl, hb3⟩;have Hw3 := zf (hbr.trans ((zg Hw2.out hb3 (ze _)).mono hbr.size));clear hb3;cases ts
    ·have hnext := zf (show zb0 l = zc7 (l.take (k + 1)) (l.drop (k + 1)) by rw [hs1.out]; rfl);go_wp2;go_roundw
     case rel => exact ⟨k + 1, by omega, by go_num, hnext, Hw3.out⟩
     case measure => simp [intOf]; omega
    ·have hres := zf (show false = zb0 l by rw [hs1.out]; rfl);go_wp2;go_ret;exact ⟨zo hres.out, Hw3.out⟩
  ·obtain rfl : k = n := by omega
   have hfull := zf (show zb0 l = true by rw [hq.out, hn'.out, zar]; rfl);go_wp2;go_ret;exact ⟨zo hfull.out.symm, hbr⟩
theorem zp4 {b : BoxD} (h : zbd b = true) : zad b = true := by
 simp only [zbd, zm] at h;exact h.1.1.1
theorem zgE {bs hs : List BoxD} (h : zaZ bs hs = true) : 1 ≤ bs.length ∧ bs.length ≤ 20 ∧ bs.all zad = true := by
 simp only [zaZ, zm, zzJ] at h;exact ⟨h.1.1.1.1, h.1.1.1.2, List.all_eq_true.2 fun x hx => zp4 (List.all_eq_true.1 h.1.2 x hx)⟩
theorem zlP (bs hs : List BoxD) (A1 A2 : Option Addr) (n1 n2 c1 c2 : Nat) (w : World) {B : Nat} (h1 : BoxesAt w B A1 bs) (h2 : BoxesAt w B A2 hs) (hB : B ≤ w.heap.size) (hn1 : n1 = bs.length) (hn2 : n2 = hs.length) (hok : zaZ bs hs = true) :
  Calls Tryz.prog 192 #[sol A1 n1 c1 A2 n2 c2] w fun e w' => e = .returned (.tuple #[bx (zex bs), .int .i64 0]) ∧ Below w.heap.size w w' := by
 obtain ⟨b1, b2, b3⟩ := zgE hok;have HV := fun (W : World) (hz : Below w.heap.size w W) => ze8 bs hs A1 A2 n1 n2 c1 c2 W (h1.carry (Flat.carried _) (hz.mono hB) (ze _)) (h2.carry (Flat.carried _) (hz.mono hB) (ze _)) (zh hB hz.size) hn1 hn2;rw [hok] at HV;have HV := zf HV;have HH := zf (fun (W : World) (hz : Below w.heap.size w W) => zj0 A1 bs n1 c1 W (h1.carry (Flat.carried _) (hz.mono hB) (ze _)) (zh hB hz.size) hn1 (by omega) (by omega) b3);generalize zex bs = hb at *;obtain ⟨⟨x1, x2, x3⟩, x4, x5, x6⟩ := hb;have k0 := (Blk.new w 24 #[.slice A1 n1 c1, .slice A2 n2 c2]).alloc (.cells #[.int .i64 0, .int .i64 0, .int .i64 0, .int .i64 0, .int .i64 0, .int .i64 0] 62);have k1 := Blk.new1 w (.cells #[.slice A1 n1 c1, .slice A2 n2 c2] 24) 62 #[.int .i64 0, .int .i64 0, .int .i64 0, .int .i64 0, .int .i64 0, .int .i64 0];have K0 := zf k0;have K1 := zf k1;have HW := zf (zH w (.cells #[.slice A1 n1 c1, .slice A2 n2 c2] 24) (.cells #[.int .i64 0, .int .i64 0, .int .i64 0, .int .i64 0, .int .i64 0, .int .i64 0] 62));clear h1 h2 hB hn1 hn2 hok b1 b2 b3 k0 k1;go_enter Tryz.func192, Tryz.ntmps192;go_wp2_with fail;refine (HV.out _ HW.out).mono ?_;rintro e w2 ⟨rfl, hb2⟩;have k0 := K0.out.keep hb2;have HW2 := zf (zg HW.out hb2 (ze _));have K1 := zf (K1.out.keep hb2);have e0 := k0.cell 0;simp at e0;clear hb2 k0 K0 HV;go_wp2_with fail;refine (HH.out _ HW2.out).mono ?_;rintro e w3 ⟨rfl, hb3⟩;have k1 := K1.out.keep hb3;have HW3 := zf (zg HW2.out hb3 (ze _));have e0 := k1.cell 0;have e1 := k1.cell 1;have e2 := k1.cell 2;have e3 := k1.cell 3;have e4 := k1.cell 4;have e5 := k1.cell 5;have f0 := k1.frozen 0;have f1 := k1.frozen 1;have f2 := k1.frozen 2;have f3 := k1.frozen 3;have f4 := k1.frozen 4;have f5 := k1.frozen 5;simp at e0 e1 e2 e3 e4 e5;have K1 := zf k1;clear hb3 k1 HH;go_wp2_with fail;refine bodyPost_ret (zbK rfl rfl ((((((K1.out.set_ 0 _).set_ 1 _).set_ 2 _).set_ 3 _).set_ 4 _).set_ 5 _) Tryz.underlying62 rfl (by kernel_rfl)) rfl ?_;refine ⟨?_, (((((HW3.out.setCell (p := ⟨w.heap.size + 1, 0, none⟩) (zao _) _).setCell (p := ⟨w.heap.size + 1, 1, none⟩) (zao _) _).setCell (p := ⟨w.heap.size + 1, 2, none⟩) (zao _) _).setCell (p := ⟨w.heap.size + 1, 3, none⟩) (zao _) _).setCell (p := ⟨w.heap.size + 1, 4, none⟩) (zao _) _).setCell (p := ⟨w.heap.size + 1, 5, none⟩) (zao _) _⟩;simp only [zzD, zzE, zzF]
 rfl
end Go.Proofs.YtpaanfjjnjjoeaaGreat
