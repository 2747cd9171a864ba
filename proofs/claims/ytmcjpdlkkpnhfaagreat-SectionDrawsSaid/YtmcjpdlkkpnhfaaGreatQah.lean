/- The reference of layer 12: the moves and the legs of a valid bar. -/
import Derived.Test.YtmcjpdlkkpnhfaaGreatQae
import Derived.Test.YtmcjpdlkkpnhfaaGreatQad
import Derived.BigRegion
import Derived.Deep.RegionHeld3
import Derived.StillTailTactics
namespace Go.Proofs.YtmcjpdlkkpnhfaaGreat
open Go.RowKit

theorem int_cell {w : World} {B : Nat} {b off k : Nat} {l : List Int} {y : Int} (h : Ints w B (some ⟨b, off, none⟩) l) (hy : l[k]? = some y) : w.cell? ⟨b, off + k, none⟩ = some (.int .i64 y) := by
  obtain ⟨b', off', z, hA, _, hz, hc⟩ := h.get (k := k) (lt_of_get hy)
  injection hA with hA
  injection hA with h1 h2
  subst h1; subst h2
  rw [hy] at hz; injection hz with hz; rw [hz]; exact hc

/-- A region has drawn its order. -/
abbrev drawnAt (w : World) (d : Nat) : World := { w with drawn := d }
theorem pts_new2 {w : World} {o : Obj} {e : TypeId} {cs : Array Value} {l : List (Int × Int × Int)} {B : Nat} (hcs : cs.toList = l.flatMap encPt) (hB : w.heap.size + 1 < B) :
    PtsAt ((w.alloc o).alloc (.cells cs e)) B (some ⟨w.heap.size + 1, 0, none⟩) l := by
  have h := SlOf.lit encPt_len (w.alloc o) e cs l hcs (B := B) (by simpa using hB)
  simpa using h
theorem pts_drew2 {w : World} {e : TypeId} {cs : Array Value} {l : List (Int × Int × Int)} (hcs : cs.toList = l.flatMap encPt) :
    PtsAt ((w.alloc (.cells cs e)).drew) (w.alloc (.cells cs e)).drew.heap.size (some ⟨w.heap.size, 0, none⟩) l := by
  have h := SlOf.lit (B := w.heap.size + 1) encPt_len w e cs l hcs (by simp)
  have h2 := SlOf.carry (Flat.carried _) h (Below.drew (Below.refl (w.heap.size + 1) _)) (Nat.le_refl (w.heap.size + 1))
  simpa [World.drew] using h2
set_option maxHeartbeats 4000000 in
set_option maxRecDepth 100000 in
theorem refMoves0 (mark : ByteArray) (size count : Int) (d0 : Int) (A : Option Addr) (c : Nat) (w : World) {B : Nat} (hA : Ints w B A [d0]) (hB : B ≤ w.heap.size) (h0 : 1 ≤ d0 ∧ d0 ≤ 262144) :
    Calls Tryz.prog 177 #[.agg #[.string mark, .int .i64 size, .int .i64 count, .int .i64 0, .slice A 1 c]] w fun e w' =>
      ∃ A', e = .returned (.slice A' 1 1) ∧ PtsAt w' w'.heap.size A' [(d0, 0, 0)] ∧ Below w.heap.size w w' := by
  have hbo := fun o => hA.carry ((Below.refl B w).alloc hB o) (Nat.le_refl _)
  obtain ⟨b, off, hA', hbl, _⟩ := hA (by simp)
  subst hA'
  have c0 := fun o => int_cell (k := 0) (hbo o) rfl
  simp only [Nat.add_zero] at c0
  have hbl' : b < w.heap.size := by omega
  obtain ⟨l0, u0⟩ := h0
  clear hA hbo hbl
  go_enter Tryz.func177, Tryz.ntmps177
  go_wp2_with fail
  go_ret
  refine ⟨_, rfl, ?_, ?_⟩
  · exact pts_new2 rfl (by simp)
  · exact below_new2 w _ _
set_option maxHeartbeats 4000000 in
set_option maxRecDepth 100000 in
theorem refMoves11 (mark : ByteArray) (size count : Int) (d0 d1 : Int) (A : Option Addr) (c : Nat) (w : World) {B : Nat} (hA : Ints w B A [d0, d1]) (hB : B ≤ w.heap.size) (h0 : 1 ≤ d0 ∧ d0 ≤ 262144) (h1 : 1 ≤ d1 ∧ d1 ≤ 262144) :
    Calls Tryz.prog 177 #[.agg #[.string mark, .int .i64 size, .int .i64 count, .int .i64 11, .slice A 2 c]] w fun e w' =>
      ∃ A', e = .returned (.slice A' 2 2) ∧ PtsAt w' w'.heap.size A' [(d0, 0, 0), (0, d1, 0)] ∧ Below w.heap.size w w' := by
  have hbo := fun o => hA.carry ((Below.refl B w).alloc hB o) (Nat.le_refl _)
  obtain ⟨b, off, hA', hbl, _⟩ := hA (by simp)
  subst hA'
  have hb0 := hbo (.cells #[.string mark, .int .i64 size, .int .i64 count, .int .i64 11, .slice (some ⟨b, off, none⟩) 2 c] 57)
  have c0 : ∀ d, (drawnAt (w.alloc (.cells #[.string mark, .int .i64 size, .int .i64 count, .int .i64 11, .slice (some ⟨b, off, none⟩) 2 c] 57)) d).cell? ⟨b, off, none⟩ = some (.int .i64 d0) := fun _ => int_cell (k := 0) hb0 rfl
  have c1 : ∀ d, (drawnAt (w.alloc (.cells #[.string mark, .int .i64 size, .int .i64 count, .int .i64 11, .slice (some ⟨b, off, none⟩) 2 c] 57)) d).cell? ⟨b, off + 1, none⟩ = some (.int .i64 d1) := fun _ => int_cell (k := 1) hb0 rfl
  obtain ⟨l0, u0⟩ := h0
  obtain ⟨l1, u1⟩ := h1
  have hbl' : b < w.heap.size := by omega
  clear hA hbo hbl hb0
  go_enter Tryz.func177, Tryz.ntmps177
  go_wp2_with fail
  obtain ⟨W, hW⟩ : ∃ W, W = w.alloc (.cells #[.string mark, .int .i64 size, .int .i64 count, .int .i64 11, .slice (some ⟨b, off, none⟩) 2 c] 57) := ⟨_, rfl⟩
  rw [← hW]
  simp only [← hW, drawnAt] at c0 c1
  have HW := hide hW
  clear hW
  go_still_tail 8, (by kernel_rfl)
  change wpList _ _ _ _ _ (World.drew W)
  clear c0 c1
  go_wp2_with fail
  obtain rfl := HW.out
  go_ret
  refine ⟨_, rfl, ?_, ?_⟩
  · exact pts_drew2 rfl
  · exact (below_new2 w _ _).drew
set_option maxHeartbeats 4000000 in
set_option maxRecDepth 100000 in
theorem refMoves21 (mark : ByteArray) (size count : Int) (d0 d1 d2 : Int) (A : Option Addr) (c : Nat) (w : World) {B : Nat} (hA : Ints w B A [d0, d1, d2]) (hB : B ≤ w.heap.size) (h0 : 1 ≤ d0 ∧ d0 ≤ 262144) (h1 : 1 ≤ d1 ∧ d1 ≤ 262144) (h2 : 1 ≤ d2 ∧ d2 ≤ 262144) :
    Calls Tryz.prog 177 #[.agg #[.string mark, .int .i64 size, .int .i64 count, .int .i64 21, .slice A 3 c]] w fun e w' =>
      ∃ A', e = .returned (.slice A' 3 3) ∧ PtsAt w' w'.heap.size A' [(0, -d0, 0), (d1, 0, 0), (0, d2, 0)] ∧ Below w.heap.size w w' := by
  have hbo := fun o => hA.carry ((Below.refl B w).alloc hB o) (Nat.le_refl _)
  obtain ⟨b, off, hA', hbl, _⟩ := hA (by simp)
  subst hA'
  have hb0 := hbo (.cells #[.string mark, .int .i64 size, .int .i64 count, .int .i64 21, .slice (some ⟨b, off, none⟩) 3 c] 57)
  have c0 : ∀ d, (drawnAt (w.alloc (.cells #[.string mark, .int .i64 size, .int .i64 count, .int .i64 21, .slice (some ⟨b, off, none⟩) 3 c] 57)) d).cell? ⟨b, off, none⟩ = some (.int .i64 d0) := fun _ => int_cell (k := 0) hb0 rfl
  have c1 : ∀ d, (drawnAt (w.alloc (.cells #[.string mark, .int .i64 size, .int .i64 count, .int .i64 21, .slice (some ⟨b, off, none⟩) 3 c] 57)) d).cell? ⟨b, off + 1, none⟩ = some (.int .i64 d1) := fun _ => int_cell (k := 1) hb0 rfl
  have c2 : ∀ d, (drawnAt (w.alloc (.cells #[.string mark, .int .i64 size, .int .i64 count, .int .i64 21, .slice (some ⟨b, off, none⟩) 3 c] 57)) d).cell? ⟨b, off + 2, none⟩ = some (.int .i64 d2) := fun _ => int_cell (k := 2) hb0 rfl
  obtain ⟨l0, u0⟩ := h0
  obtain ⟨l1, u1⟩ := h1
  obtain ⟨l2, u2⟩ := h2
  have hbl' : b < w.heap.size := by omega
  clear hA hbo hbl hb0
  go_enter Tryz.func177, Tryz.ntmps177
  go_wp2_with fail
  obtain ⟨W, hW⟩ : ∃ W, W = w.alloc (.cells #[.string mark, .int .i64 size, .int .i64 count, .int .i64 21, .slice (some ⟨b, off, none⟩) 3 c] 57) := ⟨_, rfl⟩
  rw [← hW]
  simp only [← hW, drawnAt] at c0 c1 c2
  have HW := hide hW
  clear hW
  go_still_tail 13, (by kernel_rfl)
  change wpList _ _ _ _ _ (World.drew W)
  clear c0 c1 c2
  go_wp2_with fail
  obtain rfl := HW.out
  go_ret
  refine ⟨_, rfl, ?_, ?_⟩
  · exact pts_drew2 rfl
  · exact (below_new2 w _ _).drew
set_option maxHeartbeats 4000000 in
set_option maxRecDepth 100000 in
theorem refMoves26 (mark : ByteArray) (size count : Int) (d0 d1 d2 : Int) (A : Option Addr) (c : Nat) (w : World) {B : Nat} (hA : Ints w B A [d0, d1, d2]) (hB : B ≤ w.heap.size) (h0 : 1 ≤ d0 ∧ d0 ≤ 262144) (h1 : 1 ≤ d1 ∧ d1 ≤ 262144) (h2 : 1 ≤ d2 ∧ d2 ≤ 262144) :
    Calls Tryz.prog 177 #[.agg #[.string mark, .int .i64 size, .int .i64 count, .int .i64 26, .slice A 3 c]] w fun e w' =>
      ∃ A', e = .returned (.slice A' 3 3) ∧ PtsAt w' w'.heap.size A' [(d0, 0, 0), (0, d1, 0), (d2, 0, 0)] ∧ Below w.heap.size w w' := by
  have hbo := fun o => hA.carry ((Below.refl B w).alloc hB o) (Nat.le_refl _)
  obtain ⟨b, off, hA', hbl, _⟩ := hA (by simp)
  subst hA'
  have hb0 := hbo (.cells #[.string mark, .int .i64 size, .int .i64 count, .int .i64 26, .slice (some ⟨b, off, none⟩) 3 c] 57)
  have c0 : ∀ d, (drawnAt (w.alloc (.cells #[.string mark, .int .i64 size, .int .i64 count, .int .i64 26, .slice (some ⟨b, off, none⟩) 3 c] 57)) d).cell? ⟨b, off, none⟩ = some (.int .i64 d0) := fun _ => int_cell (k := 0) hb0 rfl
  have c1 : ∀ d, (drawnAt (w.alloc (.cells #[.string mark, .int .i64 size, .int .i64 count, .int .i64 26, .slice (some ⟨b, off, none⟩) 3 c] 57)) d).cell? ⟨b, off + 1, none⟩ = some (.int .i64 d1) := fun _ => int_cell (k := 1) hb0 rfl
  have c2 : ∀ d, (drawnAt (w.alloc (.cells #[.string mark, .int .i64 size, .int .i64 count, .int .i64 26, .slice (some ⟨b, off, none⟩) 3 c] 57)) d).cell? ⟨b, off + 2, none⟩ = some (.int .i64 d2) := fun _ => int_cell (k := 2) hb0 rfl
  obtain ⟨l0, u0⟩ := h0
  obtain ⟨l1, u1⟩ := h1
  obtain ⟨l2, u2⟩ := h2
  have hbl' : b < w.heap.size := by omega
  clear hA hbo hbl hb0
  go_enter Tryz.func177, Tryz.ntmps177
  go_wp2_with fail
  obtain ⟨W, hW⟩ : ∃ W, W = w.alloc (.cells #[.string mark, .int .i64 size, .int .i64 count, .int .i64 26, .slice (some ⟨b, off, none⟩) 3 c] 57) := ⟨_, rfl⟩
  rw [← hW]
  simp only [← hW, drawnAt] at c0 c1 c2
  have HW := hide hW
  clear hW
  go_still_tail 12, (by kernel_rfl)
  change wpList _ _ _ _ _ (World.drew W)
  clear c0 c1 c2
  go_wp2_with fail
  obtain rfl := HW.out
  go_ret
  refine ⟨_, rfl, ?_, ?_⟩
  · exact pts_drew2 rfl
  · exact (below_new2 w _ _).drew
set_option maxHeartbeats 4000000 in
set_option maxRecDepth 100000 in
theorem refMoves31 (mark : ByteArray) (size count : Int) (d0 d1 d2 : Int) (A : Option Addr) (c : Nat) (w : World) {B : Nat} (hA : Ints w B A [d0, d1, d2]) (hB : B ≤ w.heap.size) (h0 : 1 ≤ d0 ∧ d0 ≤ 262144) (h1 : 1 ≤ d1 ∧ d1 ≤ 262144) (h2 : 1 ≤ d2 ∧ d2 ≤ 262144) :
    Calls Tryz.prog 177 #[.agg #[.string mark, .int .i64 size, .int .i64 count, .int .i64 31, .slice A 3 c]] w fun e w' =>
      ∃ A', e = .returned (.slice A' 3 3) ∧ PtsAt w' w'.heap.size A' [(d0, 0, 0), (0, d1, 0), (0, 0, d2)] ∧ Below w.heap.size w w' := by
  have hbo := fun o => hA.carry ((Below.refl B w).alloc hB o) (Nat.le_refl _)
  obtain ⟨b, off, hA', hbl, _⟩ := hA (by simp)
  subst hA'
  have hb0 := hbo (.cells #[.string mark, .int .i64 size, .int .i64 count, .int .i64 31, .slice (some ⟨b, off, none⟩) 3 c] 57)
  have c0 : ∀ d, (drawnAt (w.alloc (.cells #[.string mark, .int .i64 size, .int .i64 count, .int .i64 31, .slice (some ⟨b, off, none⟩) 3 c] 57)) d).cell? ⟨b, off, none⟩ = some (.int .i64 d0) := fun _ => int_cell (k := 0) hb0 rfl
  have c1 : ∀ d, (drawnAt (w.alloc (.cells #[.string mark, .int .i64 size, .int .i64 count, .int .i64 31, .slice (some ⟨b, off, none⟩) 3 c] 57)) d).cell? ⟨b, off + 1, none⟩ = some (.int .i64 d1) := fun _ => int_cell (k := 1) hb0 rfl
  have c2 : ∀ d, (drawnAt (w.alloc (.cells #[.string mark, .int .i64 size, .int .i64 count, .int .i64 31, .slice (some ⟨b, off, none⟩) 3 c] 57)) d).cell? ⟨b, off + 2, none⟩ = some (.int .i64 d2) := fun _ => int_cell (k := 2) hb0 rfl
  obtain ⟨l0, u0⟩ := h0
  obtain ⟨l1, u1⟩ := h1
  obtain ⟨l2, u2⟩ := h2
  have hbl' : b < w.heap.size := by omega
  clear hA hbo hbl hb0
  go_enter Tryz.func177, Tryz.ntmps177
  go_wp2_with fail
  obtain ⟨W, hW⟩ : ∃ W, W = w.alloc (.cells #[.string mark, .int .i64 size, .int .i64 count, .int .i64 31, .slice (some ⟨b, off, none⟩) 3 c] 57) := ⟨_, rfl⟩
  rw [← hW]
  simp only [← hW, drawnAt] at c0 c1 c2
  have HW := hide hW
  clear hW
  go_still_tail 12, (by kernel_rfl)
  change wpList _ _ _ _ _ (World.drew W)
  clear c0 c1 c2
  go_wp2_with fail
  obtain rfl := HW.out
  go_ret
  refine ⟨_, rfl, ?_, ?_⟩
  · exact pts_drew2 rfl
  · exact (below_new2 w _ _).drew
set_option maxHeartbeats 4000000 in
set_option maxRecDepth 100000 in
theorem refMoves41 (mark : ByteArray) (size count : Int) (d0 d1 d2 d3 d4 : Int) (A : Option Addr) (c : Nat) (w : World) {B : Nat} (hA : Ints w B A [d0, d1, d2, d3, d4]) (hB : B ≤ w.heap.size) (h0 : 1 ≤ d0 ∧ d0 ≤ 262144) (h1 : 1 ≤ d1 ∧ d1 ≤ 262144) (h2 : 1 ≤ d2 ∧ d2 ≤ 262144) (h3 : 1 ≤ d3 ∧ d3 ≤ 262144) (h4 : 1 ≤ d4 ∧ d4 ≤ 262144) :
    Calls Tryz.prog 177 #[.agg #[.string mark, .int .i64 size, .int .i64 count, .int .i64 41, .slice A 5 c]] w fun e w' =>
      ∃ A', e = .returned (.slice A' 5 5) ∧ PtsAt w' w'.heap.size A' [(d0, 0, 0), (0, d1, 0), (d2, 0, 0), (0, -d3, 0), (d4, 0, 0)] ∧ Below w.heap.size w w' := by
  have hbo := fun o => hA.carry ((Below.refl B w).alloc hB o) (Nat.le_refl _)
  obtain ⟨b, off, hA', hbl, _⟩ := hA (by simp)
  subst hA'
  have hb0 := hbo (.cells #[.string mark, .int .i64 size, .int .i64 count, .int .i64 41, .slice (some ⟨b, off, none⟩) 5 c] 57)
  have c0 : ∀ d, (drawnAt (w.alloc (.cells #[.string mark, .int .i64 size, .int .i64 count, .int .i64 41, .slice (some ⟨b, off, none⟩) 5 c] 57)) d).cell? ⟨b, off, none⟩ = some (.int .i64 d0) := fun _ => int_cell (k := 0) hb0 rfl
  have c1 : ∀ d, (drawnAt (w.alloc (.cells #[.string mark, .int .i64 size, .int .i64 count, .int .i64 41, .slice (some ⟨b, off, none⟩) 5 c] 57)) d).cell? ⟨b, off + 1, none⟩ = some (.int .i64 d1) := fun _ => int_cell (k := 1) hb0 rfl
  have c2 : ∀ d, (drawnAt (w.alloc (.cells #[.string mark, .int .i64 size, .int .i64 count, .int .i64 41, .slice (some ⟨b, off, none⟩) 5 c] 57)) d).cell? ⟨b, off + 2, none⟩ = some (.int .i64 d2) := fun _ => int_cell (k := 2) hb0 rfl
  have c3 : ∀ d, (drawnAt (w.alloc (.cells #[.string mark, .int .i64 size, .int .i64 count, .int .i64 41, .slice (some ⟨b, off, none⟩) 5 c] 57)) d).cell? ⟨b, off + 3, none⟩ = some (.int .i64 d3) := fun _ => int_cell (k := 3) hb0 rfl
  have c4 : ∀ d, (drawnAt (w.alloc (.cells #[.string mark, .int .i64 size, .int .i64 count, .int .i64 41, .slice (some ⟨b, off, none⟩) 5 c] 57)) d).cell? ⟨b, off + 4, none⟩ = some (.int .i64 d4) := fun _ => int_cell (k := 4) hb0 rfl
  obtain ⟨l0, u0⟩ := h0
  obtain ⟨l1, u1⟩ := h1
  obtain ⟨l2, u2⟩ := h2
  obtain ⟨l3, u3⟩ := h3
  obtain ⟨l4, u4⟩ := h4
  have hbl' : b < w.heap.size := by omega
  clear hA hbo hbl hb0
  go_enter Tryz.func177, Tryz.ntmps177
  go_wp2_with fail
  obtain ⟨W, hW⟩ : ∃ W, W = w.alloc (.cells #[.string mark, .int .i64 size, .int .i64 count, .int .i64 41, .slice (some ⟨b, off, none⟩) 5 c] 57) := ⟨_, rfl⟩
  rw [← hW]
  simp only [← hW, drawnAt] at c0 c1 c2 c3 c4
  have HW := hide hW
  clear hW
  go_still_tail 21, (by kernel_rfl)
  change wpList _ _ _ _ _ (World.drew W)
  clear c0 c1 c2 c3 c4
  go_wp2_with fail
  obtain rfl := HW.out
  go_ret
  refine ⟨_, rfl, ?_, ?_⟩
  · exact pts_drew2 rfl
  · exact (below_new2 w _ _).drew
set_option maxHeartbeats 4000000 in
set_option maxRecDepth 100000 in
theorem refMoves51 (mark : ByteArray) (size count : Int) (d0 d1 d2 : Int) (A : Option Addr) (c : Nat) (w : World) {B : Nat} (hA : Ints w B A [d0, d1, d2]) (hB : B ≤ w.heap.size) (h0 : 1 ≤ d0 ∧ d0 ≤ 262144) (h1 : 1 ≤ d1 ∧ d1 ≤ 262144) (h2 : 1 ≤ d2 ∧ d2 ≤ 262144) :
    Calls Tryz.prog 177 #[.agg #[.string mark, .int .i64 size, .int .i64 count, .int .i64 51, .slice A 3 c]] w fun e w' =>
      ∃ A', e = .returned (.slice A' 6 6) ∧ PtsAt w' w'.heap.size A' [(0, -d2, 0), (d0, 0, 0), (0, d1, 0), (-d0, 0, 0), (0, -d1, 0), (d2, 0, 0)] ∧ Below w.heap.size w w' := by
  have hbo := fun o => hA.carry ((Below.refl B w).alloc hB o) (Nat.le_refl _)
  obtain ⟨b, off, hA', hbl, _⟩ := hA (by simp)
  subst hA'
  have hb0 := hbo (.cells #[.string mark, .int .i64 size, .int .i64 count, .int .i64 51, .slice (some ⟨b, off, none⟩) 3 c] 57)
  have c0 : ∀ d, (drawnAt (w.alloc (.cells #[.string mark, .int .i64 size, .int .i64 count, .int .i64 51, .slice (some ⟨b, off, none⟩) 3 c] 57)) d).cell? ⟨b, off, none⟩ = some (.int .i64 d0) := fun _ => int_cell (k := 0) hb0 rfl
  have c1 : ∀ d, (drawnAt (w.alloc (.cells #[.string mark, .int .i64 size, .int .i64 count, .int .i64 51, .slice (some ⟨b, off, none⟩) 3 c] 57)) d).cell? ⟨b, off + 1, none⟩ = some (.int .i64 d1) := fun _ => int_cell (k := 1) hb0 rfl
  have c2 : ∀ d, (drawnAt (w.alloc (.cells #[.string mark, .int .i64 size, .int .i64 count, .int .i64 51, .slice (some ⟨b, off, none⟩) 3 c] 57)) d).cell? ⟨b, off + 2, none⟩ = some (.int .i64 d2) := fun _ => int_cell (k := 2) hb0 rfl
  obtain ⟨l0, u0⟩ := h0
  obtain ⟨l1, u1⟩ := h1
  obtain ⟨l2, u2⟩ := h2
  have hbl' : b < w.heap.size := by omega
  clear hA hbo hbl hb0
  go_enter Tryz.func177, Tryz.ntmps177
  go_wp2_with fail
  obtain ⟨W, hW⟩ : ∃ W, W = w.alloc (.cells #[.string mark, .int .i64 size, .int .i64 count, .int .i64 51, .slice (some ⟨b, off, none⟩) 3 c] 57) := ⟨_, rfl⟩
  rw [← hW]
  simp only [← hW, drawnAt] at c0 c1 c2
  have HW := hide hW
  clear hW
  go_still_tail 27, (by kernel_rfl)
  change wpList _ _ _ _ _ (World.drew W)
  clear c0 c1 c2
  go_wp2_with fail
  obtain rfl := HW.out
  go_ret
  refine ⟨_, rfl, ?_, ?_⟩
  · exact pts_drew2 rfl
  · exact (below_new2 w _ _).drew
set_option maxHeartbeats 4000000 in
set_option maxRecDepth 100000 in
theorem refMoves98 (mark : ByteArray) (size count : Int) (d0 d1 d2 : Int) (A : Option Addr) (c : Nat) (w : World) {B : Nat} (hA : Ints w B A [d0, d1, d2]) (hB : B ≤ w.heap.size) (h0 : 1 ≤ d0 ∧ d0 ≤ 262144) (h1 : 1 ≤ d1 ∧ d1 ≤ 262144) (h2 : 1 ≤ d2 ∧ d2 ≤ 262144) :
    Calls Tryz.prog 177 #[.agg #[.string mark, .int .i64 size, .int .i64 count, .int .i64 98, .slice A 3 c]] w fun e w' =>
      ∃ A', e = .returned (.slice A' 5 5) ∧ PtsAt w' w'.heap.size A' [(0, 0, d0), (0, -d1, 0), (d2, 0, 0), (0, d1, 0), (0, 0, d0)] ∧ Below w.heap.size w w' := by
  have hbo := fun o => hA.carry ((Below.refl B w).alloc hB o) (Nat.le_refl _)
  obtain ⟨b, off, hA', hbl, _⟩ := hA (by simp)
  subst hA'
  have hb0 := hbo (.cells #[.string mark, .int .i64 size, .int .i64 count, .int .i64 98, .slice (some ⟨b, off, none⟩) 3 c] 57)
  have c0 : ∀ d, (drawnAt (w.alloc (.cells #[.string mark, .int .i64 size, .int .i64 count, .int .i64 98, .slice (some ⟨b, off, none⟩) 3 c] 57)) d).cell? ⟨b, off, none⟩ = some (.int .i64 d0) := fun _ => int_cell (k := 0) hb0 rfl
  have c1 : ∀ d, (drawnAt (w.alloc (.cells #[.string mark, .int .i64 size, .int .i64 count, .int .i64 98, .slice (some ⟨b, off, none⟩) 3 c] 57)) d).cell? ⟨b, off + 1, none⟩ = some (.int .i64 d1) := fun _ => int_cell (k := 1) hb0 rfl
  have c2 : ∀ d, (drawnAt (w.alloc (.cells #[.string mark, .int .i64 size, .int .i64 count, .int .i64 98, .slice (some ⟨b, off, none⟩) 3 c] 57)) d).cell? ⟨b, off + 2, none⟩ = some (.int .i64 d2) := fun _ => int_cell (k := 2) hb0 rfl
  obtain ⟨l0, u0⟩ := h0
  obtain ⟨l1, u1⟩ := h1
  obtain ⟨l2, u2⟩ := h2
  have hbl' : b < w.heap.size := by omega
  clear hA hbo hbl hb0
  go_enter Tryz.func177, Tryz.ntmps177
  go_wp2_with fail
  obtain ⟨W, hW⟩ : ∃ W, W = w.alloc (.cells #[.string mark, .int .i64 size, .int .i64 count, .int .i64 98, .slice (some ⟨b, off, none⟩) 3 c] 57) := ⟨_, rfl⟩
  rw [← hW]
  simp only [← hW, drawnAt] at c0 c1 c2
  have HW := hide hW
  clear hW
  go_still_tail 21, (by kernel_rfl)
  change wpList _ _ _ _ _ (World.drew W)
  clear c0 c1 c2
  go_wp2_with fail
  obtain rfl := HW.out
  go_ret
  refine ⟨_, rfl, ?_, ?_⟩
  · exact pts_drew2 rfl
  · exact (below_new2 w _ _).drew
end Go.Proofs.YtmcjpdlkkpnhfaaGreat
