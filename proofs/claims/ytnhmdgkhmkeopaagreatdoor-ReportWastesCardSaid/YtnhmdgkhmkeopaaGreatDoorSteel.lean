/- Sizes of bars: masses and radii. -/
import Derived.Test.YtnhmdgkhmkeopaaGreatDoorSizes
namespace Go.Proofs.YtnhmdgkhmkeopaaGreatDoor
open Go.RowKit

/-- d is a size: 'of' is called; its call does nothing but return x. -/
theorem sized_ok (d x : Int) (fid : FuncId) (caps : Array Value) (w : World) (hd : isSize d = true) (hc : ∀ args w, (callFunc fid args).run Tryz.prog w = .ok (.enter fid args) w)
    (hf : ∀ W : World, Below w.heap.size w W → Calls Tryz.prog fid caps W fun e W' => e = .returned (.int .i64 x) ∧ W = W') :
    Calls Tryz.prog 122 #[.int .i64 d, .func (.func fid) #[] caps] w fun e w' => e = .returned (.tuple #[.int .i64 x, .int .i64 0]) ∧ Below w.heap.size w w' := by
  have Hf := hide hf
  have Hd := hide hd
  clear hf hd
  go_enter Tryz.func122, Tryz.ntmps122
  go_wp2_with fail
  refine (size_any _ _).mono ?_; rintro e w1 ⟨rfl, hb⟩; rw [Hd.out]
  go_wp2_with fail
  refine (Hf.out _ hb).mono ?_; rintro e w1 ⟨rfl, rfl⟩
  go_wp2_with fail
  go_ret2
  exact ⟨rfl, hb⟩

def steelMass (d n : Int) : Int := (6165 * d * d * n + 500000) / 1000000
def steelBend (d : Int) : Int := if d ≤ 16 then 5 * d / 2 else 4 * d
theorem quo_pos (a : Int) (h : 0 ≤ a) : a.tdiv 1000000 = a / 1000000 := Int.tdiv_eq_ediv_of_nonneg h

set_option maxHeartbeats 400000 in
theorem mass1_any (d n : Int) (w : World) (g h : Nat) (hd : isSize d = true) (hn0 : 0 ≤ n) (hn1 : n ≤ 1048576)
    (h1 : w.cell? ⟨g, 0, none⟩ = some (.int .i64 d)) (h2 : w.cell? ⟨h, 0, none⟩ = some (.int .i64 n)) :
    Calls Tryz.prog 123 #[.pointer (some ⟨g, 0, none⟩), .pointer (some ⟨h, 0, none⟩)] w fun e w' => e = .returned (.int .i64 (steelMass d n)) ∧ w = w' := by
  have hm := isSize_mem hd
  clear hd
  simp [steelSizes] at hm
  rcases hm with rfl | rfl | rfl | rfl | rfl | rfl | rfl | rfl | rfl
  all_goals
    go_enter Tryz.func123, Tryz.ntmps123
    go_wp2_with fail
    go_ret
    exact ⟨ret_int (by simp [steelMass]), rfl⟩

set_option maxHeartbeats 400000 in
theorem bend1_any (d : Int) (w : World) (g : Nat) (hd : isSize d = true) (h1 : w.cell? ⟨g, 0, none⟩ = some (.int .i64 d)) :
    Calls Tryz.prog 160 #[.pointer (some ⟨g, 0, none⟩)] w fun e w' => e = .returned (.int .i64 (steelBend d)) ∧ w = w' := by
  have hr := isSize_range hd
  clear hd
  go_enter Tryz.func160, Tryz.ntmps160
  go_wp2_with fail
  all_goals
    go_ret
    exact ⟨ret_int (by unfold steelBend; split <;> omega), rfl⟩


set_option maxHeartbeats 400000 in
theorem bend_ok (d : Int) (w : World) (hd : isSize d = true) :
    Calls Tryz.prog 155 #[.int .i64 d] w fun e w' => e = .returned (.tuple #[.int .i64 (steelBend d), .int .i64 0]) ∧ Below w.heap.size w w' := by
  have Hd := hide hd
  clear hd
  go_enter Tryz.func155, Tryz.ntmps155
  go_wp2_with fail
  refine (sized_ok d (steelBend d) _ _ _ Hd.out Tryz.call160 (fun W hb => bend1_any d W _ Hd.out (((Blk.new w 3 #[.int .i64 d]).keep hb).cell 0))).mono ?_
  rintro e w1 ⟨rfl, hb⟩
  go_wp2_with fail
  go_ret2
  exact ⟨rfl, below_step (below_new _ _) hb (Nat.le_refl _)⟩

set_option maxHeartbeats 400000 in
theorem mass_ok (d n : Int) (w : World) (hd : isSize d = true) (hn0 : 0 ≤ n) (hn1 : n ≤ 1048576) :
    Calls Tryz.prog 92 #[.int .i64 d, .int .i64 n] w fun e w' => e = .returned (.tuple #[.int .i64 (steelMass d n), .int .i64 0]) ∧ Below w.heap.size w w' := by
  have Hd := hide hd
  clear hd
  go_enter Tryz.func92, Tryz.ntmps92
  go_wp2_with fail
  refine (size_any _ _).mono ?_; rintro e w1 ⟨rfl, hb⟩; rw [Hd.out]
  have b0 : Blk w1 w.heap.size 3 #[.int .i64 d] := ((Blk.new w _ _).alloc _).keep hb
  have b1 : Blk w1 (w.heap.size + 1) 3 #[.int .i64 n] := (Blk.new1 w _ _ _).keep hb
  have c0 := b0.cell 0
  have c1 := b1.cell 0
  simp only [List.getElem?_toArray, List.getElem?_cons_zero] at c0 c1
  go_wp2_with fail
  refine (sized_ok d (steelMass d n) _ _ _ Hd.out Tryz.call123 (fun W hb' => mass1_any d n W _ _ Hd.out hn0 hn1 ((b0.keep hb').cell 0) ((b1.keep hb').cell 0))).mono ?_
  rintro e w2 ⟨rfl, hb2⟩
  go_wp2_with fail
  go_ret2
  exact ⟨rfl, below_step (below_step (below_new2 _ _ _) hb (Nat.le_refl _)) hb2 (Nat.le_refl _)⟩
end Go.Proofs.YtnhmdgkhmkeopaaGreatDoor
