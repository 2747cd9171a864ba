/- The references of layers 13 and 36: cutting lengths, and the mass of one bar. -/
import Derived.Test.YtnhmdgkhmkeopaaDoorBendR
namespace Go.Proofs.YtnhmdgkhmkeopaaDoor
open Go.RowKit
theorem field_hi (a b : Int) (w : World) : (Instr.field 90 (.agg #[.int .i64 a, .int .i64 b]) 1).run Tryd.prog w = .ok (.int .i64 b) w := by kernel_rfl
set_option maxHeartbeats 1000000 in
set_option maxRecDepth 100000 in
theorem refCut_ok (x : BarD) (A : Option Addr) (c : Nat) (w : World) {B : Nat} (hA : Ints w B A x.dims) (hB : B ≤ w.heap.size) (hok : barOk x = true) :
    Calls Tryd.prog 55 #[.agg #[.string x.mark, .int .i64 x.size, .int .i64 x.count, .int .i64 x.code, .slice A x.dims.length c]] w fun e w' =>
      e = .returned (.int .i64 (cutLen x)) ∧ Below w.heap.size w w' := by
  obtain ⟨hr0, hr1⟩ := dev_range hok
  have hbo := fun o => hide ((Below.refl B w).alloc hB o)
  have hok' := hide hok
  clear hok
  go_enter Tryd.func55, Tryd.ntmps55
  go_wp2_with fail
  refine (refDeveloped_ok x A c _ (hA.carry (hbo _).out (Nat.le_refl _)) (le_alloc hB _) hok'.out).mono ?_
  rintro e w1 ⟨rfl, hb1⟩
  have HB := hide (below_step (below_new w _) hb1 (Nat.le_refl _))
  have hfld := field_hi (devLo x) (devHi x) w1
  clear hb1 hbo hA
  by_cases h0 : 0 < devHi x
  · go_wp2_with fail
    all_goals
      go_ret
      exact ⟨ret_int (by unfold cutLen upDiv; omega), HB.out⟩
  · go_wp2_with fail
    go_ret
    exact ⟨ret_int (by unfold cutLen upDiv; omega), HB.out⟩

def oneMass (x : BarD) : Int := steelMass x.size (cutLen x)
set_option maxHeartbeats 1000000 in
theorem refOne_ok (x : BarD) (A : Option Addr) (c : Nat) (w : World) {B : Nat} (hA : Ints w B A x.dims) (hB : B ≤ w.heap.size) (hok : barOk x = true) :
    Calls Tryd.prog 40 #[.agg #[.string x.mark, .int .i64 x.size, .int .i64 x.count, .int .i64 x.code, .slice A x.dims.length c]] w fun e w' =>
      e = .returned (.int .i64 (oneMass x)) ∧ Below w.heap.size w w' := by
  have hg := barGood_of hok
  obtain ⟨hc0, hc1⟩ := cutLen_range hok
  have b0 := Blk.new w 32 #[.string x.mark, .int .i64 x.size, .int .i64 x.count, .int .i64 x.code, .slice A x.dims.length c]
  have c0 := cell_regrown ((b0.cell 0).trans rfl)
  have c1 := cell_regrown ((b0.cell 1).trans rfl)
  have c2 := cell_regrown ((b0.cell 2).trans rfl)
  have c3 := cell_regrown ((b0.cell 3).trans rfl)
  have c4 := cell_regrown ((b0.cell 4).trans rfl)
  have HA := fun W (h : Below w.heap.size w W) => hide (hA.carry (h.mono hB) (Nat.le_refl B))
  have Hc := fun W (h : Below w.heap.size w W) => hide (refCut_ok x A c W (HA W h).out (Nat.le_trans hB h.size) hok)
  have Hm := fun W => hide (refMass_ok x.size (cutLen x) W hg.size (by omega) hc1)
  clear b0 hg hA HA
  go_enter Tryd.func40, Tryd.ntmps40
  go_wp2_with fail
  refine wp_region_quiet_below (by kernel_rfl) (by kernel_rfl) ?_
  repeat (go_big_quiet_step (first
    | (go_at_call 55; exact Calls.regrown_of (Hc _ (below_step (below_new w _) (below_regrown _ _ _) (Nat.le_refl _))).out)
    | (go_at_call 54; exact regrown_same (Hm _).out)))
  refine wpQuiet_nil ?_
  intro w2 hw'
  have hbq := hide (show Below _ _ w2 by obtain ⟨p, rfl⟩ := hw'; exact below_regrown _ _ _)
  clear hw'
  go_wp2_with fail
  go_ret
  exact ⟨rfl, below_step (below_new _ _) hbq.out (Nat.le_refl _)⟩
end Go.Proofs.YtnhmdgkhmkeopaaDoor
