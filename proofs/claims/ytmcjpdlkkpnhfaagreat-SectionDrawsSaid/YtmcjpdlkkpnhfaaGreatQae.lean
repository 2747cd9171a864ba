/- The reference of layer 12: whether a bar is valid. -/
import Derived.Test.YtmcjpdlkkpnhfaaGreatQad
import Derived.Lib.QuietBelow
namespace Go.Proofs.YtmcjpdlkkpnhfaaGreat
open Go.RowKit

def okFrom : Int → List Int → Bool
  | s, [] => decide (s ≤ 262144)
  | s, d :: r => decide (1 ≤ d) && decide (d ≤ 1048576) && okFrom (s + d) r
theorem okFrom_big : ∀ (l : List Int) (s : Int), 262144 < s → okFrom s l = false := by
  intro l
  induction l with
  | nil => intro s h; simp [okFrom]; omega
  | cons d r ih =>
    intro s h
    rw [okFrom]
    by_cases hd : 1 ≤ d
    · rw [ih (s + d) (by omega)]; simp
    · simp [hd]
theorem okFrom_fits : ∀ (l : List Int) (s : Int), s ≤ 262144 → 0 ≤ s → okFrom s l = fits (262144 - s) l := by
  intro l
  induction l with
  | nil => intro s h _; simp [okFrom, fits, h]
  | cons d r ih =>
    intro s h h0
    rw [okFrom, fits]
    by_cases hd : 1 ≤ d
    · by_cases hr : d ≤ 262144 - s
      · rw [ih (s + d) (by omega) (by omega), show 262144 - (s + d) = 262144 - s - d by omega]
        simp [hd, hr]; omega
      · rw [okFrom_big r (s + d) (by omega)]; simp [hr]
    · simp [hd]
set_option maxHeartbeats 1000000 in
theorem refBarValid_any (x : BarD) (A : Option Addr) (c : Nat) (w : World) {B : Nat} (hA : Ints w B A x.dims) (hB : B ≤ w.heap.size) (hm : x.mark.size ≤ maxLen) (hd : x.dims.length ≤ 60000) :
    Calls Tryz.prog 136 #[.agg #[.string x.mark, .int .i64 x.size, .int .i64 x.count, .int .i64 x.code, .slice A x.dims.length c]] w fun e w' => e = .returned (.bool (barOk x)) ∧ Below w.heap.size w w' := by
  rw [barOk_pre]
  obtain ⟨mark, size, count, code, dims⟩ := x
  simp only at hA hm hd ⊢
  have b0 := Blk.new w 57 #[.string mark, .int .i64 size, .int .i64 count, .int .i64 code, .slice A dims.length c]
  have c0 := cell_regrown ((b0.cell 0).trans rfl)
  have c1 := cell_regrown ((b0.cell 1).trans rfl)
  have c2 := cell_regrown ((b0.cell 2).trans rfl)
  have c3 := cell_regrown ((b0.cell 3).trans rfl)
  have c4 := cell_regrown ((b0.cell 4).trans rfl)
  have cN := fun W => refIsName_any mark W hm
  have cS := fun W => refSize_any size W
  have hf : barPre ⟨mark, size, count, code, dims⟩ = (decide (dimsE code = 0) && isName mark && isSize size && decide (1 ≤ count) && decide (count ≤ 1000) && decide ((dims.length : Int) = dimsN code)) := rfl
  rw [hf]
  clear b0 hf
  have CS := hide cS
  cases hN : isName mark
  · rw [hN] at cN
    have CN := hide cN
    rw [show (decide (dimsE code = 0) && false && isSize size && decide (1 ≤ count) && decide (count ≤ 1000) && decide ((dims.length : Int) = dimsN code) && fits 262144 dims) = false by simp]
    clear cN cS hN hA
    go_enter Tryz.func136, Tryz.ntmps136
    go_wp2_with fail
    refine wp_region_quiet_below (by kernel_rfl) (by kernel_rfl) ?_
    repeat (go_big_quiet_step (first
      | (go_at_call 94; exact regrown_same (CN.out _))
      | (go_at_call 169; exact Calls.regrown_of (CS.out _))
      | (go_at_call 170; exact regrown_same (refDims_any _ _))))
    refine wpQuiet_nil ?_
    intro w2 hw'
    have hbq := hide (show Below _ _ w2 by obtain ⟨p, rfl⟩ := hw'; exact below_regrown _ _ _)
    clear hw'
    go_wp2_with fail
    go_ret
    exact ⟨rfl, below_step (below_new _ _) hbq.out (Nat.le_refl _)⟩
  rw [hN] at cN
  have CN := hide cN
  clear cN hN
  cases hS : isSize size
  · rw [hS] at cS
    have CS := hide cS
    rw [show (decide (dimsE code = 0) && true && false && decide (1 ≤ count) && decide (count ≤ 1000) && decide ((dims.length : Int) = dimsN code) && fits 262144 dims) = false by simp]
    clear cS hS hA
    go_enter Tryz.func136, Tryz.ntmps136
    go_wp2_with fail
    refine wp_region_quiet_below (by kernel_rfl) (by kernel_rfl) ?_
    repeat (go_big_quiet_step (first
      | (go_at_call 94; exact regrown_same (CN.out _))
      | (go_at_call 169; exact Calls.regrown_of (CS.out _))
      | (go_at_call 170; exact regrown_same (refDims_any _ _))))
    refine wpQuiet_nil ?_
    intro w2 hw'
    have hbq := hide (show Below _ _ w2 by obtain ⟨p, rfl⟩ := hw'; exact below_regrown _ _ _)
    clear hw'
    go_wp2_with fail
    go_ret
    exact ⟨rfl, below_step (below_new _ _) hbq.out (Nat.le_refl _)⟩
  rw [hS] at cS
  have CS := hide cS
  clear cS hS
  by_cases h3 : count < 1
  · rw [show (decide (dimsE code = 0) && true && true && decide (1 ≤ count) && decide (count ≤ 1000) && decide ((dims.length : Int) = dimsN code) && fits 262144 dims) = false by rw [show decide (1 ≤ count) = false by simp; omega]; simp]
    have hd3 : decide (count < 1) = true := by simpa using h3
    clear hA
    go_enter Tryz.func136, Tryz.ntmps136
    go_wp2_with fail
    refine wp_region_quiet_below (by kernel_rfl) (by kernel_rfl) ?_
    repeat (go_big_quiet_step (first
      | (go_at_call 94; exact regrown_same (CN.out _))
      | (go_at_call 169; exact Calls.regrown_of (CS.out _))
      | (go_at_call 170; exact regrown_same (refDims_any _ _))))
    refine wpQuiet_nil ?_
    intro w2 hw'
    have hbq := hide (show Below _ _ w2 by obtain ⟨p, rfl⟩ := hw'; exact below_regrown _ _ _)
    clear hw'
    go_wp2_with fail
    go_ret
    exact ⟨rfl, below_step (below_new _ _) hbq.out (Nat.le_refl _)⟩
  have h3' : 1 ≤ count := by omega
  have hd3 : decide (count < 1) = false := by simp; omega
  clear h3
  by_cases h4 : 1000 < count
  · rw [show (decide (dimsE code = 0) && true && true && decide (1 ≤ count) && decide (count ≤ 1000) && decide ((dims.length : Int) = dimsN code) && fits 262144 dims) = false by rw [show decide (count ≤ 1000) = false by simp; omega]; simp]
    have hd4 : decide (1000 < count) = true := by simpa using h4
    clear hA
    go_enter Tryz.func136, Tryz.ntmps136
    go_wp2_with fail
    refine wp_region_quiet_below (by kernel_rfl) (by kernel_rfl) ?_
    repeat (go_big_quiet_step (first
      | (go_at_call 94; exact regrown_same (CN.out _))
      | (go_at_call 169; exact Calls.regrown_of (CS.out _))
      | (go_at_call 170; exact regrown_same (refDims_any _ _))))
    refine wpQuiet_nil ?_
    intro w2 hw'
    have hbq := hide (show Below _ _ w2 by obtain ⟨p, rfl⟩ := hw'; exact below_regrown _ _ _)
    clear hw'
    go_wp2_with fail
    go_ret
    exact ⟨rfl, below_step (below_new _ _) hbq.out (Nat.le_refl _)⟩
  have h4' : count ≤ 1000 := by omega
  have hd4 : decide (1000 < count) = false := by simp; omega
  clear h4
  by_cases h5 : dimsN code = 0
  · rw [show (decide (dimsE code = 0) && true && true && decide (1 ≤ count) && decide (count ≤ 1000) && decide ((dims.length : Int) = dimsN code) && fits 262144 dims) = false by simp [dimsE, h5]]
    have h5' : (dimsN code == 0) = true := by simpa using h5
    clear hA h5
    go_enter Tryz.func136, Tryz.ntmps136
    go_wp2_with fail
    refine wp_region_quiet_below (by kernel_rfl) (by kernel_rfl) ?_
    repeat (go_big_quiet_step (first
      | (go_at_call 94; exact regrown_same (CN.out _))
      | (go_at_call 169; exact Calls.regrown_of (CS.out _))
      | (go_at_call 170; exact regrown_same (refDims_any _ _))))
    refine wpQuiet_nil ?_
    intro w2 hw'
    have hbq := hide (show Below _ _ w2 by obtain ⟨p, rfl⟩ := hw'; exact below_regrown _ _ _)
    clear hw'
    go_wp2_with fail
    go_ret
    exact ⟨rfl, below_step (below_new _ _) hbq.out (Nat.le_refl _)⟩
  have h5' : (dimsN code == 0) = false := by simpa using h5
  have h5e : dimsE code = 0 := by simp [dimsE, h5]
  by_cases h6 : (dims.length : Int) = dimsN code
  · have h6' : ((dims.length : Int) != dimsN code) = false := by simp [h6]
    rw [show (decide (dimsE code = 0) && true && true && decide (1 ≤ count) && decide (count ≤ 1000) && decide ((dims.length : Int) = dimsN code) && fits 262144 dims) = fits 262144 dims by simp [h5e, h3', h4', h6]]
    have hlen : dims.length ≤ 5 := by
      have : dimsN code ≤ 5 := by
        rw [← refDims_eq]; unfold refDims; (repeat' split) <;> omega
      omega
    clear h5 h5e h6
    have hA' := hide hA
    clear hA
    rw [show fits 262144 dims = okFrom 0 dims by rw [okFrom_fits _ _ (by omega) (by omega)]; rfl]
    go_enter Tryz.func136, Tryz.ntmps136
    go_wp2_with fail
    refine wp_region_quiet_below (by kernel_rfl) (by kernel_rfl) ?_
    repeat (go_big_quiet_step (first
      | (go_at_call 94; exact regrown_same (CN.out _))
      | (go_at_call 169; exact Calls.regrown_of (CS.out _))
      | (go_at_call 170; exact regrown_same (refDims_any _ _))))
    refine wpQuiet_nil ?_
    intro w2 hw'
    have hbq := hide (show Below _ _ w2 by obtain ⟨p, rfl⟩ := hw'; exact below_regrown _ _ _)
    clear hw'
    have hbw := hide (below_step (below_new w _) hbq.out (Nat.le_refl _))
    have hA2 := hide (hA'.out.carry (hbw.out.mono hB) (Nat.le_refl _))
    have d4 := ((Blk.new w 57 #[.string mark, .int .i64 size, .int .i64 count, .int .i64 code, .slice A dims.length c]).keep hbq.out).cell 4
    simp at d4
    clear c0 c1 c2 c3 c4 hA' hbq
    go_wp2_with fail
    go_loop [3, 4] (fun t i => ∃ k : Nat, k ≤ dims.length ∧ i = .int .i64 k ∧ ∃ s : Int, 0 ≤ s ∧ s ≤ 1048576 * k ∧ t = .int .i64 s ∧ Hid (okFrom 0 dims = okFrom s (dims.drop k))) (fun _ i => dims.length - (intOf i).toNat)
    case atStart => exact ⟨0, Nat.zero_le _, rfl, 0, by omega, by omega, rfl, hide rfl⟩
    case round =>
      obtain ⟨k, hk, rfl, s, hs0, hs1, rfl, hf⟩ := hrel
      by_cases hlt : k < dims.length
      · obtain ⟨b, off, y, rfl, hbl, hy, hc⟩ := hA2.out.get (k := k) hlt
        have Hf := hide (hf.out.trans (by rw [drop_at' hy, okFrom]))
        clear hy hbl hA2 hf
        go_wp2_with fail
        all_goals first
          | (go_ret; exact ⟨ret_bool (by rw [Hf.out]; simp_all <;> omega), hbw.out⟩)
          | (go_round
             case rel => exact ⟨k + 1, by omega, by go_num, s + y, by omega, by omega, rfl, hide (by rw [Hf.out]; simp_all)⟩
             case measure => simp [intOf]; omega)
      · obtain rfl : k = dims.length := by omega
        go_wp2_with fail
        go_ret
        exact ⟨ret_bool (by rw [hf.out]; simp [okFrom]), hbw.out⟩
  · have h6' : ((dims.length : Int) != dimsN code) = true := by simp [h6]
    rw [show (decide (dimsE code = 0) && true && true && decide (1 ≤ count) && decide (count ≤ 1000) && decide ((dims.length : Int) = dimsN code) && fits 262144 dims) = false by simp [h6]]
    clear hA h5 h5e h6
    go_enter Tryz.func136, Tryz.ntmps136
    go_wp2_with fail
    refine wp_region_quiet_below (by kernel_rfl) (by kernel_rfl) ?_
    repeat (go_big_quiet_step (first
      | (go_at_call 94; exact regrown_same (CN.out _))
      | (go_at_call 169; exact Calls.regrown_of (CS.out _))
      | (go_at_call 170; exact regrown_same (refDims_any _ _))))
    refine wpQuiet_nil ?_
    intro w2 hw'
    have hbq := hide (show Below _ _ w2 by obtain ⟨p, rfl⟩ := hw'; exact below_regrown _ _ _)
    clear hw'
    go_wp2_with fail
    go_ret
    exact ⟨rfl, below_step (below_new _ _) hbq.out (Nat.le_refl _)⟩
end Go.Proofs.YtmcjpdlkkpnhfaaGreat
