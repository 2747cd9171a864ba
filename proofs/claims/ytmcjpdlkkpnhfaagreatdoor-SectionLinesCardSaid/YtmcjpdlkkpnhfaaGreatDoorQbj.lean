/- The drawing of a section: section.Draw where there is none. -/
import Derived.Test.YtmcjpdlkkpnhfaaGreatDoorQbi
namespace Go.Proofs.YtmcjpdlkkpnhfaaGreatDoor
open Go.RowKit

set_option maxHeartbeats 4000000 in
set_option maxRecDepth 100000 in
theorem sectDraw_bad (x : DetD) (s : DetS) (a sc : Int) (w : World) {B : Nat} (h : DetAt w B x s) (hB : B ≤ w.heap.size) (hf : DetFit x s) (he : drawErr x a sc ≠ 0) :
    Calls Tryz.prog 7 #[detV x s, .int .i64 a, .int .i64 sc] w fun e w' => e = .returned (.tuple #[.string ⟨#[]⟩, .int .i64 (drawErr x a sc)]) ∧ Below w.heap.size w w' := by
  have HP0 := hide (fun (hs : secErr x a = 0) (W : World) (hz : Below w.heap.size w W) => pieces_ok x s a W (h.carry (hz.mono hB) (Nat.le_refl _)) (Nat.le_trans hB hz.size) hf hs)
  have HP1 := hide (fun (hs : secErr x a ≠ 0) (W : World) (hz : Below w.heap.size w W) => pieces_bad x s a W (h.carry (hz.mono hB) (Nat.le_refl _)) (Nat.le_trans hB hz.size) hf hs)
  have HS0 := hide (fun (hs : sizeErr x sc = 0) (W : World) (hz : Below w.heap.size w W) => sectSize_ok x s sc W (h.carry (hz.mono hB) (Nat.le_refl _)) (Nat.le_trans hB hz.size) hf hs)
  have HS1 := hide (fun (hs : sizeErr x sc ≠ 0) (W : World) (hz : Below w.heap.size w W) => sectSize_bad x s sc W (h.carry (hz.mono hB) (Nat.le_refl _)) (Nat.le_trans hB hz.size) hf hs)
  have Hi := hide (show (Tryz.prog.info? 34).map (·.size) = some 19 by kernel_rfl)
  have K0 := hide (Blk.new w 34 (detCells x.mem x.rule s))
  have HW := hide (below_new w (.cells (detCells x.mem x.rule s) 34))
  clear h hB hf
  by_cases h1 : secErr x a = 0
  · have HP := hide (HP0.out h1)
    by_cases h2 : sizeErr x sc = 0
    · have HS := hide (HS0.out h2)
      have h3 : 200 < colsOf x sc ∨ 200 < rowsS x sc := by
        rcases Int.lt_or_le 200 (colsOf x sc) with h9 | h9
        · exact .inl h9
        rcases Int.lt_or_le 200 (rowsS x sc) with h8 | h8
        · exact .inr h8
        exact absurd (by rw [drawErr, if_neg (by omega), if_neg (by omega), if_neg (by omega)]) he
      have he4 : drawErr x a sc = 4 := by rw [drawErr, if_neg (by omega), if_neg (by omega), if_pos h3]
      rw [he4]
      generalize colsOf x sc = C at *
      generalize rowsS x sc = R at *
      have hways : decide (200 < C) = true ∨ (decide (200 < C) = false ∧ decide (200 < R) = true) := by
        simp only [decide_eq_true_eq, decide_eq_false_iff_not]
        omega
      clear HP0 HP1 HS0 HS1 he he4 h1 h2 h3
      rcases hways with d1 | ⟨d1, d2⟩
      all_goals
        go_enter Tryz.func7, Tryz.ntmps7
        go_wp2_with (refine wpList_load_row rfl 34 (.tmp 3) rfl w.heap.size rfl 34 _ (0, 0) _ K0.out Tryz.underlying34 rfl Hi.out ?_)
        refine (HP.out _ HW.out).mono ?_
        rintro e w1 ⟨AP, cP, rfl, _, hb⟩
        replace K0 := hide (K0.out.keep hb)
        replace HW := hide (below_step HW.out hb (Nat.le_refl _))
        clear hb
        clear HP
        go_wp2_with (refine wpList_load_row rfl 34 (.tmp 3) rfl w.heap.size rfl 34 _ (0, 0) _ K0.out Tryz.underlying34 rfl Hi.out ?_)
        refine (HS.out _ HW.out).mono ?_
        rintro e w2 ⟨rfl, hb⟩
        replace K0 := hide (K0.out.keep hb)
        replace HW := hide (below_step HW.out hb (Nat.le_refl _))
        clear hb
        clear HS
        go_wp2_with fail
        go_ret2
        exact ⟨rfl, HW.out⟩
    · have HS := hide (HS1.out h2)
      have he4 : drawErr x a sc = sizeErr x sc := by rw [drawErr, if_neg (by omega), if_pos h2]
      rw [he4]
      have h2' := hide h2
      generalize sizeErr x sc = er at *
      have d1 : (er == 0) = false := by simpa using h2'.out
      have d2 : (er != 0) = true := by simpa using h2'.out
      clear HP0 HP1 HS0 HS1 he he4 h1 h2
      go_enter Tryz.func7, Tryz.ntmps7
      go_wp2_with (refine wpList_load_row rfl 34 (.tmp 3) rfl w.heap.size rfl 34 _ (0, 0) _ K0.out Tryz.underlying34 rfl Hi.out ?_)
      refine (HP.out _ HW.out).mono ?_
      rintro e w1 ⟨AP, cP, rfl, _, hb⟩
      replace K0 := hide (K0.out.keep hb)
      replace HW := hide (below_step HW.out hb (Nat.le_refl _))
      clear hb
      clear HP
      go_wp2_with (refine wpList_load_row rfl 34 (.tmp 3) rfl w.heap.size rfl 34 _ (0, 0) _ K0.out Tryz.underlying34 rfl Hi.out ?_)
      refine (HS.out _ HW.out).mono ?_
      rintro e w2 ⟨rfl, hb⟩
      replace K0 := hide (K0.out.keep hb)
      replace HW := hide (below_step HW.out hb (Nat.le_refl _))
      clear hb
      clear HS
      go_wp2_with fail
      go_ret2
      exact ⟨rfl, HW.out⟩
  · have HP := hide (HP1.out h1)
    have he4 : drawErr x a sc = secErr x a := by rw [drawErr, if_pos h1]
    rw [he4]
    have h1' := hide h1
    generalize secErr x a = er at *
    have d1 : (er == 0) = false := by simpa using h1'.out
    have d2 : (er != 0) = true := by simpa using h1'.out
    clear HP0 HP1 HS0 HS1 he he4 h1
    go_enter Tryz.func7, Tryz.ntmps7
    go_wp2_with (refine wpList_load_row rfl 34 (.tmp 3) rfl w.heap.size rfl 34 _ (0, 0) _ K0.out Tryz.underlying34 rfl Hi.out ?_)
    refine (HP.out _ HW.out).mono ?_
    rintro e w1 ⟨rfl, hb⟩
    replace K0 := hide (K0.out.keep hb)
    replace HW := hide (below_step HW.out hb (Nat.le_refl _))
    clear hb
    clear HP
    go_wp2_with fail
    go_ret2
    exact ⟨rfl, HW.out⟩
end Go.Proofs.YtmcjpdlkkpnhfaaGreatDoor
