/- The references of layers 9, 17 at a point: Cuts, Parts. -/
import Derived.Test.YtmcjpdlkkpnhfaaGreatRda
import Derived.Deep.RegionLaw
namespace Go.Proofs.YtmcjpdlkkpnhfaaGreat
open Go.RowKit

set_option maxHeartbeats 4000000 in
theorem refCuts_pt (A : Option Addr) (n c : Nat) (p : Pt) (k : Nat) (hk : k < 3) (w : World) :
    Calls Tryz.prog 188 #[.slice A n c, bx (ptBox p), .int .i64 k] w fun e w' => ∃ g, e = .returned (.slice (some ⟨g, 0, none⟩) 1 1) ∧ w.heap.size ≤ g ∧ Blk w' g 3 #[.int .i64 (nthC p k)] ∧ Below w.heap.size w w' := by
  obtain ⟨p1, p2, p3⟩ := p
  obtain ⟨q, hq⟩ : ∃ q, q = nthC (p1, p2, p3) k := ⟨_, rfl⟩
  have HCo := hide (fun (W : World) => show Calls Tryz.prog 111 #[.agg #[.int .i64 p1, .int .i64 p2, .int .i64 p3], .int .i64 k] W fun e w' => e = .returned (.int .i64 q) ∧ Below W.heap.size W w' by rw [hq]; exact refCoord_any p1 p2 p3 k hk W)
  rw [← hq]
  have HW := hide (below_new w (.cells #[.int .i64 p1, .int .i64 p2, .int .i64 p3, .int .i64 p1, .int .i64 p2, .int .i64 p3] 63))
  have KB := hide (Blk.new w 63 #[.int .i64 p1, .int .i64 p2, .int .i64 p3, .int .i64 p1, .int .i64 p2, .int .i64 p3])
  clear hq
  show Calls Tryz.prog 188 #[.slice A n c, .agg #[.int .i64 p1, .int .i64 p2, .int .i64 p3, .int .i64 p1, .int .i64 p2, .int .i64 p3], .int .i64 k] w _
  go_enter Tryz.func188, Tryz.ntmps188
  go_wp2_with fail
  refine (HCo.out _).mono ?_
  rintro e w2 ⟨rfl, hb⟩
  have HF := below_step HW.out hb (Nat.le_refl _)
  have hs2 : w.heap.size ≤ w2.heap.size := HF.size
  have HW2 := hide (HF.alloc HF.size (.cells #[.int .i64 q] 3))
  have KB := hide ((KB.out.keep hb).alloc (.cells #[.int .i64 q] 3))
  have KO := hide (Blk.new w2 3 #[.int .i64 q])
  clear hb HF
  obtain ⟨w3, hw3⟩ : ∃ W, W = w2.alloc (.cells #[.int .i64 q] 3) := ⟨_, rfl⟩
  go_wp2_with fail
  rw [← hw3] at HW2 KB KO ⊢
  clear hw3 HW
  go_loopw [7] (fun v wr => v = .slice (some ⟨w2.heap.size, 0, none⟩) 1 1 ∧ Hid (Below w3.heap.size w3 wr)) (fun _ _ => 0)
  case atStart => exact ⟨rfl, hide (Below.refl _ _)⟩
  case round =>
    obtain ⟨rfl, hbr⟩ := hrel
    have hbs := hbr.out.size
    have kb := KB.out.below hbr.out KB.out.lt
    have ko := KO.out.below hbr.out KO.out.lt
    have o0 := cell_regrown (ko.cell 0)
    have f3 := cell_regrown (kb.cell 3)
    have f4 := cell_regrown (kb.cell 4)
    have f5 := cell_regrown (kb.cell 5)
    simp at o0 f3 f4 f5
    clear kb ko
    go_wp2_with fail
    refine wp_region_quiet_below (by kernel_rfl) (by kernel_rfl) ?_
    repeat (go_big_quiet_step (first
      | (go_at_call 111; first | with_reducible exact Calls.regrown_of (HCo.out _))))
    refine wpQuiet_nil ?_
    intro wq9 hw'
    have hbq := hide (show Below _ _ wq9 by obtain ⟨p9, rfl⟩ := hw'; exact below_regrown _ _ _)
    clear hw'
    have hb9 := hide (hbr.out.trans (hbq.out.mono hbs))
    go_wp2_with fail
    go_ret
    exact ⟨w2.heap.size, rfl, hs2, KO.out.below hb9.out KO.out.lt, below_step HW2.out hb9.out (Nat.le_refl _)⟩
set_option maxHeartbeats 8000000 in
set_option maxRecDepth 100000 in
theorem refParts_pt (A : Option Addr) (n c : Nat) (p : Pt) (w : World) :
    Calls Tryz.prog 175 #[.slice A n c, bx (ptBox p)] w fun e w' => ∃ A' c', e = .returned (.slice A' 1 c') ∧ BoxesAt w' w'.heap.size A' [ptBox p] ∧ Below w.heap.size w w' := by
  obtain ⟨p1, p2, p3⟩ := p
  have HC1 := hide (fun (W : World) => show Calls Tryz.prog 188 #[.slice A n c, .agg #[.int .i64 p1, .int .i64 p2, .int .i64 p3, .int .i64 p1, .int .i64 p2, .int .i64 p3], .int .i64 0] W fun e w' => ∃ g, e = .returned (.slice (some ⟨g, 0, none⟩) 1 1) ∧ W.heap.size ≤ g ∧ Blk w' g 3 #[.int .i64 p1] ∧ Below W.heap.size W w' from refCuts_pt A n c (p1, p2, p3) 0 (by omega) W)
  have HC2 := hide (fun (W : World) => show Calls Tryz.prog 188 #[.slice A n c, .agg #[.int .i64 p1, .int .i64 p2, .int .i64 p3, .int .i64 p1, .int .i64 p2, .int .i64 p3], .int .i64 1] W fun e w' => ∃ g, e = .returned (.slice (some ⟨g, 0, none⟩) 1 1) ∧ W.heap.size ≤ g ∧ Blk w' g 3 #[.int .i64 p2] ∧ Below W.heap.size W w' from refCuts_pt A n c (p1, p2, p3) 1 (by omega) W)
  have HC3 := hide (fun (W : World) => show Calls Tryz.prog 188 #[.slice A n c, .agg #[.int .i64 p1, .int .i64 p2, .int .i64 p3, .int .i64 p1, .int .i64 p2, .int .i64 p3], .int .i64 2] W fun e w' => ∃ g, e = .returned (.slice (some ⟨g, 0, none⟩) 1 1) ∧ W.heap.size ≤ g ∧ Blk w' g 3 #[.int .i64 p3] ∧ Below W.heap.size W w' from refCuts_pt A n c (p1, p2, p3) 2 (by omega) W)
  have HW := hide (below_new w (.cells #[.int .i64 p1, .int .i64 p2, .int .i64 p3, .int .i64 p1, .int .i64 p2, .int .i64 p3] 63))
  have KB := Blk.new w 63 #[.int .i64 p1, .int .i64 p2, .int .i64 p3, .int .i64 p1, .int .i64 p2, .int .i64 p3]
  have f0 := KB.cell 0
  have f1 := KB.cell 1
  have f2 := KB.cell 2
  have f3 := KB.cell 3
  have f4 := KB.cell 4
  have f5 := KB.cell 5
  have lb := KB.lt
  obtain ⟨w1, hw1⟩ : ∃ W, W = w.alloc (.cells #[.int .i64 p1, .int .i64 p2, .int .i64 p3, .int .i64 p1, .int .i64 p2, .int .i64 p3] 63) := ⟨_, rfl⟩
  rw [← hw1] at HW f0 f1 f2 f3 f4 f5 lb
  simp at f0 f1 f2 f3 f4 f5
  have HC := hide (fun (W : World) (h : Below w1.heap.size w1 W) => show W.cell? ⟨w.heap.size, 0, none⟩ = some (.int .i64 p1) ∧ W.cell? ⟨w.heap.size, 1, none⟩ = some (.int .i64 p2) ∧ W.cell? ⟨w.heap.size, 2, none⟩ = some (.int .i64 p3) ∧ W.cell? ⟨w.heap.size, 3, none⟩ = some (.int .i64 p1) ∧ W.cell? ⟨w.heap.size, 4, none⟩ = some (.int .i64 p2) ∧ W.cell? ⟨w.heap.size, 5, none⟩ = some (.int .i64 p3) from
    ⟨(h.cell (p := ⟨w.heap.size, 0, none⟩) lb).trans f0, (h.cell (p := ⟨w.heap.size, 1, none⟩) lb).trans f1, (h.cell (p := ⟨w.heap.size, 2, none⟩) lb).trans f2, (h.cell (p := ⟨w.heap.size, 3, none⟩) lb).trans f3, (h.cell (p := ⟨w.heap.size, 4, none⟩) lb).trans f4, (h.cell (p := ⟨w.heap.size, 5, none⟩) lb).trans f5⟩)
  have hS0 := HC.out _ (Below.drew (Below.refl w1.heap.size w1))
  have hBx := Below.drew (Below.refl w1.heap.size w1)
  clear KB
  show Calls Tryz.prog 175 #[.slice A n c, .agg #[.int .i64 p1, .int .i64 p2, .int .i64 p3, .int .i64 p1, .int .i64 p2, .int .i64 p3]] w _
  go_enter Tryz.func175, Tryz.ntmps175
  go_wp2_with fail
  rw [← hw1]
  clear hw1
  go_cut [5, 6, 7] from 12 to 20 (fun v5 v6 v7 wx => ∃ g1 g2 g3 : Nat, v5 = .slice (some ⟨g1, 0, none⟩) 1 1 ∧ v6 = .slice (some ⟨g2, 0, none⟩) 1 1 ∧ v7 = .slice (some ⟨g3, 0, none⟩) 1 1 ∧ Hid (Blk wx g1 3 #[.int .i64 p1]) ∧ Hid (Blk wx g2 3 #[.int .i64 p2]) ∧ Hid (Blk wx g3 3 #[.int .i64 p3]) ∧ Hid (Below w1.heap.size w1 wx))
  case first =>
    go_region_held3 (fun W => W.cell? ⟨w.heap.size, 0, none⟩ = some (.int .i64 p1) ∧ W.cell? ⟨w.heap.size, 1, none⟩ = some (.int .i64 p2) ∧ W.cell? ⟨w.heap.size, 2, none⟩ = some (.int .i64 p3) ∧ W.cell? ⟨w.heap.size, 3, none⟩ = some (.int .i64 p1) ∧ W.cell? ⟨w.heap.size, 4, none⟩ = some (.int .i64 p2) ∧ W.cell? ⟨w.heap.size, 5, none⟩ = some (.int .i64 p3))
      (first | (with_reducible assumption) | go_keep)
      (first
        | (go_at_call 188; (with_reducible refine (HC1.out _).mono ?_); rintro e wz ⟨g1, rfl, hg0, hk0, hbz⟩; have hBx := below_step hBx hbz (Nat.le_refl _); have hS' := HC.out _ hBx; skip; have K1 := hide hk0)
        | (go_at_call 188; (with_reducible refine (HC2.out _).mono ?_); rintro e wz ⟨g2, rfl, hg0, hk0, hbz⟩; have hBx := below_step hBx hbz (Nat.le_refl _); have hS' := HC.out _ hBx; (have K1 := hide (K1.out.keep hbz)); have K2 := hide hk0)
        | (go_at_call 188; (with_reducible refine (HC3.out _).mono ?_); rintro e wz ⟨g3, rfl, hg0, hk0, hbz⟩; have hBx := below_step hBx hbz (Nat.le_refl _); have hS' := HC.out _ hBx; (have K1 := hide (K1.out.keep hbz); have K2 := hide (K2.out.keep hbz)); have K3 := hide hk0)
      )
    all_goals
      go_wp2_with fail
      go_meet
      exact ⟨_, _, _, rfl, rfl, rfl, K1, K2, K3, hide hBx⟩
  case rest =>
    obtain ⟨g1, g2, g3, rfl, rfl, rfl, K1, K2, K3, hbx⟩ := hcut
    rename World => w2
    have HW2 := hide (below_step HW.out hbx.out (Nat.le_refl _))
    clear hbx HC hS0 hBx f0 f1 f2 f3 f4 f5 lb HC1 HC2 HC3 HW
    go_wp2_with fail
    go_loopw [8, 9] (fun vo iv wr => ∃ i : Nat, i ≤ 1 ∧ iv = .int .i64 i ∧ (∃ acc : List BoxD, Hid (Row wr w2.heap.size 63 6 encB vo acc) ∧ Hid (acc = if i = 0 then [] else [ptBox (p1, p2, p3)])) ∧ Hid (Below w2.heap.size w2 wr)) (fun _ iv _ => 1 - (intOf iv).toNat)
    case atStart => exact ⟨0, by omega, rfl, ⟨[], hide (Row.nil _ _ _ _ _), hide rfl⟩, hide (Below.refl _ _)⟩
    case round =>
      rename World => wa
      obtain ⟨i, hi, rfl, ⟨acc, hrow, hacc⟩, hbr⟩ := hrel
      obtain ⟨A0, c0, rfl⟩ := hrow.out.val
      rcases (show i = 0 ∨ i = 1 by omega) with rfl | rfl
      · go_wp2_with fail
        go_loopw [8, 10] (fun vo iv wr => ∃ j : Nat, j ≤ 1 ∧ iv = .int .i64 j ∧ (∃ acc : List BoxD, Hid (Row wr w2.heap.size 63 6 encB vo acc) ∧ Hid (acc = if j = 0 then [] else [ptBox (p1, p2, p3)])) ∧ Hid (Below w2.heap.size w2 wr)) (fun _ iv _ => 1 - (intOf iv).toNat)
        case atStart => exact ⟨0, by omega, rfl, ⟨acc, hrow, hacc⟩, hbr⟩
        case round =>
          clear hrow hacc hbr
          rename World => wb
          obtain ⟨j, hj, rfl, ⟨acc, hrow, hacc⟩, hbr⟩ := hrel
          obtain ⟨A0, c0, rfl⟩ := hrow.out.val
          rcases (show j = 0 ∨ j = 1 by omega) with rfl | rfl
          · go_wp2_with fail
            go_loopw [8, 11] (fun vo iv wr => ∃ m : Nat, m ≤ 1 ∧ iv = .int .i64 m ∧ (∃ acc : List BoxD, Hid (Row wr w2.heap.size 63 6 encB vo acc) ∧ Hid (acc = if m = 0 then [] else [ptBox (p1, p2, p3)])) ∧ Hid (Below w2.heap.size w2 wr)) (fun _ iv _ => 1 - (intOf iv).toNat)
            case atStart => exact ⟨0, by omega, rfl, ⟨acc, hrow, hacc⟩, hbr⟩
            case round =>
              clear hrow hacc hbr
              obtain ⟨m, hm, rfl, ⟨acc, hrow, hacc⟩, hbr⟩ := hrel
              obtain ⟨A0, c0, rfl⟩ := hrow.out.val
              rcases (show m = 0 ∨ m = 1 by omega) with rfl | rfl
              · have hal : acc.length ≤ 10 := by rw [hacc.out]; simp
                have Hac := hide (show acc ++ [ptBox (p1, p2, p3)] = [ptBox (p1, p2, p3)] by rw [hacc.out]; rfl)
                have hbs := hbr.out.size
                have k1 := (K1.out.below hbr.out K1.out.lt).cell 0
                have k2 := (K2.out.below hbr.out K2.out.lt).cell 0
                have k3 := (K3.out.below hbr.out K3.out.lt).cell 0
                simp at k1 k2 k3
                have hw0 : IntKind.i64.wrap 0 = 0 := rfl
                have hw1 : IntKind.i64.wrap 1 = 1 := rfl
                have HC := hide (fun (W : World) (h : Below w2.heap.size wr W) => show W.cell? ⟨g1, 0, none⟩ = some (.int .i64 p1) ∧ W.cell? ⟨g2, 0, none⟩ = some (.int .i64 p2) ∧ W.cell? ⟨g3, 0, none⟩ = some (.int .i64 p3) from
                  ⟨(h.cell (p := ⟨g1, 0, none⟩) K1.out.lt).trans k1, (h.cell (p := ⟨g2, 0, none⟩) K2.out.lt).trans k2, (h.cell (p := ⟨g3, 0, none⟩) K3.out.lt).trans k3⟩)
                have hS := HC.out _ (Below.drew (Below.refl w2.heap.size wr))
                have RA := hide hrow.out.drew
                have hps : w2.heap.size ≤ wr.drew.heap.size := hbs
                have HBd := hide hbr.out.drew
                clear hacc hrow hbr
                go_wp2_with fail
                refine wp_region_held_drew (S := fun W => W.cell? ⟨g1, 0, none⟩ = some (.int .i64 p1) ∧ W.cell? ⟨g2, 0, none⟩ = some (.int .i64 p2) ∧ W.cell? ⟨g3, 0, none⟩ = some (.int .i64 p3)) (by kernel_rfl) hS (fun hHeld => ?_)
                refine wpAnyH_take (i := 0) (v := ?_) rfl (by kernel_rfl) (by kernel_rfl) (by kernel_rfl) (fun _ _ _ h => h) (Or.inl ⟨by rfl, ?_⟩) (by assumption) ?_
                rotate_left
                · intro w hSw
                  (try dsimp only at hSw)
                  go_simp
                  first | done | with_reducible rfl
                (try simp only [List.getElem_toArray, List.getElem_cons_zero, Act.put, List.setIfInBounds_toArray, List.set_cons_zero, List.set_cons_succ])
                refine wpAnyH_take (i := 1) (v := ?_) rfl (by kernel_rfl) (by kernel_rfl) (by kernel_rfl) (fun _ _ _ h => h) (Or.inl ⟨by rfl, ?_⟩) (by assumption) ?_
                rotate_left
                · intro w hSw
                  (try dsimp only at hSw)
                  go_simp
                  first | done | with_reducible rfl
                (try simp only [List.getElem_toArray, List.getElem_cons_succ, List.getElem_cons_zero, Act.put, List.setIfInBounds_toArray, List.set_cons_zero, List.set_cons_succ])
                refine wpAnyH_take (i := 2) (v := ?_) rfl (by kernel_rfl) (by kernel_rfl) (by kernel_rfl) (fun _ _ _ h => h) (Or.inl ⟨by rfl, ?_⟩) (by assumption) ?_
                rotate_left
                · intro w hSw
                  (try dsimp only at hSw)
                  go_simp
                  first | done | with_reducible rfl
                (try simp only [List.getElem_toArray, List.getElem_cons_succ, List.getElem_cons_zero, Act.put, List.setIfInBounds_toArray, List.set_cons_zero, List.set_cons_succ])
                refine wpAnyH_take (i := 3) (v := ?_) rfl (by kernel_rfl) (by kernel_rfl) (by kernel_rfl) (fun _ _ _ h => h) (Or.inl ⟨by rfl, ?_⟩) (by assumption) ?_
                rotate_left
                · intro w hSw
                  (try dsimp only at hSw)
                  go_simp
                  first | done | with_reducible rfl
                (try simp only [List.getElem_toArray, List.getElem_cons_succ, List.getElem_cons_zero, Act.put, List.setIfInBounds_toArray, List.set_cons_zero, List.set_cons_succ])
                refine wpAnyH_take (i := 4) (v := ?_) rfl (by kernel_rfl) (by kernel_rfl) (by kernel_rfl) (fun _ _ _ h => h) (Or.inl ⟨by rfl, ?_⟩) (by assumption) ?_
                rotate_left
                · intro w hSw
                  (try dsimp only at hSw)
                  go_simp
                  first | done | with_reducible rfl
                (try simp only [List.getElem_toArray, List.getElem_cons_succ, List.getElem_cons_zero, Act.put, List.setIfInBounds_toArray, List.set_cons_zero, List.set_cons_succ])
                refine wpAnyH_take (i := 5) (v := ?_) rfl (by kernel_rfl) (by kernel_rfl) (by kernel_rfl) (fun _ _ _ h => h) (Or.inl ⟨by rfl, ?_⟩) (by assumption) ?_
                rotate_left
                · intro w hSw
                  (try dsimp only at hSw)
                  go_simp
                  first | done | with_reducible rfl
                (try simp only [List.getElem_toArray, List.getElem_cons_succ, List.getElem_cons_zero, Act.put, List.setIfInBounds_toArray, List.set_cons_zero, List.set_cons_succ])
                refine wpAnyH_take (i := 6) (v := ?_) rfl (by kernel_rfl) (by kernel_rfl) (by kernel_rfl) (fun _ _ _ h => h) (Or.inl ⟨by rfl, ?_⟩) (by assumption) ?_
                rotate_left
                · intro w hSw
                  (try dsimp only at hSw)
                  go_simp
                  first | done | with_reducible rfl
                (try simp only [List.getElem_toArray, List.getElem_cons_succ, List.getElem_cons_zero, Act.put, List.setIfInBounds_toArray, List.set_cons_zero, List.set_cons_succ])
                refine wpAnyH_take (i := 7) (v := ?_) rfl (by kernel_rfl) (by kernel_rfl) (by kernel_rfl) (fun _ _ _ h => h) (Or.inl ⟨by rfl, ?_⟩) (by assumption) ?_
                rotate_left
                · intro w hSw
                  (try dsimp only at hSw)
                  go_simp
                  first | done | with_reducible rfl
                (try simp only [List.getElem_toArray, List.getElem_cons_succ, List.getElem_cons_zero, Act.put, List.setIfInBounds_toArray, List.set_cons_zero, List.set_cons_succ])
                refine wpAnyH_take (i := 8) (v := ?_) rfl (by kernel_rfl) (by kernel_rfl) (by kernel_rfl) (fun _ _ _ h => h) (Or.inl ⟨by rfl, ?_⟩) (by assumption) ?_
                rotate_left
                · intro w hSw
                  (try dsimp only at hSw)
                  go_simp
                  first | done | with_reducible rfl
                (try simp only [List.getElem_toArray, List.getElem_cons_succ, List.getElem_cons_zero, Act.put, List.setIfInBounds_toArray, List.set_cons_zero, List.set_cons_succ])
                refine wpAnyH_take (i := 9) (v := ?_) rfl (by kernel_rfl) (by kernel_rfl) (by kernel_rfl) (fun _ _ _ h => h) (Or.inl ⟨by rfl, ?_⟩) (by assumption) ?_
                rotate_left
                · intro w hSw
                  (try dsimp only at hSw)
                  go_simp
                  first | done | with_reducible rfl
                (try simp only [List.getElem_toArray, List.getElem_cons_succ, List.getElem_cons_zero, Act.put, List.setIfInBounds_toArray, List.set_cons_zero, List.set_cons_succ])
                refine wpAnyH_take (i := 10) (v := ?_) rfl (by kernel_rfl) (by kernel_rfl) (by kernel_rfl) (fun _ _ _ h => h) (Or.inl ⟨by rfl, ?_⟩) (by assumption) ?_
                rotate_left
                · intro w hSw
                  (try dsimp only at hSw)
                  go_simp
                  first | done | with_reducible rfl
                (try simp only [List.getElem_toArray, List.getElem_cons_succ, List.getElem_cons_zero, Act.put, List.setIfInBounds_toArray, List.set_cons_zero, List.set_cons_succ])
                refine wpAnyH_take (i := 11) (v := ?_) rfl (by kernel_rfl) (by kernel_rfl) (by kernel_rfl) (fun _ _ _ h => h) (Or.inl ⟨by rfl, ?_⟩) (by assumption) ?_
                rotate_left
                · intro w hSw
                  (try dsimp only at hSw)
                  go_simp
                  first | done | with_reducible rfl
                (try simp only [List.getElem_toArray, List.getElem_cons_succ, List.getElem_cons_zero, Act.put, List.setIfInBounds_toArray, List.set_cons_zero, List.set_cons_succ])
                refine wpAnyH_take (i := 12) (v := ?_) rfl (by kernel_rfl) (by kernel_rfl) (by kernel_rfl) (fun _ _ _ h => h) (Or.inl ⟨by rfl, ?_⟩) (by assumption) ?_
                rotate_left
                · intro w hSw
                  (try dsimp only at hSw)
                  go_simp
                  first | done | with_reducible rfl
                (try simp only [List.getElem_toArray, List.getElem_cons_succ, List.getElem_cons_zero, Act.put, List.setIfInBounds_toArray, List.set_cons_zero, List.set_cons_succ])
                refine wpAnyH_take (i := 13) (v := ?_) rfl (by kernel_rfl) (by kernel_rfl) (by kernel_rfl) (fun _ _ _ h => h) (Or.inl ⟨by rfl, ?_⟩) (by assumption) ?_
                rotate_left
                · intro w hSw
                  (try dsimp only at hSw)
                  go_simp
                  first | done | with_reducible rfl
                (try simp only [List.getElem_toArray, List.getElem_cons_succ, List.getElem_cons_zero, Act.put, List.setIfInBounds_toArray, List.set_cons_zero, List.set_cons_succ])
                refine wpAnyH_take (i := 14) (v := ?_) rfl (by kernel_rfl) (by kernel_rfl) (by kernel_rfl) (fun _ _ _ h => h) (Or.inl ⟨by rfl, ?_⟩) (by assumption) ?_
                rotate_left
                · intro w hSw
                  (try dsimp only at hSw)
                  go_simp
                  first | done | with_reducible rfl
                (try simp only [List.getElem_toArray, List.getElem_cons_succ, List.getElem_cons_zero, Act.put, List.setIfInBounds_toArray, List.set_cons_zero, List.set_cons_succ])
                refine wpAnyH_take (i := 15) (v := ?_) rfl (by kernel_rfl) (by kernel_rfl) (by kernel_rfl) (fun _ _ _ h => h) (Or.inl ⟨by rfl, ?_⟩) (by assumption) ?_
                rotate_left
                · intro w hSw
                  (try dsimp only at hSw)
                  go_simp
                  first | done | with_reducible rfl
                (try simp only [List.getElem_toArray, List.getElem_cons_succ, List.getElem_cons_zero, Act.put, List.setIfInBounds_toArray, List.set_cons_zero, List.set_cons_succ])
                refine wpAnyH_take (i := 16) (v := ?_) rfl (by kernel_rfl) (by kernel_rfl) (by kernel_rfl) (fun _ _ _ h => h) (Or.inl ⟨by rfl, ?_⟩) (by assumption) ?_
                rotate_left
                · intro w hSw
                  (try dsimp only at hSw)
                  go_simp
                  first | done | with_reducible rfl
                (try simp only [List.getElem_toArray, List.getElem_cons_succ, List.getElem_cons_zero, Act.put, List.setIfInBounds_toArray, List.set_cons_zero, List.set_cons_succ])
                refine wpAnyH_take (i := 17) (v := ?_) rfl (by kernel_rfl) (by kernel_rfl) (by kernel_rfl) (fun _ _ _ h => h) (Or.inl ⟨by rfl, ?_⟩) (by assumption) ?_
                rotate_left
                · intro w hSw
                  (try dsimp only at hSw)
                  go_simp
                  first | done | with_reducible rfl
                (try simp only [List.getElem_toArray, List.getElem_cons_succ, List.getElem_cons_zero, Act.put, List.setIfInBounds_toArray, List.set_cons_zero, List.set_cons_succ])
                refine wpAnyH_take (i := 18) (v := ?_) rfl (by kernel_rfl) (by kernel_rfl) (by kernel_rfl) (fun _ _ _ h => h) (Or.inl ⟨by rfl, ?_⟩) (by assumption) ?_
                rotate_left
                · intro w hSw
                  (try dsimp only at hSw)
                  go_simp
                  first | done | with_reducible rfl
                (try simp only [List.getElem_toArray, List.getElem_cons_succ, List.getElem_cons_zero, Act.put, List.setIfInBounds_toArray, List.set_cons_zero, List.set_cons_succ])
                refine wpAnyH_take (i := 19) (v := ?_) rfl (by kernel_rfl) (by kernel_rfl) (by kernel_rfl) (fun _ _ _ h => h) (Or.inl ⟨by rfl, ?_⟩) (by assumption) ?_
                rotate_left
                · intro w hSw
                  (try dsimp only at hSw)
                  go_simp
                  first | done | with_reducible rfl
                (try simp only [List.getElem_toArray, List.getElem_cons_succ, List.getElem_cons_zero, Act.put, List.setIfInBounds_toArray, List.set_cons_zero, List.set_cons_succ])
                refine wpAnyH_take (i := 20) (v := ?_) rfl (by kernel_rfl) (by kernel_rfl) (by kernel_rfl) (fun _ _ _ h => h) (Or.inl ⟨by rfl, ?_⟩) (by assumption) ?_
                rotate_left
                · intro w hSw
                  (try dsimp only at hSw)
                  go_simp
                  first | done | with_reducible rfl
                (try simp only [List.getElem_toArray, List.getElem_cons_succ, List.getElem_cons_zero, Act.put, List.setIfInBounds_toArray, List.set_cons_zero, List.set_cons_succ])
                refine wpAnyH_take (i := 21) (v := ?_) rfl (by kernel_rfl) (by kernel_rfl) (by kernel_rfl) (fun _ _ _ h => h) (Or.inl ⟨by rfl, ?_⟩) (by assumption) ?_
                rotate_left
                · intro w hSw
                  (try dsimp only at hSw)
                  go_simp
                  first | done | with_reducible rfl
                (try simp only [List.getElem_toArray, List.getElem_cons_succ, List.getElem_cons_zero, Act.put, List.setIfInBounds_toArray, List.set_cons_zero, List.set_cons_succ])
                refine wpAnyH_take (i := 22) (v := ?_) rfl (by kernel_rfl) (by kernel_rfl) (by kernel_rfl) (fun _ _ _ h => h) (Or.inl ⟨by rfl, ?_⟩) (by assumption) ?_
                rotate_left
                · intro w hSw
                  (try dsimp only at hSw)
                  go_simp
                  first | done | with_reducible rfl
                (try simp only [List.getElem_toArray, List.getElem_cons_succ, List.getElem_cons_zero, Act.put, List.setIfInBounds_toArray, List.set_cons_zero, List.set_cons_succ])
                refine wpAnyH_take (i := 23) (v := ?_) rfl (by kernel_rfl) (by kernel_rfl) (by kernel_rfl) (fun _ _ _ h => h) (Or.inl ⟨by rfl, ?_⟩) (by assumption) ?_
                rotate_left
                · intro w hSw
                  (try dsimp only at hSw)
                  go_simp
                  first | done | with_reducible rfl
                (try simp only [List.getElem_toArray, List.getElem_cons_succ, List.getElem_cons_zero, Act.put, List.setIfInBounds_toArray, List.set_cons_zero, List.set_cons_succ])
                refine wpAnyH_take (i := 24) (v := ?_) rfl (by kernel_rfl) (by kernel_rfl) (by kernel_rfl) (fun _ _ _ h => h) (Or.inl ⟨by rfl, ?_⟩) (by assumption) ?_
                rotate_left
                · intro w hSw
                  (try dsimp only at hSw)
                  go_simp
                  first | done | with_reducible rfl
                (try simp only [List.getElem_toArray, List.getElem_cons_succ, List.getElem_cons_zero, Act.put, List.setIfInBounds_toArray, List.set_cons_zero, List.set_cons_succ])
                refine wpAnyH_take (i := 25) (v := ?_) rfl (by kernel_rfl) (by kernel_rfl) (by kernel_rfl) (fun _ _ _ h => h) (Or.inl ⟨by rfl, ?_⟩) (by assumption) ?_
                rotate_left
                · intro w hSw
                  (try dsimp only at hSw)
                  go_simp
                  first | done | with_reducible rfl
                (try simp only [List.getElem_toArray, List.getElem_cons_succ, List.getElem_cons_zero, Act.put, List.setIfInBounds_toArray, List.set_cons_zero, List.set_cons_succ])
                refine wpAnyH_take (i := 26) (v := ?_) rfl (by kernel_rfl) (by kernel_rfl) (by kernel_rfl) (fun _ _ _ h => h) (Or.inl ⟨by rfl, ?_⟩) (by assumption) ?_
                rotate_left
                · intro w hSw
                  (try dsimp only at hSw)
                  go_simp
                  first | done | with_reducible rfl
                (try simp only [List.getElem_toArray, List.getElem_cons_succ, List.getElem_cons_zero, Act.put, List.setIfInBounds_toArray, List.set_cons_zero, List.set_cons_succ])
                refine wpAnyH_take (i := 27) (v := ?_) rfl (by kernel_rfl) (by kernel_rfl) (by kernel_rfl) (fun _ _ _ h => h) (Or.inl ⟨by rfl, ?_⟩) (by assumption) ?_
                rotate_left
                · intro w hSw
                  (try dsimp only at hSw)
                  go_simp
                  first | done | with_reducible rfl
                (try simp only [List.getElem_toArray, List.getElem_cons_succ, List.getElem_cons_zero, Act.put, List.setIfInBounds_toArray, List.set_cons_zero, List.set_cons_succ])
                refine wpAnyH_take (i := 28) (v := ?_) rfl (by kernel_rfl) (by kernel_rfl) (by kernel_rfl) (fun _ _ _ h => h) (Or.inl ⟨by rfl, ?_⟩) (by assumption) ?_
                rotate_left
                · intro w hSw
                  (try dsimp only at hSw)
                  go_simp
                  first | done | with_reducible rfl
                (try simp only [List.getElem_toArray, List.getElem_cons_succ, List.getElem_cons_zero, Act.put, List.setIfInBounds_toArray, List.set_cons_zero, List.set_cons_succ])
                refine wpAnyH_take (i := 29) (v := ?_) rfl (by kernel_rfl) (by kernel_rfl) (by kernel_rfl) (fun _ _ _ h => h) (Or.inl ⟨by rfl, ?_⟩) (by assumption) ?_
                rotate_left
                · intro w hSw
                  (try dsimp only at hSw)
                  go_simp
                  first | done | with_reducible rfl
                (try simp only [List.getElem_toArray, List.getElem_cons_succ, List.getElem_cons_zero, Act.put, List.setIfInBounds_toArray, List.set_cons_zero, List.set_cons_succ])
                refine wpAnyH_take (i := 30) (v := ?_) rfl (by kernel_rfl) (by kernel_rfl) (by kernel_rfl) (fun _ _ _ h => h) (Or.inl ⟨by rfl, ?_⟩) (by assumption) ?_
                rotate_left
                · intro w hSw
                  (try dsimp only at hSw)
                  go_simp
                  first | done | with_reducible rfl
                (try simp only [List.getElem_toArray, List.getElem_cons_succ, List.getElem_cons_zero, Act.put, List.setIfInBounds_toArray, List.set_cons_zero, List.set_cons_succ])
                refine wpAnyH_take (i := 31) (v := ?_) rfl (by kernel_rfl) (by kernel_rfl) (by kernel_rfl) (fun _ _ _ h => h) (Or.inl ⟨by rfl, ?_⟩) (by assumption) ?_
                rotate_left
                · intro w hSw
                  (try dsimp only at hSw)
                  go_simp
                  first | done | with_reducible rfl
                (try simp only [List.getElem_toArray, List.getElem_cons_succ, List.getElem_cons_zero, Act.put, List.setIfInBounds_toArray, List.set_cons_zero, List.set_cons_succ])
                refine wpAnyH_take (i := 32) (v := ?_) rfl (by kernel_rfl) (by kernel_rfl) (by kernel_rfl) (fun _ _ _ h => h) (Or.inl ⟨by rfl, ?_⟩) (by assumption) ?_
                rotate_left
                · intro w hSw
                  (try dsimp only at hSw)
                  go_simp
                  first | done | with_reducible rfl
                (try simp only [List.getElem_toArray, List.getElem_cons_succ, List.getElem_cons_zero, Act.put, List.setIfInBounds_toArray, List.set_cons_zero, List.set_cons_succ])
                refine wpAnyH_take (i := 33) (v := ?_) rfl (by kernel_rfl) (by kernel_rfl) (by kernel_rfl) (fun _ _ _ h => h) (Or.inl ⟨by rfl, ?_⟩) (by assumption) ?_
                rotate_left
                · intro w hSw
                  (try dsimp only at hSw)
                  go_simp
                  first | done | with_reducible rfl
                (try simp only [List.getElem_toArray, List.getElem_cons_succ, List.getElem_cons_zero, Act.put, List.setIfInBounds_toArray, List.set_cons_zero, List.set_cons_succ])
                refine wpAnyH_take (i := 34) (v := ?_) rfl (by kernel_rfl) (by kernel_rfl) (by kernel_rfl) (fun _ _ _ h => h) (Or.inl ⟨by rfl, ?_⟩) (by assumption) ?_
                rotate_left
                · intro w hSw
                  (try dsimp only at hSw)
                  go_simp
                  first | done | with_reducible rfl
                (try simp only [List.getElem_toArray, List.getElem_cons_succ, List.getElem_cons_zero, Act.put, List.setIfInBounds_toArray, List.set_cons_zero, List.set_cons_succ])
                refine wpAnyH_take (i := 35) (v := ?_) rfl (by kernel_rfl) (by kernel_rfl) (by kernel_rfl) (fun _ _ _ h => h) (Or.inl ⟨by rfl, ?_⟩) (by assumption) ?_
                rotate_left
                · intro w hSw
                  (try dsimp only at hSw)
                  go_simp
                  first | done | with_reducible rfl
                (try simp only [List.getElem_toArray, List.getElem_cons_succ, List.getElem_cons_zero, Act.put, List.setIfInBounds_toArray, List.set_cons_zero, List.set_cons_succ])
                refine wpAnyH_take (i := 36) (v := ?_) rfl (by kernel_rfl) (by kernel_rfl) (by kernel_rfl) (fun _ _ _ h => h) (Or.inl ⟨by rfl, ?_⟩) (by assumption) ?_
                rotate_left
                · intro w hSw
                  (try dsimp only at hSw)
                  go_simp
                  first | done | with_reducible rfl
                (try simp only [List.getElem_toArray, List.getElem_cons_succ, List.getElem_cons_zero, Act.put, List.setIfInBounds_toArray, List.set_cons_zero, List.set_cons_succ])
                refine wpAnyH_take (i := 37) (v := ?_) rfl (by kernel_rfl) (by kernel_rfl) (by kernel_rfl) (fun _ _ _ h => h) (Or.inl ⟨by rfl, ?_⟩) (by assumption) ?_
                rotate_left
                · intro w hSw
                  (try dsimp only at hSw)
                  go_simp
                  first | done | with_reducible rfl
                (try simp only [List.getElem_toArray, List.getElem_cons_succ, List.getElem_cons_zero, Act.put, List.setIfInBounds_toArray, List.set_cons_zero, List.set_cons_succ])
                refine wpAnyH_take (i := 38) (v := ?_) rfl (by kernel_rfl) (by kernel_rfl) (by kernel_rfl) (fun _ _ _ h => h) (Or.inl ⟨by rfl, ?_⟩) (by assumption) ?_
                rotate_left
                · intro w hSw
                  (try dsimp only at hSw)
                  go_simp
                  first | done | with_reducible rfl
                (try simp only [List.getElem_toArray, List.getElem_cons_succ, List.getElem_cons_zero, Act.put, List.setIfInBounds_toArray, List.set_cons_zero, List.set_cons_succ])
                refine wpAnyH_take (i := 39) (v := ?_) rfl (by kernel_rfl) (by kernel_rfl) (by kernel_rfl) (fun _ _ _ h => h) (Or.inl ⟨by rfl, ?_⟩) (by assumption) ?_
                rotate_left
                · intro w hSw
                  (try dsimp only at hSw)
                  go_simp
                  first | done | with_reducible rfl
                (try simp only [List.getElem_toArray, List.getElem_cons_succ, List.getElem_cons_zero, Act.put, List.setIfInBounds_toArray, List.set_cons_zero, List.set_cons_succ])
                refine wpAnyH_take (i := 40) (v := ?_) rfl (by kernel_rfl) (by kernel_rfl) (by kernel_rfl) (fun _ _ _ h => h) (Or.inl ⟨by rfl, ?_⟩) (by assumption) ?_
                rotate_left
                · intro w hSw
                  (try dsimp only at hSw)
                  go_simp
                  first | done | with_reducible rfl
                (try simp only [List.getElem_toArray, List.getElem_cons_succ, List.getElem_cons_zero, Act.put, List.setIfInBounds_toArray, List.set_cons_zero, List.set_cons_succ])
                refine wpAnyH_take (i := 41) (v := ?_) rfl (by kernel_rfl) (by kernel_rfl) (by kernel_rfl) (fun _ _ _ h => h) (Or.inl ⟨by rfl, ?_⟩) (by assumption) ?_
                rotate_left
                · intro w hSw
                  (try dsimp only at hSw)
                  go_simp
                  first | done | with_reducible rfl
                (try simp only [List.getElem_toArray, List.getElem_cons_succ, List.getElem_cons_zero, Act.put, List.setIfInBounds_toArray, List.set_cons_zero, List.set_cons_succ])
                refine wpAnyH_take (i := 42) (v := ?_) rfl (by kernel_rfl) (by kernel_rfl) (by kernel_rfl) (fun _ _ _ h => h) (Or.inl ⟨by rfl, ?_⟩) (by assumption) ?_
                rotate_left
                · intro w hSw
                  (try dsimp only at hSw)
                  go_simp
                  first | done | with_reducible rfl
                (try simp only [List.getElem_toArray, List.getElem_cons_succ, List.getElem_cons_zero, Act.put, List.setIfInBounds_toArray, List.set_cons_zero, List.set_cons_succ])
                refine wpAnyH_ready (rs := [43]) (by kernel_rfl) (by simp) (AllReadyH.cons rfl (fun K hK => ?_) AllReadyH.nil)
                · skip
                  go_simp
                  refine hK.out _ _ (HC.out _ ((Below.drew (Below.refl w2.heap.size wr)).alloc hps _)) (fun hHeld => ?_)
                  clear hK K
                  (try simp only [List.getElem_toArray, List.getElem_cons_succ, List.getElem_cons_zero, Act.put, List.setIfInBounds_toArray, List.set_cons_zero, List.set_cons_succ])
                  refine wpAnyH_ready (rs := [44]) (by kernel_rfl) (by simp) (AllReadyH.cons rfl (fun K hK => ?_) AllReadyH.nil)
                  · skip
                    refine step_append1 (by rfl) (.tmp 45) (.tmp 88) 22 (by rfl) w2.heap.size 63 (.agg #[.int .i64 0, .int .i64 0, .int .i64 0, .int .i64 0, .int .i64 0, .int .i64 0]) 6 48 encB Tryz.underlying22 (by kernel_rfl) rfl (by omega) encB_len encB_one _ acc (BoxD.mk (p1, p2, p3) (p1, p2, p3)) (by rfl) (RA.out.alloc _) _ (by rfl) (Blk.new _ _ _) (by omega) (by omega) (le_alloc hps _) ?_
                    intro A5 c5 w5 hrow5 hb5 hkeep5
                    refine hK.out _ _ (HC.out _ (((Below.drew (Below.refl w2.heap.size wr)).alloc hps _).trans hb5)) (fun hHeld => ?_)
                    clear hK K
                    (try simp only [List.getElem_toArray, List.getElem_cons_succ, List.getElem_cons_zero, Act.put, List.setIfInBounds_toArray, List.set_cons_zero, List.set_cons_succ])
                    refine wpAnyH_take (i := 45) (v := ?_) rfl (by kernel_rfl) (by kernel_rfl) (by kernel_rfl) (fun _ _ _ h => h) (Or.inl ⟨by rfl, ?_⟩) (by assumption) ?_
                    rotate_left
                    · intro w hSw
                      (try dsimp only at hSw)
                      go_simp
                      first | done | with_reducible rfl
                    (try simp only [List.getElem_toArray, List.getElem_cons_succ, List.getElem_cons_zero, Act.put, List.setIfInBounds_toArray, List.set_cons_zero, List.set_cons_succ])
                    refine wpAnyH_done (by kernel_rfl) ?_ _
                    have HB5 := hide ((HBd.out.alloc hps _).trans hb5)
                    go_wp2_with fail
                    go_roundw
                    case rel => exact ⟨1, by omega, by go_num, ⟨acc ++ [ptBox (p1, p2, p3)], hide (by simpa [ptBox] using hrow5), hide (by rw [Hac.out]; rfl)⟩, HB5⟩
                    case measure => simp [intOf]
              · have hb9 := hbr
                go_wp2_with fail
                go_roundw
                case rel => exact ⟨1, by omega, by go_num, ⟨acc, hrow, hacc⟩, hb9⟩
                case measure => simp [intOf]
          · go_wp2_with fail
            go_roundw
            case rel => exact ⟨1, by omega, by go_num, ⟨acc, hrow, hacc⟩, hbr⟩
            case measure => simp [intOf]
      · have hfin : acc = [ptBox (p1, p2, p3)] := hacc.out
        have hlen := hide (show acc.length = 1 by rw [hfin]; rfl)
        have Hr := hide (show BoxesAt wa wa.heap.size A0 [ptBox (p1, p2, p3)] by rw [← hfin]; exact Row.read hrow.out encB_len (by omega))
        have HB := hide (below_step HW2.out hbr.out (Nat.le_refl _))
        clear hfin hacc hrow hbr
        generalize acc.length = m at *
        go_wp2_with fail
        go_ret
        exact ⟨A0, c0, by rw [hlen.out]; rfl, Hr.out, HB.out⟩
end Go.Proofs.YtmcjpdlkkpnhfaaGreat
