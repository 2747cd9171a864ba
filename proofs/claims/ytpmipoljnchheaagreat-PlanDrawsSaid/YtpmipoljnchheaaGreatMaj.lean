/- The references of layers 9, 17: whether a box, a solid, a member is valid. The references of layers 11 and 12: sizes, and how many dimensions a code has. The reference of layer 12: whether a bar is valid. The reference of layer 12: the moves and the legs of a valid bar. -/
import Derived.Test.YtpmipoljnchheaaGreatMag
import Derived.Test.YtpmipoljnchheaaGreatMah
import Derived.Test.YtpmipoljnchheaaGreatMai
import Derived.Test.YtpmipoljnchheaaGreatMab
import Derived.Lib.QuietBelow
import Derived.BigRegion
import Derived.Deep.RegionHeld3
import Derived.StillTailTactics
namespace Go.Proofs.YtpmipoljnchheaaGreat
open Go.RowKit

def axAt (b : BoxD) (k : Nat) : Int × Int := (nthC b.lo k, nthC b.hi k)
theorem axes_at (b : BoxD) (k : Nat) (hk : k < 3) : (axes b).drop k = axAt b k :: (axes b).drop (k + 1) := by
  rcases (show k = 0 ∨ k = 1 ∨ k = 2 by omega) with rfl | rfl | rfl <;> rfl
set_option maxHeartbeats 2000000 in
theorem refBox_any (b : BoxD) (w : World) :
    Calls Tryz.prog 75 #[bxV b] w fun e w' => e = .returned (.bool (boxOk b)) ∧ Below w.heap.size w w' := by
  obtain ⟨⟨x1, x2, x3⟩, x4, x5, x6⟩ := b
  have K0 := hide (Blk.new w 73 #[.int .i64 x1, .int .i64 x2, .int .i64 x3, .int .i64 x4, .int .i64 x5, .int .i64 x6])
  have HW := hide (below_new w (.cells #[.int .i64 x1, .int .i64 x2, .int .i64 x3, .int .i64 x4, .int .i64 x5, .int .i64 x6] 73))
  have hb : boxOk ⟨(x1, x2, x3), (x4, x5, x6)⟩ = ((axes ⟨(x1, x2, x3), (x4, x5, x6)⟩).drop 0).all axisFine := rfl
  rw [hb]
  clear hb
  go_enter Tryz.func75, Tryz.ntmps75
  go_wp2_with fail
  go_loopw [3] (fun i wr => ∃ k : Nat, k ≤ 3 ∧ i = .int .i64 k ∧ Hid (((axes ⟨(x1, x2, x3), (x4, x5, x6)⟩).drop 0).all axisFine = ((axes ⟨(x1, x2, x3), (x4, x5, x6)⟩).drop k).all axisFine) ∧ Hid (Blk wr w.heap.size 73 #[.int .i64 x1, .int .i64 x2, .int .i64 x3, .int .i64 x4, .int .i64 x5, .int .i64 x6]) ∧ Below w.heap.size w wr) (fun i _ => 3 - (intOf i).toNat)
  case atStart => exact ⟨0, by omega, rfl, hide rfl, K0, HW.out⟩
  case round =>
    obtain ⟨k, hk, rfl, hq, hK, hbr⟩ := hrel
    by_cases hlt : k < 3
    · have Hq := hide (hq.out.trans (by rw [axes_at _ k hlt, List.all_cons]))
      have CL := fun W => refCoord_any x1 x2 x3 k hlt W
      have CH := fun W => refCoord_any x4 x5 x6 k hlt W
      have hax : axisFine (axAt ⟨(x1, x2, x3), (x4, x5, x6)⟩ k) = axisOk (nthC (x1, x2, x3) k) (nthC (x4, x5, x6) k) := rfl
      rw [hax] at Hq
      generalize nthC (x1, x2, x3) k = lo at *
      generalize nthC (x4, x5, x6) k = hi at *
      have HL := fun W => refIsLength_any lo W
      have HH := fun W => refIsLength_any hi W
      have hao : axisOk lo hi = (coordOk lo && coordOk hi && !decide (hi < lo)) := by
        rw [Bool.eq_iff_iff]
        simp only [axisOk, coordOk, Bool.and_eq_true, decide_eq_true_eq, Bool.not_eq_true', decide_eq_false_iff_not]
        omega
      rw [hao] at Hq
      generalize coordOk lo = a1 at *
      generalize coordOk hi = a2 at *
      have CL := hide CL
      have CH := hide CH
      have HL := hide HL
      have HH := hide HH
      have Hbr := hide hbr
      have HK := hide hK.out
      have c0 := cell_regrown (hK.out.cell 0)
      have c1 := cell_regrown (hK.out.cell 1)
      have c2 := cell_regrown (hK.out.cell 2)
      have c3 := cell_regrown (hK.out.cell 3)
      have c4 := cell_regrown (hK.out.cell 4)
      have c5 := cell_regrown (hK.out.cell 5)
      simp at c0 c1 c2 c3 c4 c5
      clear hq hax hao hbr hK
      cases a1
      · go_wp2_with fail
        refine wp_region_quiet_below (by kernel_rfl) (by kernel_rfl) ?_
        repeat (go_big_quiet_step (first
          | (go_at_call 108; first | with_reducible exact regrown_same (HL.out _) | with_reducible exact regrown_same (HH.out _))
          | (go_at_call 109; first | with_reducible exact Calls.regrown_of (CL.out _) | with_reducible exact Calls.regrown_of (CH.out _))))
        refine wpQuiet_nil ?_
        intro w2 hw'
        have hbq := hide (show Below _ _ w2 by obtain ⟨p, rfl⟩ := hw'; exact below_regrown _ _ _)
        clear hw'
        go_wp2_with fail
        go_ret
        exact ⟨ret_bool (by rw [Hq.out]; rfl), below_step Hbr.out hbq.out (Nat.le_refl _)⟩
      cases a2
      · go_wp2_with fail
        refine wp_region_quiet_below (by kernel_rfl) (by kernel_rfl) ?_
        repeat (go_big_quiet_step (first
          | (go_at_call 108; first | with_reducible exact regrown_same (HL.out _) | with_reducible exact regrown_same (HH.out _))
          | (go_at_call 109; first | with_reducible exact Calls.regrown_of (CL.out _) | with_reducible exact Calls.regrown_of (CH.out _))))
        refine wpQuiet_nil ?_
        intro w2 hw'
        have hbq := hide (show Below _ _ w2 by obtain ⟨p, rfl⟩ := hw'; exact below_regrown _ _ _)
        clear hw'
        go_wp2_with fail
        go_ret
        exact ⟨ret_bool (by rw [Hq.out]; rfl), below_step Hbr.out hbq.out (Nat.le_refl _)⟩
      cases hd : decide (hi < lo)
      · have Hd := hide hd
        go_wp2_with fail
        refine wp_region_quiet_below (by kernel_rfl) (by kernel_rfl) ?_
        repeat (go_big_quiet_step (first
          | (go_at_call 108; first | with_reducible exact regrown_same (HL.out _) | with_reducible exact regrown_same (HH.out _))
          | (go_at_call 109; first | with_reducible exact Calls.regrown_of (CL.out _) | with_reducible exact Calls.regrown_of (CH.out _))))
        refine wpQuiet_nil ?_
        intro w2 hw'
        have hbq := hide (show Below _ _ w2 by obtain ⟨p, rfl⟩ := hw'; exact below_regrown _ _ _)
        clear hw'
        go_wp2_with fail
        go_roundw
        case rel => exact ⟨k + 1, by omega, by go_num, hide (by rw [Hq.out, Hd.out]; rfl), hide (HK.out.keep hbq.out), below_step Hbr.out hbq.out (Nat.le_refl _)⟩
        case measure => simp [intOf]; omega
      · have Hd := hide hd
        go_wp2_with fail
        refine wp_region_quiet_below (by kernel_rfl) (by kernel_rfl) ?_
        repeat (go_big_quiet_step (first
          | (go_at_call 108; first | with_reducible exact regrown_same (HL.out _) | with_reducible exact regrown_same (HH.out _))
          | (go_at_call 109; first | with_reducible exact Calls.regrown_of (CL.out _) | with_reducible exact Calls.regrown_of (CH.out _))))
        refine wpQuiet_nil ?_
        intro w2 hw'
        have hbq := hide (show Below _ _ w2 by obtain ⟨p, rfl⟩ := hw'; exact below_regrown _ _ _)
        clear hw'
        go_wp2_with fail
        go_ret
        exact ⟨ret_bool (by rw [Hq.out, Hd.out]; rfl), below_step Hbr.out hbq.out (Nat.le_refl _)⟩
    · obtain rfl : k = 3 := by omega
      go_wp2_with fail
      go_ret
      exact ⟨ret_bool (by rw [hq.out]; rfl), hbr⟩
set_option maxHeartbeats 1000000 in
theorem refThick_any (b : BoxD) (w : World) :
    Calls Tryz.prog 101 #[bxV b] w fun e w' => e = .returned (.bool (thickOk b)) ∧ Below w.heap.size w w' := by
  have HB := fun W => refBox_any b W
  have hr : thickOk b = (boxOk b && (decide (b.lo.1 < b.hi.1) && (decide (b.lo.2.1 < b.hi.2.1) && decide (b.lo.2.2 < b.hi.2.2)))) := by simp only [thickOk, Bool.and_assoc]
  rw [hr]
  clear hr
  generalize boxOk b = a at *
  obtain ⟨⟨x1, x2, x3⟩, x4, x5, x6⟩ := b
  simp only
  have HB := hide HB
  have K0 := hide (Blk.new w 73 #[.int .i64 x1, .int .i64 x2, .int .i64 x3, .int .i64 x4, .int .i64 x5, .int .i64 x6])
  have HW := hide (below_new w (.cells #[.int .i64 x1, .int .i64 x2, .int .i64 x3, .int .i64 x4, .int .i64 x5, .int .i64 x6] 73))
  go_enter Tryz.func101, Tryz.ntmps101
  go_wp2_with fail
  refine (HB.out _).mono ?_
  rintro e w1 ⟨rfl, hb⟩
  have K0 := hide (K0.out.keep hb)
  have HW := hide (below_step HW.out hb (Nat.le_refl _))
  clear hb HB
  have c0 := K0.out.cell 0
  have c1 := K0.out.cell 1
  have c2 := K0.out.cell 2
  have c3 := K0.out.cell 3
  have c4 := K0.out.cell 4
  have c5 := K0.out.cell 5
  simp at c0 c1 c2 c3 c4 c5
  have lk := K0.out.lt
  cases a
  · go_wp2_with fail
    go_ret
    exact ⟨ret_bool (by first | rfl | (rw [q0]; rfl) | (rw [q0, q1]; rfl) | (rw [q0, q1, q2]; rfl)), HW.out⟩
  cases q0 : decide (x1 < x4)
  · go_wp2_with fail
    go_ret
    exact ⟨ret_bool (by first | rfl | (rw [q0]; rfl) | (rw [q0, q1]; rfl) | (rw [q0, q1, q2]; rfl)), HW.out⟩
  cases q1 : decide (x2 < x5)
  · go_wp2_with fail
    go_ret
    exact ⟨ret_bool (by first | rfl | (rw [q0]; rfl) | (rw [q0, q1]; rfl) | (rw [q0, q1, q2]; rfl)), HW.out⟩
  cases q2 : decide (x3 < x6)
  all_goals
    go_wp2_with fail
    go_ret
    exact ⟨ret_bool (by first | rfl | (rw [q0]; rfl) | (rw [q0, q1]; rfl) | (rw [q0, q1, q2]; rfl)), HW.out⟩
theorem all_at {α : Type} {p : α → Bool} {l : List α} {k : Nat} {x : α} (h : l[k]? = some x) : (l.drop k).all p = (p x && (l.drop (k + 1)).all p) := by
  rw [drop_at' h, List.all_cons]
set_option maxHeartbeats 2000000 in
theorem refSolid_any (bs hs : List BoxD) (A1 A2 : Option Addr) (n1 n2 c1 c2 : Nat) (w : World) {B : Nat} (h1 : BoxesAt w B A1 bs) (h2 : BoxesAt w B A2 hs) (hB : B ≤ w.heap.size) (l1 : n1 = bs.length) (l2 : n2 = hs.length) :
    Calls Tryz.prog 71 #[.agg #[.slice A1 n1 c1, .slice A2 n2 c2]] w fun e w' => e = .returned (.bool (solidOk bs hs)) ∧ Below w.heap.size w w' := by
  have L1 := hide l1
  have L2 := hide l2
  have H1 := hide h1
  have H2 := hide h2
  have K0 := hide (Blk.new w 24 #[.slice A1 n1 c1, .slice A2 n2 c2])
  have HW := hide (below_new w (.cells #[.slice A1 n1 c1, .slice A2 n2 c2] 24))
  by_cases hlen : ¬(1 ≤ n1 ∧ n1 ≤ 20 ∧ n2 ≤ 20)
  · have hr := hide (show solidOk bs hs = false by
      cases hx : solidOk bs hs with
      | false => rfl
      | true => simp only [solidOk, Bool.and_eq_true, decide_eq_true_eq] at hx; omega)
    clear h1 h2 l1 l2
    by_cases a : n1 < 1
    · obtain rfl : n1 = 0 := by omega
      go_enter Tryz.func71, Tryz.ntmps71
      go_wp2_with fail
      go_ret
      exact ⟨ret_bool hr.out.symm, HW.out⟩
    have d0 : decide ((n1 : Int) < 1) = false := by simp; omega
    by_cases b : 20 < n1
    · have d1 : decide (20 < (n1 : Int)) = true := by simp; omega
      clear hlen a b
      go_enter Tryz.func71, Tryz.ntmps71
      go_wp2_with fail
      go_ret
      exact ⟨ret_bool hr.out.symm, HW.out⟩
    have d1 : decide (20 < (n1 : Int)) = false := by simp; omega
    have d2 : decide (20 < (n2 : Int)) = true := by simp; omega
    clear hlen a b
    go_enter Tryz.func71, Tryz.ntmps71
    go_wp2_with fail
    go_ret
    exact ⟨ret_bool hr.out.symm, HW.out⟩
  have hl1 : 1 ≤ n1 ∧ n1 ≤ 20 ∧ n2 ≤ 20 := by omega
  obtain ⟨m1, m20, m2⟩ := hl1
  have hr := hide (show solidOk bs hs = ((bs.drop 0).all thickOk && (hs.drop 0).all thickOk) by
    rw [solidOk, decide_eq_true (by omega), decide_eq_true (by omega), decide_eq_true (by omega)]; rfl)
  have d0 : decide ((n1 : Int) < 1) = false := by simp; omega
  have d1 : decide (20 < (n1 : Int)) = false := by simp; omega
  have d2 : decide (20 < (n2 : Int)) = false := by simp; omega
  clear hlen h1 h2 l1 l2
  go_enter Tryz.func71, Tryz.ntmps71
  go_wp2_with fail
  go_loopw [3] (fun i wr => ∃ k : Nat, k ≤ n1 ∧ i = .int .i64 k ∧ Hid ((bs.drop 0).all thickOk = (bs.drop k).all thickOk) ∧ Hid (Blk wr w.heap.size 24 #[.slice A1 n1 c1, .slice A2 n2 c2]) ∧ Below w.heap.size w wr) (fun i _ => n1 - (intOf i).toNat)
  case atStart => exact ⟨0, Nat.zero_le _, rfl, hide rfl, K0, HW.out⟩
  case round =>
    obtain ⟨k, hk, rfl, hq, hK, hbr⟩ := hrel
    have e0 := hK.out.cell 0
    simp at e0
    have lk := hK.out.lt
    by_cases hlt : k < n1
    · obtain ⟨b, off, x, rfl, hbl, hx, f0, f1, f2, f3, f4, f5⟩ := BoxesAt.get (k := k) (H1.out.carry (Flat.carried _) (hbr.mono hB) (Nat.le_refl _)) (by rw [← L1.out]; exact hlt)
      have Hq := hide (hq.out.trans (all_at hx))
      have HT := hide (fun W => refThick_any x W)
      generalize thickOk x = a at *
      obtain ⟨⟨x1, x2, x3⟩, x4, x5, x6⟩ := x
      simp only at f0 f1 f2 f3 f4 f5
      have HK := hide hK.out
      have Hbr := hide hbr
      clear hx hbl hq hK hbr
      go_wp2_with fail
      refine (HT.out _).mono ?_
      rintro e w1 ⟨rfl, hb⟩
      have HK := hide (HK.out.keep hb)
      have Hbr := hide (below_step Hbr.out hb (Nat.le_refl _))
      clear hb HT f0 f1 f2 f3 f4 f5 e0 lk
      cases a
      · go_wp2_with fail
        go_ret
        exact ⟨ret_bool (by rw [hr.out, Hq.out]; rfl), Hbr.out⟩
      · go_wp2_with fail
        go_roundw
        case rel => exact ⟨k + 1, by omega, by go_num, hide (by rw [Hq.out]; rfl), HK, Hbr.out⟩
        case measure => simp [intOf]; omega
    · obtain rfl : n1 = k := by omega
      have hf := hide (show (bs.drop 0).all thickOk = true by rw [hq.out, L1.out, List.drop_length]; rfl)
      have K1 := hK
      have HW1 := hide hbr
      rename World => wo
      clear hq hbr
      go_wp2_with fail
      go_loopw [4] (fun i wr => ∃ k : Nat, k ≤ n2 ∧ i = .int .i64 k ∧ Hid ((hs.drop 0).all thickOk = (hs.drop k).all thickOk) ∧ Hid (Blk wr w.heap.size 24 #[.slice A1 n1 c1, .slice A2 n2 c2]) ∧ Below w.heap.size w wr) (fun i _ => n2 - (intOf i).toNat)
      case atStart => exact ⟨0, Nat.zero_le _, rfl, hide rfl, K1, HW1.out⟩
      case round =>
        obtain ⟨k, hk, rfl, hq, hK, hbr⟩ := hrel
        have e1 := hK.out.cell 1
        simp at e1
        have lk := hK.out.lt
        by_cases hlt : k < n2
        · obtain ⟨b, off, x, rfl, hbl, hx, f0, f1, f2, f3, f4, f5⟩ := BoxesAt.get (k := k) (H2.out.carry (Flat.carried _) (hbr.mono hB) (Nat.le_refl _)) (by rw [← L2.out]; exact hlt)
          have Hq := hide (hq.out.trans (all_at hx))
          have HT := hide (fun W => refThick_any x W)
          generalize thickOk x = a at *
          obtain ⟨⟨x1, x2, x3⟩, x4, x5, x6⟩ := x
          simp only at f0 f1 f2 f3 f4 f5
          have HK := hide hK.out
          have Hbr := hide hbr
          clear hx hbl hq hK hbr
          go_wp2_with fail
          refine (HT.out _).mono ?_
          rintro e w1 ⟨rfl, hb⟩
          have HK := hide (HK.out.keep hb)
          have Hbr := hide (below_step Hbr.out hb (Nat.le_refl _))
          clear hb HT f0 f1 f2 f3 f4 f5 e1 lk
          cases a
          · go_wp2_with fail
            go_ret
            exact ⟨ret_bool (by rw [hr.out, Hq.out, hf.out]; rfl), Hbr.out⟩
          · go_wp2_with fail
            go_roundw
            case rel => exact ⟨k + 1, by omega, by go_num, hide (by rw [Hq.out]; rfl), HK, Hbr.out⟩
            case measure => simp [intOf]; omega
        · obtain rfl : n2 = k := by omega
          have hf2 := hide (show (hs.drop 0).all thickOk = true by rw [hq.out, L2.out, List.drop_length]; rfl)
          go_wp2_with fail
          go_ret
          exact ⟨ret_bool (by rw [hr.out, hf.out, hf2.out]; rfl), hbr⟩
end Go.Proofs.YtpmipoljnchheaaGreat
namespace Go.Proofs.YtpmipoljnchheaaGreat
open Go.RowKit

set_option maxHeartbeats 400000 in
theorem refSizes_any (w : World) :
    Calls Tryz.prog 179 #[] w fun e w' => ∃ A, e = .returned (.slice A 9 9) ∧ Ints w' w'.heap.size A steelSizes ∧ Below w.heap.size w w' := by
  go_enter Tryz.func179, Tryz.ntmps179
  go_wp2
  go_ret
  exact ⟨_, rfl, SlOf.lit encInt_len _ _ _ _ rfl (by simp), below_new _ _⟩

set_option maxHeartbeats 400000 in
theorem refSize_any (d : Int) (w : World) :
    Calls Tryz.prog 148 #[.int .i64 d] w fun e w' => e = .returned (.bool (isSize d)) ∧ Below w.heap.size w w' := by
  go_enter Tryz.func148, Tryz.ntmps148
  go_wp2_with fail
  refine (refSizes_any _).mono ?_
  rintro e w1 ⟨S, rfl, hS, hb1⟩
  go_wp2_with fail
  go_loop [4] (fun i => ∃ k : Nat, k ≤ 9 ∧ i = .int .i64 k ∧ NoneTo (fun y => y == d) steelSizes k) (fun i => 9 - (intOf i).toNat)
  case atStart => exact ⟨0, Nat.zero_le _, rfl, NoneTo.zero _ _⟩
  case round =>
    obtain ⟨k, hk, rfl, hn⟩ := hrel
    by_cases hlt : k < 9
    · obtain ⟨b, off, y, rfl, hbl, hy, hc⟩ := hS.get (k := k) hlt
      have Hy := hide hy
      have Hb1 := hide hb1
      clear hy hbl hS hb1
      go_wp2_with fail
      · go_ret
        refine ⟨ret_bool ?_, Hb1.out⟩
        have h1 : (y == d) = true := by assumption
        have := mem_of_get Hy.out
        have h2 : y = d := by simpa using h1
        rw [isSize, has]; simp; rw [← h2]; exact this
      · go_round
        case rel => exact ⟨k + 1, by omega, by go_num, hn.succ Hy.out (by assumption)⟩
        case measure => simp [intOf]; omega
    · obtain rfl : k = 9 := by omega
      go_wp2_with fail
      go_ret
      refine ⟨ret_bool ?_, hb1⟩
      have h1 := NoneTo.miss (p := fun y => y == d) (l := steelSizes) hn
      have h2 := idx_any (fun y => y == d) steelSizes
      rw [h1] at h2
      rw [isSize, has]
      simp at h2 ⊢
      exact fun h => h2 _ h rfl

def refDims (code : Int) : Int := if code = 0 then 1 else if code = 11 then 2 else if code = 21 ∨ code = 26 ∨ code = 31 ∨ code = 51 ∨ code = 98 then 3 else if code = 41 then 5 else 0
theorem refDims_eq (code : Int) : refDims code = dimsN code := by
  unfold refDims
  by_cases h0 : code = 0
  · subst h0; rfl
  by_cases h1 : code = 11
  · subst h1; rfl
  by_cases h2 : code = 21
  · subst h2; rfl
  by_cases h3 : code = 26
  · subst h3; rfl
  by_cases h4 : code = 31
  · subst h4; rfl
  by_cases h5 : code = 51
  · subst h5; rfl
  by_cases h6 : code = 98
  · subst h6; rfl
  by_cases h7 : code = 41
  · subst h7; rfl
  simp [h0, h1, h2, h3, h4, h5, h6, h7, dimsN, legsOf]

set_option maxHeartbeats 400000 in
theorem refDims_any (code : Int) (w : World) :
    Calls Tryz.prog 149 #[.int .i64 code] w fun e w' => e = .returned (.int .i64 (dimsN code)) ∧ w = w' := by
  rw [← refDims_eq]
  go_enter Tryz.func149, Tryz.ntmps149
  go_wp2_with fail
  all_goals
    go_ret
    exact ⟨ret_int (by unfold refDims; simp_all), rfl⟩
end Go.Proofs.YtpmipoljnchheaaGreat
namespace Go.Proofs.YtpmipoljnchheaaGreat
open Go.RowKit

def okFrom : Int → List Int → Bool
  | s, [] => decide (s ≤ 262144)
  | s, d :: r => decide (1 ≤ d) && decide (d ≤ 1048576) && okFrom (s + d) r
theorem okFrom_big : ∀ (l : List Int) (s : Int), 262144 < s → okFrom s l = false := by
  intro l
  induction l with
  | nil => intro s h; simp [okFrom]; omega
  | cons d r ih =>
    intro s h
    rw [okFrom]
    by_cases hd : 1 ≤ d
    · rw [ih (s + d) (by omega)]; simp
    · simp [hd]
theorem okFrom_fits : ∀ (l : List Int) (s : Int), s ≤ 262144 → 0 ≤ s → okFrom s l = fits (262144 - s) l := by
  intro l
  induction l with
  | nil => intro s h _; simp [okFrom, fits, h]
  | cons d r ih =>
    intro s h h0
    rw [okFrom, fits]
    by_cases hd : 1 ≤ d
    · by_cases hr : d ≤ 262144 - s
      · rw [ih (s + d) (by omega) (by omega), show 262144 - (s + d) = 262144 - s - d by omega]
        simp [hd, hr]; omega
      · rw [okFrom_big r (s + d) (by omega)]; simp [hr]
    · simp [hd]
set_option maxHeartbeats 1000000 in
theorem refBarValid_any (x : BarD) (A : Option Addr) (c : Nat) (w : World) {B : Nat} (hA : Ints w B A x.dims) (hB : B ≤ w.heap.size) (hm : x.mark.size ≤ maxLen) (hd : x.dims.length ≤ 60000) :
    Calls Tryz.prog 102 #[.agg #[.string x.mark, .int .i64 x.size, .int .i64 x.count, .int .i64 x.code, .slice A x.dims.length c]] w fun e w' => e = .returned (.bool (barOk x)) ∧ Below w.heap.size w w' := by
  rw [barOk_pre]
  obtain ⟨mark, size, count, code, dims⟩ := x
  simp only at hA hm hd ⊢
  have b0 := Blk.new w 65 #[.string mark, .int .i64 size, .int .i64 count, .int .i64 code, .slice A dims.length c]
  have c0 := cell_regrown ((b0.cell 0).trans rfl)
  have c1 := cell_regrown ((b0.cell 1).trans rfl)
  have c2 := cell_regrown ((b0.cell 2).trans rfl)
  have c3 := cell_regrown ((b0.cell 3).trans rfl)
  have c4 := cell_regrown ((b0.cell 4).trans rfl)
  have cN := fun W => refIsName_any mark W hm
  have cS := fun W => refSize_any size W
  have hf : barPre ⟨mark, size, count, code, dims⟩ = (decide (dimsE code = 0) && isName mark && isSize size && decide (1 ≤ count) && decide (count ≤ 1000) && decide ((dims.length : Int) = dimsN code)) := rfl
  rw [hf]
  clear b0 hf
  have CS := hide cS
  cases hN : isName mark
  · rw [hN] at cN
    have CN := hide cN
    rw [show (decide (dimsE code = 0) && false && isSize size && decide (1 ≤ count) && decide (count ≤ 1000) && decide ((dims.length : Int) = dimsN code) && fits 262144 dims) = false by simp]
    clear cN cS hN hA
    go_enter Tryz.func102, Tryz.ntmps102
    go_wp2_with fail
    refine wp_region_quiet_below (by kernel_rfl) (by kernel_rfl) ?_
    repeat (go_big_quiet_step (first
      | (go_at_call 70; exact regrown_same (CN.out _))
      | (go_at_call 148; exact Calls.regrown_of (CS.out _))
      | (go_at_call 149; exact regrown_same (refDims_any _ _))))
    refine wpQuiet_nil ?_
    intro w2 hw'
    have hbq := hide (show Below _ _ w2 by obtain ⟨p, rfl⟩ := hw'; exact below_regrown _ _ _)
    clear hw'
    go_wp2_with fail
    go_ret
    exact ⟨rfl, below_step (below_new _ _) hbq.out (Nat.le_refl _)⟩
  rw [hN] at cN
  have CN := hide cN
  clear cN hN
  cases hS : isSize size
  · rw [hS] at cS
    have CS := hide cS
    rw [show (decide (dimsE code = 0) && true && false && decide (1 ≤ count) && decide (count ≤ 1000) && decide ((dims.length : Int) = dimsN code) && fits 262144 dims) = false by simp]
    clear cS hS hA
    go_enter Tryz.func102, Tryz.ntmps102
    go_wp2_with fail
    refine wp_region_quiet_below (by kernel_rfl) (by kernel_rfl) ?_
    repeat (go_big_quiet_step (first
      | (go_at_call 70; exact regrown_same (CN.out _))
      | (go_at_call 148; exact Calls.regrown_of (CS.out _))
      | (go_at_call 149; exact regrown_same (refDims_any _ _))))
    refine wpQuiet_nil ?_
    intro w2 hw'
    have hbq := hide (show Below _ _ w2 by obtain ⟨p, rfl⟩ := hw'; exact below_regrown _ _ _)
    clear hw'
    go_wp2_with fail
    go_ret
    exact ⟨rfl, below_step (below_new _ _) hbq.out (Nat.le_refl _)⟩
  rw [hS] at cS
  have CS := hide cS
  clear cS hS
  by_cases h3 : count < 1
  · rw [show (decide (dimsE code = 0) && true && true && decide (1 ≤ count) && decide (count ≤ 1000) && decide ((dims.length : Int) = dimsN code) && fits 262144 dims) = false by rw [show decide (1 ≤ count) = false by simp; omega]; simp]
    have hd3 : decide (count < 1) = true := by simpa using h3
    clear hA
    go_enter Tryz.func102, Tryz.ntmps102
    go_wp2_with fail
    refine wp_region_quiet_below (by kernel_rfl) (by kernel_rfl) ?_
    repeat (go_big_quiet_step (first
      | (go_at_call 70; exact regrown_same (CN.out _))
      | (go_at_call 148; exact Calls.regrown_of (CS.out _))
      | (go_at_call 149; exact regrown_same (refDims_any _ _))))
    refine wpQuiet_nil ?_
    intro w2 hw'
    have hbq := hide (show Below _ _ w2 by obtain ⟨p, rfl⟩ := hw'; exact below_regrown _ _ _)
    clear hw'
    go_wp2_with fail
    go_ret
    exact ⟨rfl, below_step (below_new _ _) hbq.out (Nat.le_refl _)⟩
  have h3' : 1 ≤ count := by omega
  have hd3 : decide (count < 1) = false := by simp; omega
  clear h3
  by_cases h4 : 1000 < count
  · rw [show (decide (dimsE code = 0) && true && true && decide (1 ≤ count) && decide (count ≤ 1000) && decide ((dims.length : Int) = dimsN code) && fits 262144 dims) = false by rw [show decide (count ≤ 1000) = false by simp; omega]; simp]
    have hd4 : decide (1000 < count) = true := by simpa using h4
    clear hA
    go_enter Tryz.func102, Tryz.ntmps102
    go_wp2_with fail
    refine wp_region_quiet_below (by kernel_rfl) (by kernel_rfl) ?_
    repeat (go_big_quiet_step (first
      | (go_at_call 70; exact regrown_same (CN.out _))
      | (go_at_call 148; exact Calls.regrown_of (CS.out _))
      | (go_at_call 149; exact regrown_same (refDims_any _ _))))
    refine wpQuiet_nil ?_
    intro w2 hw'
    have hbq := hide (show Below _ _ w2 by obtain ⟨p, rfl⟩ := hw'; exact below_regrown _ _ _)
    clear hw'
    go_wp2_with fail
    go_ret
    exact ⟨rfl, below_step (below_new _ _) hbq.out (Nat.le_refl _)⟩
  have h4' : count ≤ 1000 := by omega
  have hd4 : decide (1000 < count) = false := by simp; omega
  clear h4
  by_cases h5 : dimsN code = 0
  · rw [show (decide (dimsE code = 0) && true && true && decide (1 ≤ count) && decide (count ≤ 1000) && decide ((dims.length : Int) = dimsN code) && fits 262144 dims) = false by simp [dimsE, h5]]
    have h5' : (dimsN code == 0) = true := by simpa using h5
    clear hA h5
    go_enter Tryz.func102, Tryz.ntmps102
    go_wp2_with fail
    refine wp_region_quiet_below (by kernel_rfl) (by kernel_rfl) ?_
    repeat (go_big_quiet_step (first
      | (go_at_call 70; exact regrown_same (CN.out _))
      | (go_at_call 148; exact Calls.regrown_of (CS.out _))
      | (go_at_call 149; exact regrown_same (refDims_any _ _))))
    refine wpQuiet_nil ?_
    intro w2 hw'
    have hbq := hide (show Below _ _ w2 by obtain ⟨p, rfl⟩ := hw'; exact below_regrown _ _ _)
    clear hw'
    go_wp2_with fail
    go_ret
    exact ⟨rfl, below_step (below_new _ _) hbq.out (Nat.le_refl _)⟩
  have h5' : (dimsN code == 0) = false := by simpa using h5
  have h5e : dimsE code = 0 := by simp [dimsE, h5]
  by_cases h6 : (dims.length : Int) = dimsN code
  · have h6' : ((dims.length : Int) != dimsN code) = false := by simp [h6]
    rw [show (decide (dimsE code = 0) && true && true && decide (1 ≤ count) && decide (count ≤ 1000) && decide ((dims.length : Int) = dimsN code) && fits 262144 dims) = fits 262144 dims by simp [h5e, h3', h4', h6]]
    have hlen : dims.length ≤ 5 := by
      have : dimsN code ≤ 5 := by
        rw [← refDims_eq]; unfold refDims; (repeat' split) <;> omega
      omega
    clear h5 h5e h6
    have hA' := hide hA
    clear hA
    rw [show fits 262144 dims = okFrom 0 dims by rw [okFrom_fits _ _ (by omega) (by omega)]; rfl]
    go_enter Tryz.func102, Tryz.ntmps102
    go_wp2_with fail
    refine wp_region_quiet_below (by kernel_rfl) (by kernel_rfl) ?_
    repeat (go_big_quiet_step (first
      | (go_at_call 70; exact regrown_same (CN.out _))
      | (go_at_call 148; exact Calls.regrown_of (CS.out _))
      | (go_at_call 149; exact regrown_same (refDims_any _ _))))
    refine wpQuiet_nil ?_
    intro w2 hw'
    have hbq := hide (show Below _ _ w2 by obtain ⟨p, rfl⟩ := hw'; exact below_regrown _ _ _)
    clear hw'
    have hbw := hide (below_step (below_new w _) hbq.out (Nat.le_refl _))
    have hA2 := hide (hA'.out.carry (hbw.out.mono hB) (Nat.le_refl _))
    have d4 := ((Blk.new w 65 #[.string mark, .int .i64 size, .int .i64 count, .int .i64 code, .slice A dims.length c]).keep hbq.out).cell 4
    simp at d4
    clear c0 c1 c2 c3 c4 hA' hbq
    go_wp2_with fail
    go_loop [3, 4] (fun t i => ∃ k : Nat, k ≤ dims.length ∧ i = .int .i64 k ∧ ∃ s : Int, 0 ≤ s ∧ s ≤ 1048576 * k ∧ t = .int .i64 s ∧ Hid (okFrom 0 dims = okFrom s (dims.drop k))) (fun _ i => dims.length - (intOf i).toNat)
    case atStart => exact ⟨0, Nat.zero_le _, rfl, 0, by omega, by omega, rfl, hide rfl⟩
    case round =>
      obtain ⟨k, hk, rfl, s, hs0, hs1, rfl, hf⟩ := hrel
      by_cases hlt : k < dims.length
      · obtain ⟨b, off, y, rfl, hbl, hy, hc⟩ := hA2.out.get (k := k) hlt
        have Hf := hide (hf.out.trans (by rw [drop_at' hy, okFrom]))
        clear hy hbl hA2 hf
        go_wp2_with fail
        all_goals first
          | (go_ret; exact ⟨ret_bool (by rw [Hf.out]; simp_all <;> omega), hbw.out⟩)
          | (go_round
             case rel => exact ⟨k + 1, by omega, by go_num, s + y, by omega, by omega, rfl, hide (by rw [Hf.out]; simp_all)⟩
             case measure => simp [intOf]; omega)
      · obtain rfl : k = dims.length := by omega
        go_wp2_with fail
        go_ret
        exact ⟨ret_bool (by rw [hf.out]; simp [okFrom]), hbw.out⟩
  · have h6' : ((dims.length : Int) != dimsN code) = true := by simp [h6]
    rw [show (decide (dimsE code = 0) && true && true && decide (1 ≤ count) && decide (count ≤ 1000) && decide ((dims.length : Int) = dimsN code) && fits 262144 dims) = false by simp [h6]]
    clear hA h5 h5e h6
    go_enter Tryz.func102, Tryz.ntmps102
    go_wp2_with fail
    refine wp_region_quiet_below (by kernel_rfl) (by kernel_rfl) ?_
    repeat (go_big_quiet_step (first
      | (go_at_call 70; exact regrown_same (CN.out _))
      | (go_at_call 148; exact Calls.regrown_of (CS.out _))
      | (go_at_call 149; exact regrown_same (refDims_any _ _))))
    refine wpQuiet_nil ?_
    intro w2 hw'
    have hbq := hide (show Below _ _ w2 by obtain ⟨p, rfl⟩ := hw'; exact below_regrown _ _ _)
    clear hw'
    go_wp2_with fail
    go_ret
    exact ⟨rfl, below_step (below_new _ _) hbq.out (Nat.le_refl _)⟩
end Go.Proofs.YtpmipoljnchheaaGreat
namespace Go.Proofs.YtpmipoljnchheaaGreat
open Go.RowKit

theorem int_cell {w : World} {B : Nat} {b off k : Nat} {l : List Int} {y : Int} (h : Ints w B (some ⟨b, off, none⟩) l) (hy : l[k]? = some y) : w.cell? ⟨b, off + k, none⟩ = some (.int .i64 y) := by
  obtain ⟨b', off', z, hA, _, hz, hc⟩ := h.get (k := k) (lt_of_get hy)
  injection hA with hA
  injection hA with h1 h2
  subst h1; subst h2
  rw [hy] at hz; injection hz with hz; rw [hz]; exact hc

/-- A region has drawn its order. -/
abbrev drawnAt (w : World) (d : Nat) : World := { w with drawn := d }
theorem pts_new2 {w : World} {o : Obj} {e : TypeId} {cs : Array Value} {l : List (Int × Int × Int)} {B : Nat} (hcs : cs.toList = l.flatMap encPt) (hB : w.heap.size + 1 < B) :
    PtsAt ((w.alloc o).alloc (.cells cs e)) B (some ⟨w.heap.size + 1, 0, none⟩) l := by
  have h := SlOf.lit encPt_len (w.alloc o) e cs l hcs (B := B) (by simpa using hB)
  simpa using h
theorem pts_drew2 {w : World} {e : TypeId} {cs : Array Value} {l : List (Int × Int × Int)} (hcs : cs.toList = l.flatMap encPt) :
    PtsAt ((w.alloc (.cells cs e)).drew) (w.alloc (.cells cs e)).drew.heap.size (some ⟨w.heap.size, 0, none⟩) l := by
  have h := SlOf.lit (B := w.heap.size + 1) encPt_len w e cs l hcs (by simp)
  have h2 := SlOf.carry (Flat.carried _) h (Below.drew (Below.refl (w.heap.size + 1) _)) (Nat.le_refl (w.heap.size + 1))
  simpa [World.drew] using h2
set_option maxHeartbeats 4000000 in
set_option maxRecDepth 100000 in
theorem refMoves0 (mark : ByteArray) (size count : Int) (d0 : Int) (A : Option Addr) (c : Nat) (w : World) {B : Nat} (hA : Ints w B A [d0]) (hB : B ≤ w.heap.size) (h0 : 1 ≤ d0 ∧ d0 ≤ 262144) :
    Calls Tryz.prog 180 #[.agg #[.string mark, .int .i64 size, .int .i64 count, .int .i64 0, .slice A 1 c]] w fun e w' =>
      ∃ A', e = .returned (.slice A' 1 1) ∧ PtsAt w' w'.heap.size A' [(d0, 0, 0)] ∧ Below w.heap.size w w' := by
  have hbo := fun o => hA.carry ((Below.refl B w).alloc hB o) (Nat.le_refl _)
  obtain ⟨b, off, hA', hbl, _⟩ := hA (by simp)
  subst hA'
  have c0 := fun o => int_cell (k := 0) (hbo o) rfl
  simp only [Nat.add_zero] at c0
  have hbl' : b < w.heap.size := by omega
  obtain ⟨l0, u0⟩ := h0
  clear hA hbo hbl
  go_enter Tryz.func180, Tryz.ntmps180
  go_wp2_with fail
  go_ret
  refine ⟨_, rfl, ?_, ?_⟩
  · exact pts_new2 rfl (by simp)
  · exact below_new2 w _ _
set_option maxHeartbeats 4000000 in
set_option maxRecDepth 100000 in
theorem refMoves11 (mark : ByteArray) (size count : Int) (d0 d1 : Int) (A : Option Addr) (c : Nat) (w : World) {B : Nat} (hA : Ints w B A [d0, d1]) (hB : B ≤ w.heap.size) (h0 : 1 ≤ d0 ∧ d0 ≤ 262144) (h1 : 1 ≤ d1 ∧ d1 ≤ 262144) :
    Calls Tryz.prog 180 #[.agg #[.string mark, .int .i64 size, .int .i64 count, .int .i64 11, .slice A 2 c]] w fun e w' =>
      ∃ A', e = .returned (.slice A' 2 2) ∧ PtsAt w' w'.heap.size A' [(d0, 0, 0), (0, d1, 0)] ∧ Below w.heap.size w w' := by
  have hbo := fun o => hA.carry ((Below.refl B w).alloc hB o) (Nat.le_refl _)
  obtain ⟨b, off, hA', hbl, _⟩ := hA (by simp)
  subst hA'
  have hb0 := hbo (.cells #[.string mark, .int .i64 size, .int .i64 count, .int .i64 11, .slice (some ⟨b, off, none⟩) 2 c] 65)
  have c0 : ∀ d, (drawnAt (w.alloc (.cells #[.string mark, .int .i64 size, .int .i64 count, .int .i64 11, .slice (some ⟨b, off, none⟩) 2 c] 65)) d).cell? ⟨b, off, none⟩ = some (.int .i64 d0) := fun _ => int_cell (k := 0) hb0 rfl
  have c1 : ∀ d, (drawnAt (w.alloc (.cells #[.string mark, .int .i64 size, .int .i64 count, .int .i64 11, .slice (some ⟨b, off, none⟩) 2 c] 65)) d).cell? ⟨b, off + 1, none⟩ = some (.int .i64 d1) := fun _ => int_cell (k := 1) hb0 rfl
  obtain ⟨l0, u0⟩ := h0
  obtain ⟨l1, u1⟩ := h1
  have hbl' : b < w.heap.size := by omega
  clear hA hbo hbl hb0
  go_enter Tryz.func180, Tryz.ntmps180
  go_wp2_with fail
  obtain ⟨W, hW⟩ : ∃ W, W = w.alloc (.cells #[.string mark, .int .i64 size, .int .i64 count, .int .i64 11, .slice (some ⟨b, off, none⟩) 2 c] 65) := ⟨_, rfl⟩
  rw [← hW]
  simp only [← hW, drawnAt] at c0 c1
  have HW := hide hW
  clear hW
  go_still_tail 8, (by kernel_rfl)
  change wpList _ _ _ _ _ (World.drew W)
  clear c0 c1
  go_wp2_with fail
  obtain rfl := HW.out
  go_ret
  refine ⟨_, rfl, ?_, ?_⟩
  · exact pts_drew2 rfl
  · exact (below_new2 w _ _).drew
set_option maxHeartbeats 4000000 in
set_option maxRecDepth 100000 in
theorem refMoves21 (mark : ByteArray) (size count : Int) (d0 d1 d2 : Int) (A : Option Addr) (c : Nat) (w : World) {B : Nat} (hA : Ints w B A [d0, d1, d2]) (hB : B ≤ w.heap.size) (h0 : 1 ≤ d0 ∧ d0 ≤ 262144) (h1 : 1 ≤ d1 ∧ d1 ≤ 262144) (h2 : 1 ≤ d2 ∧ d2 ≤ 262144) :
    Calls Tryz.prog 180 #[.agg #[.string mark, .int .i64 size, .int .i64 count, .int .i64 21, .slice A 3 c]] w fun e w' =>
      ∃ A', e = .returned (.slice A' 3 3) ∧ PtsAt w' w'.heap.size A' [(0, -d0, 0), (d1, 0, 0), (0, d2, 0)] ∧ Below w.heap.size w w' := by
  have hbo := fun o => hA.carry ((Below.refl B w).alloc hB o) (Nat.le_refl _)
  obtain ⟨b, off, hA', hbl, _⟩ := hA (by simp)
  subst hA'
  have hb0 := hbo (.cells #[.string mark, .int .i64 size, .int .i64 count, .int .i64 21, .slice (some ⟨b, off, none⟩) 3 c] 65)
  have c0 : ∀ d, (drawnAt (w.alloc (.cells #[.string mark, .int .i64 size, .int .i64 count, .int .i64 21, .slice (some ⟨b, off, none⟩) 3 c] 65)) d).cell? ⟨b, off, none⟩ = some (.int .i64 d0) := fun _ => int_cell (k := 0) hb0 rfl
  have c1 : ∀ d, (drawnAt (w.alloc (.cells #[.string mark, .int .i64 size, .int .i64 count, .int .i64 21, .slice (some ⟨b, off, none⟩) 3 c] 65)) d).cell? ⟨b, off + 1, none⟩ = some (.int .i64 d1) := fun _ => int_cell (k := 1) hb0 rfl
  have c2 : ∀ d, (drawnAt (w.alloc (.cells #[.string mark, .int .i64 size, .int .i64 count, .int .i64 21, .slice (some ⟨b, off, none⟩) 3 c] 65)) d).cell? ⟨b, off + 2, none⟩ = some (.int .i64 d2) := fun _ => int_cell (k := 2) hb0 rfl
  obtain ⟨l0, u0⟩ := h0
  obtain ⟨l1, u1⟩ := h1
  obtain ⟨l2, u2⟩ := h2
  have hbl' : b < w.heap.size := by omega
  clear hA hbo hbl hb0
  go_enter Tryz.func180, Tryz.ntmps180
  go_wp2_with fail
  obtain ⟨W, hW⟩ : ∃ W, W = w.alloc (.cells #[.string mark, .int .i64 size, .int .i64 count, .int .i64 21, .slice (some ⟨b, off, none⟩) 3 c] 65) := ⟨_, rfl⟩
  rw [← hW]
  simp only [← hW, drawnAt] at c0 c1 c2
  have HW := hide hW
  clear hW
  go_still_tail 13, (by kernel_rfl)
  change wpList _ _ _ _ _ (World.drew W)
  clear c0 c1 c2
  go_wp2_with fail
  obtain rfl := HW.out
  go_ret
  refine ⟨_, rfl, ?_, ?_⟩
  · exact pts_drew2 rfl
  · exact (below_new2 w _ _).drew
set_option maxHeartbeats 4000000 in
set_option maxRecDepth 100000 in
theorem refMoves26 (mark : ByteArray) (size count : Int) (d0 d1 d2 : Int) (A : Option Addr) (c : Nat) (w : World) {B : Nat} (hA : Ints w B A [d0, d1, d2]) (hB : B ≤ w.heap.size) (h0 : 1 ≤ d0 ∧ d0 ≤ 262144) (h1 : 1 ≤ d1 ∧ d1 ≤ 262144) (h2 : 1 ≤ d2 ∧ d2 ≤ 262144) :
    Calls Tryz.prog 180 #[.agg #[.string mark, .int .i64 size, .int .i64 count, .int .i64 26, .slice A 3 c]] w fun e w' =>
      ∃ A', e = .returned (.slice A' 3 3) ∧ PtsAt w' w'.heap.size A' [(d0, 0, 0), (0, d1, 0), (d2, 0, 0)] ∧ Below w.heap.size w w' := by
  have hbo := fun o => hA.carry ((Below.refl B w).alloc hB o) (Nat.le_refl _)
  obtain ⟨b, off, hA', hbl, _⟩ := hA (by simp)
  subst hA'
  have hb0 := hbo (.cells #[.string mark, .int .i64 size, .int .i64 count, .int .i64 26, .slice (some ⟨b, off, none⟩) 3 c] 65)
  have c0 : ∀ d, (drawnAt (w.alloc (.cells #[.string mark, .int .i64 size, .int .i64 count, .int .i64 26, .slice (some ⟨b, off, none⟩) 3 c] 65)) d).cell? ⟨b, off, none⟩ = some (.int .i64 d0) := fun _ => int_cell (k := 0) hb0 rfl
  have c1 : ∀ d, (drawnAt (w.alloc (.cells #[.string mark, .int .i64 size, .int .i64 count, .int .i64 26, .slice (some ⟨b, off, none⟩) 3 c] 65)) d).cell? ⟨b, off + 1, none⟩ = some (.int .i64 d1) := fun _ => int_cell (k := 1) hb0 rfl
  have c2 : ∀ d, (drawnAt (w.alloc (.cells #[.string mark, .int .i64 size, .int .i64 count, .int .i64 26, .slice (some ⟨b, off, none⟩) 3 c] 65)) d).cell? ⟨b, off + 2, none⟩ = some (.int .i64 d2) := fun _ => int_cell (k := 2) hb0 rfl
  obtain ⟨l0, u0⟩ := h0
  obtain ⟨l1, u1⟩ := h1
  obtain ⟨l2, u2⟩ := h2
  have hbl' : b < w.heap.size := by omega
  clear hA hbo hbl hb0
  go_enter Tryz.func180, Tryz.ntmps180
  go_wp2_with fail
  obtain ⟨W, hW⟩ : ∃ W, W = w.alloc (.cells #[.string mark, .int .i64 size, .int .i64 count, .int .i64 26, .slice (some ⟨b, off, none⟩) 3 c] 65) := ⟨_, rfl⟩
  rw [← hW]
  simp only [← hW, drawnAt] at c0 c1 c2
  have HW := hide hW
  clear hW
  go_still_tail 12, (by kernel_rfl)
  change wpList _ _ _ _ _ (World.drew W)
  clear c0 c1 c2
  go_wp2_with fail
  obtain rfl := HW.out
  go_ret
  refine ⟨_, rfl, ?_, ?_⟩
  · exact pts_drew2 rfl
  · exact (below_new2 w _ _).drew
set_option maxHeartbeats 4000000 in
set_option maxRecDepth 100000 in
theorem refMoves31 (mark : ByteArray) (size count : Int) (d0 d1 d2 : Int) (A : Option Addr) (c : Nat) (w : World) {B : Nat} (hA : Ints w B A [d0, d1, d2]) (hB : B ≤ w.heap.size) (h0 : 1 ≤ d0 ∧ d0 ≤ 262144) (h1 : 1 ≤ d1 ∧ d1 ≤ 262144) (h2 : 1 ≤ d2 ∧ d2 ≤ 262144) :
    Calls Tryz.prog 180 #[.agg #[.string mark, .int .i64 size, .int .i64 count, .int .i64 31, .slice A 3 c]] w fun e w' =>
      ∃ A', e = .returned (.slice A' 3 3) ∧ PtsAt w' w'.heap.size A' [(d0, 0, 0), (0, d1, 0), (0, 0, d2)] ∧ Below w.heap.size w w' := by
  have hbo := fun o => hA.carry ((Below.refl B w).alloc hB o) (Nat.le_refl _)
  obtain ⟨b, off, hA', hbl, _⟩ := hA (by simp)
  subst hA'
  have hb0 := hbo (.cells #[.string mark, .int .i64 size, .int .i64 count, .int .i64 31, .slice (some ⟨b, off, none⟩) 3 c] 65)
  have c0 : ∀ d, (drawnAt (w.alloc (.cells #[.string mark, .int .i64 size, .int .i64 count, .int .i64 31, .slice (some ⟨b, off, none⟩) 3 c] 65)) d).cell? ⟨b, off, none⟩ = some (.int .i64 d0) := fun _ => int_cell (k := 0) hb0 rfl
  have c1 : ∀ d, (drawnAt (w.alloc (.cells #[.string mark, .int .i64 size, .int .i64 count, .int .i64 31, .slice (some ⟨b, off, none⟩) 3 c] 65)) d).cell? ⟨b, off + 1, none⟩ = some (.int .i64 d1) := fun _ => int_cell (k := 1) hb0 rfl
  have c2 : ∀ d, (drawnAt (w.alloc (.cells #[.string mark, .int .i64 size, .int .i64 count, .int .i64 31, .slice (some ⟨b, off, none⟩) 3 c] 65)) d).cell? ⟨b, off + 2, none⟩ = some (.int .i64 d2) := fun _ => int_cell (k := 2) hb0 rfl
  obtain ⟨l0, u0⟩ := h0
  obtain ⟨l1, u1⟩ := h1
  obtain ⟨l2, u2⟩ := h2
  have hbl' : b < w.heap.size := by omega
  clear hA hbo hbl hb0
  go_enter Tryz.func180, Tryz.ntmps180
  go_wp2_with fail
  obtain ⟨W, hW⟩ : ∃ W, W = w.alloc (.cells #[.string mark, .int .i64 size, .int .i64 count, .int .i64 31, .slice (some ⟨b, off, none⟩) 3 c] 65) := ⟨_, rfl⟩
  rw [← hW]
  simp only [← hW, drawnAt] at c0 c1 c2
  have HW := hide hW
  clear hW
  go_still_tail 12, (by kernel_rfl)
  change wpList _ _ _ _ _ (World.drew W)
  clear c0 c1 c2
  go_wp2_with fail
  obtain rfl := HW.out
  go_ret
  refine ⟨_, rfl, ?_, ?_⟩
  · exact pts_drew2 rfl
  · exact (below_new2 w _ _).drew
set_option maxHeartbeats 4000000 in
set_option maxRecDepth 100000 in
theorem refMoves41 (mark : ByteArray) (size count : Int) (d0 d1 d2 d3 d4 : Int) (A : Option Addr) (c : Nat) (w : World) {B : Nat} (hA : Ints w B A [d0, d1, d2, d3, d4]) (hB : B ≤ w.heap.size) (h0 : 1 ≤ d0 ∧ d0 ≤ 262144) (h1 : 1 ≤ d1 ∧ d1 ≤ 262144) (h2 : 1 ≤ d2 ∧ d2 ≤ 262144) (h3 : 1 ≤ d3 ∧ d3 ≤ 262144) (h4 : 1 ≤ d4 ∧ d4 ≤ 262144) :
    Calls Tryz.prog 180 #[.agg #[.string mark, .int .i64 size, .int .i64 count, .int .i64 41, .slice A 5 c]] w fun e w' =>
      ∃ A', e = .returned (.slice A' 5 5) ∧ PtsAt w' w'.heap.size A' [(d0, 0, 0), (0, d1, 0), (d2, 0, 0), (0, -d3, 0), (d4, 0, 0)] ∧ Below w.heap.size w w' := by
  have hbo := fun o => hA.carry ((Below.refl B w).alloc hB o) (Nat.le_refl _)
  obtain ⟨b, off, hA', hbl, _⟩ := hA (by simp)
  subst hA'
  have hb0 := hbo (.cells #[.string mark, .int .i64 size, .int .i64 count, .int .i64 41, .slice (some ⟨b, off, none⟩) 5 c] 65)
  have c0 : ∀ d, (drawnAt (w.alloc (.cells #[.string mark, .int .i64 size, .int .i64 count, .int .i64 41, .slice (some ⟨b, off, none⟩) 5 c] 65)) d).cell? ⟨b, off, none⟩ = some (.int .i64 d0) := fun _ => int_cell (k := 0) hb0 rfl
  have c1 : ∀ d, (drawnAt (w.alloc (.cells #[.string mark, .int .i64 size, .int .i64 count, .int .i64 41, .slice (some ⟨b, off, none⟩) 5 c] 65)) d).cell? ⟨b, off + 1, none⟩ = some (.int .i64 d1) := fun _ => int_cell (k := 1) hb0 rfl
  have c2 : ∀ d, (drawnAt (w.alloc (.cells #[.string mark, .int .i64 size, .int .i64 count, .int .i64 41, .slice (some ⟨b, off, none⟩) 5 c] 65)) d).cell? ⟨b, off + 2, none⟩ = some (.int .i64 d2) := fun _ => int_cell (k := 2) hb0 rfl
  have c3 : ∀ d, (drawnAt (w.alloc (.cells #[.string mark, .int .i64 size, .int .i64 count, .int .i64 41, .slice (some ⟨b, off, none⟩) 5 c] 65)) d).cell? ⟨b, off + 3, none⟩ = some (.int .i64 d3) := fun _ => int_cell (k := 3) hb0 rfl
  have c4 : ∀ d, (drawnAt (w.alloc (.cells #[.string mark, .int .i64 size, .int .i64 count, .int .i64 41, .slice (some ⟨b, off, none⟩) 5 c] 65)) d).cell? ⟨b, off + 4, none⟩ = some (.int .i64 d4) := fun _ => int_cell (k := 4) hb0 rfl
  obtain ⟨l0, u0⟩ := h0
  obtain ⟨l1, u1⟩ := h1
  obtain ⟨l2, u2⟩ := h2
  obtain ⟨l3, u3⟩ := h3
  obtain ⟨l4, u4⟩ := h4
  have hbl' : b < w.heap.size := by omega
  clear hA hbo hbl hb0
  go_enter Tryz.func180, Tryz.ntmps180
  go_wp2_with fail
  obtain ⟨W, hW⟩ : ∃ W, W = w.alloc (.cells #[.string mark, .int .i64 size, .int .i64 count, .int .i64 41, .slice (some ⟨b, off, none⟩) 5 c] 65) := ⟨_, rfl⟩
  rw [← hW]
  simp only [← hW, drawnAt] at c0 c1 c2 c3 c4
  have HW := hide hW
  clear hW
  go_still_tail 21, (by kernel_rfl)
  change wpList _ _ _ _ _ (World.drew W)
  clear c0 c1 c2 c3 c4
  go_wp2_with fail
  obtain rfl := HW.out
  go_ret
  refine ⟨_, rfl, ?_, ?_⟩
  · exact pts_drew2 rfl
  · exact (below_new2 w _ _).drew
set_option maxHeartbeats 4000000 in
set_option maxRecDepth 100000 in
theorem refMoves51 (mark : ByteArray) (size count : Int) (d0 d1 d2 : Int) (A : Option Addr) (c : Nat) (w : World) {B : Nat} (hA : Ints w B A [d0, d1, d2]) (hB : B ≤ w.heap.size) (h0 : 1 ≤ d0 ∧ d0 ≤ 262144) (h1 : 1 ≤ d1 ∧ d1 ≤ 262144) (h2 : 1 ≤ d2 ∧ d2 ≤ 262144) :
    Calls Tryz.prog 180 #[.agg #[.string mark, .int .i64 size, .int .i64 count, .int .i64 51, .slice A 3 c]] w fun e w' =>
      ∃ A', e = .returned (.slice A' 6 6) ∧ PtsAt w' w'.heap.size A' [(0, -d2, 0), (d0, 0, 0), (0, d1, 0), (-d0, 0, 0), (0, -d1, 0), (d2, 0, 0)] ∧ Below w.heap.size w w' := by
  have hbo := fun o => hA.carry ((Below.refl B w).alloc hB o) (Nat.le_refl _)
  obtain ⟨b, off, hA', hbl, _⟩ := hA (by simp)
  subst hA'
  have hb0 := hbo (.cells #[.string mark, .int .i64 size, .int .i64 count, .int .i64 51, .slice (some ⟨b, off, none⟩) 3 c] 65)
  have c0 : ∀ d, (drawnAt (w.alloc (.cells #[.string mark, .int .i64 size, .int .i64 count, .int .i64 51, .slice (some ⟨b, off, none⟩) 3 c] 65)) d).cell? ⟨b, off, none⟩ = some (.int .i64 d0) := fun _ => int_cell (k := 0) hb0 rfl
  have c1 : ∀ d, (drawnAt (w.alloc (.cells #[.string mark, .int .i64 size, .int .i64 count, .int .i64 51, .slice (some ⟨b, off, none⟩) 3 c] 65)) d).cell? ⟨b, off + 1, none⟩ = some (.int .i64 d1) := fun _ => int_cell (k := 1) hb0 rfl
  have c2 : ∀ d, (drawnAt (w.alloc (.cells #[.string mark, .int .i64 size, .int .i64 count, .int .i64 51, .slice (some ⟨b, off, none⟩) 3 c] 65)) d).cell? ⟨b, off + 2, none⟩ = some (.int .i64 d2) := fun _ => int_cell (k := 2) hb0 rfl
  obtain ⟨l0, u0⟩ := h0
  obtain ⟨l1, u1⟩ := h1
  obtain ⟨l2, u2⟩ := h2
  have hbl' : b < w.heap.size := by omega
  clear hA hbo hbl hb0
  go_enter Tryz.func180, Tryz.ntmps180
  go_wp2_with fail
  obtain ⟨W, hW⟩ : ∃ W, W = w.alloc (.cells #[.string mark, .int .i64 size, .int .i64 count, .int .i64 51, .slice (some ⟨b, off, none⟩) 3 c] 65) := ⟨_, rfl⟩
  rw [← hW]
  simp only [← hW, drawnAt] at c0 c1 c2
  have HW := hide hW
  clear hW
  go_still_tail 27, (by kernel_rfl)
  change wpList _ _ _ _ _ (World.drew W)
  clear c0 c1 c2
  go_wp2_with fail
  obtain rfl := HW.out
  go_ret
  refine ⟨_, rfl, ?_, ?_⟩
  · exact pts_drew2 rfl
  · exact (below_new2 w _ _).drew
set_option maxHeartbeats 4000000 in
set_option maxRecDepth 100000 in
theorem refMoves98 (mark : ByteArray) (size count : Int) (d0 d1 d2 : Int) (A : Option Addr) (c : Nat) (w : World) {B : Nat} (hA : Ints w B A [d0, d1, d2]) (hB : B ≤ w.heap.size) (h0 : 1 ≤ d0 ∧ d0 ≤ 262144) (h1 : 1 ≤ d1 ∧ d1 ≤ 262144) (h2 : 1 ≤ d2 ∧ d2 ≤ 262144) :
    Calls Tryz.prog 180 #[.agg #[.string mark, .int .i64 size, .int .i64 count, .int .i64 98, .slice A 3 c]] w fun e w' =>
      ∃ A', e = .returned (.slice A' 5 5) ∧ PtsAt w' w'.heap.size A' [(0, 0, d0), (0, -d1, 0), (d2, 0, 0), (0, d1, 0), (0, 0, d0)] ∧ Below w.heap.size w w' := by
  have hbo := fun o => hA.carry ((Below.refl B w).alloc hB o) (Nat.le_refl _)
  obtain ⟨b, off, hA', hbl, _⟩ := hA (by simp)
  subst hA'
  have hb0 := hbo (.cells #[.string mark, .int .i64 size, .int .i64 count, .int .i64 98, .slice (some ⟨b, off, none⟩) 3 c] 65)
  have c0 : ∀ d, (drawnAt (w.alloc (.cells #[.string mark, .int .i64 size, .int .i64 count, .int .i64 98, .slice (some ⟨b, off, none⟩) 3 c] 65)) d).cell? ⟨b, off, none⟩ = some (.int .i64 d0) := fun _ => int_cell (k := 0) hb0 rfl
  have c1 : ∀ d, (drawnAt (w.alloc (.cells #[.string mark, .int .i64 size, .int .i64 count, .int .i64 98, .slice (some ⟨b, off, none⟩) 3 c] 65)) d).cell? ⟨b, off + 1, none⟩ = some (.int .i64 d1) := fun _ => int_cell (k := 1) hb0 rfl
  have c2 : ∀ d, (drawnAt (w.alloc (.cells #[.string mark, .int .i64 size, .int .i64 count, .int .i64 98, .slice (some ⟨b, off, none⟩) 3 c] 65)) d).cell? ⟨b, off + 2, none⟩ = some (.int .i64 d2) := fun _ => int_cell (k := 2) hb0 rfl
  obtain ⟨l0, u0⟩ := h0
  obtain ⟨l1, u1⟩ := h1
  obtain ⟨l2, u2⟩ := h2
  have hbl' : b < w.heap.size := by omega
  clear hA hbo hbl hb0
  go_enter Tryz.func180, Tryz.ntmps180
  go_wp2_with fail
  obtain ⟨W, hW⟩ : ∃ W, W = w.alloc (.cells #[.string mark, .int .i64 size, .int .i64 count, .int .i64 98, .slice (some ⟨b, off, none⟩) 3 c] 65) := ⟨_, rfl⟩
  rw [← hW]
  simp only [← hW, drawnAt] at c0 c1 c2
  have HW := hide hW
  clear hW
  go_still_tail 21, (by kernel_rfl)
  change wpList _ _ _ _ _ (World.drew W)
  clear c0 c1 c2
  go_wp2_with fail
  obtain rfl := HW.out
  go_ret
  refine ⟨_, rfl, ?_, ?_⟩
  · exact pts_drew2 rfl
  · exact (below_new2 w _ _).drew
end Go.Proofs.YtpmipoljnchheaaGreat
