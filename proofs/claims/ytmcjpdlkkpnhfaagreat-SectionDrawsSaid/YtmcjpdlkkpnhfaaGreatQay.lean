/- The references of layers 9, 17: whether a box, a solid, a member is valid. -/
import Derived.Test.YtmcjpdlkkpnhfaaGreatQas
import Derived.Test.YtmcjpdlkkpnhfaaGreatQaa
import Derived.Test.YtmcjpdlkkpnhfaaGreatQaw
namespace Go.Proofs.YtmcjpdlkkpnhfaaGreat
open Go.RowKit

def axAt (b : BoxD) (k : Nat) : Int × Int := (nthC b.lo k, nthC b.hi k)
theorem axes_at (b : BoxD) (k : Nat) (hk : k < 3) : (axes b).drop k = axAt b k :: (axes b).drop (k + 1) := by
  rcases (show k = 0 ∨ k = 1 ∨ k = 2 by omega) with rfl | rfl | rfl <;> rfl
set_option maxHeartbeats 2000000 in
theorem refBox_any (b : BoxD) (w : World) :
    Calls Tryz.prog 99 #[bxV b] w fun e w' => e = .returned (.bool (boxOk b)) ∧ Below w.heap.size w w' := by
  obtain ⟨⟨x1, x2, x3⟩, x4, x5, x6⟩ := b
  have K0 := hide (Blk.new w 63 #[.int .i64 x1, .int .i64 x2, .int .i64 x3, .int .i64 x4, .int .i64 x5, .int .i64 x6])
  have HW := hide (below_new w (.cells #[.int .i64 x1, .int .i64 x2, .int .i64 x3, .int .i64 x4, .int .i64 x5, .int .i64 x6] 63))
  have hb : boxOk ⟨(x1, x2, x3), (x4, x5, x6)⟩ = ((axes ⟨(x1, x2, x3), (x4, x5, x6)⟩).drop 0).all axisFine := rfl
  rw [hb]
  clear hb
  go_enter Tryz.func99, Tryz.ntmps99
  go_wp2_with fail
  go_loopw [3] (fun i wr => ∃ k : Nat, k ≤ 3 ∧ i = .int .i64 k ∧ Hid (((axes ⟨(x1, x2, x3), (x4, x5, x6)⟩).drop 0).all axisFine = ((axes ⟨(x1, x2, x3), (x4, x5, x6)⟩).drop k).all axisFine) ∧ Hid (Blk wr w.heap.size 63 #[.int .i64 x1, .int .i64 x2, .int .i64 x3, .int .i64 x4, .int .i64 x5, .int .i64 x6]) ∧ Below w.heap.size w wr) (fun i _ => 3 - (intOf i).toNat)
  case atStart => exact ⟨0, by omega, rfl, hide rfl, K0, HW.out⟩
  case round =>
    obtain ⟨k, hk, rfl, hq, hK, hbr⟩ := hrel
    by_cases hlt : k < 3
    · have Hq := hide (hq.out.trans (by rw [axes_at _ k hlt, List.all_cons]))
      have CL := fun W => refCoord_any x1 x2 x3 k hlt W
      have CH := fun W => refCoord_any x4 x5 x6 k hlt W
      have hax : axisFine (axAt ⟨(x1, x2, x3), (x4, x5, x6)⟩ k) = axisOk (nthC (x1, x2, x3) k) (nthC (x4, x5, x6) k) := rfl
      rw [hax] at Hq
      generalize nthC (x1, x2, x3) k = lo at *
      generalize nthC (x4, x5, x6) k = hi at *
      have HL := fun W => refIsLength_any lo W
      have HH := fun W => refIsLength_any hi W
      have hao : axisOk lo hi = (coordOk lo && coordOk hi && !decide (hi < lo)) := by
        rw [Bool.eq_iff_iff]
        simp only [axisOk, coordOk, Bool.and_eq_true, decide_eq_true_eq, Bool.not_eq_true', decide_eq_false_iff_not]
        omega
      rw [hao] at Hq
      generalize coordOk lo = a1 at *
      generalize coordOk hi = a2 at *
      have CL := hide CL
      have CH := hide CH
      have HL := hide HL
      have HH := hide HH
      have Hbr := hide hbr
      have HK := hide hK.out
      have c0 := cell_regrown (hK.out.cell 0)
      have c1 := cell_regrown (hK.out.cell 1)
      have c2 := cell_regrown (hK.out.cell 2)
      have c3 := cell_regrown (hK.out.cell 3)
      have c4 := cell_regrown (hK.out.cell 4)
      have c5 := cell_regrown (hK.out.cell 5)
      simp at c0 c1 c2 c3 c4 c5
      clear hq hax hao hbr hK
      cases a1
      · go_wp2_with fail
        refine wp_region_quiet_below (by kernel_rfl) (by kernel_rfl) ?_
        repeat (go_big_quiet_step (first
          | (go_at_call 141; first | with_reducible exact regrown_same (HL.out _) | with_reducible exact regrown_same (HH.out _))
          | (go_at_call 111; first | with_reducible exact Calls.regrown_of (CL.out _) | with_reducible exact Calls.regrown_of (CH.out _))))
        refine wpQuiet_nil ?_
        intro w2 hw'
        have hbq := hide (show Below _ _ w2 by obtain ⟨p, rfl⟩ := hw'; exact below_regrown _ _ _)
        clear hw'
        go_wp2_with fail
        go_ret
        exact ⟨ret_bool (by rw [Hq.out]; rfl), below_step Hbr.out hbq.out (Nat.le_refl _)⟩
      cases a2
      · go_wp2_with fail
        refine wp_region_quiet_below (by kernel_rfl) (by kernel_rfl) ?_
        repeat (go_big_quiet_step (first
          | (go_at_call 141; first | with_reducible exact regrown_same (HL.out _) | with_reducible exact regrown_same (HH.out _))
          | (go_at_call 111; first | with_reducible exact Calls.regrown_of (CL.out _) | with_reducible exact Calls.regrown_of (CH.out _))))
        refine wpQuiet_nil ?_
        intro w2 hw'
        have hbq := hide (show Below _ _ w2 by obtain ⟨p, rfl⟩ := hw'; exact below_regrown _ _ _)
        clear hw'
        go_wp2_with fail
        go_ret
        exact ⟨ret_bool (by rw [Hq.out]; rfl), below_step Hbr.out hbq.out (Nat.le_refl _)⟩
      cases hd : decide (hi < lo)
      · have Hd := hide hd
        go_wp2_with fail
        refine wp_region_quiet_below (by kernel_rfl) (by kernel_rfl) ?_
        repeat (go_big_quiet_step (first
          | (go_at_call 141; first | with_reducible exact regrown_same (HL.out _) | with_reducible exact regrown_same (HH.out _))
          | (go_at_call 111; first | with_reducible exact Calls.regrown_of (CL.out _) | with_reducible exact Calls.regrown_of (CH.out _))))
        refine wpQuiet_nil ?_
        intro w2 hw'
        have hbq := hide (show Below _ _ w2 by obtain ⟨p, rfl⟩ := hw'; exact below_regrown _ _ _)
        clear hw'
        go_wp2_with fail
        go_roundw
        case rel => exact ⟨k + 1, by omega, by go_num, hide (by rw [Hq.out, Hd.out]; rfl), hide (HK.out.keep hbq.out), below_step Hbr.out hbq.out (Nat.le_refl _)⟩
        case measure => simp [intOf]; omega
      · have Hd := hide hd
        go_wp2_with fail
        refine wp_region_quiet_below (by kernel_rfl) (by kernel_rfl) ?_
        repeat (go_big_quiet_step (first
          | (go_at_call 141; first | with_reducible exact regrown_same (HL.out _) | with_reducible exact regrown_same (HH.out _))
          | (go_at_call 111; first | with_reducible exact Calls.regrown_of (CL.out _) | with_reducible exact Calls.regrown_of (CH.out _))))
        refine wpQuiet_nil ?_
        intro w2 hw'
        have hbq := hide (show Below _ _ w2 by obtain ⟨p, rfl⟩ := hw'; exact below_regrown _ _ _)
        clear hw'
        go_wp2_with fail
        go_ret
        exact ⟨ret_bool (by rw [Hq.out, Hd.out]; rfl), below_step Hbr.out hbq.out (Nat.le_refl _)⟩
    · obtain rfl : k = 3 := by omega
      go_wp2_with fail
      go_ret
      exact ⟨ret_bool (by rw [hq.out]; rfl), hbr⟩
set_option maxHeartbeats 1000000 in
theorem refThick_any (b : BoxD) (w : World) :
    Calls Tryz.prog 135 #[bxV b] w fun e w' => e = .returned (.bool (thickOk b)) ∧ Below w.heap.size w w' := by
  have HB := fun W => refBox_any b W
  have hr : thickOk b = (boxOk b && (decide (b.lo.1 < b.hi.1) && (decide (b.lo.2.1 < b.hi.2.1) && decide (b.lo.2.2 < b.hi.2.2)))) := by simp only [thickOk, Bool.and_assoc]
  rw [hr]
  clear hr
  generalize boxOk b = a at *
  obtain ⟨⟨x1, x2, x3⟩, x4, x5, x6⟩ := b
  simp only
  have HB := hide HB
  have K0 := hide (Blk.new w 63 #[.int .i64 x1, .int .i64 x2, .int .i64 x3, .int .i64 x4, .int .i64 x5, .int .i64 x6])
  have HW := hide (below_new w (.cells #[.int .i64 x1, .int .i64 x2, .int .i64 x3, .int .i64 x4, .int .i64 x5, .int .i64 x6] 63))
  go_enter Tryz.func135, Tryz.ntmps135
  go_wp2_with fail
  refine (HB.out _).mono ?_
  rintro e w1 ⟨rfl, hb⟩
  have K0 := hide (K0.out.keep hb)
  have HW := hide (below_step HW.out hb (Nat.le_refl _))
  clear hb HB
  have c0 := K0.out.cell 0
  have c1 := K0.out.cell 1
  have c2 := K0.out.cell 2
  have c3 := K0.out.cell 3
  have c4 := K0.out.cell 4
  have c5 := K0.out.cell 5
  simp at c0 c1 c2 c3 c4 c5
  have lk := K0.out.lt
  cases a
  · go_wp2_with fail
    go_ret
    exact ⟨ret_bool (by first | rfl | (rw [q0]; rfl) | (rw [q0, q1]; rfl) | (rw [q0, q1, q2]; rfl)), HW.out⟩
  cases q0 : decide (x1 < x4)
  · go_wp2_with fail
    go_ret
    exact ⟨ret_bool (by first | rfl | (rw [q0]; rfl) | (rw [q0, q1]; rfl) | (rw [q0, q1, q2]; rfl)), HW.out⟩
  cases q1 : decide (x2 < x5)
  · go_wp2_with fail
    go_ret
    exact ⟨ret_bool (by first | rfl | (rw [q0]; rfl) | (rw [q0, q1]; rfl) | (rw [q0, q1, q2]; rfl)), HW.out⟩
  cases q2 : decide (x3 < x6)
  all_goals
    go_wp2_with fail
    go_ret
    exact ⟨ret_bool (by first | rfl | (rw [q0]; rfl) | (rw [q0, q1]; rfl) | (rw [q0, q1, q2]; rfl)), HW.out⟩
theorem all_at {α : Type} {p : α → Bool} {l : List α} {k : Nat} {x : α} (h : l[k]? = some x) : (l.drop k).all p = (p x && (l.drop (k + 1)).all p) := by
  rw [drop_at' h, List.all_cons]
set_option maxHeartbeats 2000000 in
theorem refSolid_any (bs hs : List BoxD) (A1 A2 : Option Addr) (n1 n2 c1 c2 : Nat) (w : World) {B : Nat} (h1 : BoxesAt w B A1 bs) (h2 : BoxesAt w B A2 hs) (hB : B ≤ w.heap.size) (l1 : n1 = bs.length) (l2 : n2 = hs.length) :
    Calls Tryz.prog 95 #[.agg #[.slice A1 n1 c1, .slice A2 n2 c2]] w fun e w' => e = .returned (.bool (solidOk bs hs)) ∧ Below w.heap.size w w' := by
  have L1 := hide l1
  have L2 := hide l2
  have H1 := hide h1
  have H2 := hide h2
  have K0 := hide (Blk.new w 24 #[.slice A1 n1 c1, .slice A2 n2 c2])
  have HW := hide (below_new w (.cells #[.slice A1 n1 c1, .slice A2 n2 c2] 24))
  by_cases hlen : ¬(1 ≤ n1 ∧ n1 ≤ 20 ∧ n2 ≤ 20)
  · have hr := hide (show solidOk bs hs = false by
      cases hx : solidOk bs hs with
      | false => rfl
      | true => simp only [solidOk, Bool.and_eq_true, decide_eq_true_eq] at hx; omega)
    clear h1 h2 l1 l2
    by_cases a : n1 < 1
    · obtain rfl : n1 = 0 := by omega
      go_enter Tryz.func95, Tryz.ntmps95
      go_wp2_with fail
      go_ret
      exact ⟨ret_bool hr.out.symm, HW.out⟩
    have d0 : decide ((n1 : Int) < 1) = false := by simp; omega
    by_cases b : 20 < n1
    · have d1 : decide (20 < (n1 : Int)) = true := by simp; omega
      clear hlen a b
      go_enter Tryz.func95, Tryz.ntmps95
      go_wp2_with fail
      go_ret
      exact ⟨ret_bool hr.out.symm, HW.out⟩
    have d1 : decide (20 < (n1 : Int)) = false := by simp; omega
    have d2 : decide (20 < (n2 : Int)) = true := by simp; omega
    clear hlen a b
    go_enter Tryz.func95, Tryz.ntmps95
    go_wp2_with fail
    go_ret
    exact ⟨ret_bool hr.out.symm, HW.out⟩
  have hl1 : 1 ≤ n1 ∧ n1 ≤ 20 ∧ n2 ≤ 20 := by omega
  obtain ⟨m1, m20, m2⟩ := hl1
  have hr := hide (show solidOk bs hs = ((bs.drop 0).all thickOk && (hs.drop 0).all thickOk) by
    rw [solidOk, decide_eq_true (by omega), decide_eq_true (by omega), decide_eq_true (by omega)]; rfl)
  have d0 : decide ((n1 : Int) < 1) = false := by simp; omega
  have d1 : decide (20 < (n1 : Int)) = false := by simp; omega
  have d2 : decide (20 < (n2 : Int)) = false := by simp; omega
  clear hlen h1 h2 l1 l2
  go_enter Tryz.func95, Tryz.ntmps95
  go_wp2_with fail
  go_loopw [3] (fun i wr => ∃ k : Nat, k ≤ n1 ∧ i = .int .i64 k ∧ Hid ((bs.drop 0).all thickOk = (bs.drop k).all thickOk) ∧ Hid (Blk wr w.heap.size 24 #[.slice A1 n1 c1, .slice A2 n2 c2]) ∧ Below w.heap.size w wr) (fun i _ => n1 - (intOf i).toNat)
  case atStart => exact ⟨0, Nat.zero_le _, rfl, hide rfl, K0, HW.out⟩
  case round =>
    obtain ⟨k, hk, rfl, hq, hK, hbr⟩ := hrel
    have e0 := hK.out.cell 0
    simp at e0
    have lk := hK.out.lt
    by_cases hlt : k < n1
    · obtain ⟨b, off, x, rfl, hbl, hx, f0, f1, f2, f3, f4, f5⟩ := BoxesAt.get (k := k) (H1.out.carry (Flat.carried _) (hbr.mono hB) (Nat.le_refl _)) (by rw [← L1.out]; exact hlt)
      have Hq := hide (hq.out.trans (all_at hx))
      have HT := hide (fun W => refThick_any x W)
      generalize thickOk x = a at *
      obtain ⟨⟨x1, x2, x3⟩, x4, x5, x6⟩ := x
      simp only at f0 f1 f2 f3 f4 f5
      have HK := hide hK.out
      have Hbr := hide hbr
      clear hx hbl hq hK hbr
      go_wp2_with fail
      refine (HT.out _).mono ?_
      rintro e w1 ⟨rfl, hb⟩
      have HK := hide (HK.out.keep hb)
      have Hbr := hide (below_step Hbr.out hb (Nat.le_refl _))
      clear hb HT f0 f1 f2 f3 f4 f5 e0 lk
      cases a
      · go_wp2_with fail
        go_ret
        exact ⟨ret_bool (by rw [hr.out, Hq.out]; rfl), Hbr.out⟩
      · go_wp2_with fail
        go_roundw
        case rel => exact ⟨k + 1, by omega, by go_num, hide (by rw [Hq.out]; rfl), HK, Hbr.out⟩
        case measure => simp [intOf]; omega
    · obtain rfl : n1 = k := by omega
      have hf := hide (show (bs.drop 0).all thickOk = true by rw [hq.out, L1.out, List.drop_length]; rfl)
      have K1 := hK
      have HW1 := hide hbr
      rename World => wo
      clear hq hbr
      go_wp2_with fail
      go_loopw [4] (fun i wr => ∃ k : Nat, k ≤ n2 ∧ i = .int .i64 k ∧ Hid ((hs.drop 0).all thickOk = (hs.drop k).all thickOk) ∧ Hid (Blk wr w.heap.size 24 #[.slice A1 n1 c1, .slice A2 n2 c2]) ∧ Below w.heap.size w wr) (fun i _ => n2 - (intOf i).toNat)
      case atStart => exact ⟨0, Nat.zero_le _, rfl, hide rfl, K1, HW1.out⟩
      case round =>
        obtain ⟨k, hk, rfl, hq, hK, hbr⟩ := hrel
        have e1 := hK.out.cell 1
        simp at e1
        have lk := hK.out.lt
        by_cases hlt : k < n2
        · obtain ⟨b, off, x, rfl, hbl, hx, f0, f1, f2, f3, f4, f5⟩ := BoxesAt.get (k := k) (H2.out.carry (Flat.carried _) (hbr.mono hB) (Nat.le_refl _)) (by rw [← L2.out]; exact hlt)
          have Hq := hide (hq.out.trans (all_at hx))
          have HT := hide (fun W => refThick_any x W)
          generalize thickOk x = a at *
          obtain ⟨⟨x1, x2, x3⟩, x4, x5, x6⟩ := x
          simp only at f0 f1 f2 f3 f4 f5
          have HK := hide hK.out
          have Hbr := hide hbr
          clear hx hbl hq hK hbr
          go_wp2_with fail
          refine (HT.out _).mono ?_
          rintro e w1 ⟨rfl, hb⟩
          have HK := hide (HK.out.keep hb)
          have Hbr := hide (below_step Hbr.out hb (Nat.le_refl _))
          clear hb HT f0 f1 f2 f3 f4 f5 e1 lk
          cases a
          · go_wp2_with fail
            go_ret
            exact ⟨ret_bool (by rw [hr.out, Hq.out, hf.out]; rfl), Hbr.out⟩
          · go_wp2_with fail
            go_roundw
            case rel => exact ⟨k + 1, by omega, by go_num, hide (by rw [Hq.out]; rfl), HK, Hbr.out⟩
            case measure => simp [intOf]; omega
        · obtain rfl : n2 = k := by omega
          have hf2 := hide (show (hs.drop 0).all thickOk = true by rw [hq.out, L2.out, List.drop_length]; rfl)
          go_wp2_with fail
          go_ret
          exact ⟨ret_bool (by rw [hr.out, hf.out, hf2.out]; rfl), hbr⟩
end Go.Proofs.YtmcjpdlkkpnhfaaGreat
