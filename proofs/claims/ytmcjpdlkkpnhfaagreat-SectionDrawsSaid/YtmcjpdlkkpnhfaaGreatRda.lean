/- Plain: the error numbers of a drawing; a box at a point. No walk stands here. The references of layers 47, 17: whether a cut is seen in a cell; whether a hole cuts a box. The references of layers 9, 17 at a point: Meet, Contains, In. -/
import Derived.Test.YtmcjpdlkkpnhfaaGreatRde
import Derived.Test.YtmcjpdlkkpnhfaaGreatQbf
import Derived.Test.YtmcjpdlkkpnhfaaGreatQbn
import Derived.Test.YtmcjpdlkkpnhfaaGreatQbq
import Derived.Deep.CutRange
namespace Go.Proofs.YtmcjpdlkkpnhfaaGreat
open Go.RowKit

theorem drw_err (x : DetD) (a sc : Int) : drawErr x a sc = if givErr x a sc ≠ 0 then givErr x a sc else if 200 < colsOf x sc ∨ 200 < rowsS x sc then 4 else 0 := by
  unfold drawErr secErr sizeErr givErr
  by_cases h1 : detOk x = false
  · simp [h1]
  · by_cases h2 : a < -1048576 ∨ 1048576 < a
    · have h3 : a < -1048576 ∨ 1048576 < a ∨ sc < 1 ∨ 1048576 < sc := by omega
      simp [h1, h2, h3]
    · by_cases h4 : sc < 1 ∨ 1048576 < sc
      · have h3 : a < -1048576 ∨ 1048576 < a ∨ sc < 1 ∨ 1048576 < sc := by omega
        simp [h1, h2, h4]
      · have h3 : ¬ (a < -1048576 ∨ 1048576 < a ∨ sc < 1 ∨ 1048576 < sc) := by omega
        simp [h1, h2, h4]
theorem drw_bad {x : DetD} {a sc : Int} (h : givErr x a sc ≠ 0) : drawErr x a sc = givErr x a sc := by rw [drw_err, if_pos h]
theorem giv_size {x : DetD} {sc : Int} (h : givErr x 0 sc = 0) : sizeErr x sc = 0 := by
  unfold givErr at h
  unfold sizeErr
  by_cases h1 : detOk x = false
  · rw [if_pos h1] at h; cases h
  · rw [if_neg h1] at h ⊢
    by_cases h4 : sc < 1 ∨ 1048576 < sc
    · rw [if_pos (by omega)] at h; cases h
    · rw [if_neg h4]
theorem giv_bad {x : DetD} {sc : Int} (h : givErr x 0 sc ≠ 0) : sizeErr x sc = givErr x 0 sc := by
  unfold givErr at h ⊢
  unfold sizeErr
  by_cases h1 : detOk x = false
  · rw [if_pos h1, if_pos h1]
  · rw [if_neg h1] at h ⊢
    rw [if_neg h1]
    by_cases h4 : sc < 1 ∨ 1048576 < sc
    · rw [if_pos h4, if_pos (by omega)]
    · rw [if_neg (by omega)] at h
      exact absurd rfl h
theorem giv_ok {x : DetD} {a sc : Int} (h : givErr x a sc = 0) : detOk x = true ∧ 1 ≤ sc ∧ sc ≤ 1048576 := by
  unfold givErr at h
  by_cases h1 : detOk x = false
  · rw [if_pos h1] at h; cases h
  · rw [if_neg h1] at h
    by_cases h2 : a < -1048576 ∨ 1048576 < a ∨ sc < 1 ∨ 1048576 < sc
    · rw [if_pos h2] at h; cases h
    · exact ⟨by simpa using h1, by omega, by omega⟩
end Go.Proofs.YtmcjpdlkkpnhfaaGreat
namespace Go.Proofs.YtmcjpdlkkpnhfaaGreat
open Go.RowKit

def cellS (b : BoxD) (y z sc : Int) : Bool := decide (b.lo.2.1 < y + sc) && decide (y ≤ b.hi.2.1) && decide (b.lo.2.2 < z + sc) && decide (z ≤ b.hi.2.2)
theorem covS_cell (y z sc : Int) (b : BoxD) (k c : Nat) : covS y z sc b k c = cellS b (y + c * sc) (z + k * sc) sc := rfl
set_option maxHeartbeats 2000000 in
theorem refCell47_any (b : BoxD) (y z sc : Int) (w : World) (hy : -4294967296 ≤ y ∧ y ≤ 4294967296) (hz : -4294967296 ≤ z ∧ z ≤ 4294967296) (hs : 1 ≤ sc ∧ sc ≤ 1048576) :
    Calls Tryz.prog 75 #[bx b, .int .i64 y, .int .i64 z, .int .i64 sc] w fun e w' => e = .returned (.bool (cellS b y z sc)) ∧ Below w.heap.size w w' := by
  obtain ⟨⟨x1, x2, x3⟩, x4, x5, x6⟩ := b
  have HW := hide (below_new w (.cells #[.int .i64 x1, .int .i64 x2, .int .i64 x3, .int .i64 x4, .int .i64 x5, .int .i64 x6] 63))
  have z1 : IntKind.i64.wrap (y + sc) = y + sc := IntWalk.i64_in _ (by omega)
  have z2 : IntKind.i64.wrap (z + sc) = z + sc := IntWalk.i64_in _ (by omega)
  obtain ⟨t1, ht1⟩ : ∃ t, decide (x2 < y + sc) = t := ⟨_, rfl⟩
  obtain ⟨t2, ht2⟩ : ∃ t, decide (y ≤ x5) = t := ⟨_, rfl⟩
  obtain ⟨t3, ht3⟩ : ∃ t, decide (x3 < z + sc) = t := ⟨_, rfl⟩
  obtain ⟨t4, ht4⟩ : ∃ t, decide (z ≤ x6) = t := ⟨_, rfl⟩
  have Hr := hide (show cellS ⟨(x1, x2, x3), x4, x5, x6⟩ y z sc = (t1 && t2 && t3 && t4) by rw [← ht1, ← ht2, ← ht3, ← ht4]; rfl)
  show Calls Tryz.prog 75 #[.agg #[.int .i64 x1, .int .i64 x2, .int .i64 x3, .int .i64 x4, .int .i64 x5, .int .i64 x6], .int .i64 y, .int .i64 z, .int .i64 sc] w _
  clear hy hz hs
  go_enter Tryz.func75, Tryz.ntmps75
  cases t1
  · go_wp2_with fail
    go_ret
    exact ⟨ret_bool (by rw [Hr.out]; rfl), HW.out⟩
  cases t2
  · go_wp2_with fail
    go_ret
    exact ⟨ret_bool (by rw [Hr.out]; rfl), HW.out⟩
  cases t3
  · go_wp2_with fail
    go_ret
    exact ⟨ret_bool (by rw [Hr.out]; rfl), HW.out⟩
  cases t4
  · go_wp2_with fail
    go_ret
    exact ⟨ret_bool (by rw [Hr.out]; rfl), HW.out⟩
  · go_wp2_with fail
    go_ret
    exact ⟨ret_bool (by rw [Hr.out]; rfl), HW.out⟩
theorem opens_axes (h b : BoxD) : opensB h b = true ↔ ∀ i, i < 3 → nthC b.lo i < nthC h.hi i ∧ nthC h.lo i < nthC b.hi i := by
  obtain ⟨⟨h1, h2, h3⟩, h4, h5, h6⟩ := h
  obtain ⟨⟨b1, b2, b3⟩, b4, b5, b6⟩ := b
  simp only [opensB, Bool.and_eq_true, decide_eq_true_eq]
  constructor
  · rintro ⟨⟨⟨⟨⟨a1, a2⟩, a3⟩, a4⟩, a5⟩, a6⟩ i hi
    rcases (show i = 0 ∨ i = 1 ∨ i = 2 by omega) with rfl | rfl | rfl
    · exact ⟨a1, a2⟩
    · exact ⟨a3, a4⟩
    · exact ⟨a5, a6⟩
  · intro hh
    exact ⟨⟨⟨⟨⟨(hh 0 (by omega)).1, (hh 0 (by omega)).2⟩, (hh 1 (by omega)).1⟩, (hh 1 (by omega)).2⟩, (hh 2 (by omega)).1⟩, (hh 2 (by omega)).2⟩
set_option maxHeartbeats 4000000 in
theorem refCuts17_any (h b : BoxD) (w : World) :
    Calls Tryz.prog 149 #[bx h, bx b] w fun e w' => e = .returned (.bool (opensB h b)) ∧ Below w.heap.size w w' := by
  have Hop := hide (opens_axes h b)
  obtain ⟨r, hr⟩ : ∃ r, r = opensB h b := ⟨_, rfl⟩
  rw [← hr] at Hop ⊢
  obtain ⟨⟨h1, h2, h3⟩, h4, h5, h6⟩ := h
  obtain ⟨⟨b1, b2, b3⟩, b4, b5, b6⟩ := b
  clear hr
  have HW := hide (below_new2 w (.cells #[.int .i64 h1, .int .i64 h2, .int .i64 h3, .int .i64 h4, .int .i64 h5, .int .i64 h6] 63) (.cells #[.int .i64 b1, .int .i64 b2, .int .i64 b3, .int .i64 b4, .int .i64 b5, .int .i64 b6] 63))
  have KH := hide ((Blk.new w 63 #[.int .i64 h1, .int .i64 h2, .int .i64 h3, .int .i64 h4, .int .i64 h5, .int .i64 h6]).alloc (.cells #[.int .i64 b1, .int .i64 b2, .int .i64 b3, .int .i64 b4, .int .i64 b5, .int .i64 b6] 63))
  have KB := hide (Blk.new1 w (.cells #[.int .i64 h1, .int .i64 h2, .int .i64 h3, .int .i64 h4, .int .i64 h5, .int .i64 h6] 63) 63 #[.int .i64 b1, .int .i64 b2, .int .i64 b3, .int .i64 b4, .int .i64 b5, .int .i64 b6])
  show Calls Tryz.prog 149 #[.agg #[.int .i64 h1, .int .i64 h2, .int .i64 h3, .int .i64 h4, .int .i64 h5, .int .i64 h6], .agg #[.int .i64 b1, .int .i64 b2, .int .i64 b3, .int .i64 b4, .int .i64 b5, .int .i64 b6]] w _
  obtain ⟨w1, hw1⟩ : ∃ W, W = (w.alloc (.cells #[.int .i64 h1, .int .i64 h2, .int .i64 h3, .int .i64 h4, .int .i64 h5, .int .i64 h6] 63)).alloc (.cells #[.int .i64 b1, .int .i64 b2, .int .i64 b3, .int .i64 b4, .int .i64 b5, .int .i64 b6] 63) := ⟨_, rfl⟩
  go_enter Tryz.func149, Tryz.ntmps149
  go_wp2_with fail
  rw [← hw1] at HW KH KB ⊢
  clear hw1
  go_loopw [5] (fun iv wr => ∃ k : Nat, k ≤ 3 ∧ iv = .int .i64 k ∧ Hid (∀ i, i < k → nthC (b1, b2, b3) i < nthC (h4, h5, h6) i ∧ nthC (h1, h2, h3) i < nthC (b4, b5, b6) i) ∧ Hid (Below w1.heap.size w1 wr)) (fun iv _ => 3 - (intOf iv).toNat)
  case atStart => exact ⟨0, by omega, rfl, hide (fun i hi => absurd hi (by omega)), hide (Below.refl _ _)⟩
  case round =>
    obtain ⟨k, hk, rfl, hpre, hbr⟩ := hrel
    have hbs := hbr.out.size
    by_cases hlt : k < 3
    · have dk : decide ((k : Int) < 3) = true := by simp; omega
      have hk3 := hlt
      obtain ⟨c1, hc1⟩ : ∃ q, q = nthC (b1, b2, b3) k := ⟨_, rfl⟩
      obtain ⟨c2, hc2⟩ : ∃ q, q = nthC (h4, h5, h6) k := ⟨_, rfl⟩
      obtain ⟨c3, hc3⟩ : ∃ q, q = nthC (b4, b5, b6) k := ⟨_, rfl⟩
      obtain ⟨c4, hc4⟩ : ∃ q, q = nthC (h1, h2, h3) k := ⟨_, rfl⟩
      have HCa := hide (fun (W : World) => show Calls Tryz.prog 111 #[.agg #[.int .i64 b1, .int .i64 b2, .int .i64 b3], .int .i64 k] W fun e w' => e = .returned (.int .i64 c1) ∧ Below W.heap.size W w' by rw [hc1]; exact refCoord_any b1 b2 b3 k hk3 W)
      have HCb := hide (fun (W : World) => show Calls Tryz.prog 111 #[.agg #[.int .i64 h4, .int .i64 h5, .int .i64 h6], .int .i64 k] W fun e w' => e = .returned (.int .i64 c2) ∧ Below W.heap.size W w' by rw [hc2]; exact refCoord_any h4 h5 h6 k hk3 W)
      have HCc := hide (fun (W : World) => show Calls Tryz.prog 111 #[.agg #[.int .i64 b4, .int .i64 b5, .int .i64 b6], .int .i64 k] W fun e w' => e = .returned (.int .i64 c3) ∧ Below W.heap.size W w' by rw [hc3]; exact refCoord_any b4 b5 b6 k hk3 W)
      have HCd := hide (fun (W : World) => show Calls Tryz.prog 111 #[.agg #[.int .i64 h1, .int .i64 h2, .int .i64 h3], .int .i64 k] W fun e w' => e = .returned (.int .i64 c4) ∧ Below W.heap.size W w' by rw [hc4]; exact refCoord_any h1 h2 h3 k hk3 W)
      obtain ⟨t1, ht1⟩ : ∃ t, decide (c2 ≤ c1) = t := ⟨_, rfl⟩
      obtain ⟨t2, ht2⟩ : ∃ t, decide (c3 ≤ c4) = t := ⟨_, rfl⟩
      have Hno := hide (fun (h9 : (t1 || t2) = true) => show r = false by
        rw [Bool.eq_false_iff]
        intro h8
        have h7 := Hop.out.1 h8 k hlt
        try simp only at h7
        rw [← hc1, ← hc2, ← hc3, ← hc4] at h7
        rw [← ht1, ← ht2] at h9
        simp only [Bool.or_eq_true, decide_eq_true_eq] at h9
        omega)
      have Hyes := hide (fun (h9 : (t1 || t2) = false) => show ∀ i, i < k + 1 → nthC (b1, b2, b3) i < nthC (h4, h5, h6) i ∧ nthC (h1, h2, h3) i < nthC (b4, b5, b6) i by
        intro i hi
        rcases Nat.lt_succ_iff_lt_or_eq.1 hi with h8 | rfl
        · exact hpre.out i h8
        · rw [← hc1, ← hc2, ← hc3, ← hc4]
          rw [← ht1, ← ht2] at h9
          simp only [Bool.or_eq_false_iff, decide_eq_false_iff_not] at h9
          omega)
      have kh := KH.out.below hbr.out KH.out.lt
      have kb := KB.out.below hbr.out KB.out.lt
      have e0 := cell_regrown (kh.cell 0)
      have e1 := cell_regrown (kh.cell 1)
      have e2 := cell_regrown (kh.cell 2)
      have e3 := cell_regrown (kh.cell 3)
      have e4 := cell_regrown (kh.cell 4)
      have e5 := cell_regrown (kh.cell 5)
      have f0 := cell_regrown (kb.cell 0)
      have f1 := cell_regrown (kb.cell 1)
      have f2 := cell_regrown (kb.cell 2)
      have f3 := cell_regrown (kb.cell 3)
      have f4 := cell_regrown (kb.cell 4)
      have f5 := cell_regrown (kb.cell 5)
      simp at e0 e1 e2 e3 e4 e5 f0 f1 f2 f3 f4 f5
      clear hc1 hc2 hc3 hc4 kh kb
      cases t1
      · cases t2
        · have hpre2 := hide (Hyes.out rfl)
          clear Hno Hyes hpre
          go_wp2_with fail
          refine wp_region_quiet_below (by kernel_rfl) (by kernel_rfl) ?_
          repeat (go_big_quiet_step (first
            | (go_at_call 111; first | with_reducible exact Calls.regrown_of (HCa.out _) | with_reducible exact Calls.regrown_of (HCb.out _) | with_reducible exact Calls.regrown_of (HCc.out _) | with_reducible exact Calls.regrown_of (HCd.out _))))
          refine wpQuiet_nil ?_
          intro wq9 hw'
          have hbq := hide (show Below _ _ wq9 by obtain ⟨p9, rfl⟩ := hw'; exact below_regrown _ _ _)
          clear hw'
          have hb9 := hide (hbr.out.trans (hbq.out.mono hbs))
          go_wp2_with fail
          go_roundw
          case rel => exact ⟨k + 1, by omega, by go_num, hpre2, hb9⟩
          case measure => simp [intOf]; omega
        · have hno := Hno.out rfl
          clear Hyes hpre
          go_wp2_with fail
          refine wp_region_quiet_below (by kernel_rfl) (by kernel_rfl) ?_
          repeat (go_big_quiet_step (first
            | (go_at_call 111; first | with_reducible exact Calls.regrown_of (HCa.out _) | with_reducible exact Calls.regrown_of (HCb.out _) | with_reducible exact Calls.regrown_of (HCc.out _) | with_reducible exact Calls.regrown_of (HCd.out _))))
          refine wpQuiet_nil ?_
          intro wq9 hw'
          have hbq := hide (show Below _ _ wq9 by obtain ⟨p9, rfl⟩ := hw'; exact below_regrown _ _ _)
          clear hw'
          have hb9 := hide (hbr.out.trans (hbq.out.mono hbs))
          go_wp2_with fail
          go_ret
          exact ⟨by rw [hno]; rfl, below_step HW.out hb9.out (Nat.le_refl _)⟩
      · have hno := Hno.out rfl
        clear Hyes hpre
        go_wp2_with fail
        refine wp_region_quiet_below (by kernel_rfl) (by kernel_rfl) ?_
        repeat (go_big_quiet_step (first
          | (go_at_call 111; first | with_reducible exact Calls.regrown_of (HCa.out _) | with_reducible exact Calls.regrown_of (HCb.out _) | with_reducible exact Calls.regrown_of (HCc.out _) | with_reducible exact Calls.regrown_of (HCd.out _))))
        refine wpQuiet_nil ?_
        intro wq9 hw'
        have hbq := hide (show Below _ _ wq9 by obtain ⟨p9, rfl⟩ := hw'; exact below_regrown _ _ _)
        clear hw'
        have hb9 := hide (hbr.out.trans (hbq.out.mono hbs))
        go_wp2_with fail
        go_ret
        exact ⟨by rw [hno]; rfl, below_step HW.out hb9.out (Nat.le_refl _)⟩
    · obtain rfl : k = 3 := by omega
      have hyes : r = true := Hop.out.2 hpre.out
      go_wp2_with fail
      go_ret
      exact ⟨by rw [hyes]; rfl, below_step HW.out hbr.out (Nat.le_refl _)⟩
end Go.Proofs.YtmcjpdlkkpnhfaaGreat
namespace Go.Proofs.YtmcjpdlkkpnhfaaGreat
open Go.RowKit

def preP (p : Pt) (k : Nat) : Pt := (if 0 < k then p.1 else 0, if 1 < k then p.2.1 else 0, if 2 < k then p.2.2 else 0)
theorem preP_step (p : Pt) {k : Nat} (hk : k < 3) : withC (preP p k) k (nthC p k) = preP p (k + 1) := by
  rcases (show k = 0 ∨ k = 1 ∨ k = 2 by omega) with rfl | rfl | rfl <;> rfl
theorem preP_end (p : Pt) : preP p 3 = p := rfl
theorem holds_axes (a : BoxD) (p : Pt) : holdsB a (ptBox p) = true ↔ ∀ i, i < 3 → nthC a.lo i ≤ nthC p i ∧ nthC p i ≤ nthC a.hi i := by
  obtain ⟨⟨a1, a2, a3⟩, a4, a5, a6⟩ := a
  obtain ⟨p1, p2, p3⟩ := p
  simp only [holdsB, ptBox, Bool.and_eq_true]
  constructor
  · rintro ⟨⟨⟨⟨⟨h1, h2⟩, h3⟩, h4⟩, h5⟩, h6⟩ i hi
    rcases (show i = 0 ∨ i = 1 ∨ i = 2 by omega) with rfl | rfl | rfl
    · exact ⟨of_decide_eq_true h1, of_decide_eq_true h2⟩
    · exact ⟨of_decide_eq_true h3, of_decide_eq_true h4⟩
    · exact ⟨of_decide_eq_true h5, of_decide_eq_true h6⟩
  · intro hh
    exact ⟨⟨⟨⟨⟨decide_eq_true (hh 0 (by omega)).1, decide_eq_true (hh 0 (by omega)).2⟩, decide_eq_true (hh 1 (by omega)).1⟩, decide_eq_true (hh 1 (by omega)).2⟩, decide_eq_true (hh 2 (by omega)).1⟩, decide_eq_true (hh 2 (by omega)).2⟩
set_option maxHeartbeats 4000000 in
theorem refMeet_pt (a : BoxD) (p : Pt) (w : World) :
    Calls Tryz.prog 201 #[bx a, bx (ptBox p)] w fun e w' => (∃ m : BoxD, e = .returned (.tuple #[bx m, .bool (holdsB a (ptBox p))]) ∧ (holdsB a (ptBox p) = true → m = ptBox p)) ∧ Below w.heap.size w w' := by
  have Hax := hide (holds_axes a p)
  obtain ⟨r, hr⟩ : ∃ r, r = holdsB a (ptBox p) := ⟨_, rfl⟩
  rw [← hr] at Hax ⊢
  clear hr
  obtain ⟨⟨a1, a2, a3⟩, a4, a5, a6⟩ := a
  obtain ⟨p1, p2, p3⟩ := p
  have HW := hide (((below_new2 w (.cells #[.int .i64 a1, .int .i64 a2, .int .i64 a3, .int .i64 a4, .int .i64 a5, .int .i64 a6] 63) (.cells #[.int .i64 p1, .int .i64 p2, .int .i64 p3, .int .i64 p1, .int .i64 p2, .int .i64 p3] 63)).alloc (by simp; omega) (.cells #[.int .i64 0, .int .i64 0, .int .i64 0, .int .i64 0, .int .i64 0, .int .i64 0] 63)).alloc (by simp; omega) (.cells #[.int .i64 0, .int .i64 0, .int .i64 0, .int .i64 0, .int .i64 0, .int .i64 0] 63))
  have KA := hide ((((Blk.new w 63 #[.int .i64 a1, .int .i64 a2, .int .i64 a3, .int .i64 a4, .int .i64 a5, .int .i64 a6]).alloc (.cells #[.int .i64 p1, .int .i64 p2, .int .i64 p3, .int .i64 p1, .int .i64 p2, .int .i64 p3] 63)).alloc (.cells #[.int .i64 0, .int .i64 0, .int .i64 0, .int .i64 0, .int .i64 0, .int .i64 0] 63)).alloc (.cells #[.int .i64 0, .int .i64 0, .int .i64 0, .int .i64 0, .int .i64 0, .int .i64 0] 63))
  have KB := hide (((Blk.new1 w (.cells #[.int .i64 a1, .int .i64 a2, .int .i64 a3, .int .i64 a4, .int .i64 a5, .int .i64 a6] 63) 63 #[.int .i64 p1, .int .i64 p2, .int .i64 p3, .int .i64 p1, .int .i64 p2, .int .i64 p3]).alloc (.cells #[.int .i64 0, .int .i64 0, .int .i64 0, .int .i64 0, .int .i64 0, .int .i64 0] 63)).alloc (.cells #[.int .i64 0, .int .i64 0, .int .i64 0, .int .i64 0, .int .i64 0, .int .i64 0] 63))
  have KR := hide ((Blk.new2 w (.cells #[.int .i64 a1, .int .i64 a2, .int .i64 a3, .int .i64 a4, .int .i64 a5, .int .i64 a6] 63) (.cells #[.int .i64 p1, .int .i64 p2, .int .i64 p3, .int .i64 p1, .int .i64 p2, .int .i64 p3] 63) 63 #[.int .i64 0, .int .i64 0, .int .i64 0, .int .i64 0, .int .i64 0, .int .i64 0]).alloc (.cells #[.int .i64 0, .int .i64 0, .int .i64 0, .int .i64 0, .int .i64 0, .int .i64 0] 63))
  have KO : Hid (Blk ((((w.alloc (.cells #[.int .i64 a1, .int .i64 a2, .int .i64 a3, .int .i64 a4, .int .i64 a5, .int .i64 a6] 63)).alloc (.cells #[.int .i64 p1, .int .i64 p2, .int .i64 p3, .int .i64 p1, .int .i64 p2, .int .i64 p3] 63)).alloc (.cells #[.int .i64 0, .int .i64 0, .int .i64 0, .int .i64 0, .int .i64 0, .int .i64 0] 63)).alloc (.cells #[.int .i64 0, .int .i64 0, .int .i64 0, .int .i64 0, .int .i64 0, .int .i64 0] 63)) (w.heap.size + 3) 63 #[.int .i64 0, .int .i64 0, .int .i64 0, .int .i64 0, .int .i64 0, .int .i64 0]) := hide (by
    have h := Blk.new (((w.alloc (.cells #[.int .i64 a1, .int .i64 a2, .int .i64 a3, .int .i64 a4, .int .i64 a5, .int .i64 a6] 63)).alloc (.cells #[.int .i64 p1, .int .i64 p2, .int .i64 p3, .int .i64 p1, .int .i64 p2, .int .i64 p3] 63)).alloc (.cells #[.int .i64 0, .int .i64 0, .int .i64 0, .int .i64 0, .int .i64 0, .int .i64 0] 63)) 63 #[.int .i64 0, .int .i64 0, .int .i64 0, .int .i64 0, .int .i64 0, .int .i64 0]
    simpa using h)
  obtain ⟨w1, hw1⟩ : ∃ W, W = ((((w.alloc (.cells #[.int .i64 a1, .int .i64 a2, .int .i64 a3, .int .i64 a4, .int .i64 a5, .int .i64 a6] 63)).alloc (.cells #[.int .i64 p1, .int .i64 p2, .int .i64 p3, .int .i64 p1, .int .i64 p2, .int .i64 p3] 63)).alloc (.cells #[.int .i64 0, .int .i64 0, .int .i64 0, .int .i64 0, .int .i64 0, .int .i64 0] 63)).alloc (.cells #[.int .i64 0, .int .i64 0, .int .i64 0, .int .i64 0, .int .i64 0, .int .i64 0] 63)) := ⟨_, rfl⟩
  show Calls Tryz.prog 201 #[.agg #[.int .i64 a1, .int .i64 a2, .int .i64 a3, .int .i64 a4, .int .i64 a5, .int .i64 a6], .agg #[.int .i64 p1, .int .i64 p2, .int .i64 p3, .int .i64 p1, .int .i64 p2, .int .i64 p3]] w _
  go_enter Tryz.func201, Tryz.ntmps201
  go_wp2_with fail
  rw [← hw1] at HW KA KB KR KO ⊢
  clear hw1
  go_loopw [7] (fun iv wr => ∃ k : Nat, k ≤ 3 ∧ iv = .int .i64 k ∧ Hid (∀ i, i < k → nthC (a1, a2, a3) i ≤ nthC (p1, p2, p3) i ∧ nthC (p1, p2, p3) i ≤ nthC (a4, a5, a6) i) ∧ (∃ o1 o2 o3 : Int, Hid ((o1, o2, o3) = preP (p1, p2, p3) k) ∧ Hid (Blk wr (w.heap.size + 3) 63 #[.int .i64 o1, .int .i64 o2, .int .i64 o3, .int .i64 o1, .int .i64 o2, .int .i64 o3])) ∧ Hid (Below (w.heap.size + 3) w1 wr)) (fun iv _ => 3 - (intOf iv).toNat)
  case atStart => exact ⟨0, by omega, rfl, hide (fun i hi => absurd hi (by omega)), ⟨0, 0, 0, hide rfl, KO⟩, hide (Below.refl _ _)⟩
  case round =>
    clear KO
    rename World => wo
    obtain ⟨k, hk, rfl, hpre, ⟨o1, o2, o3, ho, hO⟩, hBo⟩ := hrel
    have KRx := hide (KR.out.below hBo.out (by omega))
    have HF := hide (HW.out.trans (hBo.out.mono (by omega)))
    by_cases hlt : k < 3
    · have dk : decide ((k : Int) < 3) = true := by simp; omega
      have hk3 := hlt
      obtain ⟨ca, hca⟩ : ∃ q, q = nthC (a1, a2, a3) k := ⟨_, rfl⟩
      obtain ⟨cb, hcb⟩ : ∃ q, q = nthC (p1, p2, p3) k := ⟨_, rfl⟩
      obtain ⟨cc, hcc⟩ : ∃ q, q = nthC (a4, a5, a6) k := ⟨_, rfl⟩
      have HCa := hide (fun (W : World) => show Calls Tryz.prog 111 #[.agg #[.int .i64 a1, .int .i64 a2, .int .i64 a3], .int .i64 k] W fun e w' => e = .returned (.int .i64 ca) ∧ Below W.heap.size W w' by rw [hca]; exact refCoord_any a1 a2 a3 k hk3 W)
      have HCb := hide (fun (W : World) => show Calls Tryz.prog 111 #[.agg #[.int .i64 p1, .int .i64 p2, .int .i64 p3], .int .i64 k] W fun e w' => e = .returned (.int .i64 cb) ∧ Below W.heap.size W w' by rw [hcb]; exact refCoord_any p1 p2 p3 k hk3 W)
      have HCc := hide (fun (W : World) => show Calls Tryz.prog 111 #[.agg #[.int .i64 a4, .int .i64 a5, .int .i64 a6], .int .i64 k] W fun e w' => e = .returned (.int .i64 cc) ∧ Below W.heap.size W w' by rw [hcc]; exact refCoord_any a4 a5 a6 k hk3 W)
      obtain ⟨lo, hlo⟩ : ∃ q, q = max ca cb := ⟨_, rfl⟩
      obtain ⟨hi, hhi⟩ : ∃ q, q = min cc cb := ⟨_, rfl⟩
      have hmx : (if ca < cb then cb else ca) = lo := by rw [hlo]; exact maxI ca cb
      have hmn : (if cb < cc then cb else cc) = hi := by rw [hhi]; exact minI cc cb
      obtain ⟨⟨t1, t2, t3⟩, hT⟩ : ∃ t : Pt, t = withC (o1, o2, o3) k cb := ⟨_, rfl⟩
      have HWi := hide (fun (W : World) => show Calls Tryz.prog 110 #[.agg #[.int .i64 o1, .int .i64 o2, .int .i64 o3], .int .i64 k, .int .i64 cb] W fun e w' => e = .returned (.agg #[.int .i64 t1, .int .i64 t2, .int .i64 t3]) ∧ Below W.heap.size W w' from (refWith_any o1 o2 o3 cb k hk3 W).mono (fun e w' hh => by rw [← hT] at hh; exact hh))
      have HT := hide (show (t1, t2, t3) = preP (p1, p2, p3) (k + 1) by rw [hT, ho.out, hcb, preP_step _ hk3])
      have Hno := hide (fun (h9 : ¬ (ca ≤ cb ∧ cb ≤ cc)) => show r = false by
        rw [Bool.eq_false_iff]
        intro h8
        have h7 := Hax.out.1 h8 k hlt
        try simp only at h7
        rw [← hca, ← hcb, ← hcc] at h7
        exact h9 h7)
      have Hyes := hide (fun (h9 : ca ≤ cb ∧ cb ≤ cc) => show ∀ i, i < k + 1 → nthC (a1, a2, a3) i ≤ nthC (p1, p2, p3) i ∧ nthC (p1, p2, p3) i ≤ nthC (a4, a5, a6) i by
        intro i hi9
        rcases Nat.lt_succ_iff_lt_or_eq.1 hi9 with h8 | rfl
        · exact hpre.out i h8
        · rw [← hca, ← hcb, ← hcc]; exact h9)
      have ka := KA.out.below hBo.out (by omega)
      have kb := KB.out.below hBo.out (by omega)
      have e0 := cell_regrown (ka.cell 0)
      have e1 := cell_regrown (ka.cell 1)
      have e2 := cell_regrown (ka.cell 2)
      have e3 := cell_regrown (ka.cell 3)
      have e4 := cell_regrown (ka.cell 4)
      have e5 := cell_regrown (ka.cell 5)
      have f0 := cell_regrown (kb.cell 0)
      have f1 := cell_regrown (kb.cell 1)
      have f2 := cell_regrown (kb.cell 2)
      have f3 := cell_regrown (kb.cell 3)
      have f4 := cell_regrown (kb.cell 4)
      have f5 := cell_regrown (kb.cell 5)
      simp at e0 e1 e2 e3 e4 e5 f0 f1 f2 f3 f4 f5
      clear hca hcb hcc hT ka kb hpre
      go_wp2_with fail
      go_cut [8, 9] from 14 to 31 (fun v8 v9 wx => v8 = .int .i64 lo ∧ v9 = .int .i64 hi ∧ Hid (Below wo.heap.size wo wx))
      case first =>
        refine wp_region_quiet_below (by kernel_rfl) (by kernel_rfl) ?_
        repeat (go_big_quiet_step (first
          | (go_at_call 111; first | with_reducible exact Calls.regrown_of (HCa.out _) | with_reducible exact Calls.regrown_of (HCb.out _) | with_reducible exact Calls.regrown_of (HCc.out _))))
        refine wpQuiet_nil ?_
        intro wq9 hw'
        have hbq := hide (show Below _ _ wq9 by obtain ⟨p9, rfl⟩ := hw'; exact below_regrown _ _ _)
        clear hw'
        go_wp2_with fail
        go_meet
        exact ⟨by first | rfl | rw [hlo], by first | rfl | rw [hhi], hbq⟩
      case rest =>
        obtain ⟨rfl, rfl, hbx⟩ := hcut
        rename World => wx
        have hOx := hide (hO.out.keep hbx.out)
        have hBx2 := hide (hBo.out.trans (hbx.out.mono (Nat.le_of_lt hO.out.lt)))
        clear hbx hO hBo e0 e1 e2 e3 e4 e5 f0 f1 f2 f3 f4 f5 HCa HCb HCc hmx hmn KRx HF
        by_cases hin : ca ≤ cb ∧ cb ≤ cc
        · have hpre2 := hide (Hyes.out hin)
          obtain rfl : cb = lo := by omega
          obtain rfl : cb = hi := by omega
          clear hlo hhi
          have x0 := hOx.out.cell 0
          have x1 := hOx.out.cell 1
          have x2 := hOx.out.cell 2
          simp at x0 x1 x2
          have lO := hOx.out.lt
          have dd : decide (cb < cb) = false := by simp
          clear Hno Hyes
          go_upto_region 8 with fail
          go_cut [8, 9] from 36 to 41 (fun v8 v9 wy => v8 = .int .i64 cb ∧ v9 = .int .i64 cb ∧ Hid (Blk wy (w.heap.size + 3) 63 #[.int .i64 t1, .int .i64 t2, .int .i64 t3, .int .i64 o1, .int .i64 o2, .int .i64 o3]) ∧ Hid (Below (w.heap.size + 3) w1 wy))
          case first =>
            go_wp2_with fail
            refine (HWi.out _).mono ?_
            rintro e wz ⟨rfl, hbz⟩
            have kz := hOx.out.keep hbz
            have z0 := kz.frozen 0
            have z1 := kz.frozen 1
            have z2 := kz.frozen 2
            have y0 := kz.cell 0
            have y1 := kz.cell 1
            have y2 := kz.cell 2
            simp at y0 y1 y2
            have lz := kz.lt
            have Kz := hide kz
            have Bz := hide (hBx2.out.trans (hbz.mono (Nat.le_of_lt lO)))
            clear kz hbz x0 x1 x2
            go_wp2_with fail
            go_meet
            exact ⟨rfl, rfl, hide (blk3l Kz.out _ _ _), hide (below3 (g := w.heap.size + 3) Bz.out (Nat.le_refl _) _ _ _)⟩
          case rest =>
            obtain ⟨rfl, rfl, hOy, hBy⟩ := hcut
            rename World => wy
            have x3 := hOy.out.cell 3
            have x4 := hOy.out.cell 4
            have x5 := hOy.out.cell 5
            simp at x3 x4 x5
            have lY := hOy.out.lt
            clear hOx hBx2 x0 x1 x2 lO
            go_wp2_with fail
            refine (HWi.out _).mono ?_
            rintro e wz ⟨rfl, hbz⟩
            have kz := hOy.out.keep hbz
            have z0 := kz.frozen 3
            have z1 := kz.frozen 4
            have z2 := kz.frozen 5
            have y0 := kz.cell 3
            have y1 := kz.cell 4
            have y2 := kz.cell 5
            simp at y0 y1 y2
            have lz := kz.lt
            have hO9 := hide (blk3h kz (.int .i64 t1) (.int .i64 t2) (.int .i64 t3))
            have hB9 := hide (below3h (g := w.heap.size + 3) (hBy.out.trans (hbz.mono (Nat.le_of_lt lY))) (Nat.le_refl _) (.int .i64 t1) (.int .i64 t2) (.int .i64 t3))
            clear kz hbz x3 x4 x5 hOy hBy
            go_wp2_with fail
            go_roundw
            case rel => exact ⟨k + 1, by omega, by go_num, hpre2, ⟨t1, t2, t3, HT, hO9⟩, hB9⟩
            case measure => simp [intOf]; omega
        · have hno := Hno.out hin
          have dd : decide (hi < lo) = true := by simp only [decide_eq_true_eq]; omega
          clear hlo hhi
          have KRx := hide (KR.out.below hBx2.out (by omega))
          have HF := hide (HW.out.trans (hBx2.out.mono (by omega)))
          clear Hno Hyes hOx HWi
          have g0 := KRx.out.frozen 0
          have g1 := KRx.out.frozen 1
          have g2 := KRx.out.frozen 2
          have g3 := KRx.out.frozen 3
          have g4 := KRx.out.frozen 4
          have g5 := KRx.out.frozen 5
          have r0 := KRx.out.cell 0
          have r1 := KRx.out.cell 1
          have r2 := KRx.out.cell 2
          have r3 := KRx.out.cell 3
          have r4 := KRx.out.cell 4
          have r5 := KRx.out.cell 5
          simp at r0 r1 r2 r3 r4 r5
          have lr := KRx.out.lt
          go_wp2_with fail
          refine bodyPost_ret (results_ct rfl rfl ((((((KRx.out.set_ 0 _).set_ 1 _).set_ 2 _).set_ 3 _).set_ 4 _).set_ 5 _) Tryz.underlying63 rfl (by kernel_rfl)) rfl ?_
          refine ⟨?_, (((((HF.out.setCell (p := ⟨w.heap.size + 2, 0, none⟩) (Nat.le_add_right _ _) _).setCell (p := ⟨w.heap.size + 2, 1, none⟩) (Nat.le_add_right _ _) _).setCell (p := ⟨w.heap.size + 2, 2, none⟩) (Nat.le_add_right _ _) _).setCell (p := ⟨w.heap.size + 2, 3, none⟩) (Nat.le_add_right _ _) _).setCell (p := ⟨w.heap.size + 2, 4, none⟩) (Nat.le_add_right _ _) _).setCell (p := ⟨w.heap.size + 2, 5, none⟩) (Nat.le_add_right _ _) _⟩
          simp only [List.setIfInBounds_toArray, List.set_cons_zero, List.set_cons_succ]
          exact ⟨⟨(0, 0, 0), (0, 0, 0)⟩, by rw [hno]; rfl, fun h9 => by rw [hno] at h9; cases h9⟩
    · obtain rfl : k = 3 := by omega
      have hyes : r = true := Hax.out.2 hpre.out
      have ho3 : (o1, o2, o3) = (p1, p2, p3) := ho.out
      injection ho3 with h1 h23
      injection h23 with h2 h3
      subst h1
      subst h2
      subst h3
      have x0 := hO.out.cell 0
      have x1 := hO.out.cell 1
      have x2 := hO.out.cell 2
      have x3 := hO.out.cell 3
      have x4 := hO.out.cell 4
      have x5 := hO.out.cell 5
      simp at x0 x1 x2 x3 x4 x5
      have lO := hO.out.lt
      clear hpre ho
      have g0 := KRx.out.frozen 0
      have g1 := KRx.out.frozen 1
      have g2 := KRx.out.frozen 2
      have g3 := KRx.out.frozen 3
      have g4 := KRx.out.frozen 4
      have g5 := KRx.out.frozen 5
      have r0 := KRx.out.cell 0
      have r1 := KRx.out.cell 1
      have r2 := KRx.out.cell 2
      have r3 := KRx.out.cell 3
      have r4 := KRx.out.cell 4
      have r5 := KRx.out.cell 5
      simp at r0 r1 r2 r3 r4 r5
      have lr := KRx.out.lt
      go_wp2_with fail
      refine bodyPost_ret (results_ct rfl rfl ((((((KRx.out.set_ 0 _).set_ 1 _).set_ 2 _).set_ 3 _).set_ 4 _).set_ 5 _) Tryz.underlying63 rfl (by kernel_rfl)) rfl ?_
      refine ⟨?_, (((((HF.out.setCell (p := ⟨w.heap.size + 2, 0, none⟩) (Nat.le_add_right _ _) _).setCell (p := ⟨w.heap.size + 2, 1, none⟩) (Nat.le_add_right _ _) _).setCell (p := ⟨w.heap.size + 2, 2, none⟩) (Nat.le_add_right _ _) _).setCell (p := ⟨w.heap.size + 2, 3, none⟩) (Nat.le_add_right _ _) _).setCell (p := ⟨w.heap.size + 2, 4, none⟩) (Nat.le_add_right _ _) _).setCell (p := ⟨w.heap.size + 2, 5, none⟩) (Nat.le_add_right _ _) _⟩
      simp only [List.setIfInBounds_toArray, List.set_cons_zero, List.set_cons_succ]
      exact ⟨⟨(o1, o2, o3), (o1, o2, o3)⟩, by rw [hyes]; rfl, fun _ => rfl⟩
set_option maxHeartbeats 4000000 in
theorem refContains_pt (a : BoxD) (p : Pt) (w : World) :
    Calls Tryz.prog 189 #[bx a, bx (ptBox p)] w fun e w' => e = .returned (.bool (holdsB a (ptBox p))) ∧ Below w.heap.size w w' := by
  have HM := hide (fun W => refMeet_pt a p W)
  obtain ⟨r, hr⟩ : ∃ r, r = holdsB a (ptBox p) := ⟨_, rfl⟩
  rw [← hr] at HM ⊢
  clear hr
  obtain ⟨⟨a1, a2, a3⟩, a4, a5, a6⟩ := a
  obtain ⟨p1, p2, p3⟩ := p
  have HW := hide (below_new2 w (.cells #[.int .i64 a1, .int .i64 a2, .int .i64 a3, .int .i64 a4, .int .i64 a5, .int .i64 a6] 63) (.cells #[.int .i64 p1, .int .i64 p2, .int .i64 p3, .int .i64 p1, .int .i64 p2, .int .i64 p3] 63))
  have KB := hide (Blk.new1 w (.cells #[.int .i64 a1, .int .i64 a2, .int .i64 a3, .int .i64 a4, .int .i64 a5, .int .i64 a6] 63) 63 #[.int .i64 p1, .int .i64 p2, .int .i64 p3, .int .i64 p1, .int .i64 p2, .int .i64 p3])
  show Calls Tryz.prog 189 #[.agg #[.int .i64 a1, .int .i64 a2, .int .i64 a3, .int .i64 a4, .int .i64 a5, .int .i64 a6], .agg #[.int .i64 p1, .int .i64 p2, .int .i64 p3, .int .i64 p1, .int .i64 p2, .int .i64 p3]] w _
  go_enter Tryz.func189, Tryz.ntmps189
  go_wp2_with fail
  refine (HM.out _).mono ?_
  rintro e w2 ⟨⟨⟨⟨m1, m2, m3⟩, m4, m5, m6⟩, rfl, hm⟩, hb⟩
  have HF := below_step HW.out hb (Nat.le_refl _)
  have HF2 := hide (HF.alloc HF.size (.cells #[.int .i64 m1, .int .i64 m2, .int .i64 m3, .int .i64 m4, .int .i64 m5, .int .i64 m6] 63))
  have KB2 := hide ((KB.out.keep hb).alloc (.cells #[.int .i64 m1, .int .i64 m2, .int .i64 m3, .int .i64 m4, .int .i64 m5, .int .i64 m6] 63))
  have Hm := hide hm
  have c0 := KB2.out.cell 0
  have c1 := KB2.out.cell 1
  have c2 := KB2.out.cell 2
  have c3 := KB2.out.cell 3
  have c4 := KB2.out.cell 4
  have c5 := KB2.out.cell 5
  simp at c0 c1 c2 c3 c4 c5
  have lk := KB2.out.lt
  clear hb HF HM hm HW KB
  cases r
  · go_wp2_with fail
    go_ret
    exact ⟨rfl, HF2.out⟩
  · have h9 := Hm.out rfl
    simp only [ptBox, BoxD.mk.injEq, Prod.mk.injEq] at h9
    obtain ⟨⟨rfl, rfl, rfl⟩, rfl, rfl, rfl⟩ := h9
    clear Hm
    go_wp2_with fail
    go_ret
    exact ⟨ret_bool (by simp), HF2.out⟩
set_option maxHeartbeats 4000000 in
theorem refIn_pt (A : Option Addr) (l : List BoxD) (n c : Nat) (p : Pt) (w : World) {B : Nat} (h : BoxesAt w B A l) (hB : B ≤ w.heap.size) (hn : n = l.length) (hm : n ≤ 60000) :
    Calls Tryz.prog 176 #[.slice A n c, bx (ptBox p)] w fun e w' => e = .returned (.bool (someOf (holdsAt (ptBox p)) l)) ∧ Below w.heap.size w w' := by
  have Hn := hide hn
  have Hl := hide h
  have HB := hide hB
  have Hso := hide (fun (k : Nat) (y : BoxD) (hy : l[k]? = some y) (ht : holdsB y (ptBox p) = true) => show someOf (holdsAt (ptBox p)) l = true from List.any_eq_true.2 ⟨y, mem_of_get hy, ht⟩)
  have Hno := hide (fun (h9 : ∀ y ∈ l, holdsB y (ptBox p) = false) => show someOf (holdsAt (ptBox p)) l = false from List.any_eq_false.2 (fun y hy => by have := h9 y hy; simp [holdsAt, this]))
  have HCo := hide (fun (y : BoxD) (W : World) => refContains_pt y p W)
  have Hst := hide (fun (k : Nat) (y : BoxD) (hy : l[k]? = some y) (hp : ∀ z ∈ l.take k, holdsB z (ptBox p) = false) (ht : holdsB y (ptBox p) = false) => show ∀ z ∈ l.take (k + 1), holdsB z (ptBox p) = false by
    rw [take_snoc' hy]
    intro z hz
    rcases List.mem_append.1 hz with h8 | h8
    · exact hp z h8
    · rw [List.mem_singleton.1 h8]; exact ht)
  obtain ⟨so, hso⟩ : ∃ so, so = someOf (holdsAt (ptBox p)) l := ⟨_, rfl⟩
  rw [← hso] at Hso Hno ⊢
  obtain ⟨p1, p2, p3⟩ := p
  have HW := hide (below_new w (.cells #[.int .i64 p1, .int .i64 p2, .int .i64 p3, .int .i64 p1, .int .i64 p2, .int .i64 p3] 63))
  have KB := hide (Blk.new w 63 #[.int .i64 p1, .int .i64 p2, .int .i64 p3, .int .i64 p1, .int .i64 p2, .int .i64 p3])
  obtain ⟨w1, hw1⟩ : ∃ W, W = w.alloc (.cells #[.int .i64 p1, .int .i64 p2, .int .i64 p3, .int .i64 p1, .int .i64 p2, .int .i64 p3] 63) := ⟨_, rfl⟩
  clear h hn hB hso
  show Calls Tryz.prog 176 #[.slice A n c, .agg #[.int .i64 p1, .int .i64 p2, .int .i64 p3, .int .i64 p1, .int .i64 p2, .int .i64 p3]] w _
  go_enter Tryz.func176, Tryz.ntmps176
  go_wp2_with fail
  rw [← hw1] at HW KB ⊢
  clear hw1
  go_loopw [5] (fun iv wr => ∃ k : Nat, k ≤ n ∧ iv = .int .i64 k ∧ Hid (∀ z ∈ l.take k, holdsB z (ptBox (p1, p2, p3)) = false) ∧ Hid (Below w1.heap.size w1 wr)) (fun iv _ => n - (intOf iv).toNat)
  case atStart => exact ⟨0, Nat.zero_le _, rfl, hide (by simp), hide (Below.refl _ _)⟩
  case round =>
    obtain ⟨k, hk, rfl, hpre, hbr⟩ := hrel
    have hbs := hbr.out.size
    have HWr := hide (below_step HW.out hbr.out (Nat.le_refl _))
    by_cases hlt : k < n
    · have dk : decide ((k : Int) < (n : Int)) = true := by simp; omega
      obtain ⟨b, off, y, rfl, hbl, hy, y0, y1, y2, y3, y4, y5⟩ := BoxesAt.get (k := k) (SlOf.carry (Flat.carried _) Hl.out (HWr.out.mono HB.out) (Nat.le_refl _)) (by rw [← Hn.out]; exact hlt)
      have Hy := hide hy
      have HCy := HCo.out y
      have Hst2 := hide (Hst.out k y hy hpre.out)
      have Hso2 := hide (Hso.out k y hy)
      obtain ⟨t, ht⟩ : ∃ t, t = holdsB y (ptBox (p1, p2, p3)) := ⟨_, rfl⟩
      rw [← ht] at HCy Hst2 Hso2
      obtain ⟨⟨q1, q2, q3⟩, q4, q5, q6⟩ := y
      simp only [bx, ptBox] at HCy
      have HCy := hide HCy
      have hbw : b < wr.heap.size := by have := HB.out; have := HWr.out.size; omega
      have kb := KB.out.below hbr.out KB.out.lt
      have f0 := cell_regrown (kb.cell 0)
      have f1 := cell_regrown (kb.cell 1)
      have f2 := cell_regrown (kb.cell 2)
      have f3 := cell_regrown (kb.cell 3)
      have f4 := cell_regrown (kb.cell 4)
      have f5 := cell_regrown (kb.cell 5)
      simp only at y0
      have u0 := cell_regrown y0
      have u1 := cell_regrown y1
      have u2 := cell_regrown y2
      have u3 := cell_regrown y3
      have u4 := cell_regrown y4
      have u5 := cell_regrown y5
      simp at f0 f1 f2 f3 f4 f5
      clear hy hpre ht kb y0 y1 y2 y3 y4 y5
      cases t
      · have hpre2 := hide (Hst2.out rfl)
        clear Hst2 Hso2
        go_wp2_with fail
        refine wp_region_quiet_below (by kernel_rfl) (by kernel_rfl) ?_
        repeat (go_big_quiet_step (first
          | (go_at_call 189; first | with_reducible exact Calls.regrown_of (HCy.out _))))
        refine wpQuiet_nil ?_
        intro wq9 hw'
        have hbq := hide (show Below _ _ wq9 by obtain ⟨p9, rfl⟩ := hw'; exact below_regrown _ _ _)
        clear hw'
        have hb9 := hide (hbr.out.trans (hbq.out.mono hbs))
        go_wp2_with fail
        go_roundw
        case rel => exact ⟨k + 1, by omega, by go_num, hpre2, hb9⟩
        case measure => simp [intOf]; omega
      · have hso := Hso2.out rfl
        clear Hst2 Hso2
        go_wp2_with fail
        refine wp_region_quiet_below (by kernel_rfl) (by kernel_rfl) ?_
        repeat (go_big_quiet_step (first
          | (go_at_call 189; first | with_reducible exact Calls.regrown_of (HCy.out _))))
        refine wpQuiet_nil ?_
        intro wq9 hw'
        have hbq := hide (show Below _ _ wq9 by obtain ⟨p9, rfl⟩ := hw'; exact below_regrown _ _ _)
        clear hw'
        have hb9 := hide (hbr.out.trans (hbq.out.mono hbs))
        go_wp2_with fail
        go_ret
        exact ⟨by rw [hso]; rfl, below_step HW.out hb9.out (Nat.le_refl _)⟩
    · obtain rfl : k = n := by omega
      have dk : decide ((k : Int) < (k : Int)) = false := by simp
      have hno := Hno.out (by have h9 := hpre.out; rwa [Hn.out, List.take_length] at h9)
      go_wp2_with fail
      go_ret
      exact ⟨by rw [hno]; rfl, HWr.out⟩
end Go.Proofs.YtmcjpdlkkpnhfaaGreat
