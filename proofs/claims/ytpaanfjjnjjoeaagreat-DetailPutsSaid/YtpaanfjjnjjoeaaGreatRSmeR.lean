/- The references' tests of equality: layers 16, 17, 14, 23. -/
import Derived.Test.YtpaanfjjnjjoeaaGreatRQan
namespace Go.Proofs.YtpaanfjjnjjoeaaGreat
open Go.RowKit
theorem drewN_below {w w0 : World} {b : Nat} (h : Below b w0 w) (d : Nat) : Below b w0 (w.drewN d) := ⟨h.os, h.tape, h.output, h.size, fun k hk => h.block k hk⟩
theorem neq_of_eql {P : Program} {t : TypeId} {xs ys : Array Value} {q : Bool} {w : World} (h : (binOp .eql t (.agg xs) (.agg ys)).run P w = .ok (.bool q) w) : (binOp .neq t (.agg xs) (.agg ys)).run P w = .ok (.bool (!q)) w := by
 rw [run_eql_struct] at h
 rw [run_neq_struct]
 cases hr : (Op.equalIn 10000 t (.agg xs) (.agg ys)).run P w with
 | ok b w' =>
  rw [hr] at h
  simp only [Result.andThen] at h ⊢
  injection h with h1 h2
  injection h1 with h1
  rw [h1, h2]
 | halt x w' =>
  rw [hr] at h
  simp only [Result.andThen] at h
  cases h
theorem box_neq (a b : BoxD) (w : World) : Sem.run Tryz.prog (binOp .neq 62 (.agg #[.int .i64 a.lo.1, .int .i64 a.lo.2.1, .int .i64 a.lo.2.2, .int .i64 a.hi.1, .int .i64 a.hi.2.1, .int .i64 a.hi.2.2]) (.agg #[.int .i64 b.lo.1, .int .i64 b.lo.2.1, .int .i64 b.lo.2.2, .int .i64 b.hi.1, .int .i64 b.hi.2.1, .int .i64 b.hi.2.2])) w = .ok (.bool (!eqBox a b)) w :=
 neq_of_eql (box_eql a b w)
set_option maxHeartbeats 8000000 in
theorem ref16Same_any (A A' : Option Addr) (l m : List RunD) (n n' c c' : Nat) (w : World) {B B' : Nat} (h : RunsAt w B A l) (h' : RunsAt w B' A' m) (hn : n = l.length) (hn' : n' = m.length) (hm : n ≤ 300000) (hm' : n' ≤ 300000) :
  Calls Tryz.prog 75 #[.slice A n c, .slice A' n' c'] w fun e w' => e = .returned (.bool (sameL eqRun l m)) ∧ Below w.heap.size w w' := by
 by_cases hnn : n = n'
 ·subst hnn
  have hs := hide (same_len (eq := eqRun) (l := l) (m := m) (by omega))
  have hz := hide (show (l.zip m).length = n by rw [List.length_zip]; omega)
  have hn1 := hide hn
  have hn2 := hide hn'
  have Hs := hide h
  have Hs2 := hide h'
  clear h h' hn hn'
  go_enter Tryz.func75, Tryz.ntmps75
  go_wp2_with fail
  go_loopw [5] (fun i wr => ∃ k : Nat, k ≤ n ∧ i = .int .i64 k ∧ NoneTo (unlike eqRun) (l.zip m) k ∧ ∃ d, wr = w.drewN d) (fun i _ => n - (intOf i).toNat)
  case atStart => exact ⟨0, Nat.zero_le _, rfl, NoneTo.zero _ _, 0, rfl⟩
  case round =>
   obtain ⟨k, hk, rfl, hw, d, rfl⟩ := hrel
   by_cases hlt : k < n
   ·obtain ⟨b, off, x, rfl, _, hx, ce⟩ := RunsAt.get (k := k) Hs.out (by rw [← hn1.out]; exact hlt)
    obtain ⟨b2, off2, y, rfl, _, hy, cg⟩ := RunsAt.get (k := k) Hs2.out (by rw [← hn2.out]; exact hlt)
    have Hz := hide (zip_get hx hy)
    have e1 := ce 0 _ rfl
    have g1 := cg 0 _ rfl
    have e2 := ce 1 _ rfl
    have g2 := cg 1 _ rfl
    have e3 := ce 2 _ rfl
    have g3 := cg 2 _ rfl
    have e4 := ce 3 _ rfl
    have g4 := cg 3 _ rfl
    have e5 := ce 4 _ rfl
    have g5 := cg 4 _ rfl
    have e6 := ce 5 _ rfl
    have g6 := cg 5 _ rfl
    have e7 := ce 6 _ rfl
    have g7 := cg 6 _ rfl
    have e8 := ce 7 _ rfl
    have g8 := cg 7 _ rfl
    have e9 := ce 8 _ rfl
    have g9 := cg 8 _ rfl
    have e10 := ce 9 _ rfl
    have g10 := cg 9 _ rfl
    simp only [Nat.add_zero] at e1 g1 e2 g2 e3 g3 e4 g4 e5 g5 e6 g6 e7 g7 e8 g8 e9 g9 e10 g10
    clear ce cg
    obtain ⟨x1, x2, x3, ⟨x4, x5, x6⟩, ⟨x7, x8, x9⟩, x10⟩ := x
    obtain ⟨y1, y2, y3, ⟨y4, y5, y6⟩, ⟨y7, y8, y9⟩, y10⟩ := y
    have hsz := hw
    clear hx hy hw
    have Hw := hide hsz
    clear hsz
    rcases @waysRun x2 y2 x3 y3 x4 y4 x5 y5 x6 y6 x7 y7 x8 y8 x9 y9 x10 y10 x1 y1 with ⟨hq, q1, q2, q3, q4, q5, q6, q7, q8, q9, q10⟩ | ⟨hq, q1⟩ | ⟨hq, q1, q2⟩ | ⟨hq, q1, q2, q3⟩ | ⟨hq, q1, q2, q3, q4⟩ | ⟨hq, q1, q2, q3, q4, q5⟩ | ⟨hq, q1, q2, q3, q4, q5, q6⟩ | ⟨hq, q1, q2, q3, q4, q5, q6, q7⟩ | ⟨hq, q1, q2, q3, q4, q5, q6, q7, q8⟩ | ⟨hq, q1, q2, q3, q4, q5, q6, q7, q8, q9⟩ | ⟨hq, q1, q2, q3, q4, q5, q6, q7, q8, q9, q10⟩
    ·have Hq := hide hq
     clear hq
     go_wp2_with fail
     go_quiet (fail)
     go_wp2_with fail
     go_roundw
     case rel => exact ⟨k + 1, by omega, by go_num, Hw.out.succ Hz.out (by rw [unlike, Hq.out]; rfl), _, rfl⟩
     case measure => simp [intOf]; omega
    all_goals
     have Hq := hide (same_no hs.out Hz.out hq)
     clear hq
     go_wp2_with fail
     go_quiet (fail)
     go_wp2_with fail
     go_ret
     exact ⟨ret_bool Hq.out.symm, ⟨rfl, rfl, rfl, Nat.le_refl _, fun _ _ => rfl⟩⟩
   ·obtain rfl : k = n := by omega
    have Hq := hide (same_yes hs.out hz.out hw)
    clear hw
    go_wp2_with fail
    go_ret
    exact ⟨ret_bool Hq.out.symm, ⟨rfl, rfl, rfl, Nat.le_refl _, fun _ _ => rfl⟩⟩
 ·have Hq := hide (same_not (eq := eqRun) (l := l) (m := m) (by omega))
  have t : ((n : Int) != (n' : Int)) = true := by simp; omega
  clear h h' hn hn'
  go_enter Tryz.func75, Tryz.ntmps75
  go_wp2_with fail
  go_ret
  exact ⟨ret_bool Hq.out.symm, Below.refl _ _⟩
set_option maxHeartbeats 8000000 in
theorem ref17Same_any (A1 A2 B1 B2 : Option Addr) (l1 l2 m1 m2 : List BoxD) (n1 n2 k1 k2 c1 c2 d1 d2 : Nat) (w : World) {B B' : Nat} (h1 : BoxesAt w B A1 l1) (h2 : BoxesAt w B A2 l2) (g1 : BoxesAt w B' B1 m1) (g2 : BoxesAt w B' B2 m2) (hB : B ≤ w.heap.size) (hB' : B' ≤ w.heap.size)
  (e1 : n1 = l1.length) (e2 : n2 = l2.length) (f1 : k1 = m1.length) (f2 : k2 = m2.length) (b1 : n1 ≤ 300000) (b2 : n2 ≤ 300000) (b3 : k1 ≤ 300000) (b4 : k2 ≤ 300000) :
  Calls Tryz.prog 73 #[.agg #[.slice A1 n1 c1, .slice A2 n2 c2], .agg #[.slice B1 k1 d1, .slice B2 k2 d2]] w fun e w' => e = .returned (.bool (sameL eqBox l1 m1 && sameL eqBox l2 m2)) ∧ Below w.heap.size w w' := by
 have KX := hide ((Blk.new w 24 #[.slice A1 n1 c1, .slice A2 n2 c2]).alloc (.cells #[.slice B1 k1 d1, .slice B2 k2 d2] 24))
 have KY := hide (Blk.new1 w (.cells #[.slice A1 n1 c1, .slice A2 n2 c2] 24) 24 #[.slice B1 k1 d1, .slice B2 k2 d2])
 have HW := hide (below_new2 w (.cells #[.slice A1 n1 c1, .slice A2 n2 c2] 24) (.cells #[.slice B1 k1 d1, .slice B2 k2 d2] 24))
 obtain ⟨w2, hw2⟩ : ∃ w2, w2 = (w.alloc (.cells #[.slice A1 n1 c1, .slice A2 n2 c2] 24)).alloc (.cells #[.slice B1 k1 d1, .slice B2 k2 d2] 24) := ⟨_, rfl⟩
 rw [← hw2] at KX KY HW
 have HWn := hide (fun d : Nat => show Below w.heap.size w (w2.drewN d) from ⟨HW.out.os, HW.out.tape, HW.out.output, HW.out.size, fun k hk => HW.out.block k hk⟩)
 have HS := hide (h1.carry (Flat.carried _) (HW.out.mono hB) (Nat.le_refl _))
 have HV := hide (h2.carry (Flat.carried _) (HW.out.mono hB) (Nat.le_refl _))
 have HT := hide (g1.carry (Flat.carried _) (HW.out.mono hB') (Nat.le_refl _))
 have HU := hide (g2.carry (Flat.carried _) (HW.out.mono hB') (Nat.le_refl _))
 have x0 := KX.out.cell 0
 have x1 := KX.out.cell 1
 have y0 := KY.out.cell 0
 have y1 := KY.out.cell 1
 simp at x0 x1 y0 y1
 have lx := KX.out.lt
 have ly := KY.out.lt
 by_cases q1 : n1 = k1
 rotate_left
 ·have Hn := hide (same_not (eq := eqBox) (l := l1) (m := m1) (by omega))
  have t1 : ((n1 : Int) != (k1 : Int)) = true := by simp; omega
  clear h1 h2 g1 g2 e1 e2 f1 f2 hB hB' KX KY
  go_enter Tryz.func73, Tryz.ntmps73
  go_wp2_with fail
  go_ret
  exact ⟨ret_bool (by rw [Hn.out]; rfl), by have h9 := HW.out; rw [hw2] at h9; exact h9⟩
 subst q1
 by_cases q2 : n2 = k2
 rotate_left
 ·have Hn := hide (same_not (eq := eqBox) (l := l2) (m := m2) (by omega))
  have t2 : ((n2 : Int) != (k2 : Int)) = true := by simp; omega
  clear h1 h2 g1 g2 e1 e2 f1 f2 hB hB' KX KY
  go_enter Tryz.func73, Tryz.ntmps73
  go_wp2_with fail
  go_ret
  exact ⟨ret_bool (by rw [Hn.out]; simp), by have h9 := HW.out; rw [hw2] at h9; exact h9⟩
 subst q2
 have hsS := hide (same_len (eq := eqBox) (l := l1) (m := m1) (by omega))
 have hsV := hide (same_len (eq := eqBox) (l := l2) (m := m2) (by omega))
 have hzS := hide (show (l1.zip m1).length = n1 by rw [List.length_zip]; omega)
 have hzV := hide (show (l2.zip m2).length = n2 by rw [List.length_zip]; omega)
 have hlS := hide e1
 have hlT := hide f1
 have hlV := hide e2
 have hlU := hide f2
 clear h1 h2 g1 g2 e1 e2 f1 f2 hB hB' KX KY
 go_enter Tryz.func73, Tryz.ntmps73
 go_wp2_with fail
 rw [← hw2]
 clear hw2
 go_wp2_with fail
 go_loopw [5] (fun i wr => ∃ k : Nat, k ≤ n1 ∧ i = .int .i64 k ∧ NoneTo (unlike eqBox) (l1.zip m1) k ∧ ∃ d, wr = w2.drewN d) (fun i _ => n1 - (intOf i).toNat)
 case atStart => exact ⟨0, Nat.zero_le _, rfl, NoneTo.zero _ _, 0, rfl⟩
 case round =>
  obtain ⟨k, hk, rfl, hw, d, rfl⟩ := hrel
  by_cases hlt : k < n1
  ·obtain ⟨b, off, x, hA, _, hx, e1, e2, e3, e4, e5, e6⟩ := BoxesAt.get (k := k) HS.out (by rw [← hlS.out]; exact hlt)
   obtain ⟨b2, off2, y, hA', _, hy, f1, f2, f3, f4, f5, f6⟩ := BoxesAt.get (k := k) HT.out (by rw [← hlT.out]; exact hlt)
   rw [hA] at x0
   rw [hA'] at y0
   have Hz := hide (zip_get hx hy)
   have Hw := hide hw
   have hq9 := fun W => box_neq x y W
   obtain ⟨q, hq⟩ : ∃ q, eqBox x y = q := ⟨_, rfl⟩
   rw [hq] at hq9
   have Hq := hide hq
   clear hx hy hw hA hA' hq
   cases q
   ·have Hn := hide (same_no hsS.out Hz.out Hq.out)
    go_wp2_with fail
    go_quiet (fail)
    go_wp2_with fail
    go_ret
    exact ⟨ret_bool (by rw [Hn.out]; simp), drewN_below (HWn.out _) _⟩
   ·go_wp2_with fail
    go_quiet (fail)
    go_wp2_with fail
    go_roundw
    case rel => exact ⟨k + 1, by omega, by go_num, Hw.out.succ Hz.out (by rw [unlike, Hq.out]; rfl), _, rfl⟩
    case measure => simp [intOf]; omega
  ·obtain rfl : k = n1 := by omega
   have HyS := hide (same_yes hsS.out hzS.out hw)
   clear hw
   go_wp2_with fail
   go_loopw [6] (fun i wr => ∃ k : Nat, k ≤ n2 ∧ i = .int .i64 k ∧ NoneTo (unlike eqBox) (l2.zip m2) k ∧ ∃ d, wr = w2.drewN d) (fun i _ => n2 - (intOf i).toNat)
   case atStart => exact ⟨0, Nat.zero_le _, rfl, NoneTo.zero _ _, _, rfl⟩
   case round =>
    obtain ⟨k, hk, rfl, hw, d, rfl⟩ := hrel
    by_cases hlt : k < n2
    ·obtain ⟨b, off, x, hA, _, hx, e1, e2, e3, e4, e5, e6⟩ := BoxesAt.get (k := k) HV.out (by rw [← hlV.out]; exact hlt)
     obtain ⟨b2, off2, y, hA', _, hy, f1, f2, f3, f4, f5, f6⟩ := BoxesAt.get (k := k) HU.out (by rw [← hlU.out]; exact hlt)
     rw [hA] at x1
     rw [hA'] at y1
     have Hz := hide (zip_get hx hy)
     have Hw := hide hw
     have hq9 := fun W => box_neq x y W
     obtain ⟨q, hq⟩ : ∃ q, eqBox x y = q := ⟨_, rfl⟩
     rw [hq] at hq9
     have Hq := hide hq
     clear hx hy hw hA hA' hq
     cases q
     ·have Hn := hide (same_no hsV.out Hz.out Hq.out)
      go_wp2_with fail
      go_quiet (fail)
      go_wp2_with fail
      go_ret
      exact ⟨ret_bool (by rw [Hn.out]; simp), drewN_below (HWn.out _) _⟩
     ·go_wp2_with fail
      go_quiet (fail)
      go_wp2_with fail
      go_roundw
      case rel => exact ⟨k + 1, by omega, by go_num, Hw.out.succ Hz.out (by rw [unlike, Hq.out]; rfl), _, rfl⟩
      case measure => simp [intOf]; omega
    ·obtain rfl : k = n2 := by omega
     have HyV := hide (same_yes hsV.out hzV.out hw)
     clear hw
     go_wp2_with fail
     go_ret
     exact ⟨ret_bool (by rw [HyS.out, HyV.out]; rfl), HWn.out _⟩
end Go.Proofs.YtpaanfjjnjjoeaaGreat
