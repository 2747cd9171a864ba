/- slices.Equal at boxes, runs, laps, steps, numbers: any two lists. -/
import Derived.Test.YtpaanfjjnjjoeaaGreatRQag
import Derived.Test.YtpaanfjjnjjoeaaGreatRQaa
import Derived.Laws.StructEq
namespace Go.Proofs.YtpaanfjjnjjoeaaGreat
open Go.RowKit
theorem zip_get {α : Type} {l m : List α} {k : Nat} {x y : α} (hx : l[k]? = some x) (hy : m[k]? = some y) : (l.zip m)[k]? = some (x, y) := by simp [List.getElem?_zip_eq_some, hx, hy]
theorem same_len {α : Type} {eq : α → α → Bool} {l m : List α} (h : l.length = m.length) : sameL eq l m = !someOf (unlike eq) (l.zip m) := by simp [sameL, h]
theorem same_not {α : Type} {eq : α → α → Bool} {l m : List α} (h : l.length ≠ m.length) : sameL eq l m = false := by simp [sameL, h]
theorem same_yes {α : Type} {eq : α → α → Bool} {l m : List α} {n : Nat} (h : sameL eq l m = !someOf (unlike eq) (l.zip m)) (hn : (l.zip m).length = n) (hw : NoneTo (unlike eq) (l.zip m) n) : sameL eq l m = true := by
 rw [h]
 have : someOf (unlike eq) (l.zip m) = false := by
  rw [someOf, List.any_eq_false]
  intro p hp
  obtain ⟨j, hj, hjp⟩ := List.getElem_of_mem hp
  have := hw j p (by omega) (by rw [List.getElem?_eq_getElem hj, hjp])
  rw [this]
  simp
 rw [this]
 rfl
theorem same_no {α : Type} {eq : α → α → Bool} {l m : List α} {k : Nat} {p : α × α} (h : sameL eq l m = !someOf (unlike eq) (l.zip m)) (hp : (l.zip m)[k]? = some p) (hq : eq p.1 p.2 = false) : sameL eq l m = false := by
 rw [h]
 have : someOf (unlike eq) (l.zip m) = true := by
  rw [someOf, List.any_eq_true]
  exact ⟨p, mem_of_get hp, by rw [unlike, hq]; rfl⟩
 rw [this]
 rfl
theorem waysBox {x1 y1 x2 y2 x3 y3 x4 y4 x5 y5 x6 y6 : Int} : (eqBox ⟨⟨x1, x2, x3⟩, x4, x5, x6⟩ ⟨⟨y1, y2, y3⟩, y4, y5, y6⟩ = true ∧ (x1 == y1) = true ∧ (x2 == y2) = true ∧ (x3 == y3) = true ∧ (x4 == y4) = true ∧ (x5 == y5) = true ∧ (x6 == y6) = true) ∨ (eqBox ⟨⟨x1, x2, x3⟩, x4, x5, x6⟩ ⟨⟨y1, y2, y3⟩, y4, y5, y6⟩ = false ∧ (x1 == y1) = false) ∨ (eqBox ⟨⟨x1, x2, x3⟩, x4, x5, x6⟩ ⟨⟨y1, y2, y3⟩, y4, y5, y6⟩ = false ∧ (x1 == y1) = true ∧ (x2 == y2) = false) ∨ (eqBox ⟨⟨x1, x2, x3⟩, x4, x5, x6⟩ ⟨⟨y1, y2, y3⟩, y4, y5, y6⟩ = false ∧ (x1 == y1) = true ∧ (x2 == y2) = true ∧ (x3 == y3) = false) ∨ (eqBox ⟨⟨x1, x2, x3⟩, x4, x5, x6⟩ ⟨⟨y1, y2, y3⟩, y4, y5, y6⟩ = false ∧ (x1 == y1) = true ∧ (x2 == y2) = true ∧ (x3 == y3) = true ∧ (x4 == y4) = false) ∨ (eqBox ⟨⟨x1, x2, x3⟩, x4, x5, x6⟩ ⟨⟨y1, y2, y3⟩, y4, y5, y6⟩ = false ∧ (x1 == y1) = true ∧ (x2 == y2) = true ∧ (x3 == y3) = true ∧ (x4 == y4) = true ∧ (x5 == y5) = false) ∨ (eqBox ⟨⟨x1, x2, x3⟩, x4, x5, x6⟩ ⟨⟨y1, y2, y3⟩, y4, y5, y6⟩ = false ∧ (x1 == y1) = true ∧ (x2 == y2) = true ∧ (x3 == y3) = true ∧ (x4 == y4) = true ∧ (x5 == y5) = true ∧ (x6 == y6) = false) := by
 simp only [eqBox, eqPt]
 cases (x1 == y1) <;> cases (x2 == y2) <;> cases (x3 == y3) <;> cases (x4 == y4) <;> cases (x5 == y5) <;> cases (x6 == y6) <;> simp
set_option maxHeartbeats 8000000 in
theorem equalBox_any (A A' : Option Addr) (l m : List BoxD) (n n' c c' : Nat) (w : World) {B B' : Nat} (h : BoxesAt w B A l) (h' : BoxesAt w B' A' m) (hn : n = l.length) (hn' : n' = m.length) (hm : n ≤ 300000) (hm' : n' ≤ 300000) :
  Calls Tryz.prog 68 #[.slice A n c, .slice A' n' c'] w fun e w' => e = .returned (.bool (sameL eqBox l m)) ∧ Below w.heap.size w w' := by
 by_cases hnn : n = n'
 ·subst hnn
  have hs := hide (same_len (eq := eqBox) (l := l) (m := m) (by omega))
  have hz := hide (show (l.zip m).length = n by rw [List.length_zip]; omega)
  have hn1 := hide hn
  have hn2 := hide hn'
  have Hs := hide h
  have Hs2 := hide h'
  clear h h' hn hn'
  go_enter Tryz.func68, Tryz.ntmps68
  go_wp2_with fail
  go_loopw [13] (fun i wr => ∃ k : Nat, k ≤ n ∧ i = .int .i64 k ∧ NoneTo (unlike eqBox) (l.zip m) k ∧ ∃ d, wr = w.drewN d) (fun i _ => n - (intOf i).toNat)
  case atStart => exact ⟨0, Nat.zero_le _, rfl, NoneTo.zero _ _, 0, rfl⟩
  case round =>
   obtain ⟨k, hk, rfl, hw, d, rfl⟩ := hrel
   by_cases hlt : k < n
   ·obtain ⟨b, off, x, rfl, _, hx, e1, e2, e3, e4, e5, e6⟩ := BoxesAt.get (k := k) Hs.out (by rw [← hn1.out]; exact hlt)
    obtain ⟨b2, off2, y, rfl, _, hy, g1, g2, g3, g4, g5, g6⟩ := BoxesAt.get (k := k) Hs2.out (by rw [← hn2.out]; exact hlt)
    have Hz := hide (zip_get hx hy)
    obtain ⟨⟨x1, x2, x3⟩, x4, x5, x6⟩ := x
    obtain ⟨⟨y1, y2, y3⟩, y4, y5, y6⟩ := y
    have hsz := hw
    clear hx hy hw
    have Hw := hide hsz
    clear hsz
    rcases @waysBox x1 y1 x2 y2 x3 y3 x4 y4 x5 y5 x6 y6 with ⟨hq, q1, q2, q3, q4, q5, q6⟩ | ⟨hq, q1⟩ | ⟨hq, q1, q2⟩ | ⟨hq, q1, q2, q3⟩ | ⟨hq, q1, q2, q3, q4⟩ | ⟨hq, q1, q2, q3, q4, q5⟩ | ⟨hq, q1, q2, q3, q4, q5, q6⟩
    ·have Hq := hide hq
     clear hq
     go_wp2_with fail
     go_quiet (fail)
     go_wp2_with fail
     go_roundw
     case rel => exact ⟨k + 1, by omega, by go_num, Hw.out.succ Hz.out (by rw [unlike, Hq.out]; rfl), _, rfl⟩
     case measure => simp [intOf]; omega
    all_goals
     have Hq := hide (same_no hs.out Hz.out hq)
     clear hq
     go_wp2_with fail
     go_quiet (fail)
     go_wp2_with fail
     go_ret
     exact ⟨ret_bool Hq.out.symm, ⟨rfl, rfl, rfl, Nat.le_refl _, fun _ _ => rfl⟩⟩
   ·obtain rfl : k = n := by omega
    have Hq := hide (same_yes hs.out hz.out hw)
    clear hw
    go_wp2_with fail
    go_ret
    exact ⟨ret_bool Hq.out.symm, ⟨rfl, rfl, rfl, Nat.le_refl _, fun _ _ => rfl⟩⟩
 ·have Hq := hide (same_not (eq := eqBox) (l := l) (m := m) (by omega))
  have t : ((n : Int) != (n' : Int)) = true := by simp; omega
  clear h h' hn hn'
  go_enter Tryz.func68, Tryz.ntmps68
  go_wp2_with fail
  go_ret
  exact ⟨ret_bool Hq.out.symm, Below.refl _ _⟩
theorem waysRun {x2 y2 x3 y3 x4 y4 x5 y5 x6 y6 x7 y7 x8 y8 x9 y9 x10 y10 : Int} {x1 y1 : ByteArray} : (eqRun ⟨x1, x2, x3, ⟨x4, x5, x6⟩, ⟨x7, x8, x9⟩, x10⟩ ⟨y1, y2, y3, ⟨y4, y5, y6⟩, ⟨y7, y8, y9⟩, y10⟩ = true ∧ (x1.toList == y1.toList) = true ∧ (x2 == y2) = true ∧ (x3 == y3) = true ∧ (x4 == y4) = true ∧ (x5 == y5) = true ∧ (x6 == y6) = true ∧ (x7 == y7) = true ∧ (x8 == y8) = true ∧ (x9 == y9) = true ∧ (x10 == y10) = true) ∨ (eqRun ⟨x1, x2, x3, ⟨x4, x5, x6⟩, ⟨x7, x8, x9⟩, x10⟩ ⟨y1, y2, y3, ⟨y4, y5, y6⟩, ⟨y7, y8, y9⟩, y10⟩ = false ∧ (x1.toList == y1.toList) = false) ∨ (eqRun ⟨x1, x2, x3, ⟨x4, x5, x6⟩, ⟨x7, x8, x9⟩, x10⟩ ⟨y1, y2, y3, ⟨y4, y5, y6⟩, ⟨y7, y8, y9⟩, y10⟩ = false ∧ (x1.toList == y1.toList) = true ∧ (x2 == y2) = false) ∨ (eqRun ⟨x1, x2, x3, ⟨x4, x5, x6⟩, ⟨x7, x8, x9⟩, x10⟩ ⟨y1, y2, y3, ⟨y4, y5, y6⟩, ⟨y7, y8, y9⟩, y10⟩ = false ∧ (x1.toList == y1.toList) = true ∧ (x2 == y2) = true ∧ (x3 == y3) = false) ∨ (eqRun ⟨x1, x2, x3, ⟨x4, x5, x6⟩, ⟨x7, x8, x9⟩, x10⟩ ⟨y1, y2, y3, ⟨y4, y5, y6⟩, ⟨y7, y8, y9⟩, y10⟩ = false ∧ (x1.toList == y1.toList) = true ∧ (x2 == y2) = true ∧ (x3 == y3) = true ∧ (x4 == y4) = false) ∨ (eqRun ⟨x1, x2, x3, ⟨x4, x5, x6⟩, ⟨x7, x8, x9⟩, x10⟩ ⟨y1, y2, y3, ⟨y4, y5, y6⟩, ⟨y7, y8, y9⟩, y10⟩ = false ∧ (x1.toList == y1.toList) = true ∧ (x2 == y2) = true ∧ (x3 == y3) = true ∧ (x4 == y4) = true ∧ (x5 == y5) = false) ∨ (eqRun ⟨x1, x2, x3, ⟨x4, x5, x6⟩, ⟨x7, x8, x9⟩, x10⟩ ⟨y1, y2, y3, ⟨y4, y5, y6⟩, ⟨y7, y8, y9⟩, y10⟩ = false ∧ (x1.toList == y1.toList) = true ∧ (x2 == y2) = true ∧ (x3 == y3) = true ∧ (x4 == y4) = true ∧ (x5 == y5) = true ∧ (x6 == y6) = false) ∨ (eqRun ⟨x1, x2, x3, ⟨x4, x5, x6⟩, ⟨x7, x8, x9⟩, x10⟩ ⟨y1, y2, y3, ⟨y4, y5, y6⟩, ⟨y7, y8, y9⟩, y10⟩ = false ∧ (x1.toList == y1.toList) = true ∧ (x2 == y2) = true ∧ (x3 == y3) = true ∧ (x4 == y4) = true ∧ (x5 == y5) = true ∧ (x6 == y6) = true ∧ (x7 == y7) = false) ∨ (eqRun ⟨x1, x2, x3, ⟨x4, x5, x6⟩, ⟨x7, x8, x9⟩, x10⟩ ⟨y1, y2, y3, ⟨y4, y5, y6⟩, ⟨y7, y8, y9⟩, y10⟩ = false ∧ (x1.toList == y1.toList) = true ∧ (x2 == y2) = true ∧ (x3 == y3) = true ∧ (x4 == y4) = true ∧ (x5 == y5) = true ∧ (x6 == y6) = true ∧ (x7 == y7) = true ∧ (x8 == y8) = false) ∨ (eqRun ⟨x1, x2, x3, ⟨x4, x5, x6⟩, ⟨x7, x8, x9⟩, x10⟩ ⟨y1, y2, y3, ⟨y4, y5, y6⟩, ⟨y7, y8, y9⟩, y10⟩ = false ∧ (x1.toList == y1.toList) = true ∧ (x2 == y2) = true ∧ (x3 == y3) = true ∧ (x4 == y4) = true ∧ (x5 == y5) = true ∧ (x6 == y6) = true ∧ (x7 == y7) = true ∧ (x8 == y8) = true ∧ (x9 == y9) = false) ∨ (eqRun ⟨x1, x2, x3, ⟨x4, x5, x6⟩, ⟨x7, x8, x9⟩, x10⟩ ⟨y1, y2, y3, ⟨y4, y5, y6⟩, ⟨y7, y8, y9⟩, y10⟩ = false ∧ (x1.toList == y1.toList) = true ∧ (x2 == y2) = true ∧ (x3 == y3) = true ∧ (x4 == y4) = true ∧ (x5 == y5) = true ∧ (x6 == y6) = true ∧ (x7 == y7) = true ∧ (x8 == y8) = true ∧ (x9 == y9) = true ∧ (x10 == y10) = false) := by
 simp only [eqRun, eqPt, eqName]
 cases (x1.toList == y1.toList) <;> cases (x2 == y2) <;> cases (x3 == y3) <;> cases (x4 == y4) <;> cases (x5 == y5) <;> cases (x6 == y6) <;> cases (x7 == y7) <;> cases (x8 == y8) <;> cases (x9 == y9) <;> cases (x10 == y10) <;> simp
set_option maxHeartbeats 8000000 in
theorem equalRun_any (A A' : Option Addr) (l m : List RunD) (n n' c c' : Nat) (w : World) {B B' : Nat} (h : RunsAt w B A l) (h' : RunsAt w B' A' m) (hn : n = l.length) (hn' : n' = m.length) (hm : n ≤ 300000) (hm' : n' ≤ 300000) :
  Calls Tryz.prog 70 #[.slice A n c, .slice A' n' c'] w fun e w' => e = .returned (.bool (sameL eqRun l m)) ∧ Below w.heap.size w w' := by
 by_cases hnn : n = n'
 ·subst hnn
  have hs := hide (same_len (eq := eqRun) (l := l) (m := m) (by omega))
  have hz := hide (show (l.zip m).length = n by rw [List.length_zip]; omega)
  have hn1 := hide hn
  have hn2 := hide hn'
  have Hs := hide h
  have Hs2 := hide h'
  clear h h' hn hn'
  go_enter Tryz.func70, Tryz.ntmps70
  go_wp2_with fail
  go_loopw [13] (fun i wr => ∃ k : Nat, k ≤ n ∧ i = .int .i64 k ∧ NoneTo (unlike eqRun) (l.zip m) k ∧ ∃ d, wr = w.drewN d) (fun i _ => n - (intOf i).toNat)
  case atStart => exact ⟨0, Nat.zero_le _, rfl, NoneTo.zero _ _, 0, rfl⟩
  case round =>
   obtain ⟨k, hk, rfl, hw, d, rfl⟩ := hrel
   by_cases hlt : k < n
   ·obtain ⟨b, off, x, rfl, _, hx, ce⟩ := RunsAt.get (k := k) Hs.out (by rw [← hn1.out]; exact hlt)
    obtain ⟨b2, off2, y, rfl, _, hy, cg⟩ := RunsAt.get (k := k) Hs2.out (by rw [← hn2.out]; exact hlt)
    have Hz := hide (zip_get hx hy)
    have e1 := ce 0 _ rfl
    have g1 := cg 0 _ rfl
    have e2 := ce 1 _ rfl
    have g2 := cg 1 _ rfl
    have e3 := ce 2 _ rfl
    have g3 := cg 2 _ rfl
    have e4 := ce 3 _ rfl
    have g4 := cg 3 _ rfl
    have e5 := ce 4 _ rfl
    have g5 := cg 4 _ rfl
    have e6 := ce 5 _ rfl
    have g6 := cg 5 _ rfl
    have e7 := ce 6 _ rfl
    have g7 := cg 6 _ rfl
    have e8 := ce 7 _ rfl
    have g8 := cg 7 _ rfl
    have e9 := ce 8 _ rfl
    have g9 := cg 8 _ rfl
    have e10 := ce 9 _ rfl
    have g10 := cg 9 _ rfl
    simp only [Nat.add_zero] at e1 g1 e2 g2 e3 g3 e4 g4 e5 g5 e6 g6 e7 g7 e8 g8 e9 g9 e10 g10
    clear ce cg
    obtain ⟨x1, x2, x3, ⟨x4, x5, x6⟩, ⟨x7, x8, x9⟩, x10⟩ := x
    obtain ⟨y1, y2, y3, ⟨y4, y5, y6⟩, ⟨y7, y8, y9⟩, y10⟩ := y
    have hsz := hw
    clear hx hy hw
    have Hw := hide hsz
    clear hsz
    rcases @waysRun x2 y2 x3 y3 x4 y4 x5 y5 x6 y6 x7 y7 x8 y8 x9 y9 x10 y10 x1 y1 with ⟨hq, q1, q2, q3, q4, q5, q6, q7, q8, q9, q10⟩ | ⟨hq, q1⟩ | ⟨hq, q1, q2⟩ | ⟨hq, q1, q2, q3⟩ | ⟨hq, q1, q2, q3, q4⟩ | ⟨hq, q1, q2, q3, q4, q5⟩ | ⟨hq, q1, q2, q3, q4, q5, q6⟩ | ⟨hq, q1, q2, q3, q4, q5, q6, q7⟩ | ⟨hq, q1, q2, q3, q4, q5, q6, q7, q8⟩ | ⟨hq, q1, q2, q3, q4, q5, q6, q7, q8, q9⟩ | ⟨hq, q1, q2, q3, q4, q5, q6, q7, q8, q9, q10⟩
    ·have Hq := hide hq
     clear hq
     go_wp2_with fail
     go_quiet (fail)
     go_wp2_with fail
     go_roundw
     case rel => exact ⟨k + 1, by omega, by go_num, Hw.out.succ Hz.out (by rw [unlike, Hq.out]; rfl), _, rfl⟩
     case measure => simp [intOf]; omega
    all_goals
     have Hq := hide (same_no hs.out Hz.out hq)
     clear hq
     go_wp2_with fail
     go_quiet (fail)
     go_wp2_with fail
     go_ret
     exact ⟨ret_bool Hq.out.symm, ⟨rfl, rfl, rfl, Nat.le_refl _, fun _ _ => rfl⟩⟩
   ·obtain rfl : k = n := by omega
    have Hq := hide (same_yes hs.out hz.out hw)
    clear hw
    go_wp2_with fail
    go_ret
    exact ⟨ret_bool Hq.out.symm, ⟨rfl, rfl, rfl, Nat.le_refl _, fun _ _ => rfl⟩⟩
 ·have Hq := hide (same_not (eq := eqRun) (l := l) (m := m) (by omega))
  have t : ((n : Int) != (n' : Int)) = true := by simp; omega
  clear h h' hn hn'
  go_enter Tryz.func70, Tryz.ntmps70
  go_wp2_with fail
  go_ret
  exact ⟨ret_bool Hq.out.symm, Below.refl _ _⟩
theorem waysJoin {x1 y1 x2 y2 : Int} : (eqJoin ⟨x1, x2⟩ ⟨y1, y2⟩ = true ∧ (x1 == y1) = true ∧ (x2 == y2) = true) ∨ (eqJoin ⟨x1, x2⟩ ⟨y1, y2⟩ = false ∧ (x1 == y1) = false) ∨ (eqJoin ⟨x1, x2⟩ ⟨y1, y2⟩ = false ∧ (x1 == y1) = true ∧ (x2 == y2) = false) := by
 simp only [eqJoin]
 cases (x1 == y1) <;> cases (x2 == y2) <;> simp
set_option maxHeartbeats 8000000 in
theorem equalJoin_any (A A' : Option Addr) (l m : List JoinD) (n n' c c' : Nat) (w : World) {B B' : Nat} (h : JoinsAt w B A l) (h' : JoinsAt w B' A' m) (hn : n = l.length) (hn' : n' = m.length) (hm : n ≤ 300000) (hm' : n' ≤ 300000) :
  Calls Tryz.prog 71 #[.slice A n c, .slice A' n' c'] w fun e w' => e = .returned (.bool (sameL eqJoin l m)) ∧ Below w.heap.size w w' := by
 by_cases hnn : n = n'
 ·subst hnn
  have hs := hide (same_len (eq := eqJoin) (l := l) (m := m) (by omega))
  have hz := hide (show (l.zip m).length = n by rw [List.length_zip]; omega)
  have hn1 := hide hn
  have hn2 := hide hn'
  have Hs := hide h
  have Hs2 := hide h'
  clear h h' hn hn'
  go_enter Tryz.func71, Tryz.ntmps71
  go_wp2_with fail
  go_loopw [13] (fun i wr => ∃ k : Nat, k ≤ n ∧ i = .int .i64 k ∧ NoneTo (unlike eqJoin) (l.zip m) k ∧ ∃ d, wr = w.drewN d) (fun i _ => n - (intOf i).toNat)
  case atStart => exact ⟨0, Nat.zero_le _, rfl, NoneTo.zero _ _, 0, rfl⟩
  case round =>
   obtain ⟨k, hk, rfl, hw, d, rfl⟩ := hrel
   by_cases hlt : k < n
   ·obtain ⟨b, off, x, rfl, _, hx, e1, e2⟩ := JoinsAt.get (k := k) Hs.out (by rw [← hn1.out]; exact hlt)
    obtain ⟨b2, off2, y, rfl, _, hy, g1, g2⟩ := JoinsAt.get (k := k) Hs2.out (by rw [← hn2.out]; exact hlt)
    have Hz := hide (zip_get hx hy)
    obtain ⟨x1, x2⟩ := x
    obtain ⟨y1, y2⟩ := y
    have hsz := hw
    clear hx hy hw
    have Hw := hide hsz
    clear hsz
    rcases @waysJoin x1 y1 x2 y2 with ⟨hq, q1, q2⟩ | ⟨hq, q1⟩ | ⟨hq, q1, q2⟩
    ·have Hq := hide hq
     clear hq
     go_wp2_with fail
     go_quiet (fail)
     go_wp2_with fail
     go_roundw
     case rel => exact ⟨k + 1, by omega, by go_num, Hw.out.succ Hz.out (by rw [unlike, Hq.out]; rfl), _, rfl⟩
     case measure => simp [intOf]; omega
    all_goals
     have Hq := hide (same_no hs.out Hz.out hq)
     clear hq
     go_wp2_with fail
     go_quiet (fail)
     go_wp2_with fail
     go_ret
     exact ⟨ret_bool Hq.out.symm, ⟨rfl, rfl, rfl, Nat.le_refl _, fun _ _ => rfl⟩⟩
   ·obtain rfl : k = n := by omega
    have Hq := hide (same_yes hs.out hz.out hw)
    clear hw
    go_wp2_with fail
    go_ret
    exact ⟨ret_bool Hq.out.symm, ⟨rfl, rfl, rfl, Nat.le_refl _, fun _ _ => rfl⟩⟩
 ·have Hq := hide (same_not (eq := eqJoin) (l := l) (m := m) (by omega))
  have t : ((n : Int) != (n' : Int)) = true := by simp; omega
  clear h h' hn hn'
  go_enter Tryz.func71, Tryz.ntmps71
  go_wp2_with fail
  go_ret
  exact ⟨ret_bool Hq.out.symm, Below.refl _ _⟩
theorem waysStp {x1 y1 x2 y2 : Int} : (eqStp ⟨x1, x2⟩ ⟨y1, y2⟩ = true ∧ (x1 == y1) = true ∧ (x2 == y2) = true) ∨ (eqStp ⟨x1, x2⟩ ⟨y1, y2⟩ = false ∧ (x1 == y1) = false) ∨ (eqStp ⟨x1, x2⟩ ⟨y1, y2⟩ = false ∧ (x1 == y1) = true ∧ (x2 == y2) = false) := by
 simp only [eqStp]
 cases (x1 == y1) <;> cases (x2 == y2) <;> simp
set_option maxHeartbeats 8000000 in
theorem equalStp_any (A A' : Option Addr) (l m : List (Int × Int)) (n n' c c' : Nat) (w : World) {B B' : Nat} (h : StpsAt w B A l) (h' : StpsAt w B' A' m) (hn : n = l.length) (hn' : n' = m.length) (hm : n ≤ 300000) (hm' : n' ≤ 300000) :
  Calls Tryz.prog 67 #[.slice A n c, .slice A' n' c'] w fun e w' => e = .returned (.bool (sameL eqStp l m)) ∧ Below w.heap.size w w' := by
 by_cases hnn : n = n'
 ·subst hnn
  have hs := hide (same_len (eq := eqStp) (l := l) (m := m) (by omega))
  have hz := hide (show (l.zip m).length = n by rw [List.length_zip]; omega)
  have hn1 := hide hn
  have hn2 := hide hn'
  have Hs := hide h
  have Hs2 := hide h'
  clear h h' hn hn'
  go_enter Tryz.func67, Tryz.ntmps67
  go_wp2_with fail
  go_loopw [13] (fun i wr => ∃ k : Nat, k ≤ n ∧ i = .int .i64 k ∧ NoneTo (unlike eqStp) (l.zip m) k ∧ ∃ d, wr = w.drewN d) (fun i _ => n - (intOf i).toNat)
  case atStart => exact ⟨0, Nat.zero_le _, rfl, NoneTo.zero _ _, 0, rfl⟩
  case round =>
   obtain ⟨k, hk, rfl, hw, d, rfl⟩ := hrel
   by_cases hlt : k < n
   ·obtain ⟨b, off, x, rfl, _, hx, e1, e2⟩ := StpsAt.get (k := k) Hs.out (by rw [← hn1.out]; exact hlt)
    obtain ⟨b2, off2, y, rfl, _, hy, g1, g2⟩ := StpsAt.get (k := k) Hs2.out (by rw [← hn2.out]; exact hlt)
    have Hz := hide (zip_get hx hy)
    obtain ⟨x1, x2⟩ := x
    obtain ⟨y1, y2⟩ := y
    have hsz := hw
    clear hx hy hw
    have Hw := hide hsz
    clear hsz
    rcases @waysStp x1 y1 x2 y2 with ⟨hq, q1, q2⟩ | ⟨hq, q1⟩ | ⟨hq, q1, q2⟩
    ·have Hq := hide hq
     clear hq
     go_wp2_with fail
     go_quiet (fail)
     go_wp2_with fail
     go_roundw
     case rel => exact ⟨k + 1, by omega, by go_num, Hw.out.succ Hz.out (by rw [unlike, Hq.out]; rfl), _, rfl⟩
     case measure => simp [intOf]; omega
    all_goals
     have Hq := hide (same_no hs.out Hz.out hq)
     clear hq
     go_wp2_with fail
     go_quiet (fail)
     go_wp2_with fail
     go_ret
     exact ⟨ret_bool Hq.out.symm, ⟨rfl, rfl, rfl, Nat.le_refl _, fun _ _ => rfl⟩⟩
   ·obtain rfl : k = n := by omega
    have Hq := hide (same_yes hs.out hz.out hw)
    clear hw
    go_wp2_with fail
    go_ret
    exact ⟨ret_bool Hq.out.symm, ⟨rfl, rfl, rfl, Nat.le_refl _, fun _ _ => rfl⟩⟩
 ·have Hq := hide (same_not (eq := eqStp) (l := l) (m := m) (by omega))
  have t : ((n : Int) != (n' : Int)) = true := by simp; omega
  clear h h' hn hn'
  go_enter Tryz.func67, Tryz.ntmps67
  go_wp2_with fail
  go_ret
  exact ⟨ret_bool Hq.out.symm, Below.refl _ _⟩
theorem waysNum {x1 y1 : Int} : (eqInt x1 y1 = true ∧ (x1 == y1) = true) ∨ (eqInt x1 y1 = false ∧ (x1 == y1) = false) := by
 simp only [eqInt]
 cases (x1 == y1) <;> simp
set_option maxHeartbeats 8000000 in
theorem equalNum_any (A A' : Option Addr) (l m : List Int) (n n' c c' : Nat) (w : World) {B B' : Nat} (h : Ints w B A l) (h' : Ints w B' A' m) (hn : n = l.length) (hn' : n' = m.length) (hm : n ≤ 300000) (hm' : n' ≤ 300000) :
  Calls Tryz.prog 65 #[.slice A n c, .slice A' n' c'] w fun e w' => e = .returned (.bool (sameL eqInt l m)) ∧ Below w.heap.size w w' := by
 by_cases hnn : n = n'
 ·subst hnn
  have hs := hide (same_len (eq := eqInt) (l := l) (m := m) (by omega))
  have hz := hide (show (l.zip m).length = n by rw [List.length_zip]; omega)
  have hn1 := hide hn
  have hn2 := hide hn'
  have Hs := hide h
  have Hs2 := hide h'
  clear h h' hn hn'
  go_enter Tryz.func65, Tryz.ntmps65
  go_wp2_with fail
  go_loopw [13] (fun i wr => ∃ k : Nat, k ≤ n ∧ i = .int .i64 k ∧ NoneTo (unlike eqInt) (l.zip m) k ∧ ∃ d, wr = w.drewN d) (fun i _ => n - (intOf i).toNat)
  case atStart => exact ⟨0, Nat.zero_le _, rfl, NoneTo.zero _ _, 0, rfl⟩
  case round =>
   obtain ⟨k, hk, rfl, hw, d, rfl⟩ := hrel
   by_cases hlt : k < n
   ·obtain ⟨b, off, x1, rfl, _, hx, e1⟩ := Ints.get (k := k) Hs.out (by rw [← hn1.out]; exact hlt)
    obtain ⟨b2, off2, y1, rfl, _, hy, g1⟩ := Ints.get (k := k) Hs2.out (by rw [← hn2.out]; exact hlt)
    have Hz := hide (zip_get hx hy)
    have hsz := hw
    clear hx hy hw
    have Hw := hide hsz
    clear hsz
    rcases @waysNum x1 y1 with ⟨hq, q1⟩ | ⟨hq, q1⟩
    ·have Hq := hide hq
     clear hq
     go_wp2_with fail
     go_quiet (fail)
     go_wp2_with fail
     go_roundw
     case rel => exact ⟨k + 1, by omega, by go_num, Hw.out.succ Hz.out (by rw [unlike, Hq.out]; rfl), _, rfl⟩
     case measure => simp [intOf]; omega
    all_goals
     have Hq := hide (same_no hs.out Hz.out hq)
     clear hq
     go_wp2_with fail
     go_quiet (fail)
     go_wp2_with fail
     go_ret
     exact ⟨ret_bool Hq.out.symm, ⟨rfl, rfl, rfl, Nat.le_refl _, fun _ _ => rfl⟩⟩
   ·obtain rfl : k = n := by omega
    have Hq := hide (same_yes hs.out hz.out hw)
    clear hw
    go_wp2_with fail
    go_ret
    exact ⟨ret_bool Hq.out.symm, ⟨rfl, rfl, rfl, Nat.le_refl _, fun _ _ => rfl⟩⟩
 ·have Hq := hide (same_not (eq := eqInt) (l := l) (m := m) (by omega))
  have t : ((n : Int) != (n' : Int)) = true := by simp; omega
  clear h h' hn hn'
  go_enter Tryz.func65, Tryz.ntmps65
  go_wp2_with fail
  go_ret
  exact ⟨ret_bool Hq.out.symm, Below.refl _ _⟩
end Go.Proofs.YtpaanfjjnjjoeaaGreat
