/- slices.Equal at boxes, runs, laps, steps, numbers: any two lists. -/
import Derived.Test.YtpaanfjjnjjoeaaGreatSad
import Derived.Laws.StructEq
set_option maxHeartbeats 8000000
set_option maxRecDepth 100000
namespace Go.Proofs.YtpaanfjjnjjoeaaGreat
open Go.RowKit
theorem zfP {α : Type} {l m : List α} {k : Nat} {x y : α} (hx : l[k]? = some x) (hy : m[k]? = some y) : (l.zip m)[k]? = some (x, y) := by simp [List.getElem?_zip_eq_some, hx, hy]
theorem ze6 {α : Type} {eq : α → α → Bool} {l m : List α} (h : l.length = m.length) : za8 eq l m = !za5 (zbX eq) (l.zip m) := by simp [za8, h]
theorem ze5 {α : Type} {eq : α → α → Bool} {l m : List α} (h : l.length ≠ m.length) : za8 eq l m = false := by simp [za8, h]
theorem ze4 {α : Type} {eq : α → α → Bool} {l m : List α} {n : Nat} (h : za8 eq l m = !za5 (zbX eq) (l.zip m)) (hn : (l.zip m).length = n) (hw : NoneTo (zbX eq) (l.zip m) n) : za8 eq l m = true := by
 rw [h];have : za5 (zbX eq) (l.zip m) = false := by
  rw [za5, List.any_eq_false];intro p hp;obtain ⟨j, hj, hjp⟩ := List.getElem_of_mem hp;have := hw j p (by omega) (by rw [zi hj, hjp]);rw [this];simp
 rw [this]
 rfl
theorem zfS {α : Type} {eq : α → α → Bool} {l m : List α} {k : Nat} {p : α × α} (h : za8 eq l m = !za5 (zbX eq) (l.zip m)) (hp : (l.zip m)[k]? = some p) (hq : eq p.1 p.2 = false) : za8 eq l m = false := by
 rw [h];have : za5 (zbX eq) (l.zip m) = true := by
  rw [za5, List.any_eq_true];exact ⟨p, zv hp, by rw [zbX, hq]; rfl⟩
 rw [this]
 rfl
theorem zs6 {x1 y1 x2 y2 x3 y3 x4 y4 x5 y5 x6 y6 : Int} : (zcu ⟨⟨x1, x2, x3⟩, x4, x5, x6⟩ ⟨⟨y1, y2, y3⟩, y4, y5, y6⟩ = true ∧ (x1 == y1) = true ∧ (x2 == y2) = true ∧ (x3 == y3) = true ∧ (x4 == y4) = true ∧ (x5 == y5) = true ∧ (x6 == y6) = true) ∨ (zcu ⟨⟨x1, x2, x3⟩, x4, x5, x6⟩ ⟨⟨y1, y2, y3⟩, y4, y5, y6⟩ = false ∧ (x1 == y1) = false) ∨ (zcu ⟨⟨x1, x2, x3⟩, x4, x5, x6⟩ ⟨⟨y1, y2, y3⟩, y4, y5, y6⟩ = false ∧ (x1 == y1) = true ∧ (x2 == y2) = false) ∨ (zcu ⟨⟨x1, x2, x3⟩, x4, x5, x6⟩ ⟨⟨y1, y2, y3⟩, y4, y5, y6⟩ = false ∧ (x1 == y1) = true ∧ (x2 == y2) = true ∧ (x3 == y3) = false) ∨ (zcu ⟨⟨x1, x2, x3⟩, x4, x5, x6⟩ ⟨⟨y1, y2, y3⟩, y4, y5, y6⟩ = false ∧ (x1 == y1) = true ∧ (x2 == y2) = true ∧ (x3 == y3) = true ∧ (x4 == y4) = false) ∨ (zcu ⟨⟨x1, x2, x3⟩, x4, x5, x6⟩ ⟨⟨y1, y2, y3⟩, y4, y5, y6⟩ = false ∧ (x1 == y1) = true ∧ (x2 == y2) = true ∧ (x3 == y3) = true ∧ (x4 == y4) = true ∧ (x5 == y5) = false) ∨ (zcu ⟨⟨x1, x2, x3⟩, x4, x5, x6⟩ ⟨⟨y1, y2, y3⟩, y4, y5, y6⟩ = false ∧ (x1 == y1) = true ∧ (x2 == y2) = true ∧ (x3 == y3) = true ∧ (x4 == y4) = true ∧ (x5 == y5) = true ∧ (x6 == y6) = false) := by
 simp only [zcu, zlr];cases (x1 == y1) <;> cases (x2 == y2) <;> cases (x3 == y3) <;> cases (x4 == y4) <;> cases (x5 == y5) <;> cases (x6 == y6) <;> simp
theorem zhY (A A' : Option Addr) (l m : List BoxD) (n n' c c' : Nat) (w : World) {B B' : Nat} (h : BoxesAt w B A l) (h' : BoxesAt w B' A' m) (hn : n = l.length) (hn' : n' = m.length) (hm : n ≤ 300000) (hm' : n' ≤ 300000) :
  Calls Tryz.prog 68 #[.slice A n c, .slice A' n' c'] w fun e w' => e = .returned (.bool (za8 zcu l m)) ∧ Below w.heap.size w w' := by
 by_cases hnn : n = n'
 ·subst hnn;have hs := zf (ze6 (eq := zcu) (l := l) (m := m) (by omega));have hz := zf (show (l.zip m).length = n by rw [List.length_zip]; omega);have hn1 := zf hn;have hn2 := zf hn';have Hs := zf h;have Hs2 := zf h';clear h h' hn hn';go_enter Tryz.func68, Tryz.ntmps68;go_wp2;go_loopw [13] (fun i wr => ∃ k : Nat, k ≤ n ∧ i = .int .i64 k ∧ NoneTo (zbX zcu) (l.zip m) k ∧ ∃ d, wr = w.drewN d) (fun i _ => n - (intOf i).toNat)
  case atStart => exact ⟨0, zu _, rfl, NoneTo.zero _ _, 0, rfl⟩
  case round =>
   obtain ⟨k, hk, rfl, hw, d, rfl⟩ := hrel;by_cases hlt : k < n
   ·obtain ⟨b, off, x, rfl, _, hx, e1, e2, e3, e4, e5, e6⟩ := BoxesAt.get (k := k) Hs.out (by rw [← hn1.out]; exact hlt);obtain ⟨b2, off2, y, rfl, _, hy, g1, g2, g3, g4, g5, g6⟩ := BoxesAt.get (k := k) Hs2.out (by rw [← hn2.out]; exact hlt);have Hz := zf (zfP hx hy);obtain ⟨⟨x1, x2, x3⟩, x4, x5, x6⟩ := x;obtain ⟨⟨y1, y2, y3⟩, y4, y5, y6⟩ := y;have hsz := hw;clear hx hy hw;have Hw := zf hsz;clear hsz;rcases @zs6 x1 y1 x2 y2 x3 y3 x4 y4 x5 y5 x6 y6 with ⟨hq, q1, q2, q3, q4, q5, q6⟩ | ⟨hq, q1⟩ | ⟨hq, q1, q2⟩ | ⟨hq, q1, q2, q3⟩ | ⟨hq, q1, q2, q3, q4⟩ | ⟨hq, q1, q2, q3, q4, q5⟩ | ⟨hq, q1, q2, q3, q4, q5, q6⟩
    ·have Hq := zf hq;clear hq;go_wp2_with fail;go_quiet (fail)
     go_wp2;go_roundw
     case rel => exact ⟨k + 1, by omega, by go_num, Hw.out.succ Hz.out (by rw [zbX, Hq.out]; rfl), _, rfl⟩
     case measure => simp [intOf]; omega
    all_goals
     have Hq := zf (zfS hs.out Hz.out hq);clear hq;go_wp2_with fail;go_quiet (fail)
     go_wp2;go_ret;exact ⟨zo Hq.out.symm, ⟨rfl, rfl, rfl, ze _, fun _ _ => rfl⟩⟩
   ·obtain rfl : k = n := by omega
    have Hq := zf (ze4 hs.out hz.out hw);clear hw;go_wp2;go_ret;exact ⟨zo Hq.out.symm, ⟨rfl, rfl, rfl, ze _, fun _ _ => rfl⟩⟩
 ·have Hq := zf (ze5 (eq := zcu) (l := l) (m := m) (by omega));have t : ((n : Int) != (n' : Int)) = true := by simp; omega
  clear h h' hn hn';go_enter Tryz.func68, Tryz.ntmps68;go_wp2;go_ret;exact ⟨zo Hq.out.symm, Below.refl _ _⟩
theorem zs4 {x2 y2 x3 y3 x4 y4 x5 y5 x6 y6 x7 y7 x8 y8 x9 y9 x10 y10 : Int} {x1 y1 : ByteArray} : (zdk ⟨x1, x2, x3, ⟨x4, x5, x6⟩, ⟨x7, x8, x9⟩, x10⟩ ⟨y1, y2, y3, ⟨y4, y5, y6⟩, ⟨y7, y8, y9⟩, y10⟩ = true ∧ (x1.toList == y1.toList) = true ∧ (x2 == y2) = true ∧ (x3 == y3) = true ∧ (x4 == y4) = true ∧ (x5 == y5) = true ∧ (x6 == y6) = true ∧ (x7 == y7) = true ∧ (x8 == y8) = true ∧ (x9 == y9) = true ∧ (x10 == y10) = true) ∨ (zdk ⟨x1, x2, x3, ⟨x4, x5, x6⟩, ⟨x7, x8, x9⟩, x10⟩ ⟨y1, y2, y3, ⟨y4, y5, y6⟩, ⟨y7, y8, y9⟩, y10⟩ = false ∧ (x1.toList == y1.toList) = false) ∨ (zdk ⟨x1, x2, x3, ⟨x4, x5, x6⟩, ⟨x7, x8, x9⟩, x10⟩ ⟨y1, y2, y3, ⟨y4, y5, y6⟩, ⟨y7, y8, y9⟩, y10⟩ = false ∧ (x1.toList == y1.toList) = true ∧ (x2 == y2) = false) ∨ (zdk ⟨x1, x2, x3, ⟨x4, x5, x6⟩, ⟨x7, x8, x9⟩, x10⟩ ⟨y1, y2, y3, ⟨y4, y5, y6⟩, ⟨y7, y8, y9⟩, y10⟩ = false ∧ (x1.toList == y1.toList) = true ∧ (x2 == y2) = true ∧ (x3 == y3) = false) ∨ (zdk ⟨x1, x2, x3, ⟨x4, x5, x6⟩, ⟨x7, x8, x9⟩, x10⟩ ⟨y1, y2, y3, ⟨y4, y5, y6⟩, ⟨y7, y8, y9⟩, y10⟩ = false ∧ (x1.toList == y1.toList) = true ∧ (x2 == y2) = true ∧ (x3 == y3) = true ∧ (x4 == y4) = false) ∨ (zdk ⟨x1, x2, x3, ⟨x4, x5, x6⟩, ⟨x7, x8, x9⟩, x10⟩ ⟨y1, y2, y3, ⟨y4, y5, y6⟩, ⟨y7, y8, y9⟩, y10⟩ = false ∧ (x1.toList == y1.toList) = true ∧ (x2 == y2) = true ∧ (x3 == y3) = true ∧ (x4 == y4) = true ∧ (x5 == y5) = false) ∨ (zdk ⟨x1, x2, x3, ⟨x4, x5, x6⟩, ⟨x7, x8, x9⟩, x10⟩ ⟨y1, y2, y3, ⟨y4, y5, y6⟩, ⟨y7, y8, y9⟩, y10⟩ = false ∧ (x1.toList == y1.toList) = true ∧ (x2 == y2) = true ∧ (x3 == y3) = true ∧ (x4 == y4) = true ∧ (x5 == y5) = true ∧ (x6 == y6) = false) ∨ (zdk ⟨x1, x2, x3, ⟨x4, x5, x6⟩, ⟨x7, x8, x9⟩, x10⟩ ⟨y1, y2, y3, ⟨y4, y5, y6⟩, ⟨y7, y8, y9⟩, y10⟩ = false ∧ (x1.toList == y1.toList) = true ∧ (x2 == y2) = true ∧ (x3 == y3) = true ∧ (x4 == y4) = true ∧ (x5 == y5) = true ∧ (x6 == y6) = true ∧ (x7 == y7) = false) ∨ (zdk ⟨x1, x2, x3, ⟨x4, x5, x6⟩, ⟨x7, x8, x9⟩, x10⟩ ⟨y1, y2, y3, ⟨y4, y5, y6⟩, ⟨y7, y8, y9⟩, y10⟩ = false ∧ (x1.toList == y1.toList) = true ∧ (x2 == y2) = true ∧ (x3 == y3) = true ∧ (x4 == y4) = true ∧ (x5 == y5) = true ∧ (x6 == y6) = true ∧ (x7 == y7) = true ∧ (x8 == y8) = false) ∨ (zdk ⟨x1, x2, x3, ⟨x4, x5, x6⟩, ⟨x7, x8, x9⟩, x10⟩ ⟨y1, y2, y3, ⟨y4, y5, y6⟩, ⟨y7, y8, y9⟩, y10⟩ = false ∧ (x1.toList == y1.toList) = true ∧ (x2 == y2) = true ∧ (x3 == y3) = true ∧ (x4 == y4) = true ∧ (x5 == y5) = true ∧ (x6 == y6) = true ∧ (x7 == y7) = true ∧ (x8 == y8) = true ∧ (x9 == y9) = false) ∨ (zdk ⟨x1, x2, x3, ⟨x4, x5, x6⟩, ⟨x7, x8, x9⟩, x10⟩ ⟨y1, y2, y3, ⟨y4, y5, y6⟩, ⟨y7, y8, y9⟩, y10⟩ = false ∧ (x1.toList == y1.toList) = true ∧ (x2 == y2) = true ∧ (x3 == y3) = true ∧ (x4 == y4) = true ∧ (x5 == y5) = true ∧ (x6 == y6) = true ∧ (x7 == y7) = true ∧ (x8 == y8) = true ∧ (x9 == y9) = true ∧ (x10 == y10) = false) := by
 simp only [zdk, zlr, zhb];cases (x1.toList == y1.toList) <;> cases (x2 == y2) <;> cases (x3 == y3) <;> cases (x4 == y4) <;> cases (x5 == y5) <;> cases (x6 == y6) <;> cases (x7 == y7) <;> cases (x8 == y8) <;> cases (x9 == y9) <;> cases (x10 == y10) <;> simp
theorem zmi (A A' : Option Addr) (l m : List RunD) (n n' c c' : Nat) (w : World) {B B' : Nat} (h : RunsAt w B A l) (h' : RunsAt w B' A' m) (hn : n = l.length) (hn' : n' = m.length) (hm : n ≤ 300000) (hm' : n' ≤ 300000) :
  Calls Tryz.prog 70 #[.slice A n c, .slice A' n' c'] w fun e w' => e = .returned (.bool (za8 zdk l m)) ∧ Below w.heap.size w w' := by
 by_cases hnn : n = n'
 ·subst hnn;have hs := zf (ze6 (eq := zdk) (l := l) (m := m) (by omega));have hz := zf (show (l.zip m).length = n by rw [List.length_zip]; omega);have hn1 := zf hn;have hn2 := zf hn';have Hs := zf h;have Hs2 := zf h';clear h h' hn hn';go_enter Tryz.func70, Tryz.ntmps70;go_wp2;go_loopw [13] (fun i wr => ∃ k : Nat, k ≤ n ∧ i = .int .i64 k ∧ NoneTo (zbX zdk) (l.zip m) k ∧ ∃ d, wr = w.drewN d) (fun i _ => n - (intOf i).toNat)
  case atStart => exact ⟨0, zu _, rfl, NoneTo.zero _ _, 0, rfl⟩
  case round =>
   obtain ⟨k, hk, rfl, hw, d, rfl⟩ := hrel;by_cases hlt : k < n
   ·obtain ⟨b, off, x, rfl, _, hx, ce⟩ := RunsAt.get (k := k) Hs.out (by rw [← hn1.out]; exact hlt);obtain ⟨b2, off2, y, rfl, _, hy, cg⟩ := RunsAt.get (k := k) Hs2.out (by rw [← hn2.out]; exact hlt);have Hz := zf (zfP hx hy);have e1 := ce 0 _ rfl;have g1 := cg 0 _ rfl;have e2 := ce 1 _ rfl;have g2 := cg 1 _ rfl;have e3 := ce 2 _ rfl;have g3 := cg 2 _ rfl;have e4 := ce 3 _ rfl;have g4 := cg 3 _ rfl;have e5 := ce 4 _ rfl;have g5 := cg 4 _ rfl;have e6 := ce 5 _ rfl;have g6 := cg 5 _ rfl;have e7 := ce 6 _ rfl;have g7 := cg 6 _ rfl;have e8 := ce 7 _ rfl;have g8 := cg 7 _ rfl;have e9 := ce 8 _ rfl;have g9 := cg 8 _ rfl;have e10 := ce 9 _ rfl;have g10 := cg 9 _ rfl;simp only [Nat.add_zero] at e1 g1 e2 g2 e3 g3 e4 g4 e5 g5 e6 g6 e7 g7 e8 g8 e9 g9 e10 g10;clear ce cg;obtain ⟨x1, x2, x3, ⟨x4, x5, x6⟩, ⟨x7, x8, x9⟩, x10⟩ := x;obtain ⟨y1, y2, y3, ⟨y4, y5, y6⟩, ⟨y7, y8, y9⟩, y10⟩ := y;have hsz := hw;clear hx hy hw;have Hw := zf hsz;clear hsz;rcases @zs4 x2 y2 x3 y3 x4 y4 x5 y5 x6 y6 x7 y7 x8 y8 x9 y9 x10 y10 x1 y1 with ⟨hq, q1, q2, q3, q4, q5, q6, q7, q8, q9, q10⟩ | ⟨hq, q1⟩ | ⟨hq, q1, q2⟩ | ⟨hq, q1, q2, q3⟩ | ⟨hq, q1, q2, q3, q4⟩ | ⟨hq, q1, q2, q3, q4, q5⟩ | ⟨hq, q1, q2, q3, q4, q5, q6⟩ | ⟨hq, q1, q2, q3, q4, q5, q6, q7⟩ | ⟨hq, q1, q2, q3, q4, q5, q6, q7, q8⟩ | ⟨hq, q1, q2, q3, q4, q5, q6, q7, q8, q9⟩ | ⟨hq, q1, q2, q3, q4, q5, q6, q7, q8, q9, q10⟩
    ·have Hq := zf hq;clear hq;go_wp2_with fail;go_quiet (fail)
     go_wp2;go_roundw
     case rel => exact ⟨k + 1, by omega, by go_num, Hw.out.succ Hz.out (by rw [zbX, Hq.out]; rfl), _, rfl⟩
     case measure => simp [intOf]; omega
    all_goals
     have Hq := zf (zfS hs.out Hz.out hq);clear hq;go_wp2_with fail;go_quiet (fail)
     go_wp2;go_ret;exact ⟨zo Hq.out.symm, ⟨rfl, rfl, rfl, ze _, fun _ _ => rfl⟩⟩
   ·obtain rfl : k = n := by omega
    have Hq := zf (ze4 hs.out hz.out hw);clear hw;go_wp2;go_ret;exact ⟨zo Hq.out.symm, ⟨rfl, rfl, rfl, ze _, fun _ _ => rfl⟩⟩
 ·have Hq := zf (ze5 (eq := zdk) (l := l) (m := m) (by omega));have t : ((n : Int) != (n' : Int)) = true := by simp; omega
  clear h h' hn hn';go_enter Tryz.func70, Tryz.ntmps70;go_wp2;go_ret;exact ⟨zo Hq.out.symm, Below.refl _ _⟩
theorem zrV {x1 y1 x2 y2 : Int} : (zdG ⟨x1, x2⟩ ⟨y1, y2⟩ = true ∧ (x1 == y1) = true ∧ (x2 == y2) = true) ∨ (zdG ⟨x1, x2⟩ ⟨y1, y2⟩ = false ∧ (x1 == y1) = false) ∨ (zdG ⟨x1, x2⟩ ⟨y1, y2⟩ = false ∧ (x1 == y1) = true ∧ (x2 == y2) = false) := by
 simp only [zdG];cases (x1 == y1) <;> cases (x2 == y2) <;> simp
theorem zkx (A A' : Option Addr) (l m : List JoinD) (n n' c c' : Nat) (w : World) {B B' : Nat} (h : JoinsAt w B A l) (h' : JoinsAt w B' A' m) (hn : n = l.length) (hn' : n' = m.length) (hm : n ≤ 300000) (hm' : n' ≤ 300000) :
  Calls Tryz.prog 71 #[.slice A n c, .slice A' n' c'] w fun e w' => e = .returned (.bool (za8 zdG l m)) ∧ Below w.heap.size w w' := by
 by_cases hnn : n = n'
 ·subst hnn;have hs := zf (ze6 (eq := zdG) (l := l) (m := m) (by omega));have hz := zf (show (l.zip m).length = n by rw [List.length_zip]; omega);have hn1 := zf hn;have hn2 := zf hn';have Hs := zf h;have Hs2 := zf h';clear h h' hn hn';go_enter Tryz.func71, Tryz.ntmps71;go_wp2;go_loopw [13] (fun i wr => ∃ k : Nat, k ≤ n ∧ i = .int .i64 k ∧ NoneTo (zbX zdG) (l.zip m) k ∧ ∃ d, wr = w.drewN d) (fun i _ => n - (intOf i).toNat)
  case atStart => exact ⟨0, zu _, rfl, NoneTo.zero _ _, 0, rfl⟩
  case round =>
   obtain ⟨k, hk, rfl, hw, d, rfl⟩ := hrel;by_cases hlt : k < n
   ·obtain ⟨b, off, x, rfl, _, hx, e1, e2⟩ := JoinsAt.get (k := k) Hs.out (by rw [← hn1.out]; exact hlt);obtain ⟨b2, off2, y, rfl, _, hy, g1, g2⟩ := JoinsAt.get (k := k) Hs2.out (by rw [← hn2.out]; exact hlt);have Hz := zf (zfP hx hy);obtain ⟨x1, x2⟩ := x;obtain ⟨y1, y2⟩ := y;have hsz := hw;clear hx hy hw;have Hw := zf hsz;clear hsz;rcases @zrV x1 y1 x2 y2 with ⟨hq, q1, q2⟩ | ⟨hq, q1⟩ | ⟨hq, q1, q2⟩
    ·have Hq := zf hq;clear hq;go_wp2_with fail;go_quiet (fail)
     go_wp2;go_roundw
     case rel => exact ⟨k + 1, by omega, by go_num, Hw.out.succ Hz.out (by rw [zbX, Hq.out]; rfl), _, rfl⟩
     case measure => simp [intOf]; omega
    all_goals
     have Hq := zf (zfS hs.out Hz.out hq);clear hq;go_wp2_with fail;go_quiet (fail)
     go_wp2;go_ret;exact ⟨zo Hq.out.symm, ⟨rfl, rfl, rfl, ze _, fun _ _ => rfl⟩⟩
   ·obtain rfl : k = n := by omega
    have Hq := zf (ze4 hs.out hz.out hw);clear hw;go_wp2;go_ret;exact ⟨zo Hq.out.symm, ⟨rfl, rfl, rfl, ze _, fun _ _ => rfl⟩⟩
 ·have Hq := zf (ze5 (eq := zdG) (l := l) (m := m) (by omega));have t : ((n : Int) != (n' : Int)) = true := by simp; omega
  clear h h' hn hn';go_enter Tryz.func71, Tryz.ntmps71;go_wp2;go_ret;exact ⟨zo Hq.out.symm, Below.refl _ _⟩
theorem zs3 {x1 y1 x2 y2 : Int} : (zgj ⟨x1, x2⟩ ⟨y1, y2⟩ = true ∧ (x1 == y1) = true ∧ (x2 == y2) = true) ∨ (zgj ⟨x1, x2⟩ ⟨y1, y2⟩ = false ∧ (x1 == y1) = false) ∨ (zgj ⟨x1, x2⟩ ⟨y1, y2⟩ = false ∧ (x1 == y1) = true ∧ (x2 == y2) = false) := by
 simp only [zgj];cases (x1 == y1) <;> cases (x2 == y2) <;> simp
theorem zmh (A A' : Option Addr) (l m : List (Int × Int)) (n n' c c' : Nat) (w : World) {B B' : Nat} (h : StpsAt w B A l) (h' : StpsAt w B' A' m) (hn : n = l.length) (hn' : n' = m.length) (hm : n ≤ 300000) (hm' : n' ≤ 300000) :
  Calls Tryz.prog 67 #[.slice A n c, .slice A' n' c'] w fun e w' => e = .returned (.bool (za8 zgj l m)) ∧ Below w.heap.size w w' := by
 by_cases hnn : n = n'
 ·subst hnn;have hs := zf (ze6 (eq := zgj) (l := l) (m := m) (by omega));have hz := zf (show (l.zip m).length = n by rw [List.length_zip]; omega);have hn1 := zf hn;have hn2 := zf hn';have Hs := zf h;have Hs2 := zf h';clear h h' hn hn';go_enter Tryz.func67, Tryz.ntmps67;go_wp2;go_loopw [13] (fun i wr => ∃ k : Nat, k ≤ n ∧ i = .int .i64 k ∧ NoneTo (zbX zgj) (l.zip m) k ∧ ∃ d, wr = w.drewN d) (fun i _ => n - (intOf i).toNat)
  case atStart => exact ⟨0, zu _, rfl, NoneTo.zero _ _, 0, rfl⟩
  case round =>
   obtain ⟨k, hk, rfl, hw, d, rfl⟩ := hrel;by_cases hlt : k < n
   ·obtain ⟨b, off, x, rfl, _, hx, e1, e2⟩ := StpsAt.get (k := k) Hs.out (by rw [← hn1.out]; exact hlt);obtain ⟨b2, off2, y, rfl, _, hy, g1, g2⟩ := StpsAt.get (k := k) Hs2.out (by rw [← hn2.out]; exact hlt);have Hz := zf (zfP hx hy);obtain ⟨x1, x2⟩ := x;obtain ⟨y1, y2⟩ := y;have hsz := hw;clear hx hy hw;have Hw := zf hsz;clear hsz;rcases @zs3 x1 y1 x2 y2 with ⟨hq, q1, q2⟩ | ⟨hq, q1⟩ | ⟨hq, q1, q2⟩
    ·have Hq := zf hq;clear hq;go_wp2_with fail;go_quiet (fail)
     go_wp2;go_roundw
     case rel => exact ⟨k + 1, by omega, by go_num, Hw.out.succ Hz.out (by rw [zbX, Hq.out]; rfl), _, rfl⟩
     case measure => simp [intOf]; omega
    all_goals
     have Hq := zf (zfS hs.out Hz.out hq);clear hq;go_wp2_with fail;go_quiet (fail)
     go_wp2;go_ret;exact ⟨zo Hq.out.symm, ⟨rfl, rfl, rfl, ze _, fun _ _ => rfl⟩⟩
   ·obtain rfl : k = n := by omega
    have Hq := zf (ze4 hs.out hz.out hw);clear hw;go_wp2;go_ret;exact ⟨zo Hq.out.symm, ⟨rfl, rfl, rfl, ze _, fun _ _ => rfl⟩⟩
 ·have Hq := zf (ze5 (eq := zgj) (l := l) (m := m) (by omega));have t : ((n : Int) != (n' : Int)) = true := by simp; omega
  clear h h' hn hn';go_enter Tryz.func67, Tryz.ntmps67;go_wp2;go_ret;exact ⟨zo Hq.out.symm, Below.refl _ _⟩
theorem zs5 {x1 y1 : Int} : (zgq x1 y1 = true ∧ (x1 == y1) = true) ∨ (zgq x1 y1 = false ∧ (x1 == y1) = false) := by
 simp only [zgq];cases (x1 == y1) <;> simp
theorem zmj (A A' : Option Addr) (l m : List Int) (n n' c c' : Nat) (w : World) {B B' : Nat} (h : Ints w B A l) (h' : Ints w B' A' m) (hn : n = l.length) (hn' : n' = m.length) (hm : n ≤ 300000) (hm' : n' ≤ 300000) :
  Calls Tryz.prog 65 #[.slice A n c, .slice A' n' c'] w fun e w' => e = .returned (.bool (za8 zgq l m)) ∧ Below w.heap.size w w' := by
 by_cases hnn : n = n'
 ·subst hnn;have hs := zf (ze6 (eq := zgq) (l := l) (m := m) (by omega));have hz := zf (show (l.zip m).length = n by rw [List.length_zip]; omega);have hn1 := zf hn;have hn2 := zf hn';have Hs := zf h;have Hs2 := zf h';clear h h' hn hn';go_enter Tryz.func65, Tryz.ntmps65;go_wp2;go_loopw [13] (fun i wr => ∃ k : Nat, k ≤ n ∧ i = .int .i64 k ∧ NoneTo (zbX zgq) (l.zip m) k ∧ ∃ d, wr = w.drewN d) (fun i _ => n - (intOf i).toNat)
  case atStart => exact ⟨0, zu _, rfl, NoneTo.zero _ _, 0, rfl⟩
  case round =>
   obtain ⟨k, hk, rfl, hw, d, rfl⟩ := hrel;by_cases hlt : k < n
   ·obtain ⟨b, off, x1, rfl, _, hx, e1⟩ := Ints.get (k := k) Hs.out (by rw [← hn1.out]; exact hlt);obtain ⟨b2, off2, y1, rfl, _, hy, g1⟩ := Ints.get (k := k) Hs2.out (by rw [← hn2.out]; exact hlt);have Hz := zf (zfP hx hy);have hsz := hw;clear hx hy hw;have Hw := zf hsz;clear hsz;rcases @zs5 x1 y1 with ⟨hq, q1⟩ | ⟨hq, q1⟩
    ·have Hq := zf hq;clear hq;go_wp2_with fail;go_quiet (fail)
     go_wp2;go_roundw
     case rel => exact ⟨k + 1, by omega, by go_num, Hw.out.succ Hz.out (by rw [zbX, Hq.out]; rfl), _, rfl⟩
     case measure => simp [intOf]; omega
    all_goals
     have Hq := zf (zfS hs.out Hz.out hq);clear hq;go_wp2_with fail;go_quiet (fail)
     go_wp2;go_ret;exact ⟨zo Hq.out.symm, ⟨rfl, rfl, rfl, ze _, fun _ _ => rfl⟩⟩
   ·obtain rfl : k = n := by omega
    have Hq := zf (ze4 hs.out hz.out hw);clear hw;go_wp2;go_ret;exact ⟨zo Hq.out.symm, ⟨rfl, rfl, rfl, ze _, fun _ _ => rfl⟩⟩
 ·have Hq := zf (ze5 (eq := zgq) (l := l) (m := m) (by omega));have t : ((n : Int) != (n' : Int)) = true := by simp; omega
  clear h h' hn hn';go_enter Tryz.func65, Tryz.ntmps65;go_wp2;go_ret;exact ⟨zo Hq.out.symm, Below.refl _ _⟩
abbrev zrQ (x : BarD) (A : Option Addr) (c : Nat) : Value := .agg #[.string x.mark, .int .i64 x.size, .int .i64 x.count, .int .i64 x.code, .slice A x.dims.length c]
abbrev zs0 (x : DemD) (A : Option Addr) (c : Nat) : Value := .agg #[.string x.name, .int .i64 x.zone.lo.1, .int .i64 x.zone.lo.2.1, .int .i64 x.zone.lo.2.2, .int .i64 x.zone.hi.1, .int .i64 x.zone.hi.2.1, .int .i64 x.zone.hi.2.2, .slice A x.steps.length c]
theorem BarsAt.later {w wr : World} {B : Nat} {A : Option Addr} {l : List BarD} (h : BarsAt w B A l) (hB : B ≤ w.heap.size) (hb : Below w.heap.size w wr) {k : Nat} (hk : k < l.length) :
  ∃ b off x A' c', A = some ⟨b, off, none⟩ ∧ b < wr.heap.size ∧ l[k]? = some x ∧ Ints w B A' x.dims ∧ wr.cell? ⟨b, off + k * 5, none⟩ = some (.string x.mark) ∧ wr.cell? ⟨b, off + k * 5 + 1, none⟩ = some (.int .i64 x.size) ∧
   wr.cell? ⟨b, off + k * 5 + 2, none⟩ = some (.int .i64 x.count) ∧ wr.cell? ⟨b, off + k * 5 + 3, none⟩ = some (.int .i64 x.code) ∧ wr.cell? ⟨b, off + k * 5 + 4, none⟩ = some (.slice A' x.dims.length c') := by
 obtain ⟨b, off, x, A', c', rfl, hbl, hx, hi, h0, h1, h2, h3, h4⟩ := BarsAt.get h hk;have hbw : b < w.heap.size := zt hbl hB;have key := fun j => hb.cell (p := ⟨b, j, none⟩) hbw;exact ⟨b, off, x, A', c', rfl, zt hbw hb.size, hx, hi, (key _).trans h0, (key _).trans h1, (key _).trans h2, (key _).trans h3, (key _).trans h4⟩
theorem DemsAt.later {w wr : World} {B : Nat} {A : Option Addr} {l : List DemD} (h : DemsAt w B A l) (hB : B ≤ w.heap.size) (hb : Below w.heap.size w wr) {k : Nat} (hk : k < l.length) :
  ∃ b off x A' c', A = some ⟨b, off, none⟩ ∧ b < wr.heap.size ∧ l[k]? = some x ∧ StpsAt w B A' x.steps ∧ wr.cell? ⟨b, off + k * 8, none⟩ = some (.string x.name) ∧ wr.cell? ⟨b, off + k * 8 + 1, none⟩ = some (.int .i64 x.zone.lo.1) ∧
   wr.cell? ⟨b, off + k * 8 + 2, none⟩ = some (.int .i64 x.zone.lo.2.1) ∧ wr.cell? ⟨b, off + k * 8 + 3, none⟩ = some (.int .i64 x.zone.lo.2.2) ∧ wr.cell? ⟨b, off + k * 8 + 4, none⟩ = some (.int .i64 x.zone.hi.1) ∧
   wr.cell? ⟨b, off + k * 8 + 5, none⟩ = some (.int .i64 x.zone.hi.2.1) ∧ wr.cell? ⟨b, off + k * 8 + 6, none⟩ = some (.int .i64 x.zone.hi.2.2) ∧ wr.cell? ⟨b, off + k * 8 + 7, none⟩ = some (.slice A' x.steps.length c') := by
 obtain ⟨b, off, x, A', c', rfl, hbl, hx, hi, hc⟩ := DemsAt.get h hk;have hbw : b < w.heap.size := zt hbl hB;have key := fun j v hv => (hb.cell (p := ⟨b, off + k * 8 + j, none⟩) hbw).trans (hc j v hv);refine ⟨b, off, x, A', c', rfl, zt hbw hb.size, hx, hi, ?_, key 1 _ rfl, key 2 _ rfl, key 3 _ rfl, key 4 _ rfl, key 5 _ rfl, key 6 _ rfl, key 7 _ rfl⟩;have h0 := key 0 _ rfl
 simpa using h0
theorem zph (A A' : Option Addr) (l m : List BarD) (n n' c c' : Nat) (fid : FuncId) (caps : Array Value) (w : World) {B B' : Nat} (h : BarsAt w B A l) (h' : BarsAt w B' A' m) (hB : B ≤ w.heap.size) (hB' : B' ≤ w.heap.size) (hn : n = l.length) (hn' : n' = m.length) (hm : n ≤ 60000) (hm' : n' ≤ 60000)
  (hc : ∀ args w, (callFunc fid args).run Tryz.prog w = .ok (.enter fid args) w)
  (hf : ∀ x y A1 c1 A2 c2 (W : World), x ∈ l → y ∈ m → Below w.heap.size w W → Ints w B A1 x.dims → Ints w B' A2 y.dims → Calls Tryz.prog fid (#[zrQ x A1 c1, zrQ y A2 c2] ++ caps) W fun e W' => e = .returned (.bool (zfd x y)) ∧ Below W.heap.size W W') :
  Calls Tryz.prog 69 #[.slice A n c, .slice A' n' c', .func (.func fid) #[] caps] w fun e w' => e = .returned (.bool (za8 zfd l m)) ∧ Below w.heap.size w w' := by
 by_cases hnn : n = n'
 ·subst hnn;have hs := zf (ze6 (eq := zfd) (l := l) (m := m) (by omega));have hz := zf (show (l.zip m).length = n by rw [List.length_zip]; omega);have Hg := zf (fun (wr : World) (hb : Below w.heap.size w wr) (k : Nat) (hk : k < n) => h.later hB hb (k := k) (by omega));have Hg2 := zf (fun (wr : World) (hb : Below w.heap.size w wr) (k : Nat) (hk : k < n) => h'.later hB' hb (k := k) (by omega));have Hf := zf hf;clear h h' hn hn' hf;go_enter Tryz.func69, Tryz.ntmps69;go_wp2;go_loopw [17] (fun i wr => ∃ k : Nat, k ≤ n ∧ i = .int .i64 k ∧ NoneTo (zbX zfd) (l.zip m) k ∧ Below w.heap.size w wr) (fun i _ => n - (intOf i).toNat)
  case atStart => exact ⟨0, zu _, rfl, NoneTo.zero _ _, Below.refl _ _⟩
  case round =>
   obtain ⟨k, hk, rfl, hw, hb⟩ := hrel;by_cases hlt : k < n
   ·obtain ⟨b, off, x, A1, c1, rfl, lb, hx, hi, e0, e1, e2, e3, e4⟩ := Hg.out wr hb k hlt;obtain ⟨b2, off2, y, A2, c2, rfl, lb2, hy, hi2, g0, g1, g2, g3, g4⟩ := Hg2.out wr hb k hlt;have Hz := zf (zfP hx hy);have HF := zf (fun (W : World) (hW : Below w.heap.size w W) => Hf.out x y A1 c1 A2 c2 W (zv hx) (zv hy) hW hi hi2);have Hw := zf hw;have Hb := zf hb;have hbs := hb.size;clear hx hy hi hi2 hw hb;obtain ⟨q, hq⟩ : ∃ q, zfd x y = q := ⟨_, rfl⟩;rw [hq] at HF;go_wp2_with fail;refine (HF.out _ ((Hb.out.alloc hbs _).alloc (zM hbs _) _)).mono ?_;rintro e w1 ⟨rfl, hb1⟩;have Hb2 := zf (zg ((Hb.out.alloc hbs _).alloc (zM hbs _) _) hb1 (ze _));clear hb1 HF;cases q
    ·have Hq := zf (zfS hs.out Hz.out hq);clear hq;go_wp2;go_ret;exact ⟨zo Hq.out.symm, Hb2.out⟩
    ·have Hq := zf hq;clear hq;go_wp2;go_roundw
     case rel => exact ⟨k + 1, by omega, by go_num, Hw.out.succ Hz.out (by rw [zbX, Hq.out]; rfl), Hb2.out⟩
     case measure => simp [intOf]; omega
   ·obtain rfl : k = n := by omega
    have Hq := zf (ze4 hs.out hz.out hw);clear hw;go_wp2;go_ret;exact ⟨zo Hq.out.symm, hb⟩
 ·have Hq := zf (ze5 (eq := zfd) (l := l) (m := m) (by omega));have t : ((n : Int) != (n' : Int)) = true := by simp; omega
  clear h h' hn hn' hf;go_enter Tryz.func69, Tryz.ntmps69;go_wp2;go_ret;exact ⟨zo Hq.out.symm, Below.refl _ _⟩
theorem zpg (A A' : Option Addr) (l m : List DemD) (n n' c c' : Nat) (fid : FuncId) (caps : Array Value) (w : World) {B B' : Nat} (h : DemsAt w B A l) (h' : DemsAt w B' A' m) (hB : B ≤ w.heap.size) (hB' : B' ≤ w.heap.size) (hn : n = l.length) (hn' : n' = m.length) (hm : n ≤ 60000) (hm' : n' ≤ 60000)
  (hc : ∀ args w, (callFunc fid args).run Tryz.prog w = .ok (.enter fid args) w)
  (hf : ∀ x y A1 c1 A2 c2 (W : World), x ∈ l → y ∈ m → Below w.heap.size w W → StpsAt w B A1 x.steps → StpsAt w B' A2 y.steps → Calls Tryz.prog fid (#[zs0 x A1 c1, zs0 y A2 c2] ++ caps) W fun e W' => e = .returned (.bool (zfc x y)) ∧ Below W.heap.size W W') :
  Calls Tryz.prog 72 #[.slice A n c, .slice A' n' c', .func (.func fid) #[] caps] w fun e w' => e = .returned (.bool (za8 zfc l m)) ∧ Below w.heap.size w w' := by
 by_cases hnn : n = n'
 ·subst hnn;have hs := zf (ze6 (eq := zfc) (l := l) (m := m) (by omega));have hz := zf (show (l.zip m).length = n by rw [List.length_zip]; omega);have Hg := zf (fun (wr : World) (hb : Below w.heap.size w wr) (k : Nat) (hk : k < n) => h.later hB hb (k := k) (by omega));have Hg2 := zf (fun (wr : World) (hb : Below w.heap.size w wr) (k : Nat) (hk : k < n) => h'.later hB' hb (k := k) (by omega));have Hf := zf hf;clear h h' hn hn' hf;go_enter Tryz.func72, Tryz.ntmps72;go_wp2;go_loopw [17] (fun i wr => ∃ k : Nat, k ≤ n ∧ i = .int .i64 k ∧ NoneTo (zbX zfc) (l.zip m) k ∧ Below w.heap.size w wr) (fun i _ => n - (intOf i).toNat)
  case atStart => exact ⟨0, zu _, rfl, NoneTo.zero _ _, Below.refl _ _⟩
  case round =>
   obtain ⟨k, hk, rfl, hw, hb⟩ := hrel;by_cases hlt : k < n
   ·obtain ⟨b, off, x, A1, c1, rfl, lb, hx, hi, e0, e1, e2, e3, e4, e5, e6, e7⟩ := Hg.out wr hb k hlt;obtain ⟨b2, off2, y, A2, c2, rfl, lb2, hy, hi2, g0, g1, g2, g3, g4, g5, g6, g7⟩ := Hg2.out wr hb k hlt;have Hz := zf (zfP hx hy);have HF := zf (fun (W : World) (hW : Below w.heap.size w W) => Hf.out x y A1 c1 A2 c2 W (zv hx) (zv hy) hW hi hi2);have Hw := zf hw;have Hb := zf hb;have hbs := hb.size;clear hx hy hi hi2 hw hb;obtain ⟨q, hq⟩ : ∃ q, zfc x y = q := ⟨_, rfl⟩;rw [hq] at HF;go_wp2_with fail;refine (HF.out _ ((Hb.out.alloc hbs _).alloc (zM hbs _) _)).mono ?_;rintro e w1 ⟨rfl, hb1⟩;have Hb2 := zf (zg ((Hb.out.alloc hbs _).alloc (zM hbs _) _) hb1 (ze _));clear hb1 HF;cases q
    ·have Hq := zf (zfS hs.out Hz.out hq);clear hq;go_wp2;go_ret;exact ⟨zo Hq.out.symm, Hb2.out⟩
    ·have Hq := zf hq;clear hq;go_wp2;go_roundw
     case rel => exact ⟨k + 1, by omega, by go_num, Hw.out.succ Hz.out (by rw [zbX, Hq.out]; rfl), Hb2.out⟩
     case measure => simp [intOf]; omega
   ·obtain rfl : k = n := by omega
    have Hq := zf (ze4 hs.out hz.out hw);clear hw;go_wp2;go_ret;exact ⟨zo Hq.out.symm, hb⟩
 ·have Hq := zf (ze5 (eq := zfc) (l := l) (m := m) (by omega));have t : ((n : Int) != (n' : Int)) = true := by simp; omega
  clear h h' hn hn' hf;go_enter Tryz.func72, Tryz.ntmps72;go_wp2;go_ret;exact ⟨zo Hq.out.symm, Below.refl _ _⟩
theorem zqh (x y : BarD) (A1 A2 : Option Addr) (c1 c2 : Nat) (w : World) {B B' : Nat} (h : Ints w B A1 x.dims) (h' : Ints w B' A2 y.dims) (hB : B ≤ w.heap.size) (hB' : B' ≤ w.heap.size) (hm : x.dims.length ≤ 60000) (hm' : y.dims.length ≤ 60000) :
  Calls Tryz.prog 64 #[.agg #[.string x.mark, .int .i64 x.size, .int .i64 x.count, .int .i64 x.code, .slice A1 x.dims.length c1], .agg #[.string y.mark, .int .i64 y.size, .int .i64 y.count, .int .i64 y.code, .slice A2 y.dims.length c2]] w fun e w' => e = .returned (.bool (zfd x y)) ∧ Below w.heap.size w w' := by
 have HD := zf (fun (W : World) (hz : Below w.heap.size w W) => zmj A1 A2 x.dims y.dims x.dims.length y.dims.length c1 c2 W (h.carry (hz.mono hB) (ze _)) (h'.carry (hz.mono hB') (ze _)) rfl rfl (by omega) (by omega));have HW := zf (zH w (.cells #[.string x.mark, .int .i64 x.size, .int .i64 x.count, .int .i64 x.code, .slice A1 x.dims.length c1] 50) (.cells #[.string y.mark, .int .i64 y.size, .int .i64 y.count, .int .i64 y.code, .slice A2 y.dims.length c2] 50));have Hr := zf (show zfd x y = ((x.mark.toList == y.mark.toList) && ((x.size == y.size) && ((x.count == y.count) && ((x.code == y.code) && za8 zgq x.dims y.dims)))) from rfl);clear h h';cases q1 : (x.mark.toList == y.mark.toList)
 ·rw [q1] at Hr;go_enter Tryz.func64, Tryz.ntmps64;go_wp2;go_ret;exact ⟨zo (by rw [Hr.out]; rfl), HW.out⟩
 cases q2 : (x.size == y.size)
 ·rw [q1, q2] at Hr;go_enter Tryz.func64, Tryz.ntmps64;go_wp2;go_ret;exact ⟨zo (by rw [Hr.out]; rfl), HW.out⟩
 cases q3 : (x.count == y.count)
 ·rw [q1, q2, q3] at Hr;go_enter Tryz.func64, Tryz.ntmps64;go_wp2;go_ret;exact ⟨zo (by rw [Hr.out]; rfl), HW.out⟩
 cases q4 : (x.code == y.code)
 ·rw [q1, q2, q3, q4] at Hr;go_enter Tryz.func64, Tryz.ntmps64;go_wp2;go_ret;exact ⟨zo (by rw [Hr.out]; rfl), HW.out⟩
 rw [q1, q2, q3, q4] at Hr;go_enter Tryz.func64, Tryz.ntmps64;go_wp2_with fail;refine (HD.out _ HW.out).mono ?_;rintro e w1 ⟨rfl, hb⟩;have HB := zf (zg HW.out hb (ze _));clear hb HD;go_wp2;go_ret;exact ⟨zo (by rw [Hr.out]; rfl), HB.out⟩
theorem ztd (d : Nat) (a b c a' b' c' : Int) (w : World) : (Op.equalIn (d + 1 + 1) 60 (.agg #[.int .i64 a, .int .i64 b, .int .i64 c]) (.agg #[.int .i64 a', .int .i64 b', .int .i64 c'])).run Tryz.prog w = .ok (a == a' && (b == b' && c == c')) w := by
 have hS : (Tryz.prog).underlying 60 = some (.struct ((Tryz.prog).fieldsOf 60)) := by kernel_rfl
 have hp : (Tryz.prog).stoodInHeld 60 = false := by kernel_rfl
 have u3 := Tryz.underlying3;have a3 := Tryz.isAgg3;have z3 := Tryz.sizeOf3;rw [run_equalIn_agg w (d + 1) 60 _ _ hS hp];clear hS hp;simp only [Program.fieldsOf, Tryz.underlying60];go_simp;by_cases h1 : a = a' <;> by_cases h2 : b = b' <;> by_cases h3 : c = c' <;> simp [h1, h2, h3]
theorem ztu (a b : BoxD) (w : World) : Sem.run Tryz.prog (binOp .eql 62 (.agg #[.int .i64 a.lo.1, .int .i64 a.lo.2.1, .int .i64 a.lo.2.2, .int .i64 a.hi.1, .int .i64 a.hi.2.1, .int .i64 a.hi.2.2]) (.agg #[.int .i64 b.lo.1, .int .i64 b.lo.2.1, .int .i64 b.lo.2.2, .int .i64 b.hi.1, .int .i64 b.hi.2.1, .int .i64 b.hi.2.2])) w = .ok (.bool (zcu a b)) w := by
 have hS : (Tryz.prog).underlying 62 = some (.struct ((Tryz.prog).fieldsOf 62)) := by kernel_rfl
 have hp : (Tryz.prog).stoodInHeld 62 = false := by kernel_rfl
 have a3 := Tryz.isAgg60;have z3 := Tryz.sizeOf60;have key := fun (a b c a' b' c' : Int) (w : World) => ztd 9997 a b c a' b' c' w;rw [run_eql_struct, show (10000 : Nat) = 9999 + 1 from rfl, run_equalIn_agg w 9999 62 _ _ hS hp];clear hS hp;simp only [Program.fieldsOf, Tryz.underlying62];have p1 : ∀ (x1 x2 x3 x4 x5 x6 : Value) (w : World), Sem.run Tryz.prog (part 60 #[x1, x2, x3, x4, x5, x6] 0) w = .ok (.agg #[x1, x2, x3]) w := by
  intro x1 x2 x3 x4 x5 x6 w;simp [part, a3, z3, Result.andThen]
 have p2 : ∀ (x1 x2 x3 x4 x5 x6 : Value) (w : World), Sem.run Tryz.prog (part 60 #[x1, x2, x3, x4, x5, x6] 3) w = .ok (.agg #[x4, x5, x6]) w := by
  intro x1 x2 x3 x4 x5 x6 w;simp [part, a3, z3, Result.andThen]
 simp only [Op.eqFields, Sem.run_bind, Sem.run_ite, p1, p2, key, Result.andThen_ok];simp [zcu, zlr, Result.andThen];by_cases h1 : a.lo.1 = b.lo.1
 rotate_left
 ·simp [h1]
 by_cases h2 : a.lo.2.1 = b.lo.2.1
 rotate_left
 ·simp [h1, h2]
 by_cases h3 : a.lo.2.2 = b.lo.2.2
 rotate_left
 ·simp [h1, h2, h3]
 by_cases h4 : a.hi.1 = b.hi.1
 rotate_left
 ·simp [h1, h2, h3, h4]
 by_cases h5 : a.hi.2.1 = b.hi.2.1
 rotate_left
 ·simp [h1, h2, h3, h4, h5]
 by_cases h6 : a.hi.2.2 = b.hi.2.2
 rotate_left
 ·simp [h1, h2, h3, h4, h5, h6]
 simp [h1, h2, h3, h4, h5, h6]
theorem zsc (a b : RuleD) (w : World) : Sem.run Tryz.prog (binOp .eql 32 (.agg #[.int .i64 a.num, .int .i64 a.den, .int .i64 a.poorNum, .int .i64 a.poorDen, .int .i64 a.bendNum, .int .i64 a.bendDen, .int .i64 a.lapNum, .int .i64 a.lapDen, .int .i64 a.least]) (.agg #[.int .i64 b.num, .int .i64 b.den, .int .i64 b.poorNum, .int .i64 b.poorDen, .int .i64 b.bendNum, .int .i64 b.bendDen, .int .i64 b.lapNum, .int .i64 b.lapDen, .int .i64 b.least])) w = .ok (.bool (zfw a b)) w := by
 have hS : (Tryz.prog).underlying 32 = some (.struct ((Tryz.prog).fieldsOf 32)) := by kernel_rfl
 have hp : (Tryz.prog).stoodInHeld 32 = false := by kernel_rfl
 have u3 := Tryz.underlying3;have a3 := Tryz.isAgg3;have z3 := Tryz.sizeOf3;rw [run_eql_struct, show (10000 : Nat) = 9998 + 1 + 1 from rfl, run_equalIn_agg w (9998 + 1) 32 _ _ hS hp];clear hS hp;simp only [Program.fieldsOf, Tryz.underlying32];go_simp;simp only [zfw];by_cases h1 : a.num = b.num
 rotate_left
 ·simp [h1]
 by_cases h2 : a.den = b.den
 rotate_left
 ·simp [h1, h2]
 by_cases h3 : a.poorNum = b.poorNum
 rotate_left
 ·simp [h1, h2, h3]
 by_cases h4 : a.poorDen = b.poorDen
 rotate_left
 ·simp [h1, h2, h3, h4]
 by_cases h5 : a.bendNum = b.bendNum
 rotate_left
 ·simp [h1, h2, h3, h4, h5]
 by_cases h6 : a.bendDen = b.bendDen
 rotate_left
 ·simp [h1, h2, h3, h4, h5, h6]
 by_cases h7 : a.lapNum = b.lapNum
 rotate_left
 ·simp [h1, h2, h3, h4, h5, h6, h7]
 by_cases h8 : a.lapDen = b.lapDen
 rotate_left
 ·simp [h1, h2, h3, h4, h5, h6, h7, h8]
 by_cases h9 : a.least = b.least
 rotate_left
 ·simp [h1, h2, h3, h4, h5, h6, h7, h8, h9]
 simp [h1, h2, h3, h4, h5, h6, h7, h8, h9]
theorem zqg (x y : DemD) (A1 A2 : Option Addr) (c1 c2 : Nat) (w : World) {B B' : Nat} (h : StpsAt w B A1 x.steps) (h' : StpsAt w B' A2 y.steps) (hB : B ≤ w.heap.size) (hB' : B' ≤ w.heap.size) (hm : x.steps.length ≤ 60000) (hm' : y.steps.length ≤ 60000) :
  Calls Tryz.prog 66 #[zs0 x A1 c1, zs0 y A2 c2] w fun e w' => e = .returned (.bool (zfc x y)) ∧ Below w.heap.size w w' := by
 have HD := zf (fun (W : World) (hz : Below w.heap.size w W) => zmh A1 A2 x.steps y.steps x.steps.length y.steps.length c1 c2 W (SlOf.carry (Flat.carried _) h (hz.mono hB) (ze _)) (SlOf.carry (Flat.carried _) h' (hz.mono hB') (ze _)) rfl rfl (by omega) (by omega));have HW := zf (zH w (.cells #[.string x.name, .int .i64 x.zone.lo.1, .int .i64 x.zone.lo.2.1, .int .i64 x.zone.lo.2.2, .int .i64 x.zone.hi.1, .int .i64 x.zone.hi.2.1, .int .i64 x.zone.hi.2.2, .slice A1 x.steps.length c1] 69) (.cells #[.string y.name, .int .i64 y.zone.lo.1, .int .i64 y.zone.lo.2.1, .int .i64 y.zone.lo.2.2, .int .i64 y.zone.hi.1, .int .i64 y.zone.hi.2.1, .int .i64 y.zone.hi.2.2, .slice A2 y.steps.length c2] 69));have Hr := zf (show zfc x y = ((x.name.toList == y.name.toList) && (zcu x.zone y.zone && za8 zgj x.steps y.steps)) from rfl);have hq := ztu x.zone y.zone;obtain ⟨q, hqq⟩ : ∃ q, zcu x.zone y.zone = q := ⟨_, rfl⟩;rw [hqq] at hq Hr;clear h h' hqq
 show Calls Tryz.prog 66 #[.agg #[.string x.name, .int .i64 x.zone.lo.1, .int .i64 x.zone.lo.2.1, .int .i64 x.zone.lo.2.2, .int .i64 x.zone.hi.1, .int .i64 x.zone.hi.2.1, .int .i64 x.zone.hi.2.2, .slice A1 x.steps.length c1], .agg #[.string y.name, .int .i64 y.zone.lo.1, .int .i64 y.zone.lo.2.1, .int .i64 y.zone.lo.2.2, .int .i64 y.zone.hi.1, .int .i64 y.zone.hi.2.1, .int .i64 y.zone.hi.2.2, .slice A2 y.steps.length c2]] w _
 cases q1 : (x.name.toList == y.name.toList)
 ·rw [q1] at Hr;clear hq;go_enter Tryz.func66, Tryz.ntmps66;go_wp2;go_ret;exact ⟨zo (by rw [Hr.out]; rfl), HW.out⟩
 cases q
 ·rw [q1] at Hr;go_enter Tryz.func66, Tryz.ntmps66;go_wp2;go_ret;exact ⟨zo (by rw [Hr.out]; rfl), HW.out⟩
 rw [q1] at Hr;go_enter Tryz.func66, Tryz.ntmps66;go_wp2_with fail;refine (HD.out _ HW.out).mono ?_;rintro e w1 ⟨rfl, hb⟩;have HB := zf (zg HW.out hb (ze _));clear hb HD hq;go_wp2;go_ret;exact ⟨zo (by rw [Hr.out]; rfl), HB.out⟩
end Go.Proofs.YtpaanfjjnjjoeaaGreat
