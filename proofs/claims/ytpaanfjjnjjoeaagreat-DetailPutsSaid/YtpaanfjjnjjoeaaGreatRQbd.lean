/- The references of layers 10, 23, 24: whether steps, demands, a rule are valid. -/
import Derived.Test.YtpaanfjjnjjoeaaGreatRQat
import Derived.Test.YtpaanfjjnjjoeaaGreatRQas
namespace Go.Proofs.YtpaanfjjnjjoeaaGreat
open Go.RowKit
set_option maxHeartbeats 400000 in
theorem refBetween_any (n lo hi : Int) (w : World) :
  Calls Tryz.prog 151 #[.int .i64 n, .int .i64 lo, .int .i64 hi] w fun e w' => e = .returned (.bool (within n lo hi)) ∧ w = w' := by
 have hr : within n lo hi = (decide (lo ≤ n) && decide (n ≤ hi)) := rfl
 rw [hr]
 cases q0 : decide (lo ≤ n) <;> cases q1 : decide (n ≤ hi)
 all_goals
  go_enter Tryz.func151, Tryz.ntmps151
  go_wp2_with fail
  go_ret
  exact ⟨rfl, rfl⟩
set_option maxHeartbeats 400000 in
theorem refPlace_any (n : Int) (w : World) :
  Calls Tryz.prog 150 #[.int .i64 n] w fun e w' => e = .returned (.bool (coordOk n)) ∧ w = w' := by
 have H := hide (refBetween_any n (-1048576) 1048576 w)
 go_enter Tryz.func150, Tryz.ntmps150
 go_wp2_with fail
 refine H.out.mono ?_
 rintro e w1 ⟨rfl, rfl⟩
 go_wp2_with fail
 go_ret
 exact ⟨rfl, rfl⟩
def prevOf (l : List (Int × Int)) : Nat → Option Int
 | 0 => none
 | k + 1 => (l[k]?).map (·.1)
theorem steps_at {l : List (Int × Int)} {k : Nat} {x : Int × Int} (h : l[k]? = some x) : stepsFrom (prevOf l k) (l.drop k) = (coordOk x.1 && within x.2 0 1099511627776 && (match prevOf l k with | none => true | some p => decide (p < x.1)) && stepsFrom (prevOf l (k + 1)) (l.drop (k + 1))) := by
 have e : prevOf l (k + 1) = some x.1 := by simp [prevOf, h]
 rw [stepsFrom_at h, e]
 cases prevOf l k <;> rfl
set_option maxHeartbeats 2000000 in
theorem refSteps_any (A : Option Addr) (l : List (Int × Int)) (n c : Nat) (w : World) {B : Nat} (h : StpsAt w B A l) (hB : B ≤ w.heap.size) (hn : n = l.length) (hm : n ≤ 60000) :
  Calls Tryz.prog 91 #[.slice A n c] w fun e w' => e = .returned (.bool (stepsOk l)) ∧ Below w.heap.size w w' := by
 have hn' := hide hn
 have Hs := hide h
 by_cases hbig : 200 < n
 ·have hr := hide (show stepsOk l = false by simp [stepsOk, ← hn]; omega)
  have d0 : decide (200 < (n : Int)) = true := by simp; omega
  clear hn h hbig
  go_enter Tryz.func91, Tryz.ntmps91
  go_wp2_with fail
  go_ret
  exact ⟨ret_bool hr.out.symm, Below.refl _ _⟩
 have hr := hide (show stepsOk l = stepsFrom (prevOf l 0) (l.drop 0) by simp [stepsOk, ← hn, prevOf]; omega)
 have d0 : decide (200 < (n : Int)) = false := by simp; omega
 clear hn h
 go_enter Tryz.func91, Tryz.ntmps91
 go_wp2_with fail
 go_loopw [3] (fun i wr => ∃ k : Nat, k ≤ n ∧ i = .int .i64 k ∧ Hid (stepsFrom (prevOf l 0) (l.drop 0) = stepsFrom (prevOf l k) (l.drop k)) ∧ Below w.heap.size w wr) (fun i _ => n - (intOf i).toNat)
 case atStart => exact ⟨0, Nat.zero_le _, rfl, hide rfl, Below.refl _ _⟩
 case round =>
  obtain ⟨k, hk, rfl, hq, hbr⟩ := hrel
  by_cases hlt : k < n
  ·have HR := hide (Hs.out.carry (Flat.carried _) (hbr.mono hB) (Nat.le_refl _))
   obtain ⟨b, off, x, hA, hbl, hx, f0, f1⟩ := StpsAt.get (k := k) HR.out (by rw [← hn'.out]; exact hlt)
   have Hq := hide (hq.out.trans (steps_at hx))
   obtain ⟨x1, x2⟩ := x
   simp only at f0 f1 Hq
   have H1 := fun W => refPlace_any x1 W
   have H2 := fun W => refBetween_any x2 0 1099511627776 W
   generalize coordOk x1 = a1 at *
   generalize within x2 0 1099511627776 = a2 at *
   have H1 := hide H1
   have H2 := hide H2
   have Hbr := hide hbr
   have c0 := cell_regrown f0
   have c1 := cell_regrown f1
   cases a1
   ·subst hA
    clear hx hq hbr hbl HR
    go_wp2_with fail
    refine wp_region_quiet_below (by kernel_rfl) (by kernel_rfl) ?_
    repeat (go_big_quiet_step (first
     | (go_at_call 150; exact regrown_same (H1.out _))
     | (go_at_call 151; exact regrown_same (H2.out _))))
    refine wpQuiet_nil ?_
    intro w2 hw'
    have hbq := hide (show Below _ _ w2 by obtain ⟨p, rfl⟩ := hw'; exact below_regrown _ _ _)
    clear hw'
    go_wp2_with fail
    go_ret
    exact ⟨ret_bool (by rw [hr.out, Hq.out]; rfl), Hbr.out.trans (hbq.out.mono Hbr.out.size)⟩
   cases a2
   ·subst hA
    clear hx hq hbr hbl HR
    go_wp2_with fail
    refine wp_region_quiet_below (by kernel_rfl) (by kernel_rfl) ?_
    repeat (go_big_quiet_step (first
     | (go_at_call 150; exact regrown_same (H1.out _))
     | (go_at_call 151; exact regrown_same (H2.out _))))
    refine wpQuiet_nil ?_
    intro w2 hw'
    have hbq := hide (show Below _ _ w2 by obtain ⟨p, rfl⟩ := hw'; exact below_regrown _ _ _)
    clear hw'
    go_wp2_with fail
    go_ret
    exact ⟨ret_bool (by rw [hr.out, Hq.out]; rfl), Hbr.out.trans (hbq.out.mono Hbr.out.size)⟩
   cases k with
   | zero =>
    subst hA
    have Hq := hide (show stepsFrom (prevOf l 0) (l.drop 0) = stepsFrom (prevOf l 1) (l.drop 1) by rw [Hq.out]; simp [prevOf])
    simp only [Nat.zero_mul, Nat.add_zero] at c0 c1
    clear hx hq hbr hbl HR
    go_wp2_with fail
    refine wp_region_quiet_below (by kernel_rfl) (by kernel_rfl) ?_
    repeat (go_big_quiet_step (first
     | (go_at_call 150; exact regrown_same (H1.out _))
     | (go_at_call 151; exact regrown_same (H2.out _))))
    refine wpQuiet_nil ?_
    intro w2 hw'
    have hbq := hide (show Below _ _ w2 by obtain ⟨p, rfl⟩ := hw'; exact below_regrown _ _ _)
    clear hw'
    go_wp2_with fail
    go_roundw
    case rel => exact ⟨1, by omega, by go_num, Hq, Hbr.out.trans (hbq.out.mono Hbr.out.size)⟩
    case measure => simp [intOf]; omega
   | succ j =>
    obtain ⟨b', off', y, hA', hbl', hy, g0, g1⟩ := StpsAt.get (k := j) HR.out (by rw [← hn'.out]; omega)
    rw [hA] at hA'
    injection hA' with hA'
    injection hA' with e1 e2
    subst e1 e2 hA
    obtain ⟨y1, y2⟩ := y
    simp only at g0
    have Hq := hide (show stepsFrom (prevOf l 0) (l.drop 0) = (decide (y1 < x1) && stepsFrom (prevOf l (j + 1 + 1)) (l.drop (j + 1 + 1))) by rw [Hq.out]; simp [prevOf, hy])
    have c2 := cell_regrown g0
    have z1 : IntKind.i64.wrap ((j : Int) + 1 - 1) = (j : Int) := by rw [Int.add_sub_cancel]; exact IntWalk.i64_in _ (by omega)
    have z2 : IntKind.i64.wrap (j : Int) = (j : Int) := IntWalk.i64_in _ (by omega)
    have z3 : decide ((0 : Int) < (j : Int) + 1) = true := decide_eq_true (by omega)
    by_cases hd : x1 ≤ y1
    ·have Hd := hide (show decide (y1 < x1) = false by simp; omega)
     have hd' : decide (x1 ≤ y1) = true := by simpa using hd
     clear hx hy hq hbr hbl hbl' HR g1 f0 f1 g0 hd
     go_wp2_with fail
     refine wp_region_quiet_below (by kernel_rfl) (by kernel_rfl) ?_
     repeat (go_big_quiet_step (first
      | (go_at_call 150; exact regrown_same (H1.out _))
      | (go_at_call 151; exact regrown_same (H2.out _))))
     refine wpQuiet_nil ?_
     intro w2 hw'
     have hbq := hide (show Below _ _ w2 by obtain ⟨p, rfl⟩ := hw'; exact below_regrown _ _ _)
     clear hw'
     go_wp2_with fail
     go_ret
     exact ⟨ret_bool (by rw [hr.out, Hq.out, Hd.out]; rfl), Hbr.out.trans (hbq.out.mono Hbr.out.size)⟩
    ·have Hd := hide (show decide (y1 < x1) = true by simp; omega)
     have hd' : decide (x1 ≤ y1) = false := by simpa using hd
     clear hx hy hq hbr hbl hbl' HR g1 f0 f1 g0 hd
     go_wp2_with fail
     refine wp_region_quiet_below (by kernel_rfl) (by kernel_rfl) ?_
     repeat (go_big_quiet_step (first
      | (go_at_call 150; exact regrown_same (H1.out _))
      | (go_at_call 151; exact regrown_same (H2.out _))))
     refine wpQuiet_nil ?_
     intro w2 hw'
     have hbq := hide (show Below _ _ w2 by obtain ⟨p, rfl⟩ := hw'; exact below_regrown _ _ _)
     clear hw'
     go_wp2_with fail
     go_roundw
     case rel => exact ⟨j + 1 + 1, by omega, by go_num, hide (by rw [Hq.out, Hd.out]; rfl), Hbr.out.trans (hbq.out.mono Hbr.out.size)⟩
     case measure => simp [intOf]; omega
  ·obtain rfl : k = n := by omega
   go_wp2_with fail
   go_ret
   exact ⟨ret_bool (by rw [hr.out, hq.out, List.drop_of_length_le (by rw [← hn'.out]; exact Nat.le_refl _)]; rfl), hbr⟩
set_option maxHeartbeats 1000000 in
theorem refDemFind_any (A : Option Addr) (l : List DemD) (n c : Nat) (m : ByteArray) (w : World) {B : Nat} (h : DemsAt w B A l) (hn : n = l.length) (hm : n ≤ 60000) :
  Calls Tryz.prog 89 #[.slice A n c, .string m] w fun e w' => e = .returned (.int .i64 (idx (nameIs m) l)) ∧ w = w' := by
 have hn' := hide hn; clear hn
 go_enter Tryz.func89, Tryz.ntmps89
 go_wp2_with fail
 go_loop [5] (fun i => ∃ k : Nat, k ≤ n ∧ i = .int .i64 k ∧ NoneTo (nameIs m) l k) (fun i => n - (intOf i).toNat)
 case atStart => exact ⟨0, Nat.zero_le _, rfl, NoneTo.zero _ _⟩
 case round =>
  obtain ⟨k, hk, rfl, hw⟩ := hrel
  by_cases hlt : k < n
  ·obtain ⟨b, off, y, A', c', rfl, hb, hy, _, hc⟩ := DemsAt.get h (k := k) (by rw [← hn'.out]; exact hlt)
   have Hy := hide hy
   have c0 := hc 0 _ rfl
   simp only [Nat.add_zero] at c0
   obtain ⟨t, ht⟩ : ∃ t, t = (y.name.toList == m.toList) := ⟨_, rfl⟩
   have Ht := hide (show nameIs m y = t from ht.symm)
   have ht' := ht.symm
   clear hy hb h hc ht
   cases t
   ·go_wp2_with fail
    go_round
    case rel => exact ⟨k + 1, by omega, by go_num, hw.succ Hy.out Ht.out⟩
    case measure => simp [intOf]; omega
   ·go_wp2_with fail
    go_ret
    exact ⟨ret_int (hw.hit Hy.out Ht.out).symm, rfl⟩
  ·obtain rfl : k = n := by omega
   go_wp2_with fail
   go_ret
   exact ⟨ret_int (NoneTo.miss (by rw [← hn'.out]; exact hw)).symm, rfl⟩
theorem demsBy_at {l : List DemD} {k : Nat} {d : DemD} (h : l[k]? = some d) : demsBy l k (l.drop k) = (isName d.name && decide (idx (nameIs d.name) l = k) && boxOk d.zone && stepsOk d.steps && demsBy l (k + 1) (l.drop (k + 1))) := by
 rw [drop_at' h, demsBy]
set_option maxHeartbeats 4000000 in
theorem refDems_any (A : Option Addr) (l : List DemD) (n c : Nat) (w : World) {B : Nat} (h : DemsAt w B A l) (hB : B ≤ w.heap.size) (hn : n = l.length) (hm : n ≤ 60000) (hd : ∀ d ∈ l, d.name.size ≤ maxLen ∧ d.steps.length ≤ 60000) :
  Calls Tryz.prog 42 #[.slice A n c] w fun e w' => e = .returned (.bool (demsOk l)) ∧ Below w.heap.size w w' := by
 have hn' := hide hn
 have Hs := hide h
 have Hd := hide hd
 by_cases hbig : 20 < n
 ·have hr := hide (show demsOk l = false by simp [demsOk, ← hn]; omega)
  have d0 : decide (20 < (n : Int)) = true := by simp; omega
  clear hn h hbig
  go_enter Tryz.func42, Tryz.ntmps42
  go_wp2_with fail
  go_ret
  exact ⟨ret_bool hr.out.symm, Below.refl _ _⟩
 have hr := hide (show demsOk l = demsBy l 0 (l.drop 0) by rw [demsOk_ref, decide_eq_true (by omega)]; rfl)
 have d0 : decide (20 < (n : Int)) = false := by simp; omega
 clear hn h hd
 go_enter Tryz.func42, Tryz.ntmps42
 go_wp2_with fail
 go_loopw [3] (fun i wr => ∃ k : Nat, k ≤ n ∧ i = .int .i64 k ∧ Hid (demsBy l 0 (l.drop 0) = demsBy l k (l.drop k)) ∧ Below w.heap.size w wr) (fun i _ => n - (intOf i).toNat)
 case atStart => exact ⟨0, Nat.zero_le _, rfl, hide rfl, Below.refl _ _⟩
 case round =>
  obtain ⟨k, hk, rfl, hq, hbr⟩ := hrel
  by_cases hlt : k < n
  ·obtain ⟨b, off, x, A', c', rfl, hbl, hx, hst, hcs⟩ := DemsAt.get (k := k) Hs.out (by rw [← hn'.out]; exact hlt)
   have hbw := Nat.lt_of_lt_of_le hbl hB
   have HC := hide (fun (W : World) (hz : Below w.heap.size w W) (j : Nat) (v : Value) (hj : ([.string x.name] ++ encB x.zone ++ [.slice A' x.steps.length c'] : List Value)[j]? = some v) => (hz.cell (p := ⟨b, off + k * 8 + j, none⟩) hbw).trans (hcs j v hj))
   have HI := hide (fun (W : World) => refIsName_any x.name W (Hd.out x (mem_of_get hx)).1)
   have HFi := hide (fun (W : World) (hz : Below w.heap.size w W) => refDemFind_any (some ⟨b, off, none⟩) l n c x.name W (SlOf.carry demR_carried Hs.out (hz.mono hB) (Nat.le_refl _)) hn'.out hm)
   have HBx := hide (fun (W : World) => refBox_any x.zone W)
   have HSt := hide (fun (W : World) (hz : Below w.heap.size w W) => refSteps_any A' x.steps x.steps.length c' W (hst.carry (Flat.carried _) (hz.mono hB) (Nat.le_refl _)) (Nat.le_trans hB hz.size) rfl (Hd.out x (mem_of_get hx)).2)
   have Hq := hide (hq.out.trans (demsBy_at hx))
   have HWr := hide hbr
   obtain ⟨a1, ha1⟩ : ∃ t, t = isName x.name := ⟨_, rfl⟩
   obtain ⟨q2, hq2⟩ : ∃ t, t = idx (nameIs x.name) l := ⟨_, rfl⟩
   obtain ⟨a3, ha3⟩ : ∃ t, t = boxOk x.zone := ⟨_, rfl⟩
   obtain ⟨a4, ha4⟩ : ∃ t, t = stepsOk x.steps := ⟨_, rfl⟩
   rw [← ha1, ← hq2, ← ha3, ← ha4] at Hq
   rw [← ha1] at HI
   rw [← hq2] at HFi
   rw [← ha3] at HBx
   rw [← ha4] at HSt
   obtain ⟨name, ⟨⟨x1, x2, x3⟩, x4, x5, x6⟩, steps⟩ := x
   simp only at HC HSt HI HFi
   generalize steps.length = sl at *
   clear ha1 hq2 ha3 ha4 hx hbl hst hcs hq hbr
   have e0 := HC.out _ HWr.out 0 _ rfl
   simp only [Nat.add_zero] at e0
   go_wp2_with fail
   refine (HI.out _).mono ?_
   rintro e w1 ⟨rfl, rfl⟩
   cases a1
   ·go_wp2_with fail
    go_ret
    exact ⟨ret_bool (by rw [hr.out, Hq.out]; rfl), HWr.out⟩
   go_wp2_with fail
   refine (HFi.out _ HWr.out).mono ?_
   rintro e w1 ⟨rfl, rfl⟩
   by_cases hi : q2 = k
   case neg =>
    have hi' : (q2 != (k : Int)) = true := by simpa using hi
    have Hi := hide (show decide (q2 = (k : Int)) = false by simpa using hi)
    clear hi
    go_wp2_with fail
    go_ret
    exact ⟨ret_bool (by rw [hr.out, Hq.out, Hi.out]; rfl), HWr.out⟩
   have hi' : (q2 != (k : Int)) = false := by simpa using hi
   have Hi := hide (show decide (q2 = (k : Int)) = true by simpa using hi)
   clear hi
   have e1 := HC.out _ HWr.out 1 _ rfl
   have e2 := HC.out _ HWr.out 2 _ rfl
   have e3 := HC.out _ HWr.out 3 _ rfl
   have e4 := HC.out _ HWr.out 4 _ rfl
   have e5 := HC.out _ HWr.out 5 _ rfl
   have e6 := HC.out _ HWr.out 6 _ rfl
   go_wp2_with fail
   refine (HBx.out _).mono ?_
   rintro e w1 ⟨rfl, hb⟩
   have HWr := hide (below_step HWr.out hb (Nat.le_refl _))
   clear hb e0 e1 e2 e3 e4 e5 e6
   cases a3
   ·go_wp2_with fail
    go_ret
    exact ⟨ret_bool (by rw [hr.out, Hq.out, Hi.out]; rfl), HWr.out⟩
   have e7 := HC.out _ HWr.out 7 _ rfl
   go_wp2_with fail
   refine (HSt.out _ HWr.out).mono ?_
   rintro e w1 ⟨rfl, hb⟩
   have HWr := hide (below_step HWr.out hb (Nat.le_refl _))
   clear hb e7
   cases a4
   ·go_wp2_with fail
    go_ret
    exact ⟨ret_bool (by rw [hr.out, Hq.out, Hi.out]; rfl), HWr.out⟩
   ·go_wp2_with fail
    go_roundw
    case rel => exact ⟨k + 1, by omega, by go_num, hide (by rw [Hq.out, Hi.out]; rfl), HWr.out⟩
    case measure => simp [intOf]; omega
  ·obtain rfl : k = n := by omega
   go_wp2_with fail
   go_ret
   exact ⟨ret_bool (by rw [hr.out, hq.out, List.drop_of_length_le (by rw [← hn'.out]; exact Nat.le_refl _)]; rfl), hbr⟩
set_option maxHeartbeats 400000 in
theorem refRat_any (n : Int) (w : World) :
  Calls Tryz.prog 92 #[.int .i64 n] w fun e w' => e = .returned (.bool (ratOk n)) ∧ w = w' := by
 have hr : ratOk n = (decide (1 ≤ n) && decide (n ≤ 1000)) := rfl
 rw [hr]
 cases q0 : decide (1 ≤ n) <;> cases q1 : decide (n ≤ 1000)
 all_goals
  go_enter Tryz.func92, Tryz.ntmps92
  go_wp2_with fail
  go_ret
  exact ⟨rfl, rfl⟩
set_option maxHeartbeats 4000000 in
theorem refRule_any (r : RuleD) (w : World) :
  Calls Tryz.prog 43 #[.agg #[.int .i64 r.num, .int .i64 r.den, .int .i64 r.poorNum, .int .i64 r.poorDen, .int .i64 r.bendNum, .int .i64 r.bendDen, .int .i64 r.lapNum, .int .i64 r.lapDen, .int .i64 r.least]] w fun e w' => e = .returned (.bool (ruleOk r)) ∧ Below w.heap.size w w' := by
 obtain ⟨r1, r2, r3, r4, r5, r6, r7, r8, r9⟩ := r
 have hr : ruleOk ⟨r1, r2, r3, r4, r5, r6, r7, r8, r9⟩ = (ratOk r1 && (ratOk r2 && (ratOk r3 && (ratOk r4 && (ratOk r5 && (ratOk r6 && (ratOk r7 && (ratOk r8 && (decide (r4 ≤ r3) && (decide (r8 ≤ r7) && (decide (r5 ≤ r6) && (decide (0 ≤ r9) && decide (r9 ≤ 1000))))))))))))) := by
  simp only [ruleOk, List.all_cons, List.all_nil, Bool.and_true, within, Bool.and_assoc]
 rw [hr]
 clear hr
 have H1 := fun W => refRat_any r1 W
 have H2 := fun W => refRat_any r2 W
 have H3 := fun W => refRat_any r3 W
 have H4 := fun W => refRat_any r4 W
 have H5 := fun W => refRat_any r5 W
 have H6 := fun W => refRat_any r6 W
 have H7 := fun W => refRat_any r7 W
 have H8 := fun W => refRat_any r8 W
 generalize ratOk r1 = a1 at *
 generalize ratOk r2 = a2 at *
 generalize ratOk r3 = a3 at *
 generalize ratOk r4 = a4 at *
 generalize ratOk r5 = a5 at *
 generalize ratOk r6 = a6 at *
 generalize ratOk r7 = a7 at *
 generalize ratOk r8 = a8 at *
 have H1 := hide H1
 have H2 := hide H2
 have H3 := hide H3
 have H4 := hide H4
 have H5 := hide H5
 have H6 := hide H6
 have H7 := hide H7
 have H8 := hide H8
 have K0 := hide (Blk.new w 32 #[.int .i64 r1, .int .i64 r2, .int .i64 r3, .int .i64 r4, .int .i64 r5, .int .i64 r6, .int .i64 r7, .int .i64 r8, .int .i64 r9])
 have HW := hide (below_new w (.cells #[.int .i64 r1, .int .i64 r2, .int .i64 r3, .int .i64 r4, .int .i64 r5, .int .i64 r6, .int .i64 r7, .int .i64 r8, .int .i64 r9] 32))
 go_enter Tryz.func43, Tryz.ntmps43
 go_wp2_with fail
 refine (H1.out _).mono ?_
 rintro e w1 ⟨rfl, rfl⟩
 cases a1
 ·go_wp2_with fail
  go_ret
  exact ⟨rfl, HW.out⟩
 go_wp2_with fail
 refine (H2.out _).mono ?_
 rintro e w1 ⟨rfl, rfl⟩
 cases a2
 ·go_wp2_with fail
  go_ret
  exact ⟨rfl, HW.out⟩
 go_wp2_with fail
 refine (H3.out _).mono ?_
 rintro e w1 ⟨rfl, rfl⟩
 cases a3
 ·go_wp2_with fail
  go_ret
  exact ⟨rfl, HW.out⟩
 go_wp2_with fail
 refine (H4.out _).mono ?_
 rintro e w1 ⟨rfl, rfl⟩
 cases a4
 ·go_wp2_with fail
  go_ret
  exact ⟨rfl, HW.out⟩
 go_wp2_with fail
 refine (H5.out _).mono ?_
 rintro e w1 ⟨rfl, rfl⟩
 cases a5
 ·go_wp2_with fail
  go_ret
  exact ⟨rfl, HW.out⟩
 go_wp2_with fail
 refine (H6.out _).mono ?_
 rintro e w1 ⟨rfl, rfl⟩
 cases a6
 ·go_wp2_with fail
  go_ret
  exact ⟨rfl, HW.out⟩
 go_wp2_with fail
 refine (H7.out _).mono ?_
 rintro e w1 ⟨rfl, rfl⟩
 cases a7
 ·go_wp2_with fail
  go_ret
  exact ⟨rfl, HW.out⟩
 go_wp2_with fail
 refine (H8.out _).mono ?_
 rintro e w1 ⟨rfl, rfl⟩
 cases a8
 ·go_wp2_with fail
  go_ret
  exact ⟨rfl, HW.out⟩
 cases q0 : decide (r4 ≤ r3)
 ·go_wp2_with fail
  go_ret
  exact ⟨ret_bool (by first | rfl | (rw [q0]; rfl) | (rw [q0, q1]; rfl) | (rw [q0, q1, q2]; rfl) | (rw [q0, q1, q2, q3]; rfl) | (rw [q0, q1, q2, q3, q4]; rfl)), HW.out⟩
 cases q1 : decide (r8 ≤ r7)
 ·go_wp2_with fail
  go_ret
  exact ⟨ret_bool (by first | rfl | (rw [q0]; rfl) | (rw [q0, q1]; rfl) | (rw [q0, q1, q2]; rfl) | (rw [q0, q1, q2, q3]; rfl) | (rw [q0, q1, q2, q3, q4]; rfl)), HW.out⟩
 cases q2 : decide (r5 ≤ r6)
 ·go_wp2_with fail
  go_ret
  exact ⟨ret_bool (by first | rfl | (rw [q0]; rfl) | (rw [q0, q1]; rfl) | (rw [q0, q1, q2]; rfl) | (rw [q0, q1, q2, q3]; rfl) | (rw [q0, q1, q2, q3, q4]; rfl)), HW.out⟩
 cases q3 : decide (0 ≤ r9)
 ·go_wp2_with fail
  go_ret
  exact ⟨ret_bool (by first | rfl | (rw [q0]; rfl) | (rw [q0, q1]; rfl) | (rw [q0, q1, q2]; rfl) | (rw [q0, q1, q2, q3]; rfl) | (rw [q0, q1, q2, q3, q4]; rfl)), HW.out⟩
 cases q4 : decide (r9 ≤ 1000)
 all_goals
  go_wp2_with fail
  go_ret
  exact ⟨ret_bool (by first | rfl | (rw [q0]; rfl) | (rw [q0, q1]; rfl) | (rw [q0, q1, q2]; rfl) | (rw [q0, q1, q2, q3]; rfl) | (rw [q0, q1, q2, q3, q4]; rfl)), HW.out⟩
end Go.Proofs.YtpaanfjjnjjoeaaGreat
