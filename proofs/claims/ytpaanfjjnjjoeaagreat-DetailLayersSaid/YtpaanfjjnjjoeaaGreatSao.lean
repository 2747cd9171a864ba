/- The references of layers 10, 23, 24: whether steps, demands, a rule are valid. -/
import Derived.Test.YtpaanfjjnjjoeaaGreatSaj
set_option maxHeartbeats 8000000
namespace Go.Proofs.YtpaanfjjnjjoeaaGreat
open Go.RowKit
theorem zgN (n lo hi : Int) (w : World) :
  Calls Tryz.prog 151 #[.int .i64 n, .int .i64 lo, .int .i64 hi] w fun e w' => e = .returned (.bool (within n lo hi)) ∧ w = w' := by
 have hr : within n lo hi = (decide (lo ≤ n) && decide (n ≤ hi)) := rfl;rw [hr];cases q0 : decide (lo ≤ n) <;> cases q1 : decide (n ≤ hi)
 all_goals
  go_enter Tryz.func151, Tryz.ntmps151;go_wp2;go_ret;exact ⟨rfl, rfl⟩
theorem zl3 (n : Int) (w : World) :
  Calls Tryz.prog 150 #[.int .i64 n] w fun e w' => e = .returned (.bool (zaS n)) ∧ w = w' := by
 have H := zf (zgN n (-1048576) 1048576 w);go_enter Tryz.func150, Tryz.ntmps150;go_wp2_with fail;refine H.out.mono ?_;rintro e w1 ⟨rfl, rfl⟩;go_wp2;go_ret;exact ⟨rfl, rfl⟩
def zdl (l : List (Int × Int)) : Nat → Option Int
 | 0 => none
 | k + 1 => (l[k]?).map (·.1)
theorem zr0 {l : List (Int × Int)} {k : Nat} {x : Int × Int} (h : l[k]? = some x) : za3 (zdl l k) (l.drop k) = (zaS x.1 && within x.2 0 1099511627776 && (match zdl l k with | none => true | some p => decide (p < x.1)) && za3 (zdl l (k + 1)) (l.drop (k + 1))) := by
 have e : zdl l (k + 1) = some x.1 := by simp [zdl, h]
 rw [zhE h, e];cases zdl l k <;> rfl
theorem zl0 (A : Option Addr) (l : List (Int × Int)) (n c : Nat) (w : World) {B : Nat} (h : StpsAt w B A l) (hB : B ≤ w.heap.size) (hn : n = l.length) (hm : n ≤ 60000) :
  Calls Tryz.prog 91 #[.slice A n c] w fun e w' => e = .returned (.bool (zau l)) ∧ Below w.heap.size w w' := by
 have hn' := zf hn;have Hs := zf h;by_cases hbig : 200 < n
 ·have hr := zf (show zau l = false by simp [zau, ← hn]; omega);have d0 : decide (200 < (n : Int)) = true := by simp; omega
  clear hn h hbig;go_enter Tryz.func91, Tryz.ntmps91;go_wp2;go_ret;exact ⟨zo hr.out.symm, Below.refl _ _⟩
 have hr := zf (show zau l = za3 (zdl l 0) (l.drop 0) by simp [zau, ← hn, zdl]; omega);have d0 : decide (200 < (n : Int)) = false := by simp; omega
 clear hn h;go_enter Tryz.func91, Tryz.ntmps91;go_wp2;go_loopw [3] (fun i wr => ∃ k : Nat, k ≤ n ∧ i = .int .i64 k ∧ Hid (za3 (zdl l 0) (l.drop 0) = za3 (zdl l k) (l.drop k)) ∧ Below w.heap.size w wr) (fun i _ => n - (intOf i).toNat)
 case atStart => exact ⟨0, zu _, rfl, zf rfl, Below.refl _ _⟩
 case round =>
  obtain ⟨k, hk, rfl, hq, hbr⟩ := hrel;by_cases hlt : k < n
  ·have HR := zf (Hs.out.carry (Flat.carried _) (hbr.mono hB) (ze _));obtain ⟨b, off, x, hA, hbl, hx, f0, f1⟩ := StpsAt.get (k := k) HR.out (by rw [← hn'.out]; exact hlt);have Hq := zf (hq.out.trans (zr0 hx));obtain ⟨x1, x2⟩ := x;simp only at f0 f1 Hq;have H1 := fun W => zl3 x1 W;have H2 := fun W => zgN x2 0 1099511627776 W;generalize zaS x1 = a1 at *;generalize within x2 0 1099511627776 = a2 at *;have H1 := zf H1;have H2 := zf H2;have Hbr := zf hbr;have c0 := cell_regrown f0;have c1 := cell_regrown f1;cases a1
   ·subst hA;clear hx hq hbr hbl HR;go_wp2_with fail;refine wp_region_quiet_below (by kernel_rfl) (by kernel_rfl) ?_
    repeat (go_big_quiet_step (first
     | (go_at_call 150; exact zW (H1.out _))
     | (go_at_call 151; exact zW (H2.out _))))
    refine wpQuiet_nil ?_;intro w2 hw';have hbq := zf (show Below _ _ w2 by obtain ⟨p, rfl⟩ := hw'; exact below_regrown _ _ _);clear hw';go_wp2;go_ret;exact ⟨zo (by rw [hr.out, Hq.out]; rfl), Hbr.out.trans (hbq.out.mono Hbr.out.size)⟩
   cases a2
   ·subst hA;clear hx hq hbr hbl HR;go_wp2_with fail;refine wp_region_quiet_below (by kernel_rfl) (by kernel_rfl) ?_
    repeat (go_big_quiet_step (first
     | (go_at_call 150; exact zW (H1.out _))
     | (go_at_call 151; exact zW (H2.out _))))
    refine wpQuiet_nil ?_;intro w2 hw';have hbq := zf (show Below _ _ w2 by obtain ⟨p, rfl⟩ := hw'; exact below_regrown _ _ _);clear hw';go_wp2;go_ret;exact ⟨zo (by rw [hr.out, Hq.out]; rfl), Hbr.out.trans (hbq.out.mono Hbr.out.size)⟩
   cases k with
   | zero =>
    subst hA;have Hq := zf (show za3 (zdl l 0) (l.drop 0) = za3 (zdl l 1) (l.drop 1) by rw [Hq.out]; simp [zdl]);simp only [Nat.zero_mul, Nat.add_zero] at c0 c1;clear hx hq hbr hbl HR;go_wp2_with fail;refine wp_region_quiet_below (by kernel_rfl) (by kernel_rfl) ?_
    repeat (go_big_quiet_step (first
     | (go_at_call 150; exact zW (H1.out _))
     | (go_at_call 151; exact zW (H2.out _))))
    refine wpQuiet_nil ?_;intro w2 hw';have hbq := zf (show Below _ _ w2 by obtain ⟨p, rfl⟩ := hw'; exact below_regrown _ _ _);clear hw';go_wp2;go_roundw
    case rel => exact ⟨1, by omega, by go_num, Hq, Hbr.out.trans (hbq.out.mono Hbr.out.size)⟩
    case measure => simp [intOf]; omega
   | succ j =>
    obtain ⟨b', off', y, hA', hbl', hy, g0, g1⟩ := StpsAt.get (k := j) HR.out (by rw [← hn'.out]; omega);rw [hA] at hA';injection hA' with hA'
    injection hA' with e1 e2
    subst e1 e2 hA;obtain ⟨y1, y2⟩ := y;simp only at g0;have Hq := zf (show za3 (zdl l 0) (l.drop 0) = (decide (y1 < x1) && za3 (zdl l (j + 1 + 1)) (l.drop (j + 1 + 1))) by rw [Hq.out]; simp [zdl, hy]);have c2 := cell_regrown g0;have z1 : IntKind.i64.wrap ((j : Int) + 1 - 1) = (j : Int) := by rw [zbL]; exact zr _ (by omega)
    have z2 : IntKind.i64.wrap (j : Int) = (j : Int) := zr _ (by omega);have z3 : decide ((0 : Int) < (j : Int) + 1) = true := zI (by omega);by_cases hd : x1 ≤ y1
    ·have Hd := zf (show decide (y1 < x1) = false by simp; omega);have hd' : decide (x1 ≤ y1) = true := by simpa using hd
     clear hx hy hq hbr hbl hbl' HR g1 f0 f1 g0 hd;go_wp2_with fail;refine wp_region_quiet_below (by kernel_rfl) (by kernel_rfl) ?_
     repeat (go_big_quiet_step (first
      | (go_at_call 150; exact zW (H1.out _))
      | (go_at_call 151; exact zW (H2.out _))))
     refine wpQuiet_nil ?_;intro w2 hw';have hbq := zf (show Below _ _ w2 by obtain ⟨p, rfl⟩ := hw'; exact below_regrown _ _ _);clear hw';go_wp2;go_ret;exact ⟨zo (by rw [hr.out, Hq.out, Hd.out]; rfl), Hbr.out.trans (hbq.out.mono Hbr.out.size)⟩
    ·have Hd := zf (show decide (y1 < x1) = true by simp; omega);have hd' : decide (x1 ≤ y1) = false := by simpa using hd
     clear hx hy hq hbr hbl hbl' HR g1 f0 f1 g0 hd;go_wp2_with fail;refine wp_region_quiet_below (by kernel_rfl) (by kernel_rfl) ?_
     repeat (go_big_quiet_step (first
      | (go_at_call 150; exact zW (H1.out _))
      | (go_at_call 151; exact zW (H2.out _))))
     refine wpQuiet_nil ?_;intro w2 hw';have hbq := zf (show Below _ _ w2 by obtain ⟨p, rfl⟩ := hw'; exact below_regrown _ _ _);clear hw';go_wp2;go_roundw
     case rel => exact ⟨j + 1 + 1, by omega, by go_num, zf (by rw [Hq.out, Hd.out]; rfl), Hbr.out.trans (hbq.out.mono Hbr.out.size)⟩
     case measure => simp [intOf]; omega
  ·obtain rfl : k = n := by omega
   go_wp2;go_ret;exact ⟨zo (by rw [hr.out, hq.out, List.drop_of_length_le (by rw [← hn'.out]; exact ze _)]; rfl), hbr⟩
theorem zkd (A : Option Addr) (l : List DemD) (n c : Nat) (m : ByteArray) (w : World) {B : Nat} (h : DemsAt w B A l) (hn : n = l.length) (hm : n ≤ 60000) :
  Calls Tryz.prog 89 #[.slice A n c, .string m] w fun e w' => e = .returned (.int .i64 (idx (zc2 m) l)) ∧ w = w' := by
 have hn' := zf hn; clear hn;go_enter Tryz.func89, Tryz.ntmps89;go_wp2;go_loop [5] (fun i => ∃ k : Nat, k ≤ n ∧ i = .int .i64 k ∧ NoneTo (zc2 m) l k) (fun i => n - (intOf i).toNat)
 case atStart => exact ⟨0, zu _, rfl, NoneTo.zero _ _⟩
 case round =>
  obtain ⟨k, hk, rfl, hw⟩ := hrel;by_cases hlt : k < n
  ·obtain ⟨b, off, y, A', c', rfl, hb, hy, _, hc⟩ := DemsAt.get h (k := k) (by rw [← hn'.out]; exact hlt);have Hy := zf hy;have c0 := hc 0 _ rfl;simp only [Nat.add_zero] at c0;obtain ⟨t, ht⟩ : ∃ t, t = (y.name.toList == m.toList) := ⟨_, rfl⟩;have Ht := zf (show zc2 m y = t from ht.symm);have ht' := ht.symm;clear hy hb h hc ht;cases t
   ·go_wp2_with fail;go_round
    case rel => exact ⟨k + 1, by omega, by go_num, hw.succ Hy.out Ht.out⟩
    case measure => simp [intOf]; omega
   ·go_wp2;go_ret;exact ⟨zam (hw.hit Hy.out Ht.out).symm, rfl⟩
  ·obtain rfl : k = n := by omega
   go_wp2;go_ret;exact ⟨zam (NoneTo.miss (by rw [← hn'.out]; exact hw)).symm, rfl⟩
theorem zri {l : List DemD} {k : Nat} {d : DemD} (h : l[k]? = some d) : zfx l k (l.drop k) = (zb8 d.name && decide (idx (zc2 d.name) l = k) && zad d.zone && zau d.steps && zfx l (k + 1) (l.drop (k + 1))) := by
 rw [zaX h, zfx]
theorem zno (A : Option Addr) (l : List DemD) (n c : Nat) (w : World) {B : Nat} (h : DemsAt w B A l) (hB : B ≤ w.heap.size) (hn : n = l.length) (hm : n ≤ 60000) (hd : ∀ d ∈ l, d.name.size ≤ maxLen ∧ d.steps.length ≤ 60000) :
  Calls Tryz.prog 42 #[.slice A n c] w fun e w' => e = .returned (.bool (zb0 l)) ∧ Below w.heap.size w w' := by
 have hn' := zf hn;have Hs := zf h;have Hd := zf hd;by_cases hbig : 20 < n
 ·have hr := zf (show zb0 l = false by simp [zb0, ← hn]; omega);have d0 : decide (20 < (n : Int)) = true := by simp; omega
  clear hn h hbig;go_enter Tryz.func42, Tryz.ntmps42;go_wp2;go_ret;exact ⟨zo hr.out.symm, Below.refl _ _⟩
 have hr := zf (show zb0 l = zfx l 0 (l.drop 0) by rw [zpp, zI (by omega)]; rfl);have d0 : decide (20 < (n : Int)) = false := by simp; omega
 clear hn h hd;go_enter Tryz.func42, Tryz.ntmps42;go_wp2;go_loopw [3] (fun i wr => ∃ k : Nat, k ≤ n ∧ i = .int .i64 k ∧ Hid (zfx l 0 (l.drop 0) = zfx l k (l.drop k)) ∧ Below w.heap.size w wr) (fun i _ => n - (intOf i).toNat)
 case atStart => exact ⟨0, zu _, rfl, zf rfl, Below.refl _ _⟩
 case round =>
  obtain ⟨k, hk, rfl, hq, hbr⟩ := hrel;by_cases hlt : k < n
  ·obtain ⟨b, off, x, A', c', rfl, hbl, hx, hst, hcs⟩ := DemsAt.get (k := k) Hs.out (by rw [← hn'.out]; exact hlt);have hbw := zt hbl hB;have HC := zf (fun (W : World) (hz : Below w.heap.size w W) (j : Nat) (v : Value) (hj : ([.string x.name] ++ zdm x.zone ++ [.slice A' x.steps.length c'] : List Value)[j]? = some v) => (hz.cell (p := ⟨b, off + k * 8 + j, none⟩) hbw).trans (hcs j v hj));have HI := zf (fun (W : World) => zfB x.name W (Hd.out x (zv hx)).1);have HFi := zf (fun (W : World) (hz : Below w.heap.size w W) => zkd (some ⟨b, off, none⟩) l n c x.name W (SlOf.carry zba Hs.out (hz.mono hB) (ze _)) hn'.out hm);have HBx := zf (fun (W : World) => zjK x.zone W);have HSt := zf (fun (W : World) (hz : Below w.heap.size w W) => zl0 A' x.steps x.steps.length c' W (hst.carry (Flat.carried _) (hz.mono hB) (ze _)) (zh hB hz.size) rfl (Hd.out x (zv hx)).2);have Hq := zf (hq.out.trans (zri hx));have HWr := zf hbr;obtain ⟨a1, ha1⟩ : ∃ t, t = zb8 x.name := ⟨_, rfl⟩;obtain ⟨q2, hq2⟩ : ∃ t, t = idx (zc2 x.name) l := ⟨_, rfl⟩;obtain ⟨a3, ha3⟩ : ∃ t, t = zad x.zone := ⟨_, rfl⟩;obtain ⟨a4, ha4⟩ : ∃ t, t = zau x.steps := ⟨_, rfl⟩;rw [← ha1, ← hq2, ← ha3, ← ha4] at Hq;rw [← ha1] at HI;rw [← hq2] at HFi;rw [← ha3] at HBx;rw [← ha4] at HSt;obtain ⟨name, ⟨⟨x1, x2, x3⟩, x4, x5, x6⟩, steps⟩ := x;simp only at HC HSt HI HFi;generalize steps.length = sl at *;clear ha1 hq2 ha3 ha4 hx hbl hst hcs hq hbr;have e0 := HC.out _ HWr.out 0 _ rfl;simp only [Nat.add_zero] at e0;go_wp2_with fail;refine (HI.out _).mono ?_;rintro e w1 ⟨rfl, rfl⟩;cases a1
   ·go_wp2;go_ret;exact ⟨zo (by rw [hr.out, Hq.out]; rfl), HWr.out⟩
   go_wp2_with fail;refine (HFi.out _ HWr.out).mono ?_;rintro e w1 ⟨rfl, rfl⟩;by_cases hi : q2 = k
   case neg =>
    have hi' : (q2 != (k : Int)) = true := by simpa using hi
    have Hi := zf (show decide (q2 = (k : Int)) = false by simpa using hi);clear hi;go_wp2;go_ret;exact ⟨zo (by rw [hr.out, Hq.out, Hi.out]; rfl), HWr.out⟩
   have hi' : (q2 != (k : Int)) = false := by simpa using hi
   have Hi := zf (show decide (q2 = (k : Int)) = true by simpa using hi);clear hi;have e1 := HC.out _ HWr.out 1 _ rfl;have e2 := HC.out _ HWr.out 2 _ rfl;have e3 := HC.out _ HWr.out 3 _ rfl;have e4 := HC.out _ HWr.out 4 _ rfl;have e5 := HC.out _ HWr.out 5 _ rfl;have e6 := HC.out _ HWr.out 6 _ rfl;go_wp2_with fail;refine (HBx.out _).mono ?_;rintro e w1 ⟨rfl, hb⟩;have HWr := zf (zg HWr.out hb (ze _));clear hb e0 e1 e2 e3 e4 e5 e6;cases a3
   ·go_wp2;go_ret;exact ⟨zo (by rw [hr.out, Hq.out, Hi.out]; rfl), HWr.out⟩
   have e7 := HC.out _ HWr.out 7 _ rfl;go_wp2_with fail;refine (HSt.out _ HWr.out).mono ?_;rintro e w1 ⟨rfl, hb⟩;have HWr := zf (zg HWr.out hb (ze _));clear hb e7;cases a4
   ·go_wp2;go_ret;exact ⟨zo (by rw [hr.out, Hq.out, Hi.out]; rfl), HWr.out⟩
   ·go_wp2;go_roundw
    case rel => exact ⟨k + 1, by omega, by go_num, zf (by rw [Hq.out, Hi.out]; rfl), HWr.out⟩
    case measure => simp [intOf]; omega
  ·obtain rfl : k = n := by omega
   go_wp2;go_ret;exact ⟨zo (by rw [hr.out, hq.out, List.drop_of_length_le (by rw [← hn'.out]; exact ze _)]; rfl), hbr⟩
theorem zc8 (n : Int) (w : World) :
  Calls Tryz.prog 92 #[.int .i64 n] w fun e w' => e = .returned (.bool (zcM n)) ∧ w = w' := by
 have hr : zcM n = (decide (1 ≤ n) && decide (n ≤ 1000)) := rfl;rw [hr];cases q0 : decide (1 ≤ n) <;> cases q1 : decide (n ≤ 1000)
 all_goals
  go_enter Tryz.func92, Tryz.ntmps92;go_wp2;go_ret;exact ⟨rfl, rfl⟩
theorem znj (r : RuleD) (w : World) :
  Calls Tryz.prog 43 #[.agg #[.int .i64 r.num, .int .i64 r.den, .int .i64 r.poorNum, .int .i64 r.poorDen, .int .i64 r.bendNum, .int .i64 r.bendDen, .int .i64 r.lapNum, .int .i64 r.lapDen, .int .i64 r.least]] w fun e w' => e = .returned (.bool (zbH r)) ∧ Below w.heap.size w w' := by
 obtain ⟨r1, r2, r3, r4, r5, r6, r7, r8, r9⟩ := r;have hr : zbH ⟨r1, r2, r3, r4, r5, r6, r7, r8, r9⟩ = (zcM r1 && (zcM r2 && (zcM r3 && (zcM r4 && (zcM r5 && (zcM r6 && (zcM r7 && (zcM r8 && (decide (r4 ≤ r3) && (decide (r8 ≤ r7) && (decide (r5 ≤ r6) && (decide (0 ≤ r9) && decide (r9 ≤ 1000))))))))))))) := by
  simp only [zbH, List.all_cons, List.all_nil, Bool.and_true, within, Bool.and_assoc]
 rw [hr];clear hr;have H1 := fun W => zc8 r1 W;have H2 := fun W => zc8 r2 W;have H3 := fun W => zc8 r3 W;have H4 := fun W => zc8 r4 W;have H5 := fun W => zc8 r5 W;have H6 := fun W => zc8 r6 W;have H7 := fun W => zc8 r7 W;have H8 := fun W => zc8 r8 W;generalize zcM r1 = a1 at *;generalize zcM r2 = a2 at *;generalize zcM r3 = a3 at *;generalize zcM r4 = a4 at *;generalize zcM r5 = a5 at *;generalize zcM r6 = a6 at *;generalize zcM r7 = a7 at *;generalize zcM r8 = a8 at *;have H1 := zf H1;have H2 := zf H2;have H3 := zf H3;have H4 := zf H4;have H5 := zf H5;have H6 := zf H6;have H7 := zf H7;have H8 := zf H8;have K0 := zf (Blk.new w 32 #[.int .i64 r1, .int .i64 r2, .int .i64 r3, .int .i64 r4, .int .i64 r5, .int .i64 r6, .int .i64 r7, .int .i64 r8, .int .i64 r9]);have HW := zf (zk w (.cells #[.int .i64 r1, .int .i64 r2, .int .i64 r3, .int .i64 r4, .int .i64 r5, .int .i64 r6, .int .i64 r7, .int .i64 r8, .int .i64 r9] 32));go_enter Tryz.func43, Tryz.ntmps43;go_wp2_with fail;refine (H1.out _).mono ?_;rintro e w1 ⟨rfl, rfl⟩;cases a1
 ·go_wp2;go_ret;exact ⟨rfl, HW.out⟩
 go_wp2_with fail;refine (H2.out _).mono ?_;rintro e w1 ⟨rfl, rfl⟩;cases a2
 ·go_wp2;go_ret;exact ⟨rfl, HW.out⟩
 go_wp2_with fail;refine (H3.out _).mono ?_;rintro e w1 ⟨rfl, rfl⟩;cases a3
 ·go_wp2;go_ret;exact ⟨rfl, HW.out⟩
 go_wp2_with fail;refine (H4.out _).mono ?_;rintro e w1 ⟨rfl, rfl⟩;cases a4
 ·go_wp2;go_ret;exact ⟨rfl, HW.out⟩
 go_wp2_with fail;refine (H5.out _).mono ?_;rintro e w1 ⟨rfl, rfl⟩;cases a5
 ·go_wp2;go_ret;exact ⟨rfl, HW.out⟩
 go_wp2_with fail;refine (H6.out _).mono ?_;rintro e w1 ⟨rfl, rfl⟩;cases a6
 ·go_wp2;go_ret;exact ⟨rfl, HW.out⟩
 go_wp2_with fail;refine (H7.out _).mono ?_;rintro e w1 ⟨rfl, rfl⟩;cases a7
 ·go_wp2;go_ret;exact ⟨rfl, HW.out⟩
 go_wp2_with fail;refine (H8.out _).mono ?_;rintro e w1 ⟨rfl, rfl⟩;cases a8
 ·go_wp2;go_ret;exact ⟨rfl, HW.out⟩
 cases q0 : decide (r4 ≤ r3)
 ·go_wp2;go_ret;exact ⟨zo (by first | rfl | (rw [q0]; rfl) | (rw [q0, q1]; rfl) | (rw [q0, q1, q2]; rfl) | (rw [q0, q1, q2, q3]; rfl) | (rw [q0, q1, q2, q3, q4]; rfl)), HW.out⟩
 cases q1 : decide (r8 ≤ r7)
 ·go_wp2;go_ret;exact ⟨zo (by first | rfl | (rw [q0]; rfl) | (rw [q0, q1]; rfl) | (rw [q0, q1, q2]; rfl) | (rw [q0, q1, q2, q3]; rfl) | (rw [q0, q1, q2, q3, q4]; rfl)), HW.out⟩
 cases q2 : decide (r5 ≤ r6)
 ·go_wp2;go_ret;exact ⟨zo (by first | rfl | (rw [q0]; rfl) | (rw [q0, q1]; rfl) | (rw [q0, q1, q2]; rfl) | (rw [q0, q1, q2, q3]; rfl) | (rw [q0, q1, q2, q3, q4]; rfl)), HW.out⟩
 cases q3 : decide (0 ≤ r9)
 ·go_wp2;go_ret;exact ⟨zo (by first | rfl | (rw [q0]; rfl) | (rw [q0, q1]; rfl) | (rw [q0, q1, q2]; rfl) | (rw [q0, q1, q2, q3]; rfl) | (rw [q0, q1, q2, q3, q4]; rfl)), HW.out⟩
 cases q4 : decide (r9 ≤ 1000)
 all_goals
  go_wp2;go_ret;exact ⟨zo (by first | rfl | (rw [q0]; rfl) | (rw [q0, q1]; rfl) | (rw [q0, q1, q2]; rfl) | (rw [q0, q1, q2, q3]; rfl) | (rw [q0, q1, q2, q3, q4]; rfl)), HW.out⟩
end Go.Proofs.YtpaanfjjnjjoeaaGreat
