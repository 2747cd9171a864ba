/- Step functions and demands: whether they are valid. -/
import Derived.Test.YtpaanfjjnjjoeaaGreatSac
import Derived.IntWalk
import Derived.Deep.RegionWith
import Derived.Deep.RegionHeld
import Derived.Lib.SliceRun
set_option maxHeartbeats 8000000
set_option maxRecDepth 100000
namespace Go.Proofs.YtpaanfjjnjjoeaaGreat
open Go.RowKit
theorem SlOf.take {α : Type} {w : World} {B size : Nat} {R : World → Nat → List Value → α → Prop} {A : Option Addr} {l : List α} (h : SlOf w B size R A l) (k : Nat) : SlOf w B size R A (l.take k) := by
 intro hl;obtain ⟨b, off, hA, hb, hc⟩ := h (by rw [zG] at hl; omega);refine ⟨b, off, hA, hb, fun j x hx => ?_⟩;rw [List.getElem?_take] at hx
 split at hx
 ·exact hc j x hx
 ·cases hx
theorem zgy {P : Program} {f : FuncId} {args : Array Value} {w : World} {n : Nat} {v : Value} (h : Calls P f args (w.drewN n) fun e w' => e = .returned v ∧ w.drewN n = w') :
  Calls P f args (w.drewN n) fun e w'' => e = .returned v ∧ ∃ m, w'' = w.drewN m := h.mono fun _ _ ⟨he, hm⟩ => ⟨he, n, hm.symm⟩
theorem zaT {B : Nat} {a w : World} (h : Below B a w) (n : Nat) : Below B a (w.drewN n) := ⟨h.os, h.tape, h.output, h.size, h.block⟩
theorem zkY (n : Int) (w : World) : Calls Tryz.prog 276 #[.int .i64 n] w fun e w' => e = .returned (.bool (zaS n)) ∧ w = w' := by
 go_enter Tryz.func276, Tryz.ntmps276;go_wp2
 all_goals
  go_ret;exact ⟨zo (by rw [Bool.eq_iff_iff]; simp [zaS]; try omega), rfl⟩
def zfu (l : List (Int × Int)) (k : Nat) : Option Int := if k = 0 then none else (l[k - 1]?).map (·.1)
theorem zhE {l : List (Int × Int)} {k : Nat} {s : Int × Int} (h : l[k]? = some s) (last : Option Int) :
  za3 last (l.drop k) = (zaS s.1 && within s.2 0 1099511627776 && (match last with | none => true | some p => decide (p < s.1)) && za3 (some s.1) (l.drop (k + 1))) := by
 rw [zaX h]
 rfl
theorem zdR (A : Option Addr) (l : List (Int × Int)) (n c : Nat) (w : World) {B : Nat} (h : StpsAt w B A l) (hB : B ≤ w.heap.size) (hn : n = l.length) (hm : (n : Int) ≤ 9223372036854775807) :
  Calls Tryz.prog 241 #[.slice A n c] w fun e w' => e = .returned (.bool (zau l)) ∧ Below w.heap.size w w' := by
 have hn' := zf hn;have Hs := zf h;by_cases h200 : 200 < n
 ·have hr := zf (show zau l = false by simp [zau]; omega);have d0 : decide (200 < (n : Int)) = true := by simp; omega
  clear hn h h200;go_enter Tryz.func241, Tryz.ntmps241;go_wp2;go_ret;exact ⟨zo hr.out.symm, Below.refl _ _⟩
 have hr := zf (show zau l = za3 (zfu l 0) (l.drop 0) by simp [zau, zfu]; omega);have d0 : decide (200 < (n : Int)) = false := by simp; omega
 have hn2 : n ≤ 200 := by omega
 clear hn h h200 hm;go_enter Tryz.func241, Tryz.ntmps241;go_wp2;go_loopw [10] (fun i wr => ∃ k : Nat, k ≤ n ∧ i = .int .i64 k ∧ Hid (zau l = za3 (zfu l k) (l.drop k)) ∧ Below w.heap.size w wr) (fun i _ => n - (intOf i).toNat)
 case atStart => exact ⟨0, zu _, rfl, hr, Below.refl _ _⟩
 case round =>
  obtain ⟨k, hk, rfl, hq, hbr⟩ := hrel;by_cases hlt : k < n
  ·obtain ⟨b, off, x, hA, hbl, hx, c0, c1⟩ := StpsAt.get (k := k) (Hs.out.carry (Flat.carried _) (hbr.mono hB) (ze B)) (by rw [← hn'.out]; exact hlt);subst hA;have hbw : b < wr.heap.size := by have := hbr.size; omega
   have hs1 := zf (hq.out.trans (zhE hx _));have Hx := zf hx;have Hnext := zf (show zfu l (k + 1) = some x.1 by rw [zfu, if_neg (by omega), Nat.add_sub_cancel, hx]; rfl);have hprev : k = 0 ∨ (0 < k ∧ ∃ p : Int, Hid (zfu l k = some p) ∧ wr.cell? ⟨b, off + (k - 1) * 2, none⟩ = some (.int .i64 p)) := by
    rcases Nat.eq_zero_or_pos k with h0 | h0
    ·exact .inl h0
    ·obtain ⟨b', off', y, hA', _, hy, e0, _⟩ := StpsAt.get (k := k - 1) (Hs.out.carry (Flat.carried _) (hbr.mono hB) (ze B)) (by rw [← hn'.out]; omega);injection hA' with hA'
     injection hA' with h1 h2
     subst h1; subst h2;exact .inr ⟨h0, y.1, zf (by rw [zfu, if_neg (by omega), hy]; rfl), e0⟩
   clear hx hq hbl;obtain ⟨f, v⟩ := x;simp only at c0 c1 hs1 Hnext;have fin : ∀ r : Bool, zau l = r → Hid (r = zau l) := fun r h => zf h.symm;have hways : (zaS f = false ∧ Hid (false = zau l)) ∨
     (zaS f = true ∧ decide (v < 0) = true ∧ Hid (false = zau l)) ∨
     (zaS f = true ∧ decide (v < 0) = false ∧ decide (1099511627776 < v) = true ∧ Hid (false = zau l)) ∨
     (zaS f = true ∧ decide (v < 0) = false ∧ decide (1099511627776 < v) = false) := by
    cases h1 : zaS f
    ·exact .inl ⟨rfl, fin _ (by rw [hs1.out, h1]; rfl)⟩
    ·right
     by_cases h2 : v < 0
     ·exact .inl ⟨rfl, by simpa using h2, fin _ (by rw [hs1.out, h1, within, show decide (0 ≤ v) = false by simpa using h2]; rfl)⟩
     ·right
      by_cases h3 : 1099511627776 < v
      ·exact .inl ⟨rfl, by simpa using h2, by simpa using h3, fin _ (by rw [hs1.out, h1, within, show decide (v ≤ 1099511627776) = false by simpa using h3]; simp)⟩
      ·exact .inr ⟨rfl, by simpa using h2, by simpa using h3⟩
   rcases hways with ⟨p0, hres⟩ | ⟨p0, q1, hres⟩ | ⟨p0, q1, q2, hres⟩ | ⟨p0, q1, q2⟩
   rotate_right 1
   ·have HP := zf (fun (W : World) => zkY f W);rw [p0] at HP;have hw1 := show within v 0 1099511627776 = true by simp [within] at *; omega
    have hs2 := zf (hs1.out.trans (by rw [p0, hw1, Bool.true_and, Bool.true_and]));clear p0 hw1 hs1 fin;rcases hprev with h0 | ⟨h0, p, hp, e0⟩
    ·have hs3 := zf (show zau l = za3 (zfu l (k + 1)) (l.drop (k + 1)) by rw [hs2.out, Hnext.out, zfu, if_pos h0]; rfl);have q3 : decide (0 < k) = false := by simp; omega
     clear h0;go_wp2_with fail;obtain ⟨w1, hw1⟩ : ∃ w1, w1 = wr.alloc (.cells #[.int .i64 f, .int .i64 v] 71) := ⟨_, rfl⟩;have hb1 := Blk.new wr 71 #[.int .i64 f, .int .i64 v];have Hw1 := zf (hbr.alloc hbr.size (.cells #[.int .i64 f, .int .i64 v] 71));rw [← hw1] at hb1 Hw1 ⊢;have g0 := hb1.cell 0;have g1 := hb1.cell 1;simp at g0 g1;clear hb1;clear hw1 c0 c1;go_quiet ((go_at_call 276; exact zgy (HP.out _)))
     go_wp2;go_roundw
     case rel => exact ⟨k + 1, by omega, by go_num, hs3, zaT Hw1.out _⟩
     case measure => simp [intOf]; omega
    ·have hs3 := zf (hs2.out.trans (by rw [hp.out]));have q3 : decide (0 < (k : Int)) = true := by simp; omega
     by_cases hle : f ≤ p
     ·have q4 : decide (f ≤ p) = true := by simpa using hle
      have hres := zf (show false = zau l by rw [hs3.out]; simp; omega);go_wp2_with fail;obtain ⟨w1, hw1⟩ : ∃ w1, w1 = wr.alloc (.cells #[.int .i64 f, .int .i64 v] 71) := ⟨_, rfl⟩;have hb1 := Blk.new wr 71 #[.int .i64 f, .int .i64 v];have Hw1 := zf (hbr.alloc hbr.size (.cells #[.int .i64 f, .int .i64 v] 71));rw [← hw1] at hb1 Hw1 ⊢;have g0 := hb1.cell 0;have g1 := hb1.cell 1;simp at g0 g1;clear hb1;have e1 : w1.cell? ⟨b, off + (k - 1) * 2, none⟩ = some (.int .i64 p) := by rw [hw1]; exact (World.cell?_alloc_lt _ _ _ hbw).trans e0
      clear hw1 c0 c1 e0 hle;go_quiet ((go_at_call 276; exact zgy (HP.out _)))
      go_wp2;go_ret;exact ⟨zo hres.out, zaT Hw1.out _⟩
     ·have q4 : decide (f ≤ p) = false := by simpa using hle
      have hs4 := zf (show zau l = za3 (zfu l (k + 1)) (l.drop (k + 1)) by rw [hs3.out, Hnext.out]; simp; omega);go_wp2_with fail;obtain ⟨w1, hw1⟩ : ∃ w1, w1 = wr.alloc (.cells #[.int .i64 f, .int .i64 v] 71) := ⟨_, rfl⟩;have hb1 := Blk.new wr 71 #[.int .i64 f, .int .i64 v];have Hw1 := zf (hbr.alloc hbr.size (.cells #[.int .i64 f, .int .i64 v] 71));rw [← hw1] at hb1 Hw1 ⊢;have g0 := hb1.cell 0;have g1 := hb1.cell 1;simp at g0 g1;clear hb1;have e1 : w1.cell? ⟨b, off + (k - 1) * 2, none⟩ = some (.int .i64 p) := by rw [hw1]; exact (World.cell?_alloc_lt _ _ _ hbw).trans e0
      clear hw1 c0 c1 e0 hle;go_quiet ((go_at_call 276; exact zgy (HP.out _)))
      go_wp2;go_roundw
      case rel => exact ⟨k + 1, by omega, by go_num, hs4, zaT Hw1.out _⟩
      case measure => simp [intOf]; omega
   all_goals
    have HP := zf (fun (W : World) => zkY f W);rw [p0] at HP;clear p0 hprev fin;go_wp2_with fail;obtain ⟨w1, hw1⟩ : ∃ w1, w1 = wr.alloc (.cells #[.int .i64 f, .int .i64 v] 71) := ⟨_, rfl⟩;have hb1 := Blk.new wr 71 #[.int .i64 f, .int .i64 v];have Hw1 := zf (hbr.alloc hbr.size (.cells #[.int .i64 f, .int .i64 v] 71));rw [← hw1] at hb1 Hw1 ⊢;have g0 := hb1.cell 0;have g1 := hb1.cell 1;simp at g0 g1;clear hb1;clear hw1 c0 c1;go_quiet ((go_at_call 276; exact zgy (HP.out _)))
    go_wp2;go_ret;exact ⟨zo hres.out, zaT Hw1.out _⟩
  ·obtain rfl : k = n := by omega
   have hfull := zf (show zau l = true by rw [hq.out, hn'.out, zar]; rfl);go_wp2;go_ret;exact ⟨zo hfull.out.symm, hbr⟩
theorem zm2 (n : Int) (w : World) : Calls Tryz.prog 230 #[.int .i64 n] w fun e w' => e = .returned (.bool (zc0 n)) ∧ w = w' := by
 have hways : (decide (n = 0) = true ∧ Hid (false = zc0 n)) ∨ (decide (n = 0) = false ∧ decide (-3 ≤ n) = false ∧ Hid (false = zc0 n)) ∨ (decide (n = 0) = false ∧ decide (-3 ≤ n) = true ∧ decide (n ≤ 3) = false ∧ Hid (false = zc0 n)) ∨ (decide (n = 0) = false ∧ decide (-3 ≤ n) = true ∧ decide (n ≤ 3) = true ∧ Hid (true = zc0 n)) := by
  have key : ∀ r, (!decide (n = 0) && decide (-3 ≤ n) && decide (n ≤ 3)) = r → Hid (r = zc0 n) := fun r hr => zf (by rw [zc0, hr])
  revert key
  generalize zc0 n = R;cases decide (n = 0) <;> cases decide (-3 ≤ n) <;> cases decide (n ≤ 3) <;> intro key <;> simp <;> first | exact zf (key false rfl).out.symm | exact zf (key true rfl).out.symm
 rcases hways with ⟨q0, hres⟩ | ⟨q0, q1, hres⟩ | ⟨q0, q1, q2, hres⟩ | ⟨q0, q1, q2, hres⟩
 all_goals
  have q9 : (n != 0) = !decide (n = 0) := by rw [Bool.eq_iff_iff]; simp
  rw [q0] at q9;clear q0;go_enter Tryz.func230, Tryz.ntmps230;go_wp2;go_ret;exact ⟨zo hres.out, rfl⟩
def ze0 (n : Int) : Prop := n = 1 ∨ n = 2 ∨ n = 3 ∨ n = -1 ∨ n = -2 ∨ n = -3
theorem zdq {n : Int} (h : zc0 n = true) : ze0 n := by
 simp only [zc0, zm, Bool.not_eq_true', zzI, zzJ] at h;unfold ze0;omega
abbrev ptV (p : Pt) : Value := .agg #[.int .i64 p.1, .int .i64 p.2.1, .int .i64 p.2.2]
theorem zmB (n : Int) (w : World) (h : ze0 n) : Calls Tryz.prog 324 #[.int .i64 n] w fun e w' => e = .returned (ptV (zaQ n)) ∧ Below w.heap.size w w' := by
 have B1 := zf (Blk.new w 276 #[.int .i64 0, .int .i64 0, .int .i64 0]);rcases h with rfl | rfl | rfl | rfl | rfl | rfl
 all_goals
  go_enter Tryz.func324, Tryz.ntmps324;go_wp2_with fail;refine bodyPost_ret (zaU rfl rfl ((Blk.new w _ _).alloc _) Tryz.underlying276 rfl (by kernel_rfl)) rfl ?_;exact ⟨rfl, zH w _ _⟩
theorem zbQ {a b : Int} (ha : -1 ≤ a ∧ a ≤ 1) (hb : -1 ≤ b ∧ b ≤ 1) : -1 ≤ a * b ∧ a * b ≤ 1 := by
 have h1 : a = -1 ∨ a = 0 ∨ a = 1 := by omega
 rcases h1 with rfl | rfl | rfl <;> omega
theorem zaL {a b m : Int} (ha : -1 ≤ a ∧ a ≤ 1) (hb : -m ≤ b ∧ b ≤ m) (hm : 0 ≤ m) : -m ≤ a * b ∧ a * b ≤ m := by
 have h1 : a = -1 ∨ a = 0 ∨ a = 1 := by omega
 rcases h1 with rfl | rfl | rfl <;> omega
def zeG (p : Pt) : Prop := (-1 ≤ p.1 ∧ p.1 ≤ 1) ∧ (-1 ≤ p.2.1 ∧ p.2.1 ≤ 1) ∧ (-1 ≤ p.2.2 ∧ p.2.2 ≤ 1)
theorem zcm {n : Int} (h : ze0 n) : zeG (zaQ n) := by
 unfold zeG;rcases h with rfl | rfl | rfl | rfl | rfl | rfl <;> decide
theorem zho {x y : Int} (h : zav x y = true) : zeG (zdw (zaQ x) (zaQ y)) := by
 simp only [zav, zm, Bool.not_eq_true', zzI] at h;have hx := zdq h.1.1.1;have hy := zdq h.1.1.2;have h1 := h.1.2;have h2 := h.2;clear h;unfold zeG;rcases hx with rfl | rfl | rfl | rfl | rfl | rfl <;> rcases hy with rfl | rfl | rfl | rfl | rfl | rfl <;> first | (exfalso; omega) | decide
theorem zrl (a b : Pt) (w : World) (ha : zeG a) (hb : zeG b) :
  Calls Tryz.prog 325 #[ptV a, ptV b] w fun e w' => e = .returned (ptV (zdw a b)) ∧ Below w.heap.size w w' := by
 obtain ⟨a1, a2, a3⟩ := a;obtain ⟨b1, b2, b3⟩ := b;obtain ⟨x1, x2, x3⟩ := ha;obtain ⟨y1, y2, y3⟩ := hb;simp only at x1 x2 x3 y1 y2 y3;have m1 := zbQ x2 y3;have m2 := zbQ x3 y2;have m3 := zbQ x3 y1;have m4 := zbQ x1 y3;have m5 := zbQ x1 y2;have m6 := zbQ x2 y1;go_enter Tryz.func325, Tryz.ntmps325;go_wp2_with fail;refine bodyPost_ret (zaU rfl rfl (Blk.new2 w _ _ _ _) Tryz.underlying276 rfl (by kernel_rfl)) rfl ?_;exact ⟨rfl, (zH w _ _).alloc (by simp; omega) _⟩
structure MainD where
 leg : BoxD
 has : Bool
 size : Int
 mark : ByteArray
def zdK (m : MainD) : List Value := zdm m.leg ++ [.bool m.has, .int .i64 m.size, .string m.mark]
theorem zgI (m : MainD) : (zdK m).length = 9 := rfl
theorem ziV (m : MainD) : ∀ u ∈ zdK m, u.oneCell' = true := by
 intro u hu;rcases List.mem_append.1 hu with hu | hu
 ·exact zfI m.leg u hu
 ·simp only [List.mem_cons, List.not_mem_nil, or_false] at hu;rcases hu with rfl | rfl | rfl <;> rfl
abbrev MainsAt (w : World) (B : Nat) (A : Option Addr) (l : List MainD) : Prop := SlOf w B 9 (Flat zdK) A l
theorem MainsAt.get {w : World} {B : Nat} {A : Option Addr} {l : List MainD} (h : MainsAt w B A l) {k : Nat} (hk : k < l.length) :
  ∃ b off x, A = some ⟨b, off, none⟩ ∧ b < B ∧ l[k]? = some x ∧ ∀ j v, (zdK x)[j]? = some v → w.cell? ⟨b, off + k * 9 + j, none⟩ = some v := by
 obtain ⟨b, off, x, vs, hA, hb, hx, _, hr, hc⟩ := h.at_ hk;have hr' : vs = zdK x := hr;subst hr';exact ⟨b, off, x, hA, hb, hx, hc⟩
def MainD.opt (m : MainD) : Option BoxD := if m.has then some m.leg else none
def zaK (x : LaidD) : MainD := match zaR x with
 | some b => ⟨b, true, x.bar.size, x.bar.mark⟩
 | none => ⟨⟨(0, 0, 0), (0, 0, 0)⟩, false, x.bar.size, x.bar.mark⟩
theorem zoU (x : LaidD) : (zaK x).opt = zaR x := by
 unfold zaK MainD.opt;cases zaR x <;> rfl
theorem zk3 (l : List LaidD) : (l.map zaK).map MainD.opt = l.map zaR := by
 rw [List.map_map];apply List.map_congr_left;intro x _;exact zoU x
def zcW (l : List MainD) (j : JoinD) : Bool := zbA (l.map MainD.opt) j
theorem znK {l : List MainD} {j : JoinD} (h : j.first < 0 ∨ (l.length : Int) ≤ j.first ∨ j.second < 0 ∨ (l.length : Int) ≤ j.second) : zcW l j = false := by
 rw [zcW, zbA, zw];rcases h with h | h | h | h
 ·rw [zE (show ¬ 0 ≤ j.first by omega)]; simp
 ·rw [zE (show ¬ j.first < (l.length : Int) by omega)]; simp
 ·rw [zE (show ¬ 0 ≤ j.second by omega)]; simp
 ·rw [zE (show ¬ j.second < (l.length : Int) by omega)]; simp
theorem zjT {l : List MainD} {p q : Nat} {a b : MainD} (ha : l[p]? = some a) (hb : l[q]? = some b) :
  zcW l ⟨p, q⟩ = (a.has && b.has && decide (a.leg.lo.1 < b.leg.lo.1) && decide (a.leg.hi.1 < b.leg.hi.1) && decide (b.leg.lo.1 ≤ a.leg.hi.1)) := by
 have h1 := zaa ha;have h2 := zaa hb;have e1 : (l.map MainD.opt).getD p none = a.opt := by rw [zY, zaH, ha]; rfl
 have e2 : (l.map MainD.opt).getD q none = b.opt := by rw [zY, zaH, hb]; rfl
 rw [zcW, zbA, zw];simp only [zaz];rw [e1, e2, zI (show (0 : Int) ≤ (p : Int) by omega), zI (show (p : Int) < (l.length : Int) by omega), zI (show (0 : Int) ≤ (q : Int) by omega), zI (show (q : Int) < (l.length : Int) by omega)];obtain ⟨la, ha', sa, ma⟩ := a;obtain ⟨lb, hb', sb, mb⟩ := b;cases ha' <;> cases hb' <;> simp [MainD.opt]
def zfv (a : BoxD) (l : List BoxD) : BoxD := l.foldl (fun a b => ⟨zmz a.lo b.lo, zmA a.hi b.hi⟩) a
theorem znL (a : BoxD) (l : List BoxD) (b : BoxD) : zfv a (l ++ [b]) = ⟨zmz (zfv a l).lo b.lo, zmA (zfv a l).hi b.hi⟩ := by simp [zfv, List.foldl_append]
def zex (l : List BoxD) : BoxD := match l with
 | [] => ⟨(0, 0, 0), (0, 0, 0)⟩
 | b :: _ => zfv b l
theorem zj1 (A : Option Addr) (l : List BoxD) (n c : Nat) (w : World) {B : Nat} (h : BoxesAt w B A l) (hB : B ≤ w.heap.size) (hn : n = l.length) (hm : n ≤ 300000) :
  Calls Tryz.prog 235 #[.slice A n c] w fun e w' => e = .returned (.bool (l.all zad)) ∧ Below w.heap.size w w' := by
 have HF := zf (zct A l n c 273 zjq w h hB hn hm Tryz.call273 (fun x W _ => zpD x W));have Hr := zf (show l.all zad = !za5 zjq l by rw [zgD]; rfl);clear h hn;go_enter Tryz.func235, Tryz.ntmps235;go_wp2_with fail;refine HF.out.mono ?_;rintro e w2 ⟨rfl, hb2⟩;go_wp2;go_ret;exact ⟨zo Hr.out.symm, hb2⟩
theorem zj0 (A : Option Addr) (l : List BoxD) (n c : Nat) (w : World) {B : Nat} (h : BoxesAt w B A l) (hB : B ≤ w.heap.size) (hn : n = l.length) (hm : n ≤ 300000) (hne : 1 ≤ n) (hok : l.all zad = true) :
  Calls Tryz.prog 178 #[.slice A n c] w fun e w' => e = .returned (.tuple #[bx (zex l), .int .i64 0]) ∧ Below w.heap.size w w' := by
 have HA := zf (fun (wz : World) (hz : Below w.heap.size w wz) => zj1 A l n c wz (h.carry (Flat.carried _) (hz.mono hB) (ze B)) (zh hB hz.size) hn hm);rw [hok] at HA;have Hs := zf h;have hn' := zf hn;clear hok h hn;obtain ⟨b0, h0⟩ : ∃ b, l[0]? = some b := ⟨_, zi (by rw [← hn'.out]; omega)⟩;have Hh := zf (show zex l = zfv b0 l by
  cases l with
  | nil => simp at h0
  | cons b r => simp at h0; subst h0; rfl)
 have H0 := zf h0;clear h0;go_enter Tryz.func178, Tryz.ntmps178;go_wp2_with fail;have Hw := zf (zk w (.cells #[.int .i64 0, .int .i64 0, .int .i64 0, .int .i64 0, .int .i64 0, .int .i64 0] 62));have Hb := zf (Blk.new w 62 #[.int .i64 0, .int .i64 0, .int .i64 0, .int .i64 0, .int .i64 0, .int .i64 0]);refine (HA.out _ Hw.out).mono ?_;rintro e w2 ⟨rfl, hb2⟩;have Hw2 := zf (zg Hw.out hb2 (ze _));have Hb2 := zf (Hb.out.keep hb2);have q0 : ((n : Int) == 0) = false := by simp; omega
 obtain ⟨b, off, x, hA, hbl, hx, k0, k1, k2, k3, k4, k5⟩ := BoxesAt.get (k := 0) (Hs.out.carry (Flat.carried _) (Hw2.out.mono hB) (ze B)) (by rw [← hn'.out]; omega);rw [H0.out] at hx;injection hx with hx
 subst hx;subst hA;simp only [Nat.zero_mul, Nat.add_zero] at k0 k1 k2 k3 k4 k5;have hpos : 0 < n := by omega
 clear hb2 hbl;go_wp2_with fail;obtain ⟨w3, hw3⟩ : ∃ w3, w3 = w2.alloc (.cells #[.int .i64 b0.lo.1, .int .i64 b0.lo.2.1, .int .i64 b0.lo.2.2, .int .i64 b0.hi.1, .int .i64 b0.hi.2.1, .int .i64 b0.hi.2.2] 62) := ⟨_, rfl⟩;have Ho := zf (Blk.new w2 62 #[.int .i64 b0.lo.1, .int .i64 b0.lo.2.1, .int .i64 b0.lo.2.2, .int .i64 b0.hi.1, .int .i64 b0.hi.2.1, .int .i64 b0.hi.2.2]);have Hw3 := zf (zk w2 (.cells #[.int .i64 b0.lo.1, .int .i64 b0.lo.2.1, .int .i64 b0.lo.2.2, .int .i64 b0.hi.1, .int .i64 b0.hi.2.1, .int .i64 b0.hi.2.2] 62));have Hsz := zf (show w3.heap.size = w2.heap.size + 1 by rw [hw3]; simp);rw [← hw3] at Ho Hw3 ⊢;clear hw3;go_loopw [22] (fun i wr => ∃ k : Nat, k ≤ n ∧ i = .int .i64 k ∧ (∃ a1 a2 a3 b1 b2 b3 : Int, Blk wr w2.heap.size 62 #[.int .i64 a1, .int .i64 a2, .int .i64 a3, .int .i64 b1, .int .i64 b2, .int .i64 b3] ∧ Hid (zfv b0 (l.take k) = ⟨(a1, a2, a3), (b1, b2, b3)⟩)) ∧ Below w2.heap.size w2 wr) (fun i _ => n - (intOf i).toNat)
 case atStart => exact ⟨0, zu _, rfl, ⟨_, _, _, _, _, _, Ho.out, zf rfl⟩, Hw3.out⟩
 case round =>
  obtain ⟨k, hk, rfl, ⟨a1, a2, a3, b1, b2, b3, hbo, hho⟩, hbr⟩ := hrel;have Hbo := zf hbo;clear hbo;by_cases hlt : k < n
  ·obtain ⟨b', off', y, hA, hbl, hy, e0, e1, e2, e3, e4, e5⟩ := BoxesAt.get (k := k) (Hs.out.carry (Flat.carried _) ((Hw2.out.trans (hbr.mono Hw2.out.size)).mono hB) (ze B)) (by rw [← hn'.out]; exact hlt);injection hA with hA
   injection hA with hA1 hA2
   subst hA1;subst hA2;obtain ⟨⟨y1, y2, y3⟩, ⟨z1, z2, z3⟩⟩ := y;simp only at e0 e1 e2 e3 e4 e5;have Hn := zf (show zfv b0 (l.take (k + 1)) = ⟨(min a1 y1, min a2 y2, min a3 y3), (max b1 z1, max b2 z2, max b3 z3)⟩ by rw [zQ hy, znL, hho.out]; rfl);have hbl2 : b < wr.heap.size := by have := (Hw2.out.trans (hbr.mono Hw2.out.size)).size; omega
   have g0 := Hbo.out.cell 0;have g1 := Hbo.out.cell 1;have g2 := Hbo.out.cell 2;have g3 := Hbo.out.cell 3;have g4 := Hbo.out.cell 4;have g5 := Hbo.out.cell 5;simp at g0 g1 g2 g3 g4 g5;have f0 := Hbo.out.frozen 0;have f1 := Hbo.out.frozen 1;have f2 := Hbo.out.frozen 2;have f3 := Hbo.out.frozen 3;have f4 := Hbo.out.frozen 4;have f5 := Hbo.out.frozen 5;have hgl := Hbo.out.lt;clear hy hho hbl;go_wp2;go_roundw
   case rel =>
    refine ⟨k + 1, by omega, by go_num, ⟨_, _, _, _, _, _, ((((((Hbo.out.set_ 0 _).set_ 1 _).set_ 2 _).set_ 3 _).set_ 4 _).set_ 5 _).alloc _, zf ?_⟩, ?_⟩
    ·rw [Hn.out];simp only [zod, zlw]
    ·exact ((((((hbr.setCell (ze _) _).setCell (ze _) _).setCell (ze _) _).setCell (ze _) _).setCell (ze _) _).setCell (ze _) _).alloc (by simpa [World.setCell] using hbr.size) _
   case measure => simp [intOf]; omega
  ·obtain rfl : k = n := by omega
   have hfull : zex l = ⟨(a1, a2, a3), (b1, b2, b3)⟩ := by rw [Hh.out, ← hho.out, hn'.out, zF]
   have Hfull := zf hfull;have Hr := zf (Hb2.out.below hbr (by have := Hb2.out.lt; omega));have g0 := Hbo.out.cell 0;have g1 := Hbo.out.cell 1;have g2 := Hbo.out.cell 2;have g3 := Hbo.out.cell 3;have g4 := Hbo.out.cell 4;have g5 := Hbo.out.cell 5;simp at g0 g1 g2 g3 g4 g5;have m0 := Hr.out.cell 0;have m1 := Hr.out.cell 1;have m2 := Hr.out.cell 2;have m3 := Hr.out.cell 3;have m4 := Hr.out.cell 4;have m5 := Hr.out.cell 5;simp at m0 m1 m2 m3 m4 m5;have f0 := Hr.out.frozen 0;have f1 := Hr.out.frozen 1;have f2 := Hr.out.frozen 2;have f3 := Hr.out.frozen 3;have f4 := Hr.out.frozen 4;have f5 := Hr.out.frozen 5;have hgl := Hr.out.lt;have Hw9 := zf (Hw2.out.trans (hbr.mono Hw2.out.size));clear hho hfull;go_wp2_with fail;refine bodyPost_ret (zbK rfl rfl ((((((Hr.out.set_ 0 _).set_ 1 _).set_ 2 _).set_ 3 _).set_ 4 _).set_ 5 _) Tryz.underlying62 rfl (by kernel_rfl)) rfl ?_;refine ⟨by rw [Hfull.out]; rfl, ?_⟩;exact (((((Hw9.out.setCell (ze _) _).setCell (ze _) _).setCell (ze _) _).setCell (ze _) _).setCell (ze _) _).setCell (ze _) _
theorem zh6 (A : Option Addr) (l : List BoxD) (n c : Nat) (fid : FuncId) (caps : Array Value) (p : BoxD → Bool) (w : World) {B : Nat} (h : BoxesAt w B A l) (hB : B ≤ w.heap.size) (hn : n = l.length) (hm : n ≤ 300000)
  (hc : ∀ args w, (callFunc fid args).run Tryz.prog w = .ok (.enter fid args) w)
  (hf : ∀ x (W : World), x ∈ l → Below w.heap.size w W → Calls Tryz.prog fid (#[bx x] ++ caps) W fun e W' => e = .returned (.bool (p x)) ∧ Below W.heap.size W W') :
  Calls Tryz.prog 271 #[.slice A n c, .func (.func fid) #[] caps] w fun e w' => e = .returned (.int .i64 (idx p l)) ∧ Below w.heap.size w w' := by
 have Hf := zf hf;have hn' := zf hn;have Hs := zf h;clear hf hn h;go_enter Tryz.func271, Tryz.ntmps271;go_wp2;go_loopw [8] (fun i wr => ∃ k : Nat, k ≤ n ∧ i = .int .i64 k ∧ NoneTo p l k ∧ Below w.heap.size w wr) (fun i _ => n - (intOf i).toNat)
 case atStart => exact ⟨0, zu _, rfl, NoneTo.zero _ _, Below.refl _ _⟩
 case round =>
  obtain ⟨k, hk, rfl, hw, hb⟩ := hrel;by_cases hlt : k < n
  ·obtain ⟨b, off, x, rfl, hbl, hx, h0, h1, h2, h3, h4, h5⟩ := BoxesAt.get (k := k) (SlOf.carry (Flat.carried _) Hs.out (hb.mono hB) (ze _)) (by rw [← hn'.out]; exact hlt);have Hx := zf hx;have HF := zf (fun (W : World) (hW : Below w.heap.size w W) => Hf.out x W (zv hx) hW);clear hx hbl;go_wp2_with fail;refine (HF.out _ hb).mono ?_;rintro e w1 ⟨rfl, hb1⟩;clear h0 h1 h2 h3 h4 h5;have hb2 := zg hb hb1 (ze _);cases hp : p x
   ·have Hp := zf hp;clear hp;go_wp2;go_roundw
    case rel => exact ⟨k + 1, by omega, by go_num, hw.succ Hx.out Hp.out, hb2⟩
    case measure => simp [intOf]; omega
   ·have Hp := zf hp;clear hp;go_wp2;go_ret;exact ⟨zam (hw.hit Hx.out Hp.out).symm, hb2⟩
  ·obtain rfl : k = n := by omega
   go_wp2;go_ret;exact ⟨zam (NoneTo.miss (by rw [← hn'.out]; exact hw)).symm, hb⟩
theorem zeq (A : Option Addr) (l : List BoxD) (n c : Nat) (fid : FuncId) (caps : Array Value) (p : BoxD → Bool) (w : World) {B : Nat} (h : BoxesAt w B A l) (hB : B ≤ w.heap.size) (hn : n = l.length) (hm : n ≤ 300000)
  (hc : ∀ args w, (callFunc fid args).run Tryz.prog w = .ok (.enter fid args) w)
  (hf : ∀ x (W : World), x ∈ l → Below w.heap.size w W → Calls Tryz.prog fid (#[bx x] ++ caps) W fun e W' => e = .returned (.bool (p x)) ∧ Below W.heap.size W W') :
  Calls Tryz.prog 233 #[.slice A n c, .func (.func fid) #[] caps] w fun e w' => e = .returned (.bool (za5 p l)) ∧ Below w.heap.size w w' := by
 have Hf := zf hf;have hn' := zf hn;have Hc := zf hc;clear hf hn hc;go_enter Tryz.func233, Tryz.ntmps233;go_wp2_with fail;refine (zh6 A l n c fid caps p w h hB hn'.out hm Hc.out Hf.out).mono ?_;rintro e w1 ⟨rfl, hb⟩;go_wp2;go_ret;exact ⟨zo (by rw [zfj]; rfl), hb⟩
def zlr (p q : Pt) : Bool := p.1 == q.1 && (p.2.1 == q.2.1 && p.2.2 == q.2.2)
def zcu (a b : BoxD) : Bool := zlr a.lo b.lo && zlr a.hi b.hi
def zhb (a b : ByteArray) : Bool := a.toList == b.toList
def zdk (a b : RunD) : Bool := zhb a.mark b.mark && ((a.tx == b.tx && a.ty == b.ty) && (zlr a.place b.place && (zlr a.step b.step && a.count == b.count)))
def zdG (a b : JoinD) : Bool := a.first == b.first && a.second == b.second
def zgj (a b : Int × Int) : Bool := a.1 == b.1 && a.2 == b.2
def zgq (a b : Int) : Bool := a == b
def zfw (a b : RuleD) : Bool := a.num == b.num && (a.den == b.den && (a.poorNum == b.poorNum && (a.poorDen == b.poorDen && (a.bendNum == b.bendNum && (a.bendDen == b.bendDen && (a.lapNum == b.lapNum && (a.lapDen == b.lapDen && a.least == b.least)))))))
def zbX {α : Type} (eq : α → α → Bool) (p : α × α) : Bool := !eq p.1 p.2
def za8 {α : Type} (eq : α → α → Bool) (l m : List α) : Bool := decide (l.length = m.length) && !za5 (zbX eq) (l.zip m)
def zfd (a b : BarD) : Bool := zhb a.mark b.mark && (a.size == b.size && (a.count == b.count && (a.code == b.code && za8 zgq a.dims b.dims)))
def zfc (a b : DemD) : Bool := zhb a.name b.name && (zcu a.zone b.zone && za8 zgj a.steps b.steps)
def zrF (a b : MemD) : Bool := zhb a.name b.name && (a.cover == b.cover && (a.aggregate == b.aggregate && (a.poker == b.poker && (za8 zcu a.boxes b.boxes && za8 zcu a.holes b.holes))))
def ziy (a b : DetD) : Bool := zrF a.mem b.mem && (za8 zfd a.bars b.bars && (za8 zdk a.runs b.runs && (za8 zdG a.laps b.laps && (za8 zfc a.dems b.dems && zfw a.rule b.rule))))
theorem zmX {p q : Pt} : zlr p q = true ↔ p = q := by
 obtain ⟨a, b, c⟩ := p;obtain ⟨a', b', c'⟩ := q;simp [zlr]
theorem zlc {a b : BoxD} : zcu a b = true ↔ a = b := by
 obtain ⟨p, q⟩ := a;obtain ⟨p', q'⟩ := b;simp [zcu, zmX]
theorem zf4 {a b : ByteArray} : zhb a b = true ↔ a = b := by
 rw [zhb, beq_iff_eq]
 constructor
 ·intro h;apply ByteArray.ext;rw [ByteArray.toList_eq, ByteArray.toList_eq] at h;exact Array.ext' h
 ·rintro rfl; rfl
theorem zq3 {a b : RunD} : zdk a b = true ↔ a = b := by
 obtain ⟨m, x, y, p, s, c⟩ := a;obtain ⟨m', x', y', p', s', c'⟩ := b;simp [zdk, zmX, zf4];intro _
 constructor
 ·rintro ⟨⟨h2, h3⟩, h4, h5, h6⟩; exact ⟨h2, h3, h4, h5, h6⟩
 ·rintro ⟨h2, h3, h4, h5, h6⟩; exact ⟨⟨h2, h3⟩, h4, h5, h6⟩
theorem zpj {a b : JoinD} : zdG a b = true ↔ a = b := by
 obtain ⟨m, x⟩ := a;obtain ⟨m', x'⟩ := b;simp [zdG]
theorem zq2 {a b : Int × Int} : zgj a b = true ↔ a = b := by
 obtain ⟨m, x⟩ := a;obtain ⟨m', x'⟩ := b;simp [zgj]
theorem zq5 {a b : Int} : zgq a b = true ↔ a = b := by simp [zgq]
theorem zpi {a b : RuleD} : zfw a b = true ↔ a = b := by
 obtain ⟨a1, a2, a3, a4, a5, a6, a7, a8, a9⟩ := a;obtain ⟨b1, b2, b3, b4, b5, b6, b7, b8, b9⟩ := b;simp [zfw]
theorem zoz {α : Type} {eq : α → α → Bool} (a b : α) (l m : List α) : za8 eq (a :: l) (b :: m) = (eq a b && za8 eq l m) := by
 rw [Bool.eq_iff_iff];simp [za8, za5, zbX]
 constructor
 ·rintro ⟨h1, h2, h3⟩; exact ⟨h2, h1, h3⟩
 ·rintro ⟨h2, h1, h3⟩; exact ⟨h1, h2, h3⟩
theorem zdZ {α : Type} {eq : α → α → Bool} (h : ∀ a b, eq a b = true ↔ a = b) : ∀ l m : List α, za8 eq l m = true ↔ l = m := by
 intro l
 induction l with
 | nil => intro m; cases m <;> simp [za8, za5]
 | cons a l ih =>
  intro m;cases m with
  | nil => simp [za8]
  | cons b m => rw [zoz, zm, h, ih]; simp
theorem zq8 {a b : BarD} : zfd a b = true ↔ a = b := by
 obtain ⟨m, x, y, p, s⟩ := a;obtain ⟨m', x', y', p', s'⟩ := b;simp [zfd, zf4, zdZ (@zq5)]
theorem zq7 {a b : DemD} : zfc a b = true ↔ a = b := by
 obtain ⟨m, x, y⟩ := a;obtain ⟨m', x', y'⟩ := b;simp [zfc, zf4, zlc, zdZ (@zq2)]
theorem zq4 {a b : MemD} : zrF a b = true ↔ a = b := by
 obtain ⟨m, x, y, p, s, r⟩ := a;obtain ⟨m', x', y', p', s', r'⟩ := b;simp [zrF, zf4, zdZ (@zlc)];intro _
 constructor
 ·rintro ⟨h2, h3, h4, h5, h6⟩; exact ⟨h5, h6, h2, h3, h4⟩
 ·rintro ⟨h5, h6, h2, h3, h4⟩; exact ⟨h2, h3, h4, h5, h6⟩
theorem zq6 {a b : DetD} : ziy a b = true ↔ a = b := by
 obtain ⟨m, x, y, p, s, r⟩ := a;obtain ⟨m', x', y', p', s', r'⟩ := b;simp [ziy, zq4, zpi, zdZ (@zq8), zdZ (@zq3), zdZ (@zpj), zdZ (@zq7)]
end Go.Proofs.YtpaanfjjnjjoeaaGreat
namespace Go.Proofs.YtpaanfjjnjjoeaaGreat
section
variable {P : Program} {ops : Array Oper} {Q : Exit → Act → World → Prop} {md : Region.Mode} {S : World → Prop} {n : Nat}
def HeldTo (P : Program) (md : Region.Mode) (ops : Array Oper) (Q : Exit → Act → World → Prop) (S : World → Prop) (n : Nat) : Nat → Array Bool → Act → World → Prop
 | 0, listed, a, w => Region.ready md ops listed = [] ∧ Q .normal a w
 | fuel + 1, listed, a, w =>
  (Region.ready md ops listed = [] → Q .normal a w) ∧
  ∀ i ∈ Region.ready md ops listed, wpOp P ops Q i (fun a' w' => (i < n → S w') ∧ HeldTo P md ops Q S n fuel (listed.setIfInBounds i true) a' w') a w
theorem HeldTo.any : ∀ (fuel : Nat) (listed : Array Bool) (a : Act) (w : World), HeldTo P md ops Q S n fuel listed a w → wpAny P md ops Q fuel listed a w
 | 0, _, _, _, h => h
 | fuel + 1, _, _, _, h => ⟨h.1, fun i hi => wpOp_mono (fun a' w' h' => HeldTo.any fuel _ a' w' h'.2) (h.2 i hi)⟩
def zpJ (md : Region.Mode) (ops : Array Oper) (j i : Nat) : Bool := ((ops[j]?).map fun o => o.after.any fun e => Region.binds md e && e.on == i).getD true
def zrE (md : Region.Mode) (ops : Array Oper) (n i : Nat) : Bool := (List.range ops.size).all fun j => decide (j < n) || decide (j = i) || zpJ md ops j i
theorem zoZ {i j : Nat} {o : Oper} (h : zrE md ops n i = true) (hj : ops[j]? = some o) (hn : n ≤ j) (hne : j ≠ i) : ∃ e ∈ o.after, Region.binds md e = true ∧ e.on = i := by
 have hlt : j < ops.size := (Array.getElem?_eq_some_iff.1 hj).1;have h1 := List.all_eq_true.1 h j (List.mem_range.2 hlt);simp only [Bool.or_eq_true, zzJ] at h1;rcases h1 with (h1 | h1) | h1
 ·omega
 ·exact absurd h1 hne
 ·unfold zpJ at h1;rw [hj] at h1;simp only [Option.map_some, Option.getD_some] at h1;obtain ⟨e, he, hb⟩ := Array.any_eq_true'.1 h1;simp only [zm, beq_iff_eq] at hb;exact ⟨e, he, hb.1, hb.2⟩
theorem HeldTo.first {i : Nat} {oi : Oper} {v : Value} (hi : ops[i]? = some oi) (hsel : ∀ (j : Nat) (o : Oper) cs b, ops[j]? = some o → o.op ≠ .select cs b)
  (hQ : ∀ c a w, Q (.panic c) (a.put oi.dst v) w → Q (.panic c) a w) (hlate : zrE md ops n i = true) :
  ∀ (fuel : Nat) (listed : Array Bool) (a : Act) (w : World),
   (∀ j oj, ops[j]? = some oj → j ≠ i → listed.getD j true = false → (∀ e ∈ oj.after, Region.binds md e = true → e.on ≠ i) → oi.apart ops oj = true) →
   i ∈ Region.ready md ops listed → YieldsIf P ops S oi v a → S w →
   HeldTo P md ops Q S n fuel (listed.setIfInBounds i true) (a.put oi.dst v) w → HeldTo P md ops Q S n (fuel + 1) listed a w := by
 intro fuel
 induction fuel with
 | zero =>
  intro listed a w _ hr hy hS H;refine ⟨fun h => (by rw [h] at hr; cases hr), fun j hj => ?_⟩;by_cases hji : j = i
  ·subst hji;exact hy.wpOp hi hS ⟨fun _ => hS, H⟩
  ·have := ready_mono hj hji;rw [H.1] at this;cases this
 | succ fuel ih =>
  intro listed a w hfree hr hy hS H;refine ⟨fun h => (by rw [h] at hr; cases hr), fun j hj => ?_⟩;by_cases hji : j = i
  ·subst hji;exact hy.wpOp hi hS ⟨fun _ => hS, H⟩
  ·obtain ⟨hun, oj, hoj, hall⟩ := mem_ready.1 hj;have hno : ∀ e ∈ oj.after, Region.binds md e = true → e.on ≠ i := fun e he hb heq => by
    have h1 := hall e he hb;rw [heq] at h1;have h0 := (mem_ready.1 hr).1;rcases Nat.lt_or_ge i listed.size with h' | h'
    ·simp [h'] at h0 h1;rw [h0] at h1;cases h1
    ·simp [Array.getElem?_eq_none h'] at h1
   have hjn : j < n := by
    rcases Nat.lt_or_ge j n with h9 | h9
    ·exact h9
    ·obtain ⟨e, he, hb, hon⟩ := zoZ hlate hoj h9 hji;exact absurd hon (hno e he hb)
   refine wpOp_mono (fun a' w' h3 => ⟨h3.2.1, ih (listed.setIfInBounds j true) a' w' ?_ (ready_mono hr (Ne.symm hji)) h3.1 (h3.2.1 hjn) ?_⟩)
    (wpOp_putIf hoj (hfree j oj hoj hji hun hno) (fun cs b => hsel i oi cs b hi) (fun cs b => hsel j oj cs b hoj) hQ hy (H.2 j (ready_mono hj hji)))
   ·intro k ok hk hki hku hkn;refine hfree k ok hk hki ?_ hkn;by_cases hjk : j = k
    ·subst hjk;exact hun
    ·rw [getD_set_ne true hjk] at hku;exact hku
   ·rw [Array.setIfInBounds_comm _ _ hji];exact h3.2.2
theorem HeldTo.take {i : Nat} {oi : Oper} {v : Value} {fuel : Nat} {listed : Array Bool} {a : Act} {w : World} (hi : ops[i]? = some oi)
  (hs : Region.noSelect ops = true) (hf : Region.free md ops listed i = true) (hr : (Region.ready md ops listed).contains i = true) (hl : zrE md ops n i = true)
  (hQ : ∀ c a w, Q (.panic c) (a.put oi.dst v) w → Q (.panic c) a w) (hy : YieldsIf P ops S oi v a) (hS : S w)
  (h : HeldTo P md ops Q S n fuel (listed.setIfInBounds i true) (a.put oi.dst v) w) : HeldTo P md ops Q S n (fuel + 1) listed a w :=
 HeldTo.first hi (Region.noSelect_spec hs) hQ hl fuel listed a w (Region.free_spec hi hf) (by simpa using hr) hy hS h
theorem HeldTo.done {listed : Array Bool} {a : Act} {w : World} (hr : Region.ready md ops listed = []) (h : Q .normal a w) : ∀ fuel, HeldTo P md ops Q S n fuel listed a w
 | 0 => ⟨hr, h⟩
 | _ + 1 => ⟨fun _ => h, by rw [hr]; simp⟩
theorem HeldTo.one {i : Nat} {o : Oper} {fuel : Nat} {listed : Array Bool} {a : Act} {w : World} (hr : Region.ready md ops listed = [i]) (ho : ops[i]? = some o)
  (h : ∀ K' : Act → World → Prop, Shut (∀ a w, (i < n → S w) → (S w ∨ n ≤ i → HeldTo P md ops Q S n fuel (listed.setIfInBounds i true) a w) → K' a w) → if Region.wanted o (yielded ops a.tmps) = true then Oper.wp P o a w K' Q else K' (a.put o.dst undef) w) :
  HeldTo P md ops Q S n (fuel + 1) listed a w := by
 refine ⟨fun h0 => (by rw [hr] at h0; cases h0), fun j hj => ?_⟩;rw [hr, zP] at hj;subst hj;refine wpOp_step ho (fun K' hK => h K' (fun a w hS hW => hK a w ⟨hS, hW ?_⟩));by_cases hn : j < n
 ·exact .inl (hS hn)
 ·exact .inr (by omega)
theorem zby {id : Nat} {a : Act} {w : World} (hm : P.follows .mixedOrders = true) (h : HeldTo P .any ops Q S n ops.size (Array.replicate ops.size false) a w.drew) : (Code.region id ops true).wp P Q a w :=
 wp_region_any hm (HeldTo.any _ _ _ _ h)
end
end Go.Proofs.YtpaanfjjnjjoeaaGreat
namespace Go.Proofs.YtpaanfjjnjjoeaaGreat
open Go.RowKit
theorem zdd {α : Type} {w : World} {B size : Nat} {R : World → Nat → List Value → α → Prop} {l : List α} (h : SlOf w B size R none l) : l = [] := by
 cases l with
 | nil => rfl
 | cons x r => obtain ⟨b, off, hA, _⟩ := h (by simp); cases hA
theorem zh1 (A : Option Addr) (l : List BoxD) (n c : Nat) (w : World) {B : Nat} (h : SlOf w B 6 (Flat zdm) A l) (hB : B ≤ w.heap.size) (hn : n = l.length) (hm : n ≤ 300000) :
  Calls Tryz.prog 128 #[.slice A n c] w fun e w' => ∃ A' c', e = .returned (.slice A' n c') ∧ Row w' w.heap.size 62 6 zdm (.slice A' n c') l ∧ Below w.heap.size w w' := by
 have q22 : ∀ (w : World) (a : Option Addr) (n c n' c' : Nat), (binOp .eql 22 (.slice a n c) (.slice none n' c')).run Tryz.prog w = .ok (.bool a.isNone) w := fun w a n c n' c' => Lib.run_eql_slice_nil w _ _ a n c n' c' Tryz.underlying22;cases A with
 | none =>
  obtain rfl := zdd h;obtain rfl : n = 0 := hn;clear h hm;go_enter Tryz.func128, Tryz.ntmps128;go_wp2;go_ret;exact ⟨none, 0, rfl, Row.nil _ _ _ _ _, Below.refl _ _⟩
 | some a =>
  have Hs := zf (SlOf.carry (Flat.carried _) h ((zk w (.cells #[] 62)).mono hB) (ze _));have Hn := zf hn;clear h hn;go_enter Tryz.func128, Tryz.ntmps128;go_wp2_with (at_builtin; refine za2 rfl _ _ 22 rfl w.heap.size 62 (.agg #[.int .i64 0, .int .i64 0, .int .i64 0, .int .i64 0, .int .i64 0, .int .i64 0]) 6 48 zdm Tryz.underlying22 (by kernel_rfl) rfl (by omega) zcN zfI _ [] l rfl (World.ownsRow_made w #[] 0 (ze _) (zu _) (by simp)) (some a) n c rfl Hn.out Hs.out (by simp) (by rw [← Hn.out]; omega) (by omega) (zM (ze _) _) ?_; intro A1 c1 w1 hrow hb1 hg1);rw [show ([] : List BoxD).length + n = n from Nat.zero_add n] at hrow;have Hb := zf ((zk w (.cells #[] 62)).trans hb1);have Hr := zf hrow;clear hrow hb1 hg1;go_wp2;go_ret;exact ⟨A1, c1, by simp, Hr.out, Hb.out⟩
theorem zmu (A : Option Addr) (l : List RunD) (n c : Nat) (w : World) {B : Nat} (h : SlOf w B 10 (Flat zcw) A l) (hB : B ≤ w.heap.size) (hn : n = l.length) (hm : n ≤ 300000) :
  Calls Tryz.prog 130 #[.slice A n c] w fun e w' => ∃ A' c', e = .returned (.slice A' n c') ∧ Row w' w.heap.size 66 10 zcw (.slice A' n c') l ∧ Below w.heap.size w w' := by
 have q22 : ∀ (w : World) (a : Option Addr) (n c n' c' : Nat), (binOp .eql 28 (.slice a n c) (.slice none n' c')).run Tryz.prog w = .ok (.bool a.isNone) w := fun w a n c n' c' => Lib.run_eql_slice_nil w _ _ a n c n' c' Tryz.underlying28;cases A with
 | none =>
  obtain rfl := zdd h;obtain rfl : n = 0 := hn;clear h hm;go_enter Tryz.func130, Tryz.ntmps130;go_wp2;go_ret;exact ⟨none, 0, rfl, Row.nil _ _ _ _ _, Below.refl _ _⟩
 | some a =>
  have Hs := zf (SlOf.carry (Flat.carried _) h ((zk w (.cells #[] 66)).mono hB) (ze _));have Hn := zf hn;clear h hn;go_enter Tryz.func130, Tryz.ntmps130;go_wp2_with (at_builtin; refine za2 rfl _ _ 28 rfl w.heap.size 66 (.agg #[.string ⟨#[]⟩, .int .i64 0, .int .i64 0, .int .i64 0, .int .i64 0, .int .i64 0, .int .i64 0, .int .i64 0, .int .i64 0, .int .i64 0]) 10 88 zcw Tryz.underlying28 (by kernel_rfl) rfl (by omega) zcL zjW _ [] l rfl (World.ownsRow_made w #[] 0 (ze _) (zu _) (by simp)) (some a) n c rfl Hn.out Hs.out (by simp) (by rw [← Hn.out]; omega) (by omega) (zM (ze _) _) ?_; intro A1 c1 w1 hrow hb1 hg1);rw [show ([] : List RunD).length + n = n from Nat.zero_add n] at hrow;have Hb := zf ((zk w (.cells #[] 66)).trans hb1);have Hr := zf hrow;clear hrow hb1 hg1;go_wp2;go_ret;exact ⟨A1, c1, by simp, Hr.out, Hb.out⟩
theorem zkz (A : Option Addr) (l : List JoinD) (n c : Nat) (w : World) {B : Nat} (h : SlOf w B 2 (Flat zcs) A l) (hB : B ≤ w.heap.size) (hn : n = l.length) (hm : n ≤ 300000) :
  Calls Tryz.prog 131 #[.slice A n c] w fun e w' => ∃ A' c', e = .returned (.slice A' n c') ∧ Row w' w.heap.size 73 2 zcs (.slice A' n c') l ∧ Below w.heap.size w w' := by
 have q22 : ∀ (w : World) (a : Option Addr) (n c n' c' : Nat), (binOp .eql 29 (.slice a n c) (.slice none n' c')).run Tryz.prog w = .ok (.bool a.isNone) w := fun w a n c n' c' => Lib.run_eql_slice_nil w _ _ a n c n' c' Tryz.underlying29;cases A with
 | none =>
  obtain rfl := zdd h;obtain rfl : n = 0 := hn;clear h hm;go_enter Tryz.func131, Tryz.ntmps131;go_wp2;go_ret;exact ⟨none, 0, rfl, Row.nil _ _ _ _ _, Below.refl _ _⟩
 | some a =>
  have Hs := zf (SlOf.carry (Flat.carried _) h ((zk w (.cells #[] 73)).mono hB) (ze _));have Hn := zf hn;clear h hn;go_enter Tryz.func131, Tryz.ntmps131;go_wp2_with (at_builtin; refine za2 rfl _ _ 29 rfl w.heap.size 73 (.agg #[.int .i64 0, .int .i64 0]) 2 16 zcs Tryz.underlying29 (by kernel_rfl) rfl (by omega) zgJ ziW _ [] l rfl (World.ownsRow_made w #[] 0 (ze _) (zu _) (by simp)) (some a) n c rfl Hn.out Hs.out (by simp) (by rw [← Hn.out]; omega) (by omega) (zM (ze _) _) ?_; intro A1 c1 w1 hrow hb1 hg1);rw [show ([] : List JoinD).length + n = n from Nat.zero_add n] at hrow;have Hb := zf ((zk w (.cells #[] 73)).trans hb1);have Hr := zf hrow;clear hrow hb1 hg1;go_wp2;go_ret;exact ⟨A1, c1, by simp, Hr.out, Hb.out⟩
theorem zmt (A : Option Addr) (l : List (Int × Int)) (n c : Nat) (w : World) {B : Nat} (h : SlOf w B 2 (Flat zaF) A l) (hB : B ≤ w.heap.size) (hn : n = l.length) (hm : n ≤ 300000) :
  Calls Tryz.prog 134 #[.slice A n c] w fun e w' => ∃ A' c', e = .returned (.slice A' n c') ∧ Row w' w.heap.size 71 2 zaF (.slice A' n c') l ∧ Below w.heap.size w w' := by
 have q22 : ∀ (w : World) (a : Option Addr) (n c n' c' : Nat), (binOp .eql 67 (.slice a n c) (.slice none n' c')).run Tryz.prog w = .ok (.bool a.isNone) w := fun w a n c n' c' => Lib.run_eql_slice_nil w _ _ a n c n' c' Tryz.underlying67;cases A with
 | none =>
  obtain rfl := zdd h;obtain rfl : n = 0 := hn;clear h hm;go_enter Tryz.func134, Tryz.ntmps134;go_wp2;go_ret;exact ⟨none, 0, rfl, Row.nil _ _ _ _ _, Below.refl _ _⟩
 | some a =>
  have Hs := zf (SlOf.carry (Flat.carried _) h ((zk w (.cells #[] 71)).mono hB) (ze _));have Hn := zf hn;clear h hn;go_enter Tryz.func134, Tryz.ntmps134;go_wp2_with (at_builtin; refine za2 rfl _ _ 67 rfl w.heap.size 71 (.agg #[.int .i64 0, .int .i64 0]) 2 16 zaF Tryz.underlying67 (by kernel_rfl) rfl (by omega) zbi zda _ [] l rfl (World.ownsRow_made w #[] 0 (ze _) (zu _) (by simp)) (some a) n c rfl Hn.out Hs.out (by simp) (by rw [← Hn.out]; omega) (by omega) (zM (ze _) _) ?_; intro A1 c1 w1 hrow hb1 hg1);rw [show ([] : List (Int × Int)).length + n = n from Nat.zero_add n] at hrow;have Hb := zf ((zk w (.cells #[] 71)).trans hb1);have Hr := zf hrow;clear hrow hb1 hg1;go_wp2;go_ret;exact ⟨A1, c1, by simp, Hr.out, Hb.out⟩
theorem zmv (A : Option Addr) (l : List Int) (n c : Nat) (w : World) {B : Nat} (h : SlOf w B 1 (Flat zaP) A l) (hB : B ≤ w.heap.size) (hn : n = l.length) (hm : n ≤ 300000) :
  Calls Tryz.prog 133 #[.slice A n c] w fun e w' => ∃ A' c', e = .returned (.slice A' n c') ∧ Row w' w.heap.size 3 1 zaP (.slice A' n c') l ∧ Below w.heap.size w w' := by
 have q22 : ∀ (w : World) (a : Option Addr) (n c n' c' : Nat), (binOp .eql 48 (.slice a n c) (.slice none n' c')).run Tryz.prog w = .ok (.bool a.isNone) w := fun w a n c n' c' => Lib.run_eql_slice_nil w _ _ a n c n' c' Tryz.underlying48;cases A with
 | none =>
  obtain rfl := zdd h;obtain rfl : n = 0 := hn;clear h hm;go_enter Tryz.func133, Tryz.ntmps133;go_wp2;go_ret;exact ⟨none, 0, rfl, Row.nil _ _ _ _ _, Below.refl _ _⟩
 | some a =>
  have Hs := zf (SlOf.carry (Flat.carried _) h ((zk w (.cells #[] 3)).mono hB) (ze _));have Hn := zf hn;clear h hn;go_enter Tryz.func133, Tryz.ntmps133;go_wp2_with (at_builtin; refine za2 rfl _ _ 48 rfl w.heap.size 3 (.int .i64 0) 1 8 zaP Tryz.underlying48 (by kernel_rfl) rfl (by omega) zbq zd4 _ [] l rfl (World.ownsRow_made w #[] 0 (ze _) (zu _) (by simp)) (some a) n c rfl Hn.out Hs.out (by simp) (by rw [← Hn.out]; omega) (by omega) (zM (ze _) _) ?_; intro A1 c1 w1 hrow hb1 hg1);rw [show ([] : List Int).length + n = n from Nat.zero_add n] at hrow;have Hb := zf ((zk w (.cells #[] 3)).trans hb1);have Hr := zf hrow;clear hrow hb1 hg1;go_wp2;go_ret;exact ⟨A1, c1, by simp, Hr.out, Hb.out⟩
theorem zkB (A : Option Addr) (l : List zdU) (n c : Nat) (w : World) {B : Nat} (h : SlOf w B 5 (Flat zdg) A l) (hB : B ≤ w.heap.size) (hn : n = l.length) (hm : n ≤ 300000) :
  Calls Tryz.prog 129 #[.slice A n c] w fun e w' => ∃ A' c', e = .returned (.slice A' n c') ∧ Row w' w.heap.size 50 5 zdg (.slice A' n c') l ∧ Below w.heap.size w w' := by
 have q22 : ∀ (w : World) (a : Option Addr) (n c n' c' : Nat), (binOp .eql 27 (.slice a n c) (.slice none n' c')).run Tryz.prog w = .ok (.bool a.isNone) w := fun w a n c n' c' => Lib.run_eql_slice_nil w _ _ a n c n' c' Tryz.underlying27;cases A with
 | none =>
  obtain rfl := zdd h;obtain rfl : n = 0 := hn;clear h hm;go_enter Tryz.func129, Tryz.ntmps129;go_wp2;go_ret;exact ⟨none, 0, rfl, Row.nil _ _ _ _ _, Below.refl _ _⟩
 | some a =>
  have Hs := zf (SlOf.carry (Flat.carried _) h ((zk w (.cells #[] 50)).mono hB) (ze _));have Hn := zf hn;clear h hn;go_enter Tryz.func129, Tryz.ntmps129;go_wp2_with (at_builtin; refine za2 rfl _ _ 27 rfl w.heap.size 50 (.agg #[.string ⟨#[]⟩, .int .i64 0, .int .i64 0, .int .i64 0, .slice none 0 0]) 5 64 zdg Tryz.underlying27 (by kernel_rfl) rfl (by omega) zfq znV _ [] l rfl (World.ownsRow_made w #[] 0 (ze _) (zu _) (by simp)) (some a) n c rfl Hn.out Hs.out (by simp) (by rw [← Hn.out]; omega) (by omega) (zM (ze _) _) ?_; intro A1 c1 w1 hrow hb1 hg1);rw [show ([] : List zdU).length + n = n from Nat.zero_add n] at hrow;have Hb := zf ((zk w (.cells #[] 50)).trans hb1);have Hr := zf hrow;clear hrow hb1 hg1;go_wp2;go_ret;exact ⟨A1, c1, by simp, Hr.out, Hb.out⟩
theorem zkA (A : Option Addr) (l : List zdT) (n c : Nat) (w : World) {B : Nat} (h : SlOf w B 8 (Flat zdf) A l) (hB : B ≤ w.heap.size) (hn : n = l.length) (hm : n ≤ 300000) :
  Calls Tryz.prog 132 #[.slice A n c] w fun e w' => ∃ A' c', e = .returned (.slice A' n c') ∧ Row w' w.heap.size 69 8 zdf (.slice A' n c') l ∧ Below w.heap.size w w' := by
 have q22 : ∀ (w : World) (a : Option Addr) (n c n' c' : Nat), (binOp .eql 30 (.slice a n c) (.slice none n' c')).run Tryz.prog w = .ok (.bool a.isNone) w := fun w a n c n' c' => Lib.run_eql_slice_nil w _ _ a n c n' c' Tryz.underlying30;cases A with
 | none =>
  obtain rfl := zdd h;obtain rfl : n = 0 := hn;clear h hm;go_enter Tryz.func132, Tryz.ntmps132;go_wp2;go_ret;exact ⟨none, 0, rfl, Row.nil _ _ _ _ _, Below.refl _ _⟩
 | some a =>
  have Hs := zf (SlOf.carry (Flat.carried _) h ((zk w (.cells #[] 69)).mono hB) (ze _));have Hn := zf hn;clear h hn;go_enter Tryz.func132, Tryz.ntmps132;go_wp2_with (at_builtin; refine za2 rfl _ _ 30 rfl w.heap.size 69 (.agg #[.string ⟨#[]⟩, .int .i64 0, .int .i64 0, .int .i64 0, .int .i64 0, .int .i64 0, .int .i64 0, .slice none 0 0]) 8 88 zdf Tryz.underlying30 (by kernel_rfl) rfl (by omega) zfp znU _ [] l rfl (World.ownsRow_made w #[] 0 (ze _) (zu _) (by simp)) (some a) n c rfl Hn.out Hs.out (by simp) (by rw [← Hn.out]; omega) (by omega) (zM (ze _) _) ?_; intro A1 c1 w1 hrow hb1 hg1);rw [show ([] : List zdT).length + n = n from Nat.zero_add n] at hrow;have Hb := zf ((zk w (.cells #[] 69)).trans hb1);have Hr := zf hrow;clear hrow hb1 hg1;go_wp2;go_ret;exact ⟨A1, c1, by simp, Hr.out, Hb.out⟩
theorem ztX {l : List Int} (h : l.length = 1) : ∃ a, l = [a] := by
 rcases l with _ | ⟨a, _ | ⟨b, r⟩⟩ <;> simp at h
 exact ⟨a, rfl⟩
theorem ztW {l : List Int} (h : l.length = 2) : ∃ a b, l = [a, b] := by
 rcases l with _ | ⟨a, r⟩
 ·simp at h
 ·obtain ⟨b, rfl⟩ := ztX (l := r) (by simpa using h);exact ⟨a, b, rfl⟩
theorem zpZ {l : List Int} (h : l.length = 3) : ∃ a b c, l = [a, b, c] := by
 rcases l with _ | ⟨a, r⟩
 ·simp at h
 ·obtain ⟨b, c, rfl⟩ := ztW (l := r) (by simpa using h);exact ⟨a, b, c, rfl⟩
theorem zt9 {l : List Int} (h : l.length = 5) : ∃ a b c d e, l = [a, b, c, d, e] := by
 rcases l with _ | ⟨a, _ | ⟨b, r⟩⟩
 ·simp at h
 ·simp at h
 ·obtain ⟨c, d, e, rfl⟩ := zpZ (l := r) (by simpa using h);exact ⟨a, b, c, d, e, rfl⟩
theorem znk (x : BarD) (A : Option Addr) (c : Nat) (w : World) {B : Nat} (hA : Ints w B A x.dims) (hB : B ≤ w.heap.size) (hok : zcr x = true) :
  Calls Tryz.prog 154 #[.agg #[.string x.mark, .int .i64 x.size, .int .i64 x.count, .int .i64 x.code, .slice A x.dims.length c]] w fun e w' =>
   ∃ A', e = .returned (.slice A' (zaM x.code) (zaM x.code)) ∧ PtsAt w' w'.heap.size A' (zfi x) ∧ Below w.heap.size w w' := by
 have hg := zdb hok;have hc : zbb x.code ≠ [] := by
  intro he;exact hg.legs (by simp [zaq, he])
 rw [zfK] at hok;simp only [zm, zgv, zzJ] at hok;obtain ⟨⟨_, h5⟩, h6⟩ := hok;obtain ⟨mark, size, count, code, dims⟩ := x;simp only at h5 h6 hc hA ⊢;clear hg;have hb := zmS h6;clear h6;rcases zf6 hc with rfl | rfl | rfl | rfl | rfl | rfl | rfl | rfl
 ·obtain ⟨d0, rfl⟩ := ztX (l := dims) (by have h : (dims.length : Int) = 1 := h5; omega);have h := zqp mark size count d0 A c w hA hB (hb _ (by simp));exact h
 ·obtain ⟨d0, d1, rfl⟩ := ztW (l := dims) (by have h : (dims.length : Int) = 2 := h5; omega);have h := zoK mark size count d0 d1 A c w hA hB (hb _ (by simp)) (hb _ (by simp));exact h
 ·obtain ⟨d0, d1, d2, rfl⟩ := zpZ (l := dims) (by have h : (dims.length : Int) = 3 := h5; omega);have h := zoJ mark size count d0 d1 d2 A c w hA hB (hb _ (by simp)) (hb _ (by simp)) (hb _ (by simp));exact h
 ·obtain ⟨d0, d1, d2, rfl⟩ := zpZ (l := dims) (by have h : (dims.length : Int) = 3 := h5; omega);have h := zoI mark size count d0 d1 d2 A c w hA hB (hb _ (by simp)) (hb _ (by simp)) (hb _ (by simp));exact h
 ·obtain ⟨d0, d1, d2, rfl⟩ := zpZ (l := dims) (by have h : (dims.length : Int) = 3 := h5; omega);have h := zoH mark size count d0 d1 d2 A c w hA hB (hb _ (by simp)) (hb _ (by simp)) (hb _ (by simp));exact h
 ·obtain ⟨d0, d1, d2, d3, d4, rfl⟩ := zt9 (l := dims) (by have h : (dims.length : Int) = 5 := h5; omega);have h := zoG mark size count d0 d1 d2 d3 d4 A c w hA hB (hb _ (by simp)) (hb _ (by simp)) (hb _ (by simp)) (hb _ (by simp)) (hb _ (by simp));exact h
 ·obtain ⟨d0, d1, d2, rfl⟩ := zpZ (l := dims) (by have h : (dims.length : Int) = 3 := h5; omega);have h := zoF mark size count d0 d1 d2 A c w hA hB (hb _ (by simp)) (hb _ (by simp)) (hb _ (by simp));exact h
 ·obtain ⟨d0, d1, d2, rfl⟩ := zpZ (l := dims) (by have h : (dims.length : Int) = 3 := h5; omega);have h := zoE mark size count d0 d1 d2 A c w hA hB (hb _ (by simp)) (hb _ (by simp)) (hb _ (by simp));exact h
end Go.Proofs.YtpaanfjjnjjoeaaGreat
namespace Go.Proofs.YtpaanfjjnjjoeaaGreat
section
variable {P : Program} {ops : Array Oper} {Q : Exit → Act → World → Prop} {md : Region.Mode} {S : World → Prop} {n : Nat}
def StepTo (P : Program) (md : Region.Mode) (ops : Array Oper) (Q : Exit → Act → World → Prop) (S : World → Prop) (n fuel : Nat) (listed : Array Bool) (a : Act) (w : World) (i : Nat) (o : Oper) : Prop :=
 ∀ K' : Act → World → Prop, Shut (∀ a w, (i < n → S w) → (S w ∨ n ≤ i → HeldTo P md ops Q S n fuel (listed.setIfInBounds i true) a w) → K' a w) → if Region.wanted o (yielded ops a.tmps) = true then Oper.wp P o a w K' Q else K' (a.put o.dst undef) w
theorem StepTo.go {fuel : Nat} {listed : Array Bool} {a : Act} {w : World} {i : Nat} {o : Oper} (ho : ops[i]? = some o) (h : StepTo P md ops Q S n fuel listed a w i o) :
  wpOp P ops Q i (fun a' w' => (i < n → S w') ∧ HeldTo P md ops Q S n fuel (listed.setIfInBounds i true) a' w') a w := by
 refine wpOp_step ho (fun K' hK => h K' (fun a w hS hW => hK a w ⟨hS, hW ?_⟩));by_cases hn : i < n
 ·exact .inl (hS hn)
 ·exact .inr (by omega)
theorem HeldTo.pair {i j : Nat} {oi oj : Oper} {fuel : Nat} {listed : Array Bool} {a : Act} {w : World} (hr : Region.ready md ops listed = [i, j]) (hi : ops[i]? = some oi) (hj : ops[j]? = some oj)
  (h : StepTo P md ops Q S n fuel listed a w i oi) (h' : StepTo P md ops Q S n fuel listed a w j oj) : HeldTo P md ops Q S n (fuel + 1) listed a w := by
 refine ⟨fun h0 => (by rw [h0] at hr; cases hr), fun k hk => ?_⟩;rw [hr] at hk;rcases List.mem_cons.1 hk with rfl | hk
 ·exact h.go hi
 ·rw [zP] at hk;subst hk;exact h'.go hj
end
end Go.Proofs.YtpaanfjjnjjoeaaGreat
