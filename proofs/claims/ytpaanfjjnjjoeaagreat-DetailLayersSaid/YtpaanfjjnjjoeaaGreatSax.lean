/- anchor.Ends, for valid arguments. -/
import Derived.Test.YtpaanfjjnjjoeaaGreatSau
import Derived.Lib.AppendZerosOnto
set_option maxHeartbeats 8000000
set_option maxRecDepth 100000
namespace Go.Proofs.YtpaanfjjnjjoeaaGreat
open Go.RowKit
def zdH (r : RuleD) (m : MemD) (size : Int) (legs : List BoxD) : Int × Int × Int :=
 match legs.findIdx? zcx with
 | none => (0, 0, 12)
 | some k => match legs[k]? with
  | none => (0, 0, 12)
  | some l => (zdC r size (zeA m l) (ze3 legs k l.lo), zdC r size (zeA m l) (ze3 legs k l.hi), 0)
abbrev zt7 (t : Int × Int × Int) : Value := .tuple #[.int .i64 t.1, .int .i64 t.2.1, .int .i64 t.2.2]
theorem znR {r : RuleD} {m : MemD} {size : Int} {legs : List BoxD} (h : idx zcx legs < 0) : zdH r m size legs = (0, 0, 12) := by
 unfold idx at h;unfold zdH
 split at h
 ·omega
 ·rename_i q
  rw [q]
theorem ziT {r : RuleD} {m : MemD} {size : Int} {legs : List BoxD} {k : Nat} {l : BoxD} (h : idx zcx legs = k) (hl : legs[k]? = some l) :
  zdH r m size legs = (zdC r size (zeA m l) (ze3 legs k l.lo), zdC r size (zeA m l) (ze3 legs k l.hi), 0) := by
 unfold idx at h;unfold zdH
 split at h
 ·rename_i i q
  obtain rfl : i = k := by omega
  rw [q];simp only [hl]
 ·omega
def zec (l : BoxD) (j : Nat) : Pt := if j = 0 then l.lo else l.hi
def zrA (k : Nat) : List Int := [(k : Int) - 1, (k : Int) + 1]
def ze1 (legs : List BoxD) (p : Pt) (nv : Int) : Bool := decide (0 ≤ nv) && ((legs[nv.toNat]?).map (fun l => zdF l ⟨p, p⟩)).getD false
def zn7 (legs : List BoxD) (k : Nat) (p : Pt) (t : Nat) : Bool := ((zrA k).take t).any (ze1 legs p)
theorem zsh (legs : List BoxD) (k : Nat) (p : Pt) : zn7 legs k p 2 = ze3 legs k p := by
 have h2 : ((k : Int) + 1).toNat = k + 1 := by omega
 have h3 : decide ((0 : Int) ≤ (k : Int) + 1) = true := by simp; omega
 have h4 : decide ((0 : Int) ≤ (k : Int) - 1) = decide (1 ≤ k) := by
  by_cases q : 1 ≤ k
  ·rw [zI q, zI (by omega)]
  ·rw [zE q, zE (by omega)]
 have h1 : ((k : Int) - 1).toNat = k - 1 := by omega
 unfold zn7 zrA ze3;rw [List.take_succ_cons, List.take_succ_cons, List.take_zero, List.any_cons, List.any_cons, List.any_nil, Bool.or_false];unfold ze1;rw [h1, h2, h3, h4, Bool.true_and]
def zde (legs : List BoxD) (l : BoxD) (k i t j : Nat) : Bool := if j < i then zn7 legs k (zec l j) 2 else if j = i then zn7 legs k (zec l j) t else false
theorem zkN (legs l) (k j : Nat) : zde legs l k 0 0 j = false := by
 unfold zde zn7;simp
theorem zkO (legs l) (k i j : Nat) : zde legs l k i 2 j = zde legs l k (i + 1) 0 j := by
 unfold zde;by_cases q : j < i
 ·rw [if_pos q, if_pos (by omega)]
 ·rw [if_neg q];by_cases q2 : j = i
  ·rw [if_pos q2, if_pos (by omega)]
  ·rw [if_neg q2, if_neg (by omega)]
   split
   ·simp [zn7]
   ·rfl
theorem zmD (legs l) (k j : Nat) (h : j < 2) : zde legs l k 2 0 j = ze3 legs k (zec l j) := by
 unfold zde;rw [if_pos h, zsh]
abbrev zaA (l : BoxD) (f : Nat → Bool) : Array Value := #[.int .i64 l.lo.1, .int .i64 l.lo.2.1, .int .i64 l.lo.2.2, .bool (f 0), .int .i64 l.hi.1, .int .i64 l.hi.2.1, .int .i64 l.hi.2.2, .bool (f 1)]
theorem zml (l : BoxD) (f : Nat → Bool) {i : Nat} (h : i < 2) : (zaA l f)[i * 4]? = some (.int .i64 (zec l i).1) ∧ (zaA l f)[i * 4 + 1]? = some (.int .i64 (zec l i).2.1) ∧ (zaA l f)[i * 4 + 2]? = some (.int .i64 (zec l i).2.2) ∧ (zaA l f)[i * 4 + 3]? = some (.bool (f i)) := by
 obtain rfl | rfl : i = 0 ∨ i = 1 := by omega
 ·exact ⟨rfl, rfl, rfl, rfl⟩
 ·exact ⟨rfl, rfl, rfl, rfl⟩
theorem zmk (l : BoxD) (f g : Nat → Bool) {i : Nat} (h : i < 2) (hg : ∀ j, j < 2 → j ≠ i → g j = f j) : (zaA l f).setIfInBounds (i * 4 + 3) (.bool (g i)) = zaA l g := by
 obtain rfl | rfl : i = 0 ∨ i = 1 := by omega
 ·rw [zaA, hg 1 (by omega) (by omega) |>.symm]; rfl
 ·rw [zaA, hg 0 (by omega) (by omega) |>.symm]; rfl
theorem zkQ (legs l) {k i t : Nat} {nv : Int} (hn : (zrA k)[t]? = some nv) : zde legs l k i (t + 1) i = (zde legs l k i t i || ze1 legs (zec l i) nv) := by
 unfold zde;simp only [Nat.lt_irrefl, if_false, if_true];unfold zn7;rw [List.take_add_one, hn];simp
theorem zkP (legs l) {k i t : Nat} {nv : Int} (hn : (zrA k)[t]? = some nv) (h : ze1 legs (zec l i) nv = false) : zaA l (zde legs l k i (t + 1)) = zaA l (zde legs l k i t) := by
 have key : ∀ j, zde legs l k i (t + 1) j = zde legs l k i t j := fun j => by
  by_cases q : j = i
  ·subst q; rw [zkQ legs l hn, h, Bool.or_false]
  ·unfold zde; rw [if_neg q, if_neg q]
 rw [zaA, key, key]
theorem zof {legs : List BoxD} {p : Pt} {nv : Int} (h : nv < 0) : ze1 legs p nv = false := by
 unfold ze1; rw [zE (by omega)]; rfl
theorem zog {legs : List BoxD} {p : Pt} {nv : Int} (h : (legs.length : Int) ≤ nv) : ze1 legs p nv = false := by
 unfold ze1; rw [zdW (by omega)]; simp
theorem zp2 {legs : List BoxD} {p : Pt} {nv : Nat} {y : BoxD} (h : legs[nv]? = some y) : ze1 legs p nv = zdF y ⟨p, p⟩ := by
 unfold ze1; simp [h]
theorem zrt {l : BoxD} (h : zad l = true) (i : Nat) : zad ⟨zec l i, zec l i⟩ = true := by
 obtain ⟨q1, q2, q3⟩ := zbo.1 h;unfold zec
 split
 ·exact zbo.2 ⟨⟨Int.le_refl _, by simp only; omega, by simp only; omega⟩, ⟨Int.le_refl _, by simp only; omega, by simp only; omega⟩, ⟨Int.le_refl _, by simp only; omega, by simp only; omega⟩⟩
 ·exact zbo.2 ⟨⟨Int.le_refl _, by simp only; omega, by simp only; omega⟩, ⟨Int.le_refl _, by simp only; omega, by simp only; omega⟩, ⟨Int.le_refl _, by simp only; omega, by simp only; omega⟩⟩
theorem zlI {x : BarD} (h : zcr x = true) : 0 ≤ x.size ∧ x.size ≤ 40 := by
 have hm := zhj (zdb h).size;simp [zb3] at hm;omega
theorem zsl (k : Nat) {t : Nat} (h : t < 2) : ∃ nv : Int, (zrA k)[t]? = some nv ∧ (#[.int .i64 ((k : Int) - 1), .int .i64 ((k : Int) + 1)] : Array Value)[t]? = some (.int .i64 nv) ∧ nv ≤ k + 1 := by
 obtain rfl | rfl : t = 0 ∨ t = 1 := by omega
 ·exact ⟨_, rfl, rfl, by omega⟩
 ·exact ⟨_, rfl, rfl, by omega⟩
theorem zoj (legs l) {k i t j : Nat} (h : j ≠ i) : zde legs l k i (t + 1) j = zde legs l k i t j := by
 unfold zde;rw [if_neg h, if_neg h]
theorem ztp (r : RuleD) (m : MemD) (x : BarD) (legs : List BoxD) (A1 A2 A3 A4 : Option Addr) (n1 n2 c1 c2 c3 c4 : Nat) (w : World) {B : Nat}
  (h1 : BoxesAt w B A1 m.boxes) (h2 : BoxesAt w B A2 m.holes) (h3 : Ints w B A3 x.dims) (h4 : BoxesAt w B A4 legs) (hB : B ≤ w.heap.size) (hn1 : n1 = m.boxes.length) (hn2 : n2 = m.holes.length) (hnm : m.name.size ≤ maxLen) (hmk : x.mark.size ≤ maxLen) (hd : x.dims.length ≤ 60000) (hll : legs.length ≤ 60000)
  (hr : zbH r = true) (hmem : zdj m = true) (hbar : zcr x = true) (hl : legs.all zad = true) (hlen : (zaq x).length = legs.length) :
  Calls Tryz.prog 310 #[rlV r, zgY m A1 n1 c1 A2 n2 c2, .agg #[.string x.mark, .int .i64 x.size, .int .i64 x.count, .int .i64 x.code, .slice A3 x.dims.length c3], .slice A4 legs.length c4] w fun e w' =>
   e = .returned (zt7 (zdH r m x.size legs)) ∧ Below w.heap.size w w' := by
 have H1 := zf (fun W => zey r W);have H2 := zf (fun (W : World) (hz : Below w.heap.size w W) => zfZ m A1 A2 n1 n2 c1 c2 W (h1.carry (Flat.carried _) (hz.mono hB) (ze _)) (h2.carry (Flat.carried _) (hz.mono hB) (ze _)) (zh hB hz.size) hn1 hn2 hnm);have H3 := zf (fun (W : World) (hz : Below w.heap.size w W) => zeS x A3 c3 W (h3.carry (hz.mono hB) (ze _)) (zh hB hz.size) hmk hd);have H4 := zf (fun (W : World) (hz : Below w.heap.size w W) => zct A4 legs legs.length c4 331 (fun l => !zad l) W (h4.carry (Flat.carried _) (hz.mono hB) (ze _)) (zh hB hz.size) rfl (by omega) Tryz.call331 (fun y W' _ => znS y W'));have H5 := zf (fun (W : World) (hz : Below w.heap.size w W) => zj4 x A3 c3 W (h3.carry (hz.mono hB) (ze _)) (zh hB hz.size) hmk hd hbar);have H6 := zf (fun (W : World) (hz : Below w.heap.size w W) => zd5 A4 legs legs.length c4 332 zcx W (h4.carry (Flat.carried _) (hz.mono hB) (ze _)) (zh hB hz.size) rfl (by omega) Tryz.call332 (fun y W' _ => zo7 y W'));have H7 := zf (fun (W : World) (hz : Below w.heap.size w W) (l : BoxD) (hlk : zad l = true) => zpN m A1 A2 n1 n2 c1 c2 l W (h1.carry (Flat.carried _) (hz.mono hB) (ze _)) (h2.carry (Flat.carried _) (hz.mono hB) (ze _)) (zh hB hz.size) hn1 hn2 (by unfold zdj at hmem; simp only [zm] at hmem; exact hmem.1.1.1.2) hlk);rw [hr] at H1;rw [hmem] at H2;rw [hbar] at H3;have ha : za5 (fun l => !zad l) legs = false := by have q := zgD zad legs; rw [hl] at q; simpa using q.symm
 rw [ha] at H4;have HG := zf (fun (W : World) (hz : Below w.heap.size w W) (k : Nat) (hk : k < legs.length) => BoxesAt.get (k := k) (h4.carry (Flat.carried _) (hz.mono hB) (ze _)) hk);have HBB := zf hB;obtain ⟨n, hn⟩ : ∃ n, n = legs.length := ⟨_, rfl⟩;have Hn := zf hn;have hir := zeW zcx legs;have HE := zf (fun q : idx zcx legs < 0 => znR (r := r) (m := m) (size := x.size) q);have HS := zf (fun (k : Nat) (l : BoxD) (q : idx zcx legs = k) (q2 : legs[k]? = some l) => ziT (r := r) (m := m) (size := x.size) q q2);obtain ⟨ix, hix⟩ : ∃ ix, ix = idx zcx legs := ⟨_, rfl⟩;have Hix := zf hix;rw [← hix] at H6 hir;rw [← hn] at H4 H6 hir hll
 show Calls Tryz.prog 310 #[rlV r, zgY m A1 n1 c1 A2 n2 c2, .agg #[.string x.mark, .int .i64 x.size, .int .i64 x.count, .int .i64 x.code, .slice A3 x.dims.length c3], .slice A4 legs.length c4] w _
 rw [← hn];rw [hlen, ← hn] at H5;clear hn hix h1 h2 h3 h4 hB hn1 hn2 hnm hmk hmem hlen ha;have KR := zf (((Blk.new w 32 #[.int .i64 r.num, .int .i64 r.den, .int .i64 r.poorNum, .int .i64 r.poorDen, .int .i64 r.bendNum, .int .i64 r.bendDen, .int .i64 r.lapNum, .int .i64 r.lapDen, .int .i64 r.least]).alloc (.cells #[.string m.name, .slice A1 n1 c1, .slice A2 n2 c2, .int .i64 m.cover, .int .i64 m.aggregate, .int .i64 m.poker] 26)).alloc (.cells #[.string x.mark, .int .i64 x.size, .int .i64 x.count, .int .i64 x.code, .slice A3 x.dims.length c3] 50));have KM := zf ((Blk.new1 w (.cells #[.int .i64 r.num, .int .i64 r.den, .int .i64 r.poorNum, .int .i64 r.poorDen, .int .i64 r.bendNum, .int .i64 r.bendDen, .int .i64 r.lapNum, .int .i64 r.lapDen, .int .i64 r.least] 32) 26 #[.string m.name, .slice A1 n1 c1, .slice A2 n2 c2, .int .i64 m.cover, .int .i64 m.aggregate, .int .i64 m.poker]).alloc (.cells #[.string x.mark, .int .i64 x.size, .int .i64 x.count, .int .i64 x.code, .slice A3 x.dims.length c3] 50));have KB := zf (Blk.new2 w (.cells #[.int .i64 r.num, .int .i64 r.den, .int .i64 r.poorNum, .int .i64 r.poorDen, .int .i64 r.bendNum, .int .i64 r.bendDen, .int .i64 r.lapNum, .int .i64 r.lapDen, .int .i64 r.least] 32) (.cells #[.string m.name, .slice A1 n1 c1, .slice A2 n2 c2, .int .i64 m.cover, .int .i64 m.aggregate, .int .i64 m.poker] 26) 50 #[.string x.mark, .int .i64 x.size, .int .i64 x.count, .int .i64 x.code, .slice A3 x.dims.length c3]);have HW0 := zH w (.cells #[.int .i64 r.num, .int .i64 r.den, .int .i64 r.poorNum, .int .i64 r.poorDen, .int .i64 r.bendNum, .int .i64 r.bendDen, .int .i64 r.lapNum, .int .i64 r.lapDen, .int .i64 r.least] 32) (.cells #[.string m.name, .slice A1 n1 c1, .slice A2 n2 c2, .int .i64 m.cover, .int .i64 m.aggregate, .int .i64 m.poker] 26);have HW := zf (HW0.alloc HW0.size (.cells #[.string x.mark, .int .i64 x.size, .int .i64 x.count, .int .i64 x.code, .slice A3 x.dims.length c3] 50));clear HW0;go_enter Tryz.func310, Tryz.ntmps310;go_wp2_with fail;go_wp2_with (refine zL (by rfl) 32 (.tmp 4) rfl w.heap.size rfl 32 _ (0, 0) _ KR.out Tryz.underlying32 rfl (by kernel_rfl) ?_);refine (H1.out _).mono ?_;rintro e w1 ⟨rfl, hb⟩;replace KR := zf (KR.out.keep hb);replace KM := zf (KM.out.keep hb);replace KB := zf (KB.out.keep hb);replace HW := zf (zg HW.out hb (ze _));clear hb;go_wp2_with (refine zL (by rfl) 26 (.tmp 5) rfl (w.heap.size + 1) rfl 26 _ (0, 0) _ KM.out Tryz.underlying26 rfl (by kernel_rfl) ?_);refine (H2.out _ HW.out).mono ?_;rintro e w2 ⟨rfl, hb⟩;replace KR := zf (KR.out.keep hb);replace KM := zf (KM.out.keep hb);replace KB := zf (KB.out.keep hb);replace HW := zf (zg HW.out hb (ze _));clear hb;go_wp2_with (refine zL (by rfl) 50 (.tmp 6) rfl (w.heap.size + 2) rfl 50 _ (0, 0) _ KB.out Tryz.underlying50 rfl (by kernel_rfl) ?_);refine (H3.out _ HW.out).mono ?_;rintro e w3 ⟨rfl, hb⟩;replace KR := zf (KR.out.keep hb);replace KM := zf (KM.out.keep hb);replace KB := zf (KB.out.keep hb);replace HW := zf (zg HW.out hb (ze _));clear hb;go_wp2_with fail;refine (H4.out _ HW.out).mono ?_;rintro e w4 ⟨rfl, hb⟩;replace KR := zf (KR.out.keep hb);replace KM := zf (KM.out.keep hb);replace KB := zf (KB.out.keep hb);replace HW := zf (zg HW.out hb (ze _));clear hb;clear H1 H2 H3 H4;go_wp2_with (refine zL (by rfl) 50 (.tmp 6) rfl (w.heap.size + 2) rfl 50 _ (0, 0) _ KB.out Tryz.underlying50 rfl (by kernel_rfl) ?_);refine (H5.out _ HW.out).mono ?_;rintro e w5 ⟨A5, c5, rfl, _, hb⟩;replace KR := zf (KR.out.keep hb);replace KM := zf (KM.out.keep hb);replace KB := zf (KB.out.keep hb);replace HW := zf (zg HW.out hb (ze _));clear hb;clear H5;go_wp2_with fail;refine (H6.out _ HW.out).mono ?_;rintro e w6 ⟨rfl, hb⟩;replace KR := zf (KR.out.keep hb);replace KM := zf (KM.out.keep hb);replace KB := zf (KB.out.keep hb);replace HW := zf (zg HW.out hb (ze _));clear hb;clear H6;by_cases hneg : ix < 0
 ·have Hq := zf (HE.out (by rw [← Hix.out]; exact hneg));have d0 : decide (ix < 0) = true := by simpa using hneg
  go_wp2;go_ret3;exact ⟨by rw [Hq.out]; rfl, HW.out⟩
 obtain ⟨k, rfl⟩ : ∃ k : Nat, ix = k := ⟨ix.toNat, by omega⟩;have hk : k < n := by omega
 obtain ⟨b, off, l, rfl, hbl, hlk, e0, e1, e2, e3, e4, e5⟩ := HG.out _ HW.out k (by rw [← Hn.out]; exact hk);have hlok : zad l = true := List.all_eq_true.1 hl l (zv hlk);have Hlk := zf hlk;have d0 : decide ((k : Int) < 0) = false := by simp
 have HS1 := zf (HS.out k l Hix.out.symm hlk);have KR7 := zf ((KR.out.alloc (.cells #[.int .i64 l.lo.1, .int .i64 l.lo.2.1, .int .i64 l.lo.2.2, .int .i64 l.hi.1, .int .i64 l.hi.2.1, .int .i64 l.hi.2.2] 62)).alloc (.cells (zaA l fun _ => false) 349));have KM7 := zf ((KM.out.alloc (.cells #[.int .i64 l.lo.1, .int .i64 l.lo.2.1, .int .i64 l.lo.2.2, .int .i64 l.hi.1, .int .i64 l.hi.2.1, .int .i64 l.hi.2.2] 62)).alloc (.cells (zaA l fun _ => false) 349));have KB7 := zf ((KB.out.alloc (.cells #[.int .i64 l.lo.1, .int .i64 l.lo.2.1, .int .i64 l.lo.2.2, .int .i64 l.hi.1, .int .i64 l.hi.2.1, .int .i64 l.hi.2.2] 62)).alloc (.cells (zaA l fun _ => false) 349));have KL7 := zf ((Blk.new w6 62 #[.int .i64 l.lo.1, .int .i64 l.lo.2.1, .int .i64 l.lo.2.2, .int .i64 l.hi.1, .int .i64 l.hi.2.1, .int .i64 l.hi.2.2]).alloc (.cells (zaA l fun _ => false) 349));have KA7 := zf (Blk.new1 w6 (.cells #[.int .i64 l.lo.1, .int .i64 l.lo.2.1, .int .i64 l.lo.2.2, .int .i64 l.hi.1, .int .i64 l.hi.2.1, .int .i64 l.hi.2.2] 62) 349 (zaA l fun _ => false));have HW7 := zf ((HW.out.alloc HW.out.size (.cells #[.int .i64 l.lo.1, .int .i64 l.lo.2.1, .int .i64 l.lo.2.2, .int .i64 l.hi.1, .int .i64 l.hi.2.1, .int .i64 l.hi.2.2] 62)).alloc (zM HW.out.size _) (.cells (zaA l fun _ => false) 349));have hs6 := HW.out.size;have hs0 := KB.out.lt;clear hlk KR KM KB HW;go_upto_region 12 with fail
 have hsz7 : ((w6.alloc (.cells #[.int .i64 l.lo.1, .int .i64 l.lo.2.1, .int .i64 l.lo.2.2, .int .i64 l.hi.1, .int .i64 l.hi.2.1, .int .i64 l.hi.2.2] 62)).alloc (.cells (zaA l fun _ => false) 349)).heap.size = w6.heap.size + 2 := by simp
 obtain ⟨W7, hW7⟩ : ∃ W, W = (w6.alloc (.cells #[.int .i64 l.lo.1, .int .i64 l.lo.2.1, .int .i64 l.lo.2.2, .int .i64 l.hi.1, .int .i64 l.hi.2.1, .int .i64 l.hi.2.2] 62)).alloc (.cells (zaA l fun _ => false) 349) := ⟨_, rfl⟩;rw [← hW7] at KR7 KM7 KB7 KL7 KA7 HW7 hsz7;clear e0 e1 e2 e3 e4 e5;have HI7 := zf (show ∀ wr, wr = ((w6.alloc (.cells #[.int .i64 l.lo.1, .int .i64 l.lo.2.1, .int .i64 l.lo.2.2, .int .i64 l.hi.1, .int .i64 l.hi.2.1, .int .i64 l.hi.2.2] 62)).alloc (.cells (zaA l fun _ => false) 349)) → (Hid (Blk wr (w6.heap.size + 1) 349 (zaA l (zde legs l k 0 0))) ∧ Hid (Below (w6.heap.size + 1) W7 wr)) by
  rintro wr rfl;rw [← hW7];refine ⟨zf ?_, zf (Below.refl _ _)⟩;rw [show zaA l (zde legs l k 0 0) = zaA l fun _ => false by rw [zaA, zkN, zkN]];exact KA7.out)
 clear hW7;go_loopw [64] (fun iv wr => ∃ i : Nat, i ≤ 2 ∧ iv = .int .i64 i ∧ Hid (Blk wr (w6.heap.size + 1) 349 (zaA l (zde legs l k i 0))) ∧ Hid (Below (w6.heap.size + 1) W7 wr)) (fun iv _ => 2 - (intOf iv).toNat)
 case atStart => exact ⟨0, by omega, rfl, HI7.out _ rfl⟩
 case round =>
  obtain ⟨i, hi, rfl, hKA, hb⟩ := hrel;rename World => wr;by_cases hlt : i < 2
  ·have hs8 := hb.out.size;have HWr := zf ((HW7.out.trans (hb.out.mono (by omega))));have KA1 := zf (hKA.out.alloc (.cells #[.int .i64 ((k : Int) - 1), .int .i64 ((k : Int) + 1)] 3));have KN := zf (Blk.new wr 3 #[.int .i64 ((k : Int) - 1), .int .i64 ((k : Int) + 1)]);have lA := hKA.out.lt;clear hKA;go_upto_region 15 with fail
   clear HWr;have HI8 := zf (show Hid (Blk (wr.alloc (.cells #[.int .i64 ((k : Int) - 1), .int .i64 ((k : Int) + 1)] 3)) (w6.heap.size + 1) 349 (zaA l (zde legs l k i 0))) ∧ Hid (Blk (wr.alloc (.cells #[.int .i64 ((k : Int) - 1), .int .i64 ((k : Int) + 1)] 3)) wr.heap.size 3 #[.int .i64 ((k : Int) - 1), .int .i64 ((k : Int) + 1)]) ∧ Hid (Below (w6.heap.size + 1) W7 (wr.alloc (.cells #[.int .i64 ((k : Int) - 1), .int .i64 ((k : Int) + 1)] 3))) from ⟨KA1, KN, zf (hb.out.alloc (by omega) _)⟩);clear KA1 KN;go_loopw [73] (fun iv wv => ∃ t : Nat, t ≤ 2 ∧ iv = .int .i64 t ∧ Hid (Blk wv (w6.heap.size + 1) 349 (zaA l (zde legs l k i t))) ∧ Hid (Blk wv wr.heap.size 3 #[.int .i64 ((k : Int) - 1), .int .i64 ((k : Int) + 1)]) ∧ Hid (Below (w6.heap.size + 1) W7 wv)) (fun iv _ => 2 - (intOf iv).toNat)
   case atStart => exact ⟨0, by omega, rfl, HI8.out⟩
   case round =>
    obtain ⟨t, ht, rfl, hKA, hKN, hbv⟩ := hrel;rename World => wv;by_cases hlt2 : t < 2
    ·obtain ⟨nv, hn1, hn2, hn3⟩ := zsl k hlt2;have f0 := hKN.out.cell t;rw [hn2] at f0;have lN := hKN.out.lt;clear hn2;have f1 := zf f0;by_cases qn : nv < 0
     ·have Hc := zf (zkP legs l (i := i) hn1 (zof qn));have d1 : decide (nv < 0) = true := by simpa using qn
      clear hn1;go_wp2;go_roundw
      case rel => exact ⟨t + 1, by omega, by go_num, zf (by rw [Hc.out]; exact hKA.out), hKN, hbv⟩
      case measure => simp [intOf]; omega
     have d1 : decide (nv < 0) = false := by simpa using qn
     by_cases qf : (n : Int) ≤ nv
     ·have Hc := zf (zkP legs l (i := i) hn1 (zog (by rw [← Hn.out]; exact qf)));have d2 : decide ((n : Int) ≤ nv) = true := by simpa using qf
      clear hn1;go_wp2;go_roundw
      case rel => exact ⟨t + 1, by omega, by go_num, zf (by rw [Hc.out]; exact hKA.out), hKN, hbv⟩
      case measure => simp [intOf]; omega
     have d2 : decide ((n : Int) ≤ nv) = false := by simpa using qf
     obtain ⟨v, rfl⟩ : ∃ v : Nat, nv = v := ⟨nv.toNat, by omega⟩;have hv : v < n := by omega
     have HWv := HW7.out.trans (hbv.out.mono (show w.heap.size ≤ w6.heap.size + 1 by omega));obtain ⟨b9, off9, y, hA9, hb9, hy, g0, g1, g2, g3, g4, g5⟩ := HG.out wv HWv v (by rw [← Hn.out]; exact hv);obtain ⟨rfl, rfl⟩ : b9 = b ∧ off9 = off := by simpa [eq_comm] using hA9
     have hyok : zad y = true := List.all_eq_true.1 hl y (zv hy);have HC := zf (fun W => zkg y ⟨zec l i, zec l i⟩ W hyok (zrt hlok i));have hT := zp2 (p := zec l i) hy;rw [← hT] at HC;have HN := zf (zkQ legs l (i := i) hn1);obtain ⟨c0, c1', c2', c3'⟩ := zml l (zde legs l k i t) hlt;have lb : b9 < wv.heap.size := zt hb9 (zh HBB.out HWv.size);clear hT hyok hy hA9 hb9 hn1;have lA := hKA.out.lt;go_upto_region 18 with fail
     replace g0 := cell_regrown g0;replace g1 := cell_regrown g1;replace g2 := cell_regrown g2;replace g3 := cell_regrown g3;replace g4 := cell_regrown g4;replace g5 := cell_regrown g5;have p0 := cell_regrown ((hKA.out.cell (i * 4)).trans c0);have p1 := cell_regrown ((hKA.out.cell (i * 4 + 1)).trans c1');have p2 := cell_regrown ((hKA.out.cell (i * 4 + 2)).trans c2');refine wp_region_quiet_below (by kernel_rfl) (by kernel_rfl) ?_
     repeat (go_big_quiet_step (first
      | (go_at_call 333; with_reducible exact Calls.regrown_of (HC.out _))))
     refine wpQuiet_nil ?_;intro wq9 hw';have hbq := zf (show Below wv.heap.size wv wq9 by obtain ⟨p9, rfl⟩ := hw'; exact below_regrown _ _ _);clear hw' g0 g1 g2 g3 g4 g5 p0 p1 p2 HC;have KA9 := zf (hKA.out.keep hbq.out);have KN9 := zf ((hKN.out.keep hbq.out).far (p := ⟨w6.heap.size + 1, i * 4 + 3, none⟩) (show wr.heap.size ≠ w6.heap.size + 1 by omega) (.bool (zde legs l k i (t + 1) i)));have HB9 := zf ((hbv.out.trans (hbq.out.mono (show w6.heap.size + 1 ≤ wv.heap.size by omega))).setCell (p := ⟨w6.heap.size + 1, i * 4 + 3, none⟩) (ze _) (.bool (zde legs l k i (t + 1) i)));have KZ9 := zf (show Blk (wq9.setCell ⟨w6.heap.size + 1, i * 4 + 3, none⟩ (.bool (zde legs l k i (t + 1) i))) (w6.heap.size + 1) 349 (zaA l (zde legs l k i (t + 1))) by
      rw [← zmk l (zde legs l k i t) (zde legs l k i (t + 1)) hlt (fun j _ q => zoj legs l q)];exact KA9.out.set_ _ _)
     have c9 := (KA9.out.cell (i * 4 + 3)).trans c3';have z9 := KA9.out.frozen (i * 4 + 3);have l9 := KA9.out.lt;clear c0 c1' c2' c3' hbq;generalize zde legs l k i (t + 1) i = q1 at *;generalize zde legs l k i t i = q0 at *;generalize ze1 legs (zec l i) (v : Int) = q2 at *;cases q0
     ·have h9 : q2 = q1 := by rw [HN.out]; rfl
      subst h9;go_wp2;go_roundw
      case rel => exact ⟨t + 1, by omega, by go_num, KZ9, KN9, HB9⟩
      case measure => simp [intOf]; omega
     ·have h9 : true = q1 := by rw [HN.out]; rfl
      subst h9;go_wp2;go_roundw
      case rel => exact ⟨t + 1, by omega, by go_num, KZ9, KN9, HB9⟩
      case measure => simp [intOf]; omega
    ·obtain rfl : t = 2 := by omega
     have Hc := zf (show zaA l (zde legs l k i 2) = zaA l (zde legs l k (i + 1) 0) by rw [zaA, zkO, zkO]);go_wp2;go_roundw
     case rel => exact ⟨i + 1, by omega, by go_num, zf (by rw [← Hc.out]; exact hKA.out), hbv⟩
     case measure => simp [intOf]; omega
  ·obtain rfl : i = 2 := by omega
   have HWr := zf (HW7.out.trans (hb.out.mono (show w.heap.size ≤ w6.heap.size + 1 by omega)));have KRr := zf (KR7.out.below hb.out (by omega));have KMr := zf (KM7.out.below hb.out (by omega));have KBr := zf (KB7.out.below hb.out (by omega));have KLr := zf (KL7.out.below hb.out (by omega));have hrg := zhz hr;have hsz := zlI hbar;have HL0 := zf (fun W => zij r x.size (zeA m l) (ze3 legs k l.lo) W hrg hsz.1 hsz.2);have HL1 := zf (fun W => zij r x.size (zeA m l) (ze3 legs k l.hi) W hrg hsz.1 hsz.2);have c3 := zmD legs l k 0 (by omega);have c7 := zmD legs l k 1 (by omega);rw [show zec l 0 = l.lo from rfl] at c3;rw [show zec l 1 = l.hi from rfl] at c7;clear hb KR7 KM7 KB7 KL7 KA7;go_wp2_with (first
    | (refine zL (by rfl) 26 (.tmp 5) rfl (w.heap.size + 1) rfl 26 _ (0, 0) _ KMr.out Tryz.underlying26 rfl (by kernel_rfl) ?_)
    | (refine zL (by rfl) 62 (.tmp 14) rfl w6.heap.size rfl 62 _ (0, 0) _ KLr.out Tryz.underlying62 rfl (by kernel_rfl) ?_))
   refine (H7.out _ HWr.out l hlok).mono ?_;rintro e w9 ⟨rfl, hb⟩;have HW9 := zf (zg HWr.out hb (ze _));have r0 := KRr.out.keep hb;have b0 := KBr.out.keep hb;have a0 := hKA.out.keep hb;clear hb KRr KMr KBr KLr;go_upto_region 23 with fail
   have e0 := cell_regrown (r0.cell 0);have e1 := cell_regrown (r0.cell 1);have e2 := cell_regrown (r0.cell 2);have e3 := cell_regrown (r0.cell 3);have e4 := cell_regrown (r0.cell 4);have e5 := cell_regrown (r0.cell 5);have e6 := cell_regrown (r0.cell 6);have e7 := cell_regrown (r0.cell 7);have e8 := cell_regrown (r0.cell 8);have f1 := cell_regrown (b0.cell 1);have g3 := cell_regrown (a0.cell 3);have g7 := cell_regrown (a0.cell 7);simp [c3, c7] at e0 e1 e2 e3 e4 e5 e6 e7 e8 f1 g3 g7;generalize ze3 legs k l.lo = t0 at *;generalize ze3 legs k l.hi = t1 at *;refine wp_region_quiet_below (by kernel_rfl) (by kernel_rfl) ?_
   repeat (go_big_quiet_step (first
    | (go_at_call 194; first | with_reducible exact Calls.regrown_of (HL0.out _) | with_reducible exact Calls.regrown_of (HL1.out _))))
   refine wpQuiet_nil ?_;intro wq9 hw';have hbq := zf (show Below w9.heap.size w9 wq9 by obtain ⟨p9, rfl⟩ := hw'; exact below_regrown _ _ _);clear hw';go_wp2;go_ret3;exact ⟨by rw [HS1.out]; rfl, zg HW9.out hbq.out (ze _)⟩
def zpW (f : Int → Option Int) (x y : Int) : Int → Option Int := fun z => if z = x then some y else f z
def zg1 (l : List JoinD) : Int → Option Int := l.foldl (fun f j => zpW f j.first j.second) (fun _ => none)
theorem zoR (l : List JoinD) (j : JoinD) : zg1 (l ++ [j]) = zpW (zg1 l) j.first j.second := by simp [zg1]
def zdz (l : List JoinD) : List Int := (l.map (·.second)).reverse
theorem zj9 (l : List JoinD) (j : JoinD) : zdz (l ++ [j]) = j.second :: zdz l := by simp [zdz]
theorem zqV : ∀ (l : List JoinD) (f : Int → Option Int) {i k : Int}, l.foldl (fun f j => zpW f j.first j.second) f i = some k → (∃ j ∈ l, j.first = i ∧ j.second = k) ∨ f i = some k := by
 intro l
 induction l with
 | nil => intro f i k h; exact .inr h
 | cons y l ih =>
  intro f i k h;rcases ih _ h with ⟨j, hj, h1, h2⟩ | h
  ·exact .inl ⟨j, zZ _ hj, h1, h2⟩
  ·replace h : (if i = y.first then some y.second else f i) = some k := h
   split at h
   ·rename_i q
    injection h with h
    exact .inl ⟨y, by simp, q.symm, h⟩
   ·exact .inr h
theorem zqx {l : List JoinD} {i k : Int} (h : zg1 l i = some k) : ∃ j ∈ l, j.first = i ∧ j.second = k := by
 rcases zqV l _ h with h | h
 ·exact h
 ·cases h
def zlq (ms : List MainD) (i : Int) : Int := (zcD ms i).leg.lo.1
def zdE (ms : List MainD) (v : Int) : Nat := ms.countP fun m => decide (v < m.leg.lo.1)
theorem zgU (m : MainD) (ms : List MainD) (z : Int) : zdE (m :: ms) z = zdE ms z + (if z < m.leg.lo.1 then 1 else 0) := by
 rw [zdE, List.countP_cons];simp [zdE]
theorem ztc (ms : List MainD) (v : Int) : zdE ms v ≤ ms.length := List.countP_le_length
theorem zqr : ∀ (ms : List MainD) {v u : Int}, v ≤ u → zdE ms u ≤ zdE ms v := by
 intro ms
 induction ms with
 | nil => intro v u _; exact ze _
 | cons m ms ih =>
  intro v u h;have := ih h;rw [zgU, zgU]
  split <;> split <;> omega
theorem zqs : ∀ (ms : List MainD) {v u : Int}, v < u → (∃ m ∈ ms, m.leg.lo.1 = u) → zdE ms u < zdE ms v := by
 intro ms
 induction ms with
 | nil => intro v u _ h; obtain ⟨m, hm, _⟩ := h; cases hm
 | cons m ms ih =>
  intro v u hv h;have hmono := zqr ms (Int.le_of_lt hv);rw [zgU, zgU];obtain ⟨y, hy, hu⟩ := h;rcases List.mem_cons.1 hy with rfl | hy
  ·rw [if_neg (by omega), if_pos (by omega)];omega
  ·have := ih hv ⟨y, hy, hu⟩
   split <;> split <;> omega
theorem zcC (x : DetD) : (zU x).length = (zx x.bars x.runs).length := zw ..
theorem zlD {x : DetD} (h : zah x = true) {i k : Int} (hn : zg1 x.laps i = some k) :
  0 ≤ i ∧ i < ((zU x).length : Int) ∧ 0 ≤ k ∧ k < ((zU x).length : Int) ∧ zdE (zU x) (zlq (zU x) k) < zdE (zU x) (zlq (zU x) i) := by
 obtain ⟨j, hj, rfl, rfl⟩ := zqx hn;have hf := zgd _ _ _ (zf5 h) j hj;have hf2 : zcW (zU x) j = true := by rw [zcW, zU, zk3]; exact hf
 have hr := zfD hf;rw [zw, ← zcC] at hr;clear hf hj hn;obtain ⟨f, s⟩ := j;simp only at hr;obtain ⟨p, rfl⟩ := Int.eq_ofNat_of_zero_le hr.1;obtain ⟨q, rfl⟩ := Int.eq_ofNat_of_zero_le hr.2.2.1;have hp2 : p < (zU x).length := by omega
 have hq2 : q < (zU x).length := by omega
 have ha : (zU x)[p]? = some (zU x)[p] := zi hp2;have hb : (zU x)[q]? = some (zU x)[q] := zi hq2;rw [zjT ha hb] at hf2;simp only [zm, zzJ] at hf2;have ea : zlq (zU x) (p : Int) = (zU x)[p].leg.lo.1 := by rw [zlq, zcD, zaz, zY, ha]; rfl
 have eb : zlq (zU x) (q : Int) = (zU x)[q].leg.lo.1 := by rw [zlq, zcD, zaz, zY, hb]; rfl
 show 0 ≤ (p : Int) ∧ (p : Int) < ((zU x).length : Int) ∧ 0 ≤ (q : Int) ∧ (q : Int) < ((zU x).length : Int) ∧ zdE (zU x) (zlq (zU x) (q : Int)) < zdE (zU x) (zlq (zU x) (p : Int))
 refine ⟨by omega, by omega, by omega, by omega, ?_⟩;rw [ea, eb];exact zqs _ hf2.1.1.2 ⟨_, List.getElem_mem hq2, rfl⟩
def zfk (f : Int → Option Int) : Nat → Int → List Int
 | 0, _ => []
 | n + 1, i => i :: (match f i with | none => [] | some k => zfk f n k)
def zji (f : Int → Option Int) (n : Nat) : Option Int → List Int
 | none => []
 | some k => zfk f n k
theorem zdP (f : Int → Option Int) (n : Nat) (i : Int) : zfk f (n + 1) i = i :: zji f n (f i) := by
 rw [zfk];cases f i <;> rfl
theorem znO (f : Int → Option Int) : ∀ (n : Nat) (i : Int), (zfk f n i).length ≤ n := by
 intro n
 induction n with
 | zero => intro i; exact ze _
 | succ n ih =>
  intro i;rw [zdP, zac];cases h : f i with
  | none => exact Nat.succ_le_succ (zu _)
  | some k => exact Nat.succ_le_succ (ih k)
theorem zpc {f : Int → Option Int} {N : Nat} (hf : ∀ i k, f i = some k → 0 ≤ k ∧ k < (N : Int)) : ∀ (n : Nat) (i : Int), 0 ≤ i → i < (N : Int) → ∀ z ∈ zfk f n i, 0 ≤ z ∧ z < (N : Int) := by
 intro n
 induction n with
 | zero => intro i _ _ z hz; cases hz
 | succ n ih =>
  intro i h0 h1 z hz;rw [zdP] at hz;rcases List.mem_cons.1 hz with rfl | hz
  ·exact ⟨h0, h1⟩
  ·cases h : f i with
   | none => rw [h] at hz; cases hz
   | some k =>
    rw [h] at hz;obtain ⟨a, b⟩ := hf i k h;exact ih k a b z hz
def zpH (x : DetD) (i : Nat) : Bool := !(zdz x.laps).contains (i : Int)
def zjc (x : DetD) (i : Nat) : List Int := zfk (zg1 x.laps) ((zU x).length + 1) i
def zdM (x : DetD) (k : Nat) : List (List Int) := ((List.range k).filter (zpH x)).map (zjc x)
def zcO (x : DetD) : List (List Int) := zdM x (zU x).length
theorem zkC (x : DetD) (k : Nat) : zdM x (k + 1) = zdM x k ++ (if zpH x k then [zjc x k] else []) := by
 rw [zdM, List.range_succ, zbw, zV, zdM];cases h : zpH x k <;> simp [h]
theorem zeR (x : DetD) (k : Nat) : (zdM x k).length ≤ k := by
 rw [zdM, zw];exact zh (zal _ _) (by simp)
theorem zh2 {x : DetD} (h : zah x = true) {c : List Int} (hc : c ∈ zcO x) : 0 < c.length ∧ c.length ≤ (zU x).length + 1 ∧ ∀ z ∈ c, 0 ≤ z ∧ z < ((zU x).length : Int) := by
 rw [zcO, zdM, zeT] at hc;obtain ⟨i, hi, rfl⟩ := hc;have hi2 := List.mem_range.1 (List.mem_filter.1 hi).1;refine ⟨?_, znO _ _ _, zpc (fun i k hk => ⟨(zlD h hk).2.2.1, (zlD h hk).2.2.2.1⟩) _ _ (by omega) (by omega)⟩;rw [zjc, zdP];simp
def zaB (ld : LaidD) : Int := idx zcx (zy ld.pts)
def zt5 : BoxD := ⟨(0, 0, 0), (0, 0, 0)⟩
def zbY (ld : LaidD) : BoxD := ((zy ld.pts)[(zaB ld).toNat]?).getD zt5
def ztO : LaidD := ⟨⟨.empty, 0, 0, 0, []⟩, []⟩
def zha (L : List LaidD) (i : Int) : LaidD := L.getD i.toNat ztO
theorem zd3 {L : List LaidD} {i : Nat} {ld : LaidD} (h : L[i]? = some ld) : zha L (i : Int) = ld := by
 rw [zha, zaz, zY, h]
 rfl
theorem zhh {ld : LaidD} (h : 0 ≤ zaB ld) : (zy ld.pts)[(zaB ld).toNat]? = some (zbY ld) := by
 have hr := zeW zcx (zy ld.pts);have hl : (zaB ld).toNat < (zy ld.pts).length := by
  have : zaB ld < ((zy ld.pts).length : Int) := hr.2;omega
 rw [zbY, zi hl]
 rfl
structure ChnD where
 bars : List Int
 lo : Int
 hi : Int
 is : Bool
 area : Int
def zdY (L : List LaidD) (i : Int) : Int := (zha L i).bar.size
def ziw (key : Int → Int) (m y : Int) : Int := if key y < key m then y else m
def zn9 (key : Int → Int) : List Int → Int
 | [] => 0
 | a :: l => l.foldl (ziw key) a
def zlt (L : List LaidD) (c : List Int) : Int := zn9 (zdY L) c
def zkJ (x : DetD) (ld : LaidD) : Int := (zbY ld).lo.1 + (zdH x.rule x.mem ld.bar.size (zy ld.pts)).1
def zkK (x : DetD) (ld : LaidD) : Int := (zbY ld).hi.1 - (zdH x.rule x.mem ld.bar.size (zy ld.pts)).2.1
def zgw (x : DetD) (a b : LaidD) : Bool := decide (0 ≤ zaB a) && decide (0 ≤ zaB b) && decide (zkJ x a < zkK x b)
def zjk (x : DetD) (c : List Int) (a b : LaidD) (area : Int) : ChnD := if zgw x a b then ⟨c, zkJ x a, zkK x b, true, area⟩ else ⟨c, 0, 0, false, area⟩
def zeD (x : DetD) (L : List LaidD) (c : List Int) : ChnD := zjk x c (zha L (c.headD 0)) (zha L (c.getLastD 0)) (zfO (zdY L (zlt L c)))
def zfy (x : DetD) : List ChnD := (zcO x).map (zeD x (zx x.bars x.runs))
theorem zmO (key : Int → Int) : ∀ (l : List Int) (a : Int), l.foldl (ziw key) a = a ∨ l.foldl (ziw key) a ∈ l := by
 intro l
 induction l with
 | nil => intro a; exact .inl rfl
 | cons y l ih =>
  intro a;rw [List.foldl_cons];rcases ih (ziw key a y) with h | h
  ·rw [h, ziw]
   split
   ·exact .inr (by simp)
   ·exact .inl rfl
  ·exact .inr (zZ _ h)
theorem ztf (key : Int → Int) {c : List Int} (h : 0 < c.length) : zn9 key c ∈ c := by
 cases c with
 | nil => simp at h
 | cons a l =>
  rw [zn9];rcases zmO key l a with h | h
  ·rw [h]; simp
  ·exact zZ _ h
def zlp (d : DemD) (L : List LaidD) (i : Int) : Bool := decide (zaB (zha L i) < 0) || !zib d (zbY (zha L i))
def zh7 (d : DemD) (L : List LaidD) (c : ChnD) : Bool := c.is && !(za5 (zlp d L) c.bars)
def zg0 (x : DetD) (d : DemD) : List ChnD := (zfy x).filter (zh7 d (zx x.bars x.runs))
def zt2 (p : Int) (c : ChnD) : Bool := decide (c.lo ≤ p) && decide (p < c.hi)
def zi6 (p n : Int) (c : ChnD) : Int := if zt2 p c then IntKind.i64.wrap (n + c.area) else n
def zfQ (l : List ChnD) (p : Int) : Int := l.foldl (zi6 p) 0
def zrO (c : ChnD) : List Int := [c.lo, c.hi]
def zd7 (l : List ChnD) : List Int := l.flatMap zrO
def zgn (l : List Int) : List Int := Lib.compact (l.mergeSort fun x y => decide (x ≤ y))
def zdI (v : Int → Int) : Int → List Int → List (Int × Int)
 | _, [] => []
 | last, p :: r => if v p = last then zdI v last r else (p, v p) :: zdI v (v p) r
def zgo (x : DetD) (d : DemD) : List (Int × Int) := zdI (zfQ (zg0 x d)) 0 (zgn (zd7 (zg0 x d)))
def zbk (x : DetD) (d : DemD) : Int := if 200 < (zgo x d).length then 4 else if zau (zgo x d) then 0 else 1
def zbR (x : DetD) (d : DemD) : List (Int × Int) := if zbk x d = 0 then zaE 0 (zgo x d) else []
theorem zol (v : Int → Int) {l : List Int} {k : Nat} {p : Int} (h : l[k]? = some p) (last : Int) : zdI v last (l.drop k) = if v p = last then zdI v last (l.drop (k + 1)) else (p, v p) :: zdI v (v p) (l.drop (k + 1)) := by
 rw [zaX h, zdI]
theorem zkS (l : List Int) : (zgn l).length ≤ l.length := by
 refine zh (Lib.compact_length_le _) ?_;rw [List.length_mergeSort];exact ze _
theorem zm7 (l : List ChnD) : (zd7 l).length = 2 * l.length := by
 induction l with
 | nil => rfl
 | cons c l ih => rw [zd7, zaf, zC, zac]; rw [zd7] at ih; rw [ih]; simp [zrO]; omega
theorem zp6 (x : DetD) (d : DemD) : (zg0 x d).length ≤ (zU x).length := by
 refine zh (zal _ _) ?_;rw [zfy, zw];exact zeR x _
theorem zjD (o : Option Int) (s : Int × Int) (r : List (Int × Int)) : za3 o (s :: r) = (zaS s.1 && within s.2 0 1099511627776 && (match o with | none => true | some p => decide (p < s.1)) && za3 (some s.1) r) := by
 cases o <;> rfl
theorem zj8 : ∀ (l : List (Int × Int)) (last : Int) (o q : Option Int), za3 o l = true → (∀ p, q = some p → ∃ r, o = some r ∧ p ≤ r) → za3 q (zaE last l) = true := by
 intro l
 induction l with
 | nil => intro _ _ _ _ _; rfl
 | cons s l ih =>
  intro last o q h hq;rw [zjD] at h;simp only [zm] at h;obtain ⟨⟨⟨h1, h2⟩, h3⟩, h4⟩ := h;rw [zaE]
  split
  ·refine ih _ _ _ h4 (fun p hp => ⟨s.1, rfl, ?_⟩);obtain ⟨r, hr, hpr⟩ := hq p hp;subst hr;simp only [zzJ] at h3;omega
  ·rw [zjD];simp only [zm];refine ⟨⟨⟨h1, h2⟩, ?_⟩, ih _ _ _ h4 (fun p hp => ⟨s.1, rfl, by injection hp with hp; omega⟩)⟩
   cases q with
   | none => rfl
   | some p =>
    obtain ⟨r, hr, hpr⟩ := hq p rfl;subst hr;simp only [zzJ] at h3 ⊢;omega
theorem zkm : ∀ (l : List (Int × Int)) (last : Int), (zaE last l).length ≤ l.length := by
 intro l
 induction l with
 | nil => intro _; exact ze _
 | cons s l ih =>
  intro last;rw [zaE]
  split
  ·exact Nat.le_succ_of_le (ih _)
  ·exact Nat.succ_le_succ (ih _)
theorem zlQ {l : List (Int × Int)} (h : zau l = true) : zau (zaE 0 l) = true := by
 rw [zau, zm, zzJ] at h ⊢;exact ⟨zh (zkm l 0) h.1, zj8 l 0 none none h.2 (fun p hp => by cases hp)⟩
theorem zm6 (x : DetD) (d : DemD) : zau (zbR x d) = true := by
 unfold zbR
 split
 ·rename_i h
  unfold zbk at h
  split at h
  ·cases h
  ·split at h
   ·rename_i _ q; exact zlQ q
   ·cases h
 ·rfl
def zhv (s t : List (Int × Int)) : List Int := zgn (((s ++ t).map (·.1)).filter zaS)
def zic (s t : List (Int × Int)) (p : Int) : Bool := decide (zdv s p < zdv t p)
def ztS (s t : List (Int × Int)) : Bool := (zhv s t).any (zic s t)
def zes (x : DetD) (d : DemD) : Bool := ztS (zbR x d) d.steps
def zfV (x : DetD) : List DemD → Int
 | [] => 0
 | d :: r => if zbk x d = 0 then zfV x r else zbk x d
def zbp (x : DetD) : Int := zfV x x.dems
def zgx (d : DemD) : FinD := ⟨1, d.name⟩
def zbO (x : DetD) (l : List DemD) : List FinD := (l.filter (zes x)).map zgx
def zaW (x : DetD) : List FinD := if zbp x = 0 then zbO x x.dems else []
theorem zlU (x : DetD) (l : List DemD) (d : DemD) : zbO x (l ++ [d]) = zbO x l ++ (if zes x d then [zgx d] else []) := by
 rw [zbO, zbw, zV, zbO];cases h : zes x d <;> simp [h]
theorem ziB (x : DetD) (l : List DemD) : (zbO x l).length ≤ l.length := by
 rw [zbO, zw];exact zal _ _
theorem zfl {x : DetD} : ∀ f ∈ zaW x, f.kind = 1 := by
 intro f hf;unfold zaW at hf
 split at hf
 ·rw [zbO, zeT] at hf;obtain ⟨d, _, rfl⟩ := hf
  rfl
 ·cases hf
theorem zfY (x : DetD) : (zaW x).length ≤ x.dems.length := by
 unfold zaW
 split
 ·exact ziB x x.dems
 ·exact zu _
theorem zpf (x : DetD) {l : List DemD} {k : Nat} {d : DemD} (h : l[k]? = some d) : zfV x (l.drop k) = if zbk x d = 0 then zfV x (l.drop (k + 1)) else zbk x d := by
 rw [zaX h, zfV]
theorem zh5 (A : Option Addr) (l : List Int) (n c : Nat) (fid : FuncId) (caps : Array Value) (p : Int → Bool) (w : World) {B : Nat} (h : Ints w B A l) (hB : B ≤ w.heap.size) (hn : n = l.length) (hm : n ≤ 300000)
  (hc : ∀ args w, (callFunc fid args).run Tryz.prog w = .ok (.enter fid args) w)
  (hf : ∀ x (W : World), x ∈ l → Below w.heap.size w W → Calls Tryz.prog fid (#[.int .i64 x] ++ caps) W fun e W' => e = .returned (.bool (p x)) ∧ Below W.heap.size W W') :
  Calls Tryz.prog 277 #[.slice A n c, .func (.func fid) #[] caps] w fun e w' => e = .returned (.int .i64 (idx p l)) ∧ Below w.heap.size w w' := by
 have Hf := zf hf;have hn' := zf hn;have Hs := zf h;clear hf hn h;go_enter Tryz.func277, Tryz.ntmps277;go_wp2;go_loopw [8] (fun i wr => ∃ k : Nat, k ≤ n ∧ i = .int .i64 k ∧ NoneTo p l k ∧ Below w.heap.size w wr) (fun i _ => n - (intOf i).toNat)
 case atStart => exact ⟨0, zu _, rfl, NoneTo.zero _ _, Below.refl _ _⟩
 case round =>
  obtain ⟨k, hk, rfl, hw, hb⟩ := hrel;by_cases hlt : k < n
  ·obtain ⟨b, off, x, rfl, hbl, hx, h0⟩ := Ints.get (k := k) (Hs.out.carry (hb.mono hB) (ze _)) (by rw [← hn'.out]; exact hlt);have Hx := zf hx;have HF := zf (fun (W : World) (hW : Below w.heap.size w W) => Hf.out x W (zv hx) hW);clear hx hbl;go_wp2_with fail;refine (HF.out _ hb).mono ?_;rintro e w1 ⟨rfl, hb1⟩;clear h0;have hb2 := zg hb hb1 (ze _);cases hp : p x
   ·have Hp := zf hp;clear hp;go_wp2;go_roundw
    case rel => exact ⟨k + 1, by omega, by go_num, hw.succ Hx.out Hp.out, hb2⟩
    case measure => simp [intOf]; omega
   ·have Hp := zf hp;clear hp;go_wp2;go_ret;exact ⟨zam (hw.hit Hx.out Hp.out).symm, hb2⟩
  ·obtain rfl : k = n := by omega
   go_wp2;go_ret;exact ⟨zam (NoneTo.miss (by rw [← hn'.out]; exact hw)).symm, hb⟩
theorem zgP (A : Option Addr) (l : List Int) (n c : Nat) (fid : FuncId) (caps : Array Value) (p : Int → Bool) (w : World) {B : Nat} (h : Ints w B A l) (hB : B ≤ w.heap.size) (hn : n = l.length) (hm : n ≤ 300000)
  (hc : ∀ args w, (callFunc fid args).run Tryz.prog w = .ok (.enter fid args) w)
  (hf : ∀ x (W : World), x ∈ l → Below w.heap.size w W → Calls Tryz.prog fid (#[.int .i64 x] ++ caps) W fun e W' => e = .returned (.bool (p x)) ∧ Below W.heap.size W W') :
  Calls Tryz.prog 243 #[.slice A n c, .func (.func fid) #[] caps] w fun e w' => e = .returned (.bool (za5 p l)) ∧ Below w.heap.size w w' := by
 have Hf := zf hf;have hn' := zf hn;have Hc := zf hc;clear hf hn hc;go_enter Tryz.func243, Tryz.ntmps243;go_wp2_with fail;refine (zh5 A l n c fid caps p w h hB hn'.out hm Hc.out Hf.out).mono ?_;rintro e w1 ⟨rfl, hb⟩;go_wp2;go_ret;exact ⟨zo (by rw [zfj]; rfl), hb⟩
theorem zsm (x : Int) (w : World) : Calls Tryz.prog 317 #[.int .i64 x] w fun e w' => e = .returned (.bool false) ∧ w = w' := by
 go_enter Tryz.func317, Tryz.ntmps317;go_wp2;go_ret;exact ⟨zo (by simp), rfl⟩
def zls (x y : Int) : Int := if x < y then -1 else if y < x then 1 else 0
theorem zsP (x y : Int) : decide (zls x y < 0) = decide (x < y) := by
 unfold zls;by_cases h : x < y
 ·rw [if_pos h]; simp [h]
 ·rw [if_neg h]
  split <;> simp [h]
theorem zms (x y : Int) (w : World) : Calls Tryz.prog 308 #[.int .i64 x, .int .i64 y] w fun e w' => e = .returned (.int .i64 (zls x y)) ∧ w = w' := by
 have Hr := zf (show zls x y = if x < y then -1 else if y < x then 1 else 0 from rfl);generalize zls x y = t at *;have HN := zf (fun (z : Int) (W : World) => zsm z W);by_cases h1 : x < y
 ·rw [if_pos h1] at Hr;have d1 : decide (x < y) = true := zI h1;go_enter Tryz.func308, Tryz.ntmps308;go_wp2_with fail;refine (HN.out _ _).mono ?_;rintro e w1 ⟨rfl, rfl⟩;go_wp2_with fail;refine (HN.out _ _).mono ?_;rintro e w1 ⟨rfl, rfl⟩;go_wp2;go_ret;exact ⟨zam (by rw [Hr.out]), rfl⟩
 ·rw [if_neg h1] at Hr;have d1 : decide (x < y) = false := zE h1;by_cases h2 : y < x
  ·rw [if_pos h2] at Hr;have d2 : decide (y < x) = true := zI h2;go_enter Tryz.func308, Tryz.ntmps308;go_wp2_with fail;refine (HN.out _ _).mono ?_;rintro e w1 ⟨rfl, rfl⟩;go_wp2_with fail;refine (HN.out _ _).mono ?_;rintro e w1 ⟨rfl, rfl⟩;go_wp2;go_ret;exact ⟨zam (by rw [Hr.out]), rfl⟩
  ·rw [if_neg h2] at Hr;have d2 : decide (y < x) = false := zE h2;go_enter Tryz.func308, Tryz.ntmps308;go_wp2_with fail;refine (HN.out _ _).mono ?_;rintro e w1 ⟨rfl, rfl⟩;go_wp2_with fail;refine (HN.out _ _).mono ?_;rintro e w1 ⟨rfl, rfl⟩;go_wp2;go_ret;exact ⟨zam (by rw [Hr.out]), rfl⟩
def zeB (key : Int → Int) (a : Int) (r : List Int) (k : Nat) : Int := (r.take k).foldl (ziw key) a
theorem zoV {key : Int → Int} {a : Int} {r : List Int} {k : Nat} {y : Int} (h : r[k]? = some y) : zeB key a r (k + 1) = ziw key (zeB key a r k) y := by
 rw [zeB, zQ h, List.foldl_append]
 rfl
theorem zqz (key : Int → Int) (a : Int) (r : List Int) (k : Nat) : zeB key a r k ∈ a :: r := by
 rcases zmO key (r.take k) a with h | h
 ·rw [zeB, h]; simp
 ·exact zZ _ (List.mem_of_mem_take h)
theorem znv (A : Option Addr) (l : List Int) (n c : Nat) (fid : FuncId) (caps : Array Value) (key : Int → Int) (w : World) {B : Nat} (h : Ints w B A l) (hB : B ≤ w.heap.size) (hn : n = l.length) (hm : n ≤ 300000) (h0 : 0 < n)
  (hc : ∀ args w, (callFunc fid args).run Tryz.prog w = .ok (.enter fid args) w)
  (hf : ∀ x y (W : World), x ∈ l → y ∈ l → Below w.heap.size w W → Calls Tryz.prog fid (#[.int .i64 x, .int .i64 y] ++ caps) W fun e W' => e = .returned (.int .i64 (zls (key x) (key y))) ∧ Below W.heap.size W W') :
  Calls Tryz.prog 306 #[.slice A n c, .func (.func fid) #[] caps] w fun e w' => e = .returned (.int .i64 (zn9 key l)) ∧ Below w.heap.size w w' := by
 obtain ⟨a, r, rfl⟩ : ∃ a r, l = a :: r := by
  cases l with
  | nil => simp at hn; omega
  | cons a r => exact ⟨a, r, rfl⟩
 have Hf := zf hf;have hn' := zf hn;have Hs := zf h;rw [zac] at hn;obtain ⟨q, hq⟩ : ∃ q, q = r.length := ⟨_, rfl⟩;rw [← hq] at hn;have Hq := zf hq;obtain ⟨b, off, x, rfl, hbl, hx, hc0⟩ := Ints.get (k := 0) h (by simp);obtain rfl : a = x := by simpa using hx
 have lb : b < w.heap.size := zt hbl hB;simp only [Nat.add_zero] at hc0;have HE := zf (show zn9 key (a :: r) = zeB key a r q by rw [zn9, zeB, hq, zF]);generalize zn9 key (a :: r) = res at *;clear hf h hx hbl hq;subst hn;go_enter Tryz.func306, Tryz.ntmps306;go_wp2;go_loopw [5, 6] (fun mv iv wr => ∃ k : Nat, k ≤ q ∧ iv = .int .i64 ((k : Int) + 1) ∧ mv = .int .i64 (zeB key a r k) ∧ Below w.heap.size w wr) (fun _ iv _ => q + 1 - (intOf iv).toNat)
 case atStart => exact ⟨0, zu _, rfl, rfl, Below.refl _ _⟩
 case round =>
  obtain ⟨k, hk, rfl, rfl, hb⟩ := hrel;rename World => wr;by_cases hlt : k < q
  ·obtain ⟨b', off', y, hA, hbl, hx, h0⟩ := Ints.get (k := k + 1) (Hs.out.carry (hb.mono hB) (ze _)) (by simp [← Hq.out]; omega);obtain ⟨rfl, rfl⟩ : b' = b ∧ off' = off := by simpa [eq_comm] using hA
   have hx2 : r[k]? = some y := by simpa using hx
   have HF := zf (fun (W : World) (hW : Below w.heap.size w W) => Hf.out y (zeB key a r k) W (zv hx) (zqz key a r k) hW);have Hn := zf (zoV (key := key) (a := a) hx2);have Hc := zf (zsP (key y) (key (zeB key a r k)));have lbw : b' < wr.heap.size := zt lb hb.size;have Hl := zf (show ziw key (zeB key a r k) y = if key y < key (zeB key a r k) then y else zeB key a r k from rfl);clear hx hbl hA hx2;generalize zeB key a r k = m at *;generalize zls (key y) (key m) = cv at *;have z1 : ((k + 1 : Nat) : Int) = (k : Int) + 1 := by omega
   go_wp2_with fail;refine (HF.out _ hb).mono ?_;rintro e w1 ⟨rfl, hb1⟩;have hb2 := zg hb hb1 (ze _);have h1 := (hb1.cell (p := ⟨b', off' + (k + 1), none⟩) lbw).trans h0;have lb1 : b' < w1.heap.size := zt lbw hb1.size;clear h0 hc0;by_cases hp : key y < key m
   ·have d1 : decide (cv < 0) = true := by rw [Hc.out]; exact zI hp
    have Hm := zf (show zeB key a r (k + 1) = y by rw [Hn.out, Hl.out, if_pos hp]);go_wp2;go_roundw
    case rel => exact ⟨k + 1, by omega, by go_num, by rw [Hm.out], hb2⟩
    case measure => simp [intOf]; omega
   ·have d1 : decide (cv < 0) = false := by rw [Hc.out]; exact zE hp
    have Hm := zf (show zeB key a r (k + 1) = m by rw [Hn.out, Hl.out, if_neg hp]);go_wp2;go_roundw
    case rel => exact ⟨k + 1, by omega, by go_num, by rw [Hm.out], hb2⟩
    case measure => simp [intOf]; omega
  ·obtain rfl : k = q := by omega
   go_wp2;go_ret;exact ⟨zam HE.out.symm, hb⟩
end Go.Proofs.YtpaanfjjnjjoeaaGreat
namespace Go.Proofs.YtpaanfjjnjjoeaaGreat
open Go.RowKit Go.Maps
def NMap (w : World) (b n : Nat) (f : Int → Option Int) : Prop :=
 ∃ D : DataW Unit, IsMap D ∧ w.ownsMap Tryz.prog 3 (plainElem Tryz.prog 3) b n D ∧ ∀ x : Int, InInt x → Maps.has D (.int .i64 x) = (f x).isSome ∧ D.atKey (.int .i64 x) (.lit (.int .i64 0)) = .lit (.int .i64 ((f x).getD 0))
section
variable {w w' : World} {b n : Nat} {f : Int → Option Int}
theorem NMap.new (w : World) : NMap (w.alloc (.map #[] 0)) w.heap.size 0 (fun _ => none) :=
 ⟨.map [], ⟨[], rfl⟩, World.ownsMap_made _ _ _ _, fun _ _ => ⟨rfl, rfl⟩⟩
theorem NMap.lt (h : NMap w b n f) : b < w.heap.size := by obtain ⟨D, _, ho, _⟩ := h; exact ho.lt
theorem NMap.keep (h : NMap w b n f) (hb : Below w.heap.size w w') : NMap w' b n f := by
 obtain ⟨D, hm, ho, ha⟩ := h;exact ⟨D, hm, ho.kept (row := none) ⟨hb.os, hb.tape, hb.output, hb.size, fun k hk _ => hb.block k hk⟩ (by simp), ha⟩
theorem NMap.alloc (h : NMap w b n f) (o : Obj) : NMap (w.alloc o) b n f := h.keep (zk w o)
theorem NMap.drew (h : NMap w b n f) : NMap w.drew b n f := h.keep (Below.drew (Below.refl _ _))
theorem NMap.grown {g : Nat} (h : NMap w b n f) (hg : w.grownBy w' (some g)) (hb : b ≠ g) : NMap w' b n f := by
 obtain ⟨D, hm, ho, ha⟩ := h;exact ⟨D, hm, ho.kept hg (by simpa using hb), ha⟩
theorem NMap.below {B : Nat} (h : NMap w b n f) (hb : Below B w w') (hB : b < B) : NMap w' b n f := by
 obtain ⟨D, hm, ho, ha⟩ := h;obtain ⟨es, clock, h1, h2⟩ := ho;exact ⟨D, hm, ⟨es, clock, (hb.block b hB).trans h1, h2⟩, ha⟩
theorem BSet.below {B : Nat} {l : List Int} (h : BSet w b n l) (hb : Below B w w') (hB : b < B) : BSet w' b n l := by
 obtain ⟨D, hm, ho, ha⟩ := h;obtain ⟨es, clock, h1, h2⟩ := ho;exact ⟨D, hm, ⟨es, clock, (hb.block b hB).trans h1, h2⟩, ha⟩
theorem NMap.look (h : NMap w b n f) {x : Int} (hx : InInt x) : (Instr.lookup 355 (.map (some b)) (.int .i64 x) true).run Tryz.prog w = .ok (.tuple #[.int .i64 ((f x).getD 0), .bool (f x).isSome]) w := by
 obtain ⟨D, _, ho, ha⟩ := h;obtain ⟨v, ps, hrun, hv⟩ := ho.look_ok zhC Tryz.underlying355 (zpI w) (plainElem_int Tryz.underlying3 (by decide)) (keyOf_int_mk Tryz.underlying3 hx.wf);obtain ⟨y, rfl, hz⟩ := zfa hv;rw [(ha x hx).2] at hz;rw [(ha x hx).1] at hrun;simp only [Prod.mk.injEq, DataW.lit.injEq, Lit.int.injEq, true_and] at hz;rw [hrun, hz.1]
theorem NMap.store (h : NMap w b n f) {x : Int} (hx : InInt x) {y : Int} (hy : InInt y) (hn : n ≤ 1000000) :
  ∃ w', (Instr.mapUpdate 355 (.map (some b)) (.int .i64 x) (.int .i64 y)).run Tryz.prog w = .ok () w' ∧ NMap w' b (n + 1) (zpW f x y) ∧ w.grownBy w' (some b) := by
 obtain ⟨D, hm, ho, ha⟩ := h;obtain ⟨w', hrun, ho', hg⟩ := ho.update zhC Tryz.underlying355 (by unfold maxLen; omega) (keyOf_int_mk Tryz.underlying3 hx.wf) (plainElem_int Tryz.underlying3 hy.wf);refine ⟨w', hrun, ⟨D.put (.int .i64 x) (.lit (.int .i64 y)), ?_, ho', fun z hz => ?_⟩, hg⟩
 ·obtain ⟨es, rfl⟩ := hm;exact ⟨_, rfl⟩
 ·unfold zpW;by_cases hst : z = x
  ·subst hst;rw [if_pos rfl];exact ⟨has_put_same hm (by trivial) _, atKey_put_same hm (by trivial) _ _⟩
  ·rw [if_neg hst];have hne : (Lit.int .i64 z) ≠ .int .i64 x := by intro he; injection he with _ he; exact hst he
   exact ⟨(has_put_other hne _).trans (ha z hz).1, (atKey_put_other hne _ _).trans (ha z hz).2⟩
end
end Go.Proofs.YtpaanfjjnjjoeaaGreat
namespace Go.Proofs.YtpaanfjjnjjoeaaGreat
open Go.RowKit
def RowB (w : World) (t : TypeId) (A : Option Addr) (vals : List Value) : Prop :=
 0 < vals.length → ∃ g cs, A = some ⟨g, 0, none⟩ ∧ Blk w g t cs ∧ ∀ (j : Nat) (u : Value), vals[j]? = some u → cs[j]? = some u
section
variable {α : Type} {w w' : World} {t : TypeId} {A : Option Addr} {vals : List Value} {size : Nat} {enc : α → List Value} {l : List α}
theorem RowB.keep (h : RowB w t A vals) (hk : ∀ g cs, Blk w g t cs → Blk w' g t cs) : RowB w' t A vals := by
 intro hl;obtain ⟨g, cs, h1, h2, h3⟩ := h hl;exact ⟨g, cs, h1, hk g cs h2, h3⟩
theorem RowB.below (h : RowB w t A vals) (hb : Below w.heap.size w w') : RowB w' t A vals := h.keep fun _ _ q => q.keep hb
theorem RowB.alloc (h : RowB w t A vals) (o : Obj) : RowB (w.alloc o) t A vals := h.keep fun _ _ q => q.alloc o
theorem RowB.sl (he : ∀ x, (enc x).length = size) (hs : 0 < size) (h : RowB w t A (l.flatMap enc)) : SlOf w w.heap.size size (Flat enc) A l := by
 intro hl;have hf : 0 < (l.flatMap enc).length := by rw [zbG he]; exact Nat.mul_pos hl hs
 obtain ⟨g, cs, rfl, h2, h3⟩ := h hf;exact zhc he h2 h3 h2.lt hl
theorem RowB.of_row {base n c : Nat} (h : Row w base t size enc (.slice A n c) l) : RowB w t A (l.flatMap enc) := by
 intro hf;have hl : 0 < l.length := by
  cases l with
  | nil => simp at hf
  | cons a r => simp
 obtain ⟨g, cs, h1, _, h2, h3⟩ := zi8 h hl;exact ⟨g, cs, h1, h2, h3⟩
theorem SlOf.read_as {β : Type} {B : Nat} {R : World → Nat → List Value → β → Prop} (f : α → β) (h : SlOf w B size (Flat enc) A l) (hR : ∀ s ∈ l, R w B (enc s) (f s)) : SlOf w B size R A (l.map f) := by
 intro hl;rw [zw] at hl;obtain ⟨b, off, h1, h2, h3⟩ := h hl;refine ⟨b, off, h1, h2, fun k x hx => ?_⟩;rw [zaH] at hx;cases hs : l[k]? with
 | none => rw [hs] at hx; cases hx
 | some s =>
  rw [hs] at hx;injection hx with hx
  subst hx;obtain ⟨vs, q1, q2, q3⟩ := h3 k s hs;have q2' : vs = enc s := q2;subst q2';exact ⟨_, q1, hR s (zv hs), q3⟩
end
def zfW (ld : LaidD) (da : Option Addr) (dc : Nat) (la : Option Addr) (lc : Nat) : List Value :=
 [.string ld.bar.mark, .int .i64 ld.bar.size, .int .i64 ld.bar.count, .int .i64 ld.bar.code, .slice da ld.bar.dims.length dc, .slice la (zy ld.pts).length lc, .int .i64 (zaB ld)]
def ztV : World → Nat → List Value → LaidD → Prop := fun w B vs ld => ∃ da dc la lc, vs = zfW ld da dc la lc ∧ Ints w B da ld.bar.dims ∧ BoxesAt w B la (zy ld.pts)
theorem zci : zfX ztV := fun _ _ _ _ _ _ hb hB ⟨da, dc, la, lc, h, h1, h2⟩ => ⟨da, dc, la, lc, h, h1.carry hb hB, h2.carry (Flat.carried _) hb hB⟩
abbrev RodsW (w : World) (B : Nat) (A : Option Addr) (l : List LaidD) : Prop := SlOf w B 7 ztV A l
theorem RodsW.get {w : World} {B : Nat} {A : Option Addr} {l : List LaidD} (h : RodsW w B A l) {k : Nat} (hk : k < l.length) :
  ∃ b off ld da dc la lc, A = some ⟨b, off, none⟩ ∧ b < B ∧ l[k]? = some ld ∧ Ints w B da ld.bar.dims ∧ BoxesAt w B la (zy ld.pts) ∧
   ∀ j v, (zfW ld da dc la lc)[j]? = some v → w.cell? ⟨b, off + k * 7 + j, none⟩ = some v := by
 obtain ⟨b, off, x, vs, hA, hb, hx, _, ⟨da, dc, la, lc, rfl, h1, h2⟩, hc⟩ := h.at_ hk;exact ⟨b, off, x, da, dc, la, lc, hA, hb, hx, h1, h2, hc⟩
structure RodX where
 ld : LaidD
 da : Option Addr
 dc : Nat
 la : Option Addr
 lc : Nat
def zeI (s : RodX) : List Value := zfW s.ld s.da s.dc s.la s.lc
theorem ziU (s : RodX) : (zeI s).length = 7 := rfl
theorem znT (s : RodX) : ∀ u ∈ zeI s, u.oneCell' = true := by
 intro u hu;simp only [zeI, zfW, List.mem_cons, List.not_mem_nil, or_false] at hu;rcases hu with rfl | rfl | rfl | rfl | rfl | rfl | rfl <;> rfl
def ztC : World → Nat → List Value → List Int → Prop := fun w B vs l => ∃ A c, vs = [.slice A l.length c] ∧ Ints w B A l
theorem zkw : zfX ztC := fun _ _ _ _ _ _ hb hB ⟨A, c, h, h1⟩ => ⟨A, c, h, h1.carry hb hB⟩
abbrev IntLs (w : World) (B : Nat) (A : Option Addr) (l : List (List Int)) : Prop := SlOf w B 1 ztC A l
theorem IntLs.get {w : World} {B : Nat} {A : Option Addr} {l : List (List Int)} (h : IntLs w B A l) {k : Nat} (hk : k < l.length) :
  ∃ b off x A' c', A = some ⟨b, off, none⟩ ∧ b < B ∧ l[k]? = some x ∧ Ints w B A' x ∧ w.cell? ⟨b, off + k, none⟩ = some (.slice A' x.length c') := by
 obtain ⟨b, off, x, vs, hA, hb, hx, _, ⟨A', c', rfl, h1⟩, hc⟩ := h.at_ hk;have := hc 0 _ rfl;simp at this;exact ⟨b, off, x, A', c', hA, hb, hx, h1, this⟩
structure IntsX where
 l : List Int
 A : Option Addr
 c : Nat
def zfH (s : IntsX) : List Value := [.slice s.A s.l.length s.c]
theorem zhZ (s : IntsX) : (zfH s).length = 1 := rfl
theorem zmm (s : IntsX) : ∀ u ∈ zfH s, u.oneCell' = true := by
 intro u hu;simp only [zfH, List.mem_cons, List.not_mem_nil, or_false] at hu;rcases hu with rfl
 rfl
def zeJ (x : ChnD) (A : Option Addr) (c : Nat) : List Value := [.slice A x.bars.length c, .int .i64 x.lo, .int .i64 x.hi, .bool x.is, .int .i64 x.area]
def ztY : World → Nat → List Value → ChnD → Prop := fun w B vs x => ∃ A c, vs = zeJ x A c ∧ Ints w B A x.bars
theorem zdi : zfX ztY := fun _ _ _ _ _ _ hb hB ⟨A, c, h, h1⟩ => ⟨A, c, h, h1.carry hb hB⟩
abbrev ChnsW (w : World) (B : Nat) (A : Option Addr) (l : List ChnD) : Prop := SlOf w B 5 ztY A l
theorem ChnsW.get {w : World} {B : Nat} {A : Option Addr} {l : List ChnD} (h : ChnsW w B A l) {k : Nat} (hk : k < l.length) :
  ∃ b off x A' c', A = some ⟨b, off, none⟩ ∧ b < B ∧ l[k]? = some x ∧ Ints w B A' x.bars ∧ ∀ j v, (zeJ x A' c')[j]? = some v → w.cell? ⟨b, off + k * 5 + j, none⟩ = some v := by
 obtain ⟨b, off, x, vs, hA, hb, hx, _, ⟨A', c', rfl, h1⟩, hc⟩ := h.at_ hk;exact ⟨b, off, x, A', c', hA, hb, hx, h1, hc⟩
structure ChnX where
 ch : ChnD
 A : Option Addr
 c : Nat
def zbM (s : ChnX) : List Value := zeJ s.ch s.A s.c
theorem zdB (s : ChnX) : (zbM s).length = 5 := rfl
theorem zep (s : ChnX) : ∀ u ∈ zbM s, u.oneCell' = true := by
 intro u hu;simp only [zbM, zeJ, List.mem_cons, List.not_mem_nil, or_false] at hu;rcases hu with rfl | rfl | rfl | rfl | rfl <;> rfl
structure PrtD where
 lo : Int
 hi : Int
 there : Int
 wants : Int
def zfN (p : PrtD) : List Value := [.int .i64 p.lo, .int .i64 p.hi, .int .i64 p.there, .int .i64 p.wants]
theorem zhm (p : PrtD) : (zfN p).length = 4 := rfl
theorem zjX (p : PrtD) : ∀ u ∈ zfN p, u.oneCell' = true := by
 intro u hu;simp only [zfN, List.mem_cons, List.not_mem_nil, or_false] at hu;rcases hu with rfl | rfl | rfl | rfl <;> rfl
abbrev PrtsAt (w : World) (B : Nat) (A : Option Addr) (l : List PrtD) : Prop := SlOf w B 4 (Flat zfN) A l
theorem PrtsAt.get {w : World} {B : Nat} {A : Option Addr} {l : List PrtD} (h : PrtsAt w B A l) {k : Nat} (hk : k < l.length) :
  ∃ b off x, A = some ⟨b, off, none⟩ ∧ b < B ∧ l[k]? = some x ∧ ∀ j v, (zfN x)[j]? = some v → w.cell? ⟨b, off + k * 4 + j, none⟩ = some v := by
 obtain ⟨b, off, x, vs, hA, hb, hx, _, hr, hc⟩ := h.at_ hk;have hr' : vs = zfN x := hr;subst hr';exact ⟨b, off, x, hA, hb, hx, hc⟩
def zkh (p : PrtD) : Bool := decide (p.there < p.wants)
theorem zsd {w : World} {base c g : Nat} {e : TypeId} {l : List (Int × Int)} {a : Int × Int} (h : Row w base e 2 zaF (.slice (some ⟨g, 0, none⟩) (l.length + 1) c) (l ++ [a])) (y : Int) :
  Row (w.setCell ⟨g, l.length * 2 + 1, none⟩ (.int .i64 y)) base e 2 zaF (.slice (some ⟨g, 0, none⟩) (l.length + 1) c) (l ++ [(a.1, y)]) := by
 have hl : (l ++ [a]).length = l.length + 1 := by simp
 have hl2 : (l ++ [(a.1, y)]).length = l.length + 1 := by simp
 unfold Row at h ⊢;rw [hl] at h;have h2 := (h.stored (l.length * 2 + 1) (.int .i64 y)).1;have hf : (l.flatMap zaF).length = l.length * 2 := zbG zbi l;have e1 : ((l ++ [a]).flatMap zaF).set (l.length * 2 + 1) (.int .i64 y) = (l ++ [(a.1, y)]).flatMap zaF := by
  rw [zae, zae, List.set_append_right _ _ (by omega), hf, show l.length * 2 + 1 - l.length * 2 = 1 by omega]
  rfl
 rw [hl2, ← e1];exact h2
theorem zr2 : ∃ i0, Tryz.prog.info? 71 = some i0 ∧ i0.zero = some (.agg #[.int .i64 0, .int .i64 0]) ∧ i0.size = 2 ∧ i0.bytes = 16 := by
 have h : (Tryz.prog.info? 71).map (fun i => (i.zero, i.size, i.bytes)) = some (some (.agg #[.int .i64 0, .int .i64 0]), 2, 16) := by kernel_rfl
 cases hi : Tryz.prog.info? 71 with
 | none => rw [hi] at h; cases h
 | some i =>
  rw [hi] at h;simp only [Option.map_some, Option.some.injEq, Prod.mk.injEq] at h;exact ⟨i, rfl, h.1, h.2.1, h.2.2⟩
theorem zpa (n : Nat) (w : World) (hn : n ≤ 100000) :
  Calls Tryz.prog 253 #[.slice none 0 0, .int .i64 (n : Int)] w fun e w' => ∃ A c, e = .returned (.slice A 0 c) ∧ Row w' w.heap.size 71 2 zaF (.slice A 0 c) [] ∧ Below w.heap.size w w' := by
 by_cases h0 : n = 0
 ·subst h0;go_enter Tryz.func253, Tryz.ntmps253;go_wp2;go_ret;exact ⟨none, 0, rfl, Row.nil _ _ _ _ _, Below.refl _ _⟩
 ·obtain ⟨i0, hi0, hz0, hs0, hb0⟩ := zr2;have hrz : ∀ ty, (Builtin.append_ #[67, 3] ty #[.slice none 0 0, .int .i64 (n : Int)]).run Tryz.prog w =
    .ok (.slice (some ⟨w.heap.size, 0, none⟩) n (grownCap w n 0 71)) (w.drew.alloc (.cells (([] : List Value).toArray ++ Builtin.zeroCells (Value.agg #[.int .i64 0, .int .i64 0]).cells n ++ Builtin.zeroCells (Value.agg #[.int .i64 0, .int .i64 0]).cells (grownCap w n 0 71 - n)) 71)) := fun ty => by
   have h := Lib.run_append_grow_zeros w 67 3 ty 71 i0 _ .i64 .i64 Tryz.underlying67 Tryz.underlying3 hi0 hz0 none 0 0 [] (run_firstCells_none w.drew i0.size 0 0 0) n (by omega) (by omega) (by omega) (by omega) (by rw [hb0]; omega) (by rw [Nat.zero_add]; exact growslice_fits (by omega) (by rw [hb0]; omega));rw [Nat.zero_add] at h;exact h
  have hGn : n ≤ grownCap w n 0 71 := grownCap_ge w _ _ _;have hG63 : grownCap w n 0 71 ≤ maxLen := grownCap_le_maxLen w n 0 71 (by unfold maxLen; omega);generalize grownCap w n 0 71 = G at *;have z1 : IntKind.i64.wrap (n : Int) = (n : Int) := zr _ (by omega);have z2 : wrap64 (n : Int) = (n : Int) := zas _ (by omega);have z3 : decide (0 < (n : Int)) = true := by simp; omega
  have z4 : decide (0 < n) = true := by simp; omega
  have z5 : decide ((n : Int) < 0) = false := by simp
  have HR := zf (show Row (w.alloc (.cells (Builtin.zeroCells #[.int .i64 0, .int .i64 0] n ++ Builtin.zeroCells #[.int .i64 0, .int .i64 0] (G - n)) 71)).drew w.heap.size 71 2 zaF (.slice (some ⟨w.heap.size, 0, none⟩) 0 G) [] by
   refine ⟨rfl, .inr ⟨w.heap.size, G, _, rfl, ze _, (Blk.new w _ _).drew, zu _, hG63, ?_, by simp⟩⟩;rw [Array.size_append, size_zeroCells, size_zeroCells]
   show n * 2 + (G - n) * 2 = G * 2
   omega)
  have HB := zf (Below.drew (zk w (.cells (Builtin.zeroCells #[.int .i64 0, .int .i64 0] n ++ Builtin.zeroCells #[.int .i64 0, .int .i64 0] (G - n)) 71)));go_enter Tryz.func253, Tryz.ntmps253;go_wp2_with (at_builtin; refine Lib.wpList_append_run _ rfl _ _ _ _ rfl _ _ rfl rfl _ _ (hrz _) ?_)
  all_goals (go_ret; exact ⟨some ⟨w.heap.size, 0, none⟩, G, rfl, HR.out, HB.out⟩)
theorem zmr (A1 A2 : Option Addr) (l1 l2 : List (Int × Int)) (n1 c1 n2 c2 g : Nat) (w : World) {B : Nat} (h1 : StpsAt w B A1 l1) (h2 : StpsAt w B A2 l2) (hB : B ≤ w.heap.size) (hn1 : n1 = l1.length) (hn2 : n2 = l2.length) (hm1 : n1 ≤ 1000) (hm2 : n2 ≤ 1000)
  (hg : Blk w g 67 #[.slice A1 n1 c1, .slice A2 n2 c2]) :
  Calls Tryz.prog 197 #[.slice (some ⟨g, 0, none⟩) 2 2] w fun e w' => ∃ A c, e = .returned (.slice A (l1 ++ l2).length c) ∧ Row w' w.heap.size 71 2 zaF (.slice A (l1 ++ l2).length c) (l1 ++ l2) ∧ Below w.heap.size w w' := by
 have H1 := zf (fun (W : World) (hz : Below w.heap.size w W) => SlOf.carry (Flat.carried _) h1 (hz.mono hB) (ze B));have H2 := zf (fun (W : World) (hz : Below w.heap.size w W) => SlOf.carry (Flat.carried _) h2 (hz.mono hB) (ze B));have N1 := zf hn1;have N2 := zf hn2;have HG := zf hg;have hlen : (l1 ++ l2).length = n1 + n2 := by rw [zC, hn1, hn2]
 have Hlen := zf hlen;have HGr := zf (fun (W : World) => zpa (n1 + n2) W (by omega));have g0 := hg.cell 0;have g1 := hg.cell 1;simp at g0 g1;have lg := hg.lt;clear h1 h2 hB hn1 hn2 hg hlen;go_enter Tryz.func197, Tryz.ntmps197;go_wp2;go_loop [3, 11] (fun sv iv => (iv = .int .i64 (0 : Nat) ∧ sv = .int .i64 0) ∨ (iv = .int .i64 (1 : Nat) ∧ sv = .int .i64 n1) ∨ (iv = .int .i64 (2 : Nat) ∧ sv = .int .i64 ((n1 : Int) + n2))) (fun _ iv => 2 - (intOf iv).toNat)
 case atStart => exact .inl ⟨rfl, rfl⟩
 case round =>
  rcases hrel with ⟨rfl, rfl⟩ | ⟨rfl, rfl⟩ | ⟨rfl, rfl⟩
  ·go_wp2_with fail;go_round
   case rel => exact .inr (.inl ⟨rfl, by go_num⟩)
   case measure => simp [intOf]
  ·go_wp2_with fail;go_round
   case rel => exact .inr (.inr ⟨rfl, by go_num⟩)
   case measure => simp [intOf]
  ·go_wp2_with fail;refine (HGr.out _).mono ?_;rintro e w1 ⟨A, c, rfl, hr, hb⟩;have HR0 := zf hr;have HB0 := zf hb;clear hr hb g0 g1 lg;go_wp2;go_loopw [6, 27] (fun sv iv wr => (iv = .int .i64 (0 : Nat) ∧ ∃ A9 c9, sv = .slice A9 0 c9 ∧ Hid (Row wr w.heap.size 71 2 zaF (.slice A9 0 c9) []) ∧ Hid (Below w.heap.size w wr)) ∨ (iv = .int .i64 (1 : Nat) ∧ ∃ A9 c9, sv = .slice A9 n1 c9 ∧ Hid (Row wr w.heap.size 71 2 zaF (.slice A9 n1 c9) l1) ∧ Hid (Below w.heap.size w wr)) ∨ (iv = .int .i64 (2 : Nat) ∧ ∃ A9 c9, sv = .slice A9 (n1 + n2) c9 ∧ Hid (Row wr w.heap.size 71 2 zaF (.slice A9 (n1 + n2) c9) (l1 ++ l2)) ∧ Hid (Below w.heap.size w wr))) (fun _ iv _ => 2 - (intOf iv).toNat)
   case atStart => exact .inl ⟨rfl, A, c, rfl, HR0, HB0⟩
   case round =>
    clear HR0 HB0;rcases hrel with ⟨rfl, A9, c9, rfl, hrow, hb⟩ | ⟨rfl, A9, c9, rfl, hrow, hb⟩ | ⟨rfl, A9, c9, rfl, hrow, hb⟩
    ·rename World => wr;have kg := HG.out.keep hb.out;have g0 := kg.cell 0;simp at g0;have lg := kg.lt;have hsz := hb.out.size;have Hs1 := zf (H1.out _ hb.out);clear kg;go_wp2_with (at_builtin; refine za2 rfl (.tmp 31) (.tmp 32) 67 rfl w.heap.size 71 (.agg #[.int .i64 0, .int .i64 0]) 2 16 zaF Tryz.underlying67 (by kernel_rfl) rfl (by omega) zbi zda _ [] l1 rfl hrow.out A1 n1 c1 rfl N1.out Hs1.out (by simp) (by rw [← N1.out]; omega) (by omega) hsz ?_; intro A7 c7 w7 hrow7 hb7 hg7; rw [show ([] : List (Int × Int)).length + n1 = n1 from Nat.zero_add n1] at hrow7 ⊢);go_roundw
     case rel => exact .inr (.inl ⟨rfl, A7, c7, rfl, zf hrow7, zf (hb.out.trans hb7)⟩)
     case measure => simp [intOf]
    ·rename World => wr;have kg := HG.out.keep hb.out;have g1 := kg.cell 1;simp at g1;have lg := kg.lt;have hsz := hb.out.size;have Hs2 := zf (H2.out _ hb.out);clear kg;go_wp2_with (at_builtin; refine za2 rfl (.tmp 31) (.tmp 32) 67 rfl w.heap.size 71 (.agg #[.int .i64 0, .int .i64 0]) 2 16 zaF Tryz.underlying67 (by kernel_rfl) rfl (by omega) zbi zda _ l1 l2 rfl hrow.out A2 n2 c2 rfl N2.out Hs2.out (by rw [← N1.out]; omega) (by rw [← N2.out]; omega) (by omega) hsz ?_; intro A7 c7 w7 hrow7 hb7 hg7; rw [← N1.out] at hrow7 ⊢);go_roundw
     case rel => exact .inr (.inr ⟨rfl, A7, c7, rfl, zf hrow7, zf (hb.out.trans hb7)⟩)
     case measure => simp [intOf]
    ·go_wp2;go_ret;exact ⟨A9, c9, by rw [Hlen.out]; rfl, by rw [Hlen.out]; exact hrow.out, hb.out⟩
structure RodOk (x : DetD) (ld : LaidD) : Prop where
 line : ∃ j : Nat, idx (zaJ ld.bar.mark) x.bars = (j : Int) ∧ x.bars[j]? = some ld.bar
 bar : zcr ld.bar = true
 size : za1 ld.bar.size = true
 lens : (zaq ld.bar).length = (zy ld.pts).length
 boxes : (zy ld.pts).all zad = true
 few : (zy ld.pts).length ≤ 6
theorem zoW : ∀ pts : List Pt, (∀ p ∈ pts, zJ 1048576 p = true) → (zy pts).all zad = true := by
 intro pts
 induction pts with
 | nil => intro _; rfl
 | cons p l ih =>
  intro h;cases l with
  | nil => rfl
  | cons q r =>
   have h1 := ih (fun y hy => h y (zZ _ hy))
   show (zad (zbZ p q) && (zy (q :: r)).all zad) = true
   rw [h1, zrK (h p (by simp)) (h q (by simp))]
   rfl
theorem zc6 {x : DetD} (hok : zaj x.bars x.runs = true) {ld : LaidD} (h : ld ∈ zx x.bars x.runs) : RodOk x ld := by
 have hr := (zap hok).2.2;obtain ⟨i, hi⟩ := List.mem_iff_getElem?.1 h;obtain ⟨hnear, _, h7⟩ := zeV x.runs i ld hr hi;obtain ⟨r, hrm, hm⟩ := List.mem_flatMap.1 h;obtain ⟨j, b, h1, h2, h3, _⟩ := zca (hr r hrm);rw [zii (List.find?_some h3)] at h1;unfold zd9 at hm;rw [h3] at hm;obtain ⟨k, _, rfl⟩ := List.mem_map.1 hm;have hb := zv h2;refine ⟨⟨j, h1, h2⟩, (zap hok).1 b hb, zgC hok hb, ?_, zoW _ hnear, ?_⟩
 ·show (zaq b).length = (zy (zbJ b r k)).length
  rw [zco, zbJ, zw, zb4, zaq, zw]
  rfl
 ·rw [zco];have h8 : (zbJ b r (k : Int)).length ≤ 7 := h7
  show (zbJ b r (k : Int)).length - 1 ≤ 6
  omega
theorem zrP {w : World} {g g' : Nat} {t t' : TypeId} {cs cs' : Array Value} (h : Blk w g t cs) (h' : Blk w g' t' cs') (ht : t ≠ t') : g ≠ g' := by
 intro e;subst e;unfold Blk at h h';rw [h] at h';injection h' with h'
 injection h' with _ h' _
 exact ht h'
theorem RowB.set {w : World} {t : TypeId} {A : Option Addr} {vals : List Value} (h : RowB w t A vals) {g : Nat} {t' : TypeId} {cs : Array Value} (hk : Blk w g t' cs) (ht : t ≠ t') (i : Nat) (u : Value) : RowB (w.setCell ⟨g, i, none⟩ u) t A vals :=
 h.keep fun _ _ hb => hb.far (p := ⟨g, i, none⟩) (zrP hb hk ht) u
theorem zqm {w : World} {base c B : Nat} {A : Option Addr} {acc : List RodX} (h : Row w base 305 7 zeI (.slice A acc.length c) acc) (hB : B ≤ w.heap.size) (hb : ∀ q ∈ acc, RowB w 62 q.la ((zy q.ld.pts).flatMap zdm) ∧ Ints w B q.da q.ld.bar.dims) : RodsW w w.heap.size A (acc.map (·.ld)) :=
 SlOf.read_as (·.ld) (h.read ziU (by omega)) (fun q hq => ⟨q.da, q.dc, q.la, q.lc, rfl, (hb q hq).2.carry (Below.refl _ _) hB, RowB.sl zcN (by omega) (hb q hq).1⟩)
theorem zs2 (x : Int) : IntKind.i64.wrap x = wrap64 x := by
 unfold wrap64;have h0 : IntKind.i64.wrap x = if (true && decide (x % 18446744073709551616 ≥ 9223372036854775808)) = true then x % 18446744073709551616 - 18446744073709551616 else x % 18446744073709551616 := rfl;rw [h0]
 split
 ·rename_i h
  simp at h;omega
 ·rename_i h
  simp at h;omega
theorem zoi (l : List ChnD) (A : Option Addr) (n c : Nat) (p : Int) (w : World) {B : Nat} (h : ChnsW w B A l) (hB : B ≤ w.heap.size) (hn : n = l.length) (hm : n ≤ 300000) :
  Calls Tryz.prog 251 #[.slice A n c, .int .i64 p] w fun e w' => e = .returned (.int .i64 (zfQ l p)) ∧ Below w.heap.size w w' := by
 have HL := zf (fun (W : World) (hz : Below w.heap.size w W) => SlOf.carry zdi h (hz.mono hB) (ze B));have HB := zf hB;have Hn := zf hn;obtain ⟨VT, hVT⟩ : ∃ VT : Nat → Int, VT = fun k => (l.take k).foldl (zi6 p) 0 := ⟨_, rfl⟩;have hv0 : VT 0 = 0 := by rw [hVT]; rfl
 have Hvs := zf (fun (k : Nat) (y : ChnD) (hy : l[k]? = some y) => show VT (k + 1) = (if decide (y.lo ≤ p) && decide (p < y.hi) then IntKind.i64.wrap (VT k + y.area) else VT k) by
  rw [hVT]
  show (l.take (k + 1)).foldl (zi6 p) 0 = _
  rw [zQ hy, List.foldl_append]
  rfl)
 have Hvn := zf (show zfQ l p = VT n by rw [hVT, hn]; show _ = (l.take l.length).foldl (zi6 p) 0; rw [zF]; rfl);rw [Hvn.out];clear h hB hn hVT Hvn;go_enter Tryz.func251, Tryz.ntmps251;go_wp2;go_loopw [5, 10] (fun v iv wr => ∃ k : Nat, k ≤ n ∧ iv = .int .i64 k ∧ v = .int .i64 (VT k) ∧ Below w.heap.size w wr) (fun _ iv _ => n - (intOf iv).toNat)
 case atStart => exact ⟨0, zu _, rfl, by rw [hv0], Below.refl _ _⟩
 case round =>
  clear hv0;obtain ⟨k, hk, rfl, rfl, hb⟩ := hrel;rename World => wr;by_cases hlt : k < n
  ·obtain ⟨b, off, y, A', c', rfl, hbl, hy, _, hc⟩ := ChnsW.get (k := k) (HL.out _ hb) (by rw [← Hn.out]; exact hlt);have Hs := zf (Hvs.out k y hy);have e0 := hc 0 _ rfl;have e1 := hc 1 _ rfl;have e2 := hc 2 _ rfl;have e3 := hc 3 _ rfl;have e4 := hc 4 _ rfl;simp only [Nat.add_zero] at e0;have lb : b < wr.heap.size := zt hbl (zh HB.out hb.size);obtain ⟨bars, lo, hi, is, area⟩ := y;simp only at e0 e1 e2 e3 e4 Hs;generalize bars.length = bn at *;generalize VT k = v0 at *;have HX := zf (hb.alloc hb.size (.cells #[.slice A' bn c', .int .i64 lo, .int .i64 hi, .bool is, .int .i64 area] 283));clear hy hc hbl hb;cases q1 : decide (lo ≤ p)
   ·rw [q1] at Hs;go_wp2;go_roundw
    case rel => exact ⟨k + 1, by omega, by go_num, by rw [Hs.out]; rfl, HX.out⟩
    case measure => simp [intOf]; omega
   ·rw [q1] at Hs;cases q2 : decide (p < hi)
    ·rw [q2] at Hs;go_wp2;go_roundw
     case rel => exact ⟨k + 1, by omega, by go_num, by rw [Hs.out]; rfl, HX.out⟩
     case measure => simp [intOf]; omega
    ·rw [q2] at Hs;go_wp2;go_roundw
     case rel => exact ⟨k + 1, by omega, by go_num, by rw [Hs.out, zs2]; rfl, HX.out⟩
     case measure => simp [intOf]; omega
  ·obtain rfl : k = n := by omega
   go_wp2;go_ret;exact ⟨rfl, hb⟩
end Go.Proofs.YtpaanfjjnjjoeaaGreat
