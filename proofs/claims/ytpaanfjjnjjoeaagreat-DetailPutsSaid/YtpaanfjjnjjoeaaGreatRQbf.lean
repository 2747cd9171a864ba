/- Plain: the covers of the chapter's example suffice. -/
import Derived.Test.YtpaanfjjnjjoeaaGreatRQbe
import Derived.Test.YtpaanfjjnjjoeaaGreatRQag
import Derived.Test.YtpaanfjjnjjoeaaGreatRQae
import Derived.Test.YtpaanfjjnjjoeaaGreatRQac
import Derived.Test.YtpaanfjjnjjoeaaGreatRQbc
import Derived.LoopN
import Derived.Test.YtpaanfjjnjjoeaaGreatRQaw
namespace Go.Proofs.YtpaanfjjnjjoeaaGreat
open Go.RowKit
theorem least_pos {m : MemD} {d : Int} : ∀ (l : List BoxD) (a : Int), 0 ≤ a → (∀ b ∈ l, 0 ≤ coverOf m d b) → 0 ≤ l.foldl (fun a b => min a (coverOf m d b)) a := by
 intro l
 induction l with
 | nil => intro a h _; exact h
 | cons b l ih =>
  intro a h hl
  have := hl b (by simp)
  exact ih _ (by simp only; omega) (fun q hq => hl q (by simp [hq]))
theorem cov_none {x : DetD} (h0 : x.mem.cover = 0) (h : ∀ y ∈ laidAll x.bars x.runs, ∀ b ∈ legsOfPts y.pts, 0 ≤ coverOf x.mem y.bar.size b) : covFins x = [] := by
 rw [covFins, coverAll, List.flatMap_eq_nil_iff]
 intro y hy
 have := least_pos (m := x.mem) (d := y.bar.size) (legsOfPts y.pts) 2097152 (by omega) (h y hy)
 rw [coverFin, if_neg]
 rw [leastOf, h0]
 omega
theorem held_one {q b : BoxD} (h : boxOk b = true) (hi : inside b q) : heldB [q] [] b = true := by
 obtain ⟨⟨i1, i2⟩, ⟨i3, i4⟩, i5, i6⟩ := hi
 simp only [heldB, Bool.and_eq_true, Bool.not_eq_true']
 refine ⟨h, rfl, ?_⟩
 rw [covers_iff (boxOk_orderly h)]
 rintro t ⟨⟨a1, a2⟩, ⟨b1, b2⟩, c1, c2⟩
 exact ⟨q, by simp, ⟨by omega, by omega⟩, ⟨by omega, by omega⟩, by omega, by omega⟩
theorem grow_zero (b : BoxD) : growBy b 0 = b := by
 obtain ⟨⟨a, b, c⟩, d, e, f⟩ := b
 simp [growBy]
theorem cover_one {m : MemD} {q leg : BoxD} {d : Int} (hm : m.boxes = [q]) (hh : m.holes = []) (h : boxOk (growBy leg (roundOf d)) = true) (hi : inside (growBy leg (roundOf d)) q) : 0 ≤ coverOf m d leg := by
 rw [coverOf, if_pos h]
 refine cover_pos ?_
 rw [grow_zero, hm, hh]
 exact held_one h hi
def exLeg (k : Int) : BoxD := ⟨(100, 50 + 50 * k, 50), (2100, 50 + 50 * k, 50)⟩
theorem exLeg_pos (n : Nat) {k : Int} (h0 : 0 ≤ k) (h1 : k ≤ 1) : 0 ≤ coverOf (exN n).mem 12 (exLeg k) := by
 refine cover_one (q := ⟨(0, 0, 0), (3000, 200, 400)⟩) rfl rfl ?_ ?_
 ·rw [boxOk_iff]
  simp only [growBy, exLeg, roundOf]
  omega
 ·simp only [inside, growBy, exLeg, roundOf]
  omega
theorem exN_laid1 : (laidAll (exN 1).bars (exN 1).runs).map (fun y => (y.bar.size, legsOfPts y.pts)) = [(12, [exLeg 0])] := by kernel_rfl
theorem exN_laid2 : (laidAll (exN 2).bars (exN 2).runs).map (fun y => (y.bar.size, legsOfPts y.pts)) = [(12, [exLeg 0]), (12, [exLeg 1])] := by kernel_rfl
theorem exN_cov0 : covFins (exN 0) = [] := cov_none rfl (fun y hy => by cases hy)
theorem exN_cov1 : covFins (exN 1) = [] := cov_none rfl (fun y hy b hb => by
 have h := List.mem_map_of_mem (f := fun y : LaidD => (y.bar.size, legsOfPts y.pts)) hy
 rw [exN_laid1] at h
 simp only [List.mem_singleton, Prod.mk.injEq] at h
 rw [h.2, List.mem_singleton] at hb
 rw [h.1, hb]
 exact exLeg_pos 1 (by omega) (by omega))
theorem exN_cov2 : covFins (exN 2) = [] := cov_none rfl (fun y hy b hb => by
 have h := List.mem_map_of_mem (f := fun y : LaidD => (y.bar.size, legsOfPts y.pts)) hy
 rw [exN_laid2] at h
 simp only [List.mem_cons, List.not_mem_nil, or_false, Prod.mk.injEq] at h
 rcases h with h | h
 ·rw [h.2, List.mem_singleton] at hb
  rw [h.1, hb]
  exact exLeg_pos 2 (by omega) (by omega)
 ·rw [h.2, List.mem_singleton] at hb
  rw [h.1, hb]
  exact exLeg_pos 2 (by omega) (by omega))
theorem exN_fins0 : detFins (exN 0) [] [] = [⟨3, exMk⟩] := by
 rw [detFins, exN_bal0, exN_cov0]
 show [exBar].flatMap bendFins ++ _ ++ _ ++ _ ++ _ = _
 simp [exN_bend, moreF]
theorem exN_fins1 : detFins (exN 1) [] [] = [] := by
 rw [detFins, exN_bal1, exN_cov1]
 show [exBar].flatMap bendFins ++ _ ++ _ ++ _ ++ _ = _
 simp [exN_bend]
theorem exN_fins2 : detFins (exN 2) [] [] = [⟨4, exMk⟩] := by
 rw [detFins, exN_bal2, exN_cov2]
 show [exBar].flatMap bendFins ++ _ ++ _ ++ _ ++ _ = _
 simp [exN_bend, moreF]
def upN (n num den : Int) : Int := (n * num + den - 1) / den
def basicL (r : RuleD) (d : Int) : Int := max r.least (upN d r.num r.den)
def anchP (r : RuleD) (d : Int) (poor : Bool) : Int := if poor then upN (basicL r d) r.poorNum r.poorDen else basicL r d
def anchL (r : RuleD) (d : Int) (poor bent : Bool) : Int := max (if bent then upN (anchP r d poor) r.bendNum r.bendDen else anchP r d poor) r.least
def poorB (m : MemD) (leg : BoxD) : Bool := decide (250 < leg.lo.2.2 - (hullOf m.boxes).lo.2.2)
def lapL (r : RuleD) (d : Int) (poor : Bool) : Int := (anchL r d poor false * r.lapNum + r.lapDen - 1) / r.lapDen
def apart1 (al ah bl bh : Int) : Int := max 0 (max (bl - ah) (al - bh))
def squareB (a b : BoxD) : Int :=
 apart1 a.lo.1 a.hi.1 b.lo.1 b.hi.1 * apart1 a.lo.1 a.hi.1 b.lo.1 b.hi.1 + apart1 a.lo.2.1 a.hi.2.1 b.lo.2.1 b.hi.2.1 * apart1 a.lo.2.1 a.hi.2.1 b.lo.2.1 b.hi.2.1 + apart1 a.lo.2.2 a.hi.2.2 b.lo.2.2 b.hi.2.2 * apart1 a.lo.2.2 a.hi.2.2 b.lo.2.2 b.hi.2.2
def noMain : MainD := ⟨⟨(0, 0, 0), (0, 0, 0)⟩, false, 0, .empty⟩
def shortLap (m : MemD) (r : RuleD) (a b : MainD) : Bool := decide (a.leg.hi.1 - b.leg.lo.1 < lapL r (min a.size b.size) (poorB m a.leg || poorB m b.leg))
def farLap (a b : MainD) : Bool := decide ((a.size + b.size + 50) * (a.size + b.size + 50) < squareB a.leg b.leg)
def lapOne (m : MemD) (r : RuleD) (a b : MainD) : List FinD := (if shortLap m r a b then [⟨1, a.mark⟩] else []) ++ (if farLap a b then [⟨2, a.mark⟩] else [])
def mainsOf (x : DetD) : List MainD := (laidAll x.bars x.runs).map mainOf
def mainAt (ms : List MainD) (i : Int) : MainD := ms.getD i.toNat noMain
def lapAt (m : MemD) (r : RuleD) (ms : List MainD) (j : JoinD) : List FinD := lapOne m r (mainAt ms j.first) (mainAt ms j.second)
def lapFins (x : DetD) : List FinD := x.laps.flatMap (lapAt x.mem x.rule (mainsOf x))
theorem lap_kind {x : DetD} : ∀ f ∈ lapFins x, f.kind = 1 ∨ f.kind = 2 := by
 intro f hf
 rw [lapFins, List.mem_flatMap] at hf
 obtain ⟨j, _, hj⟩ := hf
 rw [lapAt, lapOne, List.mem_append] at hj
 rcases hj with hj | hj <;> split at hj <;> simp at hj <;> subst hj <;> simp
def bendTo (x : BarD) (L : List Int) (n k : Nat) : List FinD := ((L.take k).zipIdx).flatMap (bendOne x n)
theorem bendTo_succ (x : BarD) {L : List Int} (n : Nat) {k : Nat} {y : Int} (h : L[k]? = some y) : bendTo x L n (k + 1) = bendTo x L n k ++ bendOne x n (y, k) := by
 have hk := lt_of_get h
 rw [bendTo, take_snoc' h, List.zipIdx_append, List.flatMap_append, List.length_take, Nat.min_eq_left (by omega)]
 simp [bendTo]
theorem bendTo_all (x : BarD) (L : List Int) (n : Nat) : bendTo x L n L.length = L.zipIdx.flatMap (bendOne x n) := by rw [bendTo, List.take_length]
theorem bendTo_len (x : BarD) (L : List Int) (n : Nat) : ∀ k, (bendTo x L n k).length ≤ k := by
 intro k
 induction k with
 | zero => simp [bendTo]
 | succ k ih =>
  by_cases hk : k < L.length
  ·rw [bendTo_succ x n (List.getElem?_eq_getElem hk), List.length_append]
   have : (bendOne x n (L[k], k)).length ≤ 1 := by
    unfold bendOne
    split <;> split <;> simp
   omega
  ·have : bendTo x L n (k + 1) = bendTo x L n k := by rw [bendTo, bendTo, List.take_of_length_le (by omega), List.take_of_length_le (by omega)]
   rw [this]
   omega
theorem bend_ways (x : BarD) (n k : Nat) (y : Int) :
  (((k : Int) == 0) = true ∧ decide (y < steelBend x.size + 5 * x.size) = true ∧ bendOne x n (y, k) = [⟨1, x.mark⟩]) ∨ (((k : Int) == 0) = true ∧ decide (y < steelBend x.size + 5 * x.size) = false ∧ bendOne x n (y, k) = []) ∨
  (((k : Int) == 0) = false ∧ ((k : Int) == (n : Int) - 1) = true ∧ decide (y < steelBend x.size + 5 * x.size) = true ∧ bendOne x n (y, k) = [⟨1, x.mark⟩]) ∨ (((k : Int) == 0) = false ∧ ((k : Int) == (n : Int) - 1) = true ∧ decide (y < steelBend x.size + 5 * x.size) = false ∧ bendOne x n (y, k) = []) ∨
  (((k : Int) == 0) = false ∧ ((k : Int) == (n : Int) - 1) = false ∧ decide (y < 2 * steelBend x.size) = true ∧ bendOne x n (y, k) = [⟨2, x.mark⟩]) ∨ (((k : Int) == 0) = false ∧ ((k : Int) == (n : Int) - 1) = false ∧ decide (y < 2 * steelBend x.size) = false ∧ bendOne x n (y, k) = []) := by
 have hR : bendR x.size = steelBend x.size := rfl
 unfold bendOne
 rw [hR]
 simp only
 by_cases h0 : k = 0
 ·rw [if_pos (.inl h0)]
  have e0 : ((k : Int) == 0) = true := by simp; omega
  by_cases h1 : y < steelBend x.size + 5 * x.size
  ·exact .inl ⟨e0, by simpa using h1, by rw [if_pos h1]⟩
  ·exact .inr (.inl ⟨e0, by simpa using h1, by rw [if_neg h1]⟩)
 ·have e0 : ((k : Int) == 0) = false := by simp; omega
  by_cases h2 : k + 1 = n
  ·rw [if_pos (.inr h2)]
   have e1 : ((k : Int) == (n : Int) - 1) = true := by simp; omega
   by_cases h1 : y < steelBend x.size + 5 * x.size
   ·exact .inr (.inr (.inl ⟨e0, e1, by simpa using h1, by rw [if_pos h1]⟩))
   ·exact .inr (.inr (.inr (.inl ⟨e0, e1, by simpa using h1, by rw [if_neg h1]⟩)))
  ·rw [if_neg (by omega)]
   have e1 : ((k : Int) == (n : Int) - 1) = false := by simp; omega
   by_cases h1 : y < 2 * steelBend x.size
   ·exact .inr (.inr (.inr (.inr (.inl ⟨e0, e1, by simpa using h1, by rw [if_pos h1]⟩))))
   ·exact .inr (.inr (.inr (.inr (.inr ⟨e0, e1, by simpa using h1, by rw [if_neg h1]⟩))))
theorem steelBend_rng {d : Int} (h : isSize d = true) : 15 ≤ steelBend d ∧ steelBend d ≤ 160 := by
 have := isSize_range h
 unfold steelBend
 split <;> omega
theorem legLens_rng {x : BarD} (h : BarGood x) : ∀ n ∈ legLens x, 1 ≤ n ∧ n ≤ 262144 := by
 intro n hn
 obtain ⟨p, hp, rfl⟩ := List.mem_map.1 hn
 exact ⟨(h.leg p hp).2.2.2.1, (h.leg p hp).2.2.2.2⟩
theorem legLens_few {x : BarD} (h : BarGood x) : 1 ≤ (legLens x).length ∧ (legLens x).length ≤ 8 := by
 have hl := h.legs
 refine ⟨by cases hq : legLens x with | nil => exact absurd hq hl | cons a r => simp, ?_⟩
 have hne : legsOf x.code ≠ [] := by
  intro h0
  apply hl
  rw [legLens, h0]
  rfl
 rw [legLens, List.length_map]
 rcases code_cases hne with hc | hc | hc | hc | hc | hc | hc | hc <;> rw [hc] <;> decide
set_option maxHeartbeats 8000000 in
set_option maxRecDepth 100000 in
theorem bendCheck_ok (x : BarD) (A : Option Addr) (c : Nat) (w : World) {B : Nat} (hA : Ints w B A x.dims) (hB : B ≤ w.heap.size) (hm : x.mark.size ≤ maxLen) (hd : x.dims.length ≤ 60000) (hok : barOk x = true) (hsz : isSize x.size = true) :
  Calls Tryz.prog 18 #[.agg #[.string x.mark, .int .i64 x.size, .int .i64 x.count, .int .i64 x.code, .slice A x.dims.length c]] w fun e w' =>
   ∃ A' c', e = .returned (.tuple #[.slice A' (bendFins x).length c', .int .i64 0]) ∧ FinRow w.heap.size w' A' (bendFins x).length c' (bendFins x) ∧ Below w.heap.size w w' := by
 have HL := hide (fun (W : World) (hz : Below w.heap.size w W) => barLegs_ok x A c W (hA.carry (hz.mono hB) (Nat.le_refl _)) (Nat.le_trans hB hz.size) hm hd hok)
 have HB := hide (fun (W : World) => bend_ok x.size W hsz)
 have hbr := steelBend_rng hsz
 have hsr := isSize_range hsz
 have hgood := barGood_of hok
 have Hlm := hide (legLens_rng hgood)
 have Hfin := hide (show bendFins x = if (legLens x).length = 1 then [] else bendTo x (legLens x) (legLens x).length (legLens x).length by rw [bendTo_all]; rfl)
 have Hst := hide (fun (k : Nat) (y : Int) (h : (legLens x)[k]? = some y) => bendTo_succ x (legLens x).length h)
 have Hwy := hide (fun (k : Nat) (y : Int) => bend_ways x (legLens x).length k y)
 have Hle := hide (fun k => bendTo_len x (legLens x) (legLens x).length k)
 have hln : 1 ≤ (legLens x).length ∧ (legLens x).length ≤ 8 := legLens_few hgood
 obtain ⟨N, hN⟩ : ∃ N, N = (legLens x).length := ⟨_, rfl⟩
 rw [← hN] at HL Hfin Hst Hwy Hle hln
 have HN := hide hN
 clear hA hm hd hok hsz hN hgood
 generalize legLens x = L at *
 have K0 := hide (Blk.new w 50 #[.string x.mark, .int .i64 x.size, .int .i64 x.count, .int .i64 x.code, .slice A x.dims.length c])
 have HW := hide (below_new w (.cells #[.string x.mark, .int .i64 x.size, .int .i64 x.count, .int .i64 x.code, .slice A x.dims.length c] 50))
 go_enter Tryz.func18, Tryz.ntmps18
 go_wp2_with fail
 refine (HL.out _ HW.out).mono ?_
 rintro e w1 ⟨A1, c1, rfl, hL1, hb⟩
 have K1 := hide (K0.out.keep hb)
 have HW1 := hide (below_step HW.out hb (Nat.le_refl _))
 have hg1 := K1.out.lt
 have e1 := K1.out.cell 1
 simp at e1
 have HLL := hide hL1
 clear hb hL1 K0 HW HL
 go_wp2_with fail
 refine (HB.out _).mono ?_
 rintro e w2 ⟨rfl, hb⟩
 have K2 := hide (K1.out.keep hb)
 have HW2 := hide (below_step HW1.out hb (Nat.le_refl _))
 have HL2 := hide (HLL.out.carry hb hb.size)
 clear hb K1 HW1 HLL HB e1 hg1
 have z0 : IntKind.i64.wrap ((N : Int) - 1) = (N : Int) - 1 := IntWalk.i64_in _ (by omega)
 by_cases h1 : N = 1
 ·have t0 : (((N : Int) - 1) == 0) = true := by simp; omega
  have hr := Hfin.out
  rw [if_pos h1] at hr
  have Hr := hide hr
  clear hr Hfin
  go_wp2_with fail
  go_ret2
  rw [Hr.out]
  exact ⟨none, 0, rfl, Row.nil _ _ _ _ _, HW2.out⟩
 have t0 : (((N : Int) - 1) == 0) = false := by simp; omega
 have hr := Hfin.out
 rw [if_neg h1] at hr
 have Hr := hide hr
 clear hr Hfin
 go_wp2_with fail
 go_loopw [8, 36] (fun ov iv wr => ∃ k : Nat, k ≤ N ∧ iv = .int .i64 k ∧ (∃ acc : List FinD, Row wr w2.heap.size 47 2 encFin ov acc ∧ Hid (acc = bendTo x L N k)) ∧ Hid (Below w2.heap.size w2 wr)) (fun _ iv _ => N - (intOf iv).toNat)
 case atStart => exact ⟨0, Nat.zero_le _, rfl, ⟨[], Row.nil _ _ _ _ _, hide rfl⟩, hide (Below.refl _ _)⟩
 case round =>
  obtain ⟨k, hk, rfl, ⟨acc, hrow, hacc⟩, hbr⟩ := hrel
  have Hrow := hide hrow
  obtain ⟨Ao, co, rfl⟩ := hrow.val
  have hbs := hbr.out.size
  have K3 := hide (K2.out.below hbr.out K2.out.lt)
  have hg3 := K3.out.lt
  have e0 := K3.out.cell 0
  have e1 := K3.out.cell 1
  simp at e0 e1
  have hal := Hle.out k
  rw [← hacc.out] at hal
  clear hrow
  by_cases hlt : k < N
  ·have dk : decide ((k : Int) < (N : Int)) = true := by simp; omega
   obtain ⟨b, off, y, rfl, hbl, hy, f0⟩ := Ints.get (k := k) (HL2.out.carry hbr.out hbs) (by rw [← HN.out]; exact hlt)
   obtain ⟨y1, y2⟩ := Hlm.out y (mem_of_get hy)
   have Hs := hide (Hst.out k y hy)
   have z1 : IntKind.i64.wrap (5 * x.size) = 5 * x.size := IntWalk.i64_in _ (by omega)
   have z2 : IntKind.i64.wrap (steelBend x.size + 5 * x.size) = steelBend x.size + 5 * x.size := IntWalk.i64_in _ (by omega)
   have z3 : IntKind.i64.wrap (2 * steelBend x.size) = 2 * steelBend x.size := IntWalk.i64_in _ (by omega)
   have hwy := Hwy.out k y
   clear hy
   rcases hwy with ⟨g0, g1, hone⟩ | ⟨g0, g1, hone⟩ | ⟨g0, g1, g2, hone⟩ | ⟨g0, g1, g2, hone⟩ | ⟨g0, g1, g2, hone⟩ | ⟨g0, g1, g2, hone⟩
   ·go_wp2_with (at_builtin; refine wpList_append1 rfl (.tmp 59) (.tmp 63) 37 rfl w2.heap.size 47 (.agg #[.int .i64 0, .string .empty]) 2 24 encFin Tryz.underlying37 (by kernel_rfl) rfl (by omega) encFin_len encFin_one _ acc ⟨1, x.mark⟩ rfl (Hrow.out.alloc _) _ rfl (Blk.new wr _ _) (by omega) (by omega) (le_alloc hbs _) ?_; intro A3 c3 w3 hrow3 hb3 _)
    have Hr3 := hide hrow3
    have Hb3 := hide ((hbr.out.alloc hbs (.cells #[.int .i64 1, .string x.mark] 47)).trans hb3)
    have Hx := hide (show acc ++ [⟨1, x.mark⟩] = bendTo x L N (k + 1) by rw [Hs.out, hone, hacc.out])
    clear hrow3 hb3 hone hbr hacc
    go_wp2_with fail
    go_roundw
    case rel => exact ⟨k + 1, by omega, by go_num, ⟨_, Hr3.out, Hx⟩, Hb3⟩
    case measure => simp [intOf]; omega
   ·have Hx := hide (show acc = bendTo x L N (k + 1) by rw [Hs.out, hone, hacc.out, List.append_nil])
    clear hone hacc
    go_wp2_with fail
    go_roundw
    case rel => exact ⟨k + 1, by omega, by go_num, ⟨_, Hrow.out, Hx⟩, hbr⟩
    case measure => simp [intOf]; omega
   ·go_wp2_with (at_builtin; refine wpList_append1 rfl (.tmp 59) (.tmp 63) 37 rfl w2.heap.size 47 (.agg #[.int .i64 0, .string .empty]) 2 24 encFin Tryz.underlying37 (by kernel_rfl) rfl (by omega) encFin_len encFin_one _ acc ⟨1, x.mark⟩ rfl (Hrow.out.alloc _) _ rfl (Blk.new wr _ _) (by omega) (by omega) (le_alloc hbs _) ?_; intro A3 c3 w3 hrow3 hb3 _)
    have Hr3 := hide hrow3
    have Hb3 := hide ((hbr.out.alloc hbs (.cells #[.int .i64 1, .string x.mark] 47)).trans hb3)
    have Hx := hide (show acc ++ [⟨1, x.mark⟩] = bendTo x L N (k + 1) by rw [Hs.out, hone, hacc.out])
    clear hrow3 hb3 hone hbr hacc
    go_wp2_with fail
    go_roundw
    case rel => exact ⟨k + 1, by omega, by go_num, ⟨_, Hr3.out, Hx⟩, Hb3⟩
    case measure => simp [intOf]; omega
   ·have Hx := hide (show acc = bendTo x L N (k + 1) by rw [Hs.out, hone, hacc.out, List.append_nil])
    clear hone hacc
    go_wp2_with fail
    go_roundw
    case rel => exact ⟨k + 1, by omega, by go_num, ⟨_, Hrow.out, Hx⟩, hbr⟩
    case measure => simp [intOf]; omega
   ·go_wp2_with (at_builtin; refine wpList_append1 rfl (.tmp 74) (.tmp 78) 37 rfl w2.heap.size 47 (.agg #[.int .i64 0, .string .empty]) 2 24 encFin Tryz.underlying37 (by kernel_rfl) rfl (by omega) encFin_len encFin_one _ acc ⟨2, x.mark⟩ rfl (Hrow.out.alloc _) _ rfl (Blk.new wr _ _) (by omega) (by omega) (le_alloc hbs _) ?_; intro A3 c3 w3 hrow3 hb3 _)
    have Hr3 := hide hrow3
    have Hb3 := hide ((hbr.out.alloc hbs (.cells #[.int .i64 2, .string x.mark] 47)).trans hb3)
    have Hx := hide (show acc ++ [⟨2, x.mark⟩] = bendTo x L N (k + 1) by rw [Hs.out, hone, hacc.out])
    clear hrow3 hb3 hone hbr hacc
    go_wp2_with fail
    go_roundw
    case rel => exact ⟨k + 1, by omega, by go_num, ⟨_, Hr3.out, Hx⟩, Hb3⟩
    case measure => simp [intOf]; omega
   ·have Hx := hide (show acc = bendTo x L N (k + 1) by rw [Hs.out, hone, hacc.out, List.append_nil])
    clear hone hacc
    go_wp2_with fail
    go_roundw
    case rel => exact ⟨k + 1, by omega, by go_num, ⟨_, Hrow.out, Hx⟩, hbr⟩
    case measure => simp [intOf]; omega
  ·obtain rfl : k = N := by omega
   have dk : decide ((k : Int) < (k : Int)) = false := by simp
   have HB := hide (below_step HW2.out hbr.out (Nat.le_refl _))
   have HF := hide (rowLow HW2.out.size Hrow.out)
   have Hac := hide hacc.out
   clear hacc hbr Hrow hal
   go_wp2_with fail
   go_ret2
   rw [Hr.out, ← Hac.out]
   exact ⟨Ao, co, rfl, HF.out, HB.out⟩
def cntTo (l : List BarD) : ByteArray → Int := l.foldl (fun f b => putS f b.mark b.count) (fun _ => 0)
theorem cntTo_snoc (l : List BarD) (b : BarD) : cntTo (l ++ [b]) = putS (cntTo l) b.mark b.count := by simp [cntTo, List.foldl_append]
theorem cntTo_at : ∀ (l : List BarD), OneMark l → ∀ x ∈ l, cntTo l x.mark = x.count := by
 refine snoc_ind ?_ ?_
 ·intro _ x hx; simp at hx
 ·intro l z ih h x hx
  rw [cntTo_snoc, putS]
  by_cases he : x.mark = z.mark
  ·rw [if_pos he]
   obtain ⟨i, hi, hxi⟩ := List.getElem_of_mem hx
   have h1 : (l ++ [z])[i]? = some x := by rw [List.getElem?_eq_getElem hi, hxi]
   have h2 : (l ++ [z])[l.length]? = some z := by simp
   have h3 := h i l.length x z h1 h2 he
   rw [h3, h2] at h1
   injection h1 with h1
   rw [h1]
  ·rw [if_neg he]
   rcases List.mem_append.1 hx with h1 | h1
   ·refine ih (fun i j u v hu hv huv => h i j u v ?_ ?_ huv) x h1
    ·rw [List.getElem?_append_left (lt_of_get hu)]; exact hu
    ·rw [List.getElem?_append_left (lt_of_get hv)]; exact hv
   ·rw [List.mem_singleton] at h1
    exact absurd (by rw [h1]) he
theorem cntTo_rng : ∀ (l : List BarD), (∀ x ∈ l, 1 ≤ x.count ∧ x.count ≤ 1000) → ∀ m, 0 ≤ cntTo l m ∧ cntTo l m ≤ 1000 := by
 refine snoc_ind ?_ ?_
 ·intro _ m; simp [cntTo]
 ·intro l z ih h m
  rw [cntTo_snoc, putS]
  have h1 := h z (by simp)
  have h2 := ih (fun x hx => h x (by simp [hx])) m
  split <;> omega
def leftTo (bars : List BarD) (runs : List RunD) : ByteArray → Int := fun m => cntTo bars m - laidBy runs m
theorem leftTo_nil (bars : List BarD) : leftTo bars [] = cntTo bars := by
 funext m
 simp [leftTo, laidBy, countRuns]
theorem leftTo_snoc (bars : List BarD) (runs : List RunD) (r : RunD) : leftTo bars (runs ++ [r]) = putS (leftTo bars runs) r.mark (leftTo bars runs r.mark - r.count) := by
 funext t
 simp only [leftTo, putS, laidBy, List.filter_append]
 by_cases h : t = r.mark
 ·subst h
  have : runIs r.mark r = true := by simp [runIs]
  rw [if_pos rfl, List.filter_cons_of_pos this, List.filter_nil, countRuns_snoc]
  omega
 ·have : ¬ runIs t r = true := fun hr => h (toList_inj hr).symm
  rw [if_neg h, List.filter_cons_of_neg this, List.filter_nil, List.append_nil]
theorem leftTo_zero (bars : List BarD) (runs : List RunD) {m : ByteArray} (h : leftTo bars runs m = 0) : putS (leftTo bars runs) m 0 = leftTo bars runs := by
 funext t
 unfold putS
 split
 ·rename_i he; rw [he, h]
 ·rfl
theorem leftTo_rng {bars : List BarD} {runs : List RunD} (hb : ∀ x ∈ bars, 1 ≤ x.count ∧ x.count ≤ 1000) (hr : ∀ r ∈ runs, 1 ≤ r.count ∧ r.count ≤ 1000) (hn : runs.length ≤ 60) (m : ByteArray) : -60000 ≤ leftTo bars runs m ∧ leftTo bars runs m ≤ 1000 := by
 have h1 := cntTo_rng bars hb m
 have h2 := countRuns_range (runs.filter (runIs m)) (fun r h => hr r (List.mem_filter.1 h).1)
 have h3 := List.length_filter_le (runIs m) runs
 unfold leftTo laidBy
 omega
def balTo (bars : List BarD) (runs : List RunD) (k : Nat) : List FinD := balFins (bars.take k) runs
theorem balTo_succ {bars : List BarD} (runs : List RunD) {k : Nat} {x : BarD} (h : bars[k]? = some x) : balTo bars runs (k + 1) = balTo bars runs k ++ balOne runs x := by
 rw [balTo, take_snoc' h, balFins, List.flatMap_append]
 simp [balTo, balFins]
theorem balTo_all (bars : List BarD) (runs : List RunD) : balTo bars runs bars.length = balFins bars runs := by rw [balTo, List.take_length]
theorem balTo_len (bars : List BarD) (runs : List RunD) : ∀ k, (balTo bars runs k).length ≤ k := by
 intro k
 induction k with
 | zero => simp [balTo, balFins]
 | succ k ih =>
  by_cases hk : k < bars.length
  ·rw [balTo_succ runs (List.getElem?_eq_getElem hk), List.length_append]
   have : (balOne runs bars[k]).length ≤ 1 := by
    unfold balOne
    split
    ·simp
    ·split <;> simp
   omega
  ·have : balTo bars runs (k + 1) = balTo bars runs k := by rw [balTo, balTo, List.take_of_length_le (by omega), List.take_of_length_le (by omega)]
   rw [this]
   omega
theorem bal_ways {bars : List BarD} {runs : List RunD} (hone : OneMark bars) {k : Nat} {x : BarD} (h : bars[k]? = some x) :
  (decide (0 < leftTo bars runs x.mark) = true ∧ decide (leftTo bars runs x.mark < 0) = false ∧ balOne runs x = [⟨1, x.mark⟩]) ∨
  (decide (0 < leftTo bars runs x.mark) = false ∧ decide (leftTo bars runs x.mark < 0) = true ∧ balOne runs x = [⟨2, x.mark⟩]) ∨
  (decide (0 < leftTo bars runs x.mark) = false ∧ decide (leftTo bars runs x.mark < 0) = false ∧ balOne runs x = []) := by
 have he : leftTo bars runs x.mark = x.count - laidBy runs x.mark := by rw [leftTo, cntTo_at bars hone x (mem_of_get h)]
 rw [he, balOne]
 generalize x.count - laidBy runs x.mark = d
 by_cases h1 : 0 < d
 ·exact .inl ⟨by simpa using h1, by simp; omega, by rw [if_pos h1]⟩
 ·by_cases h2 : d < 0
  ·exact .inr (.inl ⟨by simp; omega, by simpa using h2, by rw [if_neg h1, if_pos h2]⟩)
  ·exact .inr (.inr ⟨by simp; omega, by simp; omega, by rw [if_neg h1, if_neg h2]⟩)
set_option maxHeartbeats 2000000 in
set_option maxRecDepth 100000 in
theorem secCheck_none (x : DetD) (s : DetS) (w : World) {B : Nat} (h : DetAt w B x s) (hB : B ≤ w.heap.size) (hf : DetFit x s) (hd : detOk x = true) (h0 : x.dems = []) :
  Calls Tryz.prog 22 #[detV x s] w fun e w' => ∃ A c, e = .returned (.tuple #[.slice A 0 c, .int .i64 0]) ∧ FinRow w.heap.size w' A 0 c [] ∧ Below w.heap.size w w' := by
 have HV := hide (fun (W : World) (hz : Below w.heap.size w W) => lapValid_any x s W (h.carry (hz.mono hB) (Nat.le_refl _)) (Nat.le_trans hB hz.size) hf)
 rw [hd] at HV
 have hn6 : s.n6 = 0 := by rw [hf.l6, h0]; rfl
 have HCX := hide (show (detCells x.mem x.rule s)[9]? = some (.slice s.a6 s.n6 s.c6) from rfl)
 rw [hn6] at HCX
 have K0 := hide (Blk.new w 34 (detCells x.mem x.rule s))
 have HW := hide (below_new w (.cells (detCells x.mem x.rule s) 34))
 have Hi := hide (show (Tryz.prog.info? 34).map (·.size) = some 19 by kernel_rfl)
 have Hsz := hide (show (detCells x.mem x.rule s).size = 19 from rfl)
 clear h hf hB hd h0 hn6
 show Calls Tryz.prog 22 #[.agg (detCells x.mem x.rule s)] w _
 replace HV := hide (fun (W : World) (hz : Below w.heap.size w W) => show Calls Tryz.prog 61 #[.agg (detCells x.mem x.rule s)] W _ from HV.out W hz)
 generalize detCells x.mem x.rule s = C at *
 go_enter Tryz.func22, Tryz.ntmps22
 go_wp2_with (refine wpList_load_row rfl 34 (.tmp 1) rfl w.heap.size rfl 34 _ (0, 0) _ K0.out Tryz.underlying34 rfl (by rw [Hsz.out]; exact Hi.out) ?_)
 refine (HV.out _ HW.out).mono ?_
 rintro e w2 ⟨rfl, hb⟩
 replace K0 := hide (K0.out.keep hb)
 replace HW := hide (below_step HW.out hb (Nat.le_refl _))
 clear hb HV Hi
 have x9 := (K0.out.cell 9).trans HCX.out
 have lk := K0.out.lt
 go_wp2_with fail
 refine wp_loop_rounds 1 ?_
 rw [rounds_succ]
 go_wp2_with fail
 go_ret2
 exact ⟨none, 0, rfl, Row.nil _ _ _ _ _, HW.out⟩
set_option maxHeartbeats 1000000 in
theorem equalFin_any (A A' : Option Addr) (l : List FinD) (n c c' : Nat) (w : World) {B B' : Nat} (h : FinsAt w B A l) (h' : FinsAt w B' A' l) (hn : n = l.length) (hm : n ≤ 300000) :
  Calls Tryz.prog 16 #[.slice A n c, .slice A' n c'] w fun e w' => e = .returned (.bool true) ∧ Below w.heap.size w w' := by
 have hn' := hide hn
 have H1 := hide h
 have H2 := hide h'
 clear hn h h'
 go_enter Tryz.func16, Tryz.ntmps16
 go_wp2_with fail
 go_loopw [13] (fun i wr => ∃ k : Nat, k ≤ n ∧ i = .int .i64 k ∧ ∃ d : Nat, wr = w.drewN d) (fun i _ => n - (intOf i).toNat)
 case atStart => exact ⟨0, Nat.zero_le _, rfl, 0, rfl⟩
 case round =>
  obtain ⟨k, hk, rfl, d, rfl⟩ := hrel
  by_cases hlt : k < n
  ·obtain ⟨b, off, x, hA, _, hx, c0, c1⟩ := FinsAt.get (k := k) H1.out (by rw [← hn'.out]; exact hlt)
   obtain ⟨b2, off2, y, hA2, _, hy, d0, d1⟩ := FinsAt.get (k := k) H2.out (by rw [← hn'.out]; exact hlt)
   rw [hx] at hy
   injection hy with hy
   subst hy
   subst hA
   subst hA2
   clear hx
   have e0 : (w.drewN d).cell? ⟨b, off + k * 2, none⟩ = some (.int .i64 x.kind) := c0
   have e1 : (w.drewN d).cell? ⟨b, off + k * 2 + 1, none⟩ = some (.string x.name) := c1
   have e2 : (w.drewN d).cell? ⟨b2, off2 + k * 2, none⟩ = some (.int .i64 x.kind) := d0
   have e3 : (w.drewN d).cell? ⟨b2, off2 + k * 2 + 1, none⟩ = some (.string x.name) := d1
   go_wp2_with fail
   go_quiet (fail)
   go_wp2_with fail
   go_roundw
   case rel => exact ⟨k + 1, by omega, by go_num, _, rfl⟩
   case measure => simp [intOf]; omega
  ·obtain rfl : k = n := by omega
   go_wp2_with fail
   go_ret
   exact ⟨rfl, below_drewN' (Below.refl _ _) d⟩
theorem few_dems {x : DetD} {s : DetS} (f : Few x s) : ∀ d ∈ x.dems, d.name.size ≤ maxLen ∧ d.steps.length ≤ 60000 :=
 fun d hd => ⟨Nat.le_trans (f.dems d hd).1 (by decide), by have := (f.dems d hd).2; omega⟩
theorem wpList_load_row_g {P : Program} {ops : Array Oper} {rest : List Oper} {o : Oper} {a : Act} {w : World} {Q : Exit → Act → World → Prop} (hw : Region.wanted o (yielded ops a.tmps) = true) (ty : TypeId) (x : Operand) (ho : o.op = .load ty x)
  (g : Nat) (hx : a.eval x = .pointer (some ⟨g, 0, none⟩)) (t : TypeId) (cs : Array Value) (fr : Nat × Nat) (d : TypeDesc) (hg : w.heap[g]? = some (.cells cs t fr))
  (hu : P.underlying ty = some d) (hd : (match d with | .struct _ | .array _ _ => true | _ => false) = true) (hi : (P.info? ty).map (·.size) = some cs.size)
  (h : wpList P ops Q rest (a.put o.dst (.agg cs)) w) : wpList P ops Q (o :: rest) a w :=
 wpList_step fun K hK => by
  rw [if_pos hw]
  exact wp_load_row ty x ho g hx t cs fr d hg hu hd hi (hK _ _ h)
end Go.Proofs.YtpaanfjjnjjoeaaGreat
