/- The findings of laps: lap.overlap, lap.Check, of a valid detail. -/
import Derived.Test.YtpaanfjjnjjoeaaGreatRQbg
import Derived.Test.YtpaanfjjnjjoeaaGreatRQbc
import Derived.Test.YtpaanfjjnjjoeaaGreatRQbe
import Derived.Deep.CutRange
import Derived.StillTailTactics
namespace Go.Proofs.YtpaanfjjnjjoeaaGreat
open Go.RowKit
theorem mainLeg_mem {x : LaidD} {b : BoxD} (h : mainLeg x = some b) : b ∈ legsOfPts x.pts := List.mem_of_find?_eq_some h
theorem mains_get {x : DetD} {p : Nat} {l : LaidD} (h : (laidAll x.bars x.runs)[p]? = some l) : (mainsOf x)[p]? = some (mainOf l) := by
 rw [mainsOf, List.getElem?_map, h]
 rfl
theorem main_has {x : DetD} (hok : laidOk x.bars x.runs = true) {p : Nat} {l : LaidD} (h : (laidAll x.bars x.runs)[p]? = some l) {b : BoxD} (hb : mainLeg l = some b) : boxOk (mainOf l).leg = true ∧ isSize (mainOf l).size = true := by
 have e : mainOf l = ⟨b, true, l.bar.size, l.bar.mark⟩ := by rw [mainOf, hb]
 rw [e]
 exact ⟨legsBox_ok l.pts (laid_near x.runs p l (laidOk_mem hok).2.2 h).1 b (mainLeg_mem hb), bar_size hok (laid_bar hok h)⟩
structure LapR (x : DetD) (j : JoinD) (p q : Nat) (a b : MainD) : Prop where
 at1 : j = ⟨p, q⟩
 a1 : (mainsOf x)[p]? = some a
 b1 : (mainsOf x)[q]? = some b
 la : boxOk a.leg = true
 lb : boxOk b.leg = true
 sa : isSize a.size = true
 sb : isSize b.size = true
theorem lap_get {x : DetD} (h : detOk x = true) {j : JoinD} (hj : j ∈ x.laps) : ∃ p q a b, LapR x j p q a b := by
 have hok := (detOk_parts h).2.1
 have hr := detOk_lap h j hj
 have hl := (laidOk_len hok).1
 have hf := lapsFit_iff.1 (lapsFrom_mem _ _ _ (detOk_laps h) j hj)
 obtain ⟨f, s⟩ := j
 simp only at hr hf
 obtain ⟨p, rfl⟩ : ∃ p : Nat, f = p := ⟨f.toNat, by omega⟩
 obtain ⟨q, rfl⟩ : ∃ q : Nat, s = q := ⟨s.toNat, by omega⟩
 obtain ⟨l, hp⟩ : ∃ l, (laidAll x.bars x.runs)[p]? = some l := ⟨_, List.getElem?_eq_getElem (by omega)⟩
 obtain ⟨k, hq⟩ : ∃ l, (laidAll x.bars x.runs)[q]? = some l := ⟨_, List.getElem?_eq_getElem (by omega)⟩
 have hpk := hf.2.2.2.2
 rw [Int.toNat_natCast, Int.toNat_natCast, List.getD_eq_getElem?_getD, List.getD_eq_getElem?_getD, List.getElem?_map, List.getElem?_map, hp, hq] at hpk
 simp only [Option.map_some, Option.getD_some] at hpk
 cases h1 : mainLeg l with
 | none => rw [h1] at hpk; simp [pairOk] at hpk
 | some b1 =>
  cases h2 : mainLeg k with
  | none => rw [h1, h2] at hpk; simp [pairOk] at hpk
  | some b2 => exact ⟨p, q, mainOf l, mainOf k, rfl, mains_get hp, mains_get hq, (main_has hok hp h1).1, (main_has hok hq h2).1, (main_has hok hp h1).2, (main_has hok hq h2).2⟩
theorem mainAt_get {ms : List MainD} {p : Nat} {a : MainD} (h : ms[p]? = some a) : mainAt ms (p : Int) = a := by
 rw [mainAt, Int.toNat_natCast, List.getD_eq_getElem?_getD, h]
 rfl
theorem isSize_min {a b : Int} (ha : isSize a = true) (hb : isSize b = true) : isSize (min a b) = true := by
 rcases Int.le_total a b with h | h
 ·rw [Int.min_eq_left h]; exact ha
 ·rw [Int.min_eq_right h]; exact hb
def lapTo (x : DetD) (k : Nat) : List FinD := (x.laps.take k).flatMap (lapAt x.mem x.rule (mainsOf x))
theorem lapTo_succ {x : DetD} {k p q : Nat} {j : JoinD} {a b : MainD} (hj : x.laps[k]? = some j) (h : LapR x j p q a b) : lapTo x (k + 1) = lapTo x k ++ lapOne x.mem x.rule a b := by
 rw [lapTo, lapTo, take_snoc' hj, List.flatMap_append, List.flatMap_singleton, lapAt, h.at1]
 rw [mainAt_get h.a1, mainAt_get h.b1]
theorem lapTo_len (x : DetD) (k : Nat) (hk : k ≤ x.laps.length) : (lapTo x k).length ≤ 2 * k := by
 have key : ∀ l : List JoinD, (l.flatMap (lapAt x.mem x.rule (mainsOf x))).length ≤ 2 * l.length := by
  intro l
  induction l with
  | nil => simp
  | cons j l ih =>
   have h1 : (lapAt x.mem x.rule (mainsOf x) j).length ≤ 2 := by
    unfold lapAt lapOne
    rw [List.length_append]
    split <;> split <;> simp
   rw [List.flatMap_cons, List.length_append, List.length_cons]
   omega
 have := key (x.laps.take k)
 rw [List.length_take] at this
 unfold lapTo
 omega
set_option maxHeartbeats 4000000 in
set_option maxRecDepth 100000 in
theorem overlap_ok (A : Option Addr) (ms : List MainD) (n c p q : Nat) (a b : MainD) (w : World) {B : Nat} (h : MainsAt w B A ms) (hB : B ≤ w.heap.size) (hn : n = ms.length) (_hm : n ≤ 2000) (ha : ms[p]? = some a) (hb : ms[q]? = some b) :
  Calls Tryz.prog 59 #[.slice A n c, .agg #[.int .i64 (p : Int), .int .i64 (q : Int)]] w fun e w' => e = .returned (.agg #[.int .i64 b.leg.lo.1, .int .i64 a.leg.hi.1]) ∧ Below w.heap.size w w' := by
 have hp := lt_of_get ha
 have hq := lt_of_get hb
 obtain ⟨g, off, x, rfl, hbl, hx, hcx⟩ := MainsAt.get (k := p) h hp
 obtain ⟨g', off', y, hA', _, hy, hcy⟩ := MainsAt.get (k := q) h hq
 injection hA' with hA'
 injection hA' with hA1 hA2
 subst hA1
 subst hA2
 obtain rfl : x = a := by rw [hx] at ha; injection ha
 obtain rfl : y = b := by rw [hy] at hb; injection hb
 have u3 := hcx 3 _ rfl
 have v0 := hcy 0 _ rfl
 simp only [Nat.add_zero] at v0
 have p1 : (p : Int) < (n : Int) := by omega
 have q1 : (q : Int) < (n : Int) := by omega
 have p2 : (0 : Int) ≤ (p : Int) := by omega
 have q2 : (0 : Int) ≤ (q : Int) := by omega
 have p3 : p < n := by omega
 have q3 : q < n := by omega
 have hgw : g < w.heap.size := by omega
 have hgw1 : g < w.heap.size + 1 := by omega
 have hgw2 : g < w.heap.size + 1 + 1 := by omega
 obtain ⟨hi, hhi⟩ : ∃ d, d = x.leg.hi.1 := ⟨_, rfl⟩
 obtain ⟨lo, hlo⟩ : ∃ d, d = y.leg.lo.1 := ⟨_, rfl⟩
 rw [← hhi] at u3 ⊢
 rw [← hlo] at v0 ⊢
 have HW := hide (below_new2 w (.cells #[.int .i64 (p : Int), .int .i64 (q : Int)] 73) (.cells #[.int .i64 0, .int .i64 0] 77))
 have KR := hide (Blk.new1 w (.cells #[.int .i64 (p : Int), .int .i64 (q : Int)] 73) 77 #[.int .i64 0, .int .i64 0])
 have KJ := hide ((Blk.new w 73 #[.int .i64 (p : Int), .int .i64 (q : Int)]).alloc (.cells #[.int .i64 0, .int .i64 0] 77))
 obtain ⟨w1, hw1⟩ : ∃ w1, w1 = (w.alloc (.cells #[.int .i64 (p : Int), .int .i64 (q : Int)] 73)).alloc (.cells #[.int .i64 0, .int .i64 0] 77) := ⟨_, rfl⟩
 rw [← hw1] at HW KR KJ
 have u3' : w1.cell? ⟨g, off + p * 9 + 3, none⟩ = some (.int .i64 hi) := by rw [HW.out.cell (by exact hgw)]; exact u3
 have v0' : w1.cell? ⟨g, off + q * 9, none⟩ = some (.int .i64 lo) := by rw [HW.out.cell (by exact hgw)]; exact v0
 have j0 := KJ.out.cell 0
 have j1 := KJ.out.cell 1
 simp at j0 j1
 have lj := KJ.out.lt
 have r0 := KR.out.cell 0
 have r1 := KR.out.cell 1
 simp at r0 r1
 have f0 := KR.out.frozen 0
 have f1 := KR.out.frozen 1
 have lr := KR.out.lt
 have HW1 := hide hw1
 clear h hn ha hb hx hy hcx hcy hbl u3 v0 hw1 hhi hlo hp hq hB
 go_enter Tryz.func59, Tryz.ntmps59
 go_wp2_with fail
 rw [← HW1.out]
 go_still_tail 17, (by kernel_rfl)
 change wpList _ _ _ _ _ (World.drew w1)
 go_wp2_with fail
 refine bodyPost_ret (results_c rfl rfl (((KR.out.drew).set_ 0 _).set_ 1 _) Tryz.underlying77 rfl (by kernel_rfl)) rfl ?_
 refine ⟨by simp only [zzD, zzE, zzF], ?_⟩
 exact ((HW.out.drew).setCell (p := ⟨w.heap.size + 1, 0, none⟩) (Nat.le_add_right _ _) _).setCell (p := ⟨w.heap.size + 1, 1, none⟩) (Nat.le_add_right _ _) _
def covErr (l : List FinD) : Int := if 1000 < l.length then 4 else 0
def covRes (l : List FinD) : List FinD := if 1000 < l.length then [] else l
set_option maxHeartbeats 2000000 in
theorem covCount_ok (m : MemD) (A1 A2 A3 A4 : Option Addr) (n1 n2 n3 n4 c1 c2 c3 c4 : Nat) (bars : List BarD) (runs : List RunD) (w : World) {B : Nat} (h1 : BoxesAt w B A1 m.boxes) (h2 : BoxesAt w B A2 m.holes) (h3 : BarsAt w B A3 bars) (h4 : RunsAt w B A4 runs) (hB : B ≤ w.heap.size)
  (l1 : n1 = m.boxes.length) (l2 : n2 = m.holes.length) (l3 : n3 = bars.length) (l4 : n4 = runs.length) (m3 : n3 ≤ 60000) (m4 : n4 ≤ 60000) (hnm : m.name.size ≤ maxLen) (htame : Tame bars) (hmem : memOk m = true) (hok : laidOk bars runs = true) :
  Calls Tryz.prog 54 #[memV m A1 n1 c1 A2 n2 c2, .slice A3 n3 c3, .slice A4 n4 c4] w fun e w' => e = .returned (.tuple #[.int .i64 (countRuns runs), .int .i64 0]) ∧ Below w.heap.size w w' := by
 have HV := hide (fun (W : World) (hz : Below w.heap.size w W) => member_any m A1 A2 n1 n2 c1 c2 W (h1.carry (Flat.carried _) (hz.mono hB) (Nat.le_refl _)) (h2.carry (Flat.carried _) (hz.mono hB) (Nat.le_refl _)) (Nat.le_trans hB hz.size) l1 l2 hnm)
 rw [hmem] at HV
 have HC := hide (fun (W : World) (hz : Below w.heap.size w W) => laidCount_ok A3 bars n3 c3 A4 runs n4 c4 W (h3.carry (hz.mono hB) (Nat.le_refl _)) (h4.carry (Flat.carried _) (hz.mono hB) (Nat.le_refl _)) (Nat.le_trans hB hz.size) l3 l4 m3 m4 htame hok)
 obtain ⟨name, boxes, holes, cover, agg, poker⟩ := m
 have HW := hide (below_new w (.cells #[.string name, .slice A1 n1 c1, .slice A2 n2 c2, .int .i64 cover, .int .i64 agg, .int .i64 poker] 26))
 generalize countRuns runs = cn at *
 clear h1 h2 h3 h4 hB l1 l2 l3 l4 htame hmem hok hnm
 go_enter Tryz.func54, Tryz.ntmps54
 go_wp2_with fail
 refine (HV.out _ HW.out).mono ?_
 rintro e w1 ⟨rfl, hb⟩
 replace HW := hide (below_step HW.out hb (Nat.le_refl _))
 clear hb HV
 go_wp2_with fail
 refine (HC.out _ HW.out).mono ?_
 rintro e w2 ⟨rfl, hb⟩
 replace HW := hide (below_step HW.out hb (Nat.le_refl _))
 clear hb HC
 go_wp2_with fail
 go_ret2
 exact ⟨rfl, HW.out⟩
def covTo (m : MemD) (l : List LaidD) (q : Nat) : List FinD := coverAll m (l.take q)
theorem covTo_succ {m : MemD} {l : List LaidD} {q : Nat} {x : LaidD} (h : l[q]? = some x) : covTo m l (q + 1) = covTo m l q ++ coverFin m x := by
 rw [covTo, covTo, take_snoc' h, coverAll, coverAll, List.flatMap_append]
 simp
theorem covTo_all (m : MemD) (l : List LaidD) : covTo m l l.length = coverAll m l := by rw [covTo, List.take_length]
theorem coverFin_len (m : MemD) (x : LaidD) : (coverFin m x).length ≤ 1 := by
 unfold coverFin
 split <;> simp
theorem coverAll_len (m : MemD) : ∀ l : List LaidD, (coverAll m l).length ≤ l.length := by
 intro l
 induction l with
 | nil => simp [coverAll]
 | cons x l ih =>
  have h1 := coverFin_len m x
  simp only [coverAll, List.flatMap_cons, List.length_append, List.length_cons] at ih ⊢
  omega
set_option maxHeartbeats 4000000 in
set_option maxRecDepth 100000 in
theorem covCheck_ok (HSL : SortLaw) (HCL : CompLaw) (m : MemD) (A1 A2 A3 A4 : Option Addr) (n1 n2 n3 n4 c1 c2 c3 c4 : Nat) (bars : List BarD) (runs : List RunD) (w : World) {B : Nat} (h1 : BoxesAt w B A1 m.boxes) (h2 : BoxesAt w B A2 m.holes) (h3 : BarsAt w B A3 bars) (h4 : RunsAt w B A4 runs) (hB : B ≤ w.heap.size)
  (l1 : n1 = m.boxes.length) (l2 : n2 = m.holes.length) (l3 : n3 = bars.length) (l4 : n4 = runs.length) (m3 : n3 ≤ 60000) (m4 : n4 ≤ 60000) (hnm : m.name.size ≤ maxLen) (htame : Tame bars) (hmem : memOk m = true) (hok : laidOk bars runs = true) :
  Calls Tryz.prog 20 #[memV m A1 n1 c1 A2 n2 c2, .slice A3 n3 c3, .slice A4 n4 c4] w fun e w' => ∃ A c, e = .returned (.tuple #[.slice A (covRes (coverAll m (laidAll bars runs))).length c, .int .i64 (covErr (coverAll m (laidAll bars runs)))]) ∧ FinRow w.heap.size w' A (covRes (coverAll m (laidAll bars runs))).length c (covRes (coverAll m (laidAll bars runs))) ∧ Below w.heap.size w w' := by
 have hsol : solidOk m.boxes m.holes = true := by simp only [memOk, Bool.and_eq_true] at hmem; exact hmem.1.1.1.2
 have HN0 := hide (fun (W : World) (hz : Below w.heap.size w W) => covCount_ok m A1 A2 A3 A4 n1 n2 n3 n4 c1 c2 c3 c4 bars runs W (h1.carry (Flat.carried _) (hz.mono hB) (Nat.le_refl _)) (h2.carry (Flat.carried _) (hz.mono hB) (Nat.le_refl _)) (h3.carry (hz.mono hB) (Nat.le_refl _)) (h4.carry (Flat.carried _) (hz.mono hB) (Nat.le_refl _)) (Nat.le_trans hB hz.size) l1 l2 l3 l4 m3 m4 hnm htame hmem hok)
 have HBr := hide (fun (i : Nat) (ld : LaidD) (hld : (laidAll bars runs)[i]? = some ld) (W : World) (hz : Below w.heap.size w W) => covBar_ok HSL HCL m A1 A2 A3 A4 n1 n2 n3 n4 c1 c2 c3 c4 bars runs i ld W (h1.carry (Flat.carried _) (hz.mono hB) (Nat.le_refl _)) (h2.carry (Flat.carried _) (hz.mono hB) (Nat.le_refl _)) (h3.carry (hz.mono hB) (Nat.le_refl _)) (h4.carry (Flat.carried _) (hz.mono hB) (Nat.le_refl _)) (Nat.le_trans hB hz.size) l1 l2 l3 l4 m3 m4 htame hsol hok hld)
 have hNe := (laidOk_len hok).1
 have hN2 := (laidOk_len hok).2
 generalize laidAll bars runs = L at *
 obtain ⟨N, hN⟩ : ∃ N, N = L.length := ⟨_, rfl⟩
 rw [← hN] at hNe hN2
 rw [← hNe] at HN0
 have HN := hide hN
 have Hts := hide (fun (q : Nat) (x : LaidD) (h : L[q]? = some x) => covTo_succ (m := m) h)
 have Hta := hide (show covTo m L N = coverAll m L by rw [hN]; exact covTo_all m L)
 have Htl := hide (fun (q : Nat) => show (covTo m L q).length ≤ q from Nat.le_trans (coverAll_len m _) (List.length_take_le _ _))
 have Ht0 := hide (show covTo m L 0 = [] from rfl)
 have Hcf := hide (fun (x : LaidD) => show coverFin m x = (if leastOf m x.bar.size (legsOfPts x.pts) < m.cover then [⟨1, x.bar.mark⟩] else []) from rfl)
 obtain ⟨CT, hCT⟩ : ∃ CT, CT = covTo m L := ⟨_, rfl⟩
 rw [← hCT] at Hts Hta Htl Ht0
 obtain ⟨F, hF⟩ : ∃ F, F = coverAll m L := ⟨_, rfl⟩
 rw [← hF] at Hta ⊢
 obtain ⟨CF, hCF⟩ : ∃ CF, CF = coverFin m := ⟨_, rfl⟩
 rw [← hCF] at Hts Hcf
 obtain ⟨LO, hLO⟩ : ∃ LO, LO = leastOf m := ⟨_, rfl⟩
 have HBx := hide (fun (i : Nat) (ld : LaidD) (hld : L[i]? = some ld) (W : World) (hz : Below w.heap.size w W) => show Calls Tryz.prog 55 #[memV m A1 n1 c1 A2 n2 c2, .slice A3 n3 c3, .slice A4 n4 c4, .int .i64 (i : Int)] W fun e w' => e = .returned (.tuple #[.int .i64 (LO ld.bar.size (legsOfPts ld.pts)), .string ld.bar.mark, .int .i64 0]) ∧ Below W.heap.size W w' by rw [hLO]; exact HBr.out i ld hld W hz)
 rw [← hLO] at Hcf
 obtain ⟨name, boxes, holes, cover, agg, poker⟩ := m
 simp only at Hcf
 have KM := hide (Blk.new w 26 #[.string name, .slice A1 n1 c1, .slice A2 n2 c2, .int .i64 cover, .int .i64 agg, .int .i64 poker])
 have HW := hide (below_new w (.cells #[.string name, .slice A1 n1 c1, .slice A2 n2 c2, .int .i64 cover, .int .i64 agg, .int .i64 poker] 26))
 have s0 := KM.out.cell 0
 have s1 := KM.out.cell 1
 have s2 := KM.out.cell 2
 have s3 := KM.out.cell 3
 have s4 := KM.out.cell 4
 have s5 := KM.out.cell 5
 simp at s0 s1 s2 s3 s4 s5
 clear h1 h2 h3 h4 hB l1 l2 l3 l4 hnm htame hmem hsol hok hNe hN hCT hF hCF hLO HBr s0 s1 s2 s3 s4 s5
 go_enter Tryz.func20, Tryz.ntmps20
 go_wp2_with fail
 refine (HN0.out _ HW.out).mono ?_
 rintro e w1 ⟨rfl, hb⟩
 replace KM := hide (KM.out.keep hb)
 replace HW := hide (below_step HW.out hb (Nat.le_refl _))
 have hg1 := KM.out.lt
 clear hb HN0
 go_wp2_with fail
 go_loopw [10, 26] (fun vv iv wr => ∃ q : Nat, q ≤ N ∧ iv = .int .i64 q ∧ (∃ acc : List FinD, Row wr w1.heap.size 47 2 encFin vv acc ∧ Hid (acc = CT q)) ∧ Below w1.heap.size w1 wr) (fun _ iv _ => N - (intOf iv).toNat)
 case atStart => exact ⟨0, Nat.zero_le _, rfl, ⟨[], Row.nil _ _ _ _ _, hide Ht0.out.symm⟩, Below.refl _ _⟩
 case round =>
  obtain ⟨q, hq, rfl, ⟨acc, hrow, hacc⟩, hbr⟩ := hrel
  obtain ⟨A0, c0, rfl⟩ := hrow.val
  have hal : acc.length ≤ q := by rw [hacc.out]; exact Htl.out q
  by_cases hlt : q < N
  ·obtain ⟨ld, hld⟩ : ∃ ld, L[q]? = some ld := ⟨_, List.getElem?_eq_getElem (by rw [← HN.out]; exact hlt)⟩
   have Hnx := hide (Hts.out q ld hld)
   have HBq := hide (HBx.out q ld hld)
   have Hcq := hide (Hcf.out ld)
   obtain ⟨cf, hcf⟩ : ∃ q, q = CF ld := ⟨_, rfl⟩
   rw [← hcf] at Hnx Hcq
   obtain ⟨lo, hlo⟩ : ∃ q, q = LO ld.bar.size (legsOfPts ld.pts) := ⟨_, rfl⟩
   rw [← hlo] at HBq Hcq
   obtain ⟨mark, hmk⟩ : ∃ q, q = ld.bar.mark := ⟨_, rfl⟩
   rw [← hmk] at HBq Hcq
   have K := hide (KM.out.below hbr hg1)
   have s0 := K.out.cell 0
   have s1 := K.out.cell 1
   have s2 := K.out.cell 2
   have s3 := K.out.cell 3
   have s4 := K.out.cell 4
   have s5 := K.out.cell 5
   simp at s0 s1 s2 s3 s4 s5
   have lm := K.out.lt
   have Hrow := hide hrow
   have HBr := hide hbr
   clear hld hcf hlo hmk hrow hbr
   go_wp2_with fail
   refine (HBq.out _ (below_step HW.out HBr.out (Nat.le_refl _))).mono ?_
   rintro e w2 ⟨rfl, hb⟩
   replace K := hide (K.out.keep hb)
   replace Hrow := hide (Hrow.out.keep hb)
   replace HBr := hide (below_step HBr.out hb (Nat.le_refl _))
   have hs2 := HBr.out.size
   clear hb HBq s0 s1 s2 s3 s4 s5 lm
   have s3 := K.out.cell 3
   simp at s3
   have lm := K.out.lt
   by_cases hc : lo < cover
   ·have dc : decide (lo < cover) = true := by simp; omega
    have Hf := hide (show CT (q + 1) = acc ++ [⟨1, mark⟩] by rw [Hnx.out, Hcq.out, if_pos hc, hacc.out])
    clear hc Hnx Hcq hacc
    go_wp2_with (at_builtin; refine wpList_append1 rfl (.tmp 45) (.tmp 48) 37 rfl w1.heap.size 47 (.agg #[.int .i64 0, .string .empty]) 2 24 encFin Tryz.underlying37 (by kernel_rfl) rfl (by omega) encFin_len encFin_one _ acc ⟨1, mark⟩ rfl (Hrow.out.alloc _) _ rfl (Blk.new w2 _ _) (by omega) (by omega) (le_alloc hs2 _) ?_; intro A3 c3 w4 hrow3 hb3 _)
    have Hr3 := hide hrow3
    have Hb3 := hide ((HBr.out.alloc hs2 (.cells #[.int .i64 1, .string mark] 47)).trans hb3)
    clear hrow3 hb3
    go_wp2_with fail
    go_roundw
    case rel => exact ⟨q + 1, by omega, by go_num, ⟨_, Hr3.out, hide Hf.out.symm⟩, Hb3.out⟩
    case measure => simp [intOf]; omega
   ·have dc : decide (lo < cover) = false := by simp; omega
    have Hf := hide (show CT (q + 1) = acc by rw [Hnx.out, Hcq.out, if_neg hc, hacc.out, List.append_nil])
    clear hc Hnx Hcq hacc
    go_wp2_with fail
    go_roundw
    case rel => exact ⟨q + 1, by omega, by go_num, ⟨acc, Hrow.out, hide Hf.out.symm⟩, HBr.out⟩
    case measure => simp [intOf]; omega
  ·obtain rfl : q = N := by omega
   have hf : acc = F := by rw [hacc.out, Hta.out]
   have HB9 := hide (below_step HW.out hbr (Nat.le_refl _))
   have HF := hide (rowLow HW.out.size hrow)
   clear hbr hrow hacc Hta Hts
   by_cases hc : 1000 < acc.length
   ·have He := hide (show covErr F = 4 by rw [← hf, covErr, if_pos hc])
    have Hr := hide (show covRes F = [] by rw [← hf, covRes, if_pos hc])
    have dc : decide (1000 < (acc.length : Int)) = true := by simp; omega
    clear hf HF
    generalize acc.length = ln at *
    go_wp2_with fail
    go_ret2
    exact ⟨none, 0, by rw [He.out, Hr.out]; rfl, by rw [Hr.out]; exact Row.nil _ _ _ _ _, HB9.out⟩
   ·have He := hide (show covErr F = 0 by rw [← hf, covErr, if_neg hc])
    have Hr := hide (show covRes F = acc by rw [← hf, covRes, if_neg hc])
    have dc : decide (1000 < (acc.length : Int)) = false := by simp; omega
    clear hf
    obtain ⟨ln, hln⟩ : ∃ q, q = acc.length := ⟨_, rfl⟩
    rw [← hln] at dc hc hal ⊢
    have Hln := hide hln
    clear hln
    go_wp2_with fail
    go_ret2
    exact ⟨A0, c0, by rw [He.out, Hr.out, Hln.out] <;> rfl, by rw [Hr.out]; exact HF.out, HB9.out⟩
end Go.Proofs.YtpaanfjjnjjoeaaGreat
