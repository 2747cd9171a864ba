/- The law SectionHas: the bars that are cut are those that have cuts, each on a leg of its bar. -/
import Derived.Test.YtmcjpdlkkpnhfaaGreatQbt
import Derived.Test.YtmcjpdlkkpnhfaaGreatQbf
import Derived.Test.YtmcjpdlkkpnhfaaGreatQbk
import Derived.Test.YtmcjpdlkkpnhfaaGreatQaf
import Derived.Test.YtmcjpdlkkpnhfaaGreatQbj
import Derived.Test.YtmcjpdlkkpnhfaaGreatQaa
import Derived.Deep.CutRange
namespace Go.Proofs.YtmcjpdlkkpnhfaaGreat
open Go.RowKit

def onLeg (a : Int) (p l : BoxD) : Bool := decide (l.lo.1 ≤ a) && (decide (a ≤ l.hi.1) && ((l.lo.2.1 == p.lo.2.1) && ((l.hi.2.1 == p.hi.2.1) && ((l.lo.2.2 == p.lo.2.2) && (l.hi.2.2 == p.hi.2.2)))))
theorem onLeg_cut {a : Int} {l : BoxD} (h : overX a l = true) : onLeg a (cutOf a l) l = true := by
  simp only [overX, Bool.and_eq_true, decide_eq_true_eq] at h
  simp [onLeg, cutOf, h.1, h.2]
set_option maxHeartbeats 4000000 in
theorem hasLeg_any (l p : BoxD) (a : Int) (ga gp : Nat) (w : World) (ha : w.cell? ⟨ga, 0, none⟩ = some (.int .i64 a)) (hp : Blk w gp 63 #[.int .i64 p.lo.1, .int .i64 p.lo.2.1, .int .i64 p.lo.2.2, .int .i64 p.hi.1, .int .i64 p.hi.2.1, .int .i64 p.hi.2.2]) :
    Calls Tryz.prog 32 #[bx l, .pointer (some ⟨ga, 0, none⟩), .pointer (some ⟨gp, 0, none⟩)] w fun e w' => e = .returned (.bool (onLeg a p l)) ∧ Below w.heap.size w w' := by
  obtain ⟨⟨l1, l2, l3⟩, l4, l5, l6⟩ := l
  obtain ⟨⟨p1, p2, p3⟩, p4, p5, p6⟩ := p
  have hlt : ga < w.heap.size := World.block_lt_of_cell? w _ ha
  have h1 := fun o => (World.cell?_alloc_lt w o ⟨ga, 0, none⟩ hlt).trans ha
  have KP := hide (hp.alloc (.cells #[.int .i64 l1, .int .i64 l2, .int .i64 l3, .int .i64 l4, .int .i64 l5, .int .i64 l6] 63))
  have c1 := KP.out.cell 1
  have c2 := KP.out.cell 2
  have c4 := KP.out.cell 4
  have c5 := KP.out.cell 5
  simp at c1 c2 c4 c5
  have lk := hp.lt
  obtain ⟨t1, ht1⟩ : ∃ t, decide (l1 ≤ a) = t := ⟨_, rfl⟩
  obtain ⟨t2, ht2⟩ : ∃ t, decide (a ≤ l4) = t := ⟨_, rfl⟩
  obtain ⟨t3, ht3⟩ : ∃ t, (l2 == p2) = t := ⟨_, rfl⟩
  obtain ⟨t4, ht4⟩ : ∃ t, (l5 == p5) = t := ⟨_, rfl⟩
  obtain ⟨t5, ht5⟩ : ∃ t, (l3 == p3) = t := ⟨_, rfl⟩
  obtain ⟨t6, ht6⟩ : ∃ t, (l6 == p6) = t := ⟨_, rfl⟩
  have Hr := hide (show onLeg a ⟨(p1, p2, p3), p4, p5, p6⟩ ⟨(l1, l2, l3), l4, l5, l6⟩ = (t1 && (t2 && (t3 && (t4 && (t5 && t6))))) by rw [← ht1, ← ht2, ← ht3, ← ht4, ← ht5, ← ht6]; rfl)
  clear hp ha KP
  show Calls Tryz.prog 32 #[.agg #[.int .i64 l1, .int .i64 l2, .int .i64 l3, .int .i64 l4, .int .i64 l5, .int .i64 l6], .pointer (some ⟨ga, 0, none⟩), .pointer (some ⟨gp, 0, none⟩)] w _
  go_enter Tryz.func32, Tryz.ntmps32
  cases t1
  · go_wp2_with fail
    go_ret
    exact ⟨ret_bool (by rw [Hr.out]; rfl), below_new _ _⟩
  cases t2
  · go_wp2_with fail
    go_ret
    exact ⟨ret_bool (by rw [Hr.out]; rfl), below_new _ _⟩
  cases t3
  · go_wp2_with fail
    go_ret
    exact ⟨ret_bool (by rw [Hr.out]; rfl), below_new _ _⟩
  cases t4
  · go_wp2_with fail
    go_ret
    exact ⟨ret_bool (by rw [Hr.out]; rfl), below_new _ _⟩
  cases t5
  · go_wp2_with fail
    go_ret
    exact ⟨ret_bool (by rw [Hr.out]; rfl), below_new _ _⟩
  cases t6
  · go_wp2_with fail
    go_ret
    exact ⟨ret_bool (by rw [Hr.out]; rfl), below_new _ _⟩
  · go_wp2_with fail
    go_ret
    exact ⟨ret_bool (by rw [Hr.out]; rfl), below_new _ _⟩
set_option maxHeartbeats 16000000 in
set_option maxRecDepth 100000 in
theorem sectionHas_law (x : DetD) (s : DetS) (a : Int) (w : World) {B : Nat} (h : DetAt w B x s) (hB : B ≤ w.heap.size) (hl : DetLen x s) :
    Calls Tryz.prog 6 #[detV x s, .int .i64 a] w fun e w' => e = .returned (.bool true) ∧ Below w.heap.size w w' := by
  have HR := hide (fun (W : World) (hz : Below w.heap.size w W) => ready_any x s W (h.carry (hz.mono hB) (Nat.le_refl _)) (Nat.le_trans hB hz.size) hl)
  have HBa := hide (fun (f : Few x s) (he : secErr x a = 0) (W : World) (hz : Below w.heap.size w W) => sectBars_ok x s a W (h.carry (hz.mono hB) (Nat.le_refl _)) (Nat.le_trans hB hz.size) (few_fit hl f) he)
  have HCu := hide (fun (f : Few x s) (he : secErr x a = 0) (W : World) (hz : Below w.heap.size w W) => sectCut_ok x s a W (h.carry (hz.mono hB) (Nat.le_refl _)) (Nat.le_trans hB hz.size) (few_fit hl f) he)
  have HCo := hide (fun (f : Few x s) (hok : laidOk x.bars x.runs = true) (W : World) (hz : Below w.heap.size w W) => laidCount_ok s.a3 x.bars s.n3 s.c3 s.a4 x.runs s.n4 s.c4 W (h.h3.carry (hz.mono hB) (Nat.le_refl _)) (h.h4.carry (Flat.carried _) (hz.mono hB) (Nat.le_refl _)) (Nat.le_trans hB hz.size) hl.l3 hl.l4 (few_fit hl f).m3 (few_fit hl f).m4 f.tame hok)
  have HLg := hide (fun (f : Few x s) (hok : laidOk x.bars x.runs = true) (i : Nat) (ld : LaidD) (hi : (laidAll x.bars x.runs)[i]? = some ld) (W : World) (hz : Below w.heap.size w W) => laidLegs_ok s.a3 s.a4 x.bars x.runs s.n3 s.c3 s.n4 s.c4 i ld W (h.h3.carry (hz.mono hB) (Nat.le_refl _)) (h.h4.carry (Flat.carried _) (hz.mono hB) (Nat.le_refl _)) (Nat.le_trans hB hz.size) hl.l3 hl.l4 (few_fit hl f).m3 (few_fit hl f).m4 f.tame hok hi)
  have HHu := hide (fun (f : Few x s) (hok : laidOk x.bars x.runs = true) (i : Nat) (ld : LaidD) (hi : (laidAll x.bars x.runs)[i]? = some ld) (W : World) (hz : Below w.heap.size w W) => laidHull_ok s.a3 s.a4 x.bars x.runs s.n3 s.c3 s.n4 s.c4 i ld W (h.h3.carry (hz.mono hB) (Nat.le_refl _)) (h.h4.carry (Flat.carried _) (hz.mono hB) (Nat.le_refl _)) (Nat.le_trans hB hz.size) hl.l3 hl.l4 (few_fit hl f).m3 (few_fit hl f).m4 f.tame hok hi)
  have Hov := hide (fun (hok : laidOk x.bars x.runs = true) (i : Nat) (ld : LaidD) (hi : (laidAll x.bars x.runs)[i]? = some ld) => show 2 ≤ ld.pts.length ∧ ld.pts.length ≤ 7 from ⟨laid_two hok hi, (laid_near x.runs i ld (laidOk_mem hok).2.2 hi).2.2⟩)
  have Hi := hide (show (Tryz.prog.info? 34).map (·.size) = some 19 by kernel_rfl)
  have K0 := hide ((Blk.new w 34 (detCells x.mem x.rule s)).alloc (.cells #[.int .i64 a] 3))
  have KA := hide (Blk.new1 w (.cells (detCells x.mem x.rule s) 34) 3 #[.int .i64 a])
  have HW := hide (below_new2 w (.cells (detCells x.mem x.rule s) 34) (.cells #[.int .i64 a] 3))
  clear h hB hl
  go_enter Tryz.func6, Tryz.ntmps6
  go_wp2_with fail
  refine (awake_any _).mono ?_
  rintro e w1 ⟨rfl, hb⟩
  replace K0 := hide (K0.out.keep hb)
  replace KA := hide (KA.out.keep hb)
  replace HW := hide (below_step HW.out hb (Nat.le_refl _))
  clear hb
  go_wp2_with (refine wpList_load_row rfl 34 (.tmp 2) rfl w.heap.size rfl 34 _ (0, 0) _ K0.out Tryz.underlying34 rfl Hi.out ?_)
  refine (HR.out _ HW.out).mono ?_
  rintro e w2 ⟨⟨t, rfl, ht⟩, hb⟩
  have Ht := hide ht
  replace K0 := hide (K0.out.keep hb)
  replace KA := hide (KA.out.keep hb)
  replace HW := hide (below_step HW.out hb (Nat.le_refl _))
  clear hb ht HR
  have ea := KA.out.cell 0
  simp at ea
  have la := KA.out.lt
  cases t
  · go_wp2_with fail
    go_ret
    exact ⟨rfl, HW.out⟩
  obtain ⟨hf, hdet⟩ := Ht.out rfl
  have hok := (detOk_parts hdet).2.1
  have hways : (decide (a < -1048576) = true) ∨ (decide (a < -1048576) = false ∧ decide (1048576 < a) = true) ∨ (decide (a < -1048576) = false ∧ decide (1048576 < a) = false ∧ -1048576 ≤ a ∧ a ≤ 1048576) := by
    simp only [decide_eq_true_eq, decide_eq_false_iff_not]
    omega
  clear Ht
  rcases hways with d1 | ⟨d1, d2⟩ | ⟨d1, d2, g1, g2⟩
  · go_wp2_with fail
    go_ret
    exact ⟨rfl, HW.out⟩
  · go_wp2_with fail
    go_ret
    exact ⟨rfl, HW.out⟩
  have he : secErr x a = 0 := by rw [secErr, if_neg (by rw [hdet]; decide), if_neg (by omega)]
  have HB := hide (HBa.out hf he)
  have HC := hide (HCu.out hf he)
  have HN := hide (HCo.out hf hok)
  have HL := hide (HLg.out hf hok)
  have HH := hide (HHu.out hf hok)
  have Hpl := hide (Hov.out hok)
  obtain ⟨hN, hN2⟩ := laidOk_len hok
  rw [← hN] at HN
  have hcl := (cuts_fine hok a).1
  have Hpc := hide (fun (p : PieceD) (hp : p ∈ cutsOf x a) => piece_of a (laidAll x.bars x.runs) p hp)
  have Has := hide (show (numsOf (cutsOf x a)).Pairwise (· ≤ ·) from nums_asc a (laidAll x.bars x.runs))
  have Hme := hide (fun (k : Nat) => show (k : Int) ∈ barsOf (cutsOf x a) ↔ ∃ ld, (laidAll x.bars x.runs)[k]? = some ld ∧ (legsOfPts ld.pts).any (overX a) = true from (mem_bars _ _).trans (nums_mem a (laidAll x.bars x.runs) k))
  clear HBa HCu HCo HLg HHu Hov he hf hdet hok hN d1 d2
  generalize laidAll x.bars x.runs = LA at *
  generalize cutsOf x a = L at *
  obtain ⟨N, hNN⟩ : ∃ N, N = LA.length := ⟨_, rfl⟩
  rw [← hNN] at HN hN2
  have HNl := hide hNN
  clear hNN
  obtain ⟨n, hn⟩ : ∃ n, n = L.length := ⟨_, rfl⟩
  rw [← hn] at HC hcl
  have Hn := hide hn
  have hbl := barsOf_len L
  have Hcb := hide (compact_bars L)
  obtain ⟨nb, hnb⟩ : ∃ n, n = (barsOf L).length := ⟨_, rfl⟩
  have Hnb := hide hnb
  have hnb2 : nb ≤ 12000 := by omega
  rw [← hnb] at HB
  clear hn hnb hbl
  obtain ⟨mem, bars, runs, laps, dems, rule⟩ := x
  obtain ⟨a1, n1, c1, a2, n2, c2, a3, n3, c3, a4, n4, c4, a5, n5, c5, a6, n6, c6⟩ := s
  obtain ⟨name, boxes, holes, cover, agg, poker⟩ := mem
  obtain ⟨r1, r2, r3, r4, r5, r6, r7, r8, r9⟩ := rule
  simp only [detCells] at K0
  simp only at HB HC HN HL HH
  go_wp2_with (refine wpList_load_row rfl 34 (.tmp 2) rfl w.heap.size rfl 34 _ (0, 0) _ K0.out Tryz.underlying34 rfl Hi.out ?_)
  refine (HB.out _ HW.out).mono ?_
  rintro e w3 ⟨Al, cl, rfl, ⟨b0, hrl⟩, hb⟩
  have RL := hide (Row.read hrl encInt_len (by omega))
  replace K0 := hide (K0.out.keep hb)
  replace KA := hide (KA.out.keep hb)
  replace HW := hide (below_step HW.out hb (Nat.le_refl _))
  clear hb HB hrl ea la
  have ea := KA.out.cell 0
  simp at ea
  have la := KA.out.lt
  go_wp2_with (refine wpList_load_row rfl 34 (.tmp 2) rfl w.heap.size rfl 34 _ (0, 0) _ K0.out Tryz.underlying34 rfl Hi.out ?_)
  refine (HC.out _ HW.out).mono ?_
  rintro e w4 ⟨Ac, cc, Ab, cb, rfl, hcut, hbar, hb⟩
  have RL := hide (SlOf.carry (Flat.carried _) RL.out hb hb.size)
  have RC := hide hcut
  have RB := hide (show Ints w4 w4.heap.size Ab (numsOf L) from hbar)
  replace K0 := hide (K0.out.keep hb)
  replace KA := hide (KA.out.keep hb)
  replace HW := hide (below_step HW.out hb (Nat.le_refl _))
  clear hb HC hcut hbar ea la
  have KK := K0
  have e6 := KK.out.cell 6
  have e7 := KK.out.cell 7
  simp at e6 e7
  have lk := KK.out.lt
  go_wp2_with fail
  refine (HN.out _ HW.out).mono ?_
  rintro e w5 ⟨rfl, hb⟩
  have RL := hide (SlOf.carry (Flat.carried _) RL.out hb hb.size)
  have RC := hide (SlOf.carry (Flat.carried _) RC.out hb hb.size)
  have RB := hide (SlOf.carry (Flat.carried _) RB.out hb hb.size)
  replace K0 := hide (K0.out.keep hb)
  replace KA := hide (KA.out.keep hb)
  replace HW := hide (below_step HW.out hb (Nat.le_refl _))
  clear hb HN e6 e7 lk KK
  have Hnl := hide (show n = (numsOf L).length by rw [numsOf, List.length_map]; exact Hn.out)
  go_wp2_with fail
  refine (cloneI_any Ab (numsOf L) n cb _ RB.out Hnl.out (by omega)).mono ?_
  rintro e w6 ⟨Aq, cq, rfl, hrq, hb⟩
  have RQ := hide hrq
  have h56 := hide hb
  clear hb hrq
  go_wp2_with fail
  refine (compactI_any Aq (numsOf L) n cq _ _ RQ.out (by have := Hnl.out; omega)).mono ?_
  rintro e w7 ⟨Ar, rfl, hrr, hb⟩
  rw [Hcb.out, ← Hnb.out] at hrr ⊢
  have RR := hide (Row.read hrr encInt_len (by omega))
  have h57 := hide (h56.out.trans hb)
  have RL := hide (SlOf.carry (Flat.carried _) RL.out h57.out h57.out.size)
  have RC := hide (SlOf.carry (Flat.carried _) RC.out h57.out h57.out.size)
  have RB := hide (SlOf.carry (Flat.carried _) RB.out h57.out h57.out.size)
  replace K0 := hide (K0.out.keep h57.out)
  replace KA := hide (KA.out.keep h57.out)
  replace HW := hide (below_step HW.out h57.out (Nat.le_refl _))
  clear hb hrr h56 h57 RQ
  go_wp2_with fail
  refine (equalInts_any Ar Al (barsOf L) nb cq cl _ RR.out RL.out Hnb.out (by omega)).mono ?_
  rintro e w8 ⟨rfl, hb⟩
  have RL := hide (SlOf.carry (Flat.carried _) RL.out hb hb.size)
  have RC := hide (SlOf.carry (Flat.carried _) RC.out hb hb.size)
  have RB := hide (SlOf.carry (Flat.carried _) RB.out hb hb.size)
  replace K0 := hide (K0.out.keep hb)
  replace KA := hide (KA.out.keep hb)
  replace HW := hide (below_step HW.out hb (Nat.le_refl _))
  clear hb RR
  go_wp2_with fail
  refine (isSortedI_ok Ab (numsOf L) n cb _ RB.out (Nat.le_refl _) Hnl.out (by omega) Has.out).mono ?_
  rintro e w9 ⟨rfl, hb⟩
  have RL := hide (SlOf.carry (Flat.carried _) RL.out hb hb.size)
  have RC := hide (SlOf.carry (Flat.carried _) RC.out hb hb.size)
  have RB := hide (SlOf.carry (Flat.carried _) RB.out hb hb.size)
  replace K0 := hide (K0.out.keep hb)
  replace KA := hide (KA.out.keep hb)
  replace HW := hide (below_step HW.out hb (Nat.le_refl _))
  clear hb Has
  go_wp2_with fail
  go_loopw [86] (fun iv wr => ∃ k : Nat, k ≤ n ∧ iv = .int .i64 k ∧ Hid (Below w9.heap.size w9 wr)) (fun iv _ => n - (intOf iv).toNat)
  case atStart => exact ⟨0, Nat.zero_le _, rfl, hide (Below.refl _ _)⟩
  case round =>
    obtain ⟨k, hk, rfl, hbr⟩ := hrel
    have hbs := hbr.out.size
    by_cases hlt : k < n
    · have dk : decide ((k : Int) < (n : Int)) = true := by simp; omega
      obtain ⟨p, hp⟩ : ∃ p, L[k]? = some p := ⟨_, List.getElem?_eq_getElem (by rw [← Hn.out]; exact hlt)⟩
      obtain ⟨b1, off1, y, rfl, hbl1, hy, y0, y1, y2, y3, y4, y5⟩ := BoxesAt.get (k := k) (SlOf.carry (Flat.carried _) RC.out hbr.out hbs) (by rw [List.length_map, ← Hn.out]; exact hlt)
      obtain ⟨b2, off2, z, rfl, hbl2, hz, z0⟩ := Ints.get (k := k) (SlOf.carry (Flat.carried _) RB.out hbr.out hbs) (by rw [← Hnl.out]; exact hlt)
      rw [List.getElem?_map, hp] at hy
      rw [numsOf, List.getElem?_map, hp] at hz
      simp only [Option.map_some, Option.some.injEq] at hy hz
      obtain ⟨i, ld, lb, hld, hpb, hlb, hov, hpc⟩ := Hpc.out p (mem_of_get hp)
      rw [hpc] at hy
      rw [hpb] at hz
      subst hy
      subst hz
      have HLi := HL.out i ld hld
      obtain ⟨hp2, hp7⟩ := Hpl.out i ld hld
      have Hany := hide (show someOf (onLeg a (cutOf a lb)) (legsOfPts ld.pts) = true from List.any_eq_true.2 ⟨lb, hlb, onLeg_cut hov⟩)
      have hll : (legsOfPts ld.pts).length ≤ 6 := by rw [legsOfPts_len]; omega
      generalize legsOfPts ld.pts = LG at *
      obtain ⟨ln, hln⟩ : ∃ m, m = LG.length := ⟨_, rfl⟩
      rw [← hln] at HLi hll
      have Hln := hide hln
      obtain ⟨⟨l1, l2, l3⟩, l4, l5, l6⟩ := lb
      simp only [cutOf] at y0 y1 y2 y3 y4 y5 Hany
      have HLi := hide HLi
      have KP := hide (Blk.new wr 63 #[.int .i64 a, .int .i64 l2, .int .i64 l3, .int .i64 a, .int .i64 l5, .int .i64 l6])
      have HWr := hide (below_step HW.out hbr.out (Nat.le_refl _))
      have HWq := hide (HWr.out.alloc HWr.out.size (.cells #[.int .i64 a, .int .i64 l2, .int .i64 l3, .int .i64 a, .int .i64 l5, .int .i64 l6] 63))
      have hbq := hide (hbr.out.alloc hbs (.cells #[.int .i64 a, .int .i64 l2, .int .i64 l3, .int .i64 a, .int .i64 l5, .int .i64 l6] 63))
      have KK := hide ((K0.out.below hbr.out K0.out.lt).alloc (.cells #[.int .i64 a, .int .i64 l2, .int .i64 l3, .int .i64 a, .int .i64 l5, .int .i64 l6] 63))
      have hb2w : b2 < wr.heap.size := by omega
      have z0' : (wr.alloc (.cells #[.int .i64 a, .int .i64 l2, .int .i64 l3, .int .i64 a, .int .i64 l5, .int .i64 l6] 63)).cell? ⟨b2, off2 + k, none⟩ = some (.int .i64 i) := (World.cell?_alloc_lt _ _ ⟨b2, off2 + k, none⟩ hb2w).trans z0
      have hin : b2 < (wr.alloc (.cells #[.int .i64 a, .int .i64 l2, .int .i64 l3, .int .i64 a, .int .i64 l5, .int .i64 l6] 63)).heap.size := by simp; omega
      have e6 := KK.out.cell 6
      have e7 := KK.out.cell 7
      simp at e6 e7
      have lk := KK.out.lt
      have q6 := e6
      have q7 := e7
      clear e6 e7 hp hpb hlb hov hpc hld hln hp2 hp7
      obtain ⟨wq, hwq⟩ : ∃ W, W = wr.alloc (.cells #[.int .i64 a, .int .i64 l2, .int .i64 l3, .int .i64 a, .int .i64 l5, .int .i64 l6] 63) := ⟨_, rfl⟩
      go_wp2_with fail
      rw [← hwq] at KP HWq hbq KK z0' hin q6 q7 lk ⊢
      clear hwq z0 y0 y1 y2 y3 y4 y5
      have HC := hide (fun (W : World) (h : Below wq.heap.size wq W) => show W.cell? ⟨w.heap.size, 6, none⟩ = some (.slice a3 n3 c3) ∧ W.cell? ⟨w.heap.size, 7, none⟩ = some (.slice a4 n4 c4) ∧ W.cell? ⟨b2, off2 + k, none⟩ = some (.int .i64 i) from
        ⟨(h.cell (p := ⟨w.heap.size, 6, none⟩) lk).trans q6, (h.cell (p := ⟨w.heap.size, 7, none⟩) lk).trans q7, (h.cell (p := ⟨b2, off2 + k, none⟩) hin).trans z0'⟩)
      have hS0 := HC.out _ (Below.drew (Below.refl wq.heap.size wq))
      have hBx := Below.drew (Below.refl wq.heap.size wq)
      go_cut [15, 16] from 91 to 102 (fun v15 v16 wx => ∃ (A : Option Addr) (c : Nat), v15 = .slice A ln c ∧ v16 = .int .i64 0 ∧ Hid (BoxesAt wx wx.heap.size A LG) ∧ Hid (Below wq.heap.size wq wx))
      case first =>
        go_region_held3 (fun W => W.cell? ⟨w.heap.size, 6, none⟩ = some (.slice a3 n3 c3) ∧ W.cell? ⟨w.heap.size, 7, none⟩ = some (.slice a4 n4 c4) ∧ W.cell? ⟨b2, off2 + k, none⟩ = some (.int .i64 i))
          (first | (with_reducible assumption) | go_keep)
          (first | (go_at_call 18; (with_reducible refine (HLi.out _ (below_step HWq.out hBx (Nat.le_refl _))).mono ?_); rintro e wz ⟨A7, c7, rfl, hlg, hbz⟩; have hBx := below_step hBx hbz (Nat.le_refl _); have hS' := HC.out _ hBx; have HLG := hide hlg))
        all_goals
          go_wp2_with fail
          go_meet
          exact ⟨_, _, rfl, rfl, HLG, hide hBx⟩
      case rest =>
        obtain ⟨A7, c7, rfl, rfl, HLG, hbx⟩ := hcut
        rename World => wx
        have KPx := hide (KP.out.keep hbx.out)
        have hbx9 := hide (hbq.out.trans (hbx.out.mono hbq.out.size))
        have KAx := hide (KA.out.below hbx9.out KA.out.lt)
        clear hbx hbq HC hS0 hBx q6 q7 lk KK hin z0' HLi HWq HWr KP
        have hct := containsFuncBoxC_any A7 LG ln c7 32 #[.pointer (some ⟨w.heap.size + 1, 0, none⟩), .pointer (some ⟨wr.heap.size, 0, none⟩)] (onLeg a (cutOf a ⟨(l1, l2, l3), l4, l5, l6⟩)) wx HLG.out (Nat.le_refl _) Hln.out (by omega) Tryz.call32 (fun z W2 _ hb2 => hasLeg_any z (cutOf a ⟨(l1, l2, l3), l4, l5, l6⟩) a _ _ W2 (by have h9 := (KAx.out.keep hb2).cell 0; simpa using h9) (KPx.out.keep hb2))
        rw [show someOf (onLeg a (cutOf a ⟨(l1, l2, l3), l4, l5, l6⟩)) LG = true from Hany.out] at hct
        have HCt := hide hct
        clear hct Hany HLG
        go_wp2_with fail
        refine HCt.out.mono ?_
        rintro e wy ⟨rfl, hb⟩
        have KPy := hide (KPx.out.keep hb)
        have hby := hide (hbx9.out.trans (hb.mono hbx9.out.size))
        have KAy := hide (KAx.out.keep hb)
        have p0 := KPy.out.cell 0
        have p3 := KPy.out.cell 3
        have ea := KAy.out.cell 0
        simp at p0 p3 ea
        have la := KAy.out.lt
        have lp := KPy.out.lt
        clear hb HCt KPx KAx hbx9
        go_wp2_with fail
        go_roundw
        case rel => exact ⟨k + 1, by omega, by go_num, hby⟩
        case measure => simp [intOf]; omega
    · obtain rfl : k = n := by omega
      have dk : decide ((k : Int) < (k : Int)) = false := by simp
      have RL := hide (SlOf.carry (Flat.carried _) RL.out hbr.out hbs)
      have K0 := hide (K0.out.keep hbr.out)
      have KA := hide (KA.out.keep hbr.out)
      have HW := hide (below_step HW.out hbr.out (Nat.le_refl _))
      clear hbr hbs RC RB
      rename World => wz
      go_wp2_with fail
      go_loopw [128] (fun iv wr => ∃ q : Nat, q ≤ N ∧ iv = .int .i64 q ∧ Hid (Below wz.heap.size wz wr)) (fun iv _ => N - (intOf iv).toNat)
      case atStart => exact ⟨0, Nat.zero_le _, rfl, hide (Below.refl _ _)⟩
      case round =>
        obtain ⟨q, hq, rfl, hbr⟩ := hrel
        have hbs := hbr.out.size
        by_cases hlt2 : q < N
        · have dq : decide ((q : Int) < (N : Int)) = true := by simp; omega
          obtain ⟨ld, hld⟩ : ∃ ld, LA[q]? = some ld := ⟨_, List.getElem?_eq_getElem (by rw [← HNl.out]; exact hlt2)⟩
          have HHq := HH.out q ld hld
          have hov := hull_over a (Hpl.out q ld hld).1
          obtain ⟨H, hH⟩ : ∃ H, H = hullOf (ld.pts.map ptBox) := ⟨_, rfl⟩
          rw [← hH] at HHq hov
          obtain ⟨⟨x1, x2, x3⟩, x4, x5, x6⟩ := H
          simp only [bx] at HHq
          have HHq := hide HHq
          obtain ⟨h1, hh1⟩ : ∃ t, decide (x1 ≤ a) = t := ⟨_, rfl⟩
          obtain ⟨h2, hh2⟩ : ∃ t, decide (a ≤ x4) = t := ⟨_, rfl⟩
          have hcI : (barsOf L).any (fun z => (q : Int) == z) = (h1 && h2) := by
            rw [← hh1, ← hh2, show (decide (x1 ≤ a) && decide (a ≤ x4)) = (legsOfPts ld.pts).any (overX a) from hov, Bool.eq_iff_iff, List.any_eq_true]
            constructor
            · rintro ⟨z, hz, he⟩
              have he' : (q : Int) = z := by simpa using he
              subst he'
              obtain ⟨ld2, hl2, ha2⟩ := (Hme.out q).1 hz
              rw [hld] at hl2
              injection hl2 with hl2
              subst hl2
              exact ha2
            · intro h9
              exact ⟨_, (Hme.out q).2 ⟨ld, hld, h9⟩, by simp⟩
          have HCt := hide (fun (W : World) (hz : Below wz.heap.size wz W) => show Calls Tryz.prog 34 #[.slice Al nb cl, .int .i64 q] W fun e w' => e = .returned (.bool (h1 && h2)) ∧ W = w' from (containsI_any Al (barsOf L) nb cl q W (SlOf.carry (Flat.carried _) RL.out hz (Nat.le_refl _)) Hnb.out (by omega)).mono (fun e w' hh => by rw [hcI] at hh; exact hh))
          have HWr := hide (below_step HW.out hbr.out (Nat.le_refl _))
          have KK := hide (K0.out.below hbr.out K0.out.lt)
          clear hov hH hcI hld
          have e6 := KK.out.cell 6
          have e7 := KK.out.cell 7
          simp at e6 e7
          have lk := KK.out.lt
          go_wp2_with fail
          refine (HHq.out _ HWr.out).mono ?_
          rintro e wy ⟨rfl, hb⟩
          have hby := hide (hbr.out.trans (hb.mono hbs))
          have hbv := hide (hby.out.alloc hby.out.size (.cells #[.int .i64 x1, .int .i64 x2, .int .i64 x3, .int .i64 x4, .int .i64 x5, .int .i64 x6] 63))
          have KB := hide (Blk.new wy 63 #[.int .i64 x1, .int .i64 x2, .int .i64 x3, .int .i64 x4, .int .i64 x5, .int .i64 x6])
          have KAv := hide ((KA.out.below hby.out KA.out.lt).alloc (.cells #[.int .i64 x1, .int .i64 x2, .int .i64 x3, .int .i64 x4, .int .i64 x5, .int .i64 x6] 63))
          clear hb HHq e6 e7 lk KK hbr HWr hby
          obtain ⟨wv, hwv⟩ : ∃ W, W = wy.alloc (.cells #[.int .i64 x1, .int .i64 x2, .int .i64 x3, .int .i64 x4, .int .i64 x5, .int .i64 x6] 63) := ⟨_, rfl⟩
          go_wp2_with fail
          rw [← hwv] at hbv KB KAv ⊢
          clear hwv
          have b0 := KB.out.cell 0
          have b3 := KB.out.cell 3
          have ea := KAv.out.cell 0
          simp at b0 b3 ea
          have la := KAv.out.lt
          have lb := KB.out.lt
          go_cut [159] from 140 to 159 (fun v wx => v = .bool false ∧ Hid (Below wv.heap.size wv wx))
          case first =>
            cases h1 <;> cases h2
            all_goals
              simp only [Bool.true_and, Bool.false_and] at HCt
              go_quiet ((go_at_call 34; exact quiet_eq (HCt.out _ (below_drewN' hbv.out _))))
              go_wp2_with fail
              go_meet
              exact ⟨rfl, hide (below_drewN' (Below.refl _ _) _)⟩
          case rest =>
            obtain ⟨rfl, hbx⟩ := hcut
            have hb9 := hide (hbv.out.trans (hbx.out.mono hbv.out.size))
            clear hbx hbv HCt b0 b3 ea la lb
            go_wp2_with fail
            go_roundw
            case rel => exact ⟨q + 1, by omega, by go_num, hb9⟩
            case measure => simp [intOf]; omega
        · obtain rfl : q = N := by omega
          have dq : decide ((q : Int) < (q : Int)) = false := by simp
          have HB := hide (below_step HW.out hbr.out (Nat.le_refl _))
          clear hbr
          go_wp2_with fail
          go_ret
          exact ⟨rfl, HB.out⟩
end Go.Proofs.YtmcjpdlkkpnhfaaGreat
