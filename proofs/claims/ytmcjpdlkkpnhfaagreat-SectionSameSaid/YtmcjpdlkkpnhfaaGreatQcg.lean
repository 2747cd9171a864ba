/- The law SectionSame: between neighbouring ends of legs the steel of sections is the same. -/
import Derived.Test.YtmcjpdlkkpnhfaaGreatQbt
import Derived.Test.YtmcjpdlkkpnhfaaGreatQbi
import Derived.Test.YtmcjpdlkkpnhfaaGreatQbf
import Derived.Test.YtmcjpdlkkpnhfaaGreatQbj
import Derived.Deep.CutRange
namespace Go.Proofs.YtmcjpdlkkpnhfaaGreat
open Go.RowKit

set_option maxHeartbeats 400000 in
theorem sameMark_any (x : BarD) (A : Option Addr) (c : Nat) (m : ByteArray) (g : Nat) (w : World) (hg : w.cell? ⟨g, 0, none⟩ = some (.string m)) :
    Calls Tryz.prog 20 #[.agg #[.string x.mark, .int .i64 x.size, .int .i64 x.count, .int .i64 x.code, .slice A x.dims.length c], .pointer (some ⟨g, 0, none⟩)] w fun e w' => e = .returned (.bool (markIs m x)) ∧ Below w.heap.size w w' := by
  have hlt : g < w.heap.size := World.block_lt_of_cell? w _ hg
  have h1 := fun o => (World.cell?_alloc_lt w o ⟨g, 0, none⟩ hlt).trans hg
  go_enter Tryz.func20, Tryz.ntmps20
  go_wp2_with fail
  go_ret
  exact ⟨ret_bool (by rfl), below_new _ _⟩
theorem sched_ix {l : List BarD} : ∀ (r : List BarD) (k : Nat), schedFrom l k r = true → ∀ j y, r[j]? = some y → idx (markIs y.mark) l = ((k + j : Nat) : Int) := by
  intro r
  induction r with
  | nil => intro k _ j y h; simp at h
  | cons x r ih =>
    intro k h j y hj
    simp only [schedFrom, Bool.and_eq_true, decide_eq_true_eq] at h
    cases j with
    | zero =>
      simp only [List.getElem?_cons_zero, Option.some.injEq] at hj
      subst hj
      simpa using h.1.2
    | succ j =>
      rw [ih (k + 1) h.2 j y (by simpa using hj)]
      congr 1
      omega
theorem any_step {α : Type} {p : α → Bool} {l : List α} {k : Nat} {y : α} (h : l[k]? = some y) : (l.take (k + 1)).any p = ((l.take k).any p || p y) := by
  rw [take_snoc' h, List.any_append]
  simp
theorem all_step {α : Type} {p : α → Bool} {l : List α} {k : Nat} {y : α} (h : l[k]? = some y) : (l.take (k + 1)).all p = ((l.take k).all p && p y) := by
  rw [take_snoc' h, List.all_append]
  simp
theorem sum_step {α : Type} {f : α → Int} {l : List α} {k : Nat} {y : α} (h : l[k]? = some y) : ((l.take (k + 1)).map f).sum = ((l.take k).map f).sum + f y := by
  rw [take_snoc' h, List.map_append, List.sum_append]
  simp
theorem allOf_range : ∀ l : List LaidD, (∀ x ∈ l, isSize x.bar.size = true ∧ x.pts.length ≤ 7) → 0 ≤ allOf l ∧ allOf l ≤ 1200000 * (l.length : Int) := by
  refine snoc_ind ?_ ?_
  · intro _; simp [allOf]
  · intro l x ih h
    have h1 := ih (fun y hy => h y (by simp [hy]))
    obtain ⟨h2, h3⟩ := h x (by simp)
    have h4 := area_range h2
    have h5 : (legsOfPts x.pts).length ≤ 6 := by rw [legsOfPts_len]; omega
    have e : allOf (l ++ [x]) = allOf l + allLegs x := by simp [allOf]
    have h6 : 0 ≤ allLegs x := Int.mul_nonneg (by omega) h4.1
    have h7 : allLegs x ≤ 6 * 200000 := Int.mul_le_mul (by omega) h4.2 h4.1 (by omega)
    rw [e, List.length_append, List.length_singleton]
    push_cast
    omega
set_option maxHeartbeats 16000000 in
set_option maxRecDepth 100000 in
theorem sectionSame_law (x : DetD) (s : DetS) (a n : Int) (w : World) {B : Nat} (h : DetAt w B x s) (hB : B ≤ w.heap.size) (hl : DetLen x s) :
    Calls Tryz.prog 4 #[detV x s, .int .i64 a, .int .i64 n] w fun e w' => e = .returned (.bool true) ∧ Below w.heap.size w w' := by
  have HR := hide (fun (W : World) (hz : Below w.heap.size w W) => ready_any x s W (h.carry (hz.mono hB) (Nat.le_refl _)) (Nat.le_trans hB hz.size) hl)
  have HS := hide (fun (f : Few x s) (q : Int) (he : secErr x q = 0) (W : World) (hz : Below w.heap.size w W) => sectSteel_ok x s q W (h.carry (hz.mono hB) (Nat.le_refl _)) (Nat.le_trans hB hz.size) (few_fit hl f) he)
  have HCo := hide (fun (f : Few x s) (hok : laidOk x.bars x.runs = true) (W : World) (hz : Below w.heap.size w W) => laidCount_ok s.a3 x.bars s.n3 s.c3 s.a4 x.runs s.n4 s.c4 W (h.h3.carry (hz.mono hB) (Nat.le_refl _)) (h.h4.carry (Flat.carried _) (hz.mono hB) (Nat.le_refl _)) (Nat.le_trans hB hz.size) hl.l3 hl.l4 (few_fit hl f).m3 (few_fit hl f).m4 f.tame hok)
  have HMk := hide (fun (f : Few x s) (hok : laidOk x.bars x.runs = true) (i : Nat) (ld : LaidD) (hi : (laidAll x.bars x.runs)[i]? = some ld) (W : World) (hz : Below w.heap.size w W) => laidMark_ok s.a3 x.bars s.n3 s.c3 s.a4 x.runs s.n4 s.c4 W (h.h3.carry (hz.mono hB) (Nat.le_refl _)) (h.h4.carry (Flat.carried _) (hz.mono hB) (Nat.le_refl _)) (Nat.le_trans hB hz.size) hl.l3 hl.l4 (few_fit hl f).m3 (few_fit hl f).m4 f.tame hok (i : Int) ld.bar.mark (by omega) (by have := (laidOk_len hok).2; have := lt_of_get hi; omega) (laidAll_mark x.runs i ld (laidOk_mem hok).2.2 hi))
  have HLg := hide (fun (f : Few x s) (hok : laidOk x.bars x.runs = true) (i : Nat) (ld : LaidD) (hi : (laidAll x.bars x.runs)[i]? = some ld) (W : World) (hz : Below w.heap.size w W) => laidLegs_ok s.a3 s.a4 x.bars x.runs s.n3 s.c3 s.n4 s.c4 i ld W (h.h3.carry (hz.mono hB) (Nat.le_refl _)) (h.h4.carry (Flat.carried _) (hz.mono hB) (Nat.le_refl _)) (Nat.le_trans hB hz.size) hl.l3 hl.l4 (few_fit hl f).m3 (few_fit hl f).m4 f.tame hok hi)
  have HIx := hide (fun (f : Few x s) (m : ByteArray) (g : Nat) (W : World) (hz : Below w.heap.size w W) (hg : W.cell? ⟨g, 0, none⟩ = some (.string m)) => indexFuncBar_any s.a3 x.bars s.n3 s.c3 20 #[.pointer (some ⟨g, 0, none⟩)] (markIs m) W (h.h3.carry (hz.mono hB) (Nat.le_refl _)) (Nat.le_trans hB hz.size) hl.l3 (few_fit hl f).m3 Tryz.call20 (fun y A' c' W2 _ hb2 _ => sameMark_any y A' c' m g W2 ((hb2.cell (p := ⟨g, 0, none⟩) (lt_of_cell hg)).trans hg)))
  have Hix := hide (fun (hok : laidOk x.bars x.runs = true) (i : Nat) (ld : LaidD) (hi : (laidAll x.bars x.runs)[i]? = some ld) => show ∃ j : Nat, x.bars[j]? = some ld.bar ∧ idx (markIs ld.bar.mark) x.bars = (j : Int) ∧ isSize ld.bar.size = true ∧ ld.pts.length ≤ 7 by
    have hm := laid_bar hok hi
    have hsz := bar_size hok hm
    obtain ⟨j, hj, hjb⟩ := List.getElem_of_mem hm
    have hget : x.bars[j]? = some ld.bar := by rw [List.getElem?_eq_getElem hj, hjb]
    have hs := laidOk_sched hok
    simp only [schedOk, Bool.and_eq_true] at hs
    have h9 := sched_ix x.bars 0 hs.2 j _ hget
    rw [Nat.zero_add] at h9
    exact ⟨j, hget, h9, hsz, (laid_near x.runs i ld (laidOk_mem hok).2.2 hi).2.2⟩)
  have H3 := hide (fun (W : World) (hz : Below w.heap.size w W) => h.h3.carry (hz.mono hB) (Nat.le_refl B))
  have L3 := hide hl.l3
  have HBw := hide hB
  have Hi := hide (show (Tryz.prog.info? 34).map (·.size) = some 19 by kernel_rfl)
  have K0 := hide (Blk.new w 34 (detCells x.mem x.rule s))
  have HW := hide (below_new w (.cells (detCells x.mem x.rule s) 34))
  clear h hB hl
  go_enter Tryz.func4, Tryz.ntmps4
  go_wp2_with fail
  refine (awake_any _).mono ?_
  rintro e w1 ⟨rfl, hb⟩
  replace K0 := hide (K0.out.keep hb)
  replace HW := hide (below_step HW.out hb (Nat.le_refl _))
  clear hb
  go_wp2_with (refine wpList_load_row rfl 34 (.tmp 3) rfl w.heap.size rfl 34 _ (0, 0) _ K0.out Tryz.underlying34 rfl Hi.out ?_)
  refine (HR.out _ HW.out).mono ?_
  rintro e w2 ⟨⟨t, rfl, ht⟩, hb⟩
  have Ht := hide ht
  replace K0 := hide (K0.out.keep hb)
  replace HW := hide (below_step HW.out hb (Nat.le_refl _))
  clear hb
  clear ht HR
  cases t
  · go_wp2_with fail
    go_ret
    exact ⟨rfl, HW.out⟩
  obtain ⟨hf, hdet⟩ := Ht.out rfl
  have hok := (detOk_parts hdet).2.1
  have hways : (decide (a < -1048576) = true) ∨ (decide (a < -1048576) = false ∧ decide (1048576 < a) = true) ∨ (decide (a < -1048576) = false ∧ decide (1048576 < a) = false ∧ decide (n < 0) = true) ∨ (decide (a < -1048576) = false ∧ decide (1048576 < a) = false ∧ decide (n < 0) = false ∧ IntKind.i64.wrap (1048576 - a) = 1048576 - a ∧ decide (1048576 - a < n) = true) ∨ (decide (a < -1048576) = false ∧ decide (1048576 < a) = false ∧ decide (n < 0) = false ∧ IntKind.i64.wrap (1048576 - a) = 1048576 - a ∧ decide (1048576 - a < n) = false ∧ -1048576 ≤ a ∧ a ≤ 1048576 ∧ 0 ≤ n ∧ n ≤ 1048576 - a) := by
    simp only [decide_eq_true_eq, decide_eq_false_iff_not]
    by_cases g1 : a < -1048576
    · exact .inl g1
    by_cases g2 : 1048576 < a
    · exact .inr (.inl ⟨g1, g2⟩)
    by_cases g3 : n < 0
    · exact .inr (.inr (.inl ⟨g1, g2, g3⟩))
    have g5 : IntKind.i64.wrap (1048576 - a) = 1048576 - a := IntWalk.i64_in _ (by omega)
    by_cases g4 : 1048576 - a < n
    · exact .inr (.inr (.inr (.inl ⟨g1, g2, g3, g5, g4⟩)))
    · exact .inr (.inr (.inr (.inr ⟨g1, g2, g3, g5, g4, by omega, by omega, by omega, by omega⟩)))
  clear Ht
  rcases hways with d1 | ⟨d1, d2⟩ | ⟨d1, d2, d3⟩ | ⟨d1, d2, d3, d4, d5⟩ | ⟨d1, d2, d3, d4, d5, g1, g2, g3, g4⟩
  · go_wp2_with fail
    go_ret
    exact ⟨rfl, HW.out⟩
  · go_wp2_with fail
    go_ret
    exact ⟨rfl, HW.out⟩
  · go_wp2_with fail
    go_ret
    exact ⟨rfl, HW.out⟩
  · go_wp2_with fail
    go_ret
    exact ⟨rfl, HW.out⟩
  have he1 : secErr x a = 0 := by rw [secErr, if_neg (by rw [hdet]; decide), if_neg (by omega)]
  have he2 : secErr x (a + n) = 0 := by rw [secErr, if_neg (by rw [hdet]; decide), if_neg (by omega)]
  have HS1 := hide (HS.out hf a he1)
  have HS2 := hide (HS.out hf (a + n) he2)
  have HC := hide (HCo.out hf hok)
  have HM := hide (HMk.out hf hok)
  have HL := hide (HLg.out hf hok)
  have HI := hide (HIx.out hf)
  have HX := hide (Hix.out hok)
  obtain ⟨hN, hN2⟩ := laidOk_len hok
  rw [← hN] at HC
  have Hst := hide (steel_all a (laidAll x.bars x.runs))
  have Hsa := hide (fun (h9 : endsOf a n (laidAll x.bars x.runs) = false) => same_steel g3 h9)
  have Hby := hide (fun (h9 : beyondOf a (laidAll x.bars x.runs) = true) => beyond_steel h9)
  have Har := hide (fun (k : Nat) => allOf_range ((laidAll x.bars x.runs).take k) (fun y hy => by
    obtain ⟨j, hj, hjy⟩ := List.getElem_of_mem (List.mem_of_mem_take hy)
    obtain ⟨_, _, _, h5, h6⟩ := Hix.out hok j y (by rw [List.getElem?_eq_getElem hj, hjy])
    exact ⟨h5, h6⟩))
  obtain ⟨S1, hS1⟩ : ∃ q, q = steelOf (cutsOf x a) := ⟨_, rfl⟩
  obtain ⟨S2, hS2⟩ : ∃ q, q = steelOf (cutsOf x (a + n)) := ⟨_, rfl⟩
  have hT1 : steelOf (piecesTo a (laidAll x.bars x.runs)) = S1 := hS1.symm
  have hT2 : steelOf (piecesTo (a + n) (laidAll x.bars x.runs)) = S2 := hS2.symm
  rw [hT1] at Hst Hsa Hby
  rw [hT2] at Hsa
  rw [← hS1] at HS1
  rw [← hS2] at HS2
  have hs0 := Hst.out.1
  clear HS HCo HMk HLg HIx Hix he1 he2 hf hdet hok hS1 hS2 hT1 hT2 hN d1 d2 d3 d4 d5
  generalize laidAll x.bars x.runs = LA at *
  obtain ⟨N, hNN⟩ : ∃ N, N = LA.length := ⟨_, rfl⟩
  rw [← hNN] at HC hN2
  have HN := hide hNN
  clear hNN
  obtain ⟨mem, bars, runs, laps, dems, rule⟩ := x
  obtain ⟨a1, n1, c1, a2, n2, c2, a3, n3, c3, a4, n4, c4, a5, n5, c5, a6, n6, c6⟩ := s
  obtain ⟨name, boxes, holes, cover, agg, poker⟩ := mem
  obtain ⟨r1, r2, r3, r4, r5, r6, r7, r8, r9⟩ := rule
  simp only [detCells] at K0
  simp only at HS1 HS2 HC HM HL HI HX H3 L3
  have z1 : IntKind.i64.wrap (a + n) = a + n := IntWalk.i64_in _ (by omega)
  go_wp2_with (refine wpList_load_row rfl 34 (.tmp 3) rfl w.heap.size rfl 34 _ (0, 0) _ K0.out Tryz.underlying34 rfl Hi.out ?_)
  refine (HS1.out _ HW.out).mono ?_
  rintro e w3 ⟨rfl, hb⟩
  replace K0 := hide (K0.out.keep hb)
  replace HW := hide (below_step HW.out hb (Nat.le_refl _))
  clear hb
  clear HS1
  go_wp2_with (refine wpList_load_row rfl 34 (.tmp 3) rfl w.heap.size rfl 34 _ (0, 0) _ K0.out Tryz.underlying34 rfl Hi.out ?_)
  refine (HS2.out _ HW.out).mono ?_
  rintro e w4 ⟨rfl, hb⟩
  replace K0 := hide (K0.out.keep hb)
  replace HW := hide (below_step HW.out hb (Nat.le_refl _))
  clear hb
  clear HS2
  have KK := K0
  have e6 := KK.out.cell 6
  have e7 := KK.out.cell 7
  simp at e6 e7
  have lk := KK.out.lt
  go_wp2_with fail
  refine (HC.out _ HW.out).mono ?_
  rintro e w5 ⟨rfl, hb⟩
  replace K0 := hide (K0.out.keep hb)
  replace HW := hide (below_step HW.out hb (Nat.le_refl _))
  clear hb
  clear HC e6 e7 lk KK
  have t0 : decide (S1 < 0) = false := by simp; omega
  go_wp2_with fail
  go_loopw [13, 14, 15, 86] (fun ve vb va iv wr => ∃ q : Nat, q ≤ N ∧ iv = .int .i64 q ∧ (∃ (te tb : Bool) (ta : Int), ve = .bool te ∧ vb = .bool tb ∧ va = .int .i64 ta ∧ Hid (te = endsOf a n (LA.take q)) ∧ Hid (tb = beyondOf a (LA.take q)) ∧ Hid (ta = allOf (LA.take q))) ∧ Hid (Below w5.heap.size w5 wr)) (fun _ _ _ iv _ => N - (intOf iv).toNat)
  case atStart => exact ⟨0, Nat.zero_le _, rfl, ⟨false, true, 0, rfl, rfl, rfl, hide rfl, hide rfl, hide rfl⟩, hide (Below.refl _ _)⟩
  case round =>
    rename World => wo
    obtain ⟨q, hq, rfl, ⟨te, tb, ta, rfl, rfl, rfl, hte, htb, hta⟩, hbr⟩ := hrel
    have hrg := Har.out q
    rw [← hta.out, List.length_take] at hrg
    by_cases hlt : q < N
    · have dq : decide ((q : Int) < (N : Int)) = true := by simp; omega
      obtain ⟨ld, hld⟩ : ∃ ld, LA[q]? = some ld := ⟨_, List.getElem?_eq_getElem (by rw [← HN.out]; exact hlt)⟩
      obtain ⟨kb, hkb, hidx, hsz, hpl⟩ := HX.out q ld hld
      have har := area_range hsz
      have hll : (legsOfPts ld.pts).length ≤ 6 := by rw [legsOfPts_len]; omega
      have HMq := hide (HM.out q ld hld)
      have HLq := hide (HL.out q ld hld)
      have HIq := HI.out ld.bar.mark
      rw [hidx] at HIq
      have HIq := hide HIq
      have HAr := hide (fun W => area_ok ld.bar.size W hsz)
      have Hte := hide (show endsOf a n (LA.take (q + 1)) = (te || (legsOfPts ld.pts).any (endIn a n)) by rw [endsOf, any_step hld, hte.out]; rfl)
      have Htb := hide (show beyondOf a (LA.take (q + 1)) = (tb && (legsOfPts ld.pts).all (missB a)) by rw [beyondOf, all_step hld, htb.out]; rfl)
      have Hta := hide (show allOf (LA.take (q + 1)) = ta + ((legsOfPts ld.pts).length : Int) * areaOf ld.bar.size by rw [allOf, sum_step hld, hta.out]; rfl)
      have HWo := hide (below_step HW.out hbr.out (Nat.le_refl _))
      have KK := hide (K0.out.below hbr.out K0.out.lt)
      have e6 := KK.out.cell 6
      have e7 := KK.out.cell 7
      simp at e6 e7
      have lk := KK.out.lt
      obtain ⟨⟨mk, sz, ct, cd, dims⟩, pts⟩ := ld
      simp only at HMq HLq HIq HAr Hte Htb Hta har hll hkb
      generalize areaOf sz = ar at *
      generalize legsOfPts pts = LG at *
      obtain ⟨ln, hln⟩ : ∃ m, m = LG.length := ⟨_, rfl⟩
      rw [← hln] at HLq Hta hll
      have Hln := hide hln
      have Hkb := hide hkb
      clear hld hidx hsz hpl hln hkb
      go_wp2_with fail
      refine (HMq.out _ HWo.out).mono ?_
      rintro e w6 ⟨rfl, hb⟩
      have hs5 := hbr.out.size
      have hbr6 := hide ((hbr.out.trans (hb.mono hs5)).alloc (Nat.le_trans hs5 hb.size) (.cells #[.string mk] 9))
      have KK := hide ((KK.out.keep hb).alloc (.cells #[.string mk] 9))
      have KS := hide (Blk.new w6 9 #[.string mk])
      have HW6 := hide (below_step HW.out hbr6.out (Nat.le_refl _))
      clear hb HMq e6 e7 lk HWo
      have e6 := KK.out.cell 6
      have e7 := KK.out.cell 7
      simp at e6 e7
      have lk := KK.out.lt
      go_wp2_with fail
      refine (HLq.out _ HW6.out).mono ?_
      rintro e w7 ⟨AL, cL, rfl, hlg, hb⟩
      have HLG := hide hlg
      have hbr7 := hide (hbr6.out.trans (hb.mono hbr6.out.size))
      have KK := hide (KK.out.keep hb)
      have KS := hide (KS.out.keep hb)
      have HW7 := hide (below_step HW.out hbr7.out (Nat.le_refl _))
      clear hb HLq e6 e7 lk HW6 hlg hbr6
      have e6 := KK.out.cell 6
      have e7 := KK.out.cell 7
      simp at e6 e7
      have lk := KK.out.lt
      go_wp2_with fail
      refine (HIq.out w6.heap.size _ HW7.out (by have h9 := KS.out.cell 0; simpa using h9)).mono ?_
      rintro e w8 ⟨rfl, hb⟩
      have HLG := hide (SlOf.carry (Flat.carried _) HLG.out hb hb.size)
      have hbr8 := hide (hbr7.out.trans (hb.mono hbr7.out.size))
      have KK := hide (KK.out.keep hb)
      have HW8 := hide (below_step HW.out hbr8.out (Nat.le_refl _))
      obtain ⟨bb, ob, y, A', c', rfl, hbl, hy, _, f0, f1, f2, f3, f4⟩ := BarsAt.get (k := kb) (H3.out _ HW8.out) (lt_of_get Hkb.out)
      rw [Hkb.out] at hy
      injection hy with hy
      subst hy
      have hbw : bb < w.heap.size := Nat.lt_of_lt_of_le hbl HBw.out
      have hkn : kb < n3 := by rw [L3.out]; exact lt_of_get Hkb.out
      have hbw8 : bb < w8.heap.size := Nat.lt_of_lt_of_le hbw (HW8.out.size)
      clear hb HIq e6 e7 lk HW7 KS hbr7 f0 f2 f3 f4 hbl
      have e6 := KK.out.cell 6
      have e7 := KK.out.cell 7
      simp at e6 e7
      have lk := KK.out.lt
      go_wp2_with fail
      refine (HAr.out _).mono ?_
      rintro e w9 ⟨rfl, hb⟩
      have HLG := hide (SlOf.carry (Flat.carried _) HLG.out hb hb.size)
      have hbr9 := hide (hbr8.out.trans (hb.mono hbr8.out.size))
      clear hb HAr e6 e7 lk HW8 hbr8 f1 KK hbw8
      go_wp2_with fail
      have hjr : ∀ j : Nat, j ≤ ln → 0 ≤ (j : Int) * ar ∧ (j : Int) * ar ≤ 6 * 200000 := fun j h9 => ⟨Int.mul_nonneg (by omega) har.1, Int.mul_le_mul (by omega) har.2 har.1 (by omega)⟩
      have Hjr := hide hjr
      clear hjr
      go_loopw [13, 14, 15, 135] (fun ve vb va jv wr => ∃ j : Nat, j ≤ ln ∧ jv = .int .i64 j ∧ (∃ (ue ub : Bool) (tc : Int), ve = .bool ue ∧ vb = .bool ub ∧ va = .int .i64 tc ∧ Hid (ue = (te || (LG.take j).any (endIn a n))) ∧ Hid (ub = (tb && (LG.take j).all (missB a))) ∧ Hid (tc = ta + (j : Int) * ar)) ∧ Hid (Below w9.heap.size w9 wr)) (fun _ _ _ jv _ => ln - (intOf jv).toNat)
      case atStart => exact ⟨0, Nat.zero_le _, rfl, ⟨te, tb, ta, rfl, rfl, rfl, hide (by simp), hide (by simp), hide (by simp)⟩, hide (Below.refl _ _)⟩
      case round =>
        obtain ⟨j, hj, rfl, ⟨ue, ub, tc, rfl, rfl, rfl, hue, hub, htc⟩, hbi⟩ := hrel
        by_cases hlj : j < ln
        · have dj : decide ((j : Int) < (ln : Int)) = true := by simp; omega
          obtain ⟨bq, oq, z, rfl, _, hz, f0, f1, f2, f3, f4, f5⟩ := BoxesAt.get (k := j) (SlOf.carry (Flat.carried _) HLG.out hbi.out hbi.out.size) (by rw [← Hln.out]; exact hlj)
          have Hue := hide (any_step (p := endIn a n) hz)
          have Hub := hide (all_step (p := missB a) hz)
          have hjr := Hjr.out j hj
          have htr := htc.out
          have Htc := hide (show tc + ar = ta + ((j + 1 : Nat) : Int) * ar by rw [htc.out]; push_cast; rw [Int.add_mul]; omega)
          have z2 : IntKind.i64.wrap (tc + ar) = tc + ar := IntWalk.i64_in _ (by omega)
          obtain ⟨⟨x1, x2, x3⟩, x4, x5, x6⟩ := z
          obtain ⟨d1, hd1⟩ : ∃ d, decide (a < x1) = d := ⟨_, rfl⟩
          obtain ⟨d2, hd2⟩ : ∃ d, decide (x1 ≤ a + n) = d := ⟨_, rfl⟩
          obtain ⟨d3, hd3⟩ : ∃ d, decide (a < x4) = d := ⟨_, rfl⟩
          obtain ⟨d4, hd4⟩ : ∃ d, decide (x4 ≤ a + n) = d := ⟨_, rfl⟩
          have hd5 : decide (x4 ≤ a) = !d3 := by rw [← hd3, Bool.eq_iff_iff]; simp
          have Hei := hide (show endIn a n ⟨(x1, x2, x3), x4, x5, x6⟩ = ((d1 && d2) || (d3 && d4)) by rw [← hd1, ← hd2, ← hd3, ← hd4]; rfl)
          have Hmi := hide (show missB a ⟨(x1, x2, x3), x4, x5, x6⟩ = (d1 || !d3) by rw [← hd5, ← hd1]; rfl)
          have Hbi := hide (hbi.out.alloc hbi.out.size (.cells #[.int .i64 x1, .int .i64 x2, .int .i64 x3, .int .i64 x4, .int .i64 x5, .int .i64 x6] 63))
          clear hz hbi htr hjr
          cases ue
          · cases ub
            all_goals
              cases d1
              · skip
                cases d3
                · skip
                  simp only [Bool.not_false] at hd5
                  go_wp2_with fail
                  go_roundw
                  case rel => exact ⟨j + 1, by omega, by go_num, ⟨_, _, _, rfl, rfl, rfl, hide (by rw [Hue.out, ← Bool.or_assoc, ← hue.out, Hei.out]; rfl), hide (by rw [Hub.out, ← Bool.and_assoc, ← hub.out, Hmi.out]; rfl), Htc⟩, Hbi⟩
                  case measure => simp [intOf]; omega
                · simp only [Bool.not_true] at hd5
                  cases d4
                  · skip
                    go_wp2_with fail
                    go_roundw
                    case rel => exact ⟨j + 1, by omega, by go_num, ⟨_, _, _, rfl, rfl, rfl, hide (by rw [Hue.out, ← Bool.or_assoc, ← hue.out, Hei.out]; rfl), hide (by rw [Hub.out, ← Bool.and_assoc, ← hub.out, Hmi.out]; rfl), Htc⟩, Hbi⟩
                    case measure => simp [intOf]; omega
                  · skip
                    go_wp2_with fail
                    go_roundw
                    case rel => exact ⟨j + 1, by omega, by go_num, ⟨_, _, _, rfl, rfl, rfl, hide (by rw [Hue.out, ← Bool.or_assoc, ← hue.out, Hei.out]; rfl), hide (by rw [Hub.out, ← Bool.and_assoc, ← hub.out, Hmi.out]; rfl), Htc⟩, Hbi⟩
                    case measure => simp [intOf]; omega
              · cases d2
                · skip
                  cases d3
                  · skip
                    simp only [Bool.not_false] at hd5
                    go_wp2_with fail
                    go_roundw
                    case rel => exact ⟨j + 1, by omega, by go_num, ⟨_, _, _, rfl, rfl, rfl, hide (by rw [Hue.out, ← Bool.or_assoc, ← hue.out, Hei.out]; rfl), hide (by rw [Hub.out, ← Bool.and_assoc, ← hub.out, Hmi.out]; rfl), Htc⟩, Hbi⟩
                    case measure => simp [intOf]; omega
                  · simp only [Bool.not_true] at hd5
                    cases d4
                    · skip
                      go_wp2_with fail
                      go_roundw
                      case rel => exact ⟨j + 1, by omega, by go_num, ⟨_, _, _, rfl, rfl, rfl, hide (by rw [Hue.out, ← Bool.or_assoc, ← hue.out, Hei.out]; rfl), hide (by rw [Hub.out, ← Bool.and_assoc, ← hub.out, Hmi.out]; rfl), Htc⟩, Hbi⟩
                      case measure => simp [intOf]; omega
                    · skip
                      go_wp2_with fail
                      go_roundw
                      case rel => exact ⟨j + 1, by omega, by go_num, ⟨_, _, _, rfl, rfl, rfl, hide (by rw [Hue.out, ← Bool.or_assoc, ← hue.out, Hei.out]; rfl), hide (by rw [Hub.out, ← Bool.and_assoc, ← hub.out, Hmi.out]; rfl), Htc⟩, Hbi⟩
                      case measure => simp [intOf]; omega
                · skip
                  go_wp2_with fail
                  go_roundw
                  case rel => exact ⟨j + 1, by omega, by go_num, ⟨_, _, _, rfl, rfl, rfl, hide (by rw [Hue.out, ← Bool.or_assoc, ← hue.out, Hei.out]; rfl), hide (by rw [Hub.out, ← Bool.and_assoc, ← hub.out, Hmi.out]; rfl), Htc⟩, Hbi⟩
                  case measure => simp [intOf]; omega
          · cases ub
            · skip
              go_wp2_with fail
              go_roundw
              case rel => exact ⟨j + 1, by omega, by go_num, ⟨_, _, _, rfl, rfl, rfl, hide (by rw [Hue.out, ← Bool.or_assoc, ← hue.out, Hei.out]; rfl), hide (by rw [Hub.out, ← Bool.and_assoc, ← hub.out, Hmi.out]; rfl), Htc⟩, Hbi⟩
              case measure => simp [intOf]; omega
            · cases d1
              · cases d3
                · simp only [Bool.not_false] at hd5
                  go_wp2_with fail
                  go_roundw
                  case rel => exact ⟨j + 1, by omega, by go_num, ⟨_, _, _, rfl, rfl, rfl, hide (by rw [Hue.out, ← Bool.or_assoc, ← hue.out, Hei.out]; rfl), hide (by rw [Hub.out, ← Bool.and_assoc, ← hub.out, Hmi.out]; rfl), Htc⟩, Hbi⟩
                  case measure => simp [intOf]; omega
                · simp only [Bool.not_true] at hd5
                  go_wp2_with fail
                  go_roundw
                  case rel => exact ⟨j + 1, by omega, by go_num, ⟨_, _, _, rfl, rfl, rfl, hide (by rw [Hue.out, ← Bool.or_assoc, ← hue.out, Hei.out]; rfl), hide (by rw [Hub.out, ← Bool.and_assoc, ← hub.out, Hmi.out]; rfl), Htc⟩, Hbi⟩
                  case measure => simp [intOf]; omega
              · skip
                go_wp2_with fail
                go_roundw
                case rel => exact ⟨j + 1, by omega, by go_num, ⟨_, _, _, rfl, rfl, rfl, hide (by rw [Hue.out, ← Bool.or_assoc, ← hue.out, Hei.out]; rfl), hide (by rw [Hub.out, ← Bool.and_assoc, ← hub.out, Hmi.out]; rfl), Htc⟩, Hbi⟩
                case measure => simp [intOf]; omega
        · obtain rfl : j = ln := by omega
          have dj : decide ((j : Int) < (j : Int)) = false := by simp
          have hue2 := hide (show ue = endsOf a n (LA.take (q + 1)) by rw [Hte.out, hue.out, Hln.out, List.take_length])
          have hub2 := hide (show ub = beyondOf a (LA.take (q + 1)) by rw [Htb.out, hub.out, Hln.out, List.take_length])
          have htc2 := hide (show tc = allOf (LA.take (q + 1)) by rw [Hta.out, htc.out])
          have hbr2 := hide (hbr9.out.trans (hbi.out.mono hbr9.out.size))
          clear hue hub htc hbi
          go_wp2_with fail
          go_roundw
          case rel => exact ⟨q + 1, by omega, by go_num, ⟨ue, ub, tc, rfl, rfl, rfl, hue2, hub2, htc2⟩, hbr2⟩
          case measure => simp [intOf]; omega
    · obtain rfl : q = N := by omega
      have dq : decide ((q : Int) < (q : Int)) = false := by simp
      have Hfe := hide (show te = endsOf a n LA by rw [hte.out, HN.out, List.take_length])
      have Hfb := hide (show tb = beyondOf a LA by rw [htb.out, HN.out, List.take_length])
      have hfa : S1 ≤ ta := by rw [hta.out, HN.out, List.take_length]; exact Hst.out.2
      have q3 : decide (S1 ≤ ta) = true := by simpa using hfa
      have HB := hide (below_step HW.out hbr.out (Nat.le_refl _))
      clear hbr hte htb hta hrg
      have hS12 : te = false → S1 = S2 := fun h9 => Hsa.out (by rw [← Hfe.out, h9])
      have hS0 : tb = true → S1 = 0 := fun h9 => Hby.out (by rw [← Hfb.out, h9])
      clear Hsa Hby Hst Har Hfe Hfb
      cases te
      · obtain rfl := hS12 rfl
        cases tb
        · clear hS0 hS12
          go_wp2_with fail
          go_ret
          exact ⟨rfl, HB.out⟩
        · obtain rfl := hS0 rfl
          clear hS0 hS12
          go_wp2_with fail
          go_ret
          exact ⟨rfl, HB.out⟩
      · cases tb
        · clear hS0 hS12
          go_wp2_with fail
          go_ret
          exact ⟨rfl, HB.out⟩
        · obtain rfl := hS0 rfl
          clear hS0 hS12
          go_wp2_with fail
          go_ret
          exact ⟨rfl, HB.out⟩
end Go.Proofs.YtmcjpdlkkpnhfaaGreat
