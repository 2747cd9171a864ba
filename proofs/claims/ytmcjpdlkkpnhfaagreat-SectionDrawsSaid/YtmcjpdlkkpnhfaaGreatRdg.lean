/- The drawing of a section: section.Draw where there is none. The drawing of layer 47: the reference's. -/
import Derived.Test.YtmcjpdlkkpnhfaaGreatQby
import Derived.Test.YtmcjpdlkkpnhfaaGreatRdc
namespace Go.Proofs.YtmcjpdlkkpnhfaaGreat
open Go.RowKit

set_option maxHeartbeats 4000000 in
set_option maxRecDepth 100000 in
theorem sectDraw_bad (x : DetD) (s : DetS) (a sc : Int) (w : World) {B : Nat} (h : DetAt w B x s) (hB : B ≤ w.heap.size) (hf : DetFit x s) (he : drawErr x a sc ≠ 0) :
    Calls Tryz.prog 11 #[detV x s, .int .i64 a, .int .i64 sc] w fun e w' => e = .returned (.tuple #[.string ⟨#[]⟩, .int .i64 (drawErr x a sc)]) ∧ Below w.heap.size w w' := by
  have HP0 := hide (fun (hs : secErr x a = 0) (W : World) (hz : Below w.heap.size w W) => pieces_ok x s a W (h.carry (hz.mono hB) (Nat.le_refl _)) (Nat.le_trans hB hz.size) hf hs)
  have HP1 := hide (fun (hs : secErr x a ≠ 0) (W : World) (hz : Below w.heap.size w W) => pieces_bad x s a W (h.carry (hz.mono hB) (Nat.le_refl _)) (Nat.le_trans hB hz.size) hf hs)
  have HS0 := hide (fun (hs : sizeErr x sc = 0) (W : World) (hz : Below w.heap.size w W) => sectSize_ok x s sc W (h.carry (hz.mono hB) (Nat.le_refl _)) (Nat.le_trans hB hz.size) hf hs)
  have HS1 := hide (fun (hs : sizeErr x sc ≠ 0) (W : World) (hz : Below w.heap.size w W) => sectSize_bad x s sc W (h.carry (hz.mono hB) (Nat.le_refl _)) (Nat.le_trans hB hz.size) hf hs)
  have Hi := hide (show (Tryz.prog.info? 34).map (·.size) = some 19 by kernel_rfl)
  have K0 := hide (Blk.new w 34 (detCells x.mem x.rule s))
  have HW := hide (below_new w (.cells (detCells x.mem x.rule s) 34))
  clear h hB hf
  by_cases h1 : secErr x a = 0
  · have HP := hide (HP0.out h1)
    by_cases h2 : sizeErr x sc = 0
    · have HS := hide (HS0.out h2)
      have h3 : 200 < colsOf x sc ∨ 200 < rowsS x sc := by
        rcases Int.lt_or_le 200 (colsOf x sc) with h9 | h9
        · exact .inl h9
        rcases Int.lt_or_le 200 (rowsS x sc) with h8 | h8
        · exact .inr h8
        exact absurd (by rw [drawErr, if_neg (by omega), if_neg (by omega), if_neg (by omega)]) he
      have he4 : drawErr x a sc = 4 := by rw [drawErr, if_neg (by omega), if_neg (by omega), if_pos h3]
      rw [he4]
      generalize colsOf x sc = C at *
      generalize rowsS x sc = R at *
      have hways : decide (200 < C) = true ∨ (decide (200 < C) = false ∧ decide (200 < R) = true) := by
        simp only [decide_eq_true_eq, decide_eq_false_iff_not]
        omega
      clear HP0 HP1 HS0 HS1 he he4 h1 h2 h3
      rcases hways with d1 | ⟨d1, d2⟩
      all_goals
        go_enter Tryz.func11, Tryz.ntmps11
        go_wp2_with (refine wpList_load_row rfl 34 (.tmp 3) rfl w.heap.size rfl 34 _ (0, 0) _ K0.out Tryz.underlying34 rfl Hi.out ?_)
        refine (HP.out _ HW.out).mono ?_
        rintro e w1 ⟨AP, cP, rfl, _, hb⟩
        replace K0 := hide (K0.out.keep hb)
        replace HW := hide (below_step HW.out hb (Nat.le_refl _))
        clear hb
        clear HP
        go_wp2_with (refine wpList_load_row rfl 34 (.tmp 3) rfl w.heap.size rfl 34 _ (0, 0) _ K0.out Tryz.underlying34 rfl Hi.out ?_)
        refine (HS.out _ HW.out).mono ?_
        rintro e w2 ⟨rfl, hb⟩
        replace K0 := hide (K0.out.keep hb)
        replace HW := hide (below_step HW.out hb (Nat.le_refl _))
        clear hb
        clear HS
        go_wp2_with fail
        go_ret2
        exact ⟨rfl, HW.out⟩
    · have HS := hide (HS1.out h2)
      have he4 : drawErr x a sc = sizeErr x sc := by rw [drawErr, if_neg (by omega), if_pos h2]
      rw [he4]
      have h2' := hide h2
      generalize sizeErr x sc = er at *
      have d1 : (er == 0) = false := by simpa using h2'.out
      have d2 : (er != 0) = true := by simpa using h2'.out
      clear HP0 HP1 HS0 HS1 he he4 h1 h2
      go_enter Tryz.func11, Tryz.ntmps11
      go_wp2_with (refine wpList_load_row rfl 34 (.tmp 3) rfl w.heap.size rfl 34 _ (0, 0) _ K0.out Tryz.underlying34 rfl Hi.out ?_)
      refine (HP.out _ HW.out).mono ?_
      rintro e w1 ⟨AP, cP, rfl, _, hb⟩
      replace K0 := hide (K0.out.keep hb)
      replace HW := hide (below_step HW.out hb (Nat.le_refl _))
      clear hb
      clear HP
      go_wp2_with (refine wpList_load_row rfl 34 (.tmp 3) rfl w.heap.size rfl 34 _ (0, 0) _ K0.out Tryz.underlying34 rfl Hi.out ?_)
      refine (HS.out _ HW.out).mono ?_
      rintro e w2 ⟨rfl, hb⟩
      replace K0 := hide (K0.out.keep hb)
      replace HW := hide (below_step HW.out hb (Nat.le_refl _))
      clear hb
      clear HS
      go_wp2_with fail
      go_ret2
      exact ⟨rfl, HW.out⟩
  · have HP := hide (HP1.out h1)
    have he4 : drawErr x a sc = secErr x a := by rw [drawErr, if_pos h1]
    rw [he4]
    have h1' := hide h1
    generalize secErr x a = er at *
    have d1 : (er == 0) = false := by simpa using h1'.out
    have d2 : (er != 0) = true := by simpa using h1'.out
    clear HP0 HP1 HS0 HS1 he he4 h1
    go_enter Tryz.func11, Tryz.ntmps11
    go_wp2_with (refine wpList_load_row rfl 34 (.tmp 3) rfl w.heap.size rfl 34 _ (0, 0) _ K0.out Tryz.underlying34 rfl Hi.out ?_)
    refine (HP.out _ HW.out).mono ?_
    rintro e w1 ⟨rfl, hb⟩
    replace K0 := hide (K0.out.keep hb)
    replace HW := hide (below_step HW.out hb (Nat.le_refl _))
    clear hb
    clear HP
    go_wp2_with fail
    go_ret2
    exact ⟨rfl, HW.out⟩
end Go.Proofs.YtmcjpdlkkpnhfaaGreat
namespace Go.Proofs.YtmcjpdlkkpnhfaaGreat
open Go.RowKit

set_option maxHeartbeats 4000000 in
set_option maxRecDepth 100000 in
theorem refDraw47_bad (x : DetD) (s : DetS) (a sc : Int) (w : World) {B : Nat} (h : DetAt w B x s) (hB : B ≤ w.heap.size) (hf : DetFit x s) (hd : ∀ d ∈ x.dems, d.name.size ≤ maxLen ∧ d.steps.length ≤ 60000) (he : drawErr x a sc ≠ 0) :
    Calls Tryz.prog 13 #[detV x s, .int .i64 a, .int .i64 sc] w fun e w' => e = .returned (.tuple #[.string ⟨#[]⟩, .int .i64 (drawErr x a sc)]) ∧ Below w.heap.size w w' := by
  have HG := hide (fun (W : World) (hz : Below w.heap.size w W) => refGiven47_any x s a sc W (h.carry (hz.mono hB) (Nat.le_refl _)) (Nat.le_trans hB hz.size) hf hd)
  have HSz := hide (fun (hg : givErr x a sc = 0) (W : World) (hz : Below w.heap.size w W) => refSize47_ok x s sc W (h.carry (hz.mono hB) (Nat.le_refl _)) (Nat.le_trans hB hz.size) hf (giv_ok hg).1 (giv_ok hg).2)
  have Hi := hide (show (Tryz.prog.info? 34).map (·.size) = some 19 by kernel_rfl)
  have K0 := hide (Blk.new w 34 (detCells x.mem x.rule s))
  have HW := hide (below_new w (.cells (detCells x.mem x.rule s) 34))
  rw [drw_err] at he ⊢
  clear h hB hf hd
  by_cases h1 : givErr x a sc = 0
  · rw [if_neg (by omega)] at he ⊢
    have HS := hide (HSz.out h1)
    have h3 : 200 < colsOf x sc ∨ 200 < rowsS x sc := by
      by_cases h9 : 200 < colsOf x sc ∨ 200 < rowsS x sc
      · exact h9
      · rw [if_neg h9] at he
        exact absurd rfl he
    rw [if_pos h3]
    rw [h1] at HG
    generalize colsOf x sc = C at *
    generalize rowsS x sc = R at *
    have hways : decide (200 < C) = true ∨ (decide (200 < C) = false ∧ decide (200 < R) = true) := by
      simp only [decide_eq_true_eq, decide_eq_false_iff_not]
      omega
    clear HSz he h1 h3
    rcases hways with d1 | ⟨d1, d2⟩
    all_goals
      go_enter Tryz.func13, Tryz.ntmps13
      go_wp2_with (refine wpList_load_row rfl 34 (.tmp 3) rfl w.heap.size rfl 34 _ (0, 0) _ K0.out Tryz.underlying34 rfl Hi.out ?_)
      refine (HG.out _ HW.out).mono ?_
      rintro e w1 ⟨rfl, hb⟩
      replace K0 := hide (K0.out.keep hb)
      replace HW := hide (below_step HW.out hb (Nat.le_refl _))
      clear hb
      clear HG
      go_wp2_with (refine wpList_load_row rfl 34 (.tmp 3) rfl w.heap.size rfl 34 _ (0, 0) _ K0.out Tryz.underlying34 rfl Hi.out ?_)
      refine (HS.out _ HW.out).mono ?_
      rintro e w2 ⟨rfl, hb⟩
      replace K0 := hide (K0.out.keep hb)
      replace HW := hide (below_step HW.out hb (Nat.le_refl _))
      clear hb
      clear HS
      go_wp2_with fail
      go_ret2
      exact ⟨rfl, HW.out⟩
  · rw [if_pos h1]
    have h1' := hide h1
    clear HSz he
    generalize givErr x a sc = er at *
    have d1 : (er == 0) = false := by simpa using h1'.out
    have d2 : (er != 0) = true := by simpa using h1'.out
    clear h1
    go_enter Tryz.func13, Tryz.ntmps13
    go_wp2_with (refine wpList_load_row rfl 34 (.tmp 3) rfl w.heap.size rfl 34 _ (0, 0) _ K0.out Tryz.underlying34 rfl Hi.out ?_)
    refine (HG.out _ HW.out).mono ?_
    rintro e w1 ⟨rfl, hb⟩
    replace K0 := hide (K0.out.keep hb)
    replace HW := hide (below_step HW.out hb (Nat.le_refl _))
    clear hb
    clear HG
    go_wp2_with fail
    go_ret2
    exact ⟨rfl, HW.out⟩
set_option maxHeartbeats 16000000 in
set_option maxRecDepth 100000 in
theorem refDraw47_ok (x : DetD) (s : DetS) (a sc : Int) (w : World) {B : Nat} (h : DetAt w B x s) (hB : B ≤ w.heap.size) (hf : DetFit x s) (hd : ∀ d ∈ x.dems, d.name.size ≤ maxLen ∧ d.steps.length ≤ 60000) (he : drawErr x a sc = 0) :
    Calls Tryz.prog 13 #[detV x s, .int .i64 a, .int .i64 sc] w fun e w' => e = .returned (.tuple #[.string ⟨(sectText x a sc).toArray⟩, .int .i64 0]) ∧ Below w.heap.size w w' := by
  obtain ⟨R, C, F⟩ := draw_facts he
  have hg0 : givErr x a sc = 0 := by
    rcases Int.lt_trichotomy (givErr x a sc) 0 with h9 | h9 | h9
    · exact absurd (he ▸ drw_bad (x := x) (a := a) (sc := sc) (by omega)) (by omega)
    · exact h9
    · exact absurd (he ▸ drw_bad (x := x) (a := a) (sc := sc) (by omega)) (by omega)
  have hok := (detOk_parts F.det).2.1
  have hso := (detOk_parts F.det).2.2
  have hrc := F.rows
  have hcc := F.cols
  obtain ⟨hr1, hr2, hc1, hc2⟩ : 1 ≤ R ∧ R ≤ 200 ∧ 1 ≤ C ∧ C ≤ 200 := ⟨F.r1, F.r2, F.c1, F.c2⟩
  obtain ⟨_, hs1, hs2⟩ := sizeErr_ok F.siz
  obtain ⟨hb1, hb2, _⟩ := solid_boxes hso
  have hG := fun (W : World) (hz : Below w.heap.size w W) => refGiven47_any x s a sc W (h.carry (hz.mono hB) (Nat.le_refl _)) (Nat.le_trans hB hz.size) hf hd
  rw [hg0] at hG
  have HG := hide hG
  have hSz := fun (W : World) (hz : Below w.heap.size w W) => refSize47_ok x s sc W (h.carry (hz.mono hB) (Nat.le_refl _)) (Nat.le_trans hB hz.size) hf F.det ⟨hs1, hs2⟩
  rw [hrc, hcc] at hSz
  have HS := hide hSz
  have HH := hide (fun (W : World) (hz : Below w.heap.size w W) => refHull17_ok x.mem.boxes x.mem.holes s.a1 s.a2 s.n1 s.n2 s.c1 s.c2 W (h.h1.carry (Flat.carried _) (hz.mono hB) (Nat.le_refl _)) (Nat.le_trans hB hz.size) hf.l1 hb1 (by omega))
  have HPa := hide (fun (W : World) (hz : Below w.heap.size w W) => refParts_ok x s a W (h.carry (hz.mono hB) (Nat.le_refl _)) (Nat.le_trans hB hz.size) hf hok)
  obtain ⟨hcl, _⟩ := cuts_fine hok a
  have hhull := boxOk_iff.1 (detOk_hull F.det)
  have Htx := hide (show sectText x a sc = textTop (rowB (signS x a sc) C) R R by rw [sectText, hrc, hcc, Int.toNat_natCast, Int.toNat_natCast])
  have Hsg := hide (fun (k c : Nat) => picS_sign x a sc k c)
  have HPic := hide (fun (A : Option Addr) (n c : Nat) (y z : Int) (W WP : World) (hz : Below w.heap.size w W) (hp : PartsAt WP WP.heap.size A (cutsOf x a)) (hwp : Below WP.heap.size WP W) (hn : n = (cutsOf x a).length) (hy : -4294967296 ≤ y ∧ y ≤ 4294967296) (hz2 : -4294967296 ≤ z ∧ z ≤ 4294967296) =>
    refPicture_ok x s A (cutsOf x a) n c a y z sc W (B := max B WP.heap.size) (h.carry (hz.mono hB) (Nat.le_max_left _ _)) (SlOf.carry (Flat.carried _) hp hwp (Nat.le_max_right _ _)) (Nat.max_le.2 ⟨Nat.le_trans hB hz.size, hwp.size⟩) hf hso hn (by omega) hy hz2 ⟨hs1, hs2⟩)
  have Hi := hide (show (Tryz.prog.info? 34).map (·.size) = some 19 by kernel_rfl)
  have K0 := hide (Blk.new w 34 (detCells x.mem x.rule s))
  have HW := hide (below_new w (.cells (detCells x.mem x.rule s) 34))
  obtain ⟨n, hn⟩ : ∃ n, n = (cutsOf x a).length := ⟨_, rfl⟩
  rw [← hn] at HPa
  have HPic := hide (fun (A : Option Addr) (c : Nat) (y z : Int) (W WP : World) (hz : Below w.heap.size w W) (hp : PartsAt WP WP.heap.size A (cutsOf x a)) (hwp : Below WP.heap.size WP W) (hy : -4294967296 ≤ y ∧ y ≤ 4294967296) (hz2 : -4294967296 ≤ z ∧ z ≤ 4294967296) => HPic.out A n c y z W WP hz hp hwp hn hy hz2)
  clear hn hcl
  generalize cutsOf x a = L at *
  obtain ⟨TX, hTX⟩ : ∃ TX, TX = sectText x a sc := ⟨_, rfl⟩
  rw [← hTX] at Htx ⊢
  obtain ⟨SG, hSG⟩ : ∃ SG, SG = signS x a sc := ⟨_, rfl⟩
  rw [← hSG] at Htx Hsg
  generalize hullOf x.mem.boxes = H at *
  obtain ⟨⟨X1, X2, X3⟩, X4, X5, X6⟩ := H
  simp only at hhull Hsg
  simp only [bxV] at HH
  have q0 : decide (200 < (C : Int)) = false := by simp; omega
  have q1 : decide (200 < (R : Int)) = false := by simp; omega
  have z0 : IntKind.i64.wrap ((R : Int) - 1) = (R : Int) - 1 := IntWalk.i64_in _ (by omega)
  clear h hf hB hd he hg0 F hso hok hrc hcc hG hSz hb1 hb2 hTX hSG
  obtain ⟨mem, bars, runs, laps, dems, rule⟩ := x
  obtain ⟨a1, n1, c1, a2, n2, c2, a3, n3, c3, a4, n4, c4, a5, n5, c5, a6, n6, c6⟩ := s
  obtain ⟨name, boxes, holes, cover, agg, poker⟩ := mem
  obtain ⟨r1, r2, r3, r4, r5, r6, r7, r8, r9⟩ := rule
  simp only [detCells] at K0 HW
  simp only at HH HPic Hsg
  show Calls Tryz.prog 13 #[.agg #[.string name, .slice a1 n1 c1, .slice a2 n2 c2, .int .i64 cover, .int .i64 agg, .int .i64 poker, .slice a3 n3 c3, .slice a4 n4 c4, .slice a5 n5 c5, .slice a6 n6 c6, .int .i64 r1, .int .i64 r2, .int .i64 r3, .int .i64 r4, .int .i64 r5, .int .i64 r6, .int .i64 r7, .int .i64 r8, .int .i64 r9], .int .i64 a, .int .i64 sc] w _
  go_enter Tryz.func13, Tryz.ntmps13
  go_wp2_with (refine wpList_load_row rfl 34 (.tmp 3) rfl w.heap.size rfl 34 _ (0, 0) _ K0.out Tryz.underlying34 rfl Hi.out ?_)
  refine (HG.out _ HW.out).mono ?_
  rintro e w1 ⟨rfl, hb⟩
  replace K0 := hide (K0.out.keep hb)
  replace HW := hide (below_step HW.out hb (Nat.le_refl _))
  clear hb
  clear HG
  go_wp2_with (refine wpList_load_row rfl 34 (.tmp 3) rfl w.heap.size rfl 34 _ (0, 0) _ K0.out Tryz.underlying34 rfl Hi.out ?_)
  refine (HS.out _ HW.out).mono ?_
  rintro e w2 ⟨rfl, hb⟩
  replace K0 := hide (K0.out.keep hb)
  replace HW := hide (below_step HW.out hb (Nat.le_refl _))
  clear hb
  clear HS
  have e1 := K0.out.cell 1
  have e2 := K0.out.cell 2
  simp at e1 e2
  have lk := K0.out.lt
  go_wp2_with fail
  refine (HH.out _ HW.out).mono ?_
  rintro e w3 ⟨rfl, hb⟩
  have KH := hide (Blk.new w3 63 #[.int .i64 X1, .int .i64 X2, .int .i64 X3, .int .i64 X4, .int .i64 X5, .int .i64 X6])
  replace K0 := hide ((K0.out.keep hb).alloc (.cells #[.int .i64 X1, .int .i64 X2, .int .i64 X3, .int .i64 X4, .int .i64 X5, .int .i64 X6] 63))
  have HF := below_step HW.out hb (Nat.le_refl _)
  replace HW := hide (HF.alloc HF.size (.cells #[.int .i64 X1, .int .i64 X2, .int .i64 X3, .int .i64 X4, .int .i64 X5, .int .i64 X6] 63))
  clear hb HH e1 e2 lk HF
  go_wp2_with (refine wpList_load_row rfl 34 (.tmp 3) rfl w.heap.size rfl 34 _ (0, 0) _ K0.out Tryz.underlying34 rfl Hi.out ?_)
  refine (HPa.out _ HW.out).mono ?_
  rintro e wP ⟨AP, cP, rfl, hp, hb⟩
  replace K0 := hide (K0.out.keep hb)
  replace KH := hide (KH.out.keep hb)
  replace HW := hide (below_step HW.out hb (Nat.le_refl _))
  have Hp := hide hp
  clear hb HPa hp
  go_wp2_with fail
  go_loopw [13, 14] (fun v kv wr => ∃ r : Nat, r ≤ R ∧ kv = .int .i64 ((r : Int) - 1) ∧ (∃ sv : ByteArray, v = .string sv ∧ Hid (sv.data.toList = textTop (rowB SG C) R (R - r))) ∧ Hid (Below wP.heap.size wP wr)) (fun _ kv _ => (intOf kv + 1).toNat)
  case atStart => exact ⟨R, Nat.le_refl _, rfl, ⟨⟨#[]⟩, rfl, hide (by rw [Nat.sub_self]; rfl)⟩, hide (Below.refl _ _)⟩
  case round =>
    rename World => wo
    obtain ⟨r, hr, rfl, ⟨sv, rfl, hsv⟩, hbr⟩ := hrel
    rcases r with _ | q
    · have Hfin := hide (show sv = ⟨TX.toArray⟩ by
        have h9 : sv.data.toList = TX := by rw [hsv.out, Nat.sub_zero]; exact Htx.out.symm
        rw [← h9])
      rw [show ((0 : Nat) : Int) - 1 = -1 from rfl]
      have HB := hide (below_step HW.out hbr.out (Nat.le_refl _))
      clear hsv hbr
      go_wp2_with fail
      go_ret2
      exact ⟨by rw [Hfin.out]; rfl, HB.out⟩
    · have hq : (((q + 1 : Nat) : Int) - 1) = (q : Int) := by omega
      rw [hq]
      have hqR : q < R := by omega
      have hsv0 := hide (show sv.data.toList = textTop (rowB SG C) R (R - (q + 1)) ++ (List.range 0).map (SG q) by rw [hsv.out]; simp)
      have z9 : IntKind.i64.wrap ((q : Int) - 1) = (q : Int) - 1 := IntWalk.i64_in _ (by omega)
      clear hsv hq
      go_wp2_with fail
      go_loopw [13, 15] (fun v cv wr => ∃ c : Nat, c ≤ C ∧ cv = .int .i64 c ∧ (∃ sv : ByteArray, v = .string sv ∧ Hid (sv.data.toList = textTop (rowB SG C) R (R - (q + 1)) ++ (List.range c).map (SG q))) ∧ Hid (Below wP.heap.size wP wr)) (fun _ cv _ => C - (intOf cv).toNat)
      case atStart => exact ⟨0, Nat.zero_le _, rfl, ⟨sv, rfl, hsv0⟩, hbr⟩
      case round =>
        clear hsv0 hbr
        obtain ⟨c, hc, rfl, ⟨sv, rfl, hsv⟩, hbr⟩ := hrel
        have hln : sv.data.toList.length ≤ 200 * 201 + 200 := by
          rw [hsv.out, List.length_append, textTop_len, List.length_map, List.length_range]
          have := Nat.mul_le_mul (show R - (q + 1) ≤ 200 by omega) (show C + 1 ≤ 201 by omega)
          omega
        have hz : sv.size ≤ 100000 := by
          have h9 : sv.data.toList.length = sv.size := by simp
          omega
        clear hln
        by_cases hlc : c < C
        · have dc : decide ((c : Int) < (C : Int)) = true := by simp; omega
          obtain ⟨m1, m2⟩ := mul_range (c := (c : Int)) (sc := sc) (by omega) (by omega) hs1 hs2
          obtain ⟨m3, m4⟩ := mul_range (c := (q : Int)) (sc := sc) (by omega) (by omega) hs1 hs2
          have HWr := hide (below_step HW.out hbr.out (Nat.le_refl _))
          have HPk := HPic.out AP cP (X2 + c * sc) (X3 + q * sc) wr wP HWr.out Hp.out hbr.out (by omega) (by omega)
          rw [Hsg.out q c] at HPk
          obtain ⟨by9, hby⟩ : ∃ b, b = SG q c := ⟨_, rfl⟩
          rw [← hby] at HPk
          have HPk := hide HPk
          have KK := hide (K0.out.below hbr.out K0.out.lt)
          have kh := KH.out.below hbr.out KH.out.lt
          have g1 := kh.cell 1
          have g2 := kh.cell 2
          simp at g1 g2
          have lh := kh.lt
          have z1 : IntKind.i64.wrap ((c : Int) * sc) = (c : Int) * sc := IntWalk.i64_in _ (by omega)
          have z2 : IntKind.i64.wrap ((q : Int) * sc) = (q : Int) * sc := IntWalk.i64_in _ (by omega)
          have z3 : IntKind.i64.wrap (X2 + (c : Int) * sc) = X2 + (c : Int) * sc := IntWalk.i64_in _ (by omega)
          have z4 : IntKind.i64.wrap (X3 + (q : Int) * sc) = X3 + (q : Int) * sc := IntWalk.i64_in _ (by omega)
          have u1 : (⟨#[by9]⟩ : ByteArray).size = 1 := rfl
          obtain ⟨s1, hs9⟩ : ∃ q, q = sv ++ (⟨#[by9]⟩ : ByteArray) := ⟨_, rfl⟩
          have t1 : ∀ W : World, (Op.stringOp .add sv (⟨#[by9]⟩ : ByteArray)).run Tryz.prog W = .ok (.string s1) W := fun W => by rw [hs9]; exact addT _ _ (by omega) W
          have Hs1 := hide (show s1.data.toList = textTop (rowB SG C) R (R - (q + 1)) ++ (List.range (c + 1)).map (SG q) by rw [hs9, hby, List.range_succ, List.map_append, ← List.append_assoc, ← hsv.out]; simp)
          clear hs9 u1 hby kh m1 m2 m3 m4 hsv
          go_wp2_with (refine wpList_load_row rfl 34 (.tmp 3) rfl w.heap.size rfl 34 _ (0, 0) _ KK.out Tryz.underlying34 rfl Hi.out ?_)
          refine HPk.out.mono ?_
          rintro e w5 ⟨rfl, hb⟩
          have hb9 := hide (hbr.out.trans (hb.mono hbr.out.size))
          clear hb HPk g1 g2 lh z1 z2 z3 z4 KK hbr
          go_wp2_with fail
          go_roundw
          case rel => first | exact ⟨c + 1, by omega, by go_num, ⟨s1, rfl, Hs1⟩, hb9⟩ | ((repeat apply Exists.intro); exact ⟨⟨c + 1, by omega, by go_num, ⟨s1, rfl, Hs1⟩, hb9⟩, rfl⟩)
          case measure => simp [intOf] <;> omega
        · obtain rfl : c = C := by omega
          have dc : decide ((c : Int) < (c : Int)) = false := by simp
          have u1 : (⟨#[10]⟩ : ByteArray).size = 1 := rfl
          obtain ⟨s1, hs9⟩ : ∃ q, q = sv ++ (⟨#[10]⟩ : ByteArray) := ⟨_, rfl⟩
          have t1 : ∀ W : World, (Op.stringOp .add sv (⟨#[10]⟩ : ByteArray)).run Tryz.prog W = .ok (.string s1) W := fun W => by rw [hs9]; exact addT _ _ (by omega) W
          have Hs1 := hide (show s1.data.toList = textTop (rowB SG c) R (R - q) by
            rw [hs9, show R - q = (R - (q + 1)) + 1 from by omega, textTop, show R - 1 - (R - (q + 1)) = q from by omega, rowB, ← List.append_assoc, ← hsv.out]
            simp)
          clear hs9 u1 hsv
          go_wp2_with fail
          go_roundw
          case rel => first | exact ⟨q, by omega, by go_num, ⟨s1, rfl, Hs1⟩, hbr⟩ | ((repeat apply Exists.intro); exact ⟨⟨q, by omega, by go_num, ⟨s1, rfl, Hs1⟩, hbr⟩, rfl⟩)
          case measure => simp [intOf] <;> omega
end Go.Proofs.YtmcjpdlkkpnhfaaGreat
