/- The law PlanSizes: Size, Cell, and Legend return what is specified. The reference of layer 46: the drawing; law46.fine. law46.fine: a true or a false. The law PlanDraws: Draw returns the drawing. -/
import Derived.Test.YtpmipoljnchheaaGreatMau
import Derived.Test.YtpmipoljnchheaaGreatMav
import Derived.Test.YtpmipoljnchheaaGreatMaw
namespace Go.Proofs.YtpmipoljnchheaaGreat
open Go.RowKit

theorem few_dems {x : DetD} {s : DetS} (f : Few x s) : ∀ d ∈ x.dems, d.name.size ≤ maxLen ∧ d.steps.length ≤ 60000 :=
  fun d hd => ⟨Nat.le_trans (f.dems d hd).1 (by decide), by have := (f.dems d hd).2; omega⟩
theorem cells_same (g : GridD) (p : Pt) : (∃ r c : Int, cellTuple g p = #[.int .i64 r, .int .i64 c, .int .i64 0] ∧ cellB g p = #[.int .i64 r, .int .i64 c, .bool true]) ∨ (cellTuple g p = #[.int .i64 0, .int .i64 0, .int .i64 12] ∧ cellB g p = #[.int .i64 0, .int .i64 0, .bool false]) := by
  by_cases h : InGrid g p
  · exact .inl ⟨cellRow g p, cellCol g p, by rw [cellTuple, if_pos h], by rw [cellB, if_pos h]⟩
  · exact .inr ⟨by rw [cellTuple, if_neg h], by rw [cellB, if_neg h]⟩
set_option maxHeartbeats 8000000 in
set_option maxRecDepth 100000 in
theorem planSizes_law (x : DetD) (s : DetS) (sc : Int) (p : Pt) (w : World) {B : Nat} (h : DetAt w B x s) (hB : B ≤ w.heap.size) (hl : DetLen x s) :
    Calls Tryz.prog 4 #[detV x s, .int .i64 sc, .agg #[.int .i64 p.1, .int .i64 p.2.1, .int .i64 p.2.2]] w fun e w' => e = .returned (.bool true) ∧ Below w.heap.size w w' := by
  have HF := hide (fun (W : World) (hz : Below w.heap.size w W) => few_any x s W (h.carry (hz.mono hB) (Nat.le_refl _)) (Nat.le_trans hB hz.size) hl)
  have HS := hide (fun (f : Few x s) (W : World) (hz : Below w.heap.size w W) => planSize_any x s sc W (h.carry (hz.mono hB) (Nat.le_refl _)) (Nat.le_trans hB hz.size) (few_fit hl f))
  have HC0 := hide (fun (f : Few x s) (he : planErr x sc = 0) (W : World) (hz : Below w.heap.size w W) => planCell_ok x s sc p W (h.carry (hz.mono hB) (Nat.le_refl _)) (Nat.le_trans hB hz.size) (few_fit hl f) he)
  have HC1 := hide (fun (f : Few x s) (he : planErr x sc ≠ 0) (W : World) (hz : Below w.heap.size w W) => planCell_bad x s sc p.1 p.2.1 p.2.2 W (h.carry (hz.mono hB) (Nat.le_refl _)) (Nat.le_trans hB hz.size) (few_fit hl f) he)
  have HL0 := hide (fun (f : Few x s) (hd : detOk x = true) (W : World) (hz : Below w.heap.size w W) => planLegend_ok x s W (h.carry (hz.mono hB) (Nat.le_refl _)) (Nat.le_trans hB hz.size) (few_fit hl f) hd)
  have HL1 := hide (fun (f : Few x s) (hd : detOk x = false) (W : World) (hz : Below w.heap.size w W) => planLegend_bad x s W (h.carry (hz.mono hB) (Nat.le_refl _)) (Nat.le_trans hB hz.size) (few_fit hl f) hd)
  have HV := hide (fun (f : Few x s) (W : World) (hz : Below w.heap.size w W) => refValid25_any x s W (h.carry (hz.mono hB) (Nat.le_refl _)) (Nat.le_trans hB hz.size) (few_fit hl f) (few_dems f))
  have HG := hide (fun (f : Few x s) (W : World) (hz : Below w.heap.size w W) => refGiven_any x s sc W (h.carry (hz.mono hB) (Nat.le_refl _)) (Nat.le_trans hB hz.size) (few_fit hl f) (few_dems f))
  have HRL := hide (fun (f : Few x s) (hd : detOk x = true) (W : World) (hz : Below w.heap.size w W) => refLegend46_ok x s W (h.carry (hz.mono hB) (Nat.le_refl _)) (Nat.le_trans hB hz.size) (few_fit hl f) hd)
  have HRS := hide (fun (f : Few x s) (he : planErr x sc = 0) (W : World) (hz : Below w.heap.size w W) => refSize46_ok x s sc W (h.carry (hz.mono hB) (Nat.le_refl _)) (Nat.le_trans hB hz.size) (few_fit hl f) (plan_facts he).det (plan_facts he).sc)
  have HRC := hide (fun (f : Few x s) (he : planErr x sc = 0) (W : World) (hz : Below w.heap.size w W) => refCell46_ok x s sc p W (h.carry (hz.mono hB) (Nat.le_refl _)) (Nat.le_trans hB hz.size) (few_fit hl f) he)
  have Hi := hide (show (Tryz.prog.info? 34).map (·.size) = some 19 by kernel_rfl)
  obtain ⟨p1, p2, p3⟩ := p
  have K0 := hide ((Blk.new w 34 (detCells x.mem x.rule s)).alloc (.cells #[.int .i64 p1, .int .i64 p2, .int .i64 p3] 44))
  have KP := hide (Blk.new1 w (.cells (detCells x.mem x.rule s) 34) 44 #[.int .i64 p1, .int .i64 p2, .int .i64 p3])
  have HW := hide (below_new2 w (.cells (detCells x.mem x.rule s) 34) (.cells #[.int .i64 p1, .int .i64 p2, .int .i64 p3] 44))
  clear h hB hl
  go_enter Tryz.func4, Tryz.ntmps4
  go_wp2_with fail
  refine (awake_any _).mono ?_
  rintro e w1 ⟨rfl, hb⟩
  have K0 := hide (K0.out.keep hb)
  have KP := hide (KP.out.keep hb)
  have HW := hide (below_step HW.out hb (Nat.le_refl _))
  clear hb
  go_wp2_with (refine wpList_load_row rfl 34 (.tmp 3) rfl w.heap.size rfl 34 _ (0, 0) _ K0.out Tryz.underlying34 rfl Hi.out ?_)
  refine (HF.out _ HW.out).mono ?_
  rintro e w2 ⟨⟨t, rfl, ht⟩, hb⟩
  have Ht := hide ht
  have K0 := hide (K0.out.keep hb)
  have KP := hide (KP.out.keep hb)
  have HW := hide (below_step HW.out hb (Nat.le_refl _))
  clear hb
  clear ht HF
  cases t
  · go_wp2_with fail
    go_ret
    exact ⟨rfl, HW.out⟩
  have Hf := hide (Ht.out rfl)
  have HS := hide (HS.out Hf.out)
  have HG := hide (HG.out Hf.out)
  have HV := hide (HV.out Hf.out)
  clear Ht
  go_wp2_with (refine wpList_load_row rfl 34 (.tmp 3) rfl w.heap.size rfl 34 _ (0, 0) _ K0.out Tryz.underlying34 rfl Hi.out ?_)
  refine (HS.out _ HW.out).mono ?_
  rintro e w3 ⟨rfl, hb⟩
  have K0 := hide (K0.out.keep hb)
  have KP := hide (KP.out.keep hb)
  have HW := hide (below_step HW.out hb (Nat.le_refl _))
  clear hb
  clear HS
  have e0 := KP.out.cell 0
  have e1 := KP.out.cell 1
  have e2 := KP.out.cell 2
  simp at e0 e1 e2
  have lp := KP.out.lt
  by_cases he : planErr x sc = 0
  · have hd := (plan_facts he).det
    have HC := hide (HC0.out Hf.out he)
    have HL := hide (HL0.out Hf.out hd)
    have HRL := hide (HRL.out Hf.out hd)
    have HRS := hide (HRS.out Hf.out he)
    have HRC := hide (HRC.out Hf.out he)
    have hsame := cells_same (gridOf x sc) (p1, p2, p3)
    rw [plan_ok he]
    rw [he] at HG ⊢
    rw [hd] at HV
    clear HC0 HC1 HL0 HL1 he hd
    generalize (gridOf x sc).rows = R at *
    generalize (gridOf x sc).cols = C at *
    generalize cellTuple (gridOf x sc) (p1, p2, p3) = ct at *
    generalize cellB (gridOf x sc) (p1, p2, p3) = cb at *
    generalize (⟨(legendText x.bars).toArray⟩ : ByteArray) = txt at *
    go_wp2_with (refine wpList_load_row rfl 34 (.tmp 3) rfl w.heap.size rfl 34 _ (0, 0) _ K0.out Tryz.underlying34 rfl Hi.out ?_)
    refine (HC.out _ HW.out).mono ?_
    rintro e w4 ⟨rfl, hb⟩
    have K0 := hide (K0.out.keep hb)
    have KP := hide (KP.out.keep hb)
    have HW := hide (below_step HW.out hb (Nat.le_refl _))
    clear hb
    clear HC e0 e1 e2 lp
    rcases hsame with ⟨r, c, rfl, rfl⟩ | ⟨rfl, rfl⟩
    all_goals
      go_wp2_with (refine wpList_load_row rfl 34 (.tmp 3) rfl w.heap.size rfl 34 _ (0, 0) _ K0.out Tryz.underlying34 rfl Hi.out ?_)
      refine (HL.out _ HW.out).mono ?_
      rintro e w5 ⟨rfl, hb⟩
      have K0 := hide (K0.out.keep hb)
      have KP := hide (KP.out.keep hb)
      have HW := hide (below_step HW.out hb (Nat.le_refl _))
      clear hb
      clear HL
      go_wp2_with (refine wpList_load_row rfl 34 (.tmp 3) rfl w.heap.size rfl 34 _ (0, 0) _ K0.out Tryz.underlying34 rfl Hi.out ?_)
      refine (HV.out _ HW.out).mono ?_
      rintro e w6 ⟨rfl, hb⟩
      have K0 := hide (K0.out.keep hb)
      have KP := hide (KP.out.keep hb)
      have HW := hide (below_step HW.out hb (Nat.le_refl _))
      clear hb
      clear HV
      go_wp2_with (refine wpList_load_row rfl 34 (.tmp 3) rfl w.heap.size rfl 34 _ (0, 0) _ K0.out Tryz.underlying34 rfl Hi.out ?_)
      refine (HRL.out _ HW.out).mono ?_
      rintro e w7 ⟨rfl, hb⟩
      have K0 := hide (K0.out.keep hb)
      have KP := hide (KP.out.keep hb)
      have HW := hide (below_step HW.out hb (Nat.le_refl _))
      clear hb
      clear HRL
      go_wp2_with (refine wpList_load_row rfl 34 (.tmp 3) rfl w.heap.size rfl 34 _ (0, 0) _ K0.out Tryz.underlying34 rfl Hi.out ?_)
      refine (HG.out _ HW.out).mono ?_
      rintro e w8 ⟨rfl, hb⟩
      have K0 := hide (K0.out.keep hb)
      have KP := hide (KP.out.keep hb)
      have HW := hide (below_step HW.out hb (Nat.le_refl _))
      clear hb
      clear HG
      go_wp2_with (refine wpList_load_row rfl 34 (.tmp 3) rfl w.heap.size rfl 34 _ (0, 0) _ K0.out Tryz.underlying34 rfl Hi.out ?_)
      refine (HRS.out _ HW.out).mono ?_
      rintro e w9 ⟨rfl, hb⟩
      have K0 := hide (K0.out.keep hb)
      have KP := hide (KP.out.keep hb)
      have HW := hide (below_step HW.out hb (Nat.le_refl _))
      clear hb
      clear HRS
      have e0 := KP.out.cell 0
      have e1 := KP.out.cell 1
      have e2 := KP.out.cell 2
      simp at e0 e1 e2
      have lp := KP.out.lt
      go_wp2_with (refine wpList_load_row rfl 34 (.tmp 3) rfl w.heap.size rfl 34 _ (0, 0) _ K0.out Tryz.underlying34 rfl Hi.out ?_)
      refine (HRC.out _ HW.out).mono ?_
      rintro e w9 ⟨rfl, hb⟩
      have HW := hide (below_step HW.out hb (Nat.le_refl _))
      clear hb HRC
      go_wp2_with fail
      go_ret
      exact ⟨rfl, HW.out⟩
  · have HC := hide (HC1.out Hf.out he)
    rw [plan_bad rfl he]
    simp only [zeroGrid]
    cases hd : detOk x
    · have HL := hide (HL1.out Hf.out hd)
      rw [hd] at HV
      have he' := hide he
      generalize planErr x sc = er at *
      have d1 : (er == 0) = false := by simpa using he'.out
      have d2 : (er != 0) = true := by simpa using he'.out
      clear HC0 HC1 HL0 HL1 HRL HRS HRC he hd
      go_wp2_with (refine wpList_load_row rfl 34 (.tmp 3) rfl w.heap.size rfl 34 _ (0, 0) _ K0.out Tryz.underlying34 rfl Hi.out ?_)
      refine (HC.out _ HW.out).mono ?_
      rintro e w4 ⟨rfl, hb⟩
      have K0 := hide (K0.out.keep hb)
      have KP := hide (KP.out.keep hb)
      have HW := hide (below_step HW.out hb (Nat.le_refl _))
      clear hb
      clear HC e0 e1 e2 lp
      go_wp2_with (refine wpList_load_row rfl 34 (.tmp 3) rfl w.heap.size rfl 34 _ (0, 0) _ K0.out Tryz.underlying34 rfl Hi.out ?_)
      refine (HL.out _ HW.out).mono ?_
      rintro e w5 ⟨rfl, hb⟩
      have K0 := hide (K0.out.keep hb)
      have KP := hide (KP.out.keep hb)
      have HW := hide (below_step HW.out hb (Nat.le_refl _))
      clear hb
      clear HL
      go_wp2_with (refine wpList_load_row rfl 34 (.tmp 3) rfl w.heap.size rfl 34 _ (0, 0) _ K0.out Tryz.underlying34 rfl Hi.out ?_)
      refine (HV.out _ HW.out).mono ?_
      rintro e w6 ⟨rfl, hb⟩
      have K0 := hide (K0.out.keep hb)
      have KP := hide (KP.out.keep hb)
      have HW := hide (below_step HW.out hb (Nat.le_refl _))
      clear hb
      clear HV
      go_wp2_with (refine wpList_load_row rfl 34 (.tmp 3) rfl w.heap.size rfl 34 _ (0, 0) _ K0.out Tryz.underlying34 rfl Hi.out ?_)
      refine (HG.out _ HW.out).mono ?_
      rintro e w8 ⟨rfl, hb⟩
      have K0 := hide (K0.out.keep hb)
      have KP := hide (KP.out.keep hb)
      have HW := hide (below_step HW.out hb (Nat.le_refl _))
      clear hb
      clear HG
      go_wp2_with fail
      go_ret
      exact ⟨rfl, HW.out⟩
    · have HL := hide (HL0.out Hf.out hd)
      have HRL := hide (HRL.out Hf.out hd)
      rw [hd] at HV
      have he' := hide he
      generalize planErr x sc = er at *
      have d1 : (er == 0) = false := by simpa using he'.out
      have d2 : (er != 0) = true := by simpa using he'.out
      generalize (⟨(legendText x.bars).toArray⟩ : ByteArray) = txt at *
      clear HC0 HC1 HL0 HL1 HRS HRC he hd
      go_wp2_with (refine wpList_load_row rfl 34 (.tmp 3) rfl w.heap.size rfl 34 _ (0, 0) _ K0.out Tryz.underlying34 rfl Hi.out ?_)
      refine (HC.out _ HW.out).mono ?_
      rintro e w4 ⟨rfl, hb⟩
      have K0 := hide (K0.out.keep hb)
      have KP := hide (KP.out.keep hb)
      have HW := hide (below_step HW.out hb (Nat.le_refl _))
      clear hb
      clear HC e0 e1 e2 lp
      go_wp2_with (refine wpList_load_row rfl 34 (.tmp 3) rfl w.heap.size rfl 34 _ (0, 0) _ K0.out Tryz.underlying34 rfl Hi.out ?_)
      refine (HL.out _ HW.out).mono ?_
      rintro e w5 ⟨rfl, hb⟩
      have K0 := hide (K0.out.keep hb)
      have KP := hide (KP.out.keep hb)
      have HW := hide (below_step HW.out hb (Nat.le_refl _))
      clear hb
      clear HL
      go_wp2_with (refine wpList_load_row rfl 34 (.tmp 3) rfl w.heap.size rfl 34 _ (0, 0) _ K0.out Tryz.underlying34 rfl Hi.out ?_)
      refine (HV.out _ HW.out).mono ?_
      rintro e w6 ⟨rfl, hb⟩
      have K0 := hide (K0.out.keep hb)
      have KP := hide (KP.out.keep hb)
      have HW := hide (below_step HW.out hb (Nat.le_refl _))
      clear hb
      clear HV
      go_wp2_with (refine wpList_load_row rfl 34 (.tmp 3) rfl w.heap.size rfl 34 _ (0, 0) _ K0.out Tryz.underlying34 rfl Hi.out ?_)
      refine (HRL.out _ HW.out).mono ?_
      rintro e w7 ⟨rfl, hb⟩
      have K0 := hide (K0.out.keep hb)
      have KP := hide (KP.out.keep hb)
      have HW := hide (below_step HW.out hb (Nat.le_refl _))
      clear hb
      clear HRL
      go_wp2_with (refine wpList_load_row rfl 34 (.tmp 3) rfl w.heap.size rfl 34 _ (0, 0) _ K0.out Tryz.underlying34 rfl Hi.out ?_)
      refine (HG.out _ HW.out).mono ?_
      rintro e w8 ⟨rfl, hb⟩
      have K0 := hide (K0.out.keep hb)
      have KP := hide (KP.out.keep hb)
      have HW := hide (below_step HW.out hb (Nat.le_refl _))
      clear hb
      clear HG
      go_wp2_with fail
      go_ret
      exact ⟨rfl, HW.out⟩
end Go.Proofs.YtpmipoljnchheaaGreat
namespace Go.Proofs.YtpmipoljnchheaaGreat
open Go.RowKit

set_option maxHeartbeats 8000000 in
set_option maxRecDepth 100000 in
theorem refDraw46_ok (x : DetD) (s : DetS) (sc : Int) (w : World) {B : Nat} (h : DetAt w B x s) (hB : B ≤ w.heap.size) (hf : DetFit x s) (he : planErr x sc = 0) :
    Calls Tryz.prog 13 #[detV x s, .int .i64 sc] w fun e w' => e = .returned (.string ⟨(drawText x sc).toArray⟩) ∧ Below w.heap.size w w' := by
  have hpf := plan_facts he
  have HS := hide (fun (W : World) (hz : Below w.heap.size w W) => refSize46_ok x s sc W (h.carry (hz.mono hB) (Nat.le_refl _)) (Nat.le_trans hB hz.size) hf hpf.det hpf.sc)
  have HA := hide (fun (r c : Nat) (hr : (r : Int) < (gridOf x sc).rows) (hc : (c : Int) < (gridOf x sc).cols) (W : World) (hz : Below w.heap.size w W) => refAt46_ok x s sc r c W (h.carry (hz.mono hB) (Nat.le_refl _)) (Nat.le_trans hB hz.size) hf he ⟨by omega, hr⟩ ⟨by omega, hc⟩)
  have hprod := (plan_detOk he).2.2
  have hm3 := hf.m3
  have hl3 := hf.l3
  have Hq := hide (fun (r c q : Int) (hq : q ∈ seenAt x sc r c) => show 0 ≤ q ∧ q ≤ 1000000 by have := seenAt_mem hq; omega)
  obtain ⟨hr1, hr2⟩ := hpf.rows
  obtain ⟨hc1, hc2⟩ := hpf.cols
  obtain ⟨Rn, hR⟩ := Int.eq_ofNat_of_zero_le (show 0 ≤ (gridOf x sc).rows by omega)
  obtain ⟨Cn, hC⟩ := Int.eq_ofNat_of_zero_le (show 0 ≤ (gridOf x sc).cols by omega)
  have Htx := hide (show drawText x sc = drawTo (seenAt x sc) Cn Rn by rw [drawText, hR, hC, Int.toNat_natCast, Int.toNat_natCast])
  rw [hR, hC] at HS HA hprod
  have hRb : Rn ≤ 20000 := by omega
  have hCb : Cn ≤ 20000 := by omega
  have hpr : Rn * Cn ≤ 20000 := by
    have h9 : ((Rn * Cn : Nat) : Int) ≤ 20000 := by push_cast; exact hprod
    omega
  generalize seenAt x sc = SE at *
  have Hln := hide (fun (r c : Nat) (hr : r ≤ Rn) (hc : c ≤ Cn) => show (drawTo SE Cn r ++ drawRow SE r c).length ≤ 100000 by
    rw [List.length_append, drawTo_len, drawRow_len, Nat.mul_add, Nat.mul_one]
    have := Nat.mul_le_mul_right Cn hr
    omega)
  obtain ⟨DT, hDT⟩ : ∃ DT : Nat → List UInt8, DT = drawTo SE Cn := ⟨_, rfl⟩
  obtain ⟨DR, hDR⟩ : ∃ DR : Nat → Nat → List UInt8, DR = fun r c => drawRow SE r c := ⟨_, rfl⟩
  have HD0 := hide (show DT 0 = [] by rw [hDT]; rfl)
  have HDs := hide (fun (r : Nat) => show DT (r + 1) = DT r ++ (DR r Cn ++ [10]) by rw [hDT, hDR]; exact drawTo_succ SE Cn r)
  have HR0 := hide (fun (r : Nat) => show DR r 0 = [] by rw [hDR]; rfl)
  have HRs := hide (fun (r c : Nat) => show DR r (c + 1) = DR r c ++ [cellByte (SE r c)] by rw [hDR]; exact drawRow_succ SE r c)
  have Hln := hide (fun (r c : Nat) (hr : r ≤ Rn) (hc : c ≤ Cn) => show (DT r ++ DR r c).length ≤ 100000 by rw [hDT, hDR]; exact Hln.out r c hr hc)
  have htx := Htx.out
  rw [← hDT] at htx
  obtain ⟨TX, hTX⟩ : ∃ TX, TX = drawText x sc := ⟨_, rfl⟩
  rw [← hTX] at htx ⊢
  have HTxx := hide htx
  clear Htx htx
  have Hi := hide (show (Tryz.prog.info? 34).map (·.size) = some 19 by kernel_rfl)
  have K0 := hide (Blk.new w 34 (detCells x.mem x.rule s))
  have HW := hide (below_new w (.cells (detCells x.mem x.rule s) 34))
  obtain ⟨mem, bars, runs, laps, dems, rule⟩ := x
  obtain ⟨a1, n1, c1, a2, n2, c2, a3, n3, c3, a4, n4, c4, a5, n5, c5, a6, n6, c6⟩ := s
  obtain ⟨name, boxes, holes, cover, agg, poker⟩ := mem
  obtain ⟨r1, r2, r3, r4, r5, r6, r7, r8, r9⟩ := rule
  simp only [detCells] at K0 HW
  clear h hf hB hpf he hR hC hprod hpr hDT hDR hTX hr1 hr2 hc1 hc2 hm3 hl3
  show Calls Tryz.prog 13 #[.agg #[.string name, .slice a1 n1 c1, .slice a2 n2 c2, .int .i64 cover, .int .i64 agg, .int .i64 poker, .slice a3 n3 c3, .slice a4 n4 c4, .slice a5 n5 c5, .slice a6 n6 c6, .int .i64 r1, .int .i64 r2, .int .i64 r3, .int .i64 r4, .int .i64 r5, .int .i64 r6, .int .i64 r7, .int .i64 r8, .int .i64 r9], .int .i64 sc] w _
  go_enter Tryz.func13, Tryz.ntmps13
  go_wp2_with (refine wpList_load_row rfl 34 (.tmp 2) rfl w.heap.size rfl 34 _ (0, 0) _ K0.out Tryz.underlying34 rfl Hi.out ?_)
  refine (HS.out _ HW.out).mono ?_
  rintro e w1 ⟨rfl, hb⟩
  have K1 := hide (K0.out.keep hb)
  have HW1 := hide (below_step HW.out hb (Nat.le_refl _))
  clear hb HS K0 HW
  go_wp2_with fail
  go_loopw [7, 8] (fun v rv wr => ∃ r : Nat, r ≤ Rn ∧ rv = .int .i64 r ∧ (∃ sv : ByteArray, v = .string sv ∧ Hid (sv.data.toList = DT r)) ∧ Hid (Blk wr w.heap.size 34 #[.string name, .slice a1 n1 c1, .slice a2 n2 c2, .int .i64 cover, .int .i64 agg, .int .i64 poker, .slice a3 n3 c3, .slice a4 n4 c4, .slice a5 n5 c5, .slice a6 n6 c6, .int .i64 r1, .int .i64 r2, .int .i64 r3, .int .i64 r4, .int .i64 r5, .int .i64 r6, .int .i64 r7, .int .i64 r8, .int .i64 r9]) ∧ Hid (Below w.heap.size w wr)) (fun _ rv _ => Rn - (intOf rv).toNat)
  case atStart => exact ⟨0, Nat.zero_le _, rfl, ⟨⟨#[]⟩, rfl, hide HD0.out.symm⟩, K1, HW1⟩
  case round =>
    clear K1 HW1
    rename World => wo
    obtain ⟨r, hr, rfl, ⟨sv, rfl, hsv⟩, hK, hbr⟩ := hrel
    by_cases hlt : r < Rn
    · have dr : decide ((r : Int) < (Rn : Int)) = true := by simp; omega
      have hsv0 := hide (show sv.data.toList = DT r ++ DR r 0 by rw [HR0.out, List.append_nil]; exact hsv.out)
      clear hsv
      go_wp2_with fail
      go_loopw [7, 9] (fun v cv wr => ∃ c : Nat, c ≤ Cn ∧ cv = .int .i64 c ∧ (∃ sv : ByteArray, v = .string sv ∧ Hid (sv.data.toList = DT r ++ DR r c)) ∧ Hid (Blk wr w.heap.size 34 #[.string name, .slice a1 n1 c1, .slice a2 n2 c2, .int .i64 cover, .int .i64 agg, .int .i64 poker, .slice a3 n3 c3, .slice a4 n4 c4, .slice a5 n5 c5, .slice a6 n6 c6, .int .i64 r1, .int .i64 r2, .int .i64 r3, .int .i64 r4, .int .i64 r5, .int .i64 r6, .int .i64 r7, .int .i64 r8, .int .i64 r9]) ∧ Hid (Below w.heap.size w wr)) (fun _ cv _ => Cn - (intOf cv).toNat)
      case atStart => exact ⟨0, Nat.zero_le _, rfl, ⟨sv, rfl, hsv0⟩, hK, hbr⟩
      case round =>
        clear hsv0 hK hbr
        rename World => wi
        obtain ⟨c, hc, rfl, ⟨sv, rfl, hsv⟩, hK, hbr⟩ := hrel
        have hln := Hln.out r c (Nat.le_of_lt hlt) hc
        rw [← hsv.out] at hln
        have hz : sv.size ≤ 100000 := by simpa using hln
        clear hln
        by_cases hlc : c < Cn
        · have dc : decide ((c : Int) < (Cn : Int)) = true := by simp; omega
          have HAc := hide (HA.out r c (by omega) (by omega) wi hbr.out)
          have Hqc := hide (fun q hq => Hq.out (r : Int) (c : Int) q hq)
          have hcbl := hide (show cellByte (SE (r : Int) (c : Int)) = cellByte (SE (r : Int) (c : Int)) from rfl)
          obtain ⟨L, hL⟩ : ∃ L, L = SE (r : Int) (c : Int) := ⟨_, rfl⟩
          rw [← hL] at HAc Hqc
          have HLc := hide (show cellByte (SE (r : Int) (c : Int)) = cellByte L by rw [hL])
          obtain ⟨n, hn⟩ : ∃ n, n = L.length := ⟨_, rfl⟩
          rw [← hn] at HAc
          clear hL hcbl
          go_wp2_with (refine wpList_load_row rfl 34 (.tmp 2) rfl w.heap.size rfl 34 _ (0, 0) _ hK.out Tryz.underlying34 rfl Hi.out ?_)
          refine HAc.out.mono ?_
          rintro e w2 ⟨AL, cL, rfl, hl, hb⟩
          have KX := hide (hK.out.keep hb)
          have HX := hide (below_step hbr.out hb (Nat.le_refl _))
          have HL := hide hl
          clear hb hl HAc
          rcases L with _ | ⟨q, _ | ⟨q2, rest⟩⟩
          · have hn0 : n = 0 := hn
            clear hn
            subst hn0
            have hcb : cellByte (SE (r : Int) (c : Int)) = 46 := HLc.out
            have q1 : (⟨#[46]⟩ : ByteArray).size = 1 := rfl
            obtain ⟨s1, hs1⟩ : ∃ q, q = sv ++ (⟨#[46]⟩ : ByteArray) := ⟨_, rfl⟩
            have t1 : ∀ W : World, (Op.stringOp .add sv (⟨#[46]⟩ : ByteArray)).run Tryz.prog W = .ok (.string s1) W := fun W => by rw [hs1]; exact addS _ _ (by omega) W
            have Hs1 := hide (show s1.data.toList = DT r ++ DR r (c + 1) by rw [hs1, HRs.out r c, hcb, ← List.append_assoc, ← hsv.out]; simp)
            clear hs1 q1
            clear hcb HLc
            go_wp2_with fail
            go_roundw
            case rel => first | exact ⟨c + 1, by omega, by go_num, ⟨s1, rfl, Hs1⟩, KX, HX⟩ | ((repeat apply Exists.intro); exact ⟨⟨c + 1, by omega, by go_num, ⟨s1, rfl, Hs1⟩, KX, HX⟩, rfl⟩)
            case measure => simp [intOf]; omega
          · have hn0 : n = 1 := hn
            clear hn
            subst hn0
            obtain ⟨b, off, q', rfl, hbl, hx, f0⟩ := Ints.get (k := 0) HL.out (by simp)
            simp at hx
            subst hx
            have hqr := Hqc.out q (by simp)
            have HP := hide (fun (W : World) => refLetter46_any q W hqr)
            have hcb : cellByte (SE (r : Int) (c : Int)) = letterOf q := HLc.out
            generalize letterOf q = lq at *
            simp only [Nat.add_zero] at f0
            have q1 : (⟨#[lq]⟩ : ByteArray).size = 1 := rfl
            obtain ⟨s1, hs1⟩ : ∃ q, q = sv ++ (⟨#[lq]⟩ : ByteArray) := ⟨_, rfl⟩
            have t1 : ∀ W : World, (Op.stringOp .add sv (⟨#[lq]⟩ : ByteArray)).run Tryz.prog W = .ok (.string s1) W := fun W => by rw [hs1]; exact addS _ _ (by omega) W
            have Hs1 := hide (show s1.data.toList = DT r ++ DR r (c + 1) by rw [hs1, HRs.out r c, hcb, ← List.append_assoc, ← hsv.out]; simp)
            clear hs1 q1
            clear hcb HLc HL Hqc hqr
            go_wp2_with fail
            refine (HP.out _).mono ?_
            rintro e w3 ⟨rfl, hb⟩
            have KX := hide (KX.out.keep hb)
            have HX := hide (below_step HX.out hb (Nat.le_refl _))
            clear hb f0 HP
            go_wp2_with fail
            go_roundw
            case rel => first | exact ⟨c + 1, by omega, by go_num, ⟨s1, rfl, Hs1⟩, KX, HX⟩ | ((repeat apply Exists.intro); exact ⟨⟨c + 1, by omega, by go_num, ⟨s1, rfl, Hs1⟩, KX, HX⟩, rfl⟩)
            case measure => simp [intOf]; omega
          · have hn0 : 2 ≤ n := by rw [hn]; simp
            have d0 : ((n : Int) == 0) = false := by simp; omega
            have d1 : ((n : Int) == 1) = false := by simp; omega
            have hcb : cellByte (SE (r : Int) (c : Int)) = 43 := HLc.out
            have q1 : (⟨#[43]⟩ : ByteArray).size = 1 := rfl
            obtain ⟨s1, hs1⟩ : ∃ q, q = sv ++ (⟨#[43]⟩ : ByteArray) := ⟨_, rfl⟩
            have t1 : ∀ W : World, (Op.stringOp .add sv (⟨#[43]⟩ : ByteArray)).run Tryz.prog W = .ok (.string s1) W := fun W => by rw [hs1]; exact addS _ _ (by omega) W
            have Hs1 := hide (show s1.data.toList = DT r ++ DR r (c + 1) by rw [hs1, HRs.out r c, hcb, ← List.append_assoc, ← hsv.out]; simp)
            clear hs1 q1
            clear hcb HLc HL Hqc hn
            go_wp2_with fail
            go_roundw
            case rel => first | exact ⟨c + 1, by omega, by go_num, ⟨s1, rfl, Hs1⟩, KX, HX⟩ | ((repeat apply Exists.intro); exact ⟨⟨c + 1, by omega, by go_num, ⟨s1, rfl, Hs1⟩, KX, HX⟩, rfl⟩)
            case measure => simp [intOf]; omega
        · obtain rfl : c = Cn := by omega
          have dc : decide ((c : Int) < (c : Int)) = false := by simp
          have q1 : (⟨#[10]⟩ : ByteArray).size = 1 := rfl
          obtain ⟨s1, hs1⟩ : ∃ q, q = sv ++ (⟨#[10]⟩ : ByteArray) := ⟨_, rfl⟩
          have t1 : ∀ W : World, (Op.stringOp .add sv (⟨#[10]⟩ : ByteArray)).run Tryz.prog W = .ok (.string s1) W := fun W => by rw [hs1]; exact addS _ _ (by omega) W
          have Hs1 := hide (show s1.data.toList = DT (r + 1) by rw [hs1, HDs.out r, ← List.append_assoc, ← hsv.out]; simp)
          clear hs1 q1
          go_wp2_with fail
          go_roundw
          case rel => exact ⟨r + 1, by omega, by go_num, ⟨s1, rfl, Hs1⟩, hK, hbr⟩
          case measure => simp [intOf]; omega
    · obtain rfl : r = Rn := by omega
      have dr : decide ((r : Int) < (r : Int)) = false := by simp
      have Hfin := hide (show sv = ⟨TX.toArray⟩ by rw [HTxx.out, ← hsv.out])
      go_wp2_with fail
      go_ret
      exact ⟨ret_str Hfin.out, hbr.out⟩
end Go.Proofs.YtpmipoljnchheaaGreat
namespace Go.Proofs.YtpmipoljnchheaaGreat
open Go.RowKit

theorem wpList_load_row_g {P : Program} {ops : Array Oper} {rest : List Oper} {o : Oper} {a : Act} {w : World} {Q : Exit → Act → World → Prop} (hw : Region.wanted o (yielded ops a.tmps) = true) (ty : TypeId) (x : Operand) (ho : o.op = .load ty x)
    (g : Nat) (hx : a.eval x = .pointer (some ⟨g, 0, none⟩)) (t : TypeId) (cs : Array Value) (fr : Nat × Nat) (d : TypeDesc) (hg : w.heap[g]? = some (.cells cs t fr))
    (hu : P.underlying ty = some d) (hd : (match d with | .struct _ | .array _ _ => true | _ => false) = true) (hi : (P.info? ty).map (·.size) = some cs.size)
    (h : wpList P ops Q rest (a.put o.dst (.agg cs)) w) : wpList P ops Q (o :: rest) a w :=
  wpList_step fun K hK => by
    rw [if_pos hw]
    exact wp_load_row ty x ho g hx t cs fr d hg hu hd hi (hK _ _ h)
set_option maxHeartbeats 4000000 in
set_option maxRecDepth 100000 in
theorem fine_any (x : DetD) (s : DetS) (sc : Int) (w : World) {B : Nat} (h : DetAt w B x s) (hB : B ≤ w.heap.size) (hf : DetFit x s) (hd : ∀ d ∈ x.dems, d.name.size ≤ maxLen ∧ d.steps.length ≤ 60000) :
    Calls Tryz.prog 10 #[detV x s, .int .i64 sc] w fun e w' => RetB e True ∧ Below w.heap.size w w' := by
  have HG := hide (fun (W : World) (hz : Below w.heap.size w W) => refGiven_any x s sc W (h.carry (hz.mono hB) (Nat.le_refl _)) (Nat.le_trans hB hz.size) hf hd)
  have HRS := hide (fun (he : planErr x sc = 0) (W : World) (hz : Below w.heap.size w W) => refSize46_ok x s sc W (h.carry (hz.mono hB) (Nat.le_refl _)) (Nat.le_trans hB hz.size) hf (plan_facts he).det (plan_facts he).sc)
  have Hi := hide (show (Tryz.prog.info? 34).map (·.size) = some 19 by kernel_rfl)
  have K0 := hide (Blk.new w 34 (detCells x.mem x.rule s))
  have HW := hide (below_new w (.cells (detCells x.mem x.rule s) 34))
  clear h hB hf hd
  go_enter Tryz.func10, Tryz.ntmps10
  go_wp2_with (refine wpList_load_row rfl 34 (.tmp 2) rfl w.heap.size rfl 34 _ (0, 0) _ K0.out Tryz.underlying34 rfl Hi.out ?_)
  refine (HG.out _ HW.out).mono ?_
  rintro e w1 ⟨rfl, hb⟩
  have K0 := hide (K0.out.keep hb)
  have HW := hide (below_step HW.out hb (Nat.le_refl _))
  clear hb HG
  by_cases he : planErr x sc = 0
  · have HR := hide (HRS.out he)
    rw [he]
    generalize (gridOf x sc).rows = R at *
    generalize (gridOf x sc).cols = C at *
    clear HRS he
    go_wp2_with (refine wpList_load_row rfl 34 (.tmp 2) rfl w.heap.size rfl 34 _ (0, 0) _ K0.out Tryz.underlying34 rfl Hi.out ?_)
    refine (HR.out _ HW.out).mono ?_
    rintro e w2 ⟨rfl, hb⟩
    have HW := hide (below_step HW.out hb (Nat.le_refl _))
    clear hb HR
    go_wp2_with fail
    go_ret
    exact ⟨⟨_, rfl, fun _ => trivial⟩, HW.out⟩
  · have he' := hide he
    generalize planErr x sc = er at *
    have d1 : (er == 0) = false := by simpa using he'.out
    have d2 : (er != 0) = true := by simpa using he'.out
    clear HRS he
    go_wp2_with fail
    go_ret
    exact ⟨⟨_, rfl, fun _ => trivial⟩, HW.out⟩
end Go.Proofs.YtpmipoljnchheaaGreat
namespace Go.Proofs.YtpmipoljnchheaaGreat
open Go.RowKit

set_option maxHeartbeats 8000000 in
set_option maxRecDepth 100000 in
theorem planDraws_law (x : DetD) (s : DetS) (sc : Int) (w : World) {B : Nat} (h : DetAt w B x s) (hB : B ≤ w.heap.size) (hl : DetLen x s) :
    Calls Tryz.prog 3 #[detV x s, .int .i64 sc] w fun e w' => e = .returned (.bool true) ∧ Below w.heap.size w w' := by
  have HF := hide (fun (W : World) (hz : Below w.heap.size w W) => few_any x s W (h.carry (hz.mono hB) (Nat.le_refl _)) (Nat.le_trans hB hz.size) hl)
  have HFi := hide (fun (f : Few x s) (W : World) (hz : Below w.heap.size w W) => fine_any x s sc W (h.carry (hz.mono hB) (Nat.le_refl _)) (Nat.le_trans hB hz.size) (few_fit hl f) (few_dems f))
  have HD0 := hide (fun (f : Few x s) (he : planErr x sc = 0) (W : World) (hz : Below w.heap.size w W) => planDraw_ok x s sc W (h.carry (hz.mono hB) (Nat.le_refl _)) (Nat.le_trans hB hz.size) (few_fit hl f) he)
  have HD1 := hide (fun (f : Few x s) (he : planErr x sc ≠ 0) (W : World) (hz : Below w.heap.size w W) => planDraw_bad x s sc W (h.carry (hz.mono hB) (Nat.le_refl _)) (Nat.le_trans hB hz.size) (few_fit hl f) he)
  have HG := hide (fun (f : Few x s) (W : World) (hz : Below w.heap.size w W) => refGiven_any x s sc W (h.carry (hz.mono hB) (Nat.le_refl _)) (Nat.le_trans hB hz.size) (few_fit hl f) (few_dems f))
  have HRD := hide (fun (f : Few x s) (he : planErr x sc = 0) (W : World) (hz : Below w.heap.size w W) => refDraw46_ok x s sc W (h.carry (hz.mono hB) (Nat.le_refl _)) (Nat.le_trans hB hz.size) (few_fit hl f) he)
  have Hi := hide (show (Tryz.prog.info? 34).map (·.size) = some 19 by kernel_rfl)
  have K0 := hide (Blk.new w 34 (detCells x.mem x.rule s))
  have HW := hide (below_new w (.cells (detCells x.mem x.rule s) 34))
  clear h hB hl
  go_enter Tryz.func3, Tryz.ntmps3
  go_wp2_with fail
  refine (awake_any _).mono ?_
  rintro e w1 ⟨rfl, hb⟩
  have K0 := hide (K0.out.keep hb)
  have HW := hide (below_step HW.out hb (Nat.le_refl _))
  clear hb
  go_wp2_with (refine wpList_load_row rfl 34 (.tmp 2) rfl w.heap.size rfl 34 _ (0, 0) _ K0.out Tryz.underlying34 rfl Hi.out ?_)
  refine (HF.out _ HW.out).mono ?_
  rintro e w2 ⟨⟨t, rfl, ht⟩, hb⟩
  have Ht := hide ht
  have K0 := hide (K0.out.keep hb)
  have HW := hide (below_step HW.out hb (Nat.le_refl _))
  clear hb
  clear ht HF
  cases t
  · go_wp2_with fail
    go_ret
    exact ⟨rfl, HW.out⟩
  have Hf := hide (Ht.out rfl)
  have HGf := hide (HG.out Hf.out)
  have HFf := hide (HFi.out Hf.out)
  clear Ht HG HFi
  go_wp2_with (refine wpList_load_row_g (by rfl) 34 (.tmp 2) rfl w.heap.size rfl 34 _ (0, 0) _ K0.out Tryz.underlying34 rfl Hi.out ?_)
  refine (HFf.out _ HW.out).mono ?_
  rintro e w3 ⟨⟨t, rfl, _⟩, hb⟩
  have K0 := hide (K0.out.keep hb)
  have HW := hide (below_step HW.out hb (Nat.le_refl _))
  clear hb
  clear HFf
  cases t
  rotate_left
  · go_wp2_with fail
    go_ret
    exact ⟨rfl, HW.out⟩
  by_cases he : planErr x sc = 0
  · have HD := hide (HD0.out Hf.out he)
    have HR := hide (HRD.out Hf.out he)
    rw [he] at HGf
    generalize (⟨(drawText x sc).toArray⟩ : ByteArray) = txt at *
    clear HD0 HD1 HRD he
    go_wp2_with (refine wpList_load_row rfl 34 (.tmp 2) rfl w.heap.size rfl 34 _ (0, 0) _ K0.out Tryz.underlying34 rfl Hi.out ?_)
    refine (HD.out _ HW.out).mono ?_
    rintro e w4 ⟨rfl, hb⟩
    have K0 := hide (K0.out.keep hb)
    have HW := hide (below_step HW.out hb (Nat.le_refl _))
    clear hb
    clear HD
    go_wp2_with (refine wpList_load_row rfl 34 (.tmp 2) rfl w.heap.size rfl 34 _ (0, 0) _ K0.out Tryz.underlying34 rfl Hi.out ?_)
    refine (HGf.out _ HW.out).mono ?_
    rintro e w5 ⟨rfl, hb⟩
    have K0 := hide (K0.out.keep hb)
    have HW := hide (below_step HW.out hb (Nat.le_refl _))
    clear hb
    clear HGf
    go_wp2_with (refine wpList_load_row rfl 34 (.tmp 2) rfl w.heap.size rfl 34 _ (0, 0) _ K0.out Tryz.underlying34 rfl Hi.out ?_)
    refine (HR.out _ HW.out).mono ?_
    rintro e w6 ⟨rfl, hb⟩
    have K0 := hide (K0.out.keep hb)
    have HW := hide (below_step HW.out hb (Nat.le_refl _))
    clear hb
    clear HR
    go_wp2_with fail
    go_ret
    exact ⟨rfl, HW.out⟩
  · have HD := hide (HD1.out Hf.out he)
    have he' := hide he
    generalize planErr x sc = er at *
    have d1 : (er == 0) = false := by simpa using he'.out
    have d2 : (er != 0) = true := by simpa using he'.out
    clear HD0 HD1 HRD he
    go_wp2_with (refine wpList_load_row rfl 34 (.tmp 2) rfl w.heap.size rfl 34 _ (0, 0) _ K0.out Tryz.underlying34 rfl Hi.out ?_)
    refine (HD.out _ HW.out).mono ?_
    rintro e w4 ⟨rfl, hb⟩
    have K0 := hide (K0.out.keep hb)
    have HW := hide (below_step HW.out hb (Nat.le_refl _))
    clear hb
    clear HD
    go_wp2_with (refine wpList_load_row rfl 34 (.tmp 2) rfl w.heap.size rfl 34 _ (0, 0) _ K0.out Tryz.underlying34 rfl Hi.out ?_)
    refine (HGf.out _ HW.out).mono ?_
    rintro e w5 ⟨rfl, hb⟩
    have K0 := hide (K0.out.keep hb)
    have HW := hide (below_step HW.out hb (Nat.le_refl _))
    clear hb
    clear HGf
    go_wp2_with fail
    go_ret
    exact ⟨rfl, HW.out⟩
end Go.Proofs.YtpmipoljnchheaaGreat
