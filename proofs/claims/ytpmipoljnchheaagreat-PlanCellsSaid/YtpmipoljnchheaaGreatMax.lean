/- The law PlanSizes: Size, Cell, and Legend return what is specified. The law PlanCells: At returns the marks that are in a cell. The law's argument: bars as they came in. Arguments opened: a slice of elements, for any kind of element. -/
import Derived.Test.YtpmipoljnchheaaGreatMau
import Derived.Test.YtpmipoljnchheaaGreatMav
import Derived.Test.YtpmipoljnchheaaGreatMaw
import Derived.Test.YtpmipoljnchheaaGreatMab
import Derived.Deep.Slices
import Derived.Deep.Fields
import Derived.ChangeSame
import Derived.ChangeSlices
namespace Go.Proofs.YtpmipoljnchheaaGreat
open Go.RowKit

theorem few_dems {x : DetD} {s : DetS} (f : Few x s) : ∀ d ∈ x.dems, d.name.size ≤ maxLen ∧ d.steps.length ≤ 60000 :=
  fun d hd => ⟨Nat.le_trans (f.dems d hd).1 (by decide), by have := (f.dems d hd).2; omega⟩
theorem cells_same (g : GridD) (p : Pt) : (∃ r c : Int, cellTuple g p = #[.int .i64 r, .int .i64 c, .int .i64 0] ∧ cellB g p = #[.int .i64 r, .int .i64 c, .bool true]) ∨ (cellTuple g p = #[.int .i64 0, .int .i64 0, .int .i64 12] ∧ cellB g p = #[.int .i64 0, .int .i64 0, .bool false]) := by
  by_cases h : InGrid g p
  · exact .inl ⟨cellRow g p, cellCol g p, by rw [cellTuple, if_pos h], by rw [cellB, if_pos h]⟩
  · exact .inr ⟨by rw [cellTuple, if_neg h], by rw [cellB, if_neg h]⟩
set_option maxHeartbeats 8000000 in
set_option maxRecDepth 100000 in
theorem planSizes_law (x : DetD) (s : DetS) (sc : Int) (p : Pt) (w : World) {B : Nat} (h : DetAt w B x s) (hB : B ≤ w.heap.size) (hl : DetLen x s) :
    Calls Tryz.prog 4 #[detV x s, .int .i64 sc, .agg #[.int .i64 p.1, .int .i64 p.2.1, .int .i64 p.2.2]] w fun e w' => e = .returned (.bool true) ∧ Below w.heap.size w w' := by
  have HF := hide (fun (W : World) (hz : Below w.heap.size w W) => few_any x s W (h.carry (hz.mono hB) (Nat.le_refl _)) (Nat.le_trans hB hz.size) hl)
  have HS := hide (fun (f : Few x s) (W : World) (hz : Below w.heap.size w W) => planSize_any x s sc W (h.carry (hz.mono hB) (Nat.le_refl _)) (Nat.le_trans hB hz.size) (few_fit hl f))
  have HC0 := hide (fun (f : Few x s) (he : planErr x sc = 0) (W : World) (hz : Below w.heap.size w W) => planCell_ok x s sc p W (h.carry (hz.mono hB) (Nat.le_refl _)) (Nat.le_trans hB hz.size) (few_fit hl f) he)
  have HC1 := hide (fun (f : Few x s) (he : planErr x sc ≠ 0) (W : World) (hz : Below w.heap.size w W) => planCell_bad x s sc p.1 p.2.1 p.2.2 W (h.carry (hz.mono hB) (Nat.le_refl _)) (Nat.le_trans hB hz.size) (few_fit hl f) he)
  have HL0 := hide (fun (f : Few x s) (hd : detOk x = true) (W : World) (hz : Below w.heap.size w W) => planLegend_ok x s W (h.carry (hz.mono hB) (Nat.le_refl _)) (Nat.le_trans hB hz.size) (few_fit hl f) hd)
  have HL1 := hide (fun (f : Few x s) (hd : detOk x = false) (W : World) (hz : Below w.heap.size w W) => planLegend_bad x s W (h.carry (hz.mono hB) (Nat.le_refl _)) (Nat.le_trans hB hz.size) (few_fit hl f) hd)
  have HV := hide (fun (f : Few x s) (W : World) (hz : Below w.heap.size w W) => refValid25_any x s W (h.carry (hz.mono hB) (Nat.le_refl _)) (Nat.le_trans hB hz.size) (few_fit hl f) (few_dems f))
  have HG := hide (fun (f : Few x s) (W : World) (hz : Below w.heap.size w W) => refGiven_any x s sc W (h.carry (hz.mono hB) (Nat.le_refl _)) (Nat.le_trans hB hz.size) (few_fit hl f) (few_dems f))
  have HRL := hide (fun (f : Few x s) (hd : detOk x = true) (W : World) (hz : Below w.heap.size w W) => refLegend46_ok x s W (h.carry (hz.mono hB) (Nat.le_refl _)) (Nat.le_trans hB hz.size) (few_fit hl f) hd)
  have HRS := hide (fun (f : Few x s) (he : planErr x sc = 0) (W : World) (hz : Below w.heap.size w W) => refSize46_ok x s sc W (h.carry (hz.mono hB) (Nat.le_refl _)) (Nat.le_trans hB hz.size) (few_fit hl f) (plan_facts he).det (plan_facts he).sc)
  have HRC := hide (fun (f : Few x s) (he : planErr x sc = 0) (W : World) (hz : Below w.heap.size w W) => refCell46_ok x s sc p W (h.carry (hz.mono hB) (Nat.le_refl _)) (Nat.le_trans hB hz.size) (few_fit hl f) he)
  have Hi := hide (show (Tryz.prog.info? 34).map (·.size) = some 19 by kernel_rfl)
  obtain ⟨p1, p2, p3⟩ := p
  have K0 := hide ((Blk.new w 34 (detCells x.mem x.rule s)).alloc (.cells #[.int .i64 p1, .int .i64 p2, .int .i64 p3] 44))
  have KP := hide (Blk.new1 w (.cells (detCells x.mem x.rule s) 34) 44 #[.int .i64 p1, .int .i64 p2, .int .i64 p3])
  have HW := hide (below_new2 w (.cells (detCells x.mem x.rule s) 34) (.cells #[.int .i64 p1, .int .i64 p2, .int .i64 p3] 44))
  clear h hB hl
  go_enter Tryz.func4, Tryz.ntmps4
  go_wp2_with fail
  refine (awake_any _).mono ?_
  rintro e w1 ⟨rfl, hb⟩
  have K0 := hide (K0.out.keep hb)
  have KP := hide (KP.out.keep hb)
  have HW := hide (below_step HW.out hb (Nat.le_refl _))
  clear hb
  go_wp2_with (refine wpList_load_row rfl 34 (.tmp 3) rfl w.heap.size rfl 34 _ (0, 0) _ K0.out Tryz.underlying34 rfl Hi.out ?_)
  refine (HF.out _ HW.out).mono ?_
  rintro e w2 ⟨⟨t, rfl, ht⟩, hb⟩
  have Ht := hide ht
  have K0 := hide (K0.out.keep hb)
  have KP := hide (KP.out.keep hb)
  have HW := hide (below_step HW.out hb (Nat.le_refl _))
  clear hb
  clear ht HF
  cases t
  · go_wp2_with fail
    go_ret
    exact ⟨rfl, HW.out⟩
  have Hf := hide (Ht.out rfl)
  have HS := hide (HS.out Hf.out)
  have HG := hide (HG.out Hf.out)
  have HV := hide (HV.out Hf.out)
  clear Ht
  go_wp2_with (refine wpList_load_row rfl 34 (.tmp 3) rfl w.heap.size rfl 34 _ (0, 0) _ K0.out Tryz.underlying34 rfl Hi.out ?_)
  refine (HS.out _ HW.out).mono ?_
  rintro e w3 ⟨rfl, hb⟩
  have K0 := hide (K0.out.keep hb)
  have KP := hide (KP.out.keep hb)
  have HW := hide (below_step HW.out hb (Nat.le_refl _))
  clear hb
  clear HS
  have e0 := KP.out.cell 0
  have e1 := KP.out.cell 1
  have e2 := KP.out.cell 2
  simp at e0 e1 e2
  have lp := KP.out.lt
  by_cases he : planErr x sc = 0
  · have hd := (plan_facts he).det
    have HC := hide (HC0.out Hf.out he)
    have HL := hide (HL0.out Hf.out hd)
    have HRL := hide (HRL.out Hf.out hd)
    have HRS := hide (HRS.out Hf.out he)
    have HRC := hide (HRC.out Hf.out he)
    have hsame := cells_same (gridOf x sc) (p1, p2, p3)
    rw [plan_ok he]
    rw [he] at HG ⊢
    rw [hd] at HV
    clear HC0 HC1 HL0 HL1 he hd
    generalize (gridOf x sc).rows = R at *
    generalize (gridOf x sc).cols = C at *
    generalize cellTuple (gridOf x sc) (p1, p2, p3) = ct at *
    generalize cellB (gridOf x sc) (p1, p2, p3) = cb at *
    generalize (⟨(legendText x.bars).toArray⟩ : ByteArray) = txt at *
    go_wp2_with (refine wpList_load_row rfl 34 (.tmp 3) rfl w.heap.size rfl 34 _ (0, 0) _ K0.out Tryz.underlying34 rfl Hi.out ?_)
    refine (HC.out _ HW.out).mono ?_
    rintro e w4 ⟨rfl, hb⟩
    have K0 := hide (K0.out.keep hb)
    have KP := hide (KP.out.keep hb)
    have HW := hide (below_step HW.out hb (Nat.le_refl _))
    clear hb
    clear HC e0 e1 e2 lp
    rcases hsame with ⟨r, c, rfl, rfl⟩ | ⟨rfl, rfl⟩
    all_goals
      go_wp2_with (refine wpList_load_row rfl 34 (.tmp 3) rfl w.heap.size rfl 34 _ (0, 0) _ K0.out Tryz.underlying34 rfl Hi.out ?_)
      refine (HL.out _ HW.out).mono ?_
      rintro e w5 ⟨rfl, hb⟩
      have K0 := hide (K0.out.keep hb)
      have KP := hide (KP.out.keep hb)
      have HW := hide (below_step HW.out hb (Nat.le_refl _))
      clear hb
      clear HL
      go_wp2_with (refine wpList_load_row rfl 34 (.tmp 3) rfl w.heap.size rfl 34 _ (0, 0) _ K0.out Tryz.underlying34 rfl Hi.out ?_)
      refine (HV.out _ HW.out).mono ?_
      rintro e w6 ⟨rfl, hb⟩
      have K0 := hide (K0.out.keep hb)
      have KP := hide (KP.out.keep hb)
      have HW := hide (below_step HW.out hb (Nat.le_refl _))
      clear hb
      clear HV
      go_wp2_with (refine wpList_load_row rfl 34 (.tmp 3) rfl w.heap.size rfl 34 _ (0, 0) _ K0.out Tryz.underlying34 rfl Hi.out ?_)
      refine (HRL.out _ HW.out).mono ?_
      rintro e w7 ⟨rfl, hb⟩
      have K0 := hide (K0.out.keep hb)
      have KP := hide (KP.out.keep hb)
      have HW := hide (below_step HW.out hb (Nat.le_refl _))
      clear hb
      clear HRL
      go_wp2_with (refine wpList_load_row rfl 34 (.tmp 3) rfl w.heap.size rfl 34 _ (0, 0) _ K0.out Tryz.underlying34 rfl Hi.out ?_)
      refine (HG.out _ HW.out).mono ?_
      rintro e w8 ⟨rfl, hb⟩
      have K0 := hide (K0.out.keep hb)
      have KP := hide (KP.out.keep hb)
      have HW := hide (below_step HW.out hb (Nat.le_refl _))
      clear hb
      clear HG
      go_wp2_with (refine wpList_load_row rfl 34 (.tmp 3) rfl w.heap.size rfl 34 _ (0, 0) _ K0.out Tryz.underlying34 rfl Hi.out ?_)
      refine (HRS.out _ HW.out).mono ?_
      rintro e w9 ⟨rfl, hb⟩
      have K0 := hide (K0.out.keep hb)
      have KP := hide (KP.out.keep hb)
      have HW := hide (below_step HW.out hb (Nat.le_refl _))
      clear hb
      clear HRS
      have e0 := KP.out.cell 0
      have e1 := KP.out.cell 1
      have e2 := KP.out.cell 2
      simp at e0 e1 e2
      have lp := KP.out.lt
      go_wp2_with (refine wpList_load_row rfl 34 (.tmp 3) rfl w.heap.size rfl 34 _ (0, 0) _ K0.out Tryz.underlying34 rfl Hi.out ?_)
      refine (HRC.out _ HW.out).mono ?_
      rintro e w9 ⟨rfl, hb⟩
      have HW := hide (below_step HW.out hb (Nat.le_refl _))
      clear hb HRC
      go_wp2_with fail
      go_ret
      exact ⟨rfl, HW.out⟩
  · have HC := hide (HC1.out Hf.out he)
    rw [plan_bad rfl he]
    simp only [zeroGrid]
    cases hd : detOk x
    · have HL := hide (HL1.out Hf.out hd)
      rw [hd] at HV
      have he' := hide he
      generalize planErr x sc = er at *
      have d1 : (er == 0) = false := by simpa using he'.out
      have d2 : (er != 0) = true := by simpa using he'.out
      clear HC0 HC1 HL0 HL1 HRL HRS HRC he hd
      go_wp2_with (refine wpList_load_row rfl 34 (.tmp 3) rfl w.heap.size rfl 34 _ (0, 0) _ K0.out Tryz.underlying34 rfl Hi.out ?_)
      refine (HC.out _ HW.out).mono ?_
      rintro e w4 ⟨rfl, hb⟩
      have K0 := hide (K0.out.keep hb)
      have KP := hide (KP.out.keep hb)
      have HW := hide (below_step HW.out hb (Nat.le_refl _))
      clear hb
      clear HC e0 e1 e2 lp
      go_wp2_with (refine wpList_load_row rfl 34 (.tmp 3) rfl w.heap.size rfl 34 _ (0, 0) _ K0.out Tryz.underlying34 rfl Hi.out ?_)
      refine (HL.out _ HW.out).mono ?_
      rintro e w5 ⟨rfl, hb⟩
      have K0 := hide (K0.out.keep hb)
      have KP := hide (KP.out.keep hb)
      have HW := hide (below_step HW.out hb (Nat.le_refl _))
      clear hb
      clear HL
      go_wp2_with (refine wpList_load_row rfl 34 (.tmp 3) rfl w.heap.size rfl 34 _ (0, 0) _ K0.out Tryz.underlying34 rfl Hi.out ?_)
      refine (HV.out _ HW.out).mono ?_
      rintro e w6 ⟨rfl, hb⟩
      have K0 := hide (K0.out.keep hb)
      have KP := hide (KP.out.keep hb)
      have HW := hide (below_step HW.out hb (Nat.le_refl _))
      clear hb
      clear HV
      go_wp2_with (refine wpList_load_row rfl 34 (.tmp 3) rfl w.heap.size rfl 34 _ (0, 0) _ K0.out Tryz.underlying34 rfl Hi.out ?_)
      refine (HG.out _ HW.out).mono ?_
      rintro e w8 ⟨rfl, hb⟩
      have K0 := hide (K0.out.keep hb)
      have KP := hide (KP.out.keep hb)
      have HW := hide (below_step HW.out hb (Nat.le_refl _))
      clear hb
      clear HG
      go_wp2_with fail
      go_ret
      exact ⟨rfl, HW.out⟩
    · have HL := hide (HL0.out Hf.out hd)
      have HRL := hide (HRL.out Hf.out hd)
      rw [hd] at HV
      have he' := hide he
      generalize planErr x sc = er at *
      have d1 : (er == 0) = false := by simpa using he'.out
      have d2 : (er != 0) = true := by simpa using he'.out
      generalize (⟨(legendText x.bars).toArray⟩ : ByteArray) = txt at *
      clear HC0 HC1 HL0 HL1 HRS HRC he hd
      go_wp2_with (refine wpList_load_row rfl 34 (.tmp 3) rfl w.heap.size rfl 34 _ (0, 0) _ K0.out Tryz.underlying34 rfl Hi.out ?_)
      refine (HC.out _ HW.out).mono ?_
      rintro e w4 ⟨rfl, hb⟩
      have K0 := hide (K0.out.keep hb)
      have KP := hide (KP.out.keep hb)
      have HW := hide (below_step HW.out hb (Nat.le_refl _))
      clear hb
      clear HC e0 e1 e2 lp
      go_wp2_with (refine wpList_load_row rfl 34 (.tmp 3) rfl w.heap.size rfl 34 _ (0, 0) _ K0.out Tryz.underlying34 rfl Hi.out ?_)
      refine (HL.out _ HW.out).mono ?_
      rintro e w5 ⟨rfl, hb⟩
      have K0 := hide (K0.out.keep hb)
      have KP := hide (KP.out.keep hb)
      have HW := hide (below_step HW.out hb (Nat.le_refl _))
      clear hb
      clear HL
      go_wp2_with (refine wpList_load_row rfl 34 (.tmp 3) rfl w.heap.size rfl 34 _ (0, 0) _ K0.out Tryz.underlying34 rfl Hi.out ?_)
      refine (HV.out _ HW.out).mono ?_
      rintro e w6 ⟨rfl, hb⟩
      have K0 := hide (K0.out.keep hb)
      have KP := hide (KP.out.keep hb)
      have HW := hide (below_step HW.out hb (Nat.le_refl _))
      clear hb
      clear HV
      go_wp2_with (refine wpList_load_row rfl 34 (.tmp 3) rfl w.heap.size rfl 34 _ (0, 0) _ K0.out Tryz.underlying34 rfl Hi.out ?_)
      refine (HRL.out _ HW.out).mono ?_
      rintro e w7 ⟨rfl, hb⟩
      have K0 := hide (K0.out.keep hb)
      have KP := hide (KP.out.keep hb)
      have HW := hide (below_step HW.out hb (Nat.le_refl _))
      clear hb
      clear HRL
      go_wp2_with (refine wpList_load_row rfl 34 (.tmp 3) rfl w.heap.size rfl 34 _ (0, 0) _ K0.out Tryz.underlying34 rfl Hi.out ?_)
      refine (HG.out _ HW.out).mono ?_
      rintro e w8 ⟨rfl, hb⟩
      have K0 := hide (K0.out.keep hb)
      have KP := hide (KP.out.keep hb)
      have HW := hide (below_step HW.out hb (Nat.le_refl _))
      clear hb
      clear HG
      go_wp2_with fail
      go_ret
      exact ⟨rfl, HW.out⟩
end Go.Proofs.YtpmipoljnchheaaGreat
namespace Go.Proofs.YtpmipoljnchheaaGreat
open Go.RowKit

set_option maxHeartbeats 1000000 in
theorem equalStrs_any (A A' : Option Addr) (l : List ByteArray) (n c c' : Nat) (w : World) {B B' : Nat} (h : StrsAt w B A l) (h' : StrsAt w B' A' l) (hn : n = l.length) (hm : n ≤ 300000) :
    Calls Tryz.prog 24 #[.slice A n c, .slice A' n c'] w fun e w' => e = .returned (.bool true) ∧ Below w.heap.size w w' := by
  have Hs := hide h
  have Hs' := hide h'
  have hn' := hide hn
  clear h h' hn
  go_enter Tryz.func24, Tryz.ntmps24
  go_wp2_with fail
  go_loopw [13] (fun i wr => ∃ k : Nat, k ≤ n ∧ i = .int .i64 k ∧ ∃ d, wr = w.drewN d) (fun i _ => n - (intOf i).toNat)
  case atStart => exact ⟨0, Nat.zero_le _, rfl, 0, rfl⟩
  case round =>
    obtain ⟨k, hk, rfl, d, rfl⟩ := hrel
    by_cases hlt : k < n
    · obtain ⟨b, off, x, rfl, _, hx, e0⟩ := StrsAt.get (k := k) Hs.out (by rw [← hn'.out]; exact hlt)
      obtain ⟨b2, off2, y, rfl, _, hy, e1⟩ := StrsAt.get (k := k) Hs'.out (by rw [← hn'.out]; exact hlt)
      rw [hx] at hy
      injection hy with hy
      subst hy
      clear hx
      go_wp2_with fail
      go_quiet (fail)
      go_wp2_with fail
      go_roundw
      case rel => exact ⟨k + 1, by omega, by go_num, _, rfl⟩
      case measure => simp [intOf]; omega
    · obtain rfl : k = n := by omega
      go_wp2_with fail
      go_ret
      exact ⟨rfl, ⟨rfl, rfl, rfl, Nat.le_refl _, fun _ _ => rfl⟩⟩
set_option maxHeartbeats 8000000 in
set_option maxRecDepth 100000 in
theorem planCells_law (x : DetD) (s : DetS) (sc row col : Int) (w : World) {B : Nat} (h : DetAt w B x s) (hB : B ≤ w.heap.size) (hl : DetLen x s) :
    Calls Tryz.prog 6 #[detV x s, .int .i64 sc, .int .i64 row, .int .i64 col] w fun e w' => e = .returned (.bool true) ∧ Below w.heap.size w w' := by
  have HF := hide (fun (W : World) (hz : Below w.heap.size w W) => few_any x s W (h.carry (hz.mono hB) (Nat.le_refl _)) (Nat.le_trans hB hz.size) hl)
  have HA0 := hide (fun (f : Few x s) (he : planErr x sc = 0) (hr : 0 ≤ row ∧ row < (gridOf x sc).rows) (hc : 0 ≤ col ∧ col < (gridOf x sc).cols) (W : World) (hz : Below w.heap.size w W) => planAt_ok x s sc row col W (h.carry (hz.mono hB) (Nat.le_refl _)) (Nat.le_trans hB hz.size) (few_fit hl f) he hr hc)
  have HA1 := hide (fun (f : Few x s) (he : planErr x sc ≠ 0) (W : World) (hz : Below w.heap.size w W) => planAt_bad x s sc row col W (h.carry (hz.mono hB) (Nat.le_refl _)) (Nat.le_trans hB hz.size) (few_fit hl f) he)
  have HA2 := hide (fun (f : Few x s) (he : planErr x sc = 0) (ho : row < 0 ∨ (gridOf x sc).rows ≤ row ∨ col < 0 ∨ (gridOf x sc).cols ≤ col) (W : World) (hz : Below w.heap.size w W) => planAt_out x s sc row col W (h.carry (hz.mono hB) (Nat.le_refl _)) (Nat.le_trans hB hz.size) (few_fit hl f) he ho)
  have HG := hide (fun (f : Few x s) (W : World) (hz : Below w.heap.size w W) => refGiven_any x s sc W (h.carry (hz.mono hB) (Nat.le_refl _)) (Nat.le_trans hB hz.size) (few_fit hl f) (few_dems f))
  have HRS := hide (fun (f : Few x s) (he : planErr x sc = 0) (W : World) (hz : Below w.heap.size w W) => refSize46_ok x s sc W (h.carry (hz.mono hB) (Nat.le_refl _)) (Nat.le_trans hB hz.size) (few_fit hl f) (plan_facts he).det (plan_facts he).sc)
  have HRA := hide (fun (f : Few x s) (he : planErr x sc = 0) (hr : 0 ≤ row ∧ row < (gridOf x sc).rows) (hc : 0 ≤ col ∧ col < (gridOf x sc).cols) (W : World) (hz : Below w.heap.size w W) => refAt46_ok x s sc row col W (h.carry (hz.mono hB) (Nat.le_refl _)) (Nat.le_trans hB hz.size) (few_fit hl f) he hr hc)
  have Hms := hide (show marksAt x sc row col = (seenAt x sc row col).map (barMark x.bars) from rfl)
  have Hsm := hide (fun (k : Int) (hk : k ∈ seenAt x sc row col) => seenAt_mem hk)
  have Hsl := hide (seenAt_len x sc row col)
  have H3 := hide h.h3
  have L3 := hide hl.l3
  have HBB := hide hB
  have Hi := hide (show (Tryz.prog.info? 34).map (·.size) = some 19 by kernel_rfl)
  have K0 := hide (Blk.new w 34 (detCells x.mem x.rule s))
  have HW := hide (below_new w (.cells (detCells x.mem x.rule s) 34))
  clear h hB hl
  go_enter Tryz.func6, Tryz.ntmps6
  go_wp2_with fail
  refine (awake_any _).mono ?_
  rintro e w1 ⟨rfl, hb⟩
  have K0 := hide (K0.out.keep hb)
  have HW := hide (below_step HW.out hb (Nat.le_refl _))
  clear hb
  go_wp2_with (refine wpList_load_row rfl 34 (.tmp 4) rfl w.heap.size rfl 34 _ (0, 0) _ K0.out Tryz.underlying34 rfl Hi.out ?_)
  refine (HF.out _ HW.out).mono ?_
  rintro e w2 ⟨⟨t, rfl, ht⟩, hb⟩
  have Ht := hide ht
  have K0 := hide (K0.out.keep hb)
  have HW := hide (below_step HW.out hb (Nat.le_refl _))
  clear hb
  clear ht HF
  cases t
  · go_wp2_with fail
    go_ret
    exact ⟨rfl, HW.out⟩
  have Hf := hide (Ht.out rfl)
  have HGf := hide (HG.out Hf.out)
  clear Ht HG
  by_cases he : planErr x sc = 0
  case neg =>
    have HA := hide (HA1.out Hf.out he)
    have he' := hide he
    generalize planErr x sc = er at *
    have d1 : (er == 0) = false := by simpa using he'.out
    have d2 : (er != 0) = true := by simpa using he'.out
    clear HA0 HA1 HA2 HRS HRA he
    go_wp2_with (refine wpList_load_row rfl 34 (.tmp 4) rfl w.heap.size rfl 34 _ (0, 0) _ K0.out Tryz.underlying34 rfl Hi.out ?_)
    refine (HA.out _ HW.out).mono ?_
    rintro e w3 ⟨rfl, hb⟩
    have K0 := hide (K0.out.keep hb)
    have HW := hide (below_step HW.out hb (Nat.le_refl _))
    clear hb
    clear HA
    go_wp2_with (refine wpList_load_row rfl 34 (.tmp 4) rfl w.heap.size rfl 34 _ (0, 0) _ K0.out Tryz.underlying34 rfl Hi.out ?_)
    refine (HGf.out _ HW.out).mono ?_
    rintro e w4 ⟨rfl, hb⟩
    have K0 := hide (K0.out.keep hb)
    have HW := hide (below_step HW.out hb (Nat.le_refl _))
    clear hb
    clear HGf
    go_wp2_with fail
    go_ret
    exact ⟨rfl, HW.out⟩
  case pos =>
    rw [he] at HGf
    have HR := hide (HRS.out Hf.out he)
    by_cases hout : row < 0 ∨ (gridOf x sc).rows ≤ row ∨ col < 0 ∨ (gridOf x sc).cols ≤ col
    · have HA := hide (HA2.out Hf.out he hout)
      generalize (gridOf x sc).rows = R at *
      generalize (gridOf x sc).cols = C at *
      have hways : decide (row < 0) = true ∨ (decide (row < 0) = false ∧ decide (R ≤ row) = true) ∨ (decide (row < 0) = false ∧ decide (R ≤ row) = false ∧ decide (col < 0) = true) ∨ (decide (row < 0) = false ∧ decide (R ≤ row) = false ∧ decide (col < 0) = false ∧ decide (C ≤ col) = true) := by
        simp only [decide_eq_true_eq, decide_eq_false_iff_not]
        omega
      clear HA0 HA1 HA2 HRS HRA he hout
      go_wp2_with (refine wpList_load_row rfl 34 (.tmp 4) rfl w.heap.size rfl 34 _ (0, 0) _ K0.out Tryz.underlying34 rfl Hi.out ?_)
      refine (HA.out _ HW.out).mono ?_
      rintro e w3 ⟨rfl, hb⟩
      have K0 := hide (K0.out.keep hb)
      have HW := hide (below_step HW.out hb (Nat.le_refl _))
      clear hb
      clear HA
      go_wp2_with (refine wpList_load_row rfl 34 (.tmp 4) rfl w.heap.size rfl 34 _ (0, 0) _ K0.out Tryz.underlying34 rfl Hi.out ?_)
      refine (HGf.out _ HW.out).mono ?_
      rintro e w4 ⟨rfl, hb⟩
      have K0 := hide (K0.out.keep hb)
      have HW := hide (below_step HW.out hb (Nat.le_refl _))
      clear hb
      clear HGf
      go_wp2_with (refine wpList_load_row rfl 34 (.tmp 4) rfl w.heap.size rfl 34 _ (0, 0) _ K0.out Tryz.underlying34 rfl Hi.out ?_)
      refine (HR.out _ HW.out).mono ?_
      rintro e w5 ⟨rfl, hb⟩
      have K0 := hide (K0.out.keep hb)
      have HW := hide (below_step HW.out hb (Nat.le_refl _))
      clear hb
      clear HR
      rcases hways with q0 | ⟨q0, q1⟩ | ⟨q0, q1, q2⟩ | ⟨q0, q1, q2, q3⟩
      all_goals
        go_wp2_with fail
        go_ret
        exact ⟨rfl, HW.out⟩
    · have hin : (0 ≤ row ∧ row < (gridOf x sc).rows) ∧ (0 ≤ col ∧ col < (gridOf x sc).cols) := by omega
      have HA := hide (HA0.out Hf.out he hin.1 hin.2)
      have HRa := hide (HRA.out Hf.out he hin.1 hin.2)
      generalize (gridOf x sc).rows = R at *
      generalize (gridOf x sc).cols = C at *
      have q0 : decide (row < 0) = false := by simp; omega
      have q1 : decide (R ≤ row) = false := by simp; omega
      have q2 : decide (col < 0) = false := by simp; omega
      have q3 : decide (C ≤ col) = false := by simp; omega
      have hbars := Hf.out.bars
      generalize marksAt x sc row col = MS at *
      generalize seenAt x sc row col = SE at *
      clear HA0 HA1 HA2 HRS HRA he hout hin
      obtain ⟨sn, hsn⟩ : ∃ n, n = SE.length := ⟨_, rfl⟩
      obtain ⟨mn, hmn⟩ : ∃ n, n = MS.length := ⟨_, rfl⟩
      rw [← hsn] at HRa Hsl
      rw [← hmn] at HA
      have Hsn := hide hsn
      have Hmn := hide hmn
      have hsm : mn = sn := by rw [hmn, hsn, Hms.out, List.length_map]
      subst hsm
      have hs63 : mn ≤ 63 := by
        have h1 := Hsl.out
        rw [← L3.out] at h1
        omega
      clear hsn hmn
      go_wp2_with (refine wpList_load_row rfl 34 (.tmp 4) rfl w.heap.size rfl 34 _ (0, 0) _ K0.out Tryz.underlying34 rfl Hi.out ?_)
      refine (HA.out _ HW.out).mono ?_
      rintro e w3 ⟨AM, cM, rfl, hms, hb⟩
      have HM := hide hms
      have HW3 := hide hb.size
      have K0 := hide (K0.out.keep hb)
      have HW := hide (below_step HW.out hb (Nat.le_refl _))
      clear hb
      clear HA hms
      go_wp2_with (refine wpList_load_row rfl 34 (.tmp 4) rfl w.heap.size rfl 34 _ (0, 0) _ K0.out Tryz.underlying34 rfl Hi.out ?_)
      refine (HGf.out _ HW.out).mono ?_
      rintro e w4 ⟨rfl, hb⟩
      have HM := hide (HM.out.carry (Flat.carried _) hb hb.size)
      have K0 := hide (K0.out.keep hb)
      have HW := hide (below_step HW.out hb (Nat.le_refl _))
      clear hb
      clear HGf
      go_wp2_with (refine wpList_load_row rfl 34 (.tmp 4) rfl w.heap.size rfl 34 _ (0, 0) _ K0.out Tryz.underlying34 rfl Hi.out ?_)
      refine (HR.out _ HW.out).mono ?_
      rintro e w5 ⟨rfl, hb⟩
      have HM := hide (HM.out.carry (Flat.carried _) hb hb.size)
      have K0 := hide (K0.out.keep hb)
      have HW := hide (below_step HW.out hb (Nat.le_refl _))
      clear hb
      clear HR
      go_wp2_with (refine wpList_load_row rfl 34 (.tmp 4) rfl w.heap.size rfl 34 _ (0, 0) _ K0.out Tryz.underlying34 rfl Hi.out ?_)
      refine (HRa.out _ HW.out).mono ?_
      rintro e w6 ⟨AS, cS, rfl, hss, hb⟩
      have HM := hide (HM.out.carry (Flat.carried _) hb hb.size)
      have HSS := hide hss
      have K0 := hide (K0.out.keep hb)
      have HW := hide (below_step HW.out hb (Nat.le_refl _))
      clear hb
      clear HRa hss
      go_wp2_with fail
      go_loopw [14, 78] (fun v iv wr => ∃ k : Nat, k ≤ mn ∧ iv = .int .i64 k ∧ (∃ acc : List ByteArray, Hid (Row wr w6.heap.size 9 1 encSt v acc) ∧ Hid (acc = (SE.take k).map (barMark x.bars)) ∧ acc.length = k) ∧ Hid (Below w6.heap.size w6 wr)) (fun _ iv _ => mn - (intOf iv).toNat)
      case atStart => exact ⟨0, Nat.zero_le _, rfl, ⟨[], hide (Row.nil _ _ _ _ _), hide rfl, rfl⟩, hide (Below.refl _ _)⟩
      case round =>
        obtain ⟨k, hk, rfl, ⟨acc, hrow, hacc, hal⟩, hbr⟩ := hrel
        obtain ⟨A0, c0, rfl⟩ := hrow.out.val
        have HWr := hide (below_step HW.out hbr.out (Nat.le_refl _))
        by_cases hlt : k < mn
        · obtain ⟨b, off, q, rfl, hbl, hx, f0⟩ := Ints.get (k := k) (HSS.out.carry hbr.out hbr.out.size) (by rw [← Hsn.out]; exact hlt)
          obtain ⟨z0, z1⟩ := Hsm.out q (mem_of_get hx)
          obtain ⟨j, rfl⟩ := Int.eq_ofNat_of_zero_le z0
          obtain ⟨b3, off3, y, A', c', hA3, hbl3, hy, _, g0, g1, g2, g3, g4⟩ := BarsAt.get (k := j) (H3.out.carry (HWr.out.mono HBB.out) (Nat.le_refl _)) (by omega)
          have kk := K0.out.below hbr.out K0.out.lt
          have e6 := kk.cell 6
          simp at e6
          rw [hA3] at e6
          have lk := kk.lt
          have hn := L3.out
          have hjn : j < s.n3 := by omega
          have i0 : (0 : Int) ≤ (j : Int) := by omega
          have Hn := hide (show (SE.take (k + 1)).map (barMark x.bars) = acc ++ [y.mark] by
            rw [take_snoc' hx, List.map_append, hacc.out, List.map_singleton, barMark_at hy])
          obtain ⟨mk, hmk⟩ : ∃ m, m = y.mark := ⟨_, rfl⟩
          rw [← hmk] at Hn g0
          have hs6 := hbr.out.size
          clear hx hbl hbl3 hy z0 z1 kk hn hmk g1 g2 g3 g4 hA3 hacc
          go_wp2_with (at_builtin; refine wpList_append1 rfl (.tmp 82) (.tmp 89) 56 rfl w6.heap.size 9 (.string .empty) 1 16 encSt Tryz.underlying56 (by kernel_rfl) rfl (by omega) encSt_len encSt_one _ acc mk rfl (hrow.out.alloc _) _ rfl (Blk.new wr _ _) (by omega) (by omega) (le_alloc hs6 _) ?_; intro A9 c9 w9 hrow9 hb9 hkeep9)
          go_roundw
          case rel => exact ⟨k + 1, by omega, by go_num, ⟨acc ++ [mk], hide (by have h9 := hrow9; rw [hal] at h9; exact h9), hide Hn.out.symm, by simp; omega⟩, hide ((hbr.out.alloc hs6 _).trans hb9)⟩
          case measure => simp [intOf]; omega
        · obtain rfl : k = mn := by omega
          have hfin : acc = MS := by rw [hacc.out, Hsn.out, List.take_length, Hms.out]
          have HR9 := hide (show StrsAt wr wr.heap.size A0 MS by rw [← hfin]; exact Row.read hrow.out encSt_len (by omega))
          have HM9 := hide (HM.out.carry (Flat.carried _) hbr.out hbr.out.size)
          have HE := hide (equalStrs_any AM A0 MS k cM c0 wr HM9.out HR9.out Hmn.out (by omega))
          rw [hal]
          clear hacc hrow hfin hbr HR9 HM9
          go_wp2_with fail
          refine HE.out.mono ?_
          rintro e w9 ⟨rfl, hb⟩
          have HF9 := hide (below_step HWr.out hb (Nat.le_refl _))
          clear hb HE
          go_wp2_with fail
          go_ret
          exact ⟨rfl, HF9.out⟩
end Go.Proofs.YtpmipoljnchheaaGreat
namespace Go.Proofs.YtpmipoljnchheaaGreat
open Go.RowKit Go.ChangeShapes Go.WideShapes Go.Deep

theorem add_at (b off i : Nat) : (⟨b, off, none⟩ : Addr).add i = ⟨b, off + i, none⟩ := by
  unfold Addr.add
  split <;> simp_all
section
variable {H : Type} {enc : TypeId × Value → H} {w : World} {base : Nat} {held : Bool}
theorem ints_open {n : Nat} {cs : List Value} {x : DataW H × List MemPlace} (h : DataW.trod enc Tryz.prog w base (fun _ => true) held n 62 cs = some x) :
    ∃ (A : Option Addr) (l : List Int) (c : Nat), cs = [.slice A l.length c] ∧ Ints w w.heap.size A l := by
  rcases open_ints Tryz.underlying62 Tryz.underlying3 (by kernel_rfl) h with ⟨rfl, _⟩ | ⟨a, len, cap, zs, rfl, _, hl, hm, hz, _, hcell, _⟩
  · exact ⟨none, [], 0, rfl, SlOf.nil _ _ _ _ _⟩
  · have hz' : zs.length = cap := by simpa using hz
    refine ⟨some a, zs.take len, cap, by simp [hz', Nat.min_eq_left hl], ?_⟩
    intro h0
    rw [List.length_take] at h0
    obtain ⟨b, off, spot⟩ := a
    have hc := hcell 0 (by omega)
    have hspot : spot = none := by simpa [Addr.add] using World.cell?_spot hc
    subst hspot
    refine ⟨b, off, rfl, World.block_lt_of_cell? w _ (by simpa [Addr.add] using hc), fun k y hy => ?_⟩
    have hk : k < len := by
      have := lt_of_get hy
      rw [List.length_take] at this
      omega
    have hy' : zs[k]? = some y := by rw [List.getElem?_take, if_pos hk] at hy; exact hy
    have hck := hcell k (by omega)
    rw [List.getD_eq_getElem?_getD, hy'] at hck
    refine ⟨encInt y, rfl, rfl, fun j v hj => ?_⟩
    cases j with
    | zero =>
      simp [encInt] at hj
      subst hj
      simpa [add_at] using hck
    | succ j => simp [encInt] at hj

theorem len5v {l : List Value} (h : l.length = 5) : ∃ a b c d e, l = [a, b, c, d, e] := by
  rcases l with _ | ⟨a, _ | ⟨b, _ | ⟨c, _ | ⟨d, _ | ⟨e, _ | ⟨f, r⟩⟩⟩⟩⟩⟩ <;> simp at h
  exact ⟨a, b, c, d, e, rfl⟩
theorem some_of_lt {α : Type} {l : List α} {j : Nat} (h : j < l.length) : ∃ y, l[j]? = some y := ⟨_, List.getElem?_eq_getElem h⟩

theorem bar_open {n : Nat} {cs : List Value} {x : DataW H × List MemPlace} (h : DataW.trod enc Tryz.prog w base (fun _ => true) held n 65 cs = some x) :
    ∃ b : BarD, barR w w.heap.size cs b := by
  obtain ⟨xs, m, _, _, hl, hxl, hf⟩ := DataW.trod_struct Tryz.underlying65 h
  have hx5 : xs.length = 5 := hxl
  rw [show (Tryz.prog).cellsOf 65 = 5 by kernel_rfl] at hl
  obtain ⟨v0, v1, v2, v3, v4, rfl⟩ := len5v hl
  have c9 : (Tryz.prog).cellsOf 9 = 1 := by kernel_rfl
  have c3 : (Tryz.prog).cellsOf 3 = 1 := by kernel_rfl
  have c30 : (Tryz.prog).cellsOf 62 = 1 := by kernel_rfl
  have h0 : DataW.trod enc Tryz.prog w base (fun _ => true) held m 9 (([v0, v1, v2, v3, v4].drop 0).take ((Tryz.prog).cellsOf 9)) = xs[0]? := hf 0 _ rfl
  have h1 : DataW.trod enc Tryz.prog w base (fun _ => true) held m 3 (([v0, v1, v2, v3, v4].drop 1).take ((Tryz.prog).cellsOf 3)) = xs[1]? := hf 1 _ rfl
  have h2 : DataW.trod enc Tryz.prog w base (fun _ => true) held m 3 (([v0, v1, v2, v3, v4].drop 2).take ((Tryz.prog).cellsOf 3)) = xs[2]? := hf 2 _ rfl
  have h3 : DataW.trod enc Tryz.prog w base (fun _ => true) held m 3 (([v0, v1, v2, v3, v4].drop 3).take ((Tryz.prog).cellsOf 3)) = xs[3]? := hf 3 _ rfl
  have h4 : DataW.trod enc Tryz.prog w base (fun _ => true) held m 62 (([v0, v1, v2, v3, v4].drop 4).take ((Tryz.prog).cellsOf 62)) = xs[4]? := hf 4 _ rfl
  obtain ⟨y0, e0⟩ := some_of_lt (l := xs) (j := 0) (by omega)
  obtain ⟨y1, e1⟩ := some_of_lt (l := xs) (j := 1) (by omega)
  obtain ⟨y2, e2⟩ := some_of_lt (l := xs) (j := 2) (by omega)
  obtain ⟨y3, e3⟩ := some_of_lt (l := xs) (j := 3) (by omega)
  obtain ⟨y4, e4⟩ := some_of_lt (l := xs) (j := 4) (by omega)
  rw [c9, e0] at h0
  rw [c3, e1] at h1
  rw [c3, e2] at h2
  rw [c3, e3] at h3
  rw [c30, e4] at h4
  obtain ⟨s, hs, _, _⟩ := DataW.trod_string Tryz.underlying9 h0
  obtain ⟨n1, hn1, _, _⟩ := DataW.trod_int Tryz.underlying3 h1
  obtain ⟨n2, hn2, _, _⟩ := DataW.trod_int Tryz.underlying3 h2
  obtain ⟨n3, hn3, _, _⟩ := DataW.trod_int Tryz.underlying3 h3
  obtain ⟨A, l, c, hA, hi⟩ := ints_open h4
  simp at hs hn1 hn2 hn3 hA
  exact ⟨⟨s, n1, n2, n3, l⟩, A, c, by rw [hs, hn1, hn2, hn3, hA], hi⟩

theorem bars_open {n : Nat} {cs : List Value} {x : DataW H × List MemPlace} (h : DataW.trod enc Tryz.prog w base (fun _ => true) held n 27 cs = some x) :
    ∃ (A : Option Addr) (l : List BarD) (c : Nat), cs = [.slice A l.length c] ∧ BarsAt w w.heap.size A l ∧ l.length ≤ maxLen := by
  rcases open_slice Tryz.underlying27 h with ⟨rfl, _⟩ | ⟨a, len, cap, m, n', D, Pl, rfl, _, hl, hm, hmm, _, hi⟩
  · exact ⟨none, [], 0, rfl, SlOf.nil _ _ _ _ _, by simp⟩
  · have hmm' : m = cap := by simpa using hmm
    have key : ∀ i, i < len → ∃ b : BarD, ∃ vs : List Value, vs.length = 5 ∧ barR w w.heap.size vs b ∧ ∀ j v, vs[j]? = some v → w.cell? (a.add (i * 5 + j)) = some v := by
      intro i hlt
      obtain ⟨cs', hc, ht⟩ := hi i (by omega)
      obtain ⟨b, hb⟩ := bar_open ht
      rw [show (Tryz.prog).cellsOf 65 = 5 by kernel_rfl] at hc
      obtain ⟨_, hcl, hat⟩ := World.cells?_some hc
      refine ⟨b, cs', hcl, hb, fun j v hj => ?_⟩
      have := hat j (by have := lt_of_get hj; omega)
      rw [Go.Deep.add_add, hj] at this
      exact this
    obtain ⟨f, hf⟩ : ∃ f : Nat → BarD, ∀ i, i < len → ∃ vs : List Value, vs.length = 5 ∧ barR w w.heap.size vs (f i) ∧ ∀ j v, vs[j]? = some v → w.cell? (a.add (i * 5 + j)) = some v := by
      refine ⟨fun i => if h : i < len then (key i h).choose else ⟨.empty, 0, 0, 0, []⟩, fun i hi => ?_⟩
      simp only [dif_pos hi]
      exact (key i hi).choose_spec
    refine ⟨some a, (List.range len).map f, cap, by simp, ?_, by simp; omega⟩
    intro h0
    have h0' : 0 < len := by simpa using h0
    obtain ⟨b, off, spot⟩ := a
    obtain ⟨vs0, hvl, _, hc0⟩ := hf 0 h0'
    obtain ⟨u, hu⟩ := some_of_lt (l := vs0) (j := 0) (by omega)
    have hcell := hc0 0 u hu
    have hspot : spot = none := by simpa [Addr.add] using World.cell?_spot hcell
    subst hspot
    refine ⟨b, off, rfl, World.block_lt_of_cell? w _ (by simpa [Addr.add] using hcell), fun k y hy => ?_⟩
    simp only [List.getElem?_map, Option.map_eq_some_iff] at hy
    obtain ⟨k', hk', rfl⟩ := hy
    have hkl : k < len := by
      have := lt_of_get hk'
      simpa using this
    obtain rfl : k' = k := by
      rw [List.getElem?_range hkl] at hk'
      injection hk' with hk'
      exact hk'.symm
    obtain ⟨vs, h1, h2, h3⟩ := hf k' hkl
    exact ⟨vs, h1, h2, fun j v hj => by have := h3 j v hj; simpa [add_at, Nat.add_assoc] using this⟩
end
end Go.Proofs.YtpmipoljnchheaaGreat
namespace Go.Proofs.YtpmipoljnchheaaGreat
open Go.RowKit Go.ChangeShapes Go.WideShapes Go.Deep

theorem len2v' {l : List Value} (h : l.length = 2) : ∃ a b, l = [a, b] := by
  rcases l with _ | ⟨a, _ | ⟨b, _ | ⟨c, r⟩⟩⟩ <;> simp at h
  exact ⟨a, b, rfl⟩
theorem len3v' {l : List Value} (h : l.length = 3) : ∃ a b c, l = [a, b, c] := by
  rcases l with _ | ⟨a, _ | ⟨b, _ | ⟨c, _ | ⟨d, r⟩⟩⟩⟩ <;> simp at h
  exact ⟨a, b, c, rfl⟩
section
variable {H : Type} {enc : TypeId × Value → H} {w : World} {base : Nat} {held : Bool}
set_option maxRecDepth 100000 in
theorem slice_open {α : Type} [Inhabited α] {ts t : TypeId} {size : Nat} {R : World → Nat → List Value → α → Prop} (hu : (Tryz.prog).underlying ts = some (.slice t)) (hsz : (Tryz.prog).cellsOf t = size) (h0s : 0 < size)
    (helem : ∀ (n : Nat) (cs : List Value) (x : DataW H × List MemPlace), DataW.trod enc Tryz.prog w base (fun _ => true) held n t cs = some x → ∃ b : α, R w w.heap.size cs b)
    {n : Nat} {cs : List Value} {x : DataW H × List MemPlace} (h : DataW.trod enc Tryz.prog w base (fun _ => true) held n ts cs = some x) :
    ∃ (A : Option Addr) (l : List α) (c : Nat), cs = [.slice A l.length c] ∧ SlOf w w.heap.size size R A l ∧ l.length ≤ maxLen ∧ l.length ≤ c := by
  rcases open_slice hu h with ⟨rfl, _⟩ | ⟨a, len, cap, m, n', D, Pl, rfl, _, hl, hm, hmm, _, hi⟩
  · exact ⟨none, [], 0, rfl, SlOf.nil _ _ _ _ _, by simp, by simp⟩
  · have hmm' : m = cap := by simpa using hmm
    have key : ∀ i, i < len → ∃ b : α, ∃ vs : List Value, vs.length = size ∧ R w w.heap.size vs b ∧ ∀ j v, vs[j]? = some v → w.cell? (a.add (i * size + j)) = some v := by
      intro i hlt
      obtain ⟨cs', hc, ht⟩ := hi i (by omega)
      obtain ⟨b, hb⟩ := helem _ _ _ ht
      rw [hsz] at hc
      obtain ⟨_, hcl, hat⟩ := World.cells?_some hc
      refine ⟨b, cs', hcl, hb, fun j v hj => ?_⟩
      have := hat j (by have := lt_of_get hj; omega)
      rw [Go.Deep.add_add, hj] at this
      exact this
    obtain ⟨f, hf⟩ : ∃ f : Nat → α, ∀ i, i < len → ∃ vs : List Value, vs.length = size ∧ R w w.heap.size vs (f i) ∧ ∀ j v, vs[j]? = some v → w.cell? (a.add (i * size + j)) = some v := by
      refine ⟨fun i => if h : i < len then (key i h).choose else default, fun i hi => ?_⟩
      simp only [dif_pos hi]
      exact (key i hi).choose_spec
    refine ⟨some a, (List.range len).map f, cap, by simp, ?_, by simp; omega, by simp; omega⟩
    intro h0
    have h0' : 0 < len := by simpa using h0
    obtain ⟨b, off, spot⟩ := a
    obtain ⟨vs0, hvl, _, hc0⟩ := hf 0 h0'
    obtain ⟨u, hu⟩ := some_of_lt (l := vs0) (j := 0) (by omega)
    have hcell := hc0 0 u hu
    have hspot : spot = none := by simpa [Addr.add] using World.cell?_spot hcell
    subst hspot
    refine ⟨b, off, rfl, World.block_lt_of_cell? w _ (by simpa [Addr.add] using hcell), fun k y hy => ?_⟩
    simp only [List.getElem?_map, Option.map_eq_some_iff] at hy
    obtain ⟨k', hk', rfl⟩ := hy
    have hkl : k < len := by
      have := lt_of_get hk'
      simpa using this
    obtain rfl : k' = k := by
      rw [List.getElem?_range hkl] at hk'
      injection hk' with hk'
      exact hk'.symm
    obtain ⟨vs, h1, h2, h3⟩ := hf k' hkl
    exact ⟨vs, h1, h2, fun j v hj => by have := h3 j v hj; simpa [add_at, Nat.add_assoc] using this⟩
end
end Go.Proofs.YtpmipoljnchheaaGreat
