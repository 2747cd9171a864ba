/- Small schedules and runs; small details. Small details: what law46.few gives. The law PlanSizes: Size, Cell, and Legend return what is specified. The law's argument: bars as they came in. -/
import Derived.Test.YtpmipoljnchheaaGreatMas
import Derived.Test.YtpmipoljnchheaaGreatMau
import Derived.Test.YtpmipoljnchheaaGreatMav
import Derived.Test.YtpmipoljnchheaaGreatMar
import Derived.Test.YtpmipoljnchheaaGreatMab
import Derived.Deep.Slices
import Derived.Deep.Fields
import Derived.ChangeSame
import Derived.ChangeSlices
namespace Go.Proofs.YtpmipoljnchheaaGreat
open Go.RowKit

set_option maxHeartbeats 8000000 in
set_option maxRecDepth 100000 in
theorem small16_any (A : Option Addr) (l : List BarD) (n c : Nat) (A2 : Option Addr) (l2 : List RunD) (n2 c2 : Nat) (w : World) {B : Nat} (h : BarsAt w B A l) (h2 : RunsAt w B A2 l2) (hB : B ≤ w.heap.size) (hn : n = l.length) (hn2 : n2 = l2.length) :
    Calls Tryz.prog 59 #[.slice A n c, .slice A2 n2 c2, .int .i64 6, .int .i64 16] w fun e w' => RetB e (n ≤ 63 ∧ n2 ≤ 63 ∧ Tame l) ∧ Below w.heap.size w w' := by
  have hn' := hide hn
  have hn2' := hide hn2
  have Hs := hide h
  have H2 := hide h2
  clear hn hn2 h h2
  go_enter Tryz.func59, Tryz.ntmps59
  go_upto_region 1 with fail
  go_cut [41] from 12 (fun v W => (∃ t : Bool, v = .bool t ∧ Hid (t = false → n ≤ 63 ∧ n2 ≤ 63)) ∧ Below w.heap.size w W)
  case first =>
    go_wp2_with fail
    all_goals go_meet
    all_goals exact ⟨⟨_, rfl, hide (fun h => by simp at h <;> omega)⟩, Below.refl _ _⟩
  case rest =>
    obtain ⟨⟨t, rfl, ht⟩, hb⟩ := hcut
    cases t
    case true =>
      go_wp2_with fail
      go_ret
      exact ⟨⟨false, rfl, fun h => by cases h⟩, hb⟩
    case false =>
      obtain ⟨h63, h263⟩ := ht.out rfl
      clear ht
      have hb0 := hide hb
      clear hb
      go_wp2_with fail
      go_loopw [9] (fun i wr => ∃ k : Nat, k ≤ n ∧ i = .int .i64 k ∧ Hid (Tame (l.take k)) ∧ Below w.heap.size w wr) (fun i _ => n - (intOf i).toNat)
      case atStart => exact ⟨0, Nat.zero_le _, rfl, hide (by intro x hx; simp at hx), hb0.out⟩
      case round =>
        clear hb0
        obtain ⟨k, hk, rfl, hq, hbr⟩ := hrel
        by_cases hlt : k < n
        · have HR := hide (Hs.out.carry (hbr.mono hB) (Nat.le_refl B))
          obtain ⟨b, off, x, A', c', rfl, hbl, hx, hi, h0, h1, h2, h3, h4⟩ := BarsAt.get (k := k) HR.out (by rw [← hn'.out]; exact hlt)
          have Hnext := hide (fun (hx1 : x.dims.length ≤ 8 ∧ x.mark.size ≤ 60) => (show Tame (l.take (k + 1)) by
            rw [take_snoc' hx]
            intro d hd
            rcases List.mem_append.1 hd with h | h
            · exact hq.out d h
            · obtain rfl := List.mem_singleton.1 h; exact ⟨Nat.le_trans hx1.2 (by decide), by omega⟩))
          clear hx hi hbl hq
          obtain ⟨mark, size, cnt, code, dims⟩ := x
          simp only [] at h0 h1 h2 h3 h4 Hnext
          generalize dims.length = dl at *
          go_wp2_with fail
          refine (short_any mark size cnt code A' dl c' _).mono ?_
          rintro e w2 ⟨⟨t, rfl, ht⟩, hb2⟩
          have Hb2 := hide (hbr.trans (hb2.mono hbr.size))
          clear hb2
          cases t
          · clear ht Hnext
            go_wp2_with fail
            go_ret
            exact ⟨⟨false, rfl, fun h => by cases h⟩, Hb2.out⟩
          · have Hnext := hide (Hnext.out (ht rfl))
            clear ht
            go_wp2_with fail
            go_roundw
            case rel => exact ⟨k + 1, by omega, by go_num, Hnext, Hb2.out⟩
            case measure => simp [intOf]; omega
        · obtain rfl : k = n := by omega
          have HT := hide (show Tame l by have := hq.out; rwa [hn'.out, List.take_length] at this)
          have Hb0 := hide hbr
          clear hq hbr
          rename World => wo
          go_wp2_with fail
          go_loopw [10, 11] (fun v i wr => ∃ j : Nat, j ≤ n2 ∧ i = .int .i64 j ∧ (∃ t : Int, v = .int .i64 t ∧ 0 ≤ t ∧ t ≤ 16 * j) ∧ Below w.heap.size w wr) (fun _ i _ => n2 - (intOf i).toNat)
          case atStart => exact ⟨0, Nat.zero_le _, rfl, ⟨0, rfl, by omega, by omega⟩, Hb0.out⟩
          case round =>
            clear Hb0
            obtain ⟨j, hj, rfl, ⟨t, rfl, ht0, ht1⟩, hbr⟩ := hrel
            by_cases hlt : j < n2
            · obtain ⟨b, off, r, rfl, hbl, hx, hc⟩ := RunsAt.get (k := j) (H2.out.carry (Flat.carried _) (hbr.mono hB) (Nat.le_refl _)) (by rw [← hn2'.out]; exact hlt)
              obtain ⟨mark, tx, ty, ⟨a1, a2, a3⟩, ⟨s1, s2, s3⟩, cnt⟩ := r
              have p0 := hc 0 _ rfl
              have p9 := hc 9 _ rfl
              simp only [Nat.add_zero] at p0 p9
              clear hx hbl hc
              go_wp2_with fail
              all_goals first
                | (go_roundw
                   case rel => exact ⟨j + 1, by omega, by go_num, ⟨_, rfl, by omega, by omega⟩, hbr⟩
                   case measure => simp [intOf]; omega)
                | (go_ret
                   exact ⟨⟨false, rfl, fun h => by cases h⟩, hbr⟩)
            · obtain rfl : j = n2 := by omega
              go_wp2_with fail
              all_goals go_ret
              all_goals first
                | exact ⟨⟨_, rfl, fun _ => HT.out⟩, hbr⟩
                | exact ⟨⟨_, rfl, fun _ => ⟨h63, h263, HT.out⟩⟩, hbr⟩
                | exact ⟨⟨_, rfl, fun _ => ⟨by omega, by omega, HT.out⟩⟩, hbr⟩
end Go.Proofs.YtpmipoljnchheaaGreat
namespace Go.Proofs.YtpmipoljnchheaaGreat
open Go.RowKit

/-- What few(x) gives. -/
structure Few (x : DetD) (s : DetS) : Prop where
  name : x.mem.name.size ≤ 60
  bars : s.n3 ≤ 63
  runs : s.n4 ≤ 63
  laps : s.n5 ≤ 1005
  demn : s.n6 ≤ 25
  tame : Tame x.bars
  dems : ∀ d ∈ x.dems, d.name.size ≤ 60 ∧ d.steps.length ≤ 205
structure DetLen (x : DetD) (s : DetS) : Prop where
  l1 : s.n1 = x.mem.boxes.length
  l2 : s.n2 = x.mem.holes.length
  l3 : s.n3 = x.bars.length
  l4 : s.n4 = x.runs.length
  l5 : s.n5 = x.laps.length
  l6 : s.n6 = x.dems.length
  k6 : s.n6 ≤ s.c6
theorem few_fit {x : DetD} {s : DetS} (h : DetLen x s) (f : Few x s) : DetFit x s :=
  ⟨h.l1, h.l2, h.l3, h.l4, h.l5, h.l6, Nat.le_trans f.bars (by decide), Nat.le_trans f.runs (by decide), Nat.le_trans f.laps (by decide), Nat.le_trans f.demn (by decide), h.k6,
   Nat.le_trans f.name (by decide), f.tame, fun d hd => ⟨Nat.le_trans (f.dems d hd).1 (by decide), by have := (f.dems d hd).2; omega⟩⟩
set_option maxHeartbeats 8000000 in
set_option maxRecDepth 100000 in
theorem small25_any (x : DetD) (s : DetS) (w : World) {B : Nat} (h : DetAt w B x s) (hB : B ≤ w.heap.size) (hl : DetLen x s) :
    Calls Tryz.prog 31 #[detV x s] w fun e w' => RetB e (Few x s) ∧ Below w.heap.size w w' := by
  have HS := hide (fun (W : World) (hz : Below w.heap.size w W) => small16_any s.a3 x.bars s.n3 s.c3 s.a4 x.runs s.n4 s.c4 W (h.h3.carry (hz.mono hB) (Nat.le_refl _)) (h.h4.carry (Flat.carried _) (hz.mono hB) (Nat.le_refl _)) (Nat.le_trans hB hz.size) hl.l3 hl.l4)
  have HD := hide (fun (W : World) (hz : Below w.heap.size w W) => small23_any s.a6 x.dems s.n6 s.c6 W (SlOf.carry demR_carried h.h6 (hz.mono hB) (Nat.le_refl _)) (Nat.le_trans hB hz.size) hl.l6)
  have K0 := hide (Blk.new w 34 (detCells x.mem x.rule s))
  have W0 := hide (below_new w (.cells (detCells x.mem x.rule s) 34))
  clear h hB hl
  obtain ⟨mem, bars, runs, laps, dems, rule⟩ := x
  obtain ⟨sol, boxes, holes, cover, agg, poker⟩ := mem
  obtain ⟨a1, n1, c1, a2, n2, c2, a3, n3, c3, a4, n4, c4, a5, n5, c5, a6, n6, c6⟩ := s
  go_enter Tryz.func31, Tryz.ntmps31
  by_cases hnm : 60 < (sol.size : Int)
  · go_wp2_with fail
    go_ret
    exact ⟨⟨false, rfl, fun h => by cases h⟩, W0.out⟩
  · go_wp2_with fail
    refine (small17_any a1 a2 n1 c1 n2 c2 _).mono ?_
    rintro e w2 ⟨⟨t, rfl, _⟩, hb2⟩
    have K1 := hide (K0.out.keep hb2)
    have W1 := hide (below_step W0.out hb2 (Nat.le_refl _))
    clear hb2 K0 W0
    cases t
    · go_wp2_with fail
      go_ret
      exact ⟨⟨false, rfl, fun h => by cases h⟩, W1.out⟩
    have c6 := K1.out.cell 6
    have c7 := K1.out.cell 7
    simp at c6 c7
    go_wp2_with fail
    refine (HS.out _ W1.out).mono ?_
    rintro e w3 ⟨⟨t, rfl, ht⟩, hb3⟩
    have K2 := hide (K1.out.keep hb3)
    have W2 := hide (below_step W1.out hb3 (Nat.le_refl _))
    clear hb3 K1 W1 HS c6 c7
    cases t
    · clear ht
      go_wp2_with fail
      go_ret
      exact ⟨⟨false, rfl, fun h => by cases h⟩, W2.out⟩
    have H16 := hide (ht rfl)
    clear ht
    have c9 := K2.out.cell 9
    simp at c9
    go_wp2_with fail
    refine (HD.out _ W2.out).mono ?_
    rintro e w4 ⟨⟨t, rfl, ht⟩, hb4⟩
    have K3 := hide (K2.out.keep hb4)
    have W3 := hide (below_step W2.out hb4 (Nat.le_refl _))
    clear hb4 K2 W2 HD c9
    cases t
    · clear ht
      go_wp2_with fail
      go_ret
      exact ⟨⟨false, rfl, fun h => by cases h⟩, W3.out⟩
    have H23 := hide (ht rfl)
    clear ht
    have c8 := K3.out.cell 8
    simp at c8
    have Hfin := hide (fun (h5 : n5 ≤ 1005) => (⟨by simp only []; omega, H16.out.1, H16.out.2.1, h5, H23.out.1, H16.out.2.2, H23.out.2⟩ : Few ⟨⟨sol, boxes, holes, cover, agg, poker⟩, bars, runs, laps, dems, rule⟩ ⟨a1, n1, c1, a2, n2, c2, a3, n3, c3, a4, n4, c4, a5, n5, c5, a6, n6, c6⟩))
    go_wp2_with fail
    all_goals go_ret
    all_goals exact ⟨⟨_, rfl, fun h => Hfin.out (by simp at h <;> omega)⟩, W3.out⟩
/-- few: the detail is small. -/
theorem few_any (x : DetD) (s : DetS) (w : World) {B : Nat} (h : DetAt w B x s) (hB : B ≤ w.heap.size) (hl : DetLen x s) :
    Calls Tryz.prog 9 #[detV x s] w fun e w' => RetB e (Few x s) ∧ Below w.heap.size w w' := by
  have HS := hide (fun (W : World) (hz : Below w.heap.size w W) => small25_any x s W (h.carry (hz.mono hB) (Nat.le_refl _)) (Nat.le_trans hB hz.size) hl)
  have Hi := hide (show (Tryz.prog.info? 34).map (·.size) = some 19 by kernel_rfl)
  have W0 := hide (below_new w (.cells (detCells x.mem x.rule s) 34))
  have K0 := hide (Blk.new w 34 (detCells x.mem x.rule s))
  clear h hB hl
  generalize hQ : Few x s = Q at *
  clear hQ
  obtain ⟨mem, bars, runs, laps, dems, rule⟩ := x
  obtain ⟨a1, n1, c1, a2, n2, c2, a3, n3, c3, a4, n4, c4, a5, n5, c5, a6, n6, c6⟩ := s
  obtain ⟨name, boxes, holes, cover, agg, poker⟩ := mem
  obtain ⟨r1, r2, r3, r4, r5, r6, r7, r8, r9⟩ := rule
  simp only [detCells] at K0 W0
  show Calls Tryz.prog 9 #[.agg #[.string name, .slice a1 n1 c1, .slice a2 n2 c2, .int .i64 cover, .int .i64 agg, .int .i64 poker, .slice a3 n3 c3, .slice a4 n4 c4, .slice a5 n5 c5, .slice a6 n6 c6, .int .i64 r1, .int .i64 r2, .int .i64 r3, .int .i64 r4, .int .i64 r5, .int .i64 r6, .int .i64 r7, .int .i64 r8, .int .i64 r9]] w _
  go_enter Tryz.func9, Tryz.ntmps9
  go_wp2_with (refine wpList_load_row rfl 34 (.tmp 1) rfl w.heap.size rfl 34 _ (0, 0) _ K0.out Tryz.underlying34 rfl Hi.out ?_)
  refine (HS.out _ W0.out).mono ?_
  rintro e w2 ⟨⟨t, rfl, ht⟩, hb2⟩
  have Ht := hide ht
  have Hb := hide (below_step W0.out hb2 (Nat.le_refl _))
  clear ht hb2 HS K0 W0 Hi
  go_wp2_with fail
  go_ret
  exact ⟨⟨t, rfl, Ht.out⟩, Hb.out⟩
end Go.Proofs.YtpmipoljnchheaaGreat
namespace Go.Proofs.YtpmipoljnchheaaGreat
open Go.RowKit

theorem few_dems {x : DetD} {s : DetS} (f : Few x s) : ∀ d ∈ x.dems, d.name.size ≤ maxLen ∧ d.steps.length ≤ 60000 :=
  fun d hd => ⟨Nat.le_trans (f.dems d hd).1 (by decide), by have := (f.dems d hd).2; omega⟩
theorem cells_same (g : GridD) (p : Pt) : (∃ r c : Int, cellTuple g p = #[.int .i64 r, .int .i64 c, .int .i64 0] ∧ cellB g p = #[.int .i64 r, .int .i64 c, .bool true]) ∨ (cellTuple g p = #[.int .i64 0, .int .i64 0, .int .i64 12] ∧ cellB g p = #[.int .i64 0, .int .i64 0, .bool false]) := by
  by_cases h : InGrid g p
  · exact .inl ⟨cellRow g p, cellCol g p, by rw [cellTuple, if_pos h], by rw [cellB, if_pos h]⟩
  · exact .inr ⟨by rw [cellTuple, if_neg h], by rw [cellB, if_neg h]⟩
set_option maxHeartbeats 8000000 in
set_option maxRecDepth 100000 in
theorem planSizes_law (x : DetD) (s : DetS) (sc : Int) (p : Pt) (w : World) {B : Nat} (h : DetAt w B x s) (hB : B ≤ w.heap.size) (hl : DetLen x s) :
    Calls Tryz.prog 4 #[detV x s, .int .i64 sc, .agg #[.int .i64 p.1, .int .i64 p.2.1, .int .i64 p.2.2]] w fun e w' => e = .returned (.bool true) ∧ Below w.heap.size w w' := by
  have HF := hide (fun (W : World) (hz : Below w.heap.size w W) => few_any x s W (h.carry (hz.mono hB) (Nat.le_refl _)) (Nat.le_trans hB hz.size) hl)
  have HS := hide (fun (f : Few x s) (W : World) (hz : Below w.heap.size w W) => planSize_any x s sc W (h.carry (hz.mono hB) (Nat.le_refl _)) (Nat.le_trans hB hz.size) (few_fit hl f))
  have HC0 := hide (fun (f : Few x s) (he : planErr x sc = 0) (W : World) (hz : Below w.heap.size w W) => planCell_ok x s sc p W (h.carry (hz.mono hB) (Nat.le_refl _)) (Nat.le_trans hB hz.size) (few_fit hl f) he)
  have HC1 := hide (fun (f : Few x s) (he : planErr x sc ≠ 0) (W : World) (hz : Below w.heap.size w W) => planCell_bad x s sc p.1 p.2.1 p.2.2 W (h.carry (hz.mono hB) (Nat.le_refl _)) (Nat.le_trans hB hz.size) (few_fit hl f) he)
  have HL0 := hide (fun (f : Few x s) (hd : detOk x = true) (W : World) (hz : Below w.heap.size w W) => planLegend_ok x s W (h.carry (hz.mono hB) (Nat.le_refl _)) (Nat.le_trans hB hz.size) (few_fit hl f) hd)
  have HL1 := hide (fun (f : Few x s) (hd : detOk x = false) (W : World) (hz : Below w.heap.size w W) => planLegend_bad x s W (h.carry (hz.mono hB) (Nat.le_refl _)) (Nat.le_trans hB hz.size) (few_fit hl f) hd)
  have HV := hide (fun (f : Few x s) (W : World) (hz : Below w.heap.size w W) => refValid25_any x s W (h.carry (hz.mono hB) (Nat.le_refl _)) (Nat.le_trans hB hz.size) (few_fit hl f) (few_dems f))
  have HG := hide (fun (f : Few x s) (W : World) (hz : Below w.heap.size w W) => refGiven_any x s sc W (h.carry (hz.mono hB) (Nat.le_refl _)) (Nat.le_trans hB hz.size) (few_fit hl f) (few_dems f))
  have HRL := hide (fun (f : Few x s) (hd : detOk x = true) (W : World) (hz : Below w.heap.size w W) => refLegend46_ok x s W (h.carry (hz.mono hB) (Nat.le_refl _)) (Nat.le_trans hB hz.size) (few_fit hl f) hd)
  have HRS := hide (fun (f : Few x s) (he : planErr x sc = 0) (W : World) (hz : Below w.heap.size w W) => refSize46_ok x s sc W (h.carry (hz.mono hB) (Nat.le_refl _)) (Nat.le_trans hB hz.size) (few_fit hl f) (plan_facts he).det (plan_facts he).sc)
  have HRC := hide (fun (f : Few x s) (he : planErr x sc = 0) (W : World) (hz : Below w.heap.size w W) => refCell46_ok x s sc p W (h.carry (hz.mono hB) (Nat.le_refl _)) (Nat.le_trans hB hz.size) (few_fit hl f) he)
  have Hi := hide (show (Tryz.prog.info? 34).map (·.size) = some 19 by kernel_rfl)
  obtain ⟨p1, p2, p3⟩ := p
  have K0 := hide ((Blk.new w 34 (detCells x.mem x.rule s)).alloc (.cells #[.int .i64 p1, .int .i64 p2, .int .i64 p3] 44))
  have KP := hide (Blk.new1 w (.cells (detCells x.mem x.rule s) 34) 44 #[.int .i64 p1, .int .i64 p2, .int .i64 p3])
  have HW := hide (below_new2 w (.cells (detCells x.mem x.rule s) 34) (.cells #[.int .i64 p1, .int .i64 p2, .int .i64 p3] 44))
  clear h hB hl
  go_enter Tryz.func4, Tryz.ntmps4
  go_wp2_with fail
  refine (awake_any _).mono ?_
  rintro e w1 ⟨rfl, hb⟩
  have K0 := hide (K0.out.keep hb)
  have KP := hide (KP.out.keep hb)
  have HW := hide (below_step HW.out hb (Nat.le_refl _))
  clear hb
  go_wp2_with (refine wpList_load_row rfl 34 (.tmp 3) rfl w.heap.size rfl 34 _ (0, 0) _ K0.out Tryz.underlying34 rfl Hi.out ?_)
  refine (HF.out _ HW.out).mono ?_
  rintro e w2 ⟨⟨t, rfl, ht⟩, hb⟩
  have Ht := hide ht
  have K0 := hide (K0.out.keep hb)
  have KP := hide (KP.out.keep hb)
  have HW := hide (below_step HW.out hb (Nat.le_refl _))
  clear hb
  clear ht HF
  cases t
  · go_wp2_with fail
    go_ret
    exact ⟨rfl, HW.out⟩
  have Hf := hide (Ht.out rfl)
  have HS := hide (HS.out Hf.out)
  have HG := hide (HG.out Hf.out)
  have HV := hide (HV.out Hf.out)
  clear Ht
  go_wp2_with (refine wpList_load_row rfl 34 (.tmp 3) rfl w.heap.size rfl 34 _ (0, 0) _ K0.out Tryz.underlying34 rfl Hi.out ?_)
  refine (HS.out _ HW.out).mono ?_
  rintro e w3 ⟨rfl, hb⟩
  have K0 := hide (K0.out.keep hb)
  have KP := hide (KP.out.keep hb)
  have HW := hide (below_step HW.out hb (Nat.le_refl _))
  clear hb
  clear HS
  have e0 := KP.out.cell 0
  have e1 := KP.out.cell 1
  have e2 := KP.out.cell 2
  simp at e0 e1 e2
  have lp := KP.out.lt
  by_cases he : planErr x sc = 0
  · have hd := (plan_facts he).det
    have HC := hide (HC0.out Hf.out he)
    have HL := hide (HL0.out Hf.out hd)
    have HRL := hide (HRL.out Hf.out hd)
    have HRS := hide (HRS.out Hf.out he)
    have HRC := hide (HRC.out Hf.out he)
    have hsame := cells_same (gridOf x sc) (p1, p2, p3)
    rw [plan_ok he]
    rw [he] at HG ⊢
    rw [hd] at HV
    clear HC0 HC1 HL0 HL1 he hd
    generalize (gridOf x sc).rows = R at *
    generalize (gridOf x sc).cols = C at *
    generalize cellTuple (gridOf x sc) (p1, p2, p3) = ct at *
    generalize cellB (gridOf x sc) (p1, p2, p3) = cb at *
    generalize (⟨(legendText x.bars).toArray⟩ : ByteArray) = txt at *
    go_wp2_with (refine wpList_load_row rfl 34 (.tmp 3) rfl w.heap.size rfl 34 _ (0, 0) _ K0.out Tryz.underlying34 rfl Hi.out ?_)
    refine (HC.out _ HW.out).mono ?_
    rintro e w4 ⟨rfl, hb⟩
    have K0 := hide (K0.out.keep hb)
    have KP := hide (KP.out.keep hb)
    have HW := hide (below_step HW.out hb (Nat.le_refl _))
    clear hb
    clear HC e0 e1 e2 lp
    rcases hsame with ⟨r, c, rfl, rfl⟩ | ⟨rfl, rfl⟩
    all_goals
      go_wp2_with (refine wpList_load_row rfl 34 (.tmp 3) rfl w.heap.size rfl 34 _ (0, 0) _ K0.out Tryz.underlying34 rfl Hi.out ?_)
      refine (HL.out _ HW.out).mono ?_
      rintro e w5 ⟨rfl, hb⟩
      have K0 := hide (K0.out.keep hb)
      have KP := hide (KP.out.keep hb)
      have HW := hide (below_step HW.out hb (Nat.le_refl _))
      clear hb
      clear HL
      go_wp2_with (refine wpList_load_row rfl 34 (.tmp 3) rfl w.heap.size rfl 34 _ (0, 0) _ K0.out Tryz.underlying34 rfl Hi.out ?_)
      refine (HV.out _ HW.out).mono ?_
      rintro e w6 ⟨rfl, hb⟩
      have K0 := hide (K0.out.keep hb)
      have KP := hide (KP.out.keep hb)
      have HW := hide (below_step HW.out hb (Nat.le_refl _))
      clear hb
      clear HV
      go_wp2_with (refine wpList_load_row rfl 34 (.tmp 3) rfl w.heap.size rfl 34 _ (0, 0) _ K0.out Tryz.underlying34 rfl Hi.out ?_)
      refine (HRL.out _ HW.out).mono ?_
      rintro e w7 ⟨rfl, hb⟩
      have K0 := hide (K0.out.keep hb)
      have KP := hide (KP.out.keep hb)
      have HW := hide (below_step HW.out hb (Nat.le_refl _))
      clear hb
      clear HRL
      go_wp2_with (refine wpList_load_row rfl 34 (.tmp 3) rfl w.heap.size rfl 34 _ (0, 0) _ K0.out Tryz.underlying34 rfl Hi.out ?_)
      refine (HG.out _ HW.out).mono ?_
      rintro e w8 ⟨rfl, hb⟩
      have K0 := hide (K0.out.keep hb)
      have KP := hide (KP.out.keep hb)
      have HW := hide (below_step HW.out hb (Nat.le_refl _))
      clear hb
      clear HG
      go_wp2_with (refine wpList_load_row rfl 34 (.tmp 3) rfl w.heap.size rfl 34 _ (0, 0) _ K0.out Tryz.underlying34 rfl Hi.out ?_)
      refine (HRS.out _ HW.out).mono ?_
      rintro e w9 ⟨rfl, hb⟩
      have K0 := hide (K0.out.keep hb)
      have KP := hide (KP.out.keep hb)
      have HW := hide (below_step HW.out hb (Nat.le_refl _))
      clear hb
      clear HRS
      have e0 := KP.out.cell 0
      have e1 := KP.out.cell 1
      have e2 := KP.out.cell 2
      simp at e0 e1 e2
      have lp := KP.out.lt
      go_wp2_with (refine wpList_load_row rfl 34 (.tmp 3) rfl w.heap.size rfl 34 _ (0, 0) _ K0.out Tryz.underlying34 rfl Hi.out ?_)
      refine (HRC.out _ HW.out).mono ?_
      rintro e w9 ⟨rfl, hb⟩
      have HW := hide (below_step HW.out hb (Nat.le_refl _))
      clear hb HRC
      go_wp2_with fail
      go_ret
      exact ⟨rfl, HW.out⟩
  · have HC := hide (HC1.out Hf.out he)
    rw [plan_bad rfl he]
    simp only [zeroGrid]
    cases hd : detOk x
    · have HL := hide (HL1.out Hf.out hd)
      rw [hd] at HV
      have he' := hide he
      generalize planErr x sc = er at *
      have d1 : (er == 0) = false := by simpa using he'.out
      have d2 : (er != 0) = true := by simpa using he'.out
      clear HC0 HC1 HL0 HL1 HRL HRS HRC he hd
      go_wp2_with (refine wpList_load_row rfl 34 (.tmp 3) rfl w.heap.size rfl 34 _ (0, 0) _ K0.out Tryz.underlying34 rfl Hi.out ?_)
      refine (HC.out _ HW.out).mono ?_
      rintro e w4 ⟨rfl, hb⟩
      have K0 := hide (K0.out.keep hb)
      have KP := hide (KP.out.keep hb)
      have HW := hide (below_step HW.out hb (Nat.le_refl _))
      clear hb
      clear HC e0 e1 e2 lp
      go_wp2_with (refine wpList_load_row rfl 34 (.tmp 3) rfl w.heap.size rfl 34 _ (0, 0) _ K0.out Tryz.underlying34 rfl Hi.out ?_)
      refine (HL.out _ HW.out).mono ?_
      rintro e w5 ⟨rfl, hb⟩
      have K0 := hide (K0.out.keep hb)
      have KP := hide (KP.out.keep hb)
      have HW := hide (below_step HW.out hb (Nat.le_refl _))
      clear hb
      clear HL
      go_wp2_with (refine wpList_load_row rfl 34 (.tmp 3) rfl w.heap.size rfl 34 _ (0, 0) _ K0.out Tryz.underlying34 rfl Hi.out ?_)
      refine (HV.out _ HW.out).mono ?_
      rintro e w6 ⟨rfl, hb⟩
      have K0 := hide (K0.out.keep hb)
      have KP := hide (KP.out.keep hb)
      have HW := hide (below_step HW.out hb (Nat.le_refl _))
      clear hb
      clear HV
      go_wp2_with (refine wpList_load_row rfl 34 (.tmp 3) rfl w.heap.size rfl 34 _ (0, 0) _ K0.out Tryz.underlying34 rfl Hi.out ?_)
      refine (HG.out _ HW.out).mono ?_
      rintro e w8 ⟨rfl, hb⟩
      have K0 := hide (K0.out.keep hb)
      have KP := hide (KP.out.keep hb)
      have HW := hide (below_step HW.out hb (Nat.le_refl _))
      clear hb
      clear HG
      go_wp2_with fail
      go_ret
      exact ⟨rfl, HW.out⟩
    · have HL := hide (HL0.out Hf.out hd)
      have HRL := hide (HRL.out Hf.out hd)
      rw [hd] at HV
      have he' := hide he
      generalize planErr x sc = er at *
      have d1 : (er == 0) = false := by simpa using he'.out
      have d2 : (er != 0) = true := by simpa using he'.out
      generalize (⟨(legendText x.bars).toArray⟩ : ByteArray) = txt at *
      clear HC0 HC1 HL0 HL1 HRS HRC he hd
      go_wp2_with (refine wpList_load_row rfl 34 (.tmp 3) rfl w.heap.size rfl 34 _ (0, 0) _ K0.out Tryz.underlying34 rfl Hi.out ?_)
      refine (HC.out _ HW.out).mono ?_
      rintro e w4 ⟨rfl, hb⟩
      have K0 := hide (K0.out.keep hb)
      have KP := hide (KP.out.keep hb)
      have HW := hide (below_step HW.out hb (Nat.le_refl _))
      clear hb
      clear HC e0 e1 e2 lp
      go_wp2_with (refine wpList_load_row rfl 34 (.tmp 3) rfl w.heap.size rfl 34 _ (0, 0) _ K0.out Tryz.underlying34 rfl Hi.out ?_)
      refine (HL.out _ HW.out).mono ?_
      rintro e w5 ⟨rfl, hb⟩
      have K0 := hide (K0.out.keep hb)
      have KP := hide (KP.out.keep hb)
      have HW := hide (below_step HW.out hb (Nat.le_refl _))
      clear hb
      clear HL
      go_wp2_with (refine wpList_load_row rfl 34 (.tmp 3) rfl w.heap.size rfl 34 _ (0, 0) _ K0.out Tryz.underlying34 rfl Hi.out ?_)
      refine (HV.out _ HW.out).mono ?_
      rintro e w6 ⟨rfl, hb⟩
      have K0 := hide (K0.out.keep hb)
      have KP := hide (KP.out.keep hb)
      have HW := hide (below_step HW.out hb (Nat.le_refl _))
      clear hb
      clear HV
      go_wp2_with (refine wpList_load_row rfl 34 (.tmp 3) rfl w.heap.size rfl 34 _ (0, 0) _ K0.out Tryz.underlying34 rfl Hi.out ?_)
      refine (HRL.out _ HW.out).mono ?_
      rintro e w7 ⟨rfl, hb⟩
      have K0 := hide (K0.out.keep hb)
      have KP := hide (KP.out.keep hb)
      have HW := hide (below_step HW.out hb (Nat.le_refl _))
      clear hb
      clear HRL
      go_wp2_with (refine wpList_load_row rfl 34 (.tmp 3) rfl w.heap.size rfl 34 _ (0, 0) _ K0.out Tryz.underlying34 rfl Hi.out ?_)
      refine (HG.out _ HW.out).mono ?_
      rintro e w8 ⟨rfl, hb⟩
      have K0 := hide (K0.out.keep hb)
      have KP := hide (KP.out.keep hb)
      have HW := hide (below_step HW.out hb (Nat.le_refl _))
      clear hb
      clear HG
      go_wp2_with fail
      go_ret
      exact ⟨rfl, HW.out⟩
end Go.Proofs.YtpmipoljnchheaaGreat
namespace Go.Proofs.YtpmipoljnchheaaGreat
open Go.RowKit Go.ChangeShapes Go.WideShapes Go.Deep

theorem add_at (b off i : Nat) : (⟨b, off, none⟩ : Addr).add i = ⟨b, off + i, none⟩ := by
  unfold Addr.add
  split <;> simp_all
section
variable {H : Type} {enc : TypeId × Value → H} {w : World} {base : Nat} {held : Bool}
theorem ints_open {n : Nat} {cs : List Value} {x : DataW H × List MemPlace} (h : DataW.trod enc Tryz.prog w base (fun _ => true) held n 62 cs = some x) :
    ∃ (A : Option Addr) (l : List Int) (c : Nat), cs = [.slice A l.length c] ∧ Ints w w.heap.size A l := by
  rcases open_ints Tryz.underlying62 Tryz.underlying3 (by kernel_rfl) h with ⟨rfl, _⟩ | ⟨a, len, cap, zs, rfl, _, hl, hm, hz, _, hcell, _⟩
  · exact ⟨none, [], 0, rfl, SlOf.nil _ _ _ _ _⟩
  · have hz' : zs.length = cap := by simpa using hz
    refine ⟨some a, zs.take len, cap, by simp [hz', Nat.min_eq_left hl], ?_⟩
    intro h0
    rw [List.length_take] at h0
    obtain ⟨b, off, spot⟩ := a
    have hc := hcell 0 (by omega)
    have hspot : spot = none := by simpa [Addr.add] using World.cell?_spot hc
    subst hspot
    refine ⟨b, off, rfl, World.block_lt_of_cell? w _ (by simpa [Addr.add] using hc), fun k y hy => ?_⟩
    have hk : k < len := by
      have := lt_of_get hy
      rw [List.length_take] at this
      omega
    have hy' : zs[k]? = some y := by rw [List.getElem?_take, if_pos hk] at hy; exact hy
    have hck := hcell k (by omega)
    rw [List.getD_eq_getElem?_getD, hy'] at hck
    refine ⟨encInt y, rfl, rfl, fun j v hj => ?_⟩
    cases j with
    | zero =>
      simp [encInt] at hj
      subst hj
      simpa [add_at] using hck
    | succ j => simp [encInt] at hj

theorem len5v {l : List Value} (h : l.length = 5) : ∃ a b c d e, l = [a, b, c, d, e] := by
  rcases l with _ | ⟨a, _ | ⟨b, _ | ⟨c, _ | ⟨d, _ | ⟨e, _ | ⟨f, r⟩⟩⟩⟩⟩⟩ <;> simp at h
  exact ⟨a, b, c, d, e, rfl⟩
theorem some_of_lt {α : Type} {l : List α} {j : Nat} (h : j < l.length) : ∃ y, l[j]? = some y := ⟨_, List.getElem?_eq_getElem h⟩

theorem bar_open {n : Nat} {cs : List Value} {x : DataW H × List MemPlace} (h : DataW.trod enc Tryz.prog w base (fun _ => true) held n 65 cs = some x) :
    ∃ b : BarD, barR w w.heap.size cs b := by
  obtain ⟨xs, m, _, _, hl, hxl, hf⟩ := DataW.trod_struct Tryz.underlying65 h
  have hx5 : xs.length = 5 := hxl
  rw [show (Tryz.prog).cellsOf 65 = 5 by kernel_rfl] at hl
  obtain ⟨v0, v1, v2, v3, v4, rfl⟩ := len5v hl
  have c9 : (Tryz.prog).cellsOf 9 = 1 := by kernel_rfl
  have c3 : (Tryz.prog).cellsOf 3 = 1 := by kernel_rfl
  have c30 : (Tryz.prog).cellsOf 62 = 1 := by kernel_rfl
  have h0 : DataW.trod enc Tryz.prog w base (fun _ => true) held m 9 (([v0, v1, v2, v3, v4].drop 0).take ((Tryz.prog).cellsOf 9)) = xs[0]? := hf 0 _ rfl
  have h1 : DataW.trod enc Tryz.prog w base (fun _ => true) held m 3 (([v0, v1, v2, v3, v4].drop 1).take ((Tryz.prog).cellsOf 3)) = xs[1]? := hf 1 _ rfl
  have h2 : DataW.trod enc Tryz.prog w base (fun _ => true) held m 3 (([v0, v1, v2, v3, v4].drop 2).take ((Tryz.prog).cellsOf 3)) = xs[2]? := hf 2 _ rfl
  have h3 : DataW.trod enc Tryz.prog w base (fun _ => true) held m 3 (([v0, v1, v2, v3, v4].drop 3).take ((Tryz.prog).cellsOf 3)) = xs[3]? := hf 3 _ rfl
  have h4 : DataW.trod enc Tryz.prog w base (fun _ => true) held m 62 (([v0, v1, v2, v3, v4].drop 4).take ((Tryz.prog).cellsOf 62)) = xs[4]? := hf 4 _ rfl
  obtain ⟨y0, e0⟩ := some_of_lt (l := xs) (j := 0) (by omega)
  obtain ⟨y1, e1⟩ := some_of_lt (l := xs) (j := 1) (by omega)
  obtain ⟨y2, e2⟩ := some_of_lt (l := xs) (j := 2) (by omega)
  obtain ⟨y3, e3⟩ := some_of_lt (l := xs) (j := 3) (by omega)
  obtain ⟨y4, e4⟩ := some_of_lt (l := xs) (j := 4) (by omega)
  rw [c9, e0] at h0
  rw [c3, e1] at h1
  rw [c3, e2] at h2
  rw [c3, e3] at h3
  rw [c30, e4] at h4
  obtain ⟨s, hs, _, _⟩ := DataW.trod_string Tryz.underlying9 h0
  obtain ⟨n1, hn1, _, _⟩ := DataW.trod_int Tryz.underlying3 h1
  obtain ⟨n2, hn2, _, _⟩ := DataW.trod_int Tryz.underlying3 h2
  obtain ⟨n3, hn3, _, _⟩ := DataW.trod_int Tryz.underlying3 h3
  obtain ⟨A, l, c, hA, hi⟩ := ints_open h4
  simp at hs hn1 hn2 hn3 hA
  exact ⟨⟨s, n1, n2, n3, l⟩, A, c, by rw [hs, hn1, hn2, hn3, hA], hi⟩

theorem bars_open {n : Nat} {cs : List Value} {x : DataW H × List MemPlace} (h : DataW.trod enc Tryz.prog w base (fun _ => true) held n 27 cs = some x) :
    ∃ (A : Option Addr) (l : List BarD) (c : Nat), cs = [.slice A l.length c] ∧ BarsAt w w.heap.size A l ∧ l.length ≤ maxLen := by
  rcases open_slice Tryz.underlying27 h with ⟨rfl, _⟩ | ⟨a, len, cap, m, n', D, Pl, rfl, _, hl, hm, hmm, _, hi⟩
  · exact ⟨none, [], 0, rfl, SlOf.nil _ _ _ _ _, by simp⟩
  · have hmm' : m = cap := by simpa using hmm
    have key : ∀ i, i < len → ∃ b : BarD, ∃ vs : List Value, vs.length = 5 ∧ barR w w.heap.size vs b ∧ ∀ j v, vs[j]? = some v → w.cell? (a.add (i * 5 + j)) = some v := by
      intro i hlt
      obtain ⟨cs', hc, ht⟩ := hi i (by omega)
      obtain ⟨b, hb⟩ := bar_open ht
      rw [show (Tryz.prog).cellsOf 65 = 5 by kernel_rfl] at hc
      obtain ⟨_, hcl, hat⟩ := World.cells?_some hc
      refine ⟨b, cs', hcl, hb, fun j v hj => ?_⟩
      have := hat j (by have := lt_of_get hj; omega)
      rw [Go.Deep.add_add, hj] at this
      exact this
    obtain ⟨f, hf⟩ : ∃ f : Nat → BarD, ∀ i, i < len → ∃ vs : List Value, vs.length = 5 ∧ barR w w.heap.size vs (f i) ∧ ∀ j v, vs[j]? = some v → w.cell? (a.add (i * 5 + j)) = some v := by
      refine ⟨fun i => if h : i < len then (key i h).choose else ⟨.empty, 0, 0, 0, []⟩, fun i hi => ?_⟩
      simp only [dif_pos hi]
      exact (key i hi).choose_spec
    refine ⟨some a, (List.range len).map f, cap, by simp, ?_, by simp; omega⟩
    intro h0
    have h0' : 0 < len := by simpa using h0
    obtain ⟨b, off, spot⟩ := a
    obtain ⟨vs0, hvl, _, hc0⟩ := hf 0 h0'
    obtain ⟨u, hu⟩ := some_of_lt (l := vs0) (j := 0) (by omega)
    have hcell := hc0 0 u hu
    have hspot : spot = none := by simpa [Addr.add] using World.cell?_spot hcell
    subst hspot
    refine ⟨b, off, rfl, World.block_lt_of_cell? w _ (by simpa [Addr.add] using hcell), fun k y hy => ?_⟩
    simp only [List.getElem?_map, Option.map_eq_some_iff] at hy
    obtain ⟨k', hk', rfl⟩ := hy
    have hkl : k < len := by
      have := lt_of_get hk'
      simpa using this
    obtain rfl : k' = k := by
      rw [List.getElem?_range hkl] at hk'
      injection hk' with hk'
      exact hk'.symm
    obtain ⟨vs, h1, h2, h3⟩ := hf k' hkl
    exact ⟨vs, h1, h2, fun j v hj => by have := h3 j v hj; simpa [add_at, Nat.add_assoc] using this⟩
end
end Go.Proofs.YtpmipoljnchheaaGreat
