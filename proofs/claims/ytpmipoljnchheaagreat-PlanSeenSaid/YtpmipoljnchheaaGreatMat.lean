/- Small schedules and runs; small details. Small details: what law46.few gives. The law PlanSeen: an end of a leg that is in a cell is seen there. -/
import Derived.Test.YtpmipoljnchheaaGreatMas
import Derived.Test.YtpmipoljnchheaaGreatMaq
namespace Go.Proofs.YtpmipoljnchheaaGreat
open Go.RowKit

set_option maxHeartbeats 8000000 in
set_option maxRecDepth 100000 in
theorem small16_any (A : Option Addr) (l : List BarD) (n c : Nat) (A2 : Option Addr) (l2 : List RunD) (n2 c2 : Nat) (w : World) {B : Nat} (h : BarsAt w B A l) (h2 : RunsAt w B A2 l2) (hB : B ≤ w.heap.size) (hn : n = l.length) (hn2 : n2 = l2.length) :
    Calls Tryz.prog 59 #[.slice A n c, .slice A2 n2 c2, .int .i64 6, .int .i64 16] w fun e w' => RetB e (n ≤ 63 ∧ n2 ≤ 63 ∧ Tame l) ∧ Below w.heap.size w w' := by
  have hn' := hide hn
  have hn2' := hide hn2
  have Hs := hide h
  have H2 := hide h2
  clear hn hn2 h h2
  go_enter Tryz.func59, Tryz.ntmps59
  go_upto_region 1 with fail
  go_cut [41] from 12 (fun v W => (∃ t : Bool, v = .bool t ∧ Hid (t = false → n ≤ 63 ∧ n2 ≤ 63)) ∧ Below w.heap.size w W)
  case first =>
    go_wp2_with fail
    all_goals go_meet
    all_goals exact ⟨⟨_, rfl, hide (fun h => by simp at h <;> omega)⟩, Below.refl _ _⟩
  case rest =>
    obtain ⟨⟨t, rfl, ht⟩, hb⟩ := hcut
    cases t
    case true =>
      go_wp2_with fail
      go_ret
      exact ⟨⟨false, rfl, fun h => by cases h⟩, hb⟩
    case false =>
      obtain ⟨h63, h263⟩ := ht.out rfl
      clear ht
      have hb0 := hide hb
      clear hb
      go_wp2_with fail
      go_loopw [9] (fun i wr => ∃ k : Nat, k ≤ n ∧ i = .int .i64 k ∧ Hid (Tame (l.take k)) ∧ Below w.heap.size w wr) (fun i _ => n - (intOf i).toNat)
      case atStart => exact ⟨0, Nat.zero_le _, rfl, hide (by intro x hx; simp at hx), hb0.out⟩
      case round =>
        clear hb0
        obtain ⟨k, hk, rfl, hq, hbr⟩ := hrel
        by_cases hlt : k < n
        · have HR := hide (Hs.out.carry (hbr.mono hB) (Nat.le_refl B))
          obtain ⟨b, off, x, A', c', rfl, hbl, hx, hi, h0, h1, h2, h3, h4⟩ := BarsAt.get (k := k) HR.out (by rw [← hn'.out]; exact hlt)
          have Hnext := hide (fun (hx1 : x.dims.length ≤ 8 ∧ x.mark.size ≤ 60) => (show Tame (l.take (k + 1)) by
            rw [take_snoc' hx]
            intro d hd
            rcases List.mem_append.1 hd with h | h
            · exact hq.out d h
            · obtain rfl := List.mem_singleton.1 h; exact ⟨Nat.le_trans hx1.2 (by decide), by omega⟩))
          clear hx hi hbl hq
          obtain ⟨mark, size, cnt, code, dims⟩ := x
          simp only [] at h0 h1 h2 h3 h4 Hnext
          generalize dims.length = dl at *
          go_wp2_with fail
          refine (short_any mark size cnt code A' dl c' _).mono ?_
          rintro e w2 ⟨⟨t, rfl, ht⟩, hb2⟩
          have Hb2 := hide (hbr.trans (hb2.mono hbr.size))
          clear hb2
          cases t
          · clear ht Hnext
            go_wp2_with fail
            go_ret
            exact ⟨⟨false, rfl, fun h => by cases h⟩, Hb2.out⟩
          · have Hnext := hide (Hnext.out (ht rfl))
            clear ht
            go_wp2_with fail
            go_roundw
            case rel => exact ⟨k + 1, by omega, by go_num, Hnext, Hb2.out⟩
            case measure => simp [intOf]; omega
        · obtain rfl : k = n := by omega
          have HT := hide (show Tame l by have := hq.out; rwa [hn'.out, List.take_length] at this)
          have Hb0 := hide hbr
          clear hq hbr
          rename World => wo
          go_wp2_with fail
          go_loopw [10, 11] (fun v i wr => ∃ j : Nat, j ≤ n2 ∧ i = .int .i64 j ∧ (∃ t : Int, v = .int .i64 t ∧ 0 ≤ t ∧ t ≤ 16 * j) ∧ Below w.heap.size w wr) (fun _ i _ => n2 - (intOf i).toNat)
          case atStart => exact ⟨0, Nat.zero_le _, rfl, ⟨0, rfl, by omega, by omega⟩, Hb0.out⟩
          case round =>
            clear Hb0
            obtain ⟨j, hj, rfl, ⟨t, rfl, ht0, ht1⟩, hbr⟩ := hrel
            by_cases hlt : j < n2
            · obtain ⟨b, off, r, rfl, hbl, hx, hc⟩ := RunsAt.get (k := j) (H2.out.carry (Flat.carried _) (hbr.mono hB) (Nat.le_refl _)) (by rw [← hn2'.out]; exact hlt)
              obtain ⟨mark, tx, ty, ⟨a1, a2, a3⟩, ⟨s1, s2, s3⟩, cnt⟩ := r
              have p0 := hc 0 _ rfl
              have p9 := hc 9 _ rfl
              simp only [Nat.add_zero] at p0 p9
              clear hx hbl hc
              go_wp2_with fail
              all_goals first
                | (go_roundw
                   case rel => exact ⟨j + 1, by omega, by go_num, ⟨_, rfl, by omega, by omega⟩, hbr⟩
                   case measure => simp [intOf]; omega)
                | (go_ret
                   exact ⟨⟨false, rfl, fun h => by cases h⟩, hbr⟩)
            · obtain rfl : j = n2 := by omega
              go_wp2_with fail
              all_goals go_ret
              all_goals first
                | exact ⟨⟨_, rfl, fun _ => HT.out⟩, hbr⟩
                | exact ⟨⟨_, rfl, fun _ => ⟨h63, h263, HT.out⟩⟩, hbr⟩
                | exact ⟨⟨_, rfl, fun _ => ⟨by omega, by omega, HT.out⟩⟩, hbr⟩
end Go.Proofs.YtpmipoljnchheaaGreat
namespace Go.Proofs.YtpmipoljnchheaaGreat
open Go.RowKit

/-- What few(x) gives. -/
structure Few (x : DetD) (s : DetS) : Prop where
  name : x.mem.name.size ≤ 60
  bars : s.n3 ≤ 63
  runs : s.n4 ≤ 63
  laps : s.n5 ≤ 1005
  demn : s.n6 ≤ 25
  tame : Tame x.bars
  dems : ∀ d ∈ x.dems, d.name.size ≤ 60 ∧ d.steps.length ≤ 205
structure DetLen (x : DetD) (s : DetS) : Prop where
  l1 : s.n1 = x.mem.boxes.length
  l2 : s.n2 = x.mem.holes.length
  l3 : s.n3 = x.bars.length
  l4 : s.n4 = x.runs.length
  l5 : s.n5 = x.laps.length
  l6 : s.n6 = x.dems.length
  k6 : s.n6 ≤ s.c6
theorem few_fit {x : DetD} {s : DetS} (h : DetLen x s) (f : Few x s) : DetFit x s :=
  ⟨h.l1, h.l2, h.l3, h.l4, h.l5, h.l6, Nat.le_trans f.bars (by decide), Nat.le_trans f.runs (by decide), Nat.le_trans f.laps (by decide), Nat.le_trans f.demn (by decide), h.k6,
   Nat.le_trans f.name (by decide), f.tame, fun d hd => ⟨Nat.le_trans (f.dems d hd).1 (by decide), by have := (f.dems d hd).2; omega⟩⟩
set_option maxHeartbeats 8000000 in
set_option maxRecDepth 100000 in
theorem small25_any (x : DetD) (s : DetS) (w : World) {B : Nat} (h : DetAt w B x s) (hB : B ≤ w.heap.size) (hl : DetLen x s) :
    Calls Tryz.prog 31 #[detV x s] w fun e w' => RetB e (Few x s) ∧ Below w.heap.size w w' := by
  have HS := hide (fun (W : World) (hz : Below w.heap.size w W) => small16_any s.a3 x.bars s.n3 s.c3 s.a4 x.runs s.n4 s.c4 W (h.h3.carry (hz.mono hB) (Nat.le_refl _)) (h.h4.carry (Flat.carried _) (hz.mono hB) (Nat.le_refl _)) (Nat.le_trans hB hz.size) hl.l3 hl.l4)
  have HD := hide (fun (W : World) (hz : Below w.heap.size w W) => small23_any s.a6 x.dems s.n6 s.c6 W (SlOf.carry demR_carried h.h6 (hz.mono hB) (Nat.le_refl _)) (Nat.le_trans hB hz.size) hl.l6)
  have K0 := hide (Blk.new w 34 (detCells x.mem x.rule s))
  have W0 := hide (below_new w (.cells (detCells x.mem x.rule s) 34))
  clear h hB hl
  obtain ⟨mem, bars, runs, laps, dems, rule⟩ := x
  obtain ⟨sol, boxes, holes, cover, agg, poker⟩ := mem
  obtain ⟨a1, n1, c1, a2, n2, c2, a3, n3, c3, a4, n4, c4, a5, n5, c5, a6, n6, c6⟩ := s
  go_enter Tryz.func31, Tryz.ntmps31
  by_cases hnm : 60 < (sol.size : Int)
  · go_wp2_with fail
    go_ret
    exact ⟨⟨false, rfl, fun h => by cases h⟩, W0.out⟩
  · go_wp2_with fail
    refine (small17_any a1 a2 n1 c1 n2 c2 _).mono ?_
    rintro e w2 ⟨⟨t, rfl, _⟩, hb2⟩
    have K1 := hide (K0.out.keep hb2)
    have W1 := hide (below_step W0.out hb2 (Nat.le_refl _))
    clear hb2 K0 W0
    cases t
    · go_wp2_with fail
      go_ret
      exact ⟨⟨false, rfl, fun h => by cases h⟩, W1.out⟩
    have c6 := K1.out.cell 6
    have c7 := K1.out.cell 7
    simp at c6 c7
    go_wp2_with fail
    refine (HS.out _ W1.out).mono ?_
    rintro e w3 ⟨⟨t, rfl, ht⟩, hb3⟩
    have K2 := hide (K1.out.keep hb3)
    have W2 := hide (below_step W1.out hb3 (Nat.le_refl _))
    clear hb3 K1 W1 HS c6 c7
    cases t
    · clear ht
      go_wp2_with fail
      go_ret
      exact ⟨⟨false, rfl, fun h => by cases h⟩, W2.out⟩
    have H16 := hide (ht rfl)
    clear ht
    have c9 := K2.out.cell 9
    simp at c9
    go_wp2_with fail
    refine (HD.out _ W2.out).mono ?_
    rintro e w4 ⟨⟨t, rfl, ht⟩, hb4⟩
    have K3 := hide (K2.out.keep hb4)
    have W3 := hide (below_step W2.out hb4 (Nat.le_refl _))
    clear hb4 K2 W2 HD c9
    cases t
    · clear ht
      go_wp2_with fail
      go_ret
      exact ⟨⟨false, rfl, fun h => by cases h⟩, W3.out⟩
    have H23 := hide (ht rfl)
    clear ht
    have c8 := K3.out.cell 8
    simp at c8
    have Hfin := hide (fun (h5 : n5 ≤ 1005) => (⟨by simp only []; omega, H16.out.1, H16.out.2.1, h5, H23.out.1, H16.out.2.2, H23.out.2⟩ : Few ⟨⟨sol, boxes, holes, cover, agg, poker⟩, bars, runs, laps, dems, rule⟩ ⟨a1, n1, c1, a2, n2, c2, a3, n3, c3, a4, n4, c4, a5, n5, c5, a6, n6, c6⟩))
    go_wp2_with fail
    all_goals go_ret
    all_goals exact ⟨⟨_, rfl, fun h => Hfin.out (by simp at h <;> omega)⟩, W3.out⟩
/-- few: the detail is small. -/
theorem few_any (x : DetD) (s : DetS) (w : World) {B : Nat} (h : DetAt w B x s) (hB : B ≤ w.heap.size) (hl : DetLen x s) :
    Calls Tryz.prog 9 #[detV x s] w fun e w' => RetB e (Few x s) ∧ Below w.heap.size w w' := by
  have HS := hide (fun (W : World) (hz : Below w.heap.size w W) => small25_any x s W (h.carry (hz.mono hB) (Nat.le_refl _)) (Nat.le_trans hB hz.size) hl)
  have Hi := hide (show (Tryz.prog.info? 34).map (·.size) = some 19 by kernel_rfl)
  have W0 := hide (below_new w (.cells (detCells x.mem x.rule s) 34))
  have K0 := hide (Blk.new w 34 (detCells x.mem x.rule s))
  clear h hB hl
  generalize hQ : Few x s = Q at *
  clear hQ
  obtain ⟨mem, bars, runs, laps, dems, rule⟩ := x
  obtain ⟨a1, n1, c1, a2, n2, c2, a3, n3, c3, a4, n4, c4, a5, n5, c5, a6, n6, c6⟩ := s
  obtain ⟨name, boxes, holes, cover, agg, poker⟩ := mem
  obtain ⟨r1, r2, r3, r4, r5, r6, r7, r8, r9⟩ := rule
  simp only [detCells] at K0 W0
  show Calls Tryz.prog 9 #[.agg #[.string name, .slice a1 n1 c1, .slice a2 n2 c2, .int .i64 cover, .int .i64 agg, .int .i64 poker, .slice a3 n3 c3, .slice a4 n4 c4, .slice a5 n5 c5, .slice a6 n6 c6, .int .i64 r1, .int .i64 r2, .int .i64 r3, .int .i64 r4, .int .i64 r5, .int .i64 r6, .int .i64 r7, .int .i64 r8, .int .i64 r9]] w _
  go_enter Tryz.func9, Tryz.ntmps9
  go_wp2_with (refine wpList_load_row rfl 34 (.tmp 1) rfl w.heap.size rfl 34 _ (0, 0) _ K0.out Tryz.underlying34 rfl Hi.out ?_)
  refine (HS.out _ W0.out).mono ?_
  rintro e w2 ⟨⟨t, rfl, ht⟩, hb2⟩
  have Ht := hide ht
  have Hb := hide (below_step W0.out hb2 (Nat.le_refl _))
  clear ht hb2 HS K0 W0 Hi
  go_wp2_with fail
  go_ret
  exact ⟨⟨t, rfl, Ht.out⟩, Hb.out⟩
end Go.Proofs.YtpmipoljnchheaaGreat
namespace Go.Proofs.YtpmipoljnchheaaGreat
open Go.RowKit

theorem rem_range {i : Int} {n : Nat} (h0 : 0 ≤ i) (hn : 0 < n) : ∃ k : Nat, i % (n : Int) = (k : Int) ∧ Int.tmod i (n : Int) = (k : Int) ∧ k < n := by
  have h1 := Int.emod_nonneg i (show (n : Int) ≠ 0 by omega)
  have h2 := Int.emod_lt_of_pos i (show (0 : Int) < n by omega)
  obtain ⟨k, hk⟩ := Int.eq_ofNat_of_zero_le h1
  exact ⟨k, hk, by rw [Int.tmod_eq_emod_of_nonneg h0, hk], by omega⟩
set_option maxHeartbeats 8000000 in
set_option maxRecDepth 100000 in
theorem seen_any (x : DetD) (s : DetS) (sc i k : Int) (w : World) {B : Nat} (h : DetAt w B x s) (hB : B ≤ w.heap.size) (hl : DetLen x s) (hi : 0 ≤ i ∧ i < 256) (hk : 0 ≤ k ∧ k < 256) :
    Calls Tryz.prog 7 #[detV x s, .int .i64 sc, .int .u8 i, .int .u8 k] w fun e w' => e = .returned (.bool true) ∧ Below w.heap.size w w' := by
  have HF := hide (fun (W : World) (hz : Below w.heap.size w W) => few_any x s W (h.carry (hz.mono hB) (Nat.le_refl _)) (Nat.le_trans hB hz.size) hl)
  have HS := hide (fun (hf : DetFit x s) (W : World) (hz : Below w.heap.size w W) => planSize_any x s sc W (h.carry (hz.mono hB) (Nat.le_refl _)) (Nat.le_trans hB hz.size) hf)
  have HC := hide (fun (hf : DetFit x s) (he : planErr x sc = 0) (W : World) (hz : Below w.heap.size w W) (p1 p2 p3 : Int) => planCell_ok x s sc (p1, p2, p3) W (h.carry (hz.mono hB) (Nat.le_refl _)) (Nat.le_trans hB hz.size) hf he)
  have HP := hide (fun (hf : DetFit x s) (he : planErr x sc = 0) (W : World) (hz : Below w.heap.size w W) (row col : Int) (hr : 0 ≤ row ∧ row < (gridOf x sc).rows) (hc : 0 ≤ col ∧ col < (gridOf x sc).cols) => planAt_ok x s sc row col W (h.carry (hz.mono hB) (Nat.le_refl _)) (Nat.le_trans hB hz.size) hf he hr hc)
  have HN := hide (fun (hm : s.n4 ≤ 60) (hc : ∀ r ∈ x.runs, 1 ≤ r.count ∧ r.count ≤ 1000) (W : World) (hz : Below w.heap.size w W) => count16_any s.a4 x.runs s.n4 s.c4 W (h.h4.carry (Flat.carried _) (hz.mono hB) (Nat.le_refl _)) (Nat.le_trans hB hz.size) hl.l4 hm hc)
  have HL := hide (fun (hf : DetFit x s) (hok : laidOk x.bars x.runs = true) (j : Nat) (ld : LaidD) (hj : (laidAll x.bars x.runs)[j]? = some ld) (W : World) (hz : Below w.heap.size w W) => laidLegs_ok s.a3 s.a4 x.bars x.runs s.n3 s.c3 s.n4 s.c4 j ld W (h.h3.carry (hz.mono hB) (Nat.le_refl _)) (h.h4.carry (Flat.carried _) (hz.mono hB) (Nat.le_refl _)) (Nat.le_trans hB hz.size) hf.l3 hf.l4 hf.m3 hf.m4 hf.tame hok hj)
  have HM := hide (fun (hf : DetFit x s) (hok : laidOk x.bars x.runs = true) (j : Nat) (ld : LaidD) (hj : (laidAll x.bars x.runs)[j]? = some ld) (W : World) (hz : Below w.heap.size w W) => laidMark_ok s.a3 x.bars s.n3 s.c3 s.a4 x.runs s.n4 s.c4 W (h.h3.carry (hz.mono hB) (Nat.le_refl _)) (h.h4.carry (Flat.carried _) (hz.mono hB) (Nat.le_refl _)) (Nat.le_trans hB hz.size) hf.l3 hf.l4 hf.m3 hf.m4 hf.tame hok (j : Int) ld.bar.mark (by omega) (by have := lt_of_get hj; have := (laidOk_len hok).2; omega) (laidAll_mark x.runs j ld (laidOk_mem hok).2.2 hj))
  have HR := hide (fun (m : ByteArray) (g : Nat) (W : World) (hz : Below w.heap.size w W) (h0 : ∀ W', Below W.heap.size W W' → W'.cell? ⟨g, 0, none⟩ = some (.string m)) (hm : s.n4 ≤ 60000) => containsFuncRun_any s.a4 x.runs s.n4 s.c4 29 #[.pointer (some ⟨g, 0, none⟩)] (runIs m) W (h.h4.carry (Flat.carried _) (hz.mono hB) (Nat.le_refl _)) (Nat.le_trans hB hz.size) hl.l4 (by omega) Tryz.call29 (fun y W' _ hb => seen1_any y m g W' (h0 W' hb)))
  have Hfit := hide (fun (hf : Few x s) => few_fit hl hf)
  have H4 := hide hl.l4
  have Hl3 := hide hl.l3
  have Hi := hide (show (Tryz.prog.info? 34).map (·.size) = some 19 by kernel_rfl)
  have K0 := hide (Blk.new w 34 (detCells x.mem x.rule s))
  have HW := hide (below_new w (.cells (detCells x.mem x.rule s) 34))
  clear h hl
  have hsz : detCells x.mem x.rule s = #[.string x.mem.name, .slice s.a1 s.n1 s.c1, .slice s.a2 s.n2 s.c2, .int .i64 x.mem.cover, .int .i64 x.mem.aggregate, .int .i64 x.mem.poker, .slice s.a3 s.n3 s.c3, .slice s.a4 s.n4 s.c4, .slice s.a5 s.n5 s.c5, .slice s.a6 s.n6 s.c6, .int .i64 x.rule.num, .int .i64 x.rule.den, .int .i64 x.rule.poorNum, .int .i64 x.rule.poorDen, .int .i64 x.rule.bendNum, .int .i64 x.rule.bendDen, .int .i64 x.rule.lapNum, .int .i64 x.rule.lapDen, .int .i64 x.rule.least] := rfl
  clear hsz
  go_enter Tryz.func7, Tryz.ntmps7
  go_wp2_with fail
  refine (awake_any _).mono ?_
  rintro e w1 ⟨rfl, hb⟩
  have K0 := hide (K0.out.keep hb)
  have HW := hide (below_step HW.out hb (Nat.le_refl _))
  clear hb
  go_wp2_with (refine wpList_load_row rfl 34 (.tmp 4) rfl w.heap.size rfl 34 _ (0, 0) _ K0.out Tryz.underlying34 rfl Hi.out ?_)
  refine (HF.out _ HW.out).mono ?_
  rintro e w2 ⟨⟨t, rfl, ht⟩, hb⟩
  have K0 := hide (K0.out.keep hb)
  have HW := hide (below_step HW.out hb (Nat.le_refl _))
  have Ht := hide ht
  clear hb ht HF
  cases t
  · go_wp2_with fail
    go_ret
    exact ⟨rfl, HW.out⟩
  have hfit := Hfit.out (Ht.out rfl)
  have Hfew := hide (Ht.out rfl)
  have HS := hide (HS.out hfit)
  have HC := hide (HC.out hfit)
  have HP := hide (HP.out hfit)
  have HL := hide (HL.out hfit)
  have HM := hide (HM.out hfit)
  clear Ht Hfit hfit
  go_wp2_with (refine wpList_load_row rfl 34 (.tmp 4) rfl w.heap.size rfl 34 _ (0, 0) _ K0.out Tryz.underlying34 rfl Hi.out ?_)
  refine (HS.out _ HW.out).mono ?_
  rintro e w3 ⟨rfl, hb⟩
  have K0 := hide (K0.out.keep hb)
  have HW := hide (below_step HW.out hb (Nat.le_refl _))
  clear hb HS
  by_cases he : planErr x sc = 0
  case neg =>
    have he' := hide he
    generalize planGrid x sc = g at *
    generalize planErr x sc = er at *
    have d0 : (er == 0) = false := by simpa using he'.out
    clear he
    go_wp2_with fail
    go_ret
    refine ⟨?_, HW.out⟩
    show Ending.returned (.bool (er != 0)) = _
    rw [show (er != 0) = true by rw [bne, d0]; rfl]
  case pos =>
    have hpf := plan_facts he
    rw [plan_ok he, he]
    have HC := hide (HC.out he)
    have HP := hide (HP.out he)
    have HSr := hide (fun (m : ByteArray) (row col : Int) (hm : m ∈ marksAt x sc row col) => seen_run he hm)
    have HSe := hide (fun (j : Nat) (ld : LaidD) (b : BoxD) (p : Pt) (hj : (laidAll x.bars x.runs)[j]? = some ld) (hb : b ∈ legsOfPts ld.pts) (hp : p = b.lo ∨ p = b.hi) (hin : InGrid (gridOf x sc) p) => end_seen he hj hb hp hin)
    have HCr := hide (fun (p : Pt) (hin : InGrid (gridOf x sc) p) => cell_range (g := gridOf x sc) (p := p) hpf.sc.1 hin)
    have HMl := hide (fun (row col : Int) => show (marksAt x sc row col).length ≤ x.bars.length by unfold marksAt; rw [List.length_map]; exact seenAt_len x sc row col)
    obtain ⟨N, hN⟩ : ∃ N, N = (laidAll x.bars x.runs).length := ⟨_, rfl⟩
    have hcn : countRuns x.runs = (N : Int) := by rw [hN]; exact (laidOk_len hpf.laid).1.symm
    have hN2 : N ≤ 2000 := by rw [hN]; exact (laidOk_len hpf.laid).2
    have Hat := hide (fun (j : Nat) (hj : j < N) => show ∃ ld, (laidAll x.bars x.runs)[j]? = some ld from ⟨_, List.getElem?_eq_getElem (by rw [← hN]; exact hj)⟩)
    have HN := hide (HN.out (by rw [H4.out]; exact (laidOk_mem hpf.laid).2.1) (fun r hr => runOk_count ((laidOk_mem hpf.laid).2.2 r hr)))
    rw [hcn] at HN
    have HL := hide (HL.out hpf.laid)
    have HM := hide (HM.out hpf.laid)
    have Hlg := hide (fun (j : Nat) (ld : LaidD) (hj : (laidAll x.bars x.runs)[j]? = some ld) => laid_legs hpf.laid hj)
    have hm4 : s.n4 ≤ 60 := by rw [H4.out]; exact (laidOk_mem hpf.laid).2.1
    have d1 : decide (sc < 1) = false := by have := hpf.sc; simp; omega
    have e7 := K0.out.cell 7
    simp at e7
    have lk := K0.out.lt
    clear hpf he hN hcn
    go_wp2_with fail
    refine (HN.out _ HW.out).mono ?_
    rintro e w4 ⟨rfl, hb⟩
    have K0 := hide (K0.out.keep hb)
    have HW := hide (below_step HW.out hb (Nat.le_refl _))
    clear hb HN e7 lk
    rcases Nat.eq_zero_or_pos N with hz | hpos
    · have d2 : ((N : Int) == 0) = true := by simp [hz]
      clear hz
      go_wp2_with fail
      go_ret
      exact ⟨rfl, HW.out⟩
    have d2 : ((N : Int) == 0) = false := by simp; omega
    obtain ⟨q, hq1, hq2, hqn⟩ := rem_range (n := N) hi.1 hpos
    obtain ⟨ld, hld⟩ := Hat.out q hqn
    have HLq := hide (HL.out q ld hld)
    have HMq := hide (HM.out q ld hld)
    have HSq := hide (fun (b : BoxD) (p : Pt) => HSe.out q ld b p hld)
    obtain ⟨hln1, hln2⟩ := Hlg.out q ld hld
    obtain ⟨mark, hmark⟩ : ∃ m, m = ld.bar.mark := ⟨_, rfl⟩
    obtain ⟨legs, hlegs⟩ : ∃ l, l = legsOfPts ld.pts := ⟨_, rfl⟩
    rw [← hlegs] at HLq hln1 hln2
    rw [← hmark] at HMq
    rw [← hmark, ← hlegs] at HSq
    clear hmark hlegs hld HL HM HSe Hlg Hat
    have z1 : IntKind.i64.wrap i = i := IntWalk.i64_in _ (by omega)
    have z2 : IntKind.i64.wrap k = k := IntWalk.i64_in _ (by omega)
    have z3 : IntKind.i64.wrap (q : Int) = (q : Int) := IntWalk.i64_in _ (by omega)
    have e6 := K0.out.cell 6
    have e7 := K0.out.cell 7
    simp at e6 e7
    have lk := K0.out.lt
    go_wp2_with fail
    refine (HLq.out _ HW.out).mono ?_
    rintro e w5 ⟨AL, cL, rfl, hlg, hb⟩
    have K0 := hide (K0.out.keep hb)
    have HW := hide (below_step HW.out hb (Nat.le_refl _))
    have Hlg := hide hlg
    clear hb hlg HLq e6 e7 lk
    have e6 := K0.out.cell 6
    have e7 := K0.out.cell 7
    simp at e6 e7
    have lk := K0.out.lt
    go_wp2_with fail
    refine (HMq.out _ HW.out).mono ?_
    rintro e w6 ⟨rfl, hb⟩
    have K0 := hide (K0.out.keep hb)
    have HW := hide (below_step HW.out hb (Nat.le_refl _))
    have Hlg := hide (Hlg.out.carry (Flat.carried _) hb hb.size)
    clear hb HMq e6 e7 lk
    obtain ⟨ln, hln⟩ : ∃ ln, ln = legs.length := ⟨_, rfl⟩
    rw [← hln] at hln1 hln2 ⊢
    have d3 : ((ln : Int) == 0) = false := by simp; omega
    obtain ⟨j, hj1, hj2, hjn⟩ := rem_range (n := ln) hk.1 hln1
    have z4 : IntKind.i64.wrap (j : Int) = (j : Int) := IntWalk.i64_in _ (by omega)
    obtain ⟨b, off, leg, rfl, hbl, hlx, f0, f1, f2, f3, f4, f5⟩ := BoxesAt.get (k := j) Hlg.out (by rw [← hln]; exact hjn)
    have HSl := hide (fun (p : Pt) => HSq.out leg p (mem_of_get hlx))
    obtain ⟨⟨l1, l2, l3⟩, u1, u2, u3⟩ := leg
    simp only at f0 f1 f2 f3 f4 f5
    clear hlx hln Hlg HSq
    go_wp2_with fail
    have hk6 := K0.out.lt
    go_loopw [100] (fun iv wr => ∃ t : Nat, t ≤ 2 ∧ iv = .int .i64 t ∧ Hid (Blk wr (w6.heap.size + 1) 44 #[.int .i64 l1, .int .i64 l2, .int .i64 l3, .int .i64 u1, .int .i64 u2, .int .i64 u3]) ∧ Hid (Blk wr w.heap.size 34 (detCells x.mem x.rule s)) ∧ Below w.heap.size w wr) (fun iv _ => 2 - (intOf iv).toNat)
    case atStart =>
      refine ⟨0, by omega, rfl, hide ?_, hide ((K0.out.alloc _).alloc _), (HW.out.alloc HW.out.size _).alloc (le_alloc HW.out.size _) _⟩
      exact Blk.new1 w6 _ _ _
    case round =>
      rename World => wo
      obtain ⟨t, ht, rfl, hP, hK, hbr⟩ := hrel
      by_cases hlt : t < 2
      · obtain ⟨p1, p2, p3, hp, g0, g1, g2⟩ : ∃ p1 p2 p3 : Int, ((p1, p2, p3) = ((l1, l2, l3) : Pt) ∨ (p1, p2, p3) = ((u1, u2, u3) : Pt)) ∧ wo.cell? ⟨w6.heap.size + 1, t * 3, none⟩ = some (Value.int .i64 p1) ∧ wo.cell? ⟨w6.heap.size + 1, t * 3 + 1, none⟩ = some (Value.int .i64 p2) ∧ wo.cell? ⟨w6.heap.size + 1, t * 3 + 2, none⟩ = some (Value.int .i64 p3) := by
          rcases (show t = 0 ∨ t = 1 by omega) with rfl | rfl
          · exact ⟨l1, l2, l3, .inl rfl, hP.out.cell 0, hP.out.cell 1, hP.out.cell 2⟩
          · exact ⟨u1, u2, u3, .inr rfl, hP.out.cell 3, hP.out.cell 4, hP.out.cell 5⟩
        have HSp := hide (HSl.out (p1, p2, p3) hp)
        have HCr := hide (HCr.out (p1, p2, p3))
        have K1 := hide (hK.out.alloc (.cells #[.int .i64 p1, .int .i64 p2, .int .i64 p3] 44))
        have P1 := hide (hP.out.alloc (.cells #[.int .i64 p1, .int .i64 p2, .int .i64 p3] 44))
        have HW1 := hide (hbr.alloc hbr.size (.cells #[.int .i64 p1, .int .i64 p2, .int .i64 p3] 44))
        have HC1 := hide (HC.out _ HW1.out p1 p2 p3)
        have hlg := hP.out.lt
        clear hp hP hK hbr
        by_cases hin : InGrid (gridOf x sc) (p1, p2, p3)
        · have hct : cellTuple (gridOf x sc) (p1, p2, p3) = #[.int .i64 (cellRow (gridOf x sc) (p1, p2, p3)), .int .i64 (cellCol (gridOf x sc) (p1, p2, p3)), .int .i64 0] := if_pos hin
          obtain ⟨hr, hc⟩ := HCr.out hin
          have hmem := HSp.out hin
          rw [hct] at HC1
          generalize cellRow (gridOf x sc) (p1, p2, p3) = row at *
          generalize cellCol (gridOf x sc) (p1, p2, p3) = col at *
          have Hmem := hide hmem
          have Hrc := hide (And.intro hr hc)
          clear hct hin HSp HCr hmem hr hc
          go_wp2_with (refine wpList_load_row rfl 34 (.tmp 4) rfl w.heap.size rfl 34 _ (0, 0) _ K1.out Tryz.underlying34 rfl Hi.out ?_)
          refine HC1.out.mono ?_
          rintro e w7 ⟨rfl, hb⟩
          have K1 := hide (K1.out.keep hb)
          have P1 := hide (P1.out.keep hb)
          have HW2 := hide (below_step HW1.out hb (Nat.le_refl _))
          clear hb HC1 g0 g1 g2 hlg
          have HPk := hide (HP.out _ HW2.out row col Hrc.out.1 Hrc.out.2)
          have HSk := hide (fun m => HSr.out m row col)
          have HMk := hide (HMl.out row col)
          go_wp2_with (refine wpList_load_row rfl 34 (.tmp 4) rfl w.heap.size rfl 34 _ (0, 0) _ K1.out Tryz.underlying34 rfl Hi.out ?_)
          refine HPk.out.mono ?_
          rintro e w8 ⟨AM, cM, rfl, hms, hb⟩
          have K2 := hide (K1.out.keep hb)
          have P2 := hide (P1.out.keep hb)
          have HW3 := hide (below_step HW2.out hb (Nat.le_refl _))
          have Hms := hide hms
          clear hb HPk hms K1 P1 HW2
          generalize marksAt x sc row col = ms at *
          have hmn : ms.length ≤ 60000 := by
            have h1 := HMk.out
            have h2 := Hfew.out.bars
            rw [← Hl3.out] at h1
            omega
          have HCo := hide (containsStr_any AM ms ms.length cM mark w8 Hms.out rfl (by omega))
          rw [strIs_mem.2 Hmem.out] at HCo
          clear Hmem HMk
          generalize hmq : ms.length = mn at *
          have Hmq := hide hmq
          clear hmq
          go_wp2_with fail
          refine HCo.out.mono ?_
          rintro e w9 ⟨rfl, rfl⟩
          clear HCo
          go_wp2_with fail
          go_loopw [134] (fun iv wi => ∃ r : Nat, r ≤ mn ∧ iv = .int .i64 r ∧ Below w8.heap.size w8 wi) (fun iv _ => mn - (intOf iv).toNat)
          case atStart => exact ⟨0, Nat.zero_le _, rfl, Below.refl _ _⟩
          case round =>
            obtain ⟨r, hr, rfl, hbi⟩ := hrel
            have K3 := hide (K2.out.keep hbi)
            have P3 := hide (P2.out.keep hbi)
            have HW4 := hide (below_step HW3.out hbi (Nat.le_refl _))
            by_cases hlr : r < mn
            · obtain ⟨b2, off2, m2, rfl, hbl2, hx2, s0⟩ := StrsAt.get (k := r) (Hms.out.carry (Flat.carried _) hbi hbi.size) (by rw [Hmq.out]; exact hlr)
              have HBi := hide hbi
              have KM := hide (Blk.new wr 9 #[.string m2])
              have K4 := hide (K3.out.alloc (.cells #[.string m2] 9))
              have HW5 := hide (HW4.out.alloc HW4.out.size (.cells #[.string m2] 9))
              have HRk := hide (HR.out m2 wr.heap.size _ HW5.out (fun W' hb => by have h9 := (KM.out.keep hb).cell 0; simpa using h9) (by omega))
              rw [HSk.out m2 (mem_of_get hx2)] at HRk
              have e7 := K4.out.cell 7
              simp at e7
              have lk := K4.out.lt
              clear hx2 hbl2 hbi
              go_wp2_with fail
              refine HRk.out.mono ?_
              rintro e w9 ⟨rfl, hb⟩
              have HB9 := hide (below_step (HBi.out.alloc HBi.out.size (.cells #[.string m2] 9)) hb (Nat.le_refl _))
              clear hb HRk
              go_wp2_with fail
              go_roundw
              case rel => exact ⟨r + 1, by omega, by go_num, HB9.out⟩
              case measure => simp [intOf]; omega
            · obtain rfl : r = mn := by omega
              go_wp2_with fail
              go_roundw
              case rel => exact ⟨t + 1, by omega, by go_num, P3, K3, HW4.out⟩
              case measure => simp [intOf]; omega
        · have hct : cellTuple (gridOf x sc) (p1, p2, p3) = #[.int .i64 0, .int .i64 0, .int .i64 12] := if_neg hin
          rw [hct] at HC1
          clear hct hin HSp HCr
          go_wp2_with (refine wpList_load_row rfl 34 (.tmp 4) rfl w.heap.size rfl 34 _ (0, 0) _ K1.out Tryz.underlying34 rfl Hi.out ?_)
          refine HC1.out.mono ?_
          rintro e w7 ⟨rfl, hb⟩
          have K1 := hide (K1.out.keep hb)
          have P1 := hide (P1.out.keep hb)
          have HW2 := hide (below_step HW1.out hb (Nat.le_refl _))
          clear hb HC1
          go_wp2_with fail
          go_roundw
          case rel => exact ⟨t + 1, by omega, by go_num, P1, K1, HW2.out⟩
          case measure => simp [intOf]; omega
      · obtain rfl : t = 2 := by omega
        go_wp2_with fail
        go_ret
        exact ⟨rfl, hbr⟩
end Go.Proofs.YtpmipoljnchheaaGreat
