/- Small schedules and runs; small details. Small details: what law46.few gives. The chapter's example, and that it holds. law46's awake: the example can be drawn, and its text and legend are right. -/
import Derived.Test.YtpmipoljnchheaaGreatMap
import Derived.Test.YtpmipoljnchheaaGreatMat
namespace Go.Proofs.YtpmipoljnchheaaGreat
open Go.RowKit

set_option maxHeartbeats 8000000 in
set_option maxRecDepth 100000 in
theorem small16_any (A : Option Addr) (l : List BarD) (n c : Nat) (A2 : Option Addr) (l2 : List RunD) (n2 c2 : Nat) (w : World) {B : Nat} (h : BarsAt w B A l) (h2 : RunsAt w B A2 l2) (hB : B ≤ w.heap.size) (hn : n = l.length) (hn2 : n2 = l2.length) :
    Calls Tryz.prog 59 #[.slice A n c, .slice A2 n2 c2, .int .i64 6, .int .i64 16] w fun e w' => RetB e (n ≤ 63 ∧ n2 ≤ 63 ∧ Tame l) ∧ Below w.heap.size w w' := by
  have hn' := hide hn
  have hn2' := hide hn2
  have Hs := hide h
  have H2 := hide h2
  clear hn hn2 h h2
  go_enter Tryz.func59, Tryz.ntmps59
  go_upto_region 1 with fail
  go_cut [41] from 12 (fun v W => (∃ t : Bool, v = .bool t ∧ Hid (t = false → n ≤ 63 ∧ n2 ≤ 63)) ∧ Below w.heap.size w W)
  case first =>
    go_wp2_with fail
    all_goals go_meet
    all_goals exact ⟨⟨_, rfl, hide (fun h => by simp at h <;> omega)⟩, Below.refl _ _⟩
  case rest =>
    obtain ⟨⟨t, rfl, ht⟩, hb⟩ := hcut
    cases t
    case true =>
      go_wp2_with fail
      go_ret
      exact ⟨⟨false, rfl, fun h => by cases h⟩, hb⟩
    case false =>
      obtain ⟨h63, h263⟩ := ht.out rfl
      clear ht
      have hb0 := hide hb
      clear hb
      go_wp2_with fail
      go_loopw [9] (fun i wr => ∃ k : Nat, k ≤ n ∧ i = .int .i64 k ∧ Hid (Tame (l.take k)) ∧ Below w.heap.size w wr) (fun i _ => n - (intOf i).toNat)
      case atStart => exact ⟨0, Nat.zero_le _, rfl, hide (by intro x hx; simp at hx), hb0.out⟩
      case round =>
        clear hb0
        obtain ⟨k, hk, rfl, hq, hbr⟩ := hrel
        by_cases hlt : k < n
        · have HR := hide (Hs.out.carry (hbr.mono hB) (Nat.le_refl B))
          obtain ⟨b, off, x, A', c', rfl, hbl, hx, hi, h0, h1, h2, h3, h4⟩ := BarsAt.get (k := k) HR.out (by rw [← hn'.out]; exact hlt)
          have Hnext := hide (fun (hx1 : x.dims.length ≤ 8 ∧ x.mark.size ≤ 60) => (show Tame (l.take (k + 1)) by
            rw [take_snoc' hx]
            intro d hd
            rcases List.mem_append.1 hd with h | h
            · exact hq.out d h
            · obtain rfl := List.mem_singleton.1 h; exact ⟨Nat.le_trans hx1.2 (by decide), by omega⟩))
          clear hx hi hbl hq
          obtain ⟨mark, size, cnt, code, dims⟩ := x
          simp only [] at h0 h1 h2 h3 h4 Hnext
          generalize dims.length = dl at *
          go_wp2_with fail
          refine (short_any mark size cnt code A' dl c' _).mono ?_
          rintro e w2 ⟨⟨t, rfl, ht⟩, hb2⟩
          have Hb2 := hide (hbr.trans (hb2.mono hbr.size))
          clear hb2
          cases t
          · clear ht Hnext
            go_wp2_with fail
            go_ret
            exact ⟨⟨false, rfl, fun h => by cases h⟩, Hb2.out⟩
          · have Hnext := hide (Hnext.out (ht rfl))
            clear ht
            go_wp2_with fail
            go_roundw
            case rel => exact ⟨k + 1, by omega, by go_num, Hnext, Hb2.out⟩
            case measure => simp [intOf]; omega
        · obtain rfl : k = n := by omega
          have HT := hide (show Tame l by have := hq.out; rwa [hn'.out, List.take_length] at this)
          have Hb0 := hide hbr
          clear hq hbr
          rename World => wo
          go_wp2_with fail
          go_loopw [10, 11] (fun v i wr => ∃ j : Nat, j ≤ n2 ∧ i = .int .i64 j ∧ (∃ t : Int, v = .int .i64 t ∧ 0 ≤ t ∧ t ≤ 16 * j) ∧ Below w.heap.size w wr) (fun _ i _ => n2 - (intOf i).toNat)
          case atStart => exact ⟨0, Nat.zero_le _, rfl, ⟨0, rfl, by omega, by omega⟩, Hb0.out⟩
          case round =>
            clear Hb0
            obtain ⟨j, hj, rfl, ⟨t, rfl, ht0, ht1⟩, hbr⟩ := hrel
            by_cases hlt : j < n2
            · obtain ⟨b, off, r, rfl, hbl, hx, hc⟩ := RunsAt.get (k := j) (H2.out.carry (Flat.carried _) (hbr.mono hB) (Nat.le_refl _)) (by rw [← hn2'.out]; exact hlt)
              obtain ⟨mark, tx, ty, ⟨a1, a2, a3⟩, ⟨s1, s2, s3⟩, cnt⟩ := r
              have p0 := hc 0 _ rfl
              have p9 := hc 9 _ rfl
              simp only [Nat.add_zero] at p0 p9
              clear hx hbl hc
              go_wp2_with fail
              all_goals first
                | (go_roundw
                   case rel => exact ⟨j + 1, by omega, by go_num, ⟨_, rfl, by omega, by omega⟩, hbr⟩
                   case measure => simp [intOf]; omega)
                | (go_ret
                   exact ⟨⟨false, rfl, fun h => by cases h⟩, hbr⟩)
            · obtain rfl : j = n2 := by omega
              go_wp2_with fail
              all_goals go_ret
              all_goals first
                | exact ⟨⟨_, rfl, fun _ => HT.out⟩, hbr⟩
                | exact ⟨⟨_, rfl, fun _ => ⟨h63, h263, HT.out⟩⟩, hbr⟩
                | exact ⟨⟨_, rfl, fun _ => ⟨by omega, by omega, HT.out⟩⟩, hbr⟩
end Go.Proofs.YtpmipoljnchheaaGreat
namespace Go.Proofs.YtpmipoljnchheaaGreat
open Go.RowKit

/-- What few(x) gives. -/
structure Few (x : DetD) (s : DetS) : Prop where
  name : x.mem.name.size ≤ 60
  bars : s.n3 ≤ 63
  runs : s.n4 ≤ 63
  laps : s.n5 ≤ 1005
  demn : s.n6 ≤ 25
  tame : Tame x.bars
  dems : ∀ d ∈ x.dems, d.name.size ≤ 60 ∧ d.steps.length ≤ 205
structure DetLen (x : DetD) (s : DetS) : Prop where
  l1 : s.n1 = x.mem.boxes.length
  l2 : s.n2 = x.mem.holes.length
  l3 : s.n3 = x.bars.length
  l4 : s.n4 = x.runs.length
  l5 : s.n5 = x.laps.length
  l6 : s.n6 = x.dems.length
  k6 : s.n6 ≤ s.c6
theorem few_fit {x : DetD} {s : DetS} (h : DetLen x s) (f : Few x s) : DetFit x s :=
  ⟨h.l1, h.l2, h.l3, h.l4, h.l5, h.l6, Nat.le_trans f.bars (by decide), Nat.le_trans f.runs (by decide), Nat.le_trans f.laps (by decide), Nat.le_trans f.demn (by decide), h.k6,
   Nat.le_trans f.name (by decide), f.tame, fun d hd => ⟨Nat.le_trans (f.dems d hd).1 (by decide), by have := (f.dems d hd).2; omega⟩⟩
set_option maxHeartbeats 8000000 in
set_option maxRecDepth 100000 in
theorem small25_any (x : DetD) (s : DetS) (w : World) {B : Nat} (h : DetAt w B x s) (hB : B ≤ w.heap.size) (hl : DetLen x s) :
    Calls Tryz.prog 31 #[detV x s] w fun e w' => RetB e (Few x s) ∧ Below w.heap.size w w' := by
  have HS := hide (fun (W : World) (hz : Below w.heap.size w W) => small16_any s.a3 x.bars s.n3 s.c3 s.a4 x.runs s.n4 s.c4 W (h.h3.carry (hz.mono hB) (Nat.le_refl _)) (h.h4.carry (Flat.carried _) (hz.mono hB) (Nat.le_refl _)) (Nat.le_trans hB hz.size) hl.l3 hl.l4)
  have HD := hide (fun (W : World) (hz : Below w.heap.size w W) => small23_any s.a6 x.dems s.n6 s.c6 W (SlOf.carry demR_carried h.h6 (hz.mono hB) (Nat.le_refl _)) (Nat.le_trans hB hz.size) hl.l6)
  have K0 := hide (Blk.new w 34 (detCells x.mem x.rule s))
  have W0 := hide (below_new w (.cells (detCells x.mem x.rule s) 34))
  clear h hB hl
  obtain ⟨mem, bars, runs, laps, dems, rule⟩ := x
  obtain ⟨sol, boxes, holes, cover, agg, poker⟩ := mem
  obtain ⟨a1, n1, c1, a2, n2, c2, a3, n3, c3, a4, n4, c4, a5, n5, c5, a6, n6, c6⟩ := s
  go_enter Tryz.func31, Tryz.ntmps31
  by_cases hnm : 60 < (sol.size : Int)
  · go_wp2_with fail
    go_ret
    exact ⟨⟨false, rfl, fun h => by cases h⟩, W0.out⟩
  · go_wp2_with fail
    refine (small17_any a1 a2 n1 c1 n2 c2 _).mono ?_
    rintro e w2 ⟨⟨t, rfl, _⟩, hb2⟩
    have K1 := hide (K0.out.keep hb2)
    have W1 := hide (below_step W0.out hb2 (Nat.le_refl _))
    clear hb2 K0 W0
    cases t
    · go_wp2_with fail
      go_ret
      exact ⟨⟨false, rfl, fun h => by cases h⟩, W1.out⟩
    have c6 := K1.out.cell 6
    have c7 := K1.out.cell 7
    simp at c6 c7
    go_wp2_with fail
    refine (HS.out _ W1.out).mono ?_
    rintro e w3 ⟨⟨t, rfl, ht⟩, hb3⟩
    have K2 := hide (K1.out.keep hb3)
    have W2 := hide (below_step W1.out hb3 (Nat.le_refl _))
    clear hb3 K1 W1 HS c6 c7
    cases t
    · clear ht
      go_wp2_with fail
      go_ret
      exact ⟨⟨false, rfl, fun h => by cases h⟩, W2.out⟩
    have H16 := hide (ht rfl)
    clear ht
    have c9 := K2.out.cell 9
    simp at c9
    go_wp2_with fail
    refine (HD.out _ W2.out).mono ?_
    rintro e w4 ⟨⟨t, rfl, ht⟩, hb4⟩
    have K3 := hide (K2.out.keep hb4)
    have W3 := hide (below_step W2.out hb4 (Nat.le_refl _))
    clear hb4 K2 W2 HD c9
    cases t
    · clear ht
      go_wp2_with fail
      go_ret
      exact ⟨⟨false, rfl, fun h => by cases h⟩, W3.out⟩
    have H23 := hide (ht rfl)
    clear ht
    have c8 := K3.out.cell 8
    simp at c8
    have Hfin := hide (fun (h5 : n5 ≤ 1005) => (⟨by simp only []; omega, H16.out.1, H16.out.2.1, h5, H23.out.1, H16.out.2.2, H23.out.2⟩ : Few ⟨⟨sol, boxes, holes, cover, agg, poker⟩, bars, runs, laps, dems, rule⟩ ⟨a1, n1, c1, a2, n2, c2, a3, n3, c3, a4, n4, c4, a5, n5, c5, a6, n6, c6⟩))
    go_wp2_with fail
    all_goals go_ret
    all_goals exact ⟨⟨_, rfl, fun h => Hfin.out (by simp at h <;> omega)⟩, W3.out⟩
/-- few: the detail is small. -/
theorem few_any (x : DetD) (s : DetS) (w : World) {B : Nat} (h : DetAt w B x s) (hB : B ≤ w.heap.size) (hl : DetLen x s) :
    Calls Tryz.prog 9 #[detV x s] w fun e w' => RetB e (Few x s) ∧ Below w.heap.size w w' := by
  have HS := hide (fun (W : World) (hz : Below w.heap.size w W) => small25_any x s W (h.carry (hz.mono hB) (Nat.le_refl _)) (Nat.le_trans hB hz.size) hl)
  have Hi := hide (show (Tryz.prog.info? 34).map (·.size) = some 19 by kernel_rfl)
  have W0 := hide (below_new w (.cells (detCells x.mem x.rule s) 34))
  have K0 := hide (Blk.new w 34 (detCells x.mem x.rule s))
  clear h hB hl
  generalize hQ : Few x s = Q at *
  clear hQ
  obtain ⟨mem, bars, runs, laps, dems, rule⟩ := x
  obtain ⟨a1, n1, c1, a2, n2, c2, a3, n3, c3, a4, n4, c4, a5, n5, c5, a6, n6, c6⟩ := s
  obtain ⟨name, boxes, holes, cover, agg, poker⟩ := mem
  obtain ⟨r1, r2, r3, r4, r5, r6, r7, r8, r9⟩ := rule
  simp only [detCells] at K0 W0
  show Calls Tryz.prog 9 #[.agg #[.string name, .slice a1 n1 c1, .slice a2 n2 c2, .int .i64 cover, .int .i64 agg, .int .i64 poker, .slice a3 n3 c3, .slice a4 n4 c4, .slice a5 n5 c5, .slice a6 n6 c6, .int .i64 r1, .int .i64 r2, .int .i64 r3, .int .i64 r4, .int .i64 r5, .int .i64 r6, .int .i64 r7, .int .i64 r8, .int .i64 r9]] w _
  go_enter Tryz.func9, Tryz.ntmps9
  go_wp2_with (refine wpList_load_row rfl 34 (.tmp 1) rfl w.heap.size rfl 34 _ (0, 0) _ K0.out Tryz.underlying34 rfl Hi.out ?_)
  refine (HS.out _ W0.out).mono ?_
  rintro e w2 ⟨⟨t, rfl, ht⟩, hb2⟩
  have Ht := hide ht
  have Hb := hide (below_step W0.out hb2 (Nat.le_refl _))
  clear ht hb2 HS K0 W0 Hi
  go_wp2_with fail
  go_ret
  exact ⟨⟨t, rfl, Ht.out⟩, Hb.out⟩
end Go.Proofs.YtpmipoljnchheaaGreat
namespace Go.Proofs.YtpmipoljnchheaaGreat
open Go.RowKit

theorem at_any (x y z : Int) (w : World) : Calls Tryz.prog 57 #[.int .i64 x, .int .i64 y, .int .i64 z] w fun e w' => e = .returned (ptA (x, y, z)) ∧ Below w.heap.size w w' := by
  have kR := hide (Blk.new w 44 #[.int .i64 x, .int .i64 y, .int .i64 z])
  have hB := hide (below_new w (.cells #[.int .i64 x, .int .i64 y, .int .i64 z] 44))
  go_enter Tryz.func57, Tryz.ntmps57
  go_wp2_with fail
  refine bodyPost_ret (results_c rfl rfl kR.out Tryz.underlying44 rfl (by kernel_rfl)) rfl ?_
  exact ⟨rfl, hB.out⟩
def exMain : ByteArray := ⟨#[109, 97, 105, 110]⟩
def exD : DetD := ⟨⟨⟨#[109]⟩, [⟨(0, 0, 0), (400, 200, 300)⟩], [], 0, 16, 50⟩, [⟨exMain, 10, 1, 0, [200]⟩], [⟨exMain, 1, 2, (100, 50, 50), (0, 0, 0), 1⟩], [], [], ⟨40, 1, 1, 1, 1, 1, 1, 1, 0⟩⟩
theorem exD_err : planErr exD 100 = 0 := by decide +kernel
theorem exD_ok : detOk exD = true := by decide +kernel
theorem exD_text : drawText exD 100 = [46, 97, 97, 97, 10, 46, 46, 46, 46, 10] := by decide +kernel
theorem exD_legend : legendText exD.bars = [97, 32, 109, 97, 105, 110, 10] := by decide +kernel
abbrev exS (g1 g3 g4 : Nat) : DetS := ⟨some ⟨g1, 0, none⟩, 1, 1, none, 0, 0, some ⟨g3, 0, none⟩, 1, 1, some ⟨g4, 0, none⟩, 1, 1, none, 0, 0, none, 0, 0⟩
theorem exam_at {W : World} {g1 g2 g3 g4 : Nat} {t1 t2 t3 t4 : TypeId} (h1 : Blk W g1 t1 #[.int .i64 0, .int .i64 0, .int .i64 0, .int .i64 400, .int .i64 200, .int .i64 300]) (h2 : Blk W g2 t2 #[.int .i64 200])
    (h3 : Blk W g3 t3 #[.string ⟨#[109, 97, 105, 110]⟩, .int .i64 10, .int .i64 1, .int .i64 0, .slice (some ⟨g2, 0, none⟩) 1 1]) (h4 : Blk W g4 t4 #[.string ⟨#[109, 97, 105, 110]⟩, .int .i64 1, .int .i64 2, .int .i64 100, .int .i64 50, .int .i64 50, .int .i64 0, .int .i64 0, .int .i64 0, .int .i64 1]) : DetAt W W.heap.size exD (exS g1 g3 g4) :=
  ⟨blk_sl encB_len h1 (fun j u h => by simpa [exD, encB] using h) h1.lt, SlOf.nil _ _ _ _ _,
   SlOf.of_row (xs := [.string ⟨#[109, 97, 105, 110]⟩, .int .i64 10, .int .i64 1, .int .i64 0, .slice (some ⟨g2, 0, none⟩) 1 1]) h3.lt (fun j u hu => by rw [h3.cell]; simpa using hu)
     (fun k x hx => by
       have hk : k = 0 := by rcases Nat.lt_or_ge k 1 with h | h; · omega
                             · rw [List.getElem?_eq_none (by simpa [exD] using h)] at hx; cases hx
       subst hk
       obtain rfl : x = ⟨exMain, 10, 1, 0, [200]⟩ := by simpa [exD] using hx.symm
       refine ⟨[.string ⟨#[109, 97, 105, 110]⟩, .int .i64 10, .int .i64 1, .int .i64 0, .slice (some ⟨g2, 0, none⟩) 1 1], rfl, ⟨some ⟨g2, 0, none⟩, 1, rfl, blk_sl encInt_len h2 (fun j u h => by simpa [encInt] using h) h2.lt⟩, fun j v hj => ?_⟩
       simpa using hj),
   blk_sl encRun_len h4 (fun j u h => by simpa [exD, encRun, exMain] using h) h4.lt, SlOf.nil _ _ _ _ _, SlOf.nil _ _ _ _ _⟩
theorem exam_fit (g1 g3 g4 : Nat) : DetFit exD (exS g1 g3 g4) :=
  ⟨rfl, rfl, rfl, rfl, rfl, rfl, (by decide : (1 : Nat) ≤ 60000), (by decide : (1 : Nat) ≤ 60000), (by decide : (0 : Nat) ≤ 60000), (by decide : (0 : Nat) ≤ 60000), (by decide : (0 : Nat) ≤ 0), by decide, fun x hx => by
    obtain rfl : x = ⟨exMain, 10, 1, 0, [200]⟩ := by simpa [exD] using hx
    exact ⟨by decide, by decide⟩, fun d hd => by simp [exD] at hd⟩
set_option maxHeartbeats 4000000 in
set_option maxRecDepth 100000 in
theorem example_any (w : World) : Calls Tryz.prog 30 #[] w fun e w' => ∃ s : DetS, e = .returned (detV exD s) ∧ DetAt w' w'.heap.size exD s ∧ DetFit exD s ∧ Below w.heap.size w w' := by
  go_enter Tryz.func30, Tryz.ntmps30
  go_wp2_with fail
  have KZ := hide (Blk.new w 34 #[.string ⟨#[]⟩, .slice none 0 0, .slice none 0 0, .int .i64 0, .int .i64 0, .int .i64 0, .slice none 0 0, .slice none 0 0, .slice none 0 0, .slice none 0 0, .int .i64 0, .int .i64 0, .int .i64 0, .int .i64 0, .int .i64 0, .int .i64 0, .int .i64 0, .int .i64 0, .int .i64 0])
  have HW := hide (below_new w (.cells #[.string ⟨#[]⟩, .slice none 0 0, .slice none 0 0, .int .i64 0, .int .i64 0, .int .i64 0, .slice none 0 0, .slice none 0 0, .slice none 0 0, .slice none 0 0, .int .i64 0, .int .i64 0, .int .i64 0, .int .i64 0, .int .i64 0, .int .i64 0, .int .i64 0, .int .i64 0, .int .i64 0] 34))
  refine (at_any 400 200 300 _).mono ?_
  rintro e w2 ⟨rfl, hb2⟩
  have KZ := hide (KZ.out.keep hb2)
  have HW := hide (below_step HW.out hb2 (Nat.le_refl _))
  have hz : w.heap.size < w2.heap.size := by have := hb2.size; simp at this; omega
  have hz := hide hz
  clear hb2
  go_wp2_with fail
  refine (at_any 100 50 50 _).mono ?_
  rintro e w3 ⟨rfl, hb3⟩
  have KB : Hid (Blk w3 w2.heap.size 73 #[.int .i64 0, .int .i64 0, .int .i64 0, .int .i64 400, .int .i64 200, .int .i64 300]) := hide ((((Blk.new w2 _ _).alloc _).alloc _).keep hb3)
  have KI : Hid (Blk w3 (w2.heap.size + 1) 3 #[.int .i64 200]) := hide (((Blk.new1 w2 _ _ _).alloc _).keep hb3)
  have KR : Hid (Blk w3 (w2.heap.size + 2) 65 #[.string ⟨#[109, 97, 105, 110]⟩, .int .i64 10, .int .i64 1, .int .i64 0, .slice (some ⟨w2.heap.size + 1, 0, none⟩) 1 1]) := hide ((Blk.new2 w2 _ _ _ _).keep hb3)
  have KZ := hide (((((KZ.out.alloc _).alloc _).alloc _)).keep hb3)
  have HW := hide (below_step (((HW.out.alloc (Nat.le_of_lt hz.out) _).alloc (le_alloc (Nat.le_of_lt hz.out) _) _).alloc (le_alloc (le_alloc (Nat.le_of_lt hz.out) _) _) _) hb3 (Nat.le_refl _))
  have hz3 : w2.heap.size + 3 ≤ w3.heap.size := by have := hb3.size; simp at this; omega
  have hz3 := hide hz3
  clear hb3
  have KT := hide (Blk.new w3 79 #[.string ⟨#[109, 97, 105, 110]⟩, .int .i64 1, .int .i64 2, .int .i64 100, .int .i64 50, .int .i64 50, .int .i64 0, .int .i64 0, .int .i64 0, .int .i64 1])
  have KZ := hide (KZ.out.alloc (.cells #[.string ⟨#[109, 97, 105, 110]⟩, .int .i64 1, .int .i64 2, .int .i64 100, .int .i64 50, .int .i64 50, .int .i64 0, .int .i64 0, .int .i64 0, .int .i64 1] 79))
  have Hi : Hid ((Tryz.prog.info? 34).map (·.size) = some 19) := hide (by kernel_rfl)
  have Hone : Hid ((detCells exD.mem exD.rule ⟨some ⟨w2.heap.size, 0, none⟩, 1, 1, none, 0, 0, some ⟨w2.heap.size + 2, 0, none⟩, 1, 1, some ⟨w3.heap.size, 0, none⟩, 1, 1, none, 0, 0, none, 0, 0⟩).all (·.oneCell') = true) := hide (by kernel_rfl)
  go_wp2_with (first
    | (refine wpList_store_row rfl 34 (.tmp 0) (.tmp 14) rfl w.heap.size (detCells exD.mem exD.rule ⟨some ⟨w2.heap.size, 0, none⟩, 1, 1, none, 0, 0, some ⟨w2.heap.size + 2, 0, none⟩, 1, 1, some ⟨w3.heap.size, 0, none⟩, 1, 1, none, 0, 0, none, 0, 0⟩) rfl rfl 34 _ KZ.out Hi.out rfl Hone.out ?_)
    | (refine wp_store_row 34 (.tmp 0) (.tmp 14) rfl w.heap.size (detCells exD.mem exD.rule ⟨some ⟨w2.heap.size, 0, none⟩, 1, 1, none, 0, 0, some ⟨w2.heap.size + 2, 0, none⟩, 1, 1, some ⟨w3.heap.size, 0, none⟩, 1, 1, none, 0, 0, none, 0, 0⟩) rfl rfl 34 _ KZ.out Hi.out rfl Hone.out ?_))
  have kD := setRow_heap _ w.heap.size _ (detCells exD.mem exD.rule (exS w2.heap.size (w2.heap.size + 2) w3.heap.size)) _ _ KZ.out
  refine bodyPost_ret (results_c rfl rfl kD Tryz.underlying34 rfl (by kernel_rfl)) rfl ?_
  have q := hz.out
  have q3 := hz3.out
  refine ⟨exS w2.heap.size (w2.heap.size + 2) w3.heap.size, rfl, exam_at (g2 := w2.heap.size + 1) ((setRow_other _ _ _ _ (by omega)).trans (KB.out.alloc _)) ((setRow_other _ _ _ _ (by omega)).trans (KI.out.alloc _)) ((setRow_other _ _ _ _ (by omega)).trans (KR.out.alloc _)) ((setRow_other _ _ _ _ (by omega)).trans KT.out), exam_fit _ _ _, ?_⟩
  exact Below.setRow (HW.out.alloc (by omega) _) (Nat.le_refl _) _
end Go.Proofs.YtpmipoljnchheaaGreat
namespace Go.Proofs.YtpmipoljnchheaaGreat
open Go.RowKit

set_option maxHeartbeats 4000000 in
set_option maxRecDepth 100000 in
theorem awake_any (w : World) : Calls Tryz.prog 8 #[] w fun e w' => e = .returned (.bool true) ∧ Below w.heap.size w w' := by
  have hD := fun (s : DetS) (W : World) (h : DetAt W W.heap.size exD s) (hf : DetFit exD s) => planDraw_ok exD s 100 W h (Nat.le_refl _) hf exD_err
  rw [exD_text] at hD
  have HD := hide hD
  have hL := fun (s : DetS) (W : World) (h : DetAt W W.heap.size exD s) (hf : DetFit exD s) => planLegend_ok exD s W h (Nat.le_refl _) hf exD_ok
  rw [exD_legend] at hL
  have HL := hide hL
  clear hD hL
  go_enter Tryz.func8, Tryz.ntmps8
  go_wp2_with fail
  refine (example_any _).mono ?_
  rintro e w2 ⟨s, rfl, hat, hfit, hb⟩
  have HB := hide hb
  clear hb
  go_wp2_with fail
  refine (HD.out s _ hat hfit).mono ?_
  rintro e w3 ⟨rfl, hb⟩
  have HB := hide (below_step HB.out hb (Nat.le_refl _))
  clear hb hat hfit
  go_wp2_with fail
  refine (example_any _).mono ?_
  rintro e w4 ⟨s', rfl, hat, hfit, hb⟩
  have HB := hide (below_step HB.out hb (Nat.le_refl _))
  clear hb
  go_wp2_with fail
  refine (HL.out s' _ hat hfit).mono ?_
  rintro e w5 ⟨rfl, hb⟩
  have HB := hide (below_step HB.out hb (Nat.le_refl _))
  clear hb hat hfit
  go_wp2_with fail
  go_ret
  exact ⟨rfl, HB.out⟩
end Go.Proofs.YtpmipoljnchheaaGreat
