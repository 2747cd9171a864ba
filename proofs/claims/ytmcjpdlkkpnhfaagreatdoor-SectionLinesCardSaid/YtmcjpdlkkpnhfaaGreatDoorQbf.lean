/- The size of a section's drawing, its cells, the steel and the bars that a section cuts. -/
import Derived.Test.YtmcjpdlkkpnhfaaGreatDoorQbe
import Derived.Test.YtmcjpdlkkpnhfaaGreatDoorQax
namespace Go.Proofs.YtmcjpdlkkpnhfaaGreatDoor
open Go.RowKit

set_option maxHeartbeats 1000000 in
theorem cellIx_any (n f sc : Int) (w : World) (hs : 1 ≤ sc ∧ sc ≤ 1048576) (hn : -4194304 ≤ n ∧ n ≤ 4194304) (hf : -4194304 ≤ f ∧ f ≤ 4194304) :
    Calls Tryz.prog 24 #[.int .i64 n, .int .i64 f, .int .i64 sc] w fun e w' => e = .returned (.int .i64 (cellIx n f sc)) ∧ w' = w := by
  by_cases h : n < f
  · have hr := hide (show cellIx n f sc = -1 by rw [cellIx, if_pos h])
    have d0 : decide (n < f) = true := by simpa using h
    go_enter Tryz.func24, Tryz.ntmps24
    go_wp2_with fail
    go_ret
    exact ⟨ret_int hr.out.symm, rfl⟩
  · have hr := hide (show cellIx n f sc = (n - f) / sc by rw [cellIx, if_neg h])
    have d0 : decide (n < f) = false := by simpa using h
    have z1 : IntKind.i64.wrap (n - f) = n - f := IntWalk.i64_in _ (by omega)
    have z2 : 0 ≤ n - f := by omega
    go_enter Tryz.func24, Tryz.ntmps24
    go_wp2_with fail
    go_ret
    exact ⟨ret_int hr.out.symm, rfl⟩
theorem cuts_fine {x : DetD} (hok : laidOk x.bars x.runs = true) (a : Int) : (cutsOf x a).length ≤ 12000 ∧ (∀ p ∈ cutsOf x a, isSize p.size = true) := by
  constructor
  · refine Nat.le_trans (piecesTo_len _ (fun y hy => ?_)) (by have := (laidOk_len hok).2; omega : 6 * (laidAll x.bars x.runs).length ≤ 12000)
    obtain ⟨j, hj, rfl⟩ := List.getElem_of_mem hy
    exact (laid_near x.runs j _ (laidOk_mem hok).2.2 (List.getElem?_eq_getElem hj)).2.2
  · intro p hp
    simp only [cutsOf, piecesTo, List.mem_flatMap] at hp
    obtain ⟨⟨l, i⟩, hl, hp⟩ := hp
    simp only [legPieces, List.mem_map] at hp
    obtain ⟨b, _, rfl⟩ := hp
    have h1 := List.mk_mem_zipIdx_iff_getElem?.1 hl
    exact bar_size hok (laid_bar hok h1)
theorem area_range {d : Int} (h : isSize d = true) : 0 ≤ areaOf d ∧ areaOf d ≤ 200000 := by
  have hm := isSize_mem h
  simp [steelSizes] at hm
  rcases hm with rfl | rfl | rfl | rfl | rfl | rfl | rfl | rfl | rfl <;> decide
theorem steel_range : ∀ l : List PieceD, (∀ p ∈ l, isSize p.size = true) → 0 ≤ steelOf l ∧ steelOf l ≤ 200000 * (l.length : Int) := by
  refine snoc_ind ?_ ?_
  · intro _; simp [steelOf]
  · intro l p ih h
    have h1 := ih (fun q hq => h q (by simp [hq]))
    have h2 := area_range (h p (by simp))
    rw [steelOf_snoc, List.length_append, List.length_singleton, steelOne]
    push_cast
    split <;> omega
set_option maxHeartbeats 4000000 in
set_option maxRecDepth 100000 in
theorem sectSize_bad (x : DetD) (s : DetS) (sc : Int) (w : World) {B : Nat} (h : DetAt w B x s) (hB : B ≤ w.heap.size) (hf : DetFit x s) (he : sizeErr x sc ≠ 0) :
    Calls Tryz.prog 6 #[detV x s, .int .i64 sc] w fun e w' => e = .returned (.tuple #[.int .i64 0, .int .i64 0, .int .i64 (sizeErr x sc)]) ∧ Below w.heap.size w w' := by
  have HV := hide (fun (W : World) (hz : Below w.heap.size w W) => lapValid_any x s W (h.carry (hz.mono hB) (Nat.le_refl _)) (Nat.le_trans hB hz.size) hf)
  have hw : (detOk x = false ∧ sizeErr x sc = 1) ∨ (detOk x = true ∧ decide (sc < 1) = true ∧ sizeErr x sc = 2) ∨ (detOk x = true ∧ decide (sc < 1) = false ∧ decide (1048576 < sc) = true ∧ sizeErr x sc = 2) := by
    unfold sizeErr at he ⊢
    by_cases h1 : detOk x = false
    · exact .inl ⟨h1, by rw [if_pos h1]⟩
    · rw [if_neg h1] at he ⊢
      by_cases h2 : sc < 1 ∨ 1048576 < sc
      · rw [if_pos h2]
        by_cases h3 : sc < 1
        · exact .inr (.inl ⟨by simpa using h1, by simpa using h3, rfl⟩)
        · exact .inr (.inr ⟨by simpa using h1, by simpa using h3, by simp; omega, rfl⟩)
      · rw [if_neg h2] at he
        exact absurd rfl he
  have Hi := hide (show (Tryz.prog.info? 34).map (·.size) = some 19 by kernel_rfl)
  have K0 := hide (Blk.new w 34 (detCells x.mem x.rule s))
  have HW := hide (below_new w (.cells (detCells x.mem x.rule s) 34))
  generalize detOk x = td at *
  generalize sizeErr x sc = er at *
  clear he h hf
  obtain ⟨mem, bars, runs, laps, dems, rule⟩ := x
  obtain ⟨a1, n1, c1, a2, n2, c2, a3, n3, c3, a4, n4, c4, a5, n5, c5, a6, n6, c6⟩ := s
  obtain ⟨name, boxes, holes, cover, agg, poker⟩ := mem
  obtain ⟨r1, r2, r3, r4, r5, r6, r7, r8, r9⟩ := rule
  simp only [detCells] at K0 HW
  show Calls Tryz.prog 6 #[.agg #[.string name, .slice a1 n1 c1, .slice a2 n2 c2, .int .i64 cover, .int .i64 agg, .int .i64 poker, .slice a3 n3 c3, .slice a4 n4 c4, .slice a5 n5 c5, .slice a6 n6 c6, .int .i64 r1, .int .i64 r2, .int .i64 r3, .int .i64 r4, .int .i64 r5, .int .i64 r6, .int .i64 r7, .int .i64 r8, .int .i64 r9], .int .i64 sc] w _
  rcases hw with ⟨rfl, rfl⟩ | ⟨rfl, q0, rfl⟩ | ⟨rfl, q0, q1, rfl⟩
  all_goals
    go_enter Tryz.func6, Tryz.ntmps6
    go_wp2_with (refine wpList_load_row rfl 34 (.tmp 2) rfl w.heap.size rfl 34 _ (0, 0) _ K0.out Tryz.underlying34 rfl Hi.out ?_)
    refine (HV.out _ HW.out).mono ?_
    rintro e w2 ⟨rfl, hb2⟩
    have HW2 := hide (below_step HW.out hb2 (Nat.le_refl _))
    clear hb2 HV K0 HW Hi
    go_wp2_with fail
    go_ret3
    exact ⟨rfl, HW2.out⟩
set_option maxHeartbeats 4000000 in
set_option maxRecDepth 100000 in
theorem sectSize_ok (x : DetD) (s : DetS) (sc : Int) (w : World) {B : Nat} (h : DetAt w B x s) (hB : B ≤ w.heap.size) (hf : DetFit x s) (he : sizeErr x sc = 0) :
    Calls Tryz.prog 6 #[detV x s, .int .i64 sc] w fun e w' => e = .returned (.tuple #[.int .i64 (colsOf x sc), .int .i64 (rowsS x sc), .int .i64 0]) ∧ Below w.heap.size w w' := by
  obtain ⟨hd, hs⟩ := sizeErr_ok he
  have HV := hide (fun (W : World) (hz : Below w.heap.size w W) => lapValid_any x s W (h.carry (hz.mono hB) (Nat.le_refl _)) (Nat.le_trans hB hz.size) hf)
  have HS := hide (fun (W : World) (hz : Below w.heap.size w W) => solidHull_ok x.mem.boxes x.mem.holes s.a1 s.a2 s.n1 s.n2 s.c1 s.c2 W (h.h1.carry (Flat.carried _) (hz.mono hB) (Nat.le_refl _)) (h.h2.carry (Flat.carried _) (hz.mono hB) (Nat.le_refl _)) (Nat.le_trans hB hz.size) hf.l1 hf.l2 (detOk_parts hd).2.2)
  have hhull := boxOk_iff.1 (detOk_hull hd)
  have Hi := hide (show (Tryz.prog.info? 34).map (·.size) = some 19 by kernel_rfl)
  have K0 := hide (Blk.new w 34 (detCells x.mem x.rule s))
  have HW := hide (below_new w (.cells (detCells x.mem x.rule s) 34))
  rw [hd] at HV
  unfold colsOf rowsS
  generalize hullOf x.mem.boxes = hb at *
  obtain ⟨⟨x1, x2, x3⟩, x4, x5, x6⟩ := hb
  simp only at hhull ⊢
  have q0 : decide (sc < 1) = false := by simp; omega
  have q1 : decide (1048576 < sc) = false := by simp; omega
  have d1 := Int.ediv_nonneg (a := x5 - x2) (b := sc) (by omega) (by omega)
  have d2 := Int.ediv_le_self (a := x5 - x2) sc (by omega)
  have d3 := Int.ediv_nonneg (a := x6 - x3) (b := sc) (by omega) (by omega)
  have d4 := Int.ediv_le_self (a := x6 - x3) sc (by omega)
  have z1 : IntKind.i64.wrap (x5 - x2) = x5 - x2 := IntWalk.i64_in _ (by omega)
  have z2 : IntKind.i64.wrap (x6 - x3) = x6 - x3 := IntWalk.i64_in _ (by omega)
  have z3 : IntKind.i64.wrap ((x5 - x2) / sc) = (x5 - x2) / sc := IntWalk.i64_in _ (by omega)
  have z4 : IntKind.i64.wrap ((x6 - x3) / sc) = (x6 - x3) / sc := IntWalk.i64_in _ (by omega)
  have z5 : IntKind.i64.wrap ((x5 - x2) / sc + 1) = (x5 - x2) / sc + 1 := IntWalk.i64_in _ (by omega)
  have z6 : IntKind.i64.wrap ((x6 - x3) / sc + 1) = (x6 - x3) / sc + 1 := IntWalk.i64_in _ (by omega)
  have y1 : 0 ≤ x5 - x2 := by omega
  have y2 : 0 ≤ x6 - x3 := by omega
  have t1 : (x5 - x2).tdiv sc = (x5 - x2) / sc := Int.tdiv_eq_ediv_of_nonneg y1
  have t2 : (x6 - x3).tdiv sc = (x6 - x3) / sc := Int.tdiv_eq_ediv_of_nonneg y2
  have n0 : (sc == 0) = false := by simp; omega
  clear h hf he hd d1 d2 d3 d4 hhull
  obtain ⟨mem, bars, runs, laps, dems, rule⟩ := x
  obtain ⟨a1, n1, c1, a2, n2, c2, a3, n3, c3, a4, n4, c4, a5, n5, c5, a6, n6, c6⟩ := s
  obtain ⟨name, boxes, holes, cover, agg, poker⟩ := mem
  obtain ⟨r1, r2, r3, r4, r5, r6, r7, r8, r9⟩ := rule
  simp only [detCells] at K0 HW
  have k1 := K0.out.cell 1
  have k2 := K0.out.cell 2
  simp at k1 k2
  show Calls Tryz.prog 6 #[.agg #[.string name, .slice a1 n1 c1, .slice a2 n2 c2, .int .i64 cover, .int .i64 agg, .int .i64 poker, .slice a3 n3 c3, .slice a4 n4 c4, .slice a5 n5 c5, .slice a6 n6 c6, .int .i64 r1, .int .i64 r2, .int .i64 r3, .int .i64 r4, .int .i64 r5, .int .i64 r6, .int .i64 r7, .int .i64 r8, .int .i64 r9], .int .i64 sc] w _
  go_enter Tryz.func6, Tryz.ntmps6
  go_wp2_with (refine wpList_load_row rfl 34 (.tmp 2) rfl w.heap.size rfl 34 _ (0, 0) _ K0.out Tryz.underlying34 rfl Hi.out ?_)
  refine (HV.out _ HW.out).mono ?_
  rintro e w2 ⟨rfl, hb2⟩
  have K0 := hide (K0.out.keep hb2)
  have HW2 := hide (below_step HW.out hb2 (Nat.le_refl _))
  have k1 := K0.out.cell 1
  have k2 := K0.out.cell 2
  simp at k1 k2
  have kl := K0.out.lt
  clear hb2 HV HW
  go_wp2_with fail
  refine (HS.out _ HW2.out).mono ?_
  rintro e w3 ⟨rfl, hb3⟩
  have HW3 := hide (below_step HW2.out hb3 (Nat.le_refl _))
  clear hb3 HS k1 k2 kl K0 HW2 Hi
  go_wp2_with fail
  go_quiet (fail)
  go_wp2_with fail
  go_ret3
  exact ⟨rfl, below_drewN' (HW3.out.alloc HW3.out.size _) _⟩
set_option maxHeartbeats 4000000 in
set_option maxRecDepth 100000 in
theorem sectSteel_bad (x : DetD) (s : DetS) (a : Int) (w : World) {B : Nat} (h : DetAt w B x s) (hB : B ≤ w.heap.size) (hf : DetFit x s) (he : secErr x a ≠ 0) :
    Calls Tryz.prog 11 #[detV x s, .int .i64 a] w fun e w' => e = .returned (.tuple #[.int .i64 0, .int .i64 (secErr x a)]) ∧ Below w.heap.size w w' := by
  have HV := hide (fun (W : World) (hz : Below w.heap.size w W) => pieces_bad x s a W (h.carry (hz.mono hB) (Nat.le_refl _)) (Nat.le_trans hB hz.size) hf he)
  have Hi := hide (show (Tryz.prog.info? 34).map (·.size) = some 19 by kernel_rfl)
  have K0 := hide (Blk.new w 34 (detCells x.mem x.rule s))
  have HW := hide (below_new w (.cells (detCells x.mem x.rule s) 34))
  generalize secErr x a = er at *
  have e1 : (er != 0) = true := by simpa using he
  have e2 : (er == 0) = false := by simpa using he
  clear he h hf
  obtain ⟨mem, bars, runs, laps, dems, rule⟩ := x
  obtain ⟨a1, n1, c1, a2, n2, c2, a3, n3, c3, a4, n4, c4, a5, n5, c5, a6, n6, c6⟩ := s
  obtain ⟨name, boxes, holes, cover, agg, poker⟩ := mem
  obtain ⟨r1, r2, r3, r4, r5, r6, r7, r8, r9⟩ := rule
  simp only [detCells] at K0 HW
  show Calls Tryz.prog 11 #[.agg #[.string name, .slice a1 n1 c1, .slice a2 n2 c2, .int .i64 cover, .int .i64 agg, .int .i64 poker, .slice a3 n3 c3, .slice a4 n4 c4, .slice a5 n5 c5, .slice a6 n6 c6, .int .i64 r1, .int .i64 r2, .int .i64 r3, .int .i64 r4, .int .i64 r5, .int .i64 r6, .int .i64 r7, .int .i64 r8, .int .i64 r9], .int .i64 a] w _
  go_enter Tryz.func11, Tryz.ntmps11
  go_wp2_with (refine wpList_load_row rfl 34 (.tmp 2) rfl w.heap.size rfl 34 _ (0, 0) _ K0.out Tryz.underlying34 rfl Hi.out ?_)
  refine (HV.out _ HW.out).mono ?_
  rintro e w2 ⟨rfl, hb2⟩
  have HW2 := hide (below_step HW.out hb2 (Nat.le_refl _))
  clear hb2 HV K0 HW Hi
  go_wp2_with fail
  go_ret2
  exact ⟨rfl, HW2.out⟩
set_option maxHeartbeats 4000000 in
set_option maxRecDepth 100000 in
theorem sectSteel_ok (x : DetD) (s : DetS) (a : Int) (w : World) {B : Nat} (h : DetAt w B x s) (hB : B ≤ w.heap.size) (hf : DetFit x s) (he : secErr x a = 0) :
    Calls Tryz.prog 11 #[detV x s, .int .i64 a] w fun e w' => e = .returned (.tuple #[.int .i64 (steelOf (cutsOf x a)), .int .i64 0]) ∧ Below w.heap.size w w' := by
  have HV := hide (fun (W : World) (hz : Below w.heap.size w W) => pieces_ok x s a W (h.carry (hz.mono hB) (Nat.le_refl _)) (Nat.le_trans hB hz.size) hf he)
  obtain ⟨hcl, hcs⟩ := cuts_fine (detOk_parts (secErr_ok he).1).2.1 a
  have Hi := hide (show (Tryz.prog.info? 34).map (·.size) = some 19 by kernel_rfl)
  have K0 := hide (Blk.new w 34 (detCells x.mem x.rule s))
  have HW := hide (below_new w (.cells (detCells x.mem x.rule s) 34))
  generalize cutsOf x a = C at *
  obtain ⟨n, hn⟩ : ∃ n, n = C.length := ⟨_, rfl⟩
  have Hn := hide hn
  have hnb : n ≤ 12000 := by omega
  rw [← hn] at HV
  have Hcs := hide hcs
  have Hrg := hide (fun (k : Nat) => steel_range (C.take k) (fun p hp => hcs p (List.mem_of_mem_take hp)))
  clear he h hf hn hcl hcs
  obtain ⟨mem, bars, runs, laps, dems, rule⟩ := x
  obtain ⟨a1, n1, c1, a2, n2, c2, a3, n3, c3, a4, n4, c4, a5, n5, c5, a6, n6, c6⟩ := s
  obtain ⟨name, boxes, holes, cover, agg, poker⟩ := mem
  obtain ⟨r1, r2, r3, r4, r5, r6, r7, r8, r9⟩ := rule
  simp only [detCells] at K0 HW
  show Calls Tryz.prog 11 #[.agg #[.string name, .slice a1 n1 c1, .slice a2 n2 c2, .int .i64 cover, .int .i64 agg, .int .i64 poker, .slice a3 n3 c3, .slice a4 n4 c4, .slice a5 n5 c5, .slice a6 n6 c6, .int .i64 r1, .int .i64 r2, .int .i64 r3, .int .i64 r4, .int .i64 r5, .int .i64 r6, .int .i64 r7, .int .i64 r8, .int .i64 r9], .int .i64 a] w _
  go_enter Tryz.func11, Tryz.ntmps11
  go_wp2_with (refine wpList_load_row rfl 34 (.tmp 2) rfl w.heap.size rfl 34 _ (0, 0) _ K0.out Tryz.underlying34 rfl Hi.out ?_)
  refine (HV.out _ HW.out).mono ?_
  rintro e w2 ⟨A, c, rfl, hp, hb2⟩
  have HW2 := hide (below_step HW.out hb2 (Nat.le_refl _))
  have Hp := hide hp
  clear hb2 HV K0 HW Hi hp
  go_wp2_with fail
  go_loopw [8, 24] (fun v iv wr => ∃ k : Nat, k ≤ n ∧ iv = .int .i64 k ∧ (∃ t : Int, v = .int .i64 t ∧ Hid (t = steelOf (C.take k))) ∧ Below w2.heap.size w2 wr) (fun _ iv _ => n - (intOf iv).toNat)
  case atStart => exact ⟨0, Nat.zero_le _, rfl, ⟨0, rfl, hide rfl⟩, Below.refl _ _⟩
  case round =>
    obtain ⟨k, hk, rfl, ⟨t, rfl, ht⟩, hbr⟩ := hrel
    have hrg := Hrg.out k
    rw [← ht.out, List.length_take] at hrg
    by_cases hlt : k < n
    · obtain ⟨b, off, p, rfl, hbl, hx, hc⟩ := PcsAt.get (k := k) (SlOf.carry (Flat.carried _) Hp.out hbr (Nat.le_refl _)) (by rw [← Hn.out]; exact hlt)
      have hsz := Hcs.out p (mem_of_get hx)
      have har := area_range hsz
      have Hnx := hide (show steelOf (C.take (k + 1)) = t + steelOne p by rw [take_snoc' hx, steelOf_snoc, ht.out])
      have HA := hide (fun W => area_ok p.size W hsz)
      obtain ⟨⟨⟨x1, x2, x3⟩, x4, x5, x6⟩, br, sz, cr⟩ := p
      have p0 := hc 0 _ rfl
      have p1 := hc 1 _ rfl
      have p2 := hc 2 _ rfl
      have p3 := hc 3 _ rfl
      have p4 := hc 4 _ rfl
      have p5 := hc 5 _ rfl
      have p6 := hc 6 _ rfl
      have p7 := hc 7 _ rfl
      have p8 := hc 8 _ rfl
      simp only [Nat.add_zero] at p0 p1 p2 p3 p4 p5 p6 p7 p8 Hnx HA har
      have hrs := hbr.size
      have HB := hide (hbr.alloc hbr.size (.cells #[.int .i64 x1, .int .i64 x2, .int .i64 x3, .int .i64 x4, .int .i64 x5, .int .i64 x6, .int .i64 br, .int .i64 sz, .bool cr] 73))
      have Hst := hide (show steelOne ⟨⟨(x1, x2, x3), x4, x5, x6⟩, br, sz, true⟩ = areaOf sz from rfl)
      generalize areaOf sz = ar at *
      clear hx hbl hc hsz hbr ht
      cases cr
      · have Hnx := hide (show steelOf (C.take (k + 1)) = t by rw [Hnx.out]; simp [steelOne])
        go_wp2_with fail
        go_roundw
        case rel => exact ⟨k + 1, by omega, by go_num, ⟨t, rfl, hide Hnx.out.symm⟩, HB.out⟩
        case measure => simp [intOf]; omega
      · go_wp2_with fail
        refine (HA.out _).mono ?_
        rintro e w5 ⟨rfl, hb5⟩
        have HB := hide (below_step HB.out hb5 (Nat.le_refl _))
        clear hb5 HA p0 p1 p2 p3 p4 p5 p6 p7 p8
        go_wp2_with fail
        go_roundw
        case rel => exact ⟨k + 1, by omega, by go_num, ⟨_, rfl, hide (by rw [Hnx.out, Hst.out])⟩, HB.out⟩
        case measure => simp [intOf]; omega
    · obtain rfl : k = n := by omega
      have Hfin := hide (show steelOf C = t by rw [ht.out, Hn.out, List.take_length])
      have HB := hide (below_step HW2.out hbr (Nat.le_refl _))
      clear hbr ht hrg
      go_wp2_with fail
      go_ret2
      exact ⟨by rw [Hfin.out]; rfl, HB.out⟩
end Go.Proofs.YtmcjpdlkkpnhfaaGreatDoor
