/- The reference of layer 47: error numbers, sizes, the bars of cuts, the steel. -/
import Derived.Test.YtmcjpdlkkpnhfaaGreatQbr
import Derived.Test.YtmcjpdlkkpnhfaaGreatQbb
import Derived.Test.YtmcjpdlkkpnhfaaGreatQbs
import Derived.Test.YtmcjpdlkkpnhfaaGreatQbu
namespace Go.Proofs.YtmcjpdlkkpnhfaaGreat
open Go.RowKit

def givErr (x : DetD) (a sc : Int) : Int := if detOk x = false then 1 else if a < -1048576 ∨ 1048576 < a ∨ sc < 1 ∨ 1048576 < sc then 2 else 0
theorem givErr_one {x : DetD} {a : Int} : givErr x a 1 = secErr x a := by
  unfold givErr secErr
  by_cases h : detOk x = false
  · rw [if_pos h, if_pos h]
  · rw [if_neg h, if_neg h]
    by_cases h2 : a < -1048576 ∨ 1048576 < a
    · rw [if_pos h2, if_pos (by omega)]
    · rw [if_neg h2, if_neg (by omega)]
set_option maxHeartbeats 4000000 in
set_option maxRecDepth 100000 in
theorem refGiven47_any (x : DetD) (s : DetS) (a sc : Int) (w : World) {B : Nat} (h : DetAt w B x s) (hB : B ≤ w.heap.size) (hf : DetFit x s) (hd : ∀ d ∈ x.dems, d.name.size ≤ maxLen ∧ d.steps.length ≤ 60000) :
    Calls Tryz.prog 10 #[detV x s, .int .i64 a, .int .i64 sc] w fun e w' => e = .returned (.int .i64 (givErr x a sc)) ∧ Below w.heap.size w w' := by
  have HV := hide (fun (W : World) (hz : Below w.heap.size w W) => refValid25_any x s W (h.carry (hz.mono hB) (Nat.le_refl _)) (Nat.le_trans hB hz.size) hf hd)
  have hw : (detOk x = false ∧ givErr x a sc = 1) ∨ (detOk x = true ∧ decide (a < -1048576) = true ∧ givErr x a sc = 2) ∨ (detOk x = true ∧ decide (a < -1048576) = false ∧ decide (1048576 < a) = true ∧ givErr x a sc = 2) ∨ (detOk x = true ∧ decide (a < -1048576) = false ∧ decide (1048576 < a) = false ∧ decide (sc < 1) = true ∧ givErr x a sc = 2) ∨ (detOk x = true ∧ decide (a < -1048576) = false ∧ decide (1048576 < a) = false ∧ decide (sc < 1) = false ∧ decide (1048576 < sc) = true ∧ givErr x a sc = 2) ∨ (detOk x = true ∧ decide (a < -1048576) = false ∧ decide (1048576 < a) = false ∧ decide (sc < 1) = false ∧ decide (1048576 < sc) = false ∧ givErr x a sc = 0) := by
    unfold givErr
    simp only [decide_eq_true_eq, decide_eq_false_iff_not]
    by_cases h1 : detOk x = false
    · exact .inl ⟨h1, by rw [if_pos h1]⟩
    · rw [if_neg h1]
      have h1' : detOk x = true := by simpa using h1
      by_cases h2 : a < -1048576
      · exact .inr (.inl ⟨h1', h2, by rw [if_pos (.inl h2)]⟩)
      by_cases h3 : 1048576 < a
      · exact .inr (.inr (.inl ⟨h1', h2, h3, by rw [if_pos (.inr (.inl h3))]⟩))
      by_cases h4 : sc < 1
      · exact .inr (.inr (.inr (.inl ⟨h1', h2, h3, h4, by rw [if_pos (.inr (.inr (.inl h4)))]⟩)))
      by_cases h5 : 1048576 < sc
      · exact .inr (.inr (.inr (.inr (.inl ⟨h1', h2, h3, h4, h5, by rw [if_pos (.inr (.inr (.inr h5)))]⟩))))
      · exact .inr (.inr (.inr (.inr (.inr ⟨h1', h2, h3, h4, h5, by rw [if_neg (by omega)]⟩))))
  have Hi := hide (show (Tryz.prog.info? 34).map (·.size) = some 19 by kernel_rfl)
  have K0 := hide (Blk.new w 34 (detCells x.mem x.rule s))
  have HW := hide (below_new w (.cells (detCells x.mem x.rule s) 34))
  generalize detOk x = td at *
  generalize givErr x a sc = er at *
  obtain ⟨mem, bars, runs, laps, dems, rule⟩ := x
  obtain ⟨a1, n1, c1, a2, n2, c2, a3, n3, c3, a4, n4, c4, a5, n5, c5, a6, n6, c6⟩ := s
  obtain ⟨name, boxes, holes, cover, agg, poker⟩ := mem
  obtain ⟨r1, r2, r3, r4, r5, r6, r7, r8, r9⟩ := rule
  simp only [detCells] at K0 HW
  clear h hf hd hB
  show Calls Tryz.prog 10 #[.agg #[.string name, .slice a1 n1 c1, .slice a2 n2 c2, .int .i64 cover, .int .i64 agg, .int .i64 poker, .slice a3 n3 c3, .slice a4 n4 c4, .slice a5 n5 c5, .slice a6 n6 c6, .int .i64 r1, .int .i64 r2, .int .i64 r3, .int .i64 r4, .int .i64 r5, .int .i64 r6, .int .i64 r7, .int .i64 r8, .int .i64 r9], .int .i64 a, .int .i64 sc] w _
  rcases hw with ⟨rfl, rfl⟩ | ⟨rfl, q0, rfl⟩ | ⟨rfl, q0, q1, rfl⟩ | ⟨rfl, q0, q1, q2, rfl⟩ | ⟨rfl, q0, q1, q2, q3, rfl⟩ | ⟨rfl, q0, q1, q2, q3, rfl⟩
  all_goals
    go_enter Tryz.func10, Tryz.ntmps10
    go_wp2_with (refine wpList_load_row rfl 34 (.tmp 3) rfl w.heap.size rfl 34 _ (0, 0) _ K0.out Tryz.underlying34 rfl Hi.out ?_)
    refine (HV.out _ HW.out).mono ?_
    rintro e w2 ⟨rfl, hb⟩
    have HW2 := hide (below_step HW.out hb (Nat.le_refl _))
    clear hb HV K0 HW Hi
    go_wp2_with fail
    go_ret
    exact ⟨rfl, HW2.out⟩
set_option maxHeartbeats 4000000 in
set_option maxRecDepth 100000 in
theorem refSize47_ok (x : DetD) (s : DetS) (sc : Int) (w : World) {B : Nat} (h : DetAt w B x s) (hB : B ≤ w.heap.size) (hf : DetFit x s) (hd : detOk x = true) (hs : 1 ≤ sc ∧ sc ≤ 1048576) :
    Calls Tryz.prog 12 #[detV x s, .int .i64 sc] w fun e w' => e = .returned (.tuple #[.int .i64 (colsOf x sc), .int .i64 (rowsS x sc)]) ∧ Below w.heap.size w w' := by
  obtain ⟨hb1, hb2, _⟩ := solid_boxes (detOk_parts hd).2.2
  have hhull := boxOk_iff.1 (detOk_hull hd)
  have HH := hide (fun (W : World) (hz : Below w.heap.size w W) => refHull17_ok x.mem.boxes x.mem.holes s.a1 s.a2 s.n1 s.n2 s.c1 s.c2 W (h.h1.carry (Flat.carried _) (hz.mono hB) (Nat.le_refl _)) (Nat.le_trans hB hz.size) hf.l1 hb1 (by omega))
  have K0 := hide (Blk.new w 34 (detCells x.mem x.rule s))
  have HW := hide (below_new w (.cells (detCells x.mem x.rule s) 34))
  unfold colsOf rowsS
  generalize hullOf x.mem.boxes = H at *
  obtain ⟨⟨x1, x2, x3⟩, x4, x5, x6⟩ := H
  simp only [bxV] at HH hhull ⊢
  have d1 := Int.ediv_nonneg (a := x5 - x2) (b := sc) (by omega) (by omega)
  have d2 := Int.ediv_le_self (a := x5 - x2) sc (by omega)
  have d3 := Int.ediv_nonneg (a := x6 - x3) (b := sc) (by omega) (by omega)
  have d4 := Int.ediv_le_self (a := x6 - x3) sc (by omega)
  have z1 : IntKind.i64.wrap (x5 - x2) = x5 - x2 := IntWalk.i64_in _ (by omega)
  have z2 : IntKind.i64.wrap (x6 - x3) = x6 - x3 := IntWalk.i64_in _ (by omega)
  have z3 : IntKind.i64.wrap ((x5 - x2) / sc) = (x5 - x2) / sc := IntWalk.i64_in _ (by omega)
  have z4 : IntKind.i64.wrap ((x6 - x3) / sc) = (x6 - x3) / sc := IntWalk.i64_in _ (by omega)
  have z5 : IntKind.i64.wrap ((x5 - x2) / sc + 1) = (x5 - x2) / sc + 1 := IntWalk.i64_in _ (by omega)
  have z6 : IntKind.i64.wrap ((x6 - x3) / sc + 1) = (x6 - x3) / sc + 1 := IntWalk.i64_in _ (by omega)
  have y1 : 0 ≤ x5 - x2 := by omega
  have y2 : 0 ≤ x6 - x3 := by omega
  have t1 : (x5 - x2).tdiv sc = (x5 - x2) / sc := Int.tdiv_eq_ediv_of_nonneg y1
  have t2 : (x6 - x3).tdiv sc = (x6 - x3) / sc := Int.tdiv_eq_ediv_of_nonneg y2
  have n0 : (sc == 0) = false := by simp; omega
  clear h hf hd hB d1 d2 d3 d4 hhull hb1 hb2
  obtain ⟨mem, bars, runs, laps, dems, rule⟩ := x
  obtain ⟨a1, n1, c1, a2, n2, c2, a3, n3, c3, a4, n4, c4, a5, n5, c5, a6, n6, c6⟩ := s
  obtain ⟨name, boxes, holes, cover, agg, poker⟩ := mem
  obtain ⟨r1, r2, r3, r4, r5, r6, r7, r8, r9⟩ := rule
  simp only [detCells] at K0 HW
  simp only at HH
  have e1 := K0.out.cell 1
  have e2 := K0.out.cell 2
  simp at e1 e2
  show Calls Tryz.prog 12 #[.agg #[.string name, .slice a1 n1 c1, .slice a2 n2 c2, .int .i64 cover, .int .i64 agg, .int .i64 poker, .slice a3 n3 c3, .slice a4 n4 c4, .slice a5 n5 c5, .slice a6 n6 c6, .int .i64 r1, .int .i64 r2, .int .i64 r3, .int .i64 r4, .int .i64 r5, .int .i64 r6, .int .i64 r7, .int .i64 r8, .int .i64 r9], .int .i64 sc] w _
  go_enter Tryz.func12, Tryz.ntmps12
  go_wp2_with fail
  refine (HH.out _ HW.out).mono ?_
  rintro e w2 ⟨rfl, hb⟩
  have HF := below_step HW.out hb (Nat.le_refl _)
  have HF := hide (HF.alloc HF.size (.cells #[.int .i64 x1, .int .i64 x2, .int .i64 x3, .int .i64 x4, .int .i64 x5, .int .i64 x6] 63))
  clear hb HH HW K0 e1 e2
  go_wp2_with fail
  go_quiet (fail)
  go_wp2_with fail
  go_ret2
  exact ⟨rfl, below_drewN' HF.out _⟩
set_option maxHeartbeats 4000000 in
set_option maxRecDepth 100000 in
theorem refBars47_any (A : Option Addr) (C : List PieceD) (n c : Nat) (w : World) {B : Nat} (h : PartsAt w B A C) (hB : B ≤ w.heap.size) (hn : n = C.length) (hm : n ≤ 12000) :
    Calls Tryz.prog 26 #[.slice A n c] w fun e w' => ∃ A' c', e = .returned (.slice A' (barsOf C).length c') ∧ Ints w' w'.heap.size A' (barsOf C) ∧ Below w.heap.size w w' := by
  have Hp := hide h
  have Hn := hide hn
  have HBw := hide hB
  obtain ⟨BC, hBC⟩ : ∃ BC, BC = barsOf C := ⟨_, rfl⟩
  rw [← hBC]
  have HBC := hide hBC
  clear hBC h hn hB
  go_enter Tryz.func26, Tryz.ntmps26
  go_wp2_with fail
  go_loopw [3, 4] (fun v iv wr => ∃ k : Nat, k ≤ n ∧ iv = .int .i64 k ∧ (∃ acc : List Int, Hid (Row wr w.heap.size 3 1 encInt v acc) ∧ Hid (acc = barsOf (C.take k))) ∧ Below w.heap.size w wr) (fun _ iv _ => n - (intOf iv).toNat)
  case atStart => exact ⟨0, Nat.zero_le _, rfl, ⟨[], hide (Row.nil _ _ _ _ _), hide rfl⟩, Below.refl _ _⟩
  case round =>
    obtain ⟨k, hk, rfl, ⟨acc, hrow, hacc⟩, hbr⟩ := hrel
    obtain ⟨A0, c0, rfl⟩ := hrow.out.val
    have hal : acc.length ≤ 12000 := by
      rw [hacc.out]
      refine Nat.le_trans (barsOf_len _) ?_
      rw [List.length_take]
      omega
    by_cases hlt : k < n
    · have dk : decide ((k : Int) < (n : Int)) = true := by simp; omega
      obtain ⟨b, off, p, rfl, hbl, hx, hc⟩ := PartsAt.get (k := k) (SlOf.carry (Flat.carried _) Hp.out (hbr.mono HBw.out) (Nat.le_refl _)) (by rw [← Hn.out]; exact hlt)
      have Hnx := hide (show barsOf (C.take (k + 1)) = if acc.getLast? = some p.bar then acc else acc ++ [p.bar] by rw [take_snoc' hx, barsOf_snoc, hacc.out]; rfl)
      obtain ⟨⟨⟨x1, x2, x3⟩, x4, x5, x6⟩, br, sz, cr⟩ := p
      have p6 := hc 6 _ rfl
      simp only at p6 Hnx
      have hrs := hbr.size
      have HB := hide hbr
      have Hrow := hide hrow.out
      have hbw : b < w.heap.size := Nat.lt_of_lt_of_le hbl HBw.out
      have hlk : b < wr.heap.size := Nat.lt_of_lt_of_le hbw hrs
      clear hx hc hbr
      have hway : (acc.length = 0 ∧ acc = [] ∧ acc.getLast? = none) ∨ (∃ (m : Nat) (z : Int), acc.length = m + 1 ∧ acc[m]? = some z ∧ acc.getLast? = some z) := by
        rcases List.eq_nil_or_concat acc with h | ⟨l, z, h⟩
        · exact .inl ⟨by rw [h]; rfl, h, by rw [h]; rfl⟩
        · refine .inr ⟨l.length, z, ?_, ?_, ?_⟩ <;> rw [h] <;> simp
      rcases hway with ⟨h0, h00, hl⟩ | ⟨m, z, hm, hz, hl⟩
      · have hnew := hide (show barsOf (C.take (k + 1)) = acc ++ [br] by rw [Hnx.out, hl, h00]; rfl)
        have d0 : ((acc.length : Int) == 0) = true := by rw [h0]; rfl
        clear hl Hnx hacc hrow h0 h00
        go_wp2_with fail
        go_quiet (fail)
        go_wp2_with (at_builtin; refine wpList_append1 rfl (.tmp 28) (.tmp 34) 55 rfl w.heap.size 3 (.int .i64 0) 1 8 encInt Tryz.underlying55 (by kernel_rfl) rfl (by omega) encInt_len encInt_one _ acc br rfl (Row.alloc (Row.drewN Hrow.out _) _) _ rfl (Blk.new _ _ _) (by omega) (by omega) (le_alloc hrs _) ?_; intro A9 c9 w9 hrow9 hb9 _)
        go_roundw
        case rel => exact ⟨k + 1, by omega, by go_num, ⟨acc ++ [br], hide (by simpa using hrow9), hide hnew.out.symm⟩, ((below_drewN' HB.out _).alloc hrs _).trans hb9⟩
        case measure => simp [intOf]; omega
      · obtain ⟨b', off', z', hA', hbl', hz', e0⟩ := Ints.get (k := m) (Row.read Hrow.out encInt_len (by omega)) (by omega)
        rw [hz] at hz'
        injection hz' with hz'
        subst hz'
        subst hA'
        have d0 : ((acc.length : Int) == 0) = false := by rw [hm]; simp; omega
        have z1 : IntKind.i64.wrap ((acc.length : Int) - 1) = (m : Int) := by rw [hm, Int.natCast_add]; exact (IntWalk.i64_in _ (by omega)).trans (by omega)
        have z3 : (acc.length : Int) - 1 = (m : Int) := by omega
        have z2 : IntKind.i64.wrap (m : Int) = (m : Int) := IntWalk.i64_in _ (by omega)
        have z4 : m < acc.length := by omega
        have Hl := hide hl
        clear hm hz hacc hrow hl
        by_cases hzb : z = br
        · subst hzb
          have hnew := hide (show barsOf (C.take (k + 1)) = acc by rw [Hnx.out, if_pos Hl.out])
          have t0 : (z != z) = false := by simp
          clear Hl Hnx
          go_wp2_with fail
          go_quiet (fail)
          go_wp2_with fail
          go_roundw
          case rel => exact ⟨k + 1, by omega, by go_num, ⟨acc, hide (Row.drewN Hrow.out _), hide hnew.out.symm⟩, below_drewN' HB.out _⟩
          case measure => simp [intOf]; omega
        · have hnew := hide (show barsOf (C.take (k + 1)) = acc ++ [br] by rw [Hnx.out, if_neg (by rw [Hl.out]; simpa using hzb)])
          have t0 : (z != br) = true := by simpa using hzb
          clear Hl Hnx hzb
          go_wp2_with fail
          go_quiet (fail)
          go_wp2_with (at_builtin; refine wpList_append1 rfl (.tmp 28) (.tmp 34) 55 rfl w.heap.size 3 (.int .i64 0) 1 8 encInt Tryz.underlying55 (by kernel_rfl) rfl (by omega) encInt_len encInt_one _ acc br rfl (Row.alloc (Row.drewN Hrow.out _) _) _ rfl (Blk.new _ _ _) (by omega) (by omega) (le_alloc hrs _) ?_; intro A9 c9 w9 hrow9 hb9 _)
          go_roundw
          case rel => exact ⟨k + 1, by omega, by go_num, ⟨acc ++ [br], hide (by simpa using hrow9), hide hnew.out.symm⟩, ((below_drewN' HB.out _).alloc hrs _).trans hb9⟩
          case measure => simp [intOf]; omega
    · obtain rfl : k = n := by omega
      have dk : decide ((k : Int) < (k : Int)) = false := by simp
      have Hfin : acc = BC := by rw [hacc.out, Hn.out, List.take_length, HBC.out]
      subst Hfin
      have Hr := hide (Row.read hrow.out encInt_len (by omega))
      have HB := hide hbr
      clear hbr hacc
      go_wp2_with fail
      go_ret
      exact ⟨A0, c0, rfl, Hr.out, HB.out⟩
end Go.Proofs.YtmcjpdlkkpnhfaaGreat
