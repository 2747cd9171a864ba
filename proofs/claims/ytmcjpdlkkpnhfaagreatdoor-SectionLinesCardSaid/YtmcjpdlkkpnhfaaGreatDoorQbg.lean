/- The bars that a section cuts: section.Bars. -/
import Derived.Test.YtmcjpdlkkpnhfaaGreatDoorQbf
namespace Go.Proofs.YtmcjpdlkkpnhfaaGreatDoor
open Go.RowKit

theorem Row.drewN {α : Type} {w : World} {base size : Nat} {e : TypeId} {enc : α → List Value} {v : Value} {l : List α} (h : Row w base e size enc v l) (n : Nat) : Row (w.drewN n) base e size enc v l := h
theorem Blk.new1d (w : World) (o : Obj) (n : Nat) (t : TypeId) (cs : Array Value) : Blk (((w.alloc o).drewN n).alloc (.cells cs t)) (w.heap.size + 1) t cs := by
  have := heap_alloc_new ((w.alloc o).drewN n) (.cells cs t)
  simpa [Blk] using this
set_option maxHeartbeats 4000000 in
set_option maxRecDepth 100000 in
theorem sectBars_bad (x : DetD) (s : DetS) (a : Int) (w : World) {B : Nat} (h : DetAt w B x s) (hB : B ≤ w.heap.size) (hf : DetFit x s) (he : secErr x a ≠ 0) :
    Calls Tryz.prog 15 #[detV x s, .int .i64 a] w fun e w' => e = .returned (.tuple #[.slice none 0 0, .int .i64 (secErr x a)]) ∧ Below w.heap.size w w' := by
  have HV := hide (fun (W : World) (hz : Below w.heap.size w W) => pieces_bad x s a W (h.carry (hz.mono hB) (Nat.le_refl _)) (Nat.le_trans hB hz.size) hf he)
  have Hi := hide (show (Tryz.prog.info? 34).map (·.size) = some 19 by kernel_rfl)
  have K0 := hide (Blk.new w 34 (detCells x.mem x.rule s))
  have HW := hide (below_new w (.cells (detCells x.mem x.rule s) 34))
  generalize secErr x a = er at *
  have e1 : (er != 0) = true := by simpa using he
  have e2 : (er == 0) = false := by simpa using he
  clear he h hf
  obtain ⟨mem, bars, runs, laps, dems, rule⟩ := x
  obtain ⟨a1, n1, c1, a2, n2, c2, a3, n3, c3, a4, n4, c4, a5, n5, c5, a6, n6, c6⟩ := s
  obtain ⟨name, boxes, holes, cover, agg, poker⟩ := mem
  obtain ⟨r1, r2, r3, r4, r5, r6, r7, r8, r9⟩ := rule
  simp only [detCells] at K0 HW
  show Calls Tryz.prog 15 #[.agg #[.string name, .slice a1 n1 c1, .slice a2 n2 c2, .int .i64 cover, .int .i64 agg, .int .i64 poker, .slice a3 n3 c3, .slice a4 n4 c4, .slice a5 n5 c5, .slice a6 n6 c6, .int .i64 r1, .int .i64 r2, .int .i64 r3, .int .i64 r4, .int .i64 r5, .int .i64 r6, .int .i64 r7, .int .i64 r8, .int .i64 r9], .int .i64 a] w _
  go_enter Tryz.func15, Tryz.ntmps15
  go_wp2_with (refine wpList_load_row rfl 34 (.tmp 2) rfl w.heap.size rfl 34 _ (0, 0) _ K0.out Tryz.underlying34 rfl Hi.out ?_)
  refine (HV.out _ HW.out).mono ?_
  rintro e w2 ⟨rfl, hb2⟩
  have HW2 := hide (below_step HW.out hb2 (Nat.le_refl _))
  clear hb2 HV K0 HW Hi
  go_wp2_with fail
  go_ret2
  exact ⟨rfl, HW2.out⟩
set_option maxHeartbeats 4000000 in
set_option maxRecDepth 100000 in
theorem sectBars_ok (x : DetD) (s : DetS) (a : Int) (w : World) {B : Nat} (h : DetAt w B x s) (hB : B ≤ w.heap.size) (hf : DetFit x s) (he : secErr x a = 0) :
    Calls Tryz.prog 15 #[detV x s, .int .i64 a] w fun e w' => ∃ A c, e = .returned (.tuple #[.slice A (barsOf (cutsOf x a)).length c, .int .i64 0]) ∧ (∃ b0, Row w' b0 3 1 encInt (.slice A (barsOf (cutsOf x a)).length c) (barsOf (cutsOf x a))) ∧ Below w.heap.size w w' := by
  have HV := hide (fun (W : World) (hz : Below w.heap.size w W) => pieces_ok x s a W (h.carry (hz.mono hB) (Nat.le_refl _)) (Nat.le_trans hB hz.size) hf he)
  obtain ⟨hcl, _⟩ := cuts_fine (detOk_parts (secErr_ok he).1).2.1 a
  have Hi := hide (show (Tryz.prog.info? 34).map (·.size) = some 19 by kernel_rfl)
  have K0 := hide (Blk.new w 34 (detCells x.mem x.rule s))
  have HW := hide (below_new w (.cells (detCells x.mem x.rule s) 34))
  generalize cutsOf x a = C at *
  obtain ⟨BC, hBC⟩ : ∃ BC, BC = barsOf C := ⟨_, rfl⟩
  rw [← hBC]
  have HBC := hide hBC
  clear hBC
  obtain ⟨n, hn⟩ : ∃ n, n = C.length := ⟨_, rfl⟩
  have Hn := hide hn
  have hnb : n ≤ 12000 := by omega
  rw [← hn] at HV
  clear he h hf hn hcl
  obtain ⟨mem, bars, runs, laps, dems, rule⟩ := x
  obtain ⟨a1, n1, c1, a2, n2, c2, a3, n3, c3, a4, n4, c4, a5, n5, c5, a6, n6, c6⟩ := s
  obtain ⟨name, boxes, holes, cover, agg, poker⟩ := mem
  obtain ⟨r1, r2, r3, r4, r5, r6, r7, r8, r9⟩ := rule
  simp only [detCells] at K0 HW
  show Calls Tryz.prog 15 #[.agg #[.string name, .slice a1 n1 c1, .slice a2 n2 c2, .int .i64 cover, .int .i64 agg, .int .i64 poker, .slice a3 n3 c3, .slice a4 n4 c4, .slice a5 n5 c5, .slice a6 n6 c6, .int .i64 r1, .int .i64 r2, .int .i64 r3, .int .i64 r4, .int .i64 r5, .int .i64 r6, .int .i64 r7, .int .i64 r8, .int .i64 r9], .int .i64 a] w _
  go_enter Tryz.func15, Tryz.ntmps15
  go_wp2_with (refine wpList_load_row rfl 34 (.tmp 2) rfl w.heap.size rfl 34 _ (0, 0) _ K0.out Tryz.underlying34 rfl Hi.out ?_)
  refine (HV.out _ HW.out).mono ?_
  rintro e w2 ⟨A, c, rfl, hp, hb2⟩
  have hs2 : w.heap.size ≤ w2.heap.size := (below_step HW.out hb2 (Nat.le_refl _)).size
  have HW2 := hide (below_step HW.out hb2 (Nat.le_refl _))
  have Hp := hide hp
  clear hb2 HV K0 HW Hi hp
  go_wp2_with fail
  go_loopw [8, 23] (fun v iv wr => ∃ k : Nat, k ≤ n ∧ iv = .int .i64 k ∧ (∃ acc : List Int, Hid (Row wr w2.heap.size 3 1 encInt v acc) ∧ Hid (acc = barsOf (C.take k))) ∧ Below w2.heap.size w2 wr) (fun _ iv _ => n - (intOf iv).toNat)
  case atStart => exact ⟨0, Nat.zero_le _, rfl, ⟨[], hide (Row.nil _ _ _ _ _), hide rfl⟩, Below.refl _ _⟩
  case round =>
    obtain ⟨k, hk, rfl, ⟨acc, hrow, hacc⟩, hbr⟩ := hrel
    obtain ⟨A0, c0, rfl⟩ := hrow.out.val
    have hal : acc.length ≤ 12000 := by
      rw [hacc.out]
      refine Nat.le_trans (barsOf_len _) ?_
      rw [List.length_take]
      omega
    by_cases hlt : k < n
    · obtain ⟨b, off, p, rfl, hbl, hx, hc⟩ := PcsAt.get (k := k) (SlOf.carry (Flat.carried _) Hp.out hbr (Nat.le_refl _)) (by rw [← Hn.out]; exact hlt)
      have Hnx := hide (show barsOf (C.take (k + 1)) = if acc.getLast? = some p.bar then acc else acc ++ [p.bar] by rw [take_snoc' hx, barsOf_snoc, hacc.out]; rfl)
      obtain ⟨⟨⟨x1, x2, x3⟩, x4, x5, x6⟩, br, sz, cr⟩ := p
      have p0 := hc 0 _ rfl
      have p1 := hc 1 _ rfl
      have p2 := hc 2 _ rfl
      have p3 := hc 3 _ rfl
      have p4 := hc 4 _ rfl
      have p5 := hc 5 _ rfl
      have p6 := hc 6 _ rfl
      have p7 := hc 7 _ rfl
      have p8 := hc 8 _ rfl
      simp only [Nat.add_zero] at p0 p1 p2 p3 p4 p5 p6 p7 p8 Hnx
      have hrs := hbr.size
      have HB := hide (hbr.alloc hbr.size (.cells #[.int .i64 x1, .int .i64 x2, .int .i64 x3, .int .i64 x4, .int .i64 x5, .int .i64 x6, .int .i64 br, .int .i64 sz, .bool cr] 73))
      have KP := hide (Blk.new wr 73 #[.int .i64 x1, .int .i64 x2, .int .i64 x3, .int .i64 x4, .int .i64 x5, .int .i64 x6, .int .i64 br, .int .i64 sz, .bool cr])
      have Hrow := hide (hrow.out.alloc (.cells #[.int .i64 x1, .int .i64 x2, .int .i64 x3, .int .i64 x4, .int .i64 x5, .int .i64 x6, .int .i64 br, .int .i64 sz, .bool cr] 73))
      clear hx hbl hc hbr
      have hway : (acc = [] ∧ acc.getLast? = none) ∨ (∃ (m : Nat) (z : Int), acc.length = m + 1 ∧ acc[m]? = some z ∧ acc.getLast? = some z) := by
        rcases List.eq_nil_or_concat acc with h | ⟨l, z, h⟩
        · exact .inl ⟨h, by rw [h]; rfl⟩
        · refine .inr ⟨l.length, z, ?_, ?_, ?_⟩ <;> rw [h] <;> simp
      rcases hway with ⟨h0, hl⟩ | ⟨m, z, hm, hz, hl⟩
      · have hnew := hide (show barsOf (C.take (k + 1)) = acc ++ [br] by rw [Hnx.out, hl, h0]; rfl)
        have d0 : ((acc.length : Int) == 0) = true := by rw [h0]; rfl
        clear hl Hnx hacc hrow h0
        go_wp2_with fail
        go_quiet (fail)
        go_wp2_with (at_builtin; refine wpList_append1 rfl (.tmp 41) (.tmp 44) 48 rfl w2.heap.size 3 (.int .i64 0) 1 8 encInt Tryz.underlying48 (by kernel_rfl) rfl (by omega) encInt_len encInt_one _ acc br rfl (Row.alloc (Row.drewN Hrow.out _) _) _ rfl (Blk.new1d wr _ _ _ _) (by omega) (by omega) (le_alloc (le_alloc hrs _) _) ?_; intro A9 c9 w9 hrow9 hb9 _)
        go_roundw
        case rel => exact ⟨k + 1, by omega, by go_num, ⟨acc ++ [br], hide (by simpa using hrow9), hide hnew.out.symm⟩, ((below_drewN' HB.out _).alloc (le_alloc hrs _) _).trans hb9⟩
        case measure => simp [intOf]; omega
      · obtain ⟨b', off', z', hA', hbl', hz', e0⟩ := Ints.get (k := m) (Row.read Hrow.out encInt_len (by omega)) (by omega)
        rw [hz] at hz'
        injection hz' with hz'
        subst hz'
        subst hA'
        have hlb := hbl'
        have d0 : ((acc.length : Int) == 0) = false := by rw [hm]; simp; omega
        have z1 : IntKind.i64.wrap ((acc.length : Int) - 1) = (m : Int) := by rw [hm, Int.natCast_add]; exact (IntWalk.i64_in _ (by omega)).trans (by omega)
        have z3 : (acc.length : Int) - 1 = (m : Int) := by omega
        have z2 : IntKind.i64.wrap (m : Int) = (m : Int) := IntWalk.i64_in _ (by omega)
        have z4 : m < acc.length := by omega
        have Hacc := hide hacc.out
        have Hl := hide hl
        clear hm hz hacc hbl' hrow hl
        by_cases hzb : z = br
        · subst hzb
          have hnew := hide (show barsOf (C.take (k + 1)) = acc by rw [Hnx.out, if_pos Hl.out])
          have t0 : (z != z) = false := by simp
          clear Hl Hnx
          go_wp2_with fail
          go_quiet (fail)
          go_wp2_with fail
          go_roundw
          case rel => exact ⟨k + 1, by omega, by go_num, ⟨acc, hide (Row.drewN Hrow.out _), hide hnew.out.symm⟩, below_drewN' HB.out _⟩
          case measure => simp [intOf]; omega
        · have hnew := hide (show barsOf (C.take (k + 1)) = acc ++ [br] by rw [Hnx.out, if_neg (by rw [Hl.out]; simpa using hzb)])
          have t0 : (z != br) = true := by simpa using hzb
          clear Hl Hnx hzb
          go_wp2_with fail
          go_quiet (fail)
          go_wp2_with (at_builtin; refine wpList_append1 rfl (.tmp 41) (.tmp 44) 48 rfl w2.heap.size 3 (.int .i64 0) 1 8 encInt Tryz.underlying48 (by kernel_rfl) rfl (by omega) encInt_len encInt_one _ acc br rfl (Row.alloc (Row.drewN Hrow.out _) _) _ rfl (Blk.new1d wr _ _ _ _) (by omega) (by omega) (le_alloc (le_alloc hrs _) _) ?_; intro A9 c9 w9 hrow9 hb9 _)
          go_roundw
          case rel => exact ⟨k + 1, by omega, by go_num, ⟨acc ++ [br], hide (by simpa using hrow9), hide hnew.out.symm⟩, ((below_drewN' HB.out _).alloc (le_alloc hrs _) _).trans hb9⟩
          case measure => simp [intOf]; omega
    · obtain rfl : k = n := by omega
      have Hfin : acc = BC := by rw [hacc.out, Hn.out, List.take_length, HBC.out]
      subst Hfin
      have HB := hide (below_step HW2.out hbr (Nat.le_refl _))
      clear hbr hacc
      go_wp2_with fail
      go_ret2
      exact ⟨A0, c0, rfl, ⟨w2.heap.size, hrow.out⟩, HB.out⟩
end Go.Proofs.YtmcjpdlkkpnhfaaGreatDoor
