/- The reference of layer 25: whether a detail is valid. -/
import Derived.Test.YtmcjpdlkkpnhfaaGreatQbo
import Derived.BigQuiet
namespace Go.Proofs.YtmcjpdlkkpnhfaaGreat
open Go.RowKit

def lapClash (j i : JoinD) : Bool := decide (i.first = j.first) || decide (i.second = j.second)
theorem lapNew_any (done : List JoinD) (j : JoinD) : lapNew done j = !done.any (lapClash j) := rfl
theorem lapsBy_at {ms : List (Option BoxD)} {l : List JoinD} {k : Nat} {j : JoinD} (h : l[k]? = some j) : lapsBy ms (l.take k) (l.drop k) = (lapsFit ms j && (lapNew (l.take k) j && lapsBy ms (l.take (k + 1)) (l.drop (k + 1)))) := by
  rw [drop_at' h, lapsBy, take_snoc' h, Bool.and_assoc]
theorem lapNew_true {l : List JoinD} {j : JoinD} {k : Nat} (h : NoneTo (lapClash j) l k) : lapNew (l.take k) j = true := by
  rw [lapNew_any]
  have : (l.take k).any (lapClash j) = false := by
    rw [List.any_eq_false]
    intro z hz
    obtain ⟨u, hu, rfl⟩ := List.getElem_of_mem hz
    rw [List.length_take] at hu
    rw [h u (l.take k)[u] (by omega) (by rw [List.getElem_take]; exact List.getElem?_eq_getElem (by omega))]
    simp
  rw [this]
  rfl
theorem lapNew_false {l : List JoinD} {i j : JoinD} {k t : Nat} (ht : t < k) (hi : l[t]? = some i) (hc : lapClash j i = true) : lapNew (l.take k) j = false := by
  rw [lapNew_any]
  have : (l.take k).any (lapClash j) = true := by
    rw [List.any_eq_true]
    refine ⟨i, ?_, hc⟩
    have : (l.take k)[t]? = some i := by rw [List.getElem?_take_of_lt ht]; exact hi
    exact mem_of_get this
  rw [this]
  rfl
set_option maxHeartbeats 8000000 in
set_option maxRecDepth 100000 in
theorem refValid25_any (x : DetD) (s : DetS) (w : World) {B : Nat} (h : DetAt w B x s) (hB : B ≤ w.heap.size) (hf : DetFit x s) (hd : ∀ d ∈ x.dems, d.name.size ≤ maxLen ∧ d.steps.length ≤ 60000) :
    Calls Tryz.prog 41 #[detV x s] w fun e w' => e = .returned (.bool (detOk x)) ∧ Below w.heap.size w w' := by
  have H1 := hide (fun (W : World) (hz : Below w.heap.size w W) => refMember_any x.mem s.a1 s.a2 s.n1 s.n2 s.c1 s.c2 W (h.h1.carry (Flat.carried _) (hz.mono hB) (Nat.le_refl _)) (h.h2.carry (Flat.carried _) (hz.mono hB) (Nat.le_refl _)) (Nat.le_trans hB hz.size) hf.l1 hf.l2 hf.name)
  have H2 := hide (fun (W : World) (hz : Below w.heap.size w W) => refLaid_any s.a3 s.a4 x.bars x.runs s.n3 s.c3 s.n4 s.c4 W (h.h3.carry (hz.mono hB) (Nat.le_refl _)) (h.h4.carry (Flat.carried _) (hz.mono hB) (Nat.le_refl _)) (Nat.le_trans hB hz.size) hf.l3 hf.l4 hf.m3 hf.tame)
  have H3 := hide (fun (W : World) (hz : Below w.heap.size w W) => refDems_any s.a6 x.dems s.n6 s.c6 W (SlOf.carry demR_carried h.h6 (hz.mono hB) (Nat.le_refl _)) (Nat.le_trans hB hz.size) hf.l6 hf.m6 hd)
  have H4 := hide (fun (W : World) => refRule_any x.rule W)
  have HJ := fun (hok : laidOk x.bars x.runs = true) (j : JoinD) (W : World) (hz : Below w.heap.size w W) => refJoint_any x s j W (h.carry (hz.mono hB) (Nat.le_refl _)) (Nat.le_trans hB hz.size) hf hok
  have Hr := hide (detOk_ref x)
  have HL := hide h.h5
  have L5 := hide hf.l5
  have HB := hide hB
  have m5 := hf.m5
  have Hi := hide (show (Tryz.prog.info? 34).map (·.size) = some 19 by kernel_rfl)
  have K0 := hide (Blk.new w 34 (detCells x.mem x.rule s))
  have HW := hide (below_new w (.cells (detCells x.mem x.rule s) 34))
  obtain ⟨b1, hb1⟩ : ∃ b, b = memOk x.mem := ⟨_, rfl⟩
  obtain ⟨b2, hb2⟩ : ∃ b, b = laidOk x.bars x.runs := ⟨_, rfl⟩
  obtain ⟨b3, hb3⟩ : ∃ b, b = demsOk x.dems := ⟨_, rfl⟩
  obtain ⟨b4, hb4⟩ : ∃ b, b = ruleOk x.rule := ⟨_, rfl⟩
  rw [← hb1, ← hb2, ← hb3, ← hb4] at Hr
  rw [← hb1] at H1
  rw [← hb2] at H2 HJ
  rw [← hb3] at H3
  rw [← hb4] at H4
  have HJ := hide HJ
  generalize (laidAll x.bars x.runs).map mainLeg = ms at *
  generalize detOk x = res at *
  obtain ⟨mem, bars, runs, laps, dems, rule⟩ := x
  obtain ⟨a1, n1, c1, a2, n2, c2, a3, n3, c3, a4, n4, c4, a5, n5, c5, a6, n6, c6⟩ := s
  obtain ⟨name, boxes, holes, cover, agg, poker⟩ := mem
  obtain ⟨r1, r2, r3, r4, r5, r6, r7, r8, r9⟩ := rule
  simp only [detCells] at K0 HW
  simp only at H1 H2 H3 H4 HL L5 m5 Hr
  clear h hf hd hB hb1 hb2 hb3 hb4
  show Calls Tryz.prog 41 #[.agg #[.string name, .slice a1 n1 c1, .slice a2 n2 c2, .int .i64 cover, .int .i64 agg, .int .i64 poker, .slice a3 n3 c3, .slice a4 n4 c4, .slice a5 n5 c5, .slice a6 n6 c6, .int .i64 r1, .int .i64 r2, .int .i64 r3, .int .i64 r4, .int .i64 r5, .int .i64 r6, .int .i64 r7, .int .i64 r8, .int .i64 r9]] w _
  go_enter Tryz.func41, Tryz.ntmps41
  go_wp2_with fail
  refine (H1.out _ HW.out).mono ?_
  rintro e w2 ⟨rfl, hb2⟩
  have K0 := hide (K0.out.keep hb2)
  have HW := hide (below_step HW.out hb2 (Nat.le_refl _))
  clear hb2
  cases b1
  · go_wp2_with fail
    go_ret
    exact ⟨ret_bool (by rw [Hr.out]; rfl), HW.out⟩
  have e6 := K0.out.cell 6
  have e7 := K0.out.cell 7
  simp at e6 e7
  go_wp2_with fail
  refine (H2.out _ HW.out).mono ?_
  rintro e w2 ⟨rfl, hb2⟩
  have K0 := hide (K0.out.keep hb2)
  have HW := hide (below_step HW.out hb2 (Nat.le_refl _))
  clear hb2
  clear e6 e7
  cases b2
  · go_wp2_with fail
    go_ret
    exact ⟨ret_bool (by rw [Hr.out]; rfl), HW.out⟩
  have HJJ := hide (HJ.out rfl)
  clear HJ
  have e9 := K0.out.cell 9
  simp at e9
  go_wp2_with fail
  refine (H3.out _ HW.out).mono ?_
  rintro e w2 ⟨rfl, hb2⟩
  have K0 := hide (K0.out.keep hb2)
  have HW := hide (below_step HW.out hb2 (Nat.le_refl _))
  clear hb2
  clear e9
  cases b3
  · go_wp2_with fail
    go_ret
    exact ⟨ret_bool (by rw [Hr.out]; rfl), HW.out⟩
  have e10 := K0.out.cell 10
  have e11 := K0.out.cell 11
  have e12 := K0.out.cell 12
  have e13 := K0.out.cell 13
  have e14 := K0.out.cell 14
  have e15 := K0.out.cell 15
  have e16 := K0.out.cell 16
  have e17 := K0.out.cell 17
  have e18 := K0.out.cell 18
  simp at e10 e11 e12 e13 e14 e15 e16 e17 e18
  go_wp2_with fail
  refine (H4.out _).mono ?_
  rintro e w2 ⟨rfl, hb2⟩
  have K0 := hide (K0.out.keep hb2)
  have HW := hide (below_step HW.out hb2 (Nat.le_refl _))
  clear hb2
  clear e10 e11 e12 e13 e14 e15 e16 e17 e18
  cases b4
  · go_wp2_with fail
    go_ret
    exact ⟨ret_bool (by rw [Hr.out]; rfl), HW.out⟩
  have e8 := K0.out.cell 8
  simp at e8
  by_cases hlen : 1000 < n5
  · have d0 : decide (1000 < (n5 : Int)) = true := by simp; omega
    have Hr := hide (show res = false by rw [Hr.out, decide_eq_false (show ¬ laps.length ≤ 1000 by rw [← L5.out]; omega)]; rfl)
    go_wp2_with fail
    go_ret
    exact ⟨ret_bool Hr.out.symm, HW.out⟩
  have d0 : decide (1000 < (n5 : Int)) = false := by simp; omega
  have Hr := hide (show res = lapsBy ms (laps.take 0) (laps.drop 0) by rw [Hr.out, decide_eq_true (show laps.length ≤ 1000 by rw [← L5.out]; omega)] <;> rfl)
  clear hlen H1 H2 H3 H4
  go_wp2_with fail
  clear e8
  go_loopw [3] (fun iv wr => ∃ k : Nat, k ≤ n5 ∧ iv = .int .i64 k ∧ Hid (lapsBy ms (laps.take 0) (laps.drop 0) = lapsBy ms (laps.take k) (laps.drop k)) ∧ Hid (Blk wr w.heap.size 34 #[.string name, .slice a1 n1 c1, .slice a2 n2 c2, .int .i64 cover, .int .i64 agg, .int .i64 poker, .slice a3 n3 c3, .slice a4 n4 c4, .slice a5 n5 c5, .slice a6 n6 c6, .int .i64 r1, .int .i64 r2, .int .i64 r3, .int .i64 r4, .int .i64 r5, .int .i64 r6, .int .i64 r7, .int .i64 r8, .int .i64 r9]) ∧ Hid (Below w.heap.size w wr)) (fun iv _ => n5 - (intOf iv).toNat)
  case atStart => exact ⟨0, Nat.zero_le _, rfl, hide rfl, K0, HW⟩
  case round =>
    clear K0 HW
    rename World => wo
    obtain ⟨k, hk, rfl, hq, hK, hbr⟩ := hrel
    have e8 := hK.out.cell 8
    simp at e8
    have lk := hK.out.lt
    by_cases hlt : k < n5
    · obtain ⟨b, off, j, rfl, hbl, hx, g0, g1⟩ := JoinsAt.get (k := k) (HL.out.carry (Flat.carried _) (hbr.out.mono HB.out) (Nat.le_refl _)) (by rw [← L5.out]; exact hlt)
      have Hx := hide hx
      have Hq := hide (hq.out.trans (lapsBy_at hx))
      have HJj := HJJ.out j
      obtain ⟨a, ha⟩ : ∃ a, a = lapsFit ms j := ⟨_, rfl⟩
      rw [← ha] at HJj Hq
      have HJj := hide HJj
      obtain ⟨f, g⟩ := j
      simp only at g0 g1 HJj
      have hblt := hbl
      clear hx hbl hq ha
      have HQ0 := hide (HL.out.carry (Flat.carried _) (hbr.out.mono HB.out) (Nat.le_refl B))
      have hbw : b < w.heap.size := Nat.lt_of_lt_of_le hblt HB.out
      go_wp2_with fail
      refine wp_region_still_tail 6 (by kernel_rfl) (by kernel_rfl) ?_
      simp only [List.take_succ_cons, List.take_zero, List.drop_succ_cons, List.drop_zero]
      refine still_load_row rfl 34 (.tmp 1) rfl w.heap.size rfl 34 _ (0, 0) _ hK.out Tryz.underlying34 rfl Hi.out ?_
      repeat still_step
      try refine wpStill_nil ?_
      change wpList _ _ _ _ _ (World.drew wo)
      go_wp2_with fail
      refine (HJj.out _ hbr.out.drew).mono ?_
      rintro e w2 ⟨rfl, hb2⟩
      have hK2 := hide ((hK.out.drew).keep hb2)
      have hbr2 := hide (below_step hbr.out.drew hb2 (Nat.le_refl _))
      clear hb2 HJj g0 g1 e8 lk
      cases a
      · have Hr := hide (show res = false by rw [Hr.out, Hq.out]; rfl)
        go_wp2_with fail
        go_ret
        exact ⟨ret_bool Hr.out.symm, hbr2.out⟩
      go_wp2_with fail
      go_loopw [4] (fun iv wr => ∃ t : Nat, t ≤ k ∧ iv = .int .i64 t ∧ NoneTo (lapClash ⟨f, g⟩) laps t ∧ Hid (Blk wr w.heap.size 34 #[.string name, .slice a1 n1 c1, .slice a2 n2 c2, .int .i64 cover, .int .i64 agg, .int .i64 poker, .slice a3 n3 c3, .slice a4 n4 c4, .slice (some ⟨b, off, none⟩) n5 c5, .slice a6 n6 c6, .int .i64 r1, .int .i64 r2, .int .i64 r3, .int .i64 r4, .int .i64 r5, .int .i64 r6, .int .i64 r7, .int .i64 r8, .int .i64 r9]) ∧ Hid (Below w.heap.size w wr)) (fun iv _ => k - (intOf iv).toNat)
      case atStart => exact ⟨0, Nat.zero_le _, rfl, NoneTo.zero _ _, hK2, hbr2⟩
      case round =>
        clear hK hbr hK2 hbr2 HQ0
        rename World => wi
        obtain ⟨t, ht, rfl, hno, hK, hbr⟩ := hrel
        have e8 := hK.out.cell 8
        simp at e8
        have lk := hK.out.lt
        by_cases hlj : t < k
        · have HQ := HL.out.carry (Flat.carried _) (hbr.out.mono HB.out) (Nat.le_refl B)
          obtain ⟨b', off', i, hA', _, hy, f0, f1⟩ := JoinsAt.get (k := t) HQ (by rw [← L5.out]; omega)
          injection hA' with hA'
          injection hA' with z1 z2
          subst z1 z2
          obtain ⟨b', off', i', hA', _, hx', g0, g1⟩ := JoinsAt.get (k := k) HQ (by rw [← L5.out]; omega)
          injection hA' with hA'
          injection hA' with z1 z2
          subst z1 z2
          rw [Hx.out] at hx'
          injection hx' with hx'
          subst hx'
          have Hy := hide hy
          obtain ⟨p, q⟩ := i
          simp only at f0 f1 g0 g1
          clear HQ hy
          cases e1 : (p == f)
          · cases e2 : (q == g)
            · have Hc := hide (show lapClash ⟨f, g⟩ ⟨p, q⟩ = false by
                have h1 : p ≠ f := by simpa using e1
                have h2 : q ≠ g := by simpa using e2
                simp [lapClash, h1, h2])
              have Hno := hide (hno.succ Hy.out Hc.out)
              clear hno
              go_wp2_with fail
              go_quiet (fail)
              go_wp2_with fail
              go_roundw
              case rel => exact ⟨t + 1, by omega, by go_num, Hno.out, hide (hK.out.drewN _), hide (below_drewN' hbr.out _)⟩
              case measure => simp [intOf]; omega
            · have Hr := hide (show res = false by
                rw [Hr.out, Hq.out, lapNew_false hlj Hy.out (by have h2 : q = g := by simpa using e2
                                                                simp [lapClash, h2])]
                rfl)
              clear hno
              go_wp2_with fail
              go_quiet (fail)
              go_wp2_with fail
              go_ret
              exact ⟨ret_bool Hr.out.symm, below_drewN' hbr.out _⟩
          · have Hr := hide (show res = false by
              rw [Hr.out, Hq.out, lapNew_false hlj Hy.out (by have h2 : p = f := by simpa using e1
                                                              simp [lapClash, h2])]
              rfl)
            clear hno
            go_wp2_with fail
            go_quiet (fail)
            go_wp2_with fail
            go_ret
            exact ⟨ret_bool Hr.out.symm, below_drewN' hbr.out _⟩
        · obtain rfl : t = k := by omega
          have Hq2 := hide (show lapsBy ms (laps.take 0) (laps.drop 0) = lapsBy ms (laps.take (t + 1)) (laps.drop (t + 1)) by rw [Hq.out, lapNew_true hno]; rfl)
          clear hno
          go_wp2_with fail
          go_roundw
          case rel => exact ⟨t + 1, by omega, by go_num, Hq2, hK, hbr⟩
          case measure => simp [intOf]; omega
    · obtain rfl : k = n5 := by omega
      have Hr := hide (show res = true by rw [Hr.out, hq.out, List.drop_of_length_le (by rw [← L5.out]; exact Nat.le_refl _)]; rfl)
      go_wp2_with fail
      go_ret
      exact ⟨ret_bool Hr.out.symm, hbr.out⟩
end Go.Proofs.YtmcjpdlkkpnhfaaGreat
