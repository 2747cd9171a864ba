/- Whether a point is in the concrete of a solid: the program's Inside. -/
import Derived.Test.YtmcjpdlkkpnhfaaGreatQaf
import Derived.Test.YtmcjpdlkkpnhfaaGreatQbf
namespace Go.Proofs.YtmcjpdlkkpnhfaaGreat
open Go.RowKit

set_option maxHeartbeats 1000000 in
theorem opens_any (h b : BoxD) (w : World) :
    Calls Tryz.prog 108 #[bx h, bx b] w fun e w' => e = .returned (.bool (opensB h b)) ∧ Below w.heap.size w w' := by
  obtain ⟨⟨h1, h2, h3⟩, h4, h5, h6⟩ := h
  obtain ⟨⟨b1, b2, b3⟩, b4, b5, b6⟩ := b
  have hr : opensB ⟨(h1, h2, h3), (h4, h5, h6)⟩ ⟨(b1, b2, b3), (b4, b5, b6)⟩ = (decide (b1 < h4) && decide (h1 < b4) && decide (b2 < h5) && decide (h2 < b5) && decide (b3 < h6) && decide (h3 < b6)) := rfl
  have hcase : (decide (b1 < h4) = false ∧ opensB ⟨(h1, h2, h3), (h4, h5, h6)⟩ ⟨(b1, b2, b3), (b4, b5, b6)⟩ = false) ∨ (decide (b1 < h4) = true ∧ decide (h1 < b4) = false ∧ opensB ⟨(h1, h2, h3), (h4, h5, h6)⟩ ⟨(b1, b2, b3), (b4, b5, b6)⟩ = false) ∨ (decide (b1 < h4) = true ∧ decide (h1 < b4) = true ∧ decide (b2 < h5) = false ∧ opensB ⟨(h1, h2, h3), (h4, h5, h6)⟩ ⟨(b1, b2, b3), (b4, b5, b6)⟩ = false) ∨ (decide (b1 < h4) = true ∧ decide (h1 < b4) = true ∧ decide (b2 < h5) = true ∧ decide (h2 < b5) = false ∧ opensB ⟨(h1, h2, h3), (h4, h5, h6)⟩ ⟨(b1, b2, b3), (b4, b5, b6)⟩ = false) ∨ (decide (b1 < h4) = true ∧ decide (h1 < b4) = true ∧ decide (b2 < h5) = true ∧ decide (h2 < b5) = true ∧ decide (b3 < h6) = false ∧ opensB ⟨(h1, h2, h3), (h4, h5, h6)⟩ ⟨(b1, b2, b3), (b4, b5, b6)⟩ = false) ∨ (decide (b1 < h4) = true ∧ decide (h1 < b4) = true ∧ decide (b2 < h5) = true ∧ decide (h2 < b5) = true ∧ decide (b3 < h6) = true ∧ decide (h3 < b6) = false ∧ opensB ⟨(h1, h2, h3), (h4, h5, h6)⟩ ⟨(b1, b2, b3), (b4, b5, b6)⟩ = false) ∨ (decide (b1 < h4) = true ∧ decide (h1 < b4) = true ∧ decide (b2 < h5) = true ∧ decide (h2 < b5) = true ∧ decide (b3 < h6) = true ∧ decide (h3 < b6) = true ∧ opensB ⟨(h1, h2, h3), (h4, h5, h6)⟩ ⟨(b1, b2, b3), (b4, b5, b6)⟩ = true) := by
    rw [hr]
    cases decide (b1 < h4) <;> cases decide (h1 < b4) <;> cases decide (b2 < h5) <;> cases decide (h2 < b5) <;> cases decide (b3 < h6) <;> cases decide (h3 < b6) <;> simp
  clear hr
  have HW := hide (below_new2 w (.cells #[.int .i64 h1, .int .i64 h2, .int .i64 h3, .int .i64 h4, .int .i64 h5, .int .i64 h6] 63) (.cells #[.int .i64 b1, .int .i64 b2, .int .i64 b3, .int .i64 b4, .int .i64 b5, .int .i64 b6] 63))
  rcases hcase with ⟨q0, hR⟩ | ⟨q0, q1, hR⟩ | ⟨q0, q1, q2, hR⟩ | ⟨q0, q1, q2, q3, hR⟩ | ⟨q0, q1, q2, q3, q4, hR⟩ | ⟨q0, q1, q2, q3, q4, q5, hR⟩ | ⟨q0, q1, q2, q3, q4, q5, hR⟩
  all_goals
    have HR := hide hR
    clear hR
    go_enter Tryz.func108, Tryz.ntmps108
    go_wp2_with fail
    go_ret
    exact ⟨ret_bool HR.out.symm, HW.out⟩
theorem bx_load {w : World} {g : Nat} {b : BoxD} (h : Blk w g 63 #[.int .i64 b.lo.1, .int .i64 b.lo.2.1, .int .i64 b.lo.2.2, .int .i64 b.hi.1, .int .i64 b.hi.2.1, .int .i64 b.hi.2.2]) :
    w.heap[g]? = some (.cells #[.int .i64 b.lo.1, .int .i64 b.lo.2.1, .int .i64 b.lo.2.2, .int .i64 b.hi.1, .int .i64 b.hi.2.1, .int .i64 b.hi.2.2] 63 (0, 0)) := h
set_option maxHeartbeats 1000000 in
theorem opensAt_any (h b : BoxD) (g : Nat) (w : World) (hg : Blk w g 63 #[.int .i64 b.lo.1, .int .i64 b.lo.2.1, .int .i64 b.lo.2.2, .int .i64 b.hi.1, .int .i64 b.hi.2.1, .int .i64 b.hi.2.2]) :
    Calls Tryz.prog 107 #[bx h, .pointer (some ⟨g, 0, none⟩)] w fun e w' => e = .returned (.bool (opensAt b h)) ∧ Below w.heap.size w w' := by
  have HO := hide (fun W => opens_any h b W)
  have Hr := hide (show opensAt b h = opensB h b from rfl)
  obtain ⟨t, ht⟩ : ∃ t, t = opensB h b := ⟨_, rfl⟩
  rw [← ht] at HO Hr
  obtain ⟨⟨b1, b2, b3⟩, b4, b5, b6⟩ := b
  obtain ⟨⟨h1, h2, h3⟩, h4, h5, h6⟩ := h
  have c0 := hg.cell 0
  have c1 := hg.cell 1
  have c2 := hg.cell 2
  have c3 := hg.cell 3
  have c4 := hg.cell 4
  have c5 := hg.cell 5
  simp at c0 c1 c2 c3 c4 c5
  have lg := hg.lt
  clear hg ht
  have HW := hide (below_new w (.cells #[.int .i64 h1, .int .i64 h2, .int .i64 h3, .int .i64 h4, .int .i64 h5, .int .i64 h6] 63))
  go_enter Tryz.func107, Tryz.ntmps107
  go_wp2_with fail
  refine (HO.out _).mono ?_
  rintro e w2 ⟨rfl, hb⟩
  have HB := hide (below_step HW.out hb (Nat.le_refl _))
  clear hb c0 c1 c2 c3 c4 c5 HO
  go_wp2_with fail
  go_ret
  exact ⟨ret_bool Hr.out.symm, HB.out⟩
def axPair (q : (Int × Int) × (Int × Int)) : Bool := decide (q.1.1 ≤ q.2.1) && decide (q.2.2 ≤ q.1.2)
theorem holdsB_zip (a b : BoxD) : holdsB a b = (((axes a).zip (axes b)).drop 0).all axPair := by
  simp [holdsB, axes, axPair, Bool.and_assoc]
set_option maxHeartbeats 2000000 in
theorem holdsB_any (a b : BoxD) (w : World) :
    Calls Tryz.prog 148 #[bx a, bx b] w fun e w' => e = .returned (.bool (holdsB a b)) ∧ Below w.heap.size w w' := by
  have HE := hide (fun (k : Nat) (p : Int × Int) (h : (axes a)[k]? = some p) (w : World) => ends_any a k p h w)
  have HF := hide (fun (k : Nat) (p : Int × Int) (h : (axes b)[k]? = some p) (w : World) => ends_any b k p h w)
  have Hok := hide (holdsB_zip a b)
  have HL := hide (show (axes a).length = 3 from rfl)
  have HM := hide (show (axes b).length = 3 from rfl)
  obtain ⟨⟨x, y, z⟩, ⟨x2, y2, z2⟩⟩ := a
  obtain ⟨⟨u, v, t⟩, ⟨u2, v2, t2⟩⟩ := b
  generalize axes ⟨(x, y, z), (x2, y2, z2)⟩ = ax at *
  generalize axes ⟨(u, v, t), (u2, v2, t2)⟩ = bx' at *
  obtain ⟨rb, hrb⟩ : ∃ rb, rb = holdsB ⟨(x, y, z), (x2, y2, z2)⟩ ⟨(u, v, t), (u2, v2, t2)⟩ := ⟨_, rfl⟩
  rw [← hrb] at Hok ⊢
  clear hrb
  go_enter Tryz.func148, Tryz.ntmps148
  go_wp2_with fail
  obtain ⟨w1, hw1⟩ : ∃ w1, w1 = (w.alloc (.cells #[.int .i64 x, .int .i64 y, .int .i64 z, .int .i64 x2, .int .i64 y2, .int .i64 z2] 63)).alloc (.cells #[.int .i64 u, .int .i64 v, .int .i64 t, .int .i64 u2, .int .i64 v2, .int .i64 t2] 63) := ⟨_, rfl⟩
  have hb := hide ((Blk.new w 63 #[.int .i64 x, .int .i64 y, .int .i64 z, .int .i64 x2, .int .i64 y2, .int .i64 z2]).alloc (.cells #[.int .i64 u, .int .i64 v, .int .i64 t, .int .i64 u2, .int .i64 v2, .int .i64 t2] 63))
  have hc := hide (Blk.new1 w (.cells #[.int .i64 x, .int .i64 y, .int .i64 z, .int .i64 x2, .int .i64 y2, .int .i64 z2] 63) 63 #[.int .i64 u, .int .i64 v, .int .i64 t, .int .i64 u2, .int .i64 v2, .int .i64 t2])
  have hw := hide (below_new2 w (.cells #[.int .i64 x, .int .i64 y, .int .i64 z, .int .i64 x2, .int .i64 y2, .int .i64 z2] 63) (.cells #[.int .i64 u, .int .i64 v, .int .i64 t, .int .i64 u2, .int .i64 v2, .int .i64 t2] 63))
  rw [← hw1] at hb hc hw ⊢
  clear hw1
  go_loopw [10] (fun i wr => ∃ k : Nat, k ≤ 3 ∧ i = .int .i64 k ∧ Hid (rb = ((ax.zip bx').drop k).all axPair) ∧ Below w1.heap.size w1 wr) (fun i _ => 3 - (intOf i).toNat)
  case atStart => exact ⟨0, Nat.zero_le _, rfl, Hok, Below.refl _ _⟩
  case round =>
    obtain ⟨k, hk, rfl, hq, hbr⟩ := hrel
    by_cases hlt : k < 3
    · obtain ⟨p, hp⟩ : ∃ p, ax[k]? = some p := ⟨_, List.getElem?_eq_getElem (by rw [HL.out]; exact hlt)⟩
      obtain ⟨r, hr⟩ : ∃ p, bx'[k]? = some p := ⟨_, List.getElem?_eq_getElem (by rw [HM.out]; exact hlt)⟩
      have hz : (ax.zip bx')[k]? = some (p, r) := by simp [List.getElem?_zip_eq_some, hp, hr]
      have hbk := hb.out.below hbr hb.out.lt
      have hck := hide (hc.out.below hbr hc.out.lt)
      have c0 := hbk.cell 0
      have c1 := hbk.cell 1
      have c2 := hbk.cell 2
      have c3 := hbk.cell 3
      have c4 := hbk.cell 4
      have c5 := hbk.cell 5
      simp at c0 c1 c2 c3 c4 c5
      have He := hide (HE.out k p hp wr)
      have Hf := hide (fun W => HF.out k r hr W)
      have Hn := hide (hq.out.trans (by rw [drop_at' hz, List.all_cons]))
      have Hbr := hide hbr
      clear hbk hp hr hz hq hbr
      obtain ⟨lo, hi⟩ := p
      obtain ⟨ff, tt⟩ := r
      simp only at He Hf Hn
      go_wp2_with fail
      refine He.out.mono ?_
      rintro e w2 ⟨rfl, hb2⟩
      have hck2 := hck.out.keep hb2
      have d0 := hck2.cell 0
      have d1 := hck2.cell 1
      have d2 := hck2.cell 2
      have d3 := hck2.cell 3
      have d4 := hck2.cell 4
      have d5 := hck2.cell 5
      simp at d0 d1 d2 d3 d4 d5
      have Hb2 := hide (below_step Hbr.out hb2 (Nat.le_refl _))
      clear hck2 hck hb2 c0 c1 c2 c3 c4 c5 Hbr He
      go_wp2_with fail
      refine (Hf.out _).mono ?_
      rintro e w3 ⟨rfl, hb3⟩
      have Hb3 := hide (below_step Hb2.out hb3 (Nat.le_refl _))
      clear hb3 d0 d1 d2 d3 d4 d5 Hb2 Hf
      have hcase : (axPair ((lo, hi), (ff, tt)) = true ∧ decide (ff < lo) = false ∧ decide (hi < tt) = false) ∨ (axPair ((lo, hi), (ff, tt)) = false ∧ decide (ff < lo) = true) ∨ (axPair ((lo, hi), (ff, tt)) = false ∧ decide (ff < lo) = false ∧ decide (hi < tt) = true) := by
        simp only [axPair, Bool.and_eq_true, Bool.and_eq_false_iff, decide_eq_true_eq, decide_eq_false_iff_not]
        omega
      rcases hcase with ⟨ha, q0, q1⟩ | ⟨ha, q0⟩ | ⟨ha, q0, q1⟩
      · have Hn2 := hide (Hn.out.trans (by rw [ha, Bool.true_and]))
        clear ha Hn
        go_wp2_with fail
        go_roundw
        case rel => exact ⟨k + 1, by omega, by go_num, Hn2, Hb3.out⟩
        case measure => simp [intOf]; omega
      all_goals
        have hres := hide (show rb = false by rw [Hn.out, ha]; rfl)
        clear ha Hn
        go_wp2_with fail
        go_ret
        exact ⟨ret_bool hres.out.symm, below_step hw.out Hb3.out (Nat.le_refl _)⟩
    · obtain rfl : k = 3 := by omega
      have hfull := hide (show rb = true by rw [hq.out, List.drop_of_length_le (by rw [List.length_zip, HL.out, HM.out]; decide)]; rfl)
      go_wp2_with fail
      go_ret
      exact ⟨ret_bool hfull.out.symm, below_step hw.out hbr (Nat.le_refl _)⟩
set_option maxHeartbeats 1000000 in
theorem holdsAt_any (a b : BoxD) (g : Nat) (w : World) (hg : Blk w g 63 #[.int .i64 b.lo.1, .int .i64 b.lo.2.1, .int .i64 b.lo.2.2, .int .i64 b.hi.1, .int .i64 b.hi.2.1, .int .i64 b.hi.2.2]) :
    Calls Tryz.prog 147 #[bx a, .pointer (some ⟨g, 0, none⟩)] w fun e w' => e = .returned (.bool (holdsAt b a)) ∧ Below w.heap.size w w' := by
  have HO := hide (fun W => holdsB_any a b W)
  have Hr := hide (show holdsAt b a = holdsB a b from rfl)
  obtain ⟨t, ht⟩ : ∃ t, t = holdsB a b := ⟨_, rfl⟩
  rw [← ht] at HO Hr
  obtain ⟨⟨b1, b2, b3⟩, b4, b5, b6⟩ := b
  obtain ⟨⟨h1, h2, h3⟩, h4, h5, h6⟩ := a
  have c0 := hg.cell 0
  have c1 := hg.cell 1
  have c2 := hg.cell 2
  have c3 := hg.cell 3
  have c4 := hg.cell 4
  have c5 := hg.cell 5
  simp at c0 c1 c2 c3 c4 c5
  have lg := hg.lt
  clear hg ht
  have HW := hide (below_new w (.cells #[.int .i64 h1, .int .i64 h2, .int .i64 h3, .int .i64 h4, .int .i64 h5, .int .i64 h6] 63))
  go_enter Tryz.func147, Tryz.ntmps147
  go_wp2_with fail
  refine (HO.out _).mono ?_
  rintro e w2 ⟨rfl, hb⟩
  have HB := hide (below_step HW.out hb (Nat.le_refl _))
  clear hb c0 c1 c2 c3 c4 c5 HO
  go_wp2_with fail
  go_ret
  exact ⟨ret_bool Hr.out.symm, HB.out⟩
end Go.Proofs.YtmcjpdlkkpnhfaaGreat
