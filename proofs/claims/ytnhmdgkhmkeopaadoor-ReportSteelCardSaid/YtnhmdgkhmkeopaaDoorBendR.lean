/- The references of layers 11, 13 and 36: bends, masses, developed and cutting lengths of valid bars. -/
import Derived.Test.YtnhmdgkhmkeopaaDoorLegsR
import Derived.Test.YtnhmdgkhmkeopaaDoorBend
namespace Go.Proofs.YtnhmdgkhmkeopaaDoor
open Go.RowKit

set_option maxHeartbeats 400000 in
theorem refBend_ok (d : Int) (w : World) (hd : isSize d = true) :
    Calls Tryd.prog 88 #[.int .i64 d] w fun e w' => e = .returned (.int .i64 (steelBend d)) ∧ w = w' := by
  obtain ⟨h0, h1⟩ := isSize_range hd
  clear hd
  go_enter Tryd.func88, Tryd.ntmps88
  go_wp2_with fail
  · go_ret
    exact ⟨ret_int (by unfold steelBend; rw [if_pos (by omega)]), rfl⟩
  · go_ret
    exact ⟨ret_int (by unfold steelBend; rw [if_neg (by omega)]), rfl⟩

set_option maxHeartbeats 1000000 in
theorem refMass_ok (d n : Int) (w : World) (hd : isSize d = true) (h0 : 0 ≤ n) (h1 : n ≤ 534300) :
    Calls Tryd.prog 54 #[.int .i64 d, .int .i64 n] w fun e w' => e = .returned (.int .i64 (steelMass d n)) ∧ w = w' := by
  have hm := isSize_mem hd
  simp [steelSizes] at hm
  clear hd
  rcases hm with rfl | rfl | rfl | rfl | rfl | rfl | rfl | rfl | rfl
  all_goals
    go_enter Tryd.func54, Tryd.ntmps54
    go_wp2_with fail
    go_ret
    exact ⟨ret_int (by unfold steelMass; omega), rfl⟩

set_option maxHeartbeats 400000 in
theorem refArc_ok (d : Int) (w : World) (hd : isSize d = true) :
    Calls Tryd.prog 89 #[.int .i64 d] w fun e w' => e = .returned (.agg #[.int .i64 (arcLo d), .int .i64 (arcHi d)]) ∧ Below w.heap.size w w' := by
  have Hd := hide hd
  obtain ⟨hr0, hr1⟩ := steelBend_range hd
  clear hd
  go_enter Tryd.func89, Tryd.ntmps89
  go_wp2_with fail
  refine (refBend_ok _ _ Hd.out).mono ?_
  rintro e w1 ⟨rfl, rfl⟩
  go_wp2_with fail
  refine bodyPost_ret (results_c rfl rfl (Blk.new w _ _) Tryd.underlying90 rfl (by kernel_rfl)) rfl ?_
  refine ⟨?_, below_new w _⟩
  have h0 : arcLo d = 500 * steelBend d * 333 / 106 := rfl
  have h1 : arcHi d = (500 * steelBend d * 355 + 112) / 113 := by unfold arcHi upDiv; omega
  rw [h0, h1]

set_option maxHeartbeats 400000 in
theorem refAllowance_ok (d : Int) (w : World) (hd : isSize d = true) :
    Calls Tryd.prog 77 #[.int .i64 d] w fun e w' => e = .returned (.agg #[.int .i64 (allowLo d), .int .i64 (allowHi d)]) ∧ Below w.heap.size w w' := by
  have Hd := hide hd
  obtain ⟨hr0, hr1⟩ := steelBend_range hd
  obtain ⟨ha0, ha1, ha2, ha3⟩ := arc_range hd
  clear hd
  go_enter Tryd.func77, Tryd.ntmps77
  go_wp2_with fail
  refine (refBend_ok _ _ Hd.out).mono ?_
  rintro e w1 ⟨rfl, rfl⟩
  go_wp2_with fail
  refine (refArc_ok _ _ Hd.out).mono ?_
  rintro e w1 ⟨rfl, hb⟩
  have B0 := hide ((Blk.new w 90 #[.int .i64 0, .int .i64 0]).keep hb)
  have HB := hide (below_step (below_new w _) hb (Nat.le_refl _))
  have hl := B0.out.lt
  have B1 := hide (B0.out.alloc (.cells #[.int .i64 (arcLo d), .int .i64 (arcHi d)] 90))
  have c0 := B0.out.cell 0
  have c1 := B0.out.cell 1
  have f0 := B0.out.frozen 0
  have f1 := B0.out.frozen 1
  simp at c0 c1
  clear hb
  go_wp2_with fail
  refine bodyPost_ret (results_c rfl rfl (((B0.out.set_ 0 _).set_ 1 _).alloc _) Tryd.underlying90 rfl (by kernel_rfl)) rfl ?_
  exact ⟨rfl, ((HB.out.setCell (by simp) _).setCell (by simp) _).alloc (by simpa [World.setCell] using HB.out.size) _⟩

theorem cell_far2 {w : World} {g h : Nat} {i j k : Nat} {u v : Value} (hne : g ≠ h) : ((w.setCell ⟨h, i, none⟩ u).setCell ⟨h, j, none⟩ v).cell? ⟨g, k, none⟩ = w.cell? ⟨g, k, none⟩ := by
  simp [World.cell?, World.setCell, Array.getElem?_modify, Ne.symm hne]
def bendsN (x : BarD) : Int := (legLens x).length - 1
set_option maxHeartbeats 400000 in
theorem refBends_ok (x : BarD) (A : Option Addr) (c : Nat) (w : World) {B : Nat} (hA : Ints w B A x.dims) (hB : B ≤ w.heap.size) (hok : barOk x = true) :
    Calls Tryd.prog 78 #[.agg #[.string x.mark, .int .i64 x.size, .int .i64 x.count, .int .i64 x.code, .slice A x.dims.length c]] w fun e w' =>
      e = .returned (.int .i64 (bendsN x)) ∧ Below w.heap.size w w' := by
  have hle : (legLens x).length ≤ 6 := by rw [legLens_len]; exact legsLen_le _
  have hbo := fun o => hide ((Below.refl B w).alloc hB o)
  have Hok := hide hok
  clear hok
  go_enter Tryd.func78, Tryd.ntmps78
  go_wp2_with fail
  refine (refLegs_ok x A c _ (hA.carry (hbo _).out (Nat.le_refl _)) (le_alloc hB _) Hok.out).mono ?_
  rintro e w1 ⟨L, lc, rfl, hL, hb1⟩
  have hw1 := hide (below_step (below_new w _) hb1 (Nat.le_refl _))
  clear hL hA hb1 hbo
  go_wp2_with fail
  go_ret
  exact ⟨rfl, hw1.out⟩

set_option maxHeartbeats 4000000 in
set_option maxRecDepth 100000 in
theorem refDeveloped_ok (x : BarD) (A : Option Addr) (c : Nat) (w : World) {B : Nat} (hA : Ints w B A x.dims) (hB : B ≤ w.heap.size) (hok : barOk x = true) :
    Calls Tryd.prog 65 #[.agg #[.string x.mark, .int .i64 x.size, .int .i64 x.count, .int .i64 x.code, .slice A x.dims.length c]] w fun e w' =>
      e = .returned (.agg #[.int .i64 (devLo x), .int .i64 (devHi x)]) ∧ Below w.heap.size w w' := by
  have Hg := hide (barGood_of hok)
  have hle : (legLens x).length ≤ 6 := by rw [legLens_len]; exact legsLen_le _
  have h1 : 1 ≤ (legLens x).length := by
    have := Hg.out.legs
    cases h : legLens x with
    | nil => exact absurd h this
    | cons _ _ => simp
  obtain ⟨ha0, ha1, ha2, ha3⟩ := allow_range Hg.out.size
  have hbo := fun o => hide ((Below.refl B w).alloc hB o)
  have Hok := hide hok
  have HA := hide hA
  clear hok hA
  go_enter Tryd.func65, Tryd.ntmps65
  go_wp2_with fail
  refine (refLegs_ok x A c _ ((HA.out.carry (hbo _).out (Nat.le_refl _)).carry ((Below.refl B _).alloc (le_alloc hB _) _) (Nat.le_refl _)) (le_alloc (le_alloc hB _) _) Hok.out).mono ?_
  rintro e w1 ⟨L, lc, rfl, hL, hb1⟩
  have B0 := hide (((Blk.new w 32 #[.string x.mark, .int .i64 x.size, .int .i64 x.count, .int .i64 x.code, .slice A x.dims.length c]).alloc _).keep hb1)
  have B1 := hide ((Blk.new1 w _ _ _).keep hb1)
  have HB := hide (below_step (below_new2 w _ _) hb1 (Nat.le_refl _))
  have c1 := B0.out.cell 1
  simp at c1
  have l0 := B0.out.lt
  have l1 := B1.out.lt
  clear hb1 hbo
  go_wp2_with fail
  go_loop [4, 5] (fun s i => ∃ k : Nat, k ≤ (legLens x).length ∧ i = .int .i64 k ∧ ∃ t : Int, 0 ≤ t ∧ t ≤ 262144000 * k ∧ s = .int .i64 t ∧ Hid (t = legSum ((legLens x).take k))) (fun _ i => (legLens x).length - (intOf i).toNat)
  case atStart => exact ⟨0, Nat.zero_le _, rfl, 0, by omega, by omega, rfl, hide rfl⟩
  case round =>
    obtain ⟨k, hk, rfl, t, ht0, ht1, rfl, ht⟩ := hrel
    by_cases hlt : k < (legLens x).length
    · obtain ⟨b, off, y, rfl, hbl, hy, hc⟩ := hL.get (k := k) hlt
      obtain ⟨hy0, hy1⟩ := legLens_mem Hg.out y (mem_of_get hy)
      have Hy := hide hy
      clear hy hbl hL
      go_wp2_with fail
      go_round
      case rel => exact ⟨k + 1, by omega, by go_num, t + 1000 * y, by omega, by omega, rfl, hide (by rw [take_snoc' Hy.out, legSum, List.foldl_append, ← legSum, ← ht.out]; rfl)⟩
      case measure => simp [intOf]; omega
    · obtain rfl : k = (legLens x).length := by omega
      have ht' := hide (show t = legSum (legLens x) by rw [ht.out, List.take_length])
      clear ht hL
      go_wp2_with fail
      refine (refAllowance_ok _ _ Hg.out.size).mono ?_
      rintro e w2 ⟨rfl, hb2⟩
      have p0 := prod_range (b := allowHi x.size) h1 hle ha2 ha3
      have p1 := prod_range (b := allowLo x.size) h1 hle ha0 ha1
      have n0 : bendsN x = ((legLens x).length : Int) - 1 := rfl
      rw [← n0] at p0 p1
      have ht2 : t ≤ 1572864000 := by omega
      have Q0 := IntWalk.i64_in (bendsN x * allowHi x.size) (by omega)
      have Q1 := IntWalk.i64_in (bendsN x * allowLo x.size) (by omega)
      have Q2 := IntWalk.i64_in (t - bendsN x * allowHi x.size) (by omega)
      have Q3 := IntWalk.i64_in (t - bendsN x * allowLo x.size) (by omega)
      obtain ⟨w3, hw3⟩ : ∃ w3, w3 = w2.alloc (.cells #[.int .i64 (allowLo x.size), .int .i64 (allowHi x.size)] 90) := ⟨_, rfl⟩
      have D0 := (B0.out.keep hb2).alloc (.cells #[.int .i64 (allowLo x.size), .int .i64 (allowHi x.size)] 90)
      have D1 := (B1.out.keep hb2).alloc (.cells #[.int .i64 (allowLo x.size), .int .i64 (allowHi x.size)] 90)
      have D2 := Blk.new w2 90 #[.int .i64 (allowLo x.size), .int .i64 (allowHi x.size)]
      have HB3 := (below_step HB.out hb2 (Nat.le_refl _)).alloc (below_step HB.out hb2 (Nat.le_refl _)).size (.cells #[.int .i64 (allowLo x.size), .int .i64 (allowHi x.size)] 90)
      have HA3 := HA.out.carry (HB3.mono hB) (Nat.le_refl _)
      rw [← hw3] at D0 D1 D2 HB3 HA3
      have hB3 := Nat.le_trans hB HB3.size
      have Hn0 := hide n0
      have B1o := B1.out
      have hb2' := hb2
      clear hb2 c1 ht1 B0 B1 HB n0 p0 p1 ha0 ha1 ha2 ha3 h1 hle l0 l1
      go_wp2_with fail
      rw [← hw3]
      have HW3 := hide hw3
      clear hw3
      have e0 := D0.cell 0
      have e1 := D0.cell 1
      have e2 := D0.cell 2
      have e3 := D0.cell 3
      have e4 := D0.cell 4
      have g0 := D2.cell 0
      have g1 := D2.cell 1
      have k0 := D1.cell 0
      have k1 := D1.cell 1
      have f0 := D1.frozen 0
      have f1 := D1.frozen 1
      simp at e0 e1 e2 e3 e4 g0 g1 k0 k1
      have hne : w2.heap.size ≠ w.heap.size + 1 := by have := (B1o.keep hb2').lt; omega
      clear D0 D2
      go_region_held3 (fun W => W.cell? ⟨w.heap.size, 0, none⟩ = some (.string x.mark) ∧ W.cell? ⟨w.heap.size, 1, none⟩ = some (.int .i64 x.size) ∧ W.cell? ⟨w.heap.size, 2, none⟩ = some (.int .i64 x.count) ∧
          W.cell? ⟨w.heap.size, 3, none⟩ = some (.int .i64 x.code) ∧ W.cell? ⟨w.heap.size, 4, none⟩ = some (.slice A x.dims.length c) ∧ W.cell? ⟨w2.heap.size, 0, none⟩ = some (.int .i64 (allowLo x.size)) ∧
          W.cell? ⟨w2.heap.size, 1, none⟩ = some (.int .i64 (allowHi x.size)) ∧ Below w.heap.size w W)
        (first
          | (exact ⟨e0, e1, e2, e3, e4, g0, g1, HB3.drew⟩)
          | (exact hS')
          | (exact ⟨(cell_far2 (by simp)).trans hS'.1, (cell_far2 (by simp)).trans hS'.2.1, (cell_far2 (by simp)).trans hS'.2.2.1, (cell_far2 (by simp)).trans hS'.2.2.2.1, (cell_far2 (by simp)).trans hS'.2.2.2.2.1, (cell_far2 hne).trans hS'.2.2.2.2.2.1, (cell_far2 hne).trans hS'.2.2.2.2.2.2.1, (hS'.2.2.2.2.2.2.2.setCell (by simp) _).setCell (by simp) _⟩)
          | go_keep)
        (first
          | (go_at_call 78; have hS := ‹_ ∧ _ ∧ _ ∧ _ ∧ _ ∧ _ ∧ _ ∧ Below w.heap.size w _›; refine (refBends_ok x A c _ (HA.out.carry (hS.2.2.2.2.2.2.2.mono hB) (Nat.le_refl _)) (Nat.le_trans hB hS.2.2.2.2.2.2.2.size) Hok.out).mono ?_; rintro e w' ⟨rfl, hb'⟩
             have hS' := And.intro (cell_later hb' hS.1) (And.intro (cell_later hb' hS.2.1) (And.intro (cell_later hb' hS.2.2.1) (And.intro (cell_later hb' hS.2.2.2.1) (And.intro (cell_later hb' hS.2.2.2.2.1) (And.intro (cell_later hb' hS.2.2.2.2.2.1) (And.intro (cell_later hb' hS.2.2.2.2.2.2.1) (below_step hS.2.2.2.2.2.2.2 hb' (Nat.le_refl _))))))))
             (first | (have E1 := E0.keep hb'; have k0' := E1.cell 0; have k1' := E1.cell 1; have f0' := E1.frozen 0; have f1' := E1.frozen 1; simp at k0' k1') | (have E0 := D1.drew.keep hb'))))
      have h0 : devLo x = t - bendsN x * allowHi x.size := by rw [ht'.out]; rfl
      have h1 : devHi x = t - bendsN x * allowLo x.size := by rw [ht'.out]; rfl
      have Hlo := hide h0
      have Hhi := hide h1
      clear h0 h1 Q0 Q1 Q2 Q3
      go_wp2_with fail
      refine bodyPost_ret (results_c rfl rfl ((E1.set_ 0 _).set_ 1 _) Tryd.underlying90 rfl (by kernel_rfl)) rfl ?_
      refine ⟨?_, (hS'.2.2.2.2.2.2.2.setCell (by simp) _).setCell (by simp) _⟩
      rw [Hlo.out, Hhi.out]
      rfl

end Go.Proofs.YtnhmdgkhmkeopaaDoor
