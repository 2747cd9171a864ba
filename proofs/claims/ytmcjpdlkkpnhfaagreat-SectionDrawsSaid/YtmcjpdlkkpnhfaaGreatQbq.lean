/- Whether a point is in the concrete of a solid: the program's Covers, Contains, Inside, at a point. -/
import Derived.Test.YtmcjpdlkkpnhfaaGreatQbm
import Derived.Test.YtmcjpdlkkpnhfaaGreatQbf
import Derived.LoopN
namespace Go.Proofs.YtmcjpdlkkpnhfaaGreat
open Go.RowKit

theorem pt_axes (p : Pt) : axes (ptBox p) = [(p.1, p.1), (p.2.1, p.2.1), (p.2.2, p.2.2)] := rfl
set_option maxHeartbeats 1000000 in
theorem parts_pt (A : Option Addr) (n c : Nat) (p : Pt) (k : Nat) (q : Int) (h : (axes (ptBox p))[k]? = some (q, q)) (w : World) :
    Calls Tryz.prog 146 #[.slice A n c, bx (ptBox p), .int .i64 k] w fun e w' => ∃ g, e = .returned (.slice (some ⟨g, 0, none⟩) 1 1) ∧ w.heap.size ≤ g ∧ Blk w' g 202 #[.int .i64 q, .int .i64 q] ∧ Below w.heap.size w w' := by
  have HE := hide (fun W => ends_any (ptBox p) k (q, q) h W)
  obtain ⟨x, y, z⟩ := p
  clear h
  have HW := hide (below_new w (.cells #[.int .i64 x, .int .i64 y, .int .i64 z, .int .i64 x, .int .i64 y, .int .i64 z] 63))
  go_enter Tryz.func146, Tryz.ntmps146
  go_wp2_with fail
  refine (HE.out _).mono ?_
  rintro e w2 ⟨rfl, hb⟩
  have HB := hide (below_step HW.out hb (Nat.le_refl _))
  have hz : w.heap.size ≤ w2.heap.size := HB.out.size
  clear hb HE
  go_wp2_with fail
  go_ret
  exact ⟨w2.heap.size, rfl, hz, Blk.new _ _ _, HB.out.alloc hz _⟩
set_option maxHeartbeats 4000000 in
theorem covers_pt (A : Option Addr) (l : List BoxD) (n c : Nat) (p : Pt) (w : World) {B : Nat} (h : BoxesAt w B A l) (hB : B ≤ w.heap.size) (hn : n = l.length) (hm : n ≤ 40) (hok : l.all boxOk = true) (hp : nearBy 1048576 p = true) :
    Calls Tryz.prog 109 #[.slice A n c, bx (ptBox p)] w fun e w' => e = .returned (.tuple #[.bool (someOf (holdsAt (ptBox p)) l), .int .i64 0]) ∧ Below w.heap.size w w' := by
  have HA := hide (fun (W : World) (hz : Below w.heap.size w W) => boxAll_any A l n c W (h.carry (Flat.carried _) (hz.mono hB) (Nat.le_refl _)) (Nat.le_trans hB hz.size) hn (by omega))
  rw [hok] at HA
  have HV := hide (fun W => boxValid_any (ptBox p) W)
  rw [ptBox_ok hp] at HV
  have HP0 := hide (fun W => parts_pt A n c p 0 p.1 (by rw [pt_axes]; rfl) W)
  have HP1 := hide (fun W => parts_pt A n c p 1 p.2.1 (by rw [pt_axes]; rfl) W)
  have HP2 := hide (fun W => parts_pt A n c p 2 p.2.2 (by rw [pt_axes]; rfl) W)
  have HC := hide (fun (W : World) (hz : Below w.heap.size w W) (g : Nat) (hg : Blk W g 63 #[.int .i64 p.1, .int .i64 p.2.1, .int .i64 p.2.2, .int .i64 p.1, .int .i64 p.2.1, .int .i64 p.2.2]) => containsFuncBoxC_any A l n c 147 #[.pointer (some ⟨g, 0, none⟩)] (holdsAt (ptBox p)) W (h.carry (Flat.carried _) (hz.mono hB) (Nat.le_refl _)) (Nat.le_trans hB hz.size) hn (by omega) Tryz.call147 (fun a W2 _ hb2 => holdsAt_any a (ptBox p) g W2 (hg.keep hb2)))
  obtain ⟨t, ht⟩ : ∃ t, t = someOf (holdsAt (ptBox p)) l := ⟨_, rfl⟩
  rw [← ht] at HC ⊢
  obtain ⟨x, y, z⟩ := p
  simp only at HP0 HP1 HP2 HC
  have K0 := hide (Blk.new w 63 #[.int .i64 x, .int .i64 y, .int .i64 z, .int .i64 x, .int .i64 y, .int .i64 z])
  have HW := hide (below_new w (.cells #[.int .i64 x, .int .i64 y, .int .i64 z, .int .i64 x, .int .i64 y, .int .i64 z] 63))
  have dm : decide (40 < (n : Int)) = false := by simp; omega
  clear h hB hn hok hp ht
  go_enter Tryz.func109, Tryz.ntmps109
  go_wp2_with fail
  refine (HA.out _ HW.out).mono ?_
  rintro e w1 ⟨rfl, hb⟩
  have K0 := hide (K0.out.keep hb)
  have HW := hide (below_step HW.out hb (Nat.le_refl _))
  have c0 := K0.out.cell 0
  have c1 := K0.out.cell 1
  have c2 := K0.out.cell 2
  have c3 := K0.out.cell 3
  have c4 := K0.out.cell 4
  have c5 := K0.out.cell 5
  simp at c0 c1 c2 c3 c4 c5
  have lk := K0.out.lt
  clear hb HA
  go_wp2_with fail
  refine (HV.out _).mono ?_
  rintro e w2 ⟨rfl, hb⟩
  clear c0 c1 c2 c3 c4 c5 lk
  have K0 := hide (K0.out.keep hb)
  have HW := hide (below_step HW.out hb (Nat.le_refl _))
  have c0 := K0.out.cell 0
  have c1 := K0.out.cell 1
  have c2 := K0.out.cell 2
  have c3 := K0.out.cell 3
  have c4 := K0.out.cell 4
  have c5 := K0.out.cell 5
  simp at c0 c1 c2 c3 c4 c5
  have lk := K0.out.lt
  clear hb HV
  go_wp2_with fail
  refine (HP0.out _).mono ?_
  rintro e w3 ⟨g0, rfl, hg0, hk0, hb⟩
  clear c0 c1 c2 c3 c4 c5 lk
  have K0 := hide (K0.out.keep hb)
  have HW := hide (below_step HW.out hb (Nat.le_refl _))
  have c0 := K0.out.cell 0
  have c1 := K0.out.cell 1
  have c2 := K0.out.cell 2
  have c3 := K0.out.cell 3
  have c4 := K0.out.cell 4
  have c5 := K0.out.cell 5
  simp at c0 c1 c2 c3 c4 c5
  have lk := K0.out.lt
  have u0 := hk0.cell 0
  have u1 := hk0.cell 1
  simp at u0 u1
  have lu := hk0.lt
  clear hb HP0 hk0
  go_wp2_with fail
  refine wp_loop_rounds 2 ?_
  rw [rounds_succ]
  have K0 := hide (K0.out.alloc (.cells #[.int .i64 x, .int .i64 x] 202))
  have HW := hide (HW.out.alloc HW.out.size (.cells #[.int .i64 x, .int .i64 x] 202))
  have KX := hide (Blk.new w3 202 #[.int .i64 x, .int .i64 x])
  go_wp2_with fail
  refine (HP1.out _).mono ?_
  rintro e w4 ⟨g1, rfl, hg1, hk1, hb⟩
  have KX := hide (KX.out.keep hb)
  clear c0 c1 c2 c3 c4 c5 lk u0 u1 lu
  have K0 := hide (K0.out.keep hb)
  have HW := hide (below_step HW.out hb (Nat.le_refl _))
  have c0 := K0.out.cell 0
  have c1 := K0.out.cell 1
  have c2 := K0.out.cell 2
  have c3 := K0.out.cell 3
  have c4 := K0.out.cell 4
  have c5 := K0.out.cell 5
  simp at c0 c1 c2 c3 c4 c5
  have lk := K0.out.lt
  have u0 := hk1.cell 0
  have u1 := hk1.cell 1
  simp at u0 u1
  have lu := hk1.lt
  clear hb HP1 hk1
  go_wp2_with fail
  refine wp_loop_rounds 2 ?_
  rw [rounds_succ]
  have K0 := hide (K0.out.alloc (.cells #[.int .i64 y, .int .i64 y] 202))
  have HW := hide (HW.out.alloc HW.out.size (.cells #[.int .i64 y, .int .i64 y] 202))
  have KX := hide (KX.out.alloc (.cells #[.int .i64 y, .int .i64 y] 202))
  have KY := hide (Blk.new w4 202 #[.int .i64 y, .int .i64 y])
  go_wp2_with fail
  refine (HP2.out _).mono ?_
  rintro e w5 ⟨g2, rfl, hg2, hk2, hb⟩
  have KX := hide (KX.out.keep hb)
  have KY := hide (KY.out.keep hb)
  clear c0 c1 c2 c3 c4 c5 lk u0 u1 lu
  have K0 := hide (K0.out.keep hb)
  have HW := hide (below_step HW.out hb (Nat.le_refl _))
  have c0 := K0.out.cell 0
  have c1 := K0.out.cell 1
  have c2 := K0.out.cell 2
  have c3 := K0.out.cell 3
  have c4 := K0.out.cell 4
  have c5 := K0.out.cell 5
  simp at c0 c1 c2 c3 c4 c5
  have lk := K0.out.lt
  have u0 := hk2.cell 0
  have u1 := hk2.cell 1
  simp at u0 u1
  have lu := hk2.lt
  clear hb HP2 hk2
  go_wp2_with fail
  refine wp_loop_rounds 2 ?_
  rw [rounds_succ]
  have x0 := KX.out.cell 0
  have x1 := KX.out.cell 1
  have y0 := KY.out.cell 0
  have y1 := KY.out.cell 1
  simp at x0 x1 y0 y1
  have lx := KX.out.lt
  have ly := KY.out.lt
  have HW := hide ((HW.out.alloc HW.out.size (.cells #[.int .i64 z, .int .i64 z] 202)).alloc (le_alloc HW.out.size _) (.cells #[.int .i64 x, .int .i64 y, .int .i64 z, .int .i64 x, .int .i64 y, .int .i64 z] 63))
  have HCx := hide (HC.out _ HW.out (w5.heap.size + 1) (Blk.new1 w5 _ _ _))
  go_wp2_with fail
  refine HCx.out.mono ?_
  rintro e w6 ⟨rfl, hb⟩
  have HW := hide (below_step HW.out hb (Nat.le_refl _))
  clear hb HC HCx c0 c1 c2 c3 c4 c5 lk u0 u1 lu x0 x1 y0 y1 lx ly KX KY K0
  cases t
  · go_wp2_with fail
    go_ret2
    exact ⟨rfl, HW.out⟩
  · go_wp2_with fail
    rw [rounds_succ]
    go_wp2_with fail
    rw [rounds_succ]
    go_wp2_with fail
    rw [rounds_succ]
    go_wp2_with fail
    go_ret2
    exact ⟨rfl, HW.out⟩
set_option maxHeartbeats 4000000 in
theorem containsPt_any (bs hs : List BoxD) (A1 A2 : Option Addr) (n1 n2 c1 c2 : Nat) (p : Pt) (w : World) {B : Nat} (h1 : BoxesAt w B A1 bs) (h2 : BoxesAt w B A2 hs) (hB : B ≤ w.heap.size) (hn1 : n1 = bs.length) (hn2 : n2 = hs.length) (hok : solidOk bs hs = true) (hp : nearBy 1048576 p = true) :
    Calls Tryz.prog 73 #[sol A1 n1 c1 A2 n2 c2, bx (ptBox p)] w fun e w' => e = .returned (.tuple #[.bool (inSolid bs hs p), .int .i64 0]) ∧ Below w.heap.size w w' := by
  obtain ⟨b1, b2, b3⟩ := solid_boxes hok
  have hh : hs.length ≤ 20 := by simp only [solidOk, Bool.and_eq_true, decide_eq_true_eq] at hok; exact hok.1.1.2
  have HS := hide (fun (W : World) (hz : Below w.heap.size w W) => solidValid_any bs hs A1 A2 n1 n2 c1 c2 W (h1.carry (Flat.carried _) (hz.mono hB) (Nat.le_refl _)) (h2.carry (Flat.carried _) (hz.mono hB) (Nat.le_refl _)) (Nat.le_trans hB hz.size) hn1 hn2)
  rw [hok] at HS
  have HV := hide (fun W => boxValid_any (ptBox p) W)
  rw [ptBox_ok hp] at HV
  have HO := hide (fun (W : World) (hz : Below w.heap.size w W) (g : Nat) (hg : Blk W g 63 #[.int .i64 p.1, .int .i64 p.2.1, .int .i64 p.2.2, .int .i64 p.1, .int .i64 p.2.1, .int .i64 p.2.2]) => containsFuncBoxC_any A2 hs n2 c2 107 #[.pointer (some ⟨g, 0, none⟩)] (opensAt (ptBox p)) W (h2.carry (Flat.carried _) (hz.mono hB) (Nat.le_refl _)) (Nat.le_trans hB hz.size) hn2 (by omega) Tryz.call107 (fun a W2 _ hb2 => opensAt_any a (ptBox p) g W2 (hg.keep hb2)))
  have HC := hide (fun (W : World) (hz : Below w.heap.size w W) => covers_pt A1 bs n1 c1 p W (h1.carry (Flat.carried _) (hz.mono hB) (Nat.le_refl _)) (Nat.le_trans hB hz.size) hn1 (by omega) b3 hp)
  have Hr := hide (show inSolid bs hs p = (!someOf (opensAt (ptBox p)) hs && someOf (holdsAt (ptBox p)) bs) from rfl)
  generalize someOf (opensAt (ptBox p)) hs = t1 at *
  generalize someOf (holdsAt (ptBox p)) bs = t2 at *
  generalize inSolid bs hs p = t3 at *
  obtain ⟨x, y, z⟩ := p
  simp only at HO
  have K0 := hide (Blk.new1 w (.cells #[.slice A1 n1 c1, .slice A2 n2 c2] 24) 63 #[.int .i64 x, .int .i64 y, .int .i64 z, .int .i64 x, .int .i64 y, .int .i64 z])
  have KS := hide ((Blk.new w 24 #[.slice A1 n1 c1, .slice A2 n2 c2]).alloc (.cells #[.int .i64 x, .int .i64 y, .int .i64 z, .int .i64 x, .int .i64 y, .int .i64 z] 63))
  have HW := hide (below_new2 w (.cells #[.slice A1 n1 c1, .slice A2 n2 c2] 24) (.cells #[.int .i64 x, .int .i64 y, .int .i64 z, .int .i64 x, .int .i64 y, .int .i64 z] 63))
  clear h1 h2 hB hn1 hn2 hok hp b1 b2 b3 hh
  go_enter Tryz.func73, Tryz.ntmps73
  go_wp2_with fail
  refine (HS.out _ HW.out).mono ?_
  rintro e w1 ⟨rfl, hb⟩
  have KS := hide (KS.out.keep hb)
  have K0 := hide (K0.out.keep hb)
  have HW := hide (below_step HW.out hb (Nat.le_refl _))
  have c0 := K0.out.cell 0
  have c1 := K0.out.cell 1
  have c2 := K0.out.cell 2
  have c3 := K0.out.cell 3
  have c4 := K0.out.cell 4
  have c5 := K0.out.cell 5
  simp at c0 c1 c2 c3 c4 c5
  have lk := K0.out.lt
  clear hb HS
  go_wp2_with fail
  refine (HV.out _).mono ?_
  rintro e w2 ⟨rfl, hb⟩
  have KS := hide (KS.out.keep hb)
  clear c0 c1 c2 c3 c4 c5 lk
  have K0 := hide (K0.out.keep hb)
  have HW := hide (below_step HW.out hb (Nat.le_refl _))
  have c0 := K0.out.cell 0
  have c1 := K0.out.cell 1
  have c2 := K0.out.cell 2
  have c3 := K0.out.cell 3
  have c4 := K0.out.cell 4
  have c5 := K0.out.cell 5
  simp at c0 c1 c2 c3 c4 c5
  have lk := K0.out.lt
  have s0 := KS.out.cell 0
  have s1 := KS.out.cell 1
  simp at s0 s1
  have ls := KS.out.lt
  clear hb HV
  go_wp2_with fail
  refine (HO.out _ HW.out _ K0.out).mono ?_
  rintro e w3 ⟨rfl, hb⟩
  have KS := hide (KS.out.keep hb)
  clear c0 c1 c2 c3 c4 c5 lk s0 s1 ls
  have K0 := hide (K0.out.keep hb)
  have HW := hide (below_step HW.out hb (Nat.le_refl _))
  have c0 := K0.out.cell 0
  have c1 := K0.out.cell 1
  have c2 := K0.out.cell 2
  have c3 := K0.out.cell 3
  have c4 := K0.out.cell 4
  have c5 := K0.out.cell 5
  simp at c0 c1 c2 c3 c4 c5
  have lk := K0.out.lt
  have s0 := KS.out.cell 0
  simp at s0
  have ls := KS.out.lt
  clear hb HO
  cases t1
  · have hfin := hide (show t3 = t2 by rw [Hr.out]; simp)
    go_wp2_with fail
    refine (HC.out _ HW.out).mono ?_
    rintro e w4 ⟨rfl, hb⟩
    have HW := hide (below_step HW.out hb (Nat.le_refl _))
    clear hb HC c0 c1 c2 c3 c4 c5 lk s0 ls
    go_wp2_with fail
    go_ret2
    exact ⟨by rw [hfin.out]; rfl, HW.out⟩
  · have hfin := hide (show t3 = false by rw [Hr.out]; simp)
    go_wp2_with fail
    go_ret2
    exact ⟨by rw [hfin.out]; rfl, HW.out⟩
set_option maxHeartbeats 4000000 in
theorem inside_any (bs hs : List BoxD) (A1 A2 : Option Addr) (n1 n2 c1 c2 : Nat) (p : Pt) (w : World) {B : Nat} (h1 : BoxesAt w B A1 bs) (h2 : BoxesAt w B A2 hs) (hB : B ≤ w.heap.size) (hn1 : n1 = bs.length) (hn2 : n2 = hs.length) (hok : solidOk bs hs = true) :
    Calls Tryz.prog 44 #[sol A1 n1 c1 A2 n2 c2, .agg #[.int .i64 p.1, .int .i64 p.2.1, .int .i64 p.2.2]] w fun e w' => ((e = .returned (.tuple #[.bool (inSolid bs hs p), .int .i64 0])) ∨ (inSolid bs hs p = false ∧ e = .returned (.tuple #[.bool false, .int .i64 2]))) ∧ Below w.heap.size w w' := by
  have HS := hide (fun (W : World) (hz : Below w.heap.size w W) => solidValid_any bs hs A1 A2 n1 n2 c1 c2 W (h1.carry (Flat.carried _) (hz.mono hB) (Nat.le_refl _)) (h2.carry (Flat.carried _) (hz.mono hB) (Nat.le_refl _)) (Nat.le_trans hB hz.size) hn1 hn2)
  rw [hok] at HS
  have HV := hide (fun W => boxValid_any (ptBox p) W)
  have HC := hide (fun (hp : nearBy 1048576 p = true) (W : World) (hz : Below w.heap.size w W) => containsPt_any bs hs A1 A2 n1 n2 c1 c2 p W (h1.carry (Flat.carried _) (hz.mono hB) (Nat.le_refl _)) (h2.carry (Flat.carried _) (hz.mono hB) (Nat.le_refl _)) (Nat.le_trans hB hz.size) hn1 hn2 hok hp)
  have hway : (nearBy 1048576 p = true ∧ boxOk (ptBox p) = true) ∨ (boxOk (ptBox p) = false ∧ inSolid bs hs p = false) := by
    cases hp : nearBy 1048576 p
    · refine .inr ⟨?_, inSolid_far (solid_boxes hok).2.2 hp⟩
      rw [Bool.eq_false_iff]
      intro hb
      have h9 := boxOk_iff.1 hb
      have : nearBy 1048576 p = true := by rw [nearBy_iff]; simp only [ptBox] at h9; omega
      rw [hp] at this
      cases this
    · exact .inl ⟨rfl, ptBox_ok hp⟩
  generalize inSolid bs hs p = t3 at *
  generalize boxOk (ptBox p) = t1 at *
  generalize nearBy 1048576 p = t2 at *
  obtain ⟨x, y, z⟩ := p
  simp only
  have K0 := hide (Blk.new2 w (.cells #[.slice A1 n1 c1, .slice A2 n2 c2] 24) (.cells #[.int .i64 x, .int .i64 y, .int .i64 z] 61) 63 #[.int .i64 x, .int .i64 y, .int .i64 z, .int .i64 x, .int .i64 y, .int .i64 z])
  have KS := hide (((Blk.new w 24 #[.slice A1 n1 c1, .slice A2 n2 c2]).alloc (.cells #[.int .i64 x, .int .i64 y, .int .i64 z] 61)).alloc (.cells #[.int .i64 x, .int .i64 y, .int .i64 z, .int .i64 x, .int .i64 y, .int .i64 z] 63))
  have HW := hide ((below_new2 w (.cells #[.slice A1 n1 c1, .slice A2 n2 c2] 24) (.cells #[.int .i64 x, .int .i64 y, .int .i64 z] 61)).alloc (by simp; omega) (.cells #[.int .i64 x, .int .i64 y, .int .i64 z, .int .i64 x, .int .i64 y, .int .i64 z] 63))
  clear h1 h2 hB hn1 hn2 hok
  rcases hway with ⟨rfl, rfl⟩ | ⟨rfl, rfl⟩
  all_goals
    go_enter Tryz.func44, Tryz.ntmps44
    go_wp2_with fail
    refine (HS.out _ HW.out).mono ?_
    rintro e w1 ⟨rfl, hb⟩
    have KS := hide (KS.out.keep hb)
    have K0 := hide (K0.out.keep hb)
    have HW := hide (below_step HW.out hb (Nat.le_refl _))
    have c0 := K0.out.cell 0
    have c1 := K0.out.cell 1
    have c2 := K0.out.cell 2
    have c3 := K0.out.cell 3
    have c4 := K0.out.cell 4
    have c5 := K0.out.cell 5
    simp at c0 c1 c2 c3 c4 c5
    have lk := K0.out.lt
    clear hb HS
    go_wp2_with fail
    refine (HV.out _).mono ?_
    rintro e w2 ⟨rfl, hb⟩
    have KS := hide (KS.out.keep hb)
    clear c0 c1 c2 c3 c4 c5 lk
    have K0 := hide (K0.out.keep hb)
    have HW := hide (below_step HW.out hb (Nat.le_refl _))
    have c0 := K0.out.cell 0
    have c1 := K0.out.cell 1
    have c2 := K0.out.cell 2
    have c3 := K0.out.cell 3
    have c4 := K0.out.cell 4
    have c5 := K0.out.cell 5
    simp at c0 c1 c2 c3 c4 c5
    have lk := K0.out.lt
    have s0 := KS.out.cell 0
    have s1 := KS.out.cell 1
    simp at s0 s1
    have ls := KS.out.lt
    clear hb HV
    go_wp2_with fail
  · refine (HC.out (by trivial) _ HW.out).mono ?_
    rintro e w3 ⟨rfl, hb⟩
    have HW := hide (below_step HW.out hb (Nat.le_refl _))
    clear hb HC c0 c1 c2 c3 c4 c5 lk s0 s1 ls
    go_wp2_with fail
    go_ret2
    exact ⟨.inl rfl, HW.out⟩
  · go_ret2
    exact ⟨.inr ⟨by trivial, rfl⟩, HW.out⟩
end Go.Proofs.YtmcjpdlkkpnhfaaGreat
