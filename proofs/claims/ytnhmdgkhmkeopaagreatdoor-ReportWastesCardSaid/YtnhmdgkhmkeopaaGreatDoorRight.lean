/- Whether a list of patterns is a right plan. -/
import Derived.Test.YtnhmdgkhmkeopaaGreatDoorCutL
import Derived.Deep.Cut
import Derived.Deep.CutRange
import Derived.Deep.OwnRows
import Derived.Deep.RegionHeld3
import Derived.Lib.QuietBelow
namespace Go.Proofs.YtnhmdgkhmkeopaaGreatDoor
open Go.RowKit

theorem below_drewQ {B : Nat} {a w : World} (h : Below B a w) (n : Nat) : Below B a (w.drewN n) := ⟨h.os, h.tape, h.output, h.size, h.block⟩
theorem infoInt : ((Tryz.prog).info? 3).map (fun i => (i.zero, i.size, i.bytes)) = some (some (.int .i64 0), 1, 8) := by kernel_rfl
theorem madeInts (n : Nat) : madeCells #[.int .i64 0] n = intCells (List.replicate n 0) := by
  apply Array.ext'
  rw [toList_madeCells_one]
  simp
set_option maxHeartbeats 4000000 in
set_option maxRecDepth 100000 in
theorem right_any (AS : Option Addr) (s : List StkD) (n1 c1 : Nat) (A : Option Addr) (l : List PieD) (n2 c2 : Nat) (AP : Option Addr) (p : List PatD) (n3 c3 : Nat) (w : World) {B : Nat} (hs : StksAt w B AS s) (hl : PiesAt w B A l) (hp : PatsAt w B AP p) (hB : B ≤ w.heap.size)
    (hn1 : n1 = s.length) (hn2 : n2 = l.length) (hn3 : n3 = p.length) (hm : n3 ≤ 60000) (hso : stkOk s = true) (hlo : ordOk l = true) :
    Calls Tryz.prog 50 #[.slice AS n1 c1, .slice A n2 c2, .slice AP n3 c3] w fun e w' => e = .returned (.bool (rightOk s l p)) ∧ Below w.heap.size w w' := by
  have HP := hide (cutPlan_any AS n1 c1 AP p n3 c3 w hp hB hn3 hm)
  cases hpo : planOk n1 p
  · have hr := hide (show rightOk s l p = false by rw [rightOk, ← hn1, hpo]; rfl)
    rw [hpo] at HP
    clear hs hl hp hB hn1 hn2 hn3 hm hso hlo hpo
    go_enter Tryz.func50, Tryz.ntmps50
    go_wp2_with fail
    refine HP.out.mono ?_
    rintro e w2 ⟨rfl, hb2⟩
    go_wp2_with fail
    go_ret
    exact ⟨ret_bool hr.out.symm, hb2⟩
  rw [hpo] at HP
  have h10 : n1 ≤ 10 := by rw [hn1]; exact stkOk_len hso
  have h200 : n2 ≤ 200 := by rw [hn2]; exact ordOk_len hlo
  have h1000 : n3 ≤ 1000 := by rw [hn3]; exact planOk_len hpo
  have Hr := hide (show rightOk s l p = rightEnd s l (rightFrom s l (p.drop 0) (List.replicate n1 0) (List.replicate n2 0)) by rw [rightOk, ← hn1, hpo, ← hn2]; rfl)
  have hmk1 := run_make_row' (P := Tryz.prog) 32 3 (.int .i64 0) 8 Tryz.underlying32 infoInt rfl .i64 .i64 n1 (by omega) (by omega)
  have hmk2 := run_make_row' (P := Tryz.prog) 32 3 (.int .i64 0) 8 Tryz.underlying32 infoInt rfl .i64 .i64 n2 (by omega) (by omega)
  rw [madeInts] at hmk1 hmk2
  have Hmem := hide (fun x (hx : x ∈ p) => planOk_mem hpo hx)
  have Hs := hide hs
  have Hl := hide hl
  have Hp := hide hp
  have hn1' := hide hn1
  have hn2' := hide hn2
  have hn3' := hide hn3
  have Hso := hide hso
  have Hlo := hide hlo
  generalize hu0 : List.replicate n1 (0 : Int) = u0 at *
  generalize hm0 : List.replicate n2 (0 : Int) = m0 at *
  have lu0 : u0.length = n1 := by rw [← hu0]; simp
  have lm0 : m0.length = n2 := by rw [← hm0]; simp
  clear hs hl hp hn1 hn2 hn3 hm hso hlo hpo hu0 hm0
  go_enter Tryz.func50, Tryz.ntmps50
  go_wp2_with fail
  refine HP.out.mono ?_
  rintro e w2 ⟨rfl, hb2⟩
  have Hb2 := hide hb2
  have hB2 := hb2.size
  clear HP hb2
  go_wp2_with fail
  go_cut [7, 8] from 23 to 28 (fun a b W => ∃ g7 g8 : Nat, a = .slice (some ⟨g7, 0, none⟩) n2 n2 ∧ b = .slice (some ⟨g8, 0, none⟩) n1 n1 ∧ Blk W g7 3 (intCells m0) ∧ Blk W g8 3 (intCells u0) ∧ Hid (g7 ≠ g8) ∧ w2.heap.size ≤ g7 ∧ w2.heap.size ≤ g8 ∧ Below w2.heap.size w2 W)
  case first =>
    go_region
    all_goals go_wp2_with fail
    all_goals go_meet
    · exact ⟨_, _, rfl, rfl, ((Blk.new w2 _ _).alloc _).drew, (Blk.new1 w2 _ _ _).drew, hide (by omega), Nat.le_refl _, Nat.le_succ _, (below_new2 w2 _ _).drew⟩
    · exact ⟨_, _, rfl, rfl, (Blk.new1 w2 _ _ _).drew, ((Blk.new w2 _ _).alloc _).drew, hide (by omega), Nat.le_succ _, Nat.le_refl _, (below_new2 w2 _ _).drew⟩
  case rest =>
    clear hmk1 hmk2
    obtain ⟨g7, g8, rfl, rfl, b7, b8, hne, hg7, hg8, hbc⟩ := hcut
    have Hb := hide (below_step Hb2.out hbc (Nat.le_refl _))
    have B7 := hide b7
    have B8 := hide b8
    have hs7 := b7.lt
    have hs8 := b8.lt
    have hw7 : w.heap.size ≤ g7 := by omega
    have hw8 : w.heap.size ≤ g8 := by omega
    clear b7 b8 hg7 hg8 hbc Hb2 hB2
    go_wp2_with fail
    go_loopw [31] (fun i wr => ∃ k : Nat, k ≤ n3 ∧ i = .int .i64 k ∧ (∃ u m : List Int, u.length = n1 ∧ m.length = n2 ∧ Blk wr g7 3 (intCells m) ∧ Blk wr g8 3 (intCells u) ∧ Hid (rightOk s l p = rightEnd s l (rightFrom s l (p.drop k) u m))) ∧ Below w.heap.size w wr) (fun i _ => n3 - (intOf i).toNat)
    case atStart => exact ⟨0, Nat.zero_le _, rfl, ⟨u0, m0, lu0, lm0, B7.out, B8.out, Hr⟩, Hb.out⟩
    case round =>
      clear B7 B8 Hb Hr lu0 lm0 hs7 hs8
      obtain ⟨k, hk, rfl, ⟨u, m, lu, lm, b7, b8, hq⟩, hbr⟩ := hrel
      have B7 := hide b7
      have B8 := hide b8
      have hs7 := b7.lt
      have hs8 := b8.lt
      clear b7 b8
      by_cases hlt : k < n3
      · obtain ⟨b, off, x, A', c', hA, hbl, hx, hi, e0, e1, e2⟩ := PatsAt.get (k := k) Hp.out (by rw [← hn3'.out]; exact hlt)
        subst hA
        have hbw0 : b < w.heap.size := by omega
        replace e0 := (hbr.cell (p := ⟨b, off + k * 3, none⟩) hbw0).trans e0
        replace e1 := (hbr.cell (p := ⟨b, off + k * 3 + 1, none⟩) hbw0).trans e1
        replace e2 := (hbr.cell (p := ⟨b, off + k * 3 + 2, none⟩) hbw0).trans e2
        obtain ⟨t0, t1, t2, t3⟩ := Hmem.out x (mem_of_get hx)
        have Hq := hide (hq.out.trans (by rw [rightFrom_at hx, patFits_eq]))
        obtain ⟨st, ps, ti⟩ := x
        simp only at t0 t1 t2 t3 e0 e1 e2 Hq hi
        obtain ⟨j, rfl⟩ := Int.eq_ofNat_of_zero_le t0
        have hj : j < n1 := by omega
        obtain ⟨bs, os, y, hAS, hbs, hy, y0, y1⟩ := StksAt.get (k := j) (Hs.out.carry (Flat.carried _) (hbr.mono hB) (Nat.le_refl _)) (by rw [← hn1'.out]; exact hj)
        subst hAS
        have hyr := stkOk_mem Hso.out (mem_of_get hy)
        have hyl : lenAt s (j : Int) = y.length := by rw [lenAt, show ((j : Int)).toNat = j from rfl, hy]
        rw [hyl] at Hq
        obtain ⟨yl, yc⟩ := y
        simp only at hyr y0 y1 Hq
        have hbw : b < wr.heap.size := by have := hbr.size; omega
        have hbs2 : bs < wr.heap.size := by have := hbr.size; omega
        have Hi := hide hi
        obtain ⟨q, hqn⟩ : ∃ q, q = ps.length := ⟨_, rfl⟩
        rw [← hqn] at e1
        have Hqn := hide hqn
        have Hk := hide hlt
        clear hq hi hx hy hyl y1 hbl hbs hqn hlt
        go_wp2_with fail
        obtain ⟨w1, hw1⟩ : ∃ w1, w1 = wr.alloc (.cells #[.int .i64 j, .slice A' q c', .int .i64 ti] 63) := ⟨_, rfl⟩
        have bP := Blk.new wr 63 #[.int .i64 j, .slice A' q c', .int .i64 ti]
        have hb1 := hbr.alloc hbr.size (.cells #[.int .i64 j, .slice A' q c', .int .i64 ti] 63)
        have b7 := B7.out.alloc (.cells #[.int .i64 j, .slice A' q c', .int .i64 ti] 63)
        have b8 := B8.out.alloc (.cells #[.int .i64 j, .slice A' q c', .int .i64 ti] 63)
        have y2 := (World.cell?_alloc_lt _ (.cells #[.int .i64 j, .slice A' q c', .int .i64 ti] 63) ⟨bs, os + j * 2, none⟩ hbs2).trans y0
        rw [← hw1] at bP hb1 b7 b8 y2 ⊢
        have Hwr : wr.heap.size < w1.heap.size := bP.lt
        have BP := hide bP
        have g0 := bP.cell 0
        have g1 := bP.cell 1
        have g2 := bP.cell 2
        simp at g0 g1 g2
        have B7 := hide b7
        have B8 := hide b8
        have Hb1 := hide hb1
        have HV := fun (W : World) (hz : Below w1.heap.size w1 W) => hide (patValid_eq yl A l n2 c2 A' ps q c' W (Hl.out.carry (Flat.carried _) ((below_step Hb1.out hz (Nat.le_refl _)).mono hB) (Nat.le_refl _)) (Hi.out.carry ((below_step Hb1.out hz (Nat.le_refl _)).mono hB) (Nat.le_refl _)) (Nat.le_trans hB (Nat.le_trans Hb1.out.size hz.size)) hn2'.out Hqn.out Hlo.out hyr)
        clear hw1 e0 e1 e2 y0 bP b7 b8 hb1
        have k0 := cell_regrown g0
        have k1 := cell_regrown g1
        have k2 := cell_regrown y2
        generalize hvb : validB yl l ps = vb at HV Hq
        generalize hve : validE l ps = ve at HV
        refine wp_region_quiet_below (by kernel_rfl) (by kernel_rfl) ?_
        repeat (go_big_quiet_step (first | (go_at_call 83; exact Calls.regrown_of (HV _ (below_regrown _ _ _)).out)))
        refine wpQuiet_nil ?_
        intro w3 hw'
        have hbq := (show Below w1.heap.size w1 w3 by obtain ⟨p, rfl⟩ := hw'; exact below_regrown _ _ _)
        clear hw' k0 k1 k2 g0 g1 g2 y2 HV
        have b7 := B7.out.keep hbq
        have b8 := B8.out.keep hbq
        have bP := BP.out.keep hbq
        have hb3 := below_step Hb1.out hbq (Nat.le_refl _)
        have g0 := bP.cell 0
        have g1 := bP.cell 1
        have g2 := bP.cell 2
        simp at g0 g1 g2
        have BP := hide bP
        have B7 := hide b7
        have B8 := hide b8
        have Hb3 := hide hb3
        have Hwr3 : wr.heap.size < w3.heap.size := bP.lt
        clear b7 b8 bP hb3 hbq Hb1
        cases vb
        · have hres := hide (show rightOk s l p = false by rw [Hq.out, if_neg (by simp)]; rfl)
          by_cases hve0 : ve = 0
          · subst hve0
            go_wp2_with fail
            go_ret
            exact ⟨ret_bool hres.out.symm, Hb3.out⟩
          · have p0 : (ve == 0) = false := by simpa using hve0
            go_wp2_with fail
            go_ret
            exact ⟨ret_bool hres.out.symm, Hb3.out⟩
        · have hve0 : ve = 0 := by
            rw [validB, Bool.and_eq_true, decide_eq_true_eq] at hvb
            rw [← hve, validE, if_pos hvb.1]
          have hql : ps.length = n2 := by
            rw [validB, Bool.and_eq_true, decide_eq_true_eq] at hvb
            have := hn2'.out; omega
          subst hve0
          have Hq2 := hide (show rightOk s l p = rightEnd s l (rightFrom s l (p.drop (k + 1)) (usedTo u ⟨(j : Int), ps, ti⟩) (madeTo m ps ti ps.length)) by rw [Hq.out, if_pos rfl])
          clear Hq hvb hve
          have hj' : j < u.length := by omega
          obtain ⟨v, hv⟩ : ∃ v, u[j]? = some v := ⟨_, List.getElem?_eq_getElem hj'⟩
          have u0 := (B8.out.cell j).trans (intCells_get hv)
          have u1 := B8.out.frozen j
          have hvd : u.getD j 0 = v := by rw [List.getD_eq_getElem?_getD, hv]; rfl
          have Hu := hide (show usedTo u ⟨(j : Int), ps, ti⟩ = u.set j (wrap64 (v + ti)) by rw [usedTo]; simp only [Int.toNat_natCast]; rw [hvd]; rfl)
          clear hv hvd
          go_wp2_with fail
          go_region
          clear u0 u1
          have hltu : g8 < w3.heap.size := B8.out.lt
          obtain ⟨g10, hg10⟩ : ∃ g, g = wr.heap.size := ⟨_, rfl⟩
          rw [← hg10] at BP ⊢
          have hw10 : w.heap.size ≤ g10 := by rw [hg10]; exact hbr.size
          have hne7 : g10 ≠ g7 := by omega
          have hne8 : g10 ≠ g8 := by omega
          clear hg10
          obtain ⟨w4, hw4⟩ : ∃ w4, w4 = (w3.setCell ⟨g8, j, none⟩ (.int .i64 (wrap64 (v + ti)))).drew := ⟨_, rfl⟩
          have b8 := (B8.out.set_ j (.int .i64 (wrap64 (v + ti)))).drew
          rw [intCells_set] at b8
          have b7 := (B7.out.far (p := ⟨g8, j, none⟩) hne.out (.int .i64 (wrap64 (v + ti)))).drew
          have bP := (BP.out.far (p := ⟨g8, j, none⟩) hne8 (.int .i64 (wrap64 (v + ti)))).drew
          have hb4 := (Hb3.out.setCell (p := ⟨g8, j, none⟩) hw8 (.int .i64 (wrap64 (v + ti)))).drew
          rw [← hw4] at b8 b7 bP hb4 ⊢
          have B7 := hide b7
          have B8 := hide (show Blk w4 g8 3 (intCells (usedTo u ⟨(j : Int), ps, ti⟩)) by rw [Hu.out]; exact b8)
          have BP := hide bP
          have Hb4 := hide hb4
          have g1 := bP.cell 1
          simp at g1
          have hlu2 : (usedTo u ⟨(j : Int), ps, ti⟩).length = n1 := by rw [usedTo_length]; exact lu
          generalize usedTo u ⟨(j : Int), ps, ti⟩ = u2 at *
          clear hw4 b7 b8 bP hb4 g0 g2 Hb3 hltu Hu
          go_wp2_with fail
          go_loopw [66] (fun i wi => ∃ i' : Nat, i' ≤ q ∧ i = .int .i64 i' ∧ Blk wi g7 3 (intCells (madeTo m ps ti i')) ∧ Blk wi g8 3 (intCells u2) ∧ Blk wi g10 63 #[.int .i64 j, .slice A' q c', .int .i64 ti] ∧ Below w.heap.size w wi) (fun i _ => q - (intOf i).toNat)
          case atStart => exact ⟨0, Nat.zero_le _, rfl, B7.out, B8.out, BP.out, Hb4.out⟩
          case round =>
            clear B7 B8 BP g1 Hb4
            obtain ⟨i, hi, rfl, b7, b8, bP, hbi⟩ := hrel
            have B7 := hide b7
            have B8 := hide b8
            have BP := hide bP
            have hs7 := b7.lt
            have g2 := bP.cell 2
            simp at g2
            have hlm := madeTo_length m ps ti i
            clear b8 bP
            by_cases hiq : i < q
            · obtain ⟨b2, off2, y, rfl, hb2, hy, d0⟩ := Ints.get (k := i) (Hi.out.carry (hbi.mono hB) (Nat.le_refl B)) (by rw [← Hqn.out]; exact hiq)
              have hb2w : b2 < w.heap.size := by omega
              obtain ⟨v2, hv2⟩ : ∃ v2, (madeTo m ps ti i)[i]? = some v2 := ⟨_, List.getElem?_eq_getElem (by have := Hqn.out; omega)⟩
              have d1 := (b7.cell i).trans (intCells_get hv2)
              have d2 := b7.frozen i
              have hM := hide (show madeTo m ps ti (i + 1) = (madeTo m ps ti i).set i (wrap64 (v2 + wrap64 (y * ti))) by
                rw [madeTo, List.getD_eq_getElem?_getD, hv2, List.getD_eq_getElem?_getD, hy]; rfl)
              have hi2 : i < n2 := by have := Hqn.out; omega
              clear b7 hy hv2 hb2
              go_wp2_with fail
              go_region
              have b7 := (B7.out.set_ i (.int .i64 (wrap64 (v2 + wrap64 (y * ti))))).drew
              rw [intCells_set, ← hM.out] at b7
              have B8 := hide ((B8.out.far (p := ⟨g7, i, none⟩) (fun h => hne.out h.symm) (.int .i64 (wrap64 (v2 + wrap64 (y * ti))))).drew)
              have BP := hide ((BP.out.far (p := ⟨g7, i, none⟩) hne7 (.int .i64 (wrap64 (v2 + wrap64 (y * ti))))).drew)
              have hb4 := hide ((hbi.setCell (p := ⟨g7, i, none⟩) hw7 (.int .i64 (wrap64 (v2 + wrap64 (y * ti))))).drew)
              have B7 := hide b7
              clear b7 d1 d2
              go_wp2_with fail
              go_roundw
              case rel => exact ⟨i + 1, by omega, by go_num, B7.out, B8.out, BP.out, hb4.out⟩
              case measure => simp [intOf]; omega
            · obtain rfl : i = q := by omega
              go_wp2_with fail
              go_roundw
              case rel => exact ⟨k + 1, by have := Hk.out; omega, by go_num, ⟨u2, madeTo m ps ti i, hlu2, by rw [hlm]; exact lm, B7.out, B8.out, by rw [Hqn.out]; exact Hq2⟩, hbi⟩
              case measure => have := Hk.out; simp [intOf]; omega
      · obtain rfl : k = n3 := by omega
        have hq2 := hide (show rightOk s l p = (sameMade l m && inStock s u) by rw [hq.out, List.drop_of_length_le (by have := hn3'.out; omega)]; rfl)
        clear hq hlt
        go_wp2_with fail
        go_loopw [85] (fun i wr => ∃ k : Nat, k ≤ n2 ∧ i = .int .i64 k ∧ Hid (rightOk s l p = (sameMade (l.drop k) (m.drop k) && inStock s u)) ∧ Blk wr g7 3 (intCells m) ∧ Blk wr g8 3 (intCells u) ∧ Below w.heap.size w wr) (fun i _ => n2 - (intOf i).toNat)
        case atStart => exact ⟨0, Nat.zero_le _, rfl, hq2, B7.out, B8.out, hbr⟩
        case round =>
          clear B7 B8 hbr hq2 hs7 hs8
          obtain ⟨j, hj, rfl, hq, b7, b8, hbr⟩ := hrel
          have B7 := hide b7
          have B8 := hide b8
          have hs7 := b7.lt
          have hs8 := b8.lt
          clear b7 b8
          by_cases hjt : j < n2
          · obtain ⟨b, off, x, rfl, hbl, hx, h0, h1⟩ := PiesAt.get (k := j) (Hl.out.carry (Flat.carried _) (hbr.mono hB) (Nat.le_refl _)) (by rw [← hn2'.out]; exact hjt)
            have hbw : b < wr.heap.size := by have := hbr.size; omega
            obtain ⟨v, hv⟩ : ∃ v, m[j]? = some v := ⟨_, List.getElem?_eq_getElem (by omega)⟩
            have e0 : wr.cell? ⟨g7, j, none⟩ = some (.int .i64 v) := (B7.out.cell j).trans (intCells_get hv)
            have Hq := hide (hq.out.trans (by rw [sameMade_at hx hv]))
            obtain ⟨xl, xc⟩ := x
            simp only at h0 h1 Hq
            clear hx hq hbl
            go_wp2_with fail
            obtain ⟨w1, hw1⟩ : ∃ w1, w1 = wr.alloc (.cells #[.int .i64 xl, .int .i64 xc] 129) := ⟨_, rfl⟩
            have bP := Blk.new wr 129 #[.int .i64 xl, .int .i64 xc]
            have Hb1 := hide (hbr.alloc hbr.size (.cells #[.int .i64 xl, .int .i64 xc] 129))
            have b7 := B7.out.alloc (.cells #[.int .i64 xl, .int .i64 xc] 129)
            have B8 := hide (B8.out.alloc (.cells #[.int .i64 xl, .int .i64 xc] 129))
            rw [← hw1] at bP Hb1 b7 B8 ⊢
            have g1 := bP.cell 1
            simp at g1
            have g7 := (b7.cell j).trans (intCells_get hv)
            have B7 := hide b7
            clear hw1 e0 h0 h1 bP b7 hv
            by_cases hvx : v = xc
            · have p0 : (v == xc) = true := by simpa using hvx
              have Hq2 := hide (Hq.out.trans (by rw [p0, Bool.true_and]))
              clear hvx
              go_quiet (fail)
              go_wp2_with fail
              go_roundw
              case rel => exact ⟨j + 1, by omega, by go_num, Hq2, B7.out.drewN _, B8.out.drewN _, below_drewQ Hb1.out _⟩
              case measure => simp [intOf]; omega
            · have p0 : (v == xc) = false := by simpa using hvx
              have Hq2 := hide (Hq.out.trans (by rw [p0, Bool.false_and]))
              clear hvx
              go_quiet (fail)
              go_wp2_with fail
              go_ret
              exact ⟨ret_bool Hq2.out.symm, below_drewQ Hb1.out _⟩
          · obtain rfl : j = n2 := by omega
            have hq3 := hide (show rightOk s l p = inStock (s.drop 0) (u.drop 0) by rw [hq.out, List.drop_of_length_le (by have := hn2'.out; omega)]; rfl)
            clear hq hjt B7
            go_wp2_with fail
            go_loopw [100] (fun i wi => ∃ i' : Nat, i' ≤ n1 ∧ i = .int .i64 i' ∧ Hid (rightOk s l p = inStock (s.drop i') (u.drop i')) ∧ Blk wi g8 3 (intCells u) ∧ Below w.heap.size w wi) (fun i _ => n1 - (intOf i).toNat)
            case atStart => exact ⟨0, Nat.zero_le _, rfl, hq3, B8.out, hbr⟩
            case round =>
              clear B8 hbr hq3 hs7 hs8
              obtain ⟨i, hi, rfl, hq, b8, hbi⟩ := hrel
              have B8 := hide b8
              clear b8
              by_cases hit : i < n1
              · obtain ⟨b, off, x, rfl, hbl, hx, h0, h1⟩ := StksAt.get (k := i) (Hs.out.carry (Flat.carried _) (hbi.mono hB) (Nat.le_refl _)) (by rw [← hn1'.out]; exact hit)
                have hbw : b < wr.heap.size := by have := hbi.size; omega
                obtain ⟨v, hv⟩ : ∃ v, u[i]? = some v := ⟨_, List.getElem?_eq_getElem (by omega)⟩
                have Hq := hide (hq.out.trans (by rw [inStock_at hx hv]))
                obtain ⟨xl, xc⟩ := x
                simp only at h0 h1 Hq
                clear hx hq hbl
                go_wp2_with fail
                obtain ⟨w1, hw1⟩ : ∃ w1, w1 = wr.alloc (.cells #[.int .i64 xl, .int .i64 xc] 65) := ⟨_, rfl⟩
                have bP := Blk.new wr 65 #[.int .i64 xl, .int .i64 xc]
                have Hb1 := hide (hbi.alloc hbi.size (.cells #[.int .i64 xl, .int .i64 xc] 65))
                have b8 := B8.out.alloc (.cells #[.int .i64 xl, .int .i64 xc] 65)
                rw [← hw1] at bP Hb1 b8 ⊢
                have g1 := bP.cell 1
                simp at g1
                have g8' := (b8.cell i).trans (intCells_get hv)
                have B8 := hide b8
                clear hw1 h0 h1 bP b8 hv
                have hways : (decide (0 ≤ xc) = false ∧ Hid (rightOk s l p = inStock (s.drop (i + 1)) (u.drop (i + 1)))) ∨ (decide (0 ≤ xc) = true ∧ decide (xc < v) = true ∧ Hid (rightOk s l p = false)) ∨ (decide (0 ≤ xc) = true ∧ decide (xc < v) = false ∧ Hid (rightOk s l p = inStock (s.drop (i + 1)) (u.drop (i + 1)))) := by
                  cases p0 : decide (0 ≤ xc)
                  · exact .inl ⟨rfl, hide (by rw [Hq.out, p0]; rfl)⟩
                  · cases p1 : decide (xc < v)
                    · exact .inr (.inr ⟨rfl, rfl, hide (by rw [Hq.out, p0, p1]; rfl)⟩)
                    · exact .inr (.inl ⟨rfl, rfl, hide (by rw [Hq.out, p0, p1]; rfl)⟩)
                clear Hq
                rcases hways with ⟨p0, Hq2⟩ | ⟨p0, p1, Hq2⟩ | ⟨p0, p1, Hq2⟩
                · go_quiet (fail)
                  go_wp2_with fail
                  go_roundw
                  case rel => exact ⟨i + 1, by omega, by go_num, Hq2, B8.out.drewN _, below_drewQ Hb1.out _⟩
                  case measure => simp [intOf]; omega
                · go_quiet (fail)
                  go_wp2_with fail
                  go_ret
                  exact ⟨ret_bool Hq2.out.symm, below_drewQ Hb1.out _⟩
                · go_quiet (fail)
                  go_wp2_with fail
                  go_roundw
                  case rel => exact ⟨i + 1, by omega, by go_num, Hq2, B8.out.drewN _, below_drewQ Hb1.out _⟩
                  case measure => simp [intOf]; omega
              · obtain rfl : i = n1 := by omega
                have hres := hide (show rightOk s l p = true by rw [hq.out, List.drop_of_length_le (by have := hn1'.out; omega)]; rfl)
                go_wp2_with fail
                go_ret
                exact ⟨ret_bool hres.out.symm, hbi⟩
end Go.Proofs.YtnhmdgkhmkeopaaGreatDoor
