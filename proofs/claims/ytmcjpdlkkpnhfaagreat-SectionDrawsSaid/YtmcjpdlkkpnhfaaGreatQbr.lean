/- The reference of layer 47: the cuts of a section. -/
import Derived.Test.YtmcjpdlkkpnhfaaGreatQbf
import Derived.Test.YtmcjpdlkkpnhfaaGreatQbj
import Derived.Test.YtmcjpdlkkpnhfaaGreatQaz
namespace Go.Proofs.YtmcjpdlkkpnhfaaGreat
open Go.RowKit

set_option maxHeartbeats 8000000 in
set_option maxRecDepth 100000 in
theorem refParts_ok (x : DetD) (s : DetS) (a : Int) (w : World) {B : Nat} (h : DetAt w B x s) (hB : B ≤ w.heap.size) (hf : DetFit x s) (hok : laidOk x.bars x.runs = true) :
    Calls Tryz.prog 24 #[detV x s, .int .i64 a] w fun e w' => ∃ A c, e = .returned (.slice A (cutsOf x a).length c) ∧ PartsAt w' w'.heap.size A (cutsOf x a) ∧ Below w.heap.size w w' := by
  obtain ⟨hbars, hlen, hruns⟩ := laidOk_mem hok
  have l4 := hf.l4
  have HCo := hide (fun (W : World) (hz : Below w.heap.size w W) => count16_any s.a4 x.runs s.n4 s.c4 W (h.h4.carry (Flat.carried _) (hz.mono hB) (Nat.le_refl _)) (Nat.le_trans hB hz.size) hf.l4 (by omega) (fun r hr => runOk_count (hruns r hr)))
  have HLe := hide (fun (i : Nat) (ld : LaidD) (hi : (laidAll x.bars x.runs)[i]? = some ld) (W : World) (hz : Below w.heap.size w W) => refLegs_row s.a3 s.a4 x.bars x.runs s.n3 s.c3 s.n4 s.c4 i ld W (h.h3.carry (hz.mono hB) (Nat.le_refl _)) (h.h4.carry (Flat.carried _) (hz.mono hB) (Nat.le_refl _)) (Nat.le_trans hB hz.size) hf.l3 hf.l4 hf.m3 hok hi)
  have Hl7 := hide (fun (i : Nat) (l : LaidD) (hl : (laidAll x.bars x.runs)[i]? = some l) => (laid_near x.runs i l (laidOk_mem hok).2.2 hl).2)
  obtain ⟨hN, hN2⟩ := laidOk_len hok
  rw [← hN] at HCo
  have Hcu := hide (show cutsOf x a = piecesTo a (laidAll x.bars x.runs) from rfl)
  have HW := hide (below_new w (.cells (detCells x.mem x.rule s) 34))
  have K0 := hide (Blk.new w 34 (detCells x.mem x.rule s))
  generalize laidAll x.bars x.runs = LA at *
  generalize cutsOf x a = CU at *
  obtain ⟨mem, bars, runs, laps, dems, rule⟩ := x
  obtain ⟨a1, n1, c1, a2, n2, c2, a3, n3, c3, a4, n4, c4, a5, n5, c5, a6, n6, c6⟩ := s
  obtain ⟨name, boxes, holes, cover, agg, poker⟩ := mem
  obtain ⟨r1, r2, r3, r4, r5, r6, r7, r8, r9⟩ := rule
  simp only [detCells] at K0 HW
  simp only at HCo HLe
  clear h hf hB hok hbars hlen hruns l4 hN
  obtain ⟨N, hNN⟩ : ∃ N, N = LA.length := ⟨_, rfl⟩
  rw [← hNN] at HCo hN2
  have HN := hide hNN
  obtain ⟨w1, hw1⟩ : ∃ w1, w1 = w.alloc (.cells #[.string name, .slice a1 n1 c1, .slice a2 n2 c2, .int .i64 cover, .int .i64 agg, .int .i64 poker, .slice a3 n3 c3, .slice a4 n4 c4, .slice a5 n5 c5, .slice a6 n6 c6, .int .i64 r1, .int .i64 r2, .int .i64 r3, .int .i64 r4, .int .i64 r5, .int .i64 r6, .int .i64 r7, .int .i64 r8, .int .i64 r9] 34) := ⟨_, rfl⟩
  clear hNN
  show Calls Tryz.prog 24 #[.agg #[.string name, .slice a1 n1 c1, .slice a2 n2 c2, .int .i64 cover, .int .i64 agg, .int .i64 poker, .slice a3 n3 c3, .slice a4 n4 c4, .slice a5 n5 c5, .slice a6 n6 c6, .int .i64 r1, .int .i64 r2, .int .i64 r3, .int .i64 r4, .int .i64 r5, .int .i64 r6, .int .i64 r7, .int .i64 r8, .int .i64 r9], .int .i64 a] w _
  go_enter Tryz.func24, Tryz.ntmps24
  go_wp2_with fail
  rw [← hw1] at K0 HW ⊢
  clear hw1
  go_loopw [5, 6] (fun v iv wr => ∃ q : Nat, q ≤ N ∧ iv = .int .i64 q ∧ (∃ acc : List PieceD, Hid (Row wr w1.heap.size 74 8 encPt8 v acc) ∧ Hid (acc = piecesTo a (LA.take q))) ∧ Hid (Below w1.heap.size w1 wr)) (fun _ iv _ => N - (intOf iv).toNat)
  case atStart => exact ⟨0, Nat.zero_le _, rfl, ⟨[], hide (Row.nil _ _ _ _ _), hide rfl⟩, hide (Below.refl _ _)⟩
  case round =>
    rename World => wo
    obtain ⟨q, hq, rfl, ⟨acc, hrow, hacc⟩, hbr⟩ := hrel
    obtain ⟨A0, c0, rfl⟩ := hrow.out.val
    have HWo := hide (below_step HW.out hbr.out (Nat.le_refl _))
    have KK := hide (K0.out.below hbr.out K0.out.lt)
    have e6 := KK.out.cell 6
    have e7 := KK.out.cell 7
    simp at e6 e7
    have lk := KK.out.lt
    have HCq := hide (HCo.out _ HWo.out)
    by_cases hlt : q < N
    · have dq : decide ((q : Int) < (N : Int)) = true := by simp; omega
      obtain ⟨ld, hld⟩ : ∃ ld, LA[q]? = some ld := ⟨_, List.getElem?_eq_getElem (by rw [← HN.out]; exact hlt)⟩
      have hal : acc.length ≤ 6 * q := by
        rw [hacc.out]
        refine Nat.le_trans (piecesTo_len _ (fun y hy => ?_)) (by rw [List.length_take]; omega)
        obtain ⟨j, hj, rfl⟩ := List.getElem_of_mem hy
        rw [List.length_take] at hj
        exact (Hl7.out j _ (by rw [List.getElem_take]; exact List.getElem?_eq_getElem (by omega))).2
      have Hn := hide (show piecesTo a (LA.take (q + 1)) = acc ++ legPieces a (q : Nat) ld.bar.size (legsOfPts ld.pts) by rw [take_snoc' hld, piecesTo_snoc, hacc.out, List.length_take, Nat.min_eq_left (by rw [← HN.out]; omega)])
      have hl7 := (Hl7.out q ld hld).2
      have HLk := hide (fun (W : World) (hz : Below w.heap.size w W) => HLe.out q ld hld W hz)
      obtain ⟨sz, hsz⟩ : ∃ m, m = ld.bar.size := ⟨_, rfl⟩
      obtain ⟨legs, hlegs⟩ : ∃ l, l = legsOfPts ld.pts := ⟨_, rfl⟩
      have hll : legs.length ≤ 6 := by rw [hlegs, legsOfPts_len]; omega
      rw [← hsz] at Hn
      rw [← hlegs] at HLk Hn
      have Hal := hide hal
      clear hld hsz hlegs hal hl7
      go_wp2_with fail
      refine HCq.out.mono ?_
      rintro e w2 ⟨rfl, hb2⟩
      have KK := hide (KK.out.keep hb2)
      have HB2 := hide (below_step hbr.out hb2 (Nat.le_refl _))
      have hW2 := hide (below_step HWo.out hb2 (Nat.le_refl _))
      have Hrow := hide (hrow.out.keep hb2)
      have e6 := KK.out.cell 6
      have e7 := KK.out.cell 7
      simp at e6 e7
      have lk := KK.out.lt
      clear hb2 HCq hrow
      go_wp2_with fail
      refine (HLk.out _ hW2.out).mono ?_
      rintro e w3 ⟨A6, c6', b6, rfl, hlg, hb3⟩
      have HB3 := hide (below_step HB2.out hb3 (Nat.le_refl _))
      have Hrow := hide (Hrow.out.keep hb3)
      have Hlg := hide hlg
      generalize hln : legs.length = ln at *
      have Hln := hide hln
      clear hb3 hln hlg HLk KK e6 e7 lk
      go_wp2_with fail
      go_loopw [5, 8] (fun v iv wi => ∃ j : Nat, j ≤ ln ∧ iv = .int .i64 j ∧ (∃ acc2 : List PieceD, Hid (Row wi w1.heap.size 74 8 encPt8 v acc2) ∧ Hid (acc2 = acc ++ legPieces a (q : Nat) sz (legs.take j))) ∧ (0 < ln → ∃ g cs, A6 = some ⟨g, 0, none⟩ ∧ Blk wi g 63 cs ∧ Hid (∀ (i : Nat) (u : Value), (legs.flatMap encB)[i]? = some u → cs[i]? = some u)) ∧ Hid (Below w1.heap.size w1 wi)) (fun _ iv _ => ln - (intOf iv).toNat)
      case atStart =>
        refine ⟨0, Nat.zero_le _, rfl, ⟨acc, Hrow, hide (by simp [legPieces])⟩, fun h0 => ?_, HB3⟩
        obtain ⟨g, cs, hA, _, hb, hc⟩ := row_blk Hlg.out (by rw [Hln.out]; exact h0)
        exact ⟨g, cs, hA, hb, hide hc⟩
      case round =>
        obtain ⟨j, hj, rfl, ⟨acc2, hrow2, hacc2⟩, hblk, hbi⟩ := hrel
        obtain ⟨A2, c2', rfl⟩ := hrow2.out.val
        have hal2 : acc2.length ≤ 1000000 := by
          have := Hal.out
          have h9 := legPieces_len a (q : Nat) sz (legs.take j)
          rw [List.length_take] at h9
          rw [hacc2.out, List.length_append]
          omega
        by_cases hql : j < ln
        · have dj : decide ((j : Int) < (ln : Int)) = true := by simp; omega
          obtain ⟨g, cs, rfl, kb, hcs⟩ := hblk (by omega)
          obtain ⟨lb, hlb⟩ : ∃ lb, legs[j]? = some lb := ⟨_, List.getElem?_eq_getElem (by rw [Hln.out]; exact hql)⟩
          obtain ⟨_, _, lb', hA9, _, hlb', b0, b1, b2, b3, b4, b5⟩ := BoxesAt.get (k := j) (blk_sl (B := g + 1) encB_len kb hcs.out (by omega)) (by rw [Hln.out]; exact hql)
          injection hA9 with hA9
          injection hA9 with hA7 hA8
          subst hA7
          subst hA8
          rw [hlb] at hlb'
          injection hlb' with hlb'
          subst hlb'
          have Hn2 := hide (show legPieces a (q : Nat) sz (legs.take (j + 1)) = legPieces a (q : Nat) sz (legs.take j) ++ (if overX a lb then [pieceOf a (q : Nat) sz lb] else []) by rw [take_snoc' hlb, legPieces_snoc])
          obtain ⟨⟨x1, x2, x3⟩, x4, x5, x6⟩ := lb
          simp only [Nat.zero_add] at b0 b1 b2 b3 b4 b5
          have lg := kb.lt
          have Hkb := hide kb
          have Hrow2 := hide hrow2.out
          have Hbi := hide hbi.out
          have hbs := hbi.out.size
          clear hrow2 hlb kb hblk hbi
          by_cases ho : overX a ⟨(x1, x2, x3), (x4, x5, x6)⟩ = true
          · rw [if_pos ho] at Hn2
            simp only [overX, Bool.and_eq_true, decide_eq_true_eq] at ho
            have d0 : decide (a < x1) = false := by simp; omega
            have d1 : decide (x4 < a) = false := by simp; omega
            have Hpc : Hid (∀ t : Bool, (decide (a < x4) = t) → pieceOf a (q : Nat) sz ⟨(x1, x2, x3), (x4, x5, x6)⟩ = ⟨⟨(a, x2, x3), (a, x5, x6)⟩, (q : Nat), sz, t⟩) := hide (fun t ht => by rw [← ht]; rfl)
            have hcr : (decide (x1 < x4) = true ∧ decide (a < x4) = true) ∨ (decide (x1 < x4) = true ∧ decide (a < x4) = false) ∨ (decide (x1 < x4) = false ∧ decide (a < x4) = false) := by
              simp only [decide_eq_true_eq, decide_eq_false_iff_not]
              omega
            clear ho
            rcases hcr with ⟨d2, d3⟩ | ⟨d2, d3⟩ | ⟨d2, d3⟩
            · have Hpp := hide (Hpc.out _ d3)
              go_wp2_with (at_builtin; refine wpList_append1 rfl (.tmp 66) (.tmp 71) 68 rfl w1.heap.size 74 (.agg #[.int .i64 0, .int .i64 0, .int .i64 0, .int .i64 0, .int .i64 0, .int .i64 0, .int .i64 0, .bool false]) 8 64 encPt8 Tryz.underlying68 (by kernel_rfl) rfl (by omega) encPt8_len encPt8_one _ acc2 ⟨⟨(a, x2, x3), (a, x5, x6)⟩, (q : Nat), sz, true⟩ rfl ((Hrow2.out.alloc _).alloc _) _ rfl (Blk.new1 wr _ _ _) hal2 (by omega) (le_alloc (le_alloc hbs _) _) ?_; intro A9 c9 w9 hrow9 hb9 hkeep9)
              go_roundw
              case rel => exact ⟨j + 1, by omega, by go_num, ⟨acc2 ++ [⟨⟨(a, x2, x3), (a, x5, x6)⟩, (q : Nat), sz, true⟩], hide (by simpa using hrow9), hide (by rw [hacc2.out, Hn2.out, Hpp.out, List.append_assoc])⟩, fun _ => ⟨g, cs, rfl, hkeep9 _ _ _ (by decide) ((Hkb.out.alloc _).alloc _), hcs⟩, hide (((Hbi.out.alloc hbs _).alloc (le_alloc hbs _) _).trans hb9)⟩
              case measure => simp [intOf]; omega
            · have Hpp := hide (Hpc.out _ d3)
              go_wp2_with (at_builtin; refine wpList_append1 rfl (.tmp 66) (.tmp 71) 68 rfl w1.heap.size 74 (.agg #[.int .i64 0, .int .i64 0, .int .i64 0, .int .i64 0, .int .i64 0, .int .i64 0, .int .i64 0, .bool false]) 8 64 encPt8 Tryz.underlying68 (by kernel_rfl) rfl (by omega) encPt8_len encPt8_one _ acc2 ⟨⟨(a, x2, x3), (a, x5, x6)⟩, (q : Nat), sz, false⟩ rfl ((Hrow2.out.alloc _).alloc _) _ rfl (Blk.new1 wr _ _ _) hal2 (by omega) (le_alloc (le_alloc hbs _) _) ?_; intro A9 c9 w9 hrow9 hb9 hkeep9)
              go_roundw
              case rel => exact ⟨j + 1, by omega, by go_num, ⟨acc2 ++ [⟨⟨(a, x2, x3), (a, x5, x6)⟩, (q : Nat), sz, false⟩], hide (by simpa using hrow9), hide (by rw [hacc2.out, Hn2.out, Hpp.out, List.append_assoc])⟩, fun _ => ⟨g, cs, rfl, hkeep9 _ _ _ (by decide) ((Hkb.out.alloc _).alloc _), hcs⟩, hide (((Hbi.out.alloc hbs _).alloc (le_alloc hbs _) _).trans hb9)⟩
              case measure => simp [intOf]; omega
            · have Hpp := hide (Hpc.out _ d3)
              go_wp2_with (at_builtin; refine wpList_append1 rfl (.tmp 66) (.tmp 71) 68 rfl w1.heap.size 74 (.agg #[.int .i64 0, .int .i64 0, .int .i64 0, .int .i64 0, .int .i64 0, .int .i64 0, .int .i64 0, .bool false]) 8 64 encPt8 Tryz.underlying68 (by kernel_rfl) rfl (by omega) encPt8_len encPt8_one _ acc2 ⟨⟨(a, x2, x3), (a, x5, x6)⟩, (q : Nat), sz, false⟩ rfl ((Hrow2.out.alloc _).alloc _) _ rfl (Blk.new1 wr _ _ _) hal2 (by omega) (le_alloc (le_alloc hbs _) _) ?_; intro A9 c9 w9 hrow9 hb9 hkeep9)
              go_roundw
              case rel => exact ⟨j + 1, by omega, by go_num, ⟨acc2 ++ [⟨⟨(a, x2, x3), (a, x5, x6)⟩, (q : Nat), sz, false⟩], hide (by simpa using hrow9), hide (by rw [hacc2.out, Hn2.out, Hpp.out, List.append_assoc])⟩, fun _ => ⟨g, cs, rfl, hkeep9 _ _ _ (by decide) ((Hkb.out.alloc _).alloc _), hcs⟩, hide (((Hbi.out.alloc hbs _).alloc (le_alloc hbs _) _).trans hb9)⟩
              case measure => simp [intOf]; omega
          · rw [if_neg ho] at Hn2
            have ho2 : decide (a < x1) = true ∨ (decide (a < x1) = false ∧ decide (x4 < a) = true) := by
              simp only [overX, Bool.and_eq_true, decide_eq_true_eq] at ho
              simp only [decide_eq_true_eq, decide_eq_false_iff_not]
              omega
            clear ho
            rcases ho2 with d0 | ⟨d0, d1⟩
            all_goals
              go_wp2_with fail
              go_roundw
              case rel => exact ⟨j + 1, by omega, by go_num, ⟨acc2, hide (Hrow2.out.alloc _), hide (by rw [hacc2.out, Hn2.out, List.append_nil])⟩, fun _ => ⟨g, cs, rfl, Hkb.out.alloc _, hcs⟩, hide (Hbi.out.alloc hbs _)⟩
              case measure => simp [intOf]; omega
        · obtain rfl : j = ln := by omega
          have dj : decide ((j : Int) < (j : Int)) = false := by simp
          have hfin := hide (show acc2 = piecesTo a (LA.take (q + 1)) by rw [hacc2.out, Hn.out, ← Hln.out, List.take_length])
          clear hblk
          go_wp2_with fail
          go_roundw
          case rel => exact ⟨q + 1, by omega, by go_num, ⟨acc2, hrow2, hfin⟩, hbi⟩
          case measure => simp [intOf]; omega
    · obtain rfl : q = N := by omega
      have dq : decide ((q : Int) < (q : Int)) = false := by simp
      have hfin : acc = CU := by rw [hacc.out, HN.out, List.take_length]; exact Hcu.out.symm
      subst hfin
      generalize hm : acc.length = m at *
      have Hm := hide hm
      go_wp2_with fail
      refine HCq.out.mono ?_
      rintro e w2 ⟨rfl, hb2⟩
      have Hr := hide (Row.read (hrow.out.keep hb2) encPt8_len (by omega))
      have HB := hide (below_step HWo.out hb2 (Nat.le_refl _))
      clear hb2 HCq e6 e7 lk KK hm
      go_wp2_with fail
      go_ret
      exact ⟨A0, c0, by rw [Hm.out]; rfl, Hr.out, HB.out⟩
end Go.Proofs.YtmcjpdlkkpnhfaaGreat
