/- The legs that a section cuts: section.pieces. -/
import Derived.Test.YtmcjpdlkkpnhfaaGreatQbf
import Derived.Test.YtmcjpdlkkpnhfaaGreatQas
namespace Go.Proofs.YtmcjpdlkkpnhfaaGreat
open Go.RowKit

set_option maxHeartbeats 4000000 in
set_option maxRecDepth 100000 in
theorem pieces_bad (x : DetD) (s : DetS) (a : Int) (w : World) {B : Nat} (h : DetAt w B x s) (hB : B ≤ w.heap.size) (hf : DetFit x s) (he : secErr x a ≠ 0) :
    Calls Tryz.prog 42 #[detV x s, .int .i64 a] w fun e w' => e = .returned (.tuple #[.slice none 0 0, .int .i64 (secErr x a)]) ∧ Below w.heap.size w w' := by
  have HV := hide (fun (W : World) (hz : Below w.heap.size w W) => lapValid_any x s W (h.carry (hz.mono hB) (Nat.le_refl _)) (Nat.le_trans hB hz.size) hf)
  have hw : (detOk x = false ∧ secErr x a = 1) ∨ (detOk x = true ∧ decide (a < -1048576) = true ∧ secErr x a = 2) ∨ (detOk x = true ∧ decide (a < -1048576) = false ∧ decide (1048576 < a) = true ∧ secErr x a = 2) := by
    unfold secErr at he ⊢
    by_cases h1 : detOk x = false
    · exact .inl ⟨h1, by rw [if_pos h1]⟩
    · rw [if_neg h1] at he ⊢
      by_cases h2 : a < -1048576 ∨ 1048576 < a
      · rw [if_pos h2]
        by_cases h3 : a < -1048576
        · exact .inr (.inl ⟨by simpa using h1, by simpa using h3, rfl⟩)
        · exact .inr (.inr ⟨by simpa using h1, by simpa using h3, by simp; omega, rfl⟩)
      · rw [if_neg h2] at he
        exact absurd rfl he
  have Hi := hide (show (Tryz.prog.info? 34).map (·.size) = some 19 by kernel_rfl)
  have K0 := hide (Blk.new w 34 (detCells x.mem x.rule s))
  have HW := hide (below_new w (.cells (detCells x.mem x.rule s) 34))
  generalize detOk x = td at *
  generalize secErr x a = er at *
  clear he h hf
  obtain ⟨mem, bars, runs, laps, dems, rule⟩ := x
  obtain ⟨a1, n1, c1, a2, n2, c2, a3, n3, c3, a4, n4, c4, a5, n5, c5, a6, n6, c6⟩ := s
  obtain ⟨name, boxes, holes, cover, agg, poker⟩ := mem
  obtain ⟨r1, r2, r3, r4, r5, r6, r7, r8, r9⟩ := rule
  simp only [detCells] at K0 HW
  show Calls Tryz.prog 42 #[.agg #[.string name, .slice a1 n1 c1, .slice a2 n2 c2, .int .i64 cover, .int .i64 agg, .int .i64 poker, .slice a3 n3 c3, .slice a4 n4 c4, .slice a5 n5 c5, .slice a6 n6 c6, .int .i64 r1, .int .i64 r2, .int .i64 r3, .int .i64 r4, .int .i64 r5, .int .i64 r6, .int .i64 r7, .int .i64 r8, .int .i64 r9], .int .i64 a] w _
  rcases hw with ⟨rfl, rfl⟩ | ⟨rfl, q0, rfl⟩ | ⟨rfl, q0, q1, rfl⟩
  all_goals
    go_enter Tryz.func42, Tryz.ntmps42
    go_wp2_with (refine wpList_load_row rfl 34 (.tmp 2) rfl w.heap.size rfl 34 _ (0, 0) _ K0.out Tryz.underlying34 rfl Hi.out ?_)
    refine (HV.out _ HW.out).mono ?_
    rintro e w2 ⟨rfl, hb2⟩
    have HW2 := hide (below_step HW.out hb2 (Nat.le_refl _))
    clear hb2 HV K0 HW Hi
    go_wp2_with fail
    go_ret2
    exact ⟨rfl, HW2.out⟩
set_option maxHeartbeats 8000000 in
set_option maxRecDepth 100000 in
theorem pieces_ok (x : DetD) (s : DetS) (a : Int) (w : World) {B : Nat} (h : DetAt w B x s) (hB : B ≤ w.heap.size) (hf : DetFit x s) (he : secErr x a = 0) :
    Calls Tryz.prog 42 #[detV x s, .int .i64 a] w fun e w' => ∃ A c, e = .returned (.tuple #[.slice A (cutsOf x a).length c, .int .i64 0]) ∧ PcsAt w' w'.heap.size A (cutsOf x a) ∧ Below w.heap.size w w' := by
  obtain ⟨hd, ha1, ha2⟩ := secErr_ok he
  have hok := (detOk_parts hd).2.1
  have HV := hide (fun (W : World) (hz : Below w.heap.size w W) => lapValid_any x s W (h.carry (hz.mono hB) (Nat.le_refl _)) (Nat.le_trans hB hz.size) hf)
  have HC := hide (fun (W : World) (hz : Below w.heap.size w W) => laidCount_ok s.a3 x.bars s.n3 s.c3 s.a4 x.runs s.n4 s.c4 W (h.h3.carry (hz.mono hB) (Nat.le_refl _)) (h.h4.carry (Flat.carried _) (hz.mono hB) (Nat.le_refl _)) (Nat.le_trans hB hz.size) hf.l3 hf.l4 hf.m3 hf.m4 hf.tame hok)
  have HM := hide (fun (W : World) (hz : Below w.heap.size w W) (i : Nat) (l : LaidD) (hl : (laidAll x.bars x.runs)[i]? = some l) => laidMark_ok s.a3 x.bars s.n3 s.c3 s.a4 x.runs s.n4 s.c4 W (h.h3.carry (hz.mono hB) (Nat.le_refl _)) (h.h4.carry (Flat.carried _) (hz.mono hB) (Nat.le_refl _)) (Nat.le_trans hB hz.size) hf.l3 hf.l4 hf.m3 hf.m4 hf.tame hok (i : Int) l.bar.mark (by omega) (by have := lt_of_get hl; have := (laidOk_len hok).2; omega) (laidAll_mark x.runs i l (laidOk_mem hok).2.2 hl))
  have HL := hide (fun (W : World) (hz : Below w.heap.size w W) (i : Nat) (l : LaidD) (hl : (laidAll x.bars x.runs)[i]? = some l) => laidLegs_row s.a3 s.a4 x.bars x.runs s.n3 s.c3 s.n4 s.c4 i l W (h.h3.carry (hz.mono hB) (Nat.le_refl _)) (h.h4.carry (Flat.carried _) (hz.mono hB) (Nat.le_refl _)) (Nat.le_trans hB hz.size) hf.l3 hf.l4 hf.m3 hf.m4 hf.tame hok hl)
  have H3 := hide (fun (W : World) (hz : Below w.heap.size w W) => h.h3.carry (hz.mono hB) (Nat.le_refl B))
  obtain ⟨N, hN⟩ : ∃ N, N = (laidAll x.bars x.runs).length := ⟨_, rfl⟩
  have hcn : countRuns x.runs = (N : Int) := by rw [hN]; exact (laidOk_len hok).1.symm
  rw [hcn] at HC
  have HN := hide hN
  have hN2 : N ≤ 2000 := by rw [hN]; exact (laidOk_len hok).2
  have Hl7 := hide (fun (i : Nat) (l : LaidD) (hl : (laidAll x.bars x.runs)[i]? = some l) => (laid_near x.runs i l (laidOk_mem hok).2.2 hl).2)
  have Hcu := hide (show cutsOf x a = piecesTo a (laidAll x.bars x.runs) from rfl)
  have hsch : schedOk x.bars = true := laidOk_sched hok
  generalize cutsOf x a = CU at *
  have Hsz := hide (fun (i : Nat) (l : LaidD) (hl : (laidAll x.bars x.runs)[i]? = some l) => sizeTo_at x.bars (sched_one hsch) l.bar (laid_bar hok hl))
  have Hmk := hide (fun (i : Nat) (l : LaidD) (hl : (laidAll x.bars x.runs)[i]? = some l) => (hf.tame l.bar (laid_bar hok hl)).1)
  have Htm := hide (fun (y : BarD) (hy : y ∈ x.bars) => (⟨(hf.tame y hy).1, isSize_int (bar_size hok hy)⟩ : y.mark.size ≤ maxLen ∧ InInt y.size))
  have Hnb := hide hf.l3
  have hnb := hf.m3
  rw [hd] at HV
  have Hi := hide (show (Tryz.prog.info? 34).map (·.size) = some 19 by kernel_rfl)
  have K00 := hide (Blk.new w 34 (detCells x.mem x.rule s))
  have HW0 := hide (below_new w (.cells (detCells x.mem x.rule s) 34))
  have hmm := @run_makeMap Tryz.prog
  have q0 : decide (a < -1048576) = false := by simp; omega
  have q1 : decide (1048576 < a) = false := by simp; omega
  obtain ⟨mem, bars, runs, laps, dems, rule⟩ := x
  obtain ⟨a1, n1, c1, a2, n2, c2, a3, n3, c3, a4, n4, c4, a5, n5, c5, a6, n6, c6⟩ := s
  obtain ⟨name, boxes, holes, cover, agg, poker⟩ := mem
  obtain ⟨r1, r2, r3, r4, r5, r6, r7, r8, r9⟩ := rule
  simp only at HC HM HL HN Hl7 Hcu Hsz Hmk H3 Htm Hnb hnb
  simp only [detCells] at K00 HW0
  clear h hf hok hN hcn hd he hsch
  show Calls Tryz.prog 42 #[.agg #[.string name, .slice a1 n1 c1, .slice a2 n2 c2, .int .i64 cover, .int .i64 agg, .int .i64 poker, .slice a3 n3 c3, .slice a4 n4 c4, .slice a5 n5 c5, .slice a6 n6 c6, .int .i64 r1, .int .i64 r2, .int .i64 r3, .int .i64 r4, .int .i64 r5, .int .i64 r6, .int .i64 r7, .int .i64 r8, .int .i64 r9], .int .i64 a] w _
  go_enter Tryz.func42, Tryz.ntmps42
  go_wp2_with (refine wpList_load_row rfl 34 (.tmp 2) rfl w.heap.size rfl 34 _ (0, 0) _ K00.out Tryz.underlying34 rfl Hi.out ?_)
  refine (HV.out _ HW0.out).mono ?_
  rintro e w1 ⟨rfl, hb1⟩
  have K1 := hide (K00.out.keep hb1)
  have HW1 := hide (below_step HW0.out hb1 (Nat.le_refl _))
  have e6 := (K1.out.alloc (.map #[] 0)).cell 6
  simp at e6
  have hMp := hide (SMap.new w1)
  have lk := K1.out.lt
  clear hb1 HV Hi K00 HW0
  go_wp2_with fail
  go_loopw [34] (fun iv wr => ∃ k : Nat, k ≤ n3 ∧ iv = .int .i64 k ∧ Hid (SMap wr w1.heap.size k (sizeTo (bars.take k))) ∧ Below w1.heap.size w1 wr) (fun iv _ => n3 - (intOf iv).toNat)
  case atStart => exact ⟨0, Nat.zero_le _, rfl, hMp, below_new _ _⟩
  case round =>
    rename World => wo
    obtain ⟨k, hk, rfl, hmp, hbr⟩ := hrel
    have hbs := hbr.size
    by_cases hlt : k < n3
    · obtain ⟨b, off, y, A', c', rfl, hbl, hx, hi, h0, h1, h2, h3, h4⟩ := BarsAt.get (k := k) (H3.out _ (below_step HW1.out hbr (Nat.le_refl _))) (by rw [← Hnb.out]; exact hlt)
      obtain ⟨hy1, hy2⟩ := Htm.out y (mem_of_get hx)
      have Hn := hide (show sizeTo (bars.take (k + 1)) = putS (sizeTo (bars.take k)) y.mark y.size by rw [take_snoc' hx, sizeTo_snoc])
      have Hmp := hide (hmp.out.alloc (.cells #[.string y.mark, .int .i64 y.size, .int .i64 y.count, .int .i64 y.code, .slice A' y.dims.length c'] 57))
      have HBa := hide (hbr.alloc hbr.size (.cells #[.string y.mark, .int .i64 y.size, .int .i64 y.count, .int .i64 y.code, .slice A' y.dims.length c'] 57))
      have Hhs := hide hy1
      have Hhy := hide hy2
      obtain ⟨mark, size, count, code, dims⟩ := y
      simp only at Hn Hmp HBa Hhs Hhy h0 h1 h2 h3 h4
      generalize dims.length = dn at *
      clear hx hi hbl hmp hbr hy1 hy2
      go_wp2_with (refine wpList_store_smap rfl (.tmp 38) (.tmp 40) (.tmp 42) rfl w1.heap.size k (sizeTo (bars.take k)) rfl Hmp.out (by omega) mark size rfl rfl Hhs.out Hhy.out ?_; intro w5 hm5 hg5)
      have HB5 := hide (below_grown HBa.out hg5 HBa.out.size (Nat.le_refl _))
      have Hm5 := hide (show SMap w5 w1.heap.size (k + 1) (sizeTo (bars.take (k + 1))) by rw [Hn.out]; exact hm5)
      clear hm5 hg5
      go_wp2_with fail
      go_roundw
      case rel => exact ⟨k + 1, by omega, by go_num, Hm5, HB5.out⟩
      case measure => simp [intOf]; omega
    · obtain rfl : k = n3 := by omega
      have hall := hide (show sizeTo (bars.take k) = sizeTo bars by rw [Hnb.out, List.take_length])
      have Hmp := hide (show SMap wo w1.heap.size k (sizeTo bars) by rw [← hall.out]; exact hmp.out)
      have K2 := hide (K1.out.below hbr K1.out.lt)
      have HWo := hide (below_step HW1.out hbr (Nat.le_refl _))
      have e6 := K2.out.cell 6
      have e7 := K2.out.cell 7
      simp at e6 e7
      have lk := K2.out.lt
      clear hmp hbr hall HW1 K1
      go_wp2_with fail
      refine (HC.out _ HWo.out).mono ?_
      rintro e w2 ⟨rfl, hb2⟩
      have Hmp := hide (Hmp.out.keep hb2)
      have hMw : w1.heap.size < w2.heap.size := Hmp.out.lt
      have K3 := hide (K2.out.keep hb2)
      have HW2 := hide (below_step HWo.out hb2 (Nat.le_refl _))
      clear hb2 HC lk e6 e7 HWo hMp
      go_wp2_with fail
      go_loopw [11, 56] (fun v iv wr => ∃ q : Nat, q ≤ N ∧ iv = .int .i64 q ∧ (∃ acc : List PieceD, Row wr w2.heap.size 98 9 encPc v acc ∧ Hid (acc = piecesTo a ((laidAll bars runs).take q))) ∧ Below w2.heap.size w2 wr) (fun _ iv _ => N - (intOf iv).toNat)
      case atStart => exact ⟨0, Nat.zero_le _, rfl, ⟨[], Row.nil _ _ _ _ _, hide rfl⟩, Below.refl _ _⟩
      case round =>
        rename World => wo2
        obtain ⟨q, hq, rfl, ⟨acc, hrow, hacc⟩, hbr⟩ := hrel
        obtain ⟨A0, c0, rfl⟩ := hrow.val
        by_cases hlt : q < N
        · obtain ⟨ld, hld⟩ : ∃ ld, (laidAll bars runs)[q]? = some ld := ⟨_, List.getElem?_eq_getElem (by rw [← HN.out]; exact hlt)⟩
          have hal : acc.length ≤ 6 * q := by
            rw [hacc.out]
            refine Nat.le_trans (piecesTo_len _ (fun y hy => ?_)) (by rw [List.length_take]; omega)
            obtain ⟨j, hj, rfl⟩ := List.getElem_of_mem hy
            rw [List.length_take] at hj
            exact (Hl7.out j _ (by rw [List.getElem_take]; exact List.getElem?_eq_getElem (by omega))).2
          have Hn := hide (show piecesTo a ((laidAll bars runs).take (q + 1)) = acc ++ legPieces a (q : Nat) ld.bar.size (legsOfPts ld.pts) by rw [take_snoc' hld, piecesTo_snoc, hacc.out, List.length_take, Nat.min_eq_left (by rw [← HN.out]; omega)])
          have hl7 := (Hl7.out q ld hld).2
          have HMk := hide (fun (W : World) (hz : Below w.heap.size w W) => HM.out W hz q ld hld)
          have HLk := hide (fun (W : World) (hz : Below w.heap.size w W) => HL.out W hz q ld hld)
          have Hsq := hide (Hsz.out q ld hld)
          have Hmq := hide (Hmk.out q ld hld)
          obtain ⟨mark, hmark⟩ : ∃ m, m = ld.bar.mark := ⟨_, rfl⟩
          obtain ⟨sz, hsz⟩ : ∃ m, m = ld.bar.size := ⟨_, rfl⟩
          obtain ⟨legs, hlegs⟩ : ∃ l, l = legsOfPts ld.pts := ⟨_, rfl⟩
          have hll : legs.length ≤ 6 := by rw [hlegs, legsOfPts_len]; omega
          rw [← hmark] at HMk Hsq Hmq
          rw [← hsz] at Hsq Hn
          rw [← hlegs] at HLk Hn
          have hWo := hide (below_step HW2.out hbr (Nat.le_refl _))
          have kk := K3.out.below hbr K3.out.lt
          have KK := hide kk
          have Hms := hide (Hmp.out.keep hbr)
          have e6 := kk.cell 6
          have e7 := kk.cell 7
          simp at e6 e7
          have lk := kk.lt
          have Hrow := hide hrow
          have HBo := hide hbr
          have Hal := hide hal
          clear hld hmark hsz hlegs kk hrow hbr hal hl7
          go_wp2_with fail
          refine (HLk.out _ hWo.out).mono ?_
          rintro e w3 ⟨A6, c6', rfl, hlg, hb3⟩
          have KK := hide (KK.out.keep hb3)
          have Hms := hide (Hms.out.keep hb3)
          have HB3 := hide (below_step HBo.out hb3 (Nat.le_refl _))
          have hW3 := hide (below_step hWo.out hb3 (Nat.le_refl _))
          have Hrow := hide (Hrow.out.keep hb3)
          have Hlg := hide hlg
          have e6 := KK.out.cell 6
          have e7 := KK.out.cell 7
          simp at e6 e7
          have lk := KK.out.lt
          clear hb3 hlg HLk
          go_wp2_with fail
          refine (HMk.out _ hW3.out).mono ?_
          rintro e w4 ⟨rfl, hb4⟩
          have Hms := hide (Hms.out.keep hb4)
          have HB4 := hide (below_step HB3.out hb4 (Nat.le_refl _))
          have Hrow := hide (Hrow.out.keep hb4)
          have hlg4 := Hlg.out.keep hb4
          have Hlg4 := hide hlg4
          generalize hln : legs.length = ln at *
          have Hln := hide hln
          clear hb4 hln Hlg HMk KK e6 e7 hlg4 lk
          go_wp2_with fail
          go_loopw [11, 85] (fun v iv wi => ∃ j : Nat, j ≤ ln ∧ iv = .int .i64 j ∧ (∃ acc2 : List PieceD, Row wi w2.heap.size 98 9 encPc v acc2 ∧ Hid (acc2 = acc ++ legPieces a (q : Nat) sz (legs.take j))) ∧ (0 < ln → ∃ g cs, A6 = some ⟨g, 0, none⟩ ∧ Blk wi g 63 cs ∧ Hid (∀ (i : Nat) (u : Value), (legs.flatMap encB)[i]? = some u → cs[i]? = some u)) ∧ Hid (SMap wi w1.heap.size k (sizeTo bars)) ∧ Below w2.heap.size w2 wi) (fun _ iv _ => ln - (intOf iv).toNat)
          case atStart =>
            refine ⟨0, Nat.zero_le _, rfl, ⟨acc, Hrow.out, hide (by simp [legPieces])⟩, fun h0 => ?_, Hms, HB4.out⟩
            obtain ⟨g, cs, hA, _, hb, hc⟩ := row_blk Hlg4.out (by rw [Hln.out]; exact h0)
            exact ⟨g, cs, hA, hb, hide hc⟩
          case round =>
            clear Hms
            obtain ⟨j, hj, rfl, ⟨acc2, hrow2, hacc2⟩, hblk, Hms, hbi⟩ := hrel
            obtain ⟨A2, c2', rfl⟩ := hrow2.val
            have hal2 : acc2.length ≤ 1000000 := by
              have := Hal.out
              have h9 := legPieces_len a (q : Nat) sz (legs.take j)
              rw [List.length_take] at h9
              rw [hacc2.out, List.length_append]
              omega
            have Hrow2 := hide hrow2
            by_cases hql : j < ln
            · obtain ⟨g, cs, rfl, kb, hcs⟩ := hblk (by omega)
              obtain ⟨lb, hlb⟩ : ∃ lb, legs[j]? = some lb := ⟨_, List.getElem?_eq_getElem (by rw [Hln.out]; exact hql)⟩
              obtain ⟨_, _, lb', hA9, _, hlb', b0, b1, b2, b3, b4, b5⟩ := BoxesAt.get (k := j) (blk_sl (B := g + 1) encB_len kb hcs.out (by omega)) (by rw [Hln.out]; exact hql)
              injection hA9 with hA9
              injection hA9 with hA7 hA8
              subst hA7
              subst hA8
              rw [hlb] at hlb'
              injection hlb' with hlb'
              subst hlb'
              have Hn2 := hide (show legPieces a (q : Nat) sz (legs.take (j + 1)) = legPieces a (q : Nat) sz (legs.take j) ++ (if overX a lb then [pieceOf a (q : Nat) sz lb] else []) by rw [take_snoc' hlb, legPieces_snoc])
              obtain ⟨⟨x1, x2, x3⟩, x4, x5, x6⟩ := lb
              simp only [Nat.zero_add] at b0 b1 b2 b3 b4 b5
              have lg := kb.lt
              have Hkb := hide kb
              have Hbi := hide hbi
              have hbs := hbi.size
              clear hrow2 hlb kb hbi hblk
              by_cases ho : overX a ⟨(x1, x2, x3), (x4, x5, x6)⟩ = true
              · rw [if_pos ho] at Hn2
                simp only [overX, Bool.and_eq_true, decide_eq_true_eq] at ho
                have d0 : decide (x1 ≤ a) = true := by simp; omega
                have d1 : decide (a ≤ x4) = true := by simp; omega
                have lkf : (Instr.lookup 134 (.map (some w1.heap.size)) (.string mark) false).run Tryz.prog (wr.alloc (.cells #[.int .i64 x1, .int .i64 x2, .int .i64 x3, .int .i64 x4, .int .i64 x5, .int .i64 x6] 63)) = .ok (.int .i64 sz) (wr.alloc (.cells #[.int .i64 x1, .int .i64 x2, .int .i64 x3, .int .i64 x4, .int .i64 x5, .int .i64 x6] 63)) := by
                  rw [(Hms.out.alloc _).look Hmq.out, Hsq.out]
                have Hrow3 := hide (Hrow2.out.alloc (.cells #[.int .i64 x1, .int .i64 x2, .int .i64 x3, .int .i64 x4, .int .i64 x5, .int .i64 x6] 63))
                have Hms3 := hide (Hms.out.alloc (.cells #[.int .i64 x1, .int .i64 x2, .int .i64 x3, .int .i64 x4, .int .i64 x5, .int .i64 x6] 63))
                have Hkb3 := hide (Hkb.out.alloc (.cells #[.int .i64 x1, .int .i64 x2, .int .i64 x3, .int .i64 x4, .int .i64 x5, .int .i64 x6] 63))
                have Hbi3 := hide (Hbi.out.alloc hbs (.cells #[.int .i64 x1, .int .i64 x2, .int .i64 x3, .int .i64 x4, .int .i64 x5, .int .i64 x6] 63))
                obtain ⟨t, ht⟩ : ∃ t, t = decide (a < x4) := ⟨_, rfl⟩
                have d2 : decide (a < x4) = t := ht.symm
                have Hpc := hide (show pieceOf a (q : Nat) sz ⟨(x1, x2, x3), (x4, x5, x6)⟩ = ⟨⟨(a, x2, x3), (a, x5, x6)⟩, (q : Nat), sz, t⟩ by rw [ht]; rfl)
                clear ho ht
                go_wp2_with (at_builtin; refine wpList_append1 rfl (.tmp 120) (.tmp 122) 88 rfl w2.heap.size 98 (.agg #[.int .i64 0, .int .i64 0, .int .i64 0, .int .i64 0, .int .i64 0, .int .i64 0, .int .i64 0, .int .i64 0, .bool false]) 9 72 encPc Tryz.underlying88 (by kernel_rfl) rfl (by omega) encPc_len encPc_one _ acc2 ⟨⟨(a, x2, x3), (a, x5, x6)⟩, (q : Nat), sz, t⟩ rfl ((Hrow3.out.alloc _).alloc _) _ rfl (Blk.new2 wr _ _ _ _) hal2 (by omega) (le_alloc (le_alloc (le_alloc hbs _) _) _) ?_; intro A9 c9 w9 hrow9 hb9 hkeep9)
                go_roundw
                case rel =>
                  have hms9 : SMap w9 w1.heap.size k (sizeTo bars) := by
                    have h1 := (Hms3.out.alloc (.cells #[.int .i64 a, .int .i64 x2, .int .i64 x3, .int .i64 a, .int .i64 x5, .int .i64 x6, .int .i64 (q : Nat), .int .i64 sz, .bool t] 98)).alloc (.cells #[.int .i64 a, .int .i64 x2, .int .i64 x3, .int .i64 a, .int .i64 x5, .int .i64 x6, .int .i64 (q : Nat), .int .i64 sz, .bool t] 98)
                    exact h1.below hb9 hMw (le_alloc (le_alloc (le_alloc hbs _) _) _)
                  exact ⟨j + 1, by omega, by go_num, ⟨acc2 ++ [⟨⟨(a, x2, x3), (a, x5, x6)⟩, (q : Nat), sz, t⟩], by simpa using hrow9, hide (by rw [hacc2.out, Hn2.out, Hpc.out, List.append_assoc])⟩, fun _ => ⟨g, cs, rfl, hkeep9 _ _ _ (by decide) ((Hkb3.out.alloc _).alloc _), hcs⟩, hide hms9, ((Hbi3.out.alloc (le_alloc hbs _) _).alloc (le_alloc (le_alloc hbs _) _) _).trans hb9⟩
                case measure => simp [intOf]; omega
              · rw [if_neg ho] at Hn2
                have ho2 : decide (x1 ≤ a) = false ∨ (decide (x1 ≤ a) = true ∧ decide (a ≤ x4) = false) := by
                  simp only [overX, Bool.and_eq_true, decide_eq_true_eq] at ho
                  simp only [decide_eq_true_eq, decide_eq_false_iff_not]
                  omega
                clear ho
                rcases ho2 with d0 | ⟨d0, d1⟩
                all_goals
                  go_wp2_with fail
                  go_roundw
                  case rel => exact ⟨j + 1, by omega, by go_num, ⟨acc2, Hrow2.out.alloc _, hide (by rw [hacc2.out, Hn2.out, List.append_nil])⟩, fun _ => ⟨g, cs, rfl, Hkb.out.alloc _, hcs⟩, hide (Hms.out.alloc _), Hbi.out.alloc hbs _⟩
                  case measure => simp [intOf]; omega
            · obtain rfl : j = ln := by omega
              have hfin := hide (show acc2 = piecesTo a ((laidAll bars runs).take (q + 1)) by rw [hacc2.out, Hn.out, ← Hln.out, List.take_length])
              have Hbi := hide hbi
              clear hrow2 hbi hblk
              go_wp2_with fail
              go_roundw
              case rel => exact ⟨q + 1, by omega, by go_num, ⟨acc2, Hrow2.out, hfin⟩, Hbi.out⟩
              case measure => simp [intOf]; omega
        · obtain rfl : q = N := by omega
          have hf : acc = CU := by rw [hacc.out, HN.out, List.take_length]; exact Hcu.out.symm
          have hlen := hide (show CU.length = acc.length by rw [hf])
          have Hr := hide (show PcsAt wo2 wo2.heap.size A0 CU by rw [← hf]; exact Row.read hrow encPc_len (by omega))
          have Hb := hide (below_step HW2.out hbr (Nat.le_refl _))
          clear hf hacc hrow hbr
          generalize acc.length = m at *
          go_wp2_with fail
          go_ret2
          exact ⟨A0, c0, by rw [hlen.out]; rfl, Hr.out, Hb.out⟩
end Go.Proofs.YtmcjpdlkkpnhfaaGreat
