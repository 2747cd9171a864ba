/- The cuts of a section: section.Cut. -/
import Derived.Test.YtmcjpdlkkpnhfaaGreatQbj
import Derived.Deep.RegionLaw
namespace Go.Proofs.YtmcjpdlkkpnhfaaGreat
open Go.RowKit

theorem Row.keepBlk {α : Type} {w w' : World} {base size : Nat} {e : TypeId} {enc : α → List Value} {v : Value} {l : List α} (h : Row w base e size enc v l) (hk : ∀ g cs, Blk w g e cs → Blk w' g e cs) : Row w' base e size enc v l := by
  refine ⟨h.1, ?_⟩
  rcases h.2 with h2 | ⟨g, cap, cur, h1, h3, h4, h5⟩
  · exact .inl h2
  · exact .inr ⟨g, cap, cur, h1, h3, hk g cur h4, h5⟩
set_option maxHeartbeats 4000000 in
set_option maxRecDepth 100000 in
theorem sectCut_bad (x : DetD) (s : DetS) (a : Int) (w : World) {B : Nat} (h : DetAt w B x s) (hB : B ≤ w.heap.size) (hf : DetFit x s) (he : secErr x a ≠ 0) :
    Calls Tryz.prog 23 #[detV x s, .int .i64 a] w fun e w' => e = .returned (.tuple #[.slice none 0 0, .slice none 0 0, .int .i64 (secErr x a)]) ∧ Below w.heap.size w w' := by
  have HV := hide (fun (W : World) (hz : Below w.heap.size w W) => pieces_bad x s a W (h.carry (hz.mono hB) (Nat.le_refl _)) (Nat.le_trans hB hz.size) hf he)
  have Hi := hide (show (Tryz.prog.info? 34).map (·.size) = some 19 by kernel_rfl)
  have K0 := hide (Blk.new w 34 (detCells x.mem x.rule s))
  have HW := hide (below_new w (.cells (detCells x.mem x.rule s) 34))
  generalize secErr x a = er at *
  have e1 : (er != 0) = true := by simpa using he
  have e2 : (er == 0) = false := by simpa using he
  clear he h hf
  obtain ⟨mem, bars, runs, laps, dems, rule⟩ := x
  obtain ⟨a1, n1, c1, a2, n2, c2, a3, n3, c3, a4, n4, c4, a5, n5, c5, a6, n6, c6⟩ := s
  obtain ⟨name, boxes, holes, cover, agg, poker⟩ := mem
  obtain ⟨r1, r2, r3, r4, r5, r6, r7, r8, r9⟩ := rule
  simp only [detCells] at K0 HW
  show Calls Tryz.prog 23 #[.agg #[.string name, .slice a1 n1 c1, .slice a2 n2 c2, .int .i64 cover, .int .i64 agg, .int .i64 poker, .slice a3 n3 c3, .slice a4 n4 c4, .slice a5 n5 c5, .slice a6 n6 c6, .int .i64 r1, .int .i64 r2, .int .i64 r3, .int .i64 r4, .int .i64 r5, .int .i64 r6, .int .i64 r7, .int .i64 r8, .int .i64 r9], .int .i64 a] w _
  go_enter Tryz.func23, Tryz.ntmps23
  go_wp2_with (refine wpList_load_row rfl 34 (.tmp 2) rfl w.heap.size rfl 34 _ (0, 0) _ K0.out Tryz.underlying34 rfl Hi.out ?_)
  refine (HV.out _ HW.out).mono ?_
  rintro e w2 ⟨rfl, hb2⟩
  have HW2 := hide (below_step HW.out hb2 (Nat.le_refl _))
  clear hb2 HV K0 HW Hi
  go_wp2_with fail
  go_ret3
  exact ⟨rfl, HW2.out⟩
set_option maxHeartbeats 4000000 in
set_option maxRecDepth 100000 in
theorem sectCut_ok (x : DetD) (s : DetS) (a : Int) (w : World) {B : Nat} (h : DetAt w B x s) (hB : B ≤ w.heap.size) (hf : DetFit x s) (he : secErr x a = 0) :
    Calls Tryz.prog 23 #[detV x s, .int .i64 a] w fun e w' => ∃ A c A' c', e = .returned (.tuple #[.slice A (cutsOf x a).length c, .slice A' (cutsOf x a).length c', .int .i64 0]) ∧ BoxesAt w' w'.heap.size A ((cutsOf x a).map PieceD.cut) ∧ Ints w' w'.heap.size A' ((cutsOf x a).map PieceD.bar) ∧ Below w.heap.size w w' := by
  have HV := hide (fun (W : World) (hz : Below w.heap.size w W) => pieces_ok x s a W (h.carry (hz.mono hB) (Nat.le_refl _)) (Nat.le_trans hB hz.size) hf he)
  obtain ⟨hcl, _⟩ := cuts_fine (detOk_parts (secErr_ok he).1).2.1 a
  have Hi := hide (show (Tryz.prog.info? 34).map (·.size) = some 19 by kernel_rfl)
  have K0 := hide (Blk.new w 34 (detCells x.mem x.rule s))
  have HW := hide (below_new w (.cells (detCells x.mem x.rule s) 34))
  generalize cutsOf x a = C at *
  obtain ⟨n, hn⟩ : ∃ n, n = C.length := ⟨_, rfl⟩
  have Hn := hide hn
  have hnb : n ≤ 12000 := by omega
  rw [← hn] at HV ⊢
  clear he h hf hn hcl
  obtain ⟨mem, bars, runs, laps, dems, rule⟩ := x
  obtain ⟨a1, n1, c1, a2, n2, c2, a3, n3, c3, a4, n4, c4, a5, n5, c5, a6, n6, c6⟩ := s
  obtain ⟨name, boxes, holes, cover, agg, poker⟩ := mem
  obtain ⟨r1, r2, r3, r4, r5, r6, r7, r8, r9⟩ := rule
  simp only [detCells] at K0 HW
  show Calls Tryz.prog 23 #[.agg #[.string name, .slice a1 n1 c1, .slice a2 n2 c2, .int .i64 cover, .int .i64 agg, .int .i64 poker, .slice a3 n3 c3, .slice a4 n4 c4, .slice a5 n5 c5, .slice a6 n6 c6, .int .i64 r1, .int .i64 r2, .int .i64 r3, .int .i64 r4, .int .i64 r5, .int .i64 r6, .int .i64 r7, .int .i64 r8, .int .i64 r9], .int .i64 a] w _
  go_enter Tryz.func23, Tryz.ntmps23
  go_wp2_with (refine wpList_load_row rfl 34 (.tmp 2) rfl w.heap.size rfl 34 _ (0, 0) _ K0.out Tryz.underlying34 rfl Hi.out ?_)
  refine (HV.out _ HW.out).mono ?_
  rintro e w2 ⟨A, c, rfl, hp, hb2⟩
  have hs2 : w.heap.size ≤ w2.heap.size := (below_step HW.out hb2 (Nat.le_refl _)).size
  have HW2 := hide (below_step HW.out hb2 (Nat.le_refl _))
  have Hp := hide hp
  clear hb2 HV K0 HW Hi hp
  go_wp2_with fail
  go_loopw [9, 10, 24] (fun v v' iv wr => ∃ k : Nat, k ≤ n ∧ iv = .int .i64 k ∧ (∃ l : List PieceD, Hid (Row wr w2.heap.size 63 6 encB v (l.map PieceD.cut)) ∧ Hid (Row wr w2.heap.size 3 1 encInt v' (l.map PieceD.bar)) ∧ Hid (l = C.take k)) ∧ Below w2.heap.size w2 wr) (fun _ _ iv _ => n - (intOf iv).toNat)
  case atStart => exact ⟨0, Nat.zero_le _, rfl, ⟨[], hide (Row.nil _ _ _ _ _), hide (Row.nil _ _ _ _ _), hide rfl⟩, Below.refl _ _⟩
  case round =>
    obtain ⟨k, hk, rfl, ⟨l, hrow, hrow', hl⟩, hbr⟩ := hrel
    obtain ⟨A0, c0, rfl⟩ := hrow.out.val
    obtain ⟨A1, c1', rfl⟩ := hrow'.out.val
    have hal : (l.map PieceD.cut).length ≤ 12000 := by
      rw [List.length_map, hl.out, List.length_take]
      omega
    have hal' : (l.map PieceD.bar).length ≤ 12000 := by
      rw [List.length_map, hl.out, List.length_take]
      omega
    by_cases hlt : k < n
    · obtain ⟨b, off, p, rfl, hbl, hx, hc⟩ := PcsAt.get (k := k) (SlOf.carry (Flat.carried _) Hp.out hbr (Nat.le_refl _)) (by rw [← Hn.out]; exact hlt)
      have Hnx := hide (show C.take (k + 1) = l ++ [p] by rw [take_snoc' hx, hl.out])
      obtain ⟨⟨⟨x1, x2, x3⟩, x4, x5, x6⟩, br, sz, cr⟩ := p
      have p0 := hc 0 _ rfl
      have p1 := hc 1 _ rfl
      have p2 := hc 2 _ rfl
      have p3 := hc 3 _ rfl
      have p4 := hc 4 _ rfl
      have p5 := hc 5 _ rfl
      have p6 := hc 6 _ rfl
      have p7 := hc 7 _ rfl
      have p8 := hc 8 _ rfl
      simp only [Nat.add_zero] at p0 p1 p2 p3 p4 p5 p6 p7 p8 Hnx
      have hrs := hbr.size
      obtain ⟨wp, hwp⟩ : ∃ wp, wp = wr.alloc (.cells #[.int .i64 x1, .int .i64 x2, .int .i64 x3, .int .i64 x4, .int .i64 x5, .int .i64 x6, .int .i64 br, .int .i64 sz, .bool cr] 98) := ⟨_, rfl⟩
      have KP := hide (Blk.new wr 98 #[.int .i64 x1, .int .i64 x2, .int .i64 x3, .int .i64 x4, .int .i64 x5, .int .i64 x6, .int .i64 br, .int .i64 sz, .bool cr])
      have HB := hide (hbr.alloc hbr.size (.cells #[.int .i64 x1, .int .i64 x2, .int .i64 x3, .int .i64 x4, .int .i64 x5, .int .i64 x6, .int .i64 br, .int .i64 sz, .bool cr] 98))
      have RA := hide (hrow.out.alloc (.cells #[.int .i64 x1, .int .i64 x2, .int .i64 x3, .int .i64 x4, .int .i64 x5, .int .i64 x6, .int .i64 br, .int .i64 sz, .bool cr] 98))
      have RB := hide (hrow'.out.alloc (.cells #[.int .i64 x1, .int .i64 x2, .int .i64 x3, .int .i64 x4, .int .i64 x5, .int .i64 x6, .int .i64 br, .int .i64 sz, .bool cr] 98))
      have hps : w2.heap.size ≤ (wr.alloc (.cells #[.int .i64 x1, .int .i64 x2, .int .i64 x3, .int .i64 x4, .int .i64 x5, .int .i64 x6, .int .i64 br, .int .i64 sz, .bool cr] 98)).heap.size := le_alloc hrs _
      clear hx hbl hc hbr hrow hrow'
      have Hlc := hide (show (l ++ [(⟨⟨(x1, x2, x3), (x4, x5, x6)⟩, br, sz, cr⟩ : PieceD)]).map PieceD.cut = l.map PieceD.cut ++ [⟨(x1, x2, x3), (x4, x5, x6)⟩] by simp)
      have Hlb := hide (show (l ++ [(⟨⟨(x1, x2, x3), (x4, x5, x6)⟩, br, sz, cr⟩ : PieceD)]).map PieceD.bar = l.map PieceD.bar ++ [br] by simp)
      obtain ⟨lc, hlc⟩ : ∃ lc, lc = l.map PieceD.cut := ⟨_, rfl⟩
      obtain ⟨lb, hlb⟩ : ∃ lb, lb = l.map PieceD.bar := ⟨_, rfl⟩
      rw [← hlc] at hal RA Hlc ⊢
      rw [← hlb] at hal' RB Hlb ⊢
      clear hlc hlb
      go_wp2_with fail
      rw [← hwp] at KP HB RA RB hps ⊢
      clear hwp p0 p1 p2 p3 p4 p5 p6 p7 p8
      have e0 := KP.out.cell 0
      have e1 := KP.out.cell 1
      have e2 := KP.out.cell 2
      have e3 := KP.out.cell 3
      have e4 := KP.out.cell 4
      have e5 := KP.out.cell 5
      have e6 := KP.out.cell 6
      simp at e0 e1 e2 e3 e4 e5 e6
      have lp := KP.out.lt
      generalize wr.heap.size = gP at *
      have KP := hide (KP.out.drew)
      have RA := hide (RA.out.drew)
      have RB := hide (RB.out.drew)
      have hps : w2.heap.size ≤ wp.drew.heap.size := hps
      have HBd := hide (HB.out.drew)
      go_region_law (first
        | (refine step_append1 (by rfl) (.tmp 28) (.tmp 31) 22 (by rfl) w2.heap.size 63 (.agg #[.int .i64 0, .int .i64 0, .int .i64 0, .int .i64 0, .int .i64 0, .int .i64 0]) 6 48 encB Tryz.underlying22 (by kernel_rfl) rfl (by omega) encB_len encB_one _ lc (BoxD.mk (x1, x2, x3) (x4, x5, x6)) (by rfl) ?_ _ (by rfl) ?_ (by omega) (by omega) ?_ ?_; (first | exact RA.out.alloc _ | exact (RA.out.alloc _).alloc _); (first | exact Blk.new _ _ _ | exact Blk.new1 _ _ _ _ | exact (Blk.new _ _ _).alloc _); (first | exact le_alloc hps _ | exact le_alloc (le_alloc hps _) _); intro A5 c5 w5 hrow5 hb5 hkeep5; have KP5 := hide (hkeep5 _ 98 _ (by decide) (by first | exact KP.out.alloc _ | exact (KP.out.alloc _).alloc _)); have d6 := KP5.out.cell 6; simp at d6; have le5 := Nat.le_trans (by first | exact le_alloc hps _ | exact le_alloc (le_alloc hps _) _) hb5.size; have HB5 : Hid (Below w2.heap.size w2 w5) := hide (by first | exact (HBd.out.alloc hps _).trans hb5 | exact ((HBd.out.alloc hps _).alloc (le_alloc hps _) _).trans hb5); have RB5 := hide (Row.keepBlk (by first | exact RB.out.alloc _ | exact (RB.out.alloc _).alloc _) (fun g cs h => hkeep5 g 3 cs (by decide) h)))
        | (refine step_append1 (by rfl) (.tmp 33) (.tmp 36) 55 (by rfl) w2.heap.size 3 (.int .i64 0) 1 8 encInt Tryz.underlying55 (by kernel_rfl) rfl (by omega) encInt_len encInt_one _ lb br (by rfl) ?_ _ (by rfl) ?_ (by omega) (by omega) ?_ ?_; (first | exact RB5.out | exact RB5.out.alloc _); (first | exact Blk.new _ _ _ | exact hkeep5 _ 3 _ (by decide) (Blk.new _ _ _) | exact hkeep5 _ 3 _ (by decide) (Blk.new1 _ _ _ _) | exact hkeep5 _ 3 _ (by decide) ((Blk.new _ _ _).alloc _)); (first | exact le5 | exact le_alloc le5 _); intro A6 c6' w6 hrow6 hb6 hkeep6; have HB6 : Hid (Below w2.heap.size w2 w6) := hide (by first | exact HB5.out.trans hb6 | exact (HB5.out.alloc le5 _).trans hb6); have RA6 : Hid (Row w6 w2.heap.size 63 6 encB (.slice A5 (lc.length + 1) c5) (lc ++ [BoxD.mk (x1, x2, x3) (x4, x5, x6)])) := hide (Row.keepBlk (by first | exact hrow5 | exact Row.alloc hrow5 _) (fun g cs h => hkeep6 g 63 cs (by decide) h)); have RB6 := hide hrow6; clear hb6 hrow6 hkeep6))
      all_goals
        go_wp2_with fail
        go_roundw
        case rel => exact ⟨k + 1, by omega, by go_num, ⟨l ++ [⟨⟨(x1, x2, x3), (x4, x5, x6)⟩, br, sz, cr⟩], hide (by rw [Hlc.out]; simpa using RA6.out), hide (by rw [Hlb.out]; simpa using RB6.out), hide Hnx.out.symm⟩, HB6.out⟩
        case measure => simp [intOf]; omega
    · obtain rfl : k = n := by omega
      have Hfin : l = C := by rw [hl.out, Hn.out, List.take_length]
      subst Hfin
      have HB := hide (below_step HW2.out hbr (Nat.le_refl _))
      have h1 := Row.read hrow.out encB_len (by omega)
      have h2 := Row.read hrow'.out encInt_len (by omega)
      have H1 := hide h1
      have H2 := hide h2
      simp only [List.length_map] at *
      clear hbr hl hrow hrow' h1 h2
      go_wp2_with fail
      go_ret3
      exact ⟨A0, c0, A1, c1', by rw [Hn.out]; rfl, H1.out, H2.out, HB.out⟩
end Go.Proofs.YtmcjpdlkkpnhfaaGreat
