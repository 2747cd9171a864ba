/- The drawing of a section: section.Draw. -/
import Derived.Test.YtmcjpdlkkpnhfaaGreatQbj
import Derived.Test.YtmcjpdlkkpnhfaaGreatQaj
import Derived.Test.YtmcjpdlkkpnhfaaGreatQck
import Derived.Test.YtmcjpdlkkpnhfaaGreatQbq
import Derived.Deep.OwnRows
namespace Go.Proofs.YtmcjpdlkkpnhfaaGreat
open Go.RowKit

theorem infoBytes : ((Tryz.prog).info? 92).map (fun i => (i.zero, i.size, i.bytes)) = some (some (.slice none 0 0), 1, 24) := by kernel_rfl
structure DrawF (x : DetD) (a sc : Int) (R C : Nat) : Prop where
  det : detOk x = true
  sec : secErr x a = 0
  siz : sizeErr x sc = 0
  rows : rowsS x sc = (R : Int)
  cols : colsOf x sc = (C : Int)
  r1 : 1 ≤ R
  r2 : R ≤ 200
  c1 : 1 ≤ C
  c2 : C ≤ 200
theorem draw_facts {x : DetD} {a sc : Int} (h : drawErr x a sc = 0) : ∃ R C : Nat, DrawF x a sc R C := by
  unfold drawErr at h
  by_cases h1 : secErr x a = 0
  · rw [if_neg (by omega)] at h
    by_cases h2 : sizeErr x sc = 0
    · rw [if_neg (by omega)] at h
      by_cases h3 : 200 < colsOf x sc ∨ 200 < rowsS x sc
      · rw [if_pos h3] at h; cases h
      · obtain ⟨hd, hs1, hs2⟩ := sizeErr_ok h2
        have hh := boxOk_iff.1 (detOk_hull hd)
        have e1 := Int.ediv_nonneg (a := (hullOf x.mem.boxes).hi.2.1 - (hullOf x.mem.boxes).lo.2.1) (b := sc) (by omega) (by omega)
        have e2 := Int.ediv_nonneg (a := (hullOf x.mem.boxes).hi.2.2 - (hullOf x.mem.boxes).lo.2.2) (b := sc) (by omega) (by omega)
        have e3 : colsOf x sc = ((hullOf x.mem.boxes).hi.2.1 - (hullOf x.mem.boxes).lo.2.1) / sc + 1 := rfl
        have e4 : rowsS x sc = ((hullOf x.mem.boxes).hi.2.2 - (hullOf x.mem.boxes).lo.2.2) / sc + 1 := rfl
        exact ⟨(rowsS x sc).toNat, (colsOf x sc).toNat, hd, h1, h2, by omega, by omega, by omega, by omega, by omega, by omega⟩
    · rw [if_pos h2] at h
      exact absurd h h2
  · rw [if_pos h1] at h
    exact absurd h h1
theorem legs_ok : ∀ l : List Pt, (∀ p ∈ l, nearBy 1048576 p = true) → ∀ b ∈ legsOfPts l, boxOk b = true := by
  intro l
  induction l with
  | nil => intro _ b hb; simp [legsOfPts] at hb
  | cons p l ih =>
    intro h b hb
    cases l with
    | nil => simp [legsOfPts] at hb
    | cons q l =>
      simp only [legsOfPts, List.mem_cons] at hb
      rcases hb with rfl | hb
      · exact leg_ok (h p (by simp)) (h q (by simp))
      · exact ih (fun r hr => h r (List.mem_cons_of_mem _ hr)) b hb
theorem cuts_near {x : DetD} (hok : laidOk x.bars x.runs = true) (a : Int) : ∀ p ∈ cutsOf x a, (-1048576 ≤ p.cut.lo.2.1 ∧ p.cut.lo.2.1 ≤ 1048576 ∧ -1048576 ≤ p.cut.hi.2.1 ∧ p.cut.hi.2.1 ≤ 1048576) ∧ (-1048576 ≤ p.cut.lo.2.2 ∧ p.cut.lo.2.2 ≤ 1048576 ∧ -1048576 ≤ p.cut.hi.2.2 ∧ p.cut.hi.2.2 ≤ 1048576) := by
  intro p hp
  simp only [cutsOf, piecesTo, List.mem_flatMap] at hp
  obtain ⟨⟨l, i⟩, hl, hp⟩ := hp
  simp only [legPieces, List.mem_map, List.mem_filter] at hp
  obtain ⟨b, ⟨hb, _⟩, rfl⟩ := hp
  have h1 := List.mk_mem_zipIdx_iff_getElem?.1 hl
  have h2 := boxOk_iff.1 (legs_ok l.pts (laid_near x.runs i l (laidOk_mem hok).2.2 h1).1 b hb)
  simp only [pieceOf, cutOf]
  omega
def rowTo (S : Nat → Nat → UInt8) (k c k' c' : Nat) : UInt8 := if k' = k then (if c' < c then S k' c' else 46) else S k' c'
theorem rowTo_put {S : Nat → Nat → UInt8} {k c : Nat} {b : UInt8} (h : S k c = b) (k' c' : Nat) : setG k c b (rowTo S k c) k' c' = rowTo S k (c + 1) k' c' := by
  unfold setG rowTo
  by_cases h1 : k' = k
  · by_cases h2 : c' = c
    · rw [if_pos ⟨h1, h2⟩, if_pos h1, if_pos (by omega), h1, h2, h]
    · rw [if_neg (fun h9 => h2 h9.2), if_pos h1, if_pos h1]
      by_cases h3 : c' < c
      · rw [if_pos h3, if_pos (by omega)]
      · rw [if_neg h3, if_neg (by omega)]
  · rw [if_neg (fun h9 => h1 h9.1), if_neg h1, if_neg h1]
theorem rowTo_dot {S : Nat → Nat → UInt8} {k c : Nat} (h : S k c = 46) (k' c' : Nat) : rowTo S k c k' c' = rowTo S k (c + 1) k' c' := by
  unfold rowTo
  by_cases h1 : k' = k
  · rw [if_pos h1, if_pos h1]
    by_cases h2 : c' = c
    · rw [if_neg (by omega), if_pos (by omega), h1, h2, h]
    · by_cases h3 : c' < c
      · rw [if_pos h3, if_pos (by omega)]
      · rw [if_neg h3, if_neg (by omega)]
  · rw [if_neg h1, if_neg h1]
def stageG (y z sc : Int) (ins : Nat → Nat → Bool) (l : List PieceD) (q : Nat) : Nat → Nat → UInt8 := signTo y z sc ins (if q = 0 then [] else l) (if q ≤ 1 then [] else l)
theorem mul_range {c sc : Int} (h0 : 0 ≤ c) (h1 : c ≤ 200) (h2 : 1 ≤ sc) (h3 : sc ≤ 1048576) : 0 ≤ c * sc ∧ c * sc ≤ 209715200 := by
  have a := Int.mul_nonneg h0 (show 0 ≤ sc by omega)
  have b := Int.mul_le_mul h1 h3 (by omega) (by omega)
  omega
set_option maxHeartbeats 16000000 in
set_option maxRecDepth 100000 in
theorem sectDraw_ok (x : DetD) (s : DetS) (a sc : Int) (w : World) {B : Nat} (h : DetAt w B x s) (hB : B ≤ w.heap.size) (hf : DetFit x s) (he : drawErr x a sc = 0) :
    Calls Tryz.prog 11 #[detV x s, .int .i64 a, .int .i64 sc] w fun e w' => e = .returned (.tuple #[.string ⟨(sectText x a sc).toArray⟩, .int .i64 0]) ∧ Below w.heap.size w w' := by
  obtain ⟨R, C, F⟩ := draw_facts he
  have hso := (detOk_parts F.det).2.2
  have hrc := F.rows
  have hcc := F.cols
  obtain ⟨hr1, hr2, hc1, hc2⟩ : 1 ≤ R ∧ R ≤ 200 ∧ 1 ≤ C ∧ C ≤ 200 := ⟨F.r1, F.r2, F.c1, F.c2⟩
  obtain ⟨_, hs1, hs2⟩ := sizeErr_ok F.siz
  obtain ⟨_, ha1, ha2⟩ := secErr_ok F.sec
  have HP := hide (fun (W : World) (hz : Below w.heap.size w W) => pieces_ok x s a W (h.carry (hz.mono hB) (Nat.le_refl _)) (Nat.le_trans hB hz.size) hf F.sec)
  have hS := fun (W : World) (hz : Below w.heap.size w W) => sectSize_ok x s sc W (h.carry (hz.mono hB) (Nat.le_refl _)) (Nat.le_trans hB hz.size) hf F.siz
  rw [hrc, hcc] at hS
  have HS := hide hS
  have HH := hide (fun (W : World) (hz : Below w.heap.size w W) => solidHull_ok x.mem.boxes x.mem.holes s.a1 s.a2 s.n1 s.n2 s.c1 s.c2 W (h.h1.carry (Flat.carried _) (hz.mono hB) (Nat.le_refl _)) (h.h2.carry (Flat.carried _) (hz.mono hB) (Nat.le_refl _)) (Nat.le_trans hB hz.size) hf.l1 hf.l2 hso)
  have HI := hide (fun (p : Pt) (W : World) (hz : Below w.heap.size w W) => inside_any x.mem.boxes x.mem.holes s.a1 s.a2 s.n1 s.n2 s.c1 s.c2 p W (h.h1.carry (Flat.carried _) (hz.mono hB) (Nat.le_refl _)) (h.h2.carry (Flat.carried _) (hz.mono hB) (Nat.le_refl _)) (Nat.le_trans hB hz.size) hf.l1 hf.l2 hso)
  have hhull := boxOk_iff.1 (detOk_hull F.det)
  have Htx := hide (show sectText x a sc = textTop (rowB (signS x a sc) C) R R by rw [sectText, hrc, hcc, Int.toNat_natCast, Int.toNat_natCast])
  have Hsg := hide (fun k c => show signS x a sc k c = signTo (hullOf x.mem.boxes).lo.2.1 (hullOf x.mem.boxes).lo.2.2 sc (insAt x a sc) (cutsOf x a) (cutsOf x a) k c from rfl)
  have Hin := hide (fun (k c : Nat) => show insAt x a sc k c = inSolid x.mem.boxes x.mem.holes (a, (hullOf x.mem.boxes).lo.2.1 + c * sc, (hullOf x.mem.boxes).lo.2.2 + k * sc) from rfl)
  obtain ⟨hcl, _⟩ := cuts_fine (detOk_parts F.det).2.1 a
  have Hnr := hide (cuts_near (detOk_parts F.det).2.1 a)
  have hmk := run_make_row' (P := Tryz.prog) 91 92 (.slice none 0 0) 24 Tryz.underlying91 infoBytes rfl .i64 .i64 R (by omega) (by omega)
  have Hi := hide (show (Tryz.prog.info? 34).map (·.size) = some 19 by kernel_rfl)
  have K0 := hide (Blk.new w 34 (detCells x.mem x.rule s))
  have HW := hide (below_new w (.cells (detCells x.mem x.rule s) 34))
  generalize cutsOf x a = L at *
  obtain ⟨nl, hnl⟩ : ∃ n, n = L.length := ⟨_, rfl⟩
  have Hnl := hide hnl
  have hlb : nl ≤ 12000 := by omega
  rw [← hnl] at HP
  obtain ⟨TX, hTX⟩ : ∃ TX, TX = sectText x a sc := ⟨_, rfl⟩
  rw [← hTX] at Htx ⊢
  obtain ⟨SG, hSG⟩ : ∃ SG, SG = signS x a sc := ⟨_, rfl⟩
  rw [← hSG] at Htx Hsg
  obtain ⟨IN, hIN⟩ : ∃ IN, IN = insAt x a sc := ⟨_, rfl⟩
  rw [← hIN] at Hin Hsg
  generalize hullOf x.mem.boxes = H at *
  obtain ⟨⟨X1, X2, X3⟩, X4, X5, X6⟩ := H
  simp only at hhull Hsg Hin
  obtain ⟨mem, bars, runs, laps, dems, rule⟩ := x
  obtain ⟨a1, n1, c1, a2, n2, c2, a3, n3, c3, a4, n4, c4, a5, n5, c5, a6, n6, c6⟩ := s
  obtain ⟨name, boxes, holes, cover, agg, poker⟩ := mem
  obtain ⟨r1, r2, r3, r4, r5, r6, r7, r8, r9⟩ := rule
  simp only [detCells] at K0 HW
  simp only at HH HI Hin
  have q0 : decide (200 < (C : Int)) = false := by simp; omega
  have q1 : decide (200 < (R : Int)) = false := by simp; omega
  clear h hf hB he F hso hrc hcc hS hnl hcl hTX hSG hIN
  show Calls Tryz.prog 11 #[.agg #[.string name, .slice a1 n1 c1, .slice a2 n2 c2, .int .i64 cover, .int .i64 agg, .int .i64 poker, .slice a3 n3 c3, .slice a4 n4 c4, .slice a5 n5 c5, .slice a6 n6 c6, .int .i64 r1, .int .i64 r2, .int .i64 r3, .int .i64 r4, .int .i64 r5, .int .i64 r6, .int .i64 r7, .int .i64 r8, .int .i64 r9], .int .i64 a, .int .i64 sc] w _
  go_enter Tryz.func11, Tryz.ntmps11
  go_wp2_with (refine wpList_load_row rfl 34 (.tmp 3) rfl w.heap.size rfl 34 _ (0, 0) _ K0.out Tryz.underlying34 rfl Hi.out ?_)
  refine (HP.out _ HW.out).mono ?_
  rintro e w1 ⟨AP, cP, rfl, hp, hb⟩
  have K1 := hide (K0.out.keep hb)
  have HW1 := hide (below_step HW.out hb (Nat.le_refl _))
  have Hp := hide hp
  clear hb hp HP K0 HW
  go_wp2_with (refine wpList_load_row rfl 34 (.tmp 3) rfl w.heap.size rfl 34 _ (0, 0) _ K1.out Tryz.underlying34 rfl Hi.out ?_)
  refine (HS.out _ HW1.out).mono ?_
  rintro e w2 ⟨rfl, hb⟩
  have K2 := hide (K1.out.keep hb)
  have HW2 := hide (below_step HW1.out hb (Nat.le_refl _))
  have Hp := hide (SlOf.carry (Flat.carried _) Hp.out hb hb.size)
  have e1 := K2.out.cell 1
  have e2 := K2.out.cell 2
  simp at e1 e2
  have lk := K2.out.lt
  clear hb HS K1 HW1
  go_wp2_with fail
  refine (HH.out _ HW2.out).mono ?_
  rintro e w3 ⟨rfl, hb⟩
  have K3 := hide (K2.out.keep hb)
  have HW3 := hide (below_step HW2.out hb (Nat.le_refl _))
  have Hp3 := hide (SlOf.carry (Flat.carried _) Hp.out hb hb.size)
  clear hb HH K2 HW2 e1 e2 lk
  go_wp2_with fail
  go_quiet (fail)
  go_wp2_with fail
  have G0 : Hid (∀ (W : World), Blk W (w3.heap.size + 1) 92 (madeCells #[.slice none 0 0] R) → GridAt W w3.heap.size (w3.heap.size + 1) R C 0 (signTo X2 X3 sc IN [] [])) := hide (fun W hW => GridAt.start hW (by simp [size_madeCells]))
  go_loopw [77] (fun iv wr => ∃ k : Nat, k ≤ R ∧ iv = .int .i64 k ∧ Hid (GridAt wr w3.heap.size (w3.heap.size + 1) R C k (signTo X2 X3 sc IN [] [])) ∧ Hid (Below w3.heap.size w3 wr)) (fun iv _ => R - (intOf iv).toNat)
  case atStart => exact ⟨0, Nat.zero_le _, rfl, hide (G0.out _ (Blk.new1d w3 _ _ _ _)), hide ((below_drewN' (below_new w3 _) _).alloc (by simp) _)⟩
  case round =>
    rename World => wo
    obtain ⟨k, hk, rfl, hG, hBo⟩ := hrel
    by_cases hlt : k < R
    · have dk : decide ((k : Int) < (R : Int)) = true := by simp; omega
      have hgH := hG.out.head
      have hbs := hBo.out.size
      have KD := hide (Blk.new wo 5 #[.int .u8 46])
      have HRp := hide (repDots_any wo.heap.size C (wo.alloc (.cells #[.int .u8 46] 5)) KD.out hc1 hc2)
      have hG1 := hide (hG.out.keep (below_new wo (.cells #[.int .u8 46] 5)))
      have hB1 := hide (hBo.out.alloc hbs (.cells #[.int .u8 46] 5))
      go_wp2_with fail
      refine HRp.out.mono ?_
      rintro e w5 ⟨b, cs, rfl, hbb, hkb, hdots, hb⟩
      have hne : b ≠ w3.heap.size + 1 := by simp at hbb; omega
      have hlb2 := hkb.lt
      have hG2 := hide (hG1.out.more hb hbb (le_alloc hbs _) hkb hlt (r := fun _ => 46) (fun c hc => hdots.out c hc))
      have hB2 := hide ((below_step hB1.out hb (Nat.le_refl _)).setCell (p := ⟨w3.heap.size + 1, k, none⟩) (by simp) (.slice (some ⟨b, 0, none⟩) C C))
      have hGk := hide (hG1.out.keep hb)
      obtain ⟨hdr, _, hh1, hh2, _⟩ := hGk.out
      have hfz := hh1.frozen k
      obtain ⟨hv, hcell⟩ : ∃ v, w5.cell? ⟨w3.heap.size + 1, k, none⟩ = some v := by rw [hh1.cell]; exact ⟨_, Array.getElem?_eq_getElem (by omega)⟩
      clear hb hkb hdots hh1 hh2 HRp KD hG hG1 hGk
      go_wp2_with fail
      go_loopw [91] (fun iv wr => ∃ c : Nat, c ≤ C ∧ iv = .int .i64 c ∧ Hid (GridAt wr w3.heap.size (w3.heap.size + 1) R C (k + 1) (rowTo (signTo X2 X3 sc IN [] []) k c)) ∧ Hid (Below w3.heap.size w3 wr)) (fun iv _ => C - (intOf iv).toNat)
      case atStart => exact ⟨0, Nat.zero_le _, rfl, hide (hG2.out.congr (fun k' c' _ _ => by unfold rowTo; by_cases h9 : k' = k <;> simp [h9])), hB2⟩
      case round =>
        clear hG2 hB2 hcell hfz
        obtain ⟨c, hc, rfl, hG, hBr⟩ := hrel
        by_cases hltc : c < C
        · have dc : decide ((c : Int) < (C : Int)) = true := by simp; omega
          have KK := K3.out.below hBr.out K3.out.lt
          have f1 := KK.cell 1
          have f2 := KK.cell 2
          simp at f1 f2
          have lk := KK.lt
          obtain ⟨m1, m2⟩ := mul_range (c := (c : Int)) (sc := sc) (by omega) (by omega) hs1 hs2
          obtain ⟨m3, m4⟩ := mul_range (c := (k : Int)) (sc := sc) (by omega) (by omega) hs1 hs2
          have HIk := hide (HI.out (a, X2 + c * sc, X3 + k * sc) wr (below_step HW3.out hBr.out (Nat.le_refl _)))
          have Hik := hide (Hin.out k c)
          obtain ⟨t, ht⟩ : ∃ t, t = inSolid boxes holes (a, X2 + c * sc, X3 + k * sc) := ⟨_, rfl⟩
          rw [← ht] at HIk Hik
          clear ht KK
          have z1 : IntKind.i64.wrap ((c : Int) * sc) = (c : Int) * sc := IntWalk.i64_in _ (by omega)
          have z2 : IntKind.i64.wrap ((k : Int) * sc) = (k : Int) * sc := IntWalk.i64_in _ (by omega)
          have z3 : IntKind.i64.wrap (X2 + (c : Int) * sc) = X2 + (c : Int) * sc := IntWalk.i64_in _ (by omega)
          have z4 : IntKind.i64.wrap (X3 + (k : Int) * sc) = X3 + (k : Int) * sc := IntWalk.i64_in _ (by omega)
          go_wp2_with fail
          refine HIk.out.mono ?_
          rintro e w6 ⟨hor, hb⟩
          have hG6 := hide (hG.out.keep hb)
          have hB6 := hide (hBr.out.trans (hb.mono hBr.out.size))
          clear hb HIk f1 f2 lk hG hBr z1 z2 z3 z4
          rcases hor with rfl | ⟨htf, rfl⟩
          · cases t
            · have hs0 : signTo X2 X3 sc IN [] [] k c = 46 := by simp [signTo, sign3, Hik.out]
              have hG7 := hide (hG6.out.congr (fun k' c' _ _ => rowTo_dot hs0 k' c'))
              clear hs0 hG6 Hik
              go_wp2_with fail
              go_roundw
              case rel => exact ⟨c + 1, by omega, by go_num, hG7, hB6⟩
              case measure => simp [intOf]; omega
            · have hs0 : signTo X2 X3 sc IN [] [] k c = 35 := by simp [signTo, sign3, Hik.out]
              obtain ⟨ad, hrow, hbase, hadl, cs6, hk6, hcs6⟩ := hG6.out.row (Nat.lt_succ_self k)
              have hv := hk6.cell c
              rw [hcs6 c hltc] at hv
              have hfz := hk6.frozen c
              have hG7 : Hid (GridAt (w6.setCell ⟨ad, c, none⟩ (.int .u8 35)) w3.heap.size (w3.heap.size + 1) R C (k + 1) (rowTo (signTo X2 X3 sc IN [] []) k (c + 1))) := hide ((hG6.out.put (Nat.lt_succ_self k) hltc hrow 35).congr (fun k' c' _ _ => rowTo_put hs0 k' c'))
              have hB7 := hide (hB6.out.setCell (p := ⟨ad, c, none⟩) hbase (.int .u8 35))
              clear hs0 hG6 Hik hk6 hcs6 hB6
              go_wp2_with fail
              go_roundw
              case rel => exact ⟨c + 1, by omega, by go_num, hG7, hB7⟩
              case measure => simp [intOf]; omega
          · subst htf
            have hs0 : signTo X2 X3 sc IN [] [] k c = 46 := by simp [signTo, sign3, Hik.out]
            have hG7 := hide (hG6.out.congr (fun k' c' _ _ => rowTo_dot hs0 k' c'))
            clear hs0 hG6 Hik
            go_wp2_with fail
            go_roundw
            case rel => exact ⟨c + 1, by omega, by go_num, hG7, hB6⟩
            case measure => simp [intOf]; omega
        · obtain rfl : c = C := by omega
          have dc : decide ((c : Int) < (c : Int)) = false := by simp
          have hG7 := hide (hG.out.congr (fun k' c' _ h9 => show rowTo (signTo X2 X3 sc IN [] []) k c k' c' = signTo X2 X3 sc IN [] [] k' c' by unfold rowTo; rw [if_pos h9]; split <;> rfl))
          clear hG
          go_wp2_with fail
          go_roundw
          case rel => exact ⟨k + 1, by omega, by go_num, hG7, hBr⟩
          case measure => simp [intOf]; omega
    · obtain rfl : k = R := by omega
      have dk : decide ((k : Int) < (k : Int)) = false := by simp
      have i0 : ∀ W : World, (Instr.index 96 (.agg #[.bool false, .bool true]) (.int .i64 0)).run Tryz.prog W = .ok (.bool false) W := fun W => by kernel_rfl
      have i1 : ∀ W : World, (Instr.index 96 (.agg #[.bool false, .bool true]) (.int .i64 1)).run Tryz.prog W = .ok (.bool true) W := fun W => by kernel_rfl
      go_wp2_with fail
      go_loopw [127] (fun iv wr => ∃ q : Nat, q ≤ 2 ∧ iv = .int .i64 q ∧ Hid (GridAt wr w3.heap.size (w3.heap.size + 1) k C k (stageG X2 X3 sc IN L q)) ∧ Hid (Below w3.heap.size w3 wr)) (fun iv _ => 2 - (intOf iv).toNat)
      case atStart => exact ⟨0, by omega, rfl, hG, hBo⟩
      case round =>
        clear hG hBo
        rename World => wp
        obtain ⟨q, hq, rfl, hG, hBo⟩ := hrel
        rcases (show q = 0 ∨ q = 1 ∨ q = 2 by omega) with rfl | rfl | rfl
        · go_wp2_with fail
          go_loopw [132] (fun iv wr => ∃ j : Nat, j ≤ nl ∧ iv = .int .i64 j ∧ Hid (GridAt wr w3.heap.size (w3.heap.size + 1) k C k (signTo X2 X3 sc IN (L.take j) [])) ∧ Hid (Below w3.heap.size w3 wr)) (fun iv _ => nl - (intOf iv).toNat)
          case atStart => exact ⟨0, Nat.zero_le _, rfl, hG, hBo⟩
          case round =>
            clear hG hBo
            rename World => wq
            obtain ⟨j, hj, rfl, hG, hBo⟩ := hrel
            by_cases hltj : j < nl
            · obtain ⟨b, off, p, hAP, hbl, hx, hc⟩ := PcsAt.get (k := j) (SlOf.carry (Flat.carried _) Hp3.out hBo.out (Nat.le_refl _)) (by rw [← Hnl.out]; exact hltj)
              subst hAP
              have Htk := hide (take_snoc' hx)
              obtain ⟨hn1, hn2⟩ := Hnr.out p (mem_of_get hx)
              obtain ⟨⟨⟨x1, x2, x3⟩, x4, x5, x6⟩, br, sz, cr⟩ := p
              have p0 := hc 0 _ rfl
              have p1 := hc 1 _ rfl
              have p2 := hc 2 _ rfl
              have p3 := hc 3 _ rfl
              have p4 := hc 4 _ rfl
              have p5 := hc 5 _ rfl
              have p6 := hc 6 _ rfl
              have p7 := hc 7 _ rfl
              have p8 := hc 8 _ rfl
              simp only [Nat.add_zero] at p0 p1 p2 p3 p4 p5 p6 p7 p8 hn1 hn2
              have hbs := hBo.out.size
              clear hc hx hbl
              obtain ⟨kA, hkA⟩ : ∃ q, q = cellIx x3 X3 sc := ⟨_, rfl⟩
              obtain ⟨kB, hkB⟩ : ∃ q, q = cellIx x6 X3 sc := ⟨_, rfl⟩
              obtain ⟨cA, hcA⟩ : ∃ q, q = cellIx x2 X2 sc := ⟨_, rfl⟩
              obtain ⟨cB, hcB⟩ : ∃ q, q = cellIx x5 X2 sc := ⟨_, rfl⟩
              have HkA := hide (fun W => show Calls Tryz.prog 45 #[.int .i64 x3, .int .i64 X3, .int .i64 sc] W fun e w' => e = .returned (.int .i64 kA) ∧ w' = W by rw [hkA]; exact cellIx_any x3 X3 sc W ⟨hs1, hs2⟩ (by omega) (by omega))
              have HkB := hide (fun W => show Calls Tryz.prog 45 #[.int .i64 x6, .int .i64 X3, .int .i64 sc] W fun e w' => e = .returned (.int .i64 kB) ∧ w' = W by rw [hkB]; exact cellIx_any x6 X3 sc W ⟨hs1, hs2⟩ (by omega) (by omega))
              have HcA := hide (fun W => show Calls Tryz.prog 45 #[.int .i64 x2, .int .i64 X2, .int .i64 sc] W fun e w' => e = .returned (.int .i64 cA) ∧ w' = W by rw [hcA]; exact cellIx_any x2 X2 sc W ⟨hs1, hs2⟩ (by omega) (by omega))
              have HcB := hide (fun W => show Calls Tryz.prog 45 #[.int .i64 x5, .int .i64 X2, .int .i64 sc] W fun e w' => e = .returned (.int .i64 cB) ∧ w' = W by rw [hcB]; exact cellIx_any x5 X2 sc W ⟨hs1, hs2⟩ (by omega) (by omega))
              have rkA := cellIx_range (n := x3) (f := X3) hs1 (by omega)
              have rkB := cellIx_range (n := x6) (f := X3) hs1 (by omega)
              have rcA := cellIx_range (n := x2) (f := X2) hs1 (by omega)
              have rcB := cellIx_range (n := x5) (f := X2) hs1 (by omega)
              rw [← hkA] at rkA
              rw [← hkB] at rkB
              rw [← hcA] at rcA
              rw [← hcB] at rcB
              have Hix := hide (And.intro hkA (And.intro hkB (And.intro hcA hcB)))
              clear hkA hkB hcA hcB hn1 hn2
              obtain ⟨kl, hkl⟩ : ∃ q : Nat, max 0 kA = (q : Int) := ⟨(max 0 kA).toNat, by omega⟩
              obtain ⟨cl, hcl⟩ : ∃ q : Nat, max 0 cA = (q : Int) := ⟨(max 0 cA).toNat, by omega⟩
              obtain ⟨khi, hkh⟩ : ∃ q : Int, min ((k : Int) - 1) kB = q := ⟨_, rfl⟩
              obtain ⟨chi, hch⟩ : ∃ q : Int, min ((C : Int) - 1) cB = q := ⟨_, rfl⟩
              have hkh1 : khi ≤ (k : Int) - 1 := by omega
              have hch1 : chi ≤ (C : Int) - 1 := by omega
              have hkh2 : -1 ≤ khi := by omega
              have hch2 : -1 ≤ chi := by omega
              have Hfin := hide (fun (k' c' : Nat) (h1 : k' < k) (h2 : c' < C) => show paint (rectS kl khi cl chi) 43 (signTo X2 X3 sc IN (L.take j) []) k' c' = signTo X2 X3 sc IN (L.take (j + 1)) [] k' c' by
                rw [Htk.out, ← sign_plus]
                unfold paint
                rw [← hkl, ← hcl, ← hkh, ← hch, Hix.out.1, Hix.out.2.1, Hix.out.2.2.1, Hix.out.2.2.2, ← rect_cov (rows := k) (cols := C) hs1 _ h1 h2])
              obtain ⟨gb, hgb⟩ : ∃ g, g = wq.heap.size + 1 := ⟨_, rfl⟩
              have KBs := hide (show Blk ((wq.alloc (.cells #[.int .i64 x1, .int .i64 x2, .int .i64 x3, .int .i64 x4, .int .i64 x5, .int .i64 x6, .int .i64 br, .int .i64 sz, .bool cr] 98)).alloc (.cells #[.int .i64 x1, .int .i64 x2, .int .i64 x3, .int .i64 x4, .int .i64 x5, .int .i64 x6] 63)) gb 63 #[.int .i64 x1, .int .i64 x2, .int .i64 x3, .int .i64 x4, .int .i64 x5, .int .i64 x6] by rw [hgb]; exact Blk.new1 _ _ _ _)
              have HGs := hide ((hG.out.keep (below_new wq (.cells #[.int .i64 x1, .int .i64 x2, .int .i64 x3, .int .i64 x4, .int .i64 x5, .int .i64 x6, .int .i64 br, .int .i64 sz, .bool cr] 98))).keep (below_new _ (.cells #[.int .i64 x1, .int .i64 x2, .int .i64 x3, .int .i64 x4, .int .i64 x5, .int .i64 x6] 63)))
              have HBs := hide ((hBo.out.alloc hbs (.cells #[.int .i64 x1, .int .i64 x2, .int .i64 x3, .int .i64 x4, .int .i64 x5, .int .i64 x6, .int .i64 br, .int .i64 sz, .bool cr] 98)).alloc (le_alloc hbs _) (.cells #[.int .i64 x1, .int .i64 x2, .int .i64 x3, .int .i64 x4, .int .i64 x5, .int .i64 x6] 63))
              clear hG hBo
              go_wp2_with fail
              refine (HkA.out _).mono ?_
              rintro e w7 ⟨rfl, rfl⟩
              go_wp2_with fail
              simp only [← hgb]
              clear hgb
              go_loopw [26] (fun iv wr => ∃ kk : Nat, iv = .int .i64 kk ∧ kl ≤ kk ∧ Hid (GridAt wr w3.heap.size (w3.heap.size + 1) k C k (paint (rectTo kl khi cl chi kk cl) 43 (signTo X2 X3 sc IN (L.take j) []))) ∧ Hid (Blk wr gb 63 #[.int .i64 x1, .int .i64 x2, .int .i64 x3, .int .i64 x4, .int .i64 x5, .int .i64 x6]) ∧ Hid (Below w3.heap.size w3 wr)) (fun iv _ => (khi + 1 - intOf iv).toNat)
              case atStart => exact ⟨kl, rfl, Nat.le_refl _, hide (HGs.out.congr (fun k' c' _ _ => (paint_none kl khi cl chi 43 (signTo X2 X3 sc IN (L.take j) []) k' c').symm)), KBs, HBs⟩
              case round =>
                clear KBs HGs HBs
                rename World => w5r
                obtain ⟨kk, rfl, hkk, hG5, KB5, hB5⟩ := hrel
                have b1 := KB5.out.cell 1
                have b2 := KB5.out.cell 2
                have b4 := KB5.out.cell 4
                have b5 := KB5.out.cell 5
                simp at b1 b2 b4 b5
                by_cases hk5 : (kk : Int) ≤ khi
                · have t5 : decide ((kk : Int) ≤ khi) = true := by simpa using hk5
                  go_wp2_with fail
                  refine (HkB.out _).mono ?_
                  rintro e w8 ⟨rfl, rfl⟩
                  go_wp2_with fail
                  refine (HcA.out _).mono ?_
                  rintro e w9 ⟨rfl, rfl⟩
                  go_wp2_with fail
                  go_loopw [27] (fun iv wr => ∃ cc : Nat, iv = .int .i64 cc ∧ cl ≤ cc ∧ Hid (GridAt wr w3.heap.size (w3.heap.size + 1) k C k (paint (rectTo kl khi cl chi kk cc) 43 (signTo X2 X3 sc IN (L.take j) []))) ∧ Hid (Blk wr gb 63 #[.int .i64 x1, .int .i64 x2, .int .i64 x3, .int .i64 x4, .int .i64 x5, .int .i64 x6]) ∧ Hid (Below w3.heap.size w3 wr)) (fun iv _ => (chi + 1 - intOf iv).toNat)
                  case atStart => exact ⟨cl, rfl, Nat.le_refl _, hG5, KB5, hB5⟩
                  case round =>
                    clear hG5 KB5 hB5 b1 b2 b4 b5
                    rename World => w6r
                    obtain ⟨cc, rfl, hcc, hG6, KB6, hB6⟩ := hrel
                    have b1 := KB6.out.cell 1
                    have b4 := KB6.out.cell 4
                    simp at b1 b4
                    by_cases hc6 : (cc : Int) ≤ chi
                    · have t6 : decide ((cc : Int) ≤ chi) = true := by simpa using hc6
                      go_wp2_with fail
                      refine (HcB.out _).mono ?_
                      rintro e w10 ⟨rfl, rfl⟩
                      have hlk : kk < k := by omega
                      have hlc : cc < C := by omega
                      obtain ⟨ad, hrow, hbase, hadl, cs6, hk6, hcs6⟩ := hG6.out.row hlk
                      have hv := hk6.cell cc
                      rw [hcs6 cc hlc] at hv
                      have hfz := hk6.frozen cc
                      have hG7 : Hid (GridAt (w10.setCell ⟨ad, cc, none⟩ (.int .u8 43)) w3.heap.size (w3.heap.size + 1) k C k (paint (rectTo kl khi cl chi kk ((cc : Int) + 1)) 43 (signTo X2 X3 sc IN (L.take j) []))) := hide ((hG6.out.put hlk hlc hrow 43).congr (fun k' c' _ _ => paint_step (by omega) hk5 (by omega) hc6 43 (signTo X2 X3 sc IN (L.take j) []) k' c'))
                      have hKne : gb ≠ ad := fun he => absurd (blk_type KB6.out (he ▸ hk6)) (by decide)
                      have KB7 := hide (KB6.out.far (p := ⟨ad, cc, none⟩) hKne (.int .u8 43))
                      have hB7 := hide (hB6.out.setCell (p := ⟨ad, cc, none⟩) hbase (.int .u8 43))
                      clear hG6 hk6 hcs6 hB6 KB6
                      go_wp2_with fail
                      go_roundw
                      case rel => exact ⟨cc + 1, by go_num, by omega, hG7, KB7, hB7⟩
                      case measure => simp [intOf]; omega
                    · have t6 : decide ((cc : Int) ≤ chi) = false := by simpa using hc6
                      have hG7 := hide (hG6.out.congr (fun k' c' _ _ => paint_row (by omega) 43 (signTo X2 X3 sc IN (L.take j) []) k' c'))
                      clear hG6
                      go_wp2_with fail
                      refine (HcB.out _).mono ?_
                      rintro e w10 ⟨rfl, rfl⟩
                      go_wp2_with fail
                      go_roundw
                      case rel => exact ⟨kk + 1, by go_num, by omega, hG7, KB6, hB6⟩
                      case measure => simp [intOf]; omega
                · have t5 : decide ((kk : Int) ≤ khi) = false := by simpa using hk5
                  have hG7 := hide (hG5.out.congr (fun k' c' h1 h2 => (paint_all (by omega) 43 (signTo X2 X3 sc IN (L.take j) []) k' c').trans (Hfin.out k' c' h1 h2)))
                  clear hG5
                  go_wp2_with fail
                  refine (HkB.out _).mono ?_
                  rintro e w8 ⟨rfl, rfl⟩
                  go_wp2_with fail
                  go_roundw
                  case rel => first | exact ⟨j + 1, by omega, by go_num, hG7, hB5⟩ | ((repeat apply Exists.intro); exact ⟨⟨j + 1, by omega, by go_num, hG7, hB5⟩, rfl⟩)
                  case measure => simp [intOf] <;> omega
            · obtain rfl : j = nl := by omega
              have dj : decide ((j : Int) < (j : Int)) = false := by simp
              have hG7 := hide (hG.out.congr (G' := stageG X2 X3 sc IN L 1) (fun k' c' _ _ => by rw [Hnl.out, List.take_length]; rfl))
              clear hG
              go_wp2_with fail
              go_roundw
              case rel => exact ⟨1, by omega, by go_num, hG7, hBo⟩
              case measure => simp [intOf]
        · go_wp2_with fail
          go_loopw [132] (fun iv wr => ∃ j : Nat, j ≤ nl ∧ iv = .int .i64 j ∧ Hid (GridAt wr w3.heap.size (w3.heap.size + 1) k C k (signTo X2 X3 sc IN L (L.take j))) ∧ Hid (Below w3.heap.size w3 wr)) (fun iv _ => nl - (intOf iv).toNat)
          case atStart => exact ⟨0, Nat.zero_le _, rfl, hG, hBo⟩
          case round =>
            clear hG hBo
            rename World => wq
            obtain ⟨j, hj, rfl, hG, hBo⟩ := hrel
            by_cases hltj : j < nl
            · obtain ⟨b, off, p, hAP, hbl, hx, hc⟩ := PcsAt.get (k := j) (SlOf.carry (Flat.carried _) Hp3.out hBo.out (Nat.le_refl _)) (by rw [← Hnl.out]; exact hltj)
              subst hAP
              have Htk := hide (take_snoc' hx)
              obtain ⟨hn1, hn2⟩ := Hnr.out p (mem_of_get hx)
              obtain ⟨⟨⟨x1, x2, x3⟩, x4, x5, x6⟩, br, sz, cr⟩ := p
              have p0 := hc 0 _ rfl
              have p1 := hc 1 _ rfl
              have p2 := hc 2 _ rfl
              have p3 := hc 3 _ rfl
              have p4 := hc 4 _ rfl
              have p5 := hc 5 _ rfl
              have p6 := hc 6 _ rfl
              have p7 := hc 7 _ rfl
              have p8 := hc 8 _ rfl
              simp only [Nat.add_zero] at p0 p1 p2 p3 p4 p5 p6 p7 p8 hn1 hn2
              have hbs := hBo.out.size
              clear hc hx hbl
              cases cr
              · have hG7 := hide (((hG.out.congr (G' := signTo X2 X3 sc IN L (L.take (j + 1))) (fun k' c' _ _ => by rw [Htk.out, ← sign_skip _ _ _ _ _ _ _ rfl])).keep (below_new wq (.cells #[.int .i64 x1, .int .i64 x2, .int .i64 x3, .int .i64 x4, .int .i64 x5, .int .i64 x6, .int .i64 br, .int .i64 sz, .bool false] 98))).keep (below_new _ (.cells #[.int .i64 x1, .int .i64 x2, .int .i64 x3, .int .i64 x4, .int .i64 x5, .int .i64 x6] 63)))
                have hB7 := hide ((hBo.out.alloc hbs (.cells #[.int .i64 x1, .int .i64 x2, .int .i64 x3, .int .i64 x4, .int .i64 x5, .int .i64 x6, .int .i64 br, .int .i64 sz, .bool false] 98)).alloc (le_alloc hbs _) (.cells #[.int .i64 x1, .int .i64 x2, .int .i64 x3, .int .i64 x4, .int .i64 x5, .int .i64 x6] 63))
                clear hG hBo
                go_wp2_with fail
                go_roundw
                case rel => exact ⟨j + 1, by omega, by go_num, hG7, hB7⟩
                case measure => simp [intOf]; omega
              · obtain ⟨kA, hkA⟩ : ∃ q, q = cellIx x3 X3 sc := ⟨_, rfl⟩
                obtain ⟨kB, hkB⟩ : ∃ q, q = cellIx x3 X3 sc := ⟨_, rfl⟩
                obtain ⟨cA, hcA⟩ : ∃ q, q = cellIx x2 X2 sc := ⟨_, rfl⟩
                obtain ⟨cB, hcB⟩ : ∃ q, q = cellIx x2 X2 sc := ⟨_, rfl⟩
                have HkA := hide (fun W => show Calls Tryz.prog 45 #[.int .i64 x3, .int .i64 X3, .int .i64 sc] W fun e w' => e = .returned (.int .i64 kA) ∧ w' = W by rw [hkA]; exact cellIx_any x3 X3 sc W ⟨hs1, hs2⟩ (by omega) (by omega))
                have HkB := hide (fun W => show Calls Tryz.prog 45 #[.int .i64 x3, .int .i64 X3, .int .i64 sc] W fun e w' => e = .returned (.int .i64 kB) ∧ w' = W by rw [hkB]; exact cellIx_any x3 X3 sc W ⟨hs1, hs2⟩ (by omega) (by omega))
                have HcA := hide (fun W => show Calls Tryz.prog 45 #[.int .i64 x2, .int .i64 X2, .int .i64 sc] W fun e w' => e = .returned (.int .i64 cA) ∧ w' = W by rw [hcA]; exact cellIx_any x2 X2 sc W ⟨hs1, hs2⟩ (by omega) (by omega))
                have HcB := hide (fun W => show Calls Tryz.prog 45 #[.int .i64 x2, .int .i64 X2, .int .i64 sc] W fun e w' => e = .returned (.int .i64 cB) ∧ w' = W by rw [hcB]; exact cellIx_any x2 X2 sc W ⟨hs1, hs2⟩ (by omega) (by omega))
                have rkA := cellIx_range (n := x3) (f := X3) hs1 (by omega)
                have rkB := cellIx_range (n := x3) (f := X3) hs1 (by omega)
                have rcA := cellIx_range (n := x2) (f := X2) hs1 (by omega)
                have rcB := cellIx_range (n := x2) (f := X2) hs1 (by omega)
                rw [← hkA] at rkA
                rw [← hkB] at rkB
                rw [← hcA] at rcA
                rw [← hcB] at rcB
                have Hix := hide (And.intro hkA (And.intro hkB (And.intro hcA hcB)))
                clear hkA hkB hcA hcB hn1 hn2
                obtain ⟨kl, hkl⟩ : ∃ q : Nat, max 0 kA = (q : Int) := ⟨(max 0 kA).toNat, by omega⟩
                obtain ⟨cl, hcl⟩ : ∃ q : Nat, max 0 cA = (q : Int) := ⟨(max 0 cA).toNat, by omega⟩
                obtain ⟨khi, hkh⟩ : ∃ q : Int, min ((k : Int) - 1) kB = q := ⟨_, rfl⟩
                obtain ⟨chi, hch⟩ : ∃ q : Int, min ((C : Int) - 1) cB = q := ⟨_, rfl⟩
                have hkh1 : khi ≤ (k : Int) - 1 := by omega
                have hch1 : chi ≤ (C : Int) - 1 := by omega
                have hkh2 : -1 ≤ khi := by omega
                have hch2 : -1 ≤ chi := by omega
                have Hfin := hide (fun (k' c' : Nat) (h1 : k' < k) (h2 : c' < C) => show paint (rectS kl khi cl chi) 111 (signTo X2 X3 sc IN L (L.take j)) k' c' = signTo X2 X3 sc IN L (L.take (j + 1)) k' c' by
                  rw [Htk.out, ← sign_ring _ _ _ _ _ _ _ rfl]
                  unfold paint
                  rw [← hkl, ← hcl, ← hkh, ← hch, Hix.out.1, Hix.out.2.1, Hix.out.2.2.1, Hix.out.2.2.2, ← rect_cov (rows := k) (cols := C) hs1 _ h1 h2]
                  try rfl)
                obtain ⟨gb, hgb⟩ : ∃ g, g = wq.heap.size + 1 := ⟨_, rfl⟩
                have KBs := hide (show Blk ((wq.alloc (.cells #[.int .i64 x1, .int .i64 x2, .int .i64 x3, .int .i64 x4, .int .i64 x5, .int .i64 x6, .int .i64 br, .int .i64 sz, .bool true] 98)).alloc (.cells #[.int .i64 x1, .int .i64 x2, .int .i64 x3, .int .i64 x1, .int .i64 x2, .int .i64 x3] 63)) gb 63 #[.int .i64 x1, .int .i64 x2, .int .i64 x3, .int .i64 x1, .int .i64 x2, .int .i64 x3] by rw [hgb]; exact Blk.new1 _ _ _ _)
                have HGs := hide ((hG.out.keep (below_new wq (.cells #[.int .i64 x1, .int .i64 x2, .int .i64 x3, .int .i64 x4, .int .i64 x5, .int .i64 x6, .int .i64 br, .int .i64 sz, .bool true] 98))).keep (below_new _ (.cells #[.int .i64 x1, .int .i64 x2, .int .i64 x3, .int .i64 x1, .int .i64 x2, .int .i64 x3] 63)))
                have HBs := hide ((hBo.out.alloc hbs (.cells #[.int .i64 x1, .int .i64 x2, .int .i64 x3, .int .i64 x4, .int .i64 x5, .int .i64 x6, .int .i64 br, .int .i64 sz, .bool true] 98)).alloc (le_alloc hbs _) (.cells #[.int .i64 x1, .int .i64 x2, .int .i64 x3, .int .i64 x1, .int .i64 x2, .int .i64 x3] 63))
                clear hG hBo
                go_wp2_with fail
                refine (HkA.out _).mono ?_
                rintro e w7 ⟨rfl, rfl⟩
                go_wp2_with fail
                simp only [← hgb]
                clear hgb
                go_loopw [26] (fun iv wr => ∃ kk : Nat, iv = .int .i64 kk ∧ kl ≤ kk ∧ Hid (GridAt wr w3.heap.size (w3.heap.size + 1) k C k (paint (rectTo kl khi cl chi kk cl) 111 (signTo X2 X3 sc IN L (L.take j)))) ∧ Hid (Blk wr gb 63 #[.int .i64 x1, .int .i64 x2, .int .i64 x3, .int .i64 x1, .int .i64 x2, .int .i64 x3]) ∧ Hid (Below w3.heap.size w3 wr)) (fun iv _ => (khi + 1 - intOf iv).toNat)
                case atStart => exact ⟨kl, rfl, Nat.le_refl _, hide (HGs.out.congr (fun k' c' _ _ => (paint_none kl khi cl chi 111 (signTo X2 X3 sc IN L (L.take j)) k' c').symm)), KBs, HBs⟩
                case round =>
                  clear KBs HGs HBs
                  rename World => w5r
                  obtain ⟨kk, rfl, hkk, hG5, KB5, hB5⟩ := hrel
                  have b1 := KB5.out.cell 1
                  have b2 := KB5.out.cell 2
                  have b4 := KB5.out.cell 4
                  have b5 := KB5.out.cell 5
                  simp at b1 b2 b4 b5
                  by_cases hk5 : (kk : Int) ≤ khi
                  · have t5 : decide ((kk : Int) ≤ khi) = true := by simpa using hk5
                    go_wp2_with fail
                    refine (HkB.out _).mono ?_
                    rintro e w8 ⟨rfl, rfl⟩
                    go_wp2_with fail
                    refine (HcA.out _).mono ?_
                    rintro e w9 ⟨rfl, rfl⟩
                    go_wp2_with fail
                    go_loopw [27] (fun iv wr => ∃ cc : Nat, iv = .int .i64 cc ∧ cl ≤ cc ∧ Hid (GridAt wr w3.heap.size (w3.heap.size + 1) k C k (paint (rectTo kl khi cl chi kk cc) 111 (signTo X2 X3 sc IN L (L.take j)))) ∧ Hid (Blk wr gb 63 #[.int .i64 x1, .int .i64 x2, .int .i64 x3, .int .i64 x1, .int .i64 x2, .int .i64 x3]) ∧ Hid (Below w3.heap.size w3 wr)) (fun iv _ => (chi + 1 - intOf iv).toNat)
                    case atStart => exact ⟨cl, rfl, Nat.le_refl _, hG5, KB5, hB5⟩
                    case round =>
                      clear hG5 KB5 hB5 b1 b2 b4 b5
                      rename World => w6r
                      obtain ⟨cc, rfl, hcc, hG6, KB6, hB6⟩ := hrel
                      have b1 := KB6.out.cell 1
                      have b4 := KB6.out.cell 4
                      simp at b1 b4
                      by_cases hc6 : (cc : Int) ≤ chi
                      · have t6 : decide ((cc : Int) ≤ chi) = true := by simpa using hc6
                        go_wp2_with fail
                        refine (HcB.out _).mono ?_
                        rintro e w10 ⟨rfl, rfl⟩
                        have hlk : kk < k := by omega
                        have hlc : cc < C := by omega
                        obtain ⟨ad, hrow, hbase, hadl, cs6, hk6, hcs6⟩ := hG6.out.row hlk
                        have hv := hk6.cell cc
                        rw [hcs6 cc hlc] at hv
                        have hfz := hk6.frozen cc
                        have hG7 : Hid (GridAt (w10.setCell ⟨ad, cc, none⟩ (.int .u8 111)) w3.heap.size (w3.heap.size + 1) k C k (paint (rectTo kl khi cl chi kk ((cc : Int) + 1)) 111 (signTo X2 X3 sc IN L (L.take j)))) := hide ((hG6.out.put hlk hlc hrow 111).congr (fun k' c' _ _ => paint_step (by omega) hk5 (by omega) hc6 111 (signTo X2 X3 sc IN L (L.take j)) k' c'))
                        have hKne : gb ≠ ad := fun he => absurd (blk_type KB6.out (he ▸ hk6)) (by decide)
                        have KB7 := hide (KB6.out.far (p := ⟨ad, cc, none⟩) hKne (.int .u8 111))
                        have hB7 := hide (hB6.out.setCell (p := ⟨ad, cc, none⟩) hbase (.int .u8 111))
                        clear hG6 hk6 hcs6 hB6 KB6
                        go_wp2_with fail
                        go_roundw
                        case rel => exact ⟨cc + 1, by go_num, by omega, hG7, KB7, hB7⟩
                        case measure => simp [intOf]; omega
                      · have t6 : decide ((cc : Int) ≤ chi) = false := by simpa using hc6
                        have hG7 := hide (hG6.out.congr (fun k' c' _ _ => paint_row (by omega) 111 (signTo X2 X3 sc IN L (L.take j)) k' c'))
                        clear hG6
                        go_wp2_with fail
                        refine (HcB.out _).mono ?_
                        rintro e w10 ⟨rfl, rfl⟩
                        go_wp2_with fail
                        go_roundw
                        case rel => exact ⟨kk + 1, by go_num, by omega, hG7, KB6, hB6⟩
                        case measure => simp [intOf]; omega
                  · have t5 : decide ((kk : Int) ≤ khi) = false := by simpa using hk5
                    have hG7 := hide (hG5.out.congr (fun k' c' h1 h2 => (paint_all (by omega) 111 (signTo X2 X3 sc IN L (L.take j)) k' c').trans (Hfin.out k' c' h1 h2)))
                    clear hG5
                    go_wp2_with fail
                    refine (HkB.out _).mono ?_
                    rintro e w8 ⟨rfl, rfl⟩
                    go_wp2_with fail
                    go_roundw
                    case rel => first | exact ⟨j + 1, by omega, by go_num, hG7, hB5⟩ | ((repeat apply Exists.intro); exact ⟨⟨j + 1, by omega, by go_num, hG7, hB5⟩, rfl⟩)
                    case measure => simp [intOf] <;> omega
            · obtain rfl : j = nl := by omega
              have dj : decide ((j : Int) < (j : Int)) = false := by simp
              have hG7 := hide (hG.out.congr (G' := stageG X2 X3 sc IN L 2) (fun k' c' _ _ => by rw [Hnl.out, List.take_length]; rfl))
              clear hG
              go_wp2_with fail
              go_roundw
              case rel => exact ⟨2, by omega, by go_num, hG7, hBo⟩
              case measure => simp [intOf]
        · have hGf := hide (hG.out.congr (G' := SG) (fun k' c' _ _ => (Hsg.out k' c').symm))
          clear hG
          go_wp2_with fail
          go_loopw [28, 29] (fun v iv wr => ∃ r : Nat, r ≤ k ∧ iv = .int .i64 ((r : Int) - 1) ∧ (∃ acc : List UInt8, Hid (Row wr wp.heap.size 5 1 encU8 v acc) ∧ Hid (acc = textTop (rowB SG C) k (k - r))) ∧ Hid (Below wp.heap.size wp wr)) (fun _ iv _ => (intOf iv + 1).toNat)
          case atStart => exact ⟨k, Nat.le_refl _, rfl, ⟨[], hide (Row.nil _ _ _ _ _), hide (by rw [Nat.sub_self]; rfl)⟩, hide (Below.refl _ _)⟩
          case round =>
            obtain ⟨r, hr, rfl, ⟨acc, hrow, hacc⟩, hbr⟩ := hrel
            obtain ⟨A0, c0, rfl⟩ := hrow.out.val
            have hal : acc.length ≤ 200 * 201 := by
              rw [hacc.out, textTop_len]
              exact Nat.mul_le_mul (by omega) (by omega)
            have hbs := hbr.out.size
            rcases r with _ | q
            · have Hfin := hide (show acc = TX by rw [hacc.out, Nat.sub_zero]; exact Htx.out.symm)
              have hlp : 0 < acc.length := by
                rw [hacc.out, textTop_len]
                exact Nat.mul_pos (by omega) (by omega)
              have hcv := run_row_text hrow.out hlp
              have HB := hide (below_step hBo.out hbr.out (Nat.le_refl _))
              have HF := hide (below_step HW3.out HB.out (Nat.le_refl _))
              rw [show ((0 : Nat) : Int) - 1 = -1 from rfl]
              clear hacc hlp hrow
              go_wp2_with fail
              go_ret2
              exact ⟨by rw [← Hfin.out]; rfl, HF.out⟩
            · have hq : (((q + 1 : Nat) : Int) - 1) = (q : Int) := by omega
              rw [hq]
              have hqk : q < k := by omega
              obtain ⟨ad, hrw, hbase, hadl, cs6, hk6, hcs6⟩ := (hGf.out.keep hbr.out).row hqk
              have hcl6 := row_cells (G := SG q) hcs6
              have Hcl6 := hide (fun (j : Nat) (u : Value) (hj : (((List.range C).map (SG q)).flatMap encU8)[j]? = some u) => show wr.cell? ⟨ad, j, none⟩ = some u by rw [hk6.cell]; exact hcl6 j u hj)
              have hnext := hide (show acc ++ (List.range C).map (SG q) ++ [10] = textTop (rowB SG C) k (k - q) by
                rw [show k - q = (k - (q + 1)) + 1 from by omega, textTop, ← hacc.out, show k - 1 - (k - (q + 1)) = q from by omega, rowB, List.append_assoc])
              have z1 : IntKind.i64.wrap ((q : Int) - 1) = (q : Int) - 1 := IntWalk.i64_in _ (by omega)
              clear hk6 hcs6 hcl6 hacc hq
              go_wp2_with (first
                | (at_builtin; refine wpList_appendL rfl (.tmp 202) (.tmp 206) 92 rfl wp.heap.size 5 (.int .u8 0) 1 1 encU8 Tryz.underlying92 (by kernel_rfl) rfl (by omega) encU8_len encU8_one _ acc ((List.range C).map (SG q)) rfl hrow.out ad C C rfl (by simp) Hcl6.out (by omega) (by simp; omega) (by omega) hbs ?_; intro A1 c1 w6 hrow6 hb6 hkeep6)
                | (at_builtin; refine wpList_append1 rfl (.tmp 207) (.tmp 208) 92 rfl wp.heap.size 5 (.int .u8 0) 1 1 encU8 Tryz.underlying92 (by kernel_rfl) rfl (by omega) encU8_len encU8_one _ (acc ++ (List.range C).map (SG q)) 10 rfl (hrow6.alloc _) _ rfl (Blk.new w6 5 #[.int .u8 10]) (by simp; omega) (by omega) (le_alloc (Nat.le_trans hbs hb6.size) _) ?_; intro A9 c9 w9 hrow9 hb9 hkeep9))
              have hB9 := hide (((hbr.out.trans hb6).alloc (Nat.le_trans hbs hb6.size) _).trans hb9)
              go_roundw
              case rel => first | exact ⟨q, by omega, by go_num, ⟨acc ++ (List.range C).map (SG q) ++ [10], hide (by simpa using hrow9), hnext⟩, hB9⟩ | ((repeat apply Exists.intro); exact ⟨⟨q, by omega, by go_num, ⟨acc ++ (List.range C).map (SG q) ++ [10], hide (by simpa using hrow9), hnext⟩, hB9⟩, rfl⟩)
              case measure => simp [intOf] <;> omega
end Go.Proofs.YtmcjpdlkkpnhfaaGreat
