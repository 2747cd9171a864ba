/- The references of layers 9, 17 at a point: Covers, Contains, Inside. The reference of layer 47: the picture of a cell, and the drawing. -/
import Derived.Test.YtmcjpdlkkpnhfaaGreatRdb
import Derived.Test.YtmcjpdlkkpnhfaaGreatQbr
import Derived.Laws.Concat
namespace Go.Proofs.YtmcjpdlkkpnhfaaGreat
open Go.RowKit

set_option maxHeartbeats 4000000 in
theorem refCovers_pt (A : Option Addr) (l : List BoxD) (n c : Nat) (p : Pt) (w : World) {B : Nat} (h : BoxesAt w B A l) (hB : B ≤ w.heap.size) (hn : n = l.length) (hm : n ≤ 60000) :
    Calls Tryz.prog 150 #[.slice A n c, bx (ptBox p)] w fun e w' => e = .returned (.bool (someOf (holdsAt (ptBox p)) l)) ∧ Below w.heap.size w w' := by
  have HPa := hide (fun W => refParts_pt A n c p W)
  have HIn := hide (fun (W : World) (hz : Below w.heap.size w W) => refIn_pt A l n c p W (h.carry (Flat.carried _) (hz.mono hB) (Nat.le_refl _)) (Nat.le_trans hB hz.size) hn hm)
  obtain ⟨so, hso⟩ : ∃ so, so = someOf (holdsAt (ptBox p)) l := ⟨_, rfl⟩
  rw [← hso] at HIn ⊢
  obtain ⟨p1, p2, p3⟩ := p
  have HW := hide (below_new w (.cells #[.int .i64 p1, .int .i64 p2, .int .i64 p3, .int .i64 p1, .int .i64 p2, .int .i64 p3] 63))
  clear h hB hn hm hso
  simp only [bx, ptBox] at HPa HIn
  show Calls Tryz.prog 150 #[.slice A n c, .agg #[.int .i64 p1, .int .i64 p2, .int .i64 p3, .int .i64 p1, .int .i64 p2, .int .i64 p3]] w _
  go_enter Tryz.func150, Tryz.ntmps150
  go_wp2_with fail
  refine (HPa.out _).mono ?_
  rintro e w2 ⟨Ap, cp, rfl, hp, hb⟩
  have HP := hide hp
  have HW2 := hide (below_step HW.out hb (Nat.le_refl _))
  clear hb hp HPa HW
  go_wp2_with fail
  go_loopw [6] (fun iv wr => ∃ i : Nat, i ≤ 1 ∧ iv = .int .i64 i ∧ Hid (i = 1 → so = true) ∧ Hid (Below w2.heap.size w2 wr)) (fun iv _ => 1 - (intOf iv).toNat)
  case atStart => exact ⟨0, by omega, rfl, hide (fun h => by cases h), hide (Below.refl _ _)⟩
  case round =>
    obtain ⟨i, hi, rfl, hso, hbr⟩ := hrel
    have hbs := hbr.out.size
    have HWr := hide (below_step HW2.out hbr.out (Nat.le_refl _))
    rcases (show i = 0 ∨ i = 1 by omega) with rfl | rfl
    · obtain ⟨b, off, y, rfl, hbl, hy, y0, y1, y2, y3, y4, y5⟩ := BoxesAt.get (k := 0) (SlOf.carry (Flat.carried _) HP.out hbr.out hbs) (by simp)
      have hy' : y = ptBox (p1, p2, p3) := by simpa [ptBox] using hy.symm
      subst hy'
      simp only [ptBox, Nat.zero_mul, Nat.add_zero] at y0 y1 y2 y3 y4 y5
      clear hy hbl
      go_wp2_with fail
      refine (HIn.out _ HWr.out).mono ?_
      rintro e w5 ⟨rfl, hb⟩
      have hb5 := hide (hbr.out.trans (hb.mono hbs))
      have HW5 := hide (below_step HWr.out hb (Nat.le_refl _))
      clear hb HIn hbr y0 y1 y2 y3 y4 y5
      cases so
      · go_wp2_with fail
        go_ret
        exact ⟨rfl, HW5.out⟩
      · go_wp2_with fail
        go_roundw
        case rel => exact ⟨1, by omega, by go_num, hide (fun _ => by first | rfl | trivial), hb5⟩
        case measure => simp [intOf]
    · have ht := hso.out rfl
      subst ht
      go_wp2_with fail
      go_ret
      exact ⟨rfl, HWr.out⟩
set_option maxHeartbeats 4000000 in
theorem refContains17_pt (A1 A2 : Option Addr) (bs hs : List BoxD) (n1 c1 n2 c2 : Nat) (p : Pt) (w : World) {B : Nat} (h1 : BoxesAt w B A1 bs) (h2 : BoxesAt w B A2 hs) (hB : B ≤ w.heap.size) (hn1 : n1 = bs.length) (hn2 : n2 = hs.length) (hm1 : n1 ≤ 60000) (hm2 : n2 ≤ 60000) :
    Calls Tryz.prog 112 #[.agg #[.slice A1 n1 c1, .slice A2 n2 c2], bx (ptBox p)] w fun e w' => e = .returned (.bool (inSolid bs hs p)) ∧ Below w.heap.size w w' := by
  have HCv := hide (fun (W : World) (hz : Below w.heap.size w W) => refCovers_pt A1 bs n1 c1 p W (h1.carry (Flat.carried _) (hz.mono hB) (Nat.le_refl _)) (Nat.le_trans hB hz.size) hn1 hm1)
  have HCu := hide (fun (y : BoxD) (W : World) => refCuts17_any y (ptBox p) W)
  have H2 := hide (fun (W : World) (hz : Below w.heap.size w W) => h2.carry (Flat.carried _) (hz.mono hB) (Nat.le_refl B))
  have Hn2 := hide hn2
  have HB := hide hB
  have Hyes := hide (fun (k : Nat) (y : BoxD) (hy : hs[k]? = some y) (ht : opensB y (ptBox p) = true) => show inSolid bs hs p = false by
    rw [inSolid, show someOf (opensAt (ptBox p)) hs = true from List.any_eq_true.2 ⟨y, mem_of_get hy, ht⟩]
    rfl)
  have Hno := hide (fun (h9 : ∀ y ∈ hs, opensB y (ptBox p) = false) => show inSolid bs hs p = someOf (holdsAt (ptBox p)) bs by
    rw [inSolid, show someOf (opensAt (ptBox p)) hs = false from List.any_eq_false.2 (fun y hy => by have := h9 y hy; simp [opensAt, this])]
    rfl)
  have Hst := hide (fun (k : Nat) (y : BoxD) (hy : hs[k]? = some y) (hp : ∀ z ∈ hs.take k, opensB z (ptBox p) = false) (ht : opensB y (ptBox p) = false) => show ∀ z ∈ hs.take (k + 1), opensB z (ptBox p) = false by
    rw [take_snoc' hy]
    intro z hz
    rcases List.mem_append.1 hz with h8 | h8
    · exact hp z h8
    · rw [List.mem_singleton.1 h8]; exact ht)
  obtain ⟨so, hso⟩ : ∃ so, so = someOf (holdsAt (ptBox p)) bs := ⟨_, rfl⟩
  rw [← hso] at HCv Hno
  obtain ⟨ins, hins⟩ : ∃ ins, ins = inSolid bs hs p := ⟨_, rfl⟩
  rw [← hins] at Hyes Hno ⊢
  obtain ⟨p1, p2, p3⟩ := p
  have HW := hide (below_new2 w (.cells #[.slice A1 n1 c1, .slice A2 n2 c2] 24) (.cells #[.int .i64 p1, .int .i64 p2, .int .i64 p3, .int .i64 p1, .int .i64 p2, .int .i64 p3] 63))
  have KS := hide ((Blk.new w 24 #[.slice A1 n1 c1, .slice A2 n2 c2]).alloc (.cells #[.int .i64 p1, .int .i64 p2, .int .i64 p3, .int .i64 p1, .int .i64 p2, .int .i64 p3] 63))
  have KB := hide (Blk.new1 w (.cells #[.slice A1 n1 c1, .slice A2 n2 c2] 24) 63 #[.int .i64 p1, .int .i64 p2, .int .i64 p3, .int .i64 p1, .int .i64 p2, .int .i64 p3])
  obtain ⟨w1, hw1⟩ : ∃ W, W = (w.alloc (.cells #[.slice A1 n1 c1, .slice A2 n2 c2] 24)).alloc (.cells #[.int .i64 p1, .int .i64 p2, .int .i64 p3, .int .i64 p1, .int .i64 p2, .int .i64 p3] 63) := ⟨_, rfl⟩
  clear h1 h2 hn1 hn2 hB hso hins
  show Calls Tryz.prog 112 #[.agg #[.slice A1 n1 c1, .slice A2 n2 c2], .agg #[.int .i64 p1, .int .i64 p2, .int .i64 p3, .int .i64 p1, .int .i64 p2, .int .i64 p3]] w _
  go_enter Tryz.func112, Tryz.ntmps112
  go_wp2_with fail
  rw [← hw1] at HW KS KB ⊢
  clear hw1
  go_loopw [5] (fun iv wr => ∃ k : Nat, k ≤ n2 ∧ iv = .int .i64 k ∧ Hid (∀ z ∈ hs.take k, opensB z (ptBox (p1, p2, p3)) = false) ∧ Hid (Below w1.heap.size w1 wr)) (fun iv _ => n2 - (intOf iv).toNat)
  case atStart => exact ⟨0, Nat.zero_le _, rfl, hide (by simp), hide (Below.refl _ _)⟩
  case round =>
    obtain ⟨k, hk, rfl, hpre, hbr⟩ := hrel
    have hbs := hbr.out.size
    have HWr := hide (below_step HW.out hbr.out (Nat.le_refl _))
    have ks := KS.out.below hbr.out KS.out.lt
    have s0 := ks.cell 0
    have s1 := ks.cell 1
    simp at s0 s1
    have ls := ks.lt
    have kb := KB.out.below hbr.out KB.out.lt
    by_cases hlt : k < n2
    · have dk : decide ((k : Int) < (n2 : Int)) = true := by simp; omega
      obtain ⟨b, off, y, rfl, hbl, hy, y0, y1, y2, y3, y4, y5⟩ := BoxesAt.get (k := k) (H2.out _ HWr.out) (by rw [← Hn2.out]; exact hlt)
      have HCy := HCu.out y
      have Hst2 := hide (Hst.out k y hy hpre.out)
      have Hso2 := hide (Hyes.out k y hy)
      obtain ⟨t, ht⟩ : ∃ t, t = opensB y (ptBox (p1, p2, p3)) := ⟨_, rfl⟩
      rw [← ht] at HCy Hst2 Hso2
      obtain ⟨⟨q1, q2, q3⟩, q4, q5, q6⟩ := y
      simp only [bx, ptBox] at HCy
      have HCy := hide HCy
      simp only at y0
      have u0 := cell_regrown y0
      have u1 := cell_regrown y1
      have u2 := cell_regrown y2
      have u3 := cell_regrown y3
      have u4 := cell_regrown y4
      have u5 := cell_regrown y5
      have f0 := cell_regrown (kb.cell 0)
      have f1 := cell_regrown (kb.cell 1)
      have f2 := cell_regrown (kb.cell 2)
      have f3 := cell_regrown (kb.cell 3)
      have f4 := cell_regrown (kb.cell 4)
      have f5 := cell_regrown (kb.cell 5)
      have v1 := cell_regrown s1
      simp at f0 f1 f2 f3 f4 f5
      clear hy hpre ht kb ks y0 y1 y2 y3 y4 y5 s0
      cases t
      · have hpre2 := hide (Hst2.out rfl)
        clear Hst2 Hso2
        go_wp2_with fail
        refine wp_region_quiet_below (by kernel_rfl) (by kernel_rfl) ?_
        repeat (go_big_quiet_step (first
          | (go_at_call 149; first | with_reducible exact Calls.regrown_of (HCy.out _))))
        refine wpQuiet_nil ?_
        intro wq9 hw'
        have hbq := hide (show Below _ _ wq9 by obtain ⟨p9, rfl⟩ := hw'; exact below_regrown _ _ _)
        clear hw'
        have hb9 := hide (hbr.out.trans (hbq.out.mono hbs))
        go_wp2_with fail
        go_roundw
        case rel => exact ⟨k + 1, by omega, by go_num, hpre2, hb9⟩
        case measure => simp [intOf]; omega
      · have hso := Hso2.out rfl
        clear Hst2 Hso2
        go_wp2_with fail
        refine wp_region_quiet_below (by kernel_rfl) (by kernel_rfl) ?_
        repeat (go_big_quiet_step (first
          | (go_at_call 149; first | with_reducible exact Calls.regrown_of (HCy.out _))))
        refine wpQuiet_nil ?_
        intro wq9 hw'
        have hbq := hide (show Below _ _ wq9 by obtain ⟨p9, rfl⟩ := hw'; exact below_regrown _ _ _)
        clear hw'
        have hb9 := hide (hbr.out.trans (hbq.out.mono hbs))
        go_wp2_with fail
        go_ret
        exact ⟨by rw [hso]; rfl, below_step HW.out hb9.out (Nat.le_refl _)⟩
    · have f0 := kb.cell 0
      have f1 := kb.cell 1
      have f2 := kb.cell 2
      have f3 := kb.cell 3
      have f4 := kb.cell 4
      have f5 := kb.cell 5
      simp at f0 f1 f2 f3 f4 f5
      have lb := kb.lt
      obtain rfl : k = n2 := by omega
      have dk : decide ((k : Int) < (k : Int)) = false := by simp
      have hno := Hno.out (by have h9 := hpre.out; rwa [Hn2.out, List.take_length] at h9)
      subst hno
      have HCv9 := HCv.out _ HWr.out
      simp only [bx, ptBox] at HCv9
      have HCv9 := hide HCv9
      clear HCv hpre Hyes Hst Hno
      go_wp2_with fail
      refine HCv9.out.mono ?_
      rintro e w5 ⟨rfl, hb⟩
      have HW5 := hide (below_step HWr.out hb (Nat.le_refl _))
      clear hb HCv9
      go_wp2_with fail
      go_ret
      exact ⟨rfl, HW5.out⟩
set_option maxHeartbeats 1000000 in
theorem refInside17_any (A1 A2 : Option Addr) (bs hs : List BoxD) (n1 c1 n2 c2 : Nat) (p : Pt) (w : World) {B : Nat} (h1 : BoxesAt w B A1 bs) (h2 : BoxesAt w B A2 hs) (hB : B ≤ w.heap.size) (hn1 : n1 = bs.length) (hn2 : n2 = hs.length) (hm1 : n1 ≤ 60000) (hm2 : n2 ≤ 60000) :
    Calls Tryz.prog 76 #[.agg #[.slice A1 n1 c1, .slice A2 n2 c2], .agg #[.int .i64 p.1, .int .i64 p.2.1, .int .i64 p.2.2]] w fun e w' => e = .returned (.bool (inSolid bs hs p)) ∧ Below w.heap.size w w' := by
  have HC := hide (fun (W : World) (hz : Below w.heap.size w W) => refContains17_pt A1 A2 bs hs n1 c1 n2 c2 p W (h1.carry (Flat.carried _) (hz.mono hB) (Nat.le_refl _)) (h2.carry (Flat.carried _) (hz.mono hB) (Nat.le_refl _)) (Nat.le_trans hB hz.size) hn1 hn2 hm1 hm2)
  generalize inSolid bs hs p = t at *
  obtain ⟨p1, p2, p3⟩ := p
  simp only [bx, ptBox] at HC
  have HW := hide (below_new2 w (.cells #[.slice A1 n1 c1, .slice A2 n2 c2] 24) (.cells #[.int .i64 p1, .int .i64 p2, .int .i64 p3] 61))
  clear h1 h2 hB hn1 hn2
  show Calls Tryz.prog 76 #[.agg #[.slice A1 n1 c1, .slice A2 n2 c2], .agg #[.int .i64 p1, .int .i64 p2, .int .i64 p3]] w _
  go_enter Tryz.func76, Tryz.ntmps76
  go_wp2_with fail
  refine (HC.out _ HW.out).mono ?_
  rintro e w2 ⟨rfl, hb⟩
  have HF := hide (below_step HW.out hb (Nat.le_refl _))
  clear hb HC HW
  go_wp2_with fail
  go_ret
  exact ⟨rfl, HF.out⟩
end Go.Proofs.YtmcjpdlkkpnhfaaGreat
namespace Go.Proofs.YtmcjpdlkkpnhfaaGreat
open Go.RowKit

theorem solid_two {bs hs : List BoxD} (h : solidOk bs hs = true) : bs.length ≤ 20 ∧ hs.length ≤ 20 := by
  simp only [solidOk, Bool.and_eq_true, decide_eq_true_eq] at h
  exact ⟨h.1.1.1.2, h.1.1.2⟩
def plusAt (y z sc : Int) (p : PieceD) : Bool := cellS p.cut y z sc
def ringAt (y z sc : Int) (p : PieceD) : Bool := p.cross && cellS (dotB p) y z sc
def picS (l : List PieceD) (y z sc : Int) (ins : Bool) : UInt8 := sign3 (l.any (ringAt y z sc)) (l.any (plusAt y z sc)) ins
theorem any_snoc9 {α : Type} {p : α → Bool} {l : List α} {k : Nat} {y : α} (h : l[k]? = some y) : (l.take (k + 1)).any p = ((l.take k).any p || p y) := by
  rw [take_snoc' h, List.any_append]
  simp
set_option maxHeartbeats 8000000 in
set_option maxRecDepth 100000 in
theorem refPicture_ok (x : DetD) (s : DetS) (A : Option Addr) (L : List PieceD) (n c : Nat) (a y z sc : Int) (w : World) {B : Nat} (h : DetAt w B x s) (hL : PartsAt w B A L) (hB : B ≤ w.heap.size) (hf : DetFit x s) (hsd : solidOk x.mem.boxes x.mem.holes = true) (hn : n = L.length) (hm : n ≤ 12000)
    (hy : -4294967296 ≤ y ∧ y ≤ 4294967296) (hz : -4294967296 ≤ z ∧ z ≤ 4294967296) (hs : 1 ≤ sc ∧ sc ≤ 1048576) :
    Calls Tryz.prog 47 #[detV x s, .slice A n c, .int .i64 a, .int .i64 y, .int .i64 z, .int .i64 sc] w fun e w' => e = .returned (.string ⟨#[picS L y z sc (inSolid x.mem.boxes x.mem.holes (a, y, z))]⟩) ∧ Below w.heap.size w w' := by
  have HIn := hide (fun (W : World) (hq : Below w.heap.size w W) => refInside17_any s.a1 s.a2 x.mem.boxes x.mem.holes s.n1 s.c1 s.n2 s.c2 (a, y, z) W (h.h1.carry (Flat.carried _) (hq.mono hB) (Nat.le_refl _)) (h.h2.carry (Flat.carried _) (hq.mono hB) (Nat.le_refl _)) (Nat.le_trans hB hq.size) hf.l1 hf.l2 (by have := hf.l1; have := (solid_two hsd).1; omega) (by have := hf.l2; have := (solid_two hsd).2; omega))
  have HCe := hide (fun (b : BoxD) (W : World) => refCell47_any b y z sc W hy hz hs)
  have HL := hide (fun (W : World) (hq : Below w.heap.size w W) => SlOf.carry (Flat.carried _) hL (hq.mono hB) (Nat.le_refl B))
  have Hn := hide hn
  have HBw := hide hB
  have HW := hide (below_new w (.cells (detCells x.mem x.rule s) 34))
  have K0 := hide (Blk.new w 34 (detCells x.mem x.rule s))
  have Hpic := hide (fun (r p i : Bool) (h1 : L.any (ringAt y z sc) = r) (h2 : L.any (plusAt y z sc) = p) (h3 : inSolid x.mem.boxes x.mem.holes (a, y, z) = i) => show picS L y z sc (inSolid x.mem.boxes x.mem.holes (a, y, z)) = sign3 r p i by rw [picS, h1, h2, h3])
  obtain ⟨ins, hins⟩ : ∃ i, i = inSolid x.mem.boxes x.mem.holes (a, y, z) := ⟨_, rfl⟩
  rw [← hins] at HIn Hpic ⊢
  generalize picS L y z sc ins = pic at *
  have Hring := hide (fun (k : Nat) (p : PieceD) (hp : L[k]? = some p) (ht : ringAt y z sc p = true) => show L.any (ringAt y z sc) = true from List.any_eq_true.2 ⟨p, mem_of_get hp, ht⟩)
  clear h hL hB hf hsd hn hins
  obtain ⟨mem, bars, runs, laps, dems, rule⟩ := x
  obtain ⟨a1, n1, c1, a2, n2, c2, a3, n3, c3, a4, n4, c4, a5, n5, c5, a6, n6, c6⟩ := s
  obtain ⟨name, boxes, holes, cover, agg, poker⟩ := mem
  obtain ⟨r1, r2, r3, r4, r5, r6, r7, r8, r9⟩ := rule
  simp only [detCells] at K0 HW
  simp only at HIn Hpic
  obtain ⟨w1, hw1⟩ : ∃ W, W = w.alloc (.cells #[.string name, .slice a1 n1 c1, .slice a2 n2 c2, .int .i64 cover, .int .i64 agg, .int .i64 poker, .slice a3 n3 c3, .slice a4 n4 c4, .slice a5 n5 c5, .slice a6 n6 c6, .int .i64 r1, .int .i64 r2, .int .i64 r3, .int .i64 r4, .int .i64 r5, .int .i64 r6, .int .i64 r7, .int .i64 r8, .int .i64 r9] 34) := ⟨_, rfl⟩
  show Calls Tryz.prog 47 #[.agg #[.string name, .slice a1 n1 c1, .slice a2 n2 c2, .int .i64 cover, .int .i64 agg, .int .i64 poker, .slice a3 n3 c3, .slice a4 n4 c4, .slice a5 n5 c5, .slice a6 n6 c6, .int .i64 r1, .int .i64 r2, .int .i64 r3, .int .i64 r4, .int .i64 r5, .int .i64 r6, .int .i64 r7, .int .i64 r8, .int .i64 r9], .slice A n c, .int .i64 a, .int .i64 y, .int .i64 z, .int .i64 sc] w _
  go_enter Tryz.func47, Tryz.ntmps47
  go_wp2_with fail
  rw [← hw1] at HW K0 ⊢
  clear hw1
  go_loopw [13, 14] (fun v iv wr => ∃ k : Nat, k ≤ n ∧ iv = .int .i64 k ∧ (∃ t : Bool, v = .bool t ∧ Hid (t = (L.take k).any (plusAt y z sc))) ∧ Hid ((L.take k).any (ringAt y z sc) = false) ∧ Hid (Below w1.heap.size w1 wr)) (fun _ iv _ => n - (intOf iv).toNat)
  case atStart => exact ⟨0, Nat.zero_le _, rfl, ⟨false, rfl, hide (by simp)⟩, hide (by simp), hide (Below.refl _ _)⟩
  case round =>
    rename World => wq
    obtain ⟨k, hk, rfl, ⟨t, rfl, ht⟩, hrg, hbr⟩ := hrel
    have hbs := hbr.out.size
    have HWr := hide (below_step HW.out hbr.out (Nat.le_refl _))
    by_cases hlt : k < n
    · have dk : decide ((k : Int) < (n : Int)) = true := by simp; omega
      obtain ⟨b, off, p, rfl, hbl, hx, hc⟩ := PartsAt.get (k := k) (HL.out _ HWr.out) (by rw [← Hn.out]; exact hlt)
      have HPl := hide (any_snoc9 (p := plusAt y z sc) hx)
      have HRg := hide (any_snoc9 (p := ringAt y z sc) hx)
      have Hall := hide (Hring.out k p hx)
      have HCd := HCe.out (dotB p)
      have HCc := HCe.out p.cut
      obtain ⟨u1, hu1⟩ : ∃ u, u = cellS (dotB p) y z sc := ⟨_, rfl⟩
      obtain ⟨u2, hu2⟩ : ∃ u, u = cellS p.cut y z sc := ⟨_, rfl⟩
      have hr1 : ringAt y z sc p = (p.cross && u1) := by rw [hu1]; rfl
      have hp2 : plusAt y z sc p = u2 := by rw [hu2]; rfl
      rw [← hu1] at HCd
      rw [← hu2] at HCc
      rw [hr1] at HRg Hall
      rw [hp2, ← ht.out] at HPl
      rw [hrg.out] at HRg
      obtain ⟨⟨⟨x1, x2, x3⟩, x4, x5, x6⟩, br, sz, cr⟩ := p
      simp only [bx, dotB] at HCd HCc HRg Hall
      have HCd := hide HCd
      have HCc := hide HCc
      have p0 := hc 0 _ rfl
      have p1 := hc 1 _ rfl
      have p2 := hc 2 _ rfl
      have p3 := hc 3 _ rfl
      have p4 := hc 4 _ rfl
      have p5 := hc 5 _ rfl
      have p7 := hc 7 _ rfl
      simp only [Nat.add_zero] at p0 p1 p2 p3 p4 p5 p7
      have hB1 := hide (hbr.out.alloc hbs (.cells #[.int .i64 x1, .int .i64 x2, .int .i64 x3, .int .i64 x4, .int .i64 x5, .int .i64 x6] 63))
      have KC := hide (Blk.new wq 63 #[.int .i64 x1, .int .i64 x2, .int .i64 x3, .int .i64 x4, .int .i64 x5, .int .i64 x6])
      have hbw : b < wq.heap.size := by have h8 := HBw.out; have h9 := HWr.out.size; omega
      clear hx hc hu1 hu2 hr1 hp2 hbl
      cases cr
      · have Hrg := hide (show (L.take (k + 1)).any (ringAt y z sc) = false from HRg.out.trans (by simp))
        cases t
        · go_wp2_with fail
          refine (HCc.out _).mono ?_
          rintro e wz ⟨rfl, hb⟩
          have HBx := hide (hB1.out.trans (hb.mono hB1.out.size))
          have Hpl := hide (show u2 = _ from HPl.out.symm)
          clear hb hB1 KC HCd HCc p0 p1 p2 p3 p4 p5 p7
          go_wp2_with fail
          go_roundw
          case rel => exact ⟨k + 1, by omega, by go_num, ⟨_, rfl, Hpl⟩, Hrg, HBx⟩
          case measure => simp [intOf]; omega
        · have HBx := hB1
          have Hpl := hide (show true = (L.take (k + 1)).any (plusAt y z sc) by rw [HPl.out]; rfl)
          go_wp2_with fail
          go_roundw
          case rel => exact ⟨k + 1, by omega, by go_num, ⟨_, rfl, Hpl⟩, Hrg, HBx⟩
          case measure => simp [intOf]; omega
      · go_wp2_with fail
        refine (HCd.out _).mono ?_
        rintro e wz ⟨rfl, hb⟩
        have HBz := hide (hB1.out.trans (hb.mono hB1.out.size))
        have KZ := hide (KC.out.keep hb)
        clear hb hB1 KC HCd p0 p1 p2 p3 p4 p5 p7
        cases u1
        · have Hrg := hide (show (L.take (k + 1)).any (ringAt y z sc) = false from HRg.out.trans (by simp))
          have c0 := KZ.out.cell 0
          have c1 := KZ.out.cell 1
          have c2 := KZ.out.cell 2
          have c3 := KZ.out.cell 3
          have c4 := KZ.out.cell 4
          have c5 := KZ.out.cell 5
          simp at c0 c1 c2 c3 c4 c5
          have lz := KZ.out.lt
          cases t
          · go_wp2_with fail
            refine (HCc.out _).mono ?_
            rintro e wy ⟨rfl, hb⟩
            have HBx := hide (HBz.out.trans (hb.mono HBz.out.size))
            have Hpl := hide (show u2 = _ from HPl.out.symm)
            clear hb HBz KZ HCc c0 c1 c2 c3 c4 c5 lz
            go_wp2_with fail
            go_roundw
            case rel => exact ⟨k + 1, by omega, by go_num, ⟨_, rfl, Hpl⟩, Hrg, HBx⟩
            case measure => simp [intOf]; omega
          · have HBx := HBz
            have Hpl := hide (show true = (L.take (k + 1)).any (plusAt y z sc) by rw [HPl.out]; rfl)
            clear KZ HCc c0 c1 c2 c3 c4 c5 lz
            go_wp2_with fail
            go_roundw
            case rel => exact ⟨k + 1, by omega, by go_num, ⟨_, rfl, Hpl⟩, Hrg, HBx⟩
            case measure => simp [intOf]; omega
        · have hpic := Hpic.out true _ _ (Hall.out rfl) rfl rfl
          clear HCc HRg HPl
          go_wp2_with fail
          go_ret
          exact ⟨by rw [hpic]; rfl, below_step HW.out HBz.out (Nat.le_refl _)⟩
    · obtain rfl : k = n := by omega
      have dk : decide ((k : Int) < (k : Int)) = false := by simp
      have hrg' : L.any (ringAt y z sc) = false := by have h9 := hrg.out; rwa [Hn.out, List.take_length] at h9
      have ht' : L.any (plusAt y z sc) = t := by rw [ht.out, Hn.out, List.take_length]
      have KK := K0.out.below hbr.out K0.out.lt
      have f1 := KK.cell 1
      have f2 := KK.cell 2
      simp at f1 f2
      have lk := KK.lt
      cases t
      · have hpic := Hpic.out false false _ hrg' ht' rfl
        have Hpi := hide hpic
        clear hpic ht' hrg' KK
        go_wp2_with fail
        refine (HIn.out _ HWr.out).mono ?_
        rintro e w5 ⟨rfl, hb⟩
        have HW5 := hide (below_step HWr.out hb (Nat.le_refl _))
        clear hb HIn f1 f2 lk
        cases ins
        · go_wp2_with fail
          go_ret
          exact ⟨by rw [Hpi.out]; rfl, HW5.out⟩
        · go_wp2_with fail
          go_ret
          exact ⟨by rw [Hpi.out]; rfl, HW5.out⟩
      · have hpic := Hpic.out false true _ hrg' ht' rfl
        have Hpi := hide hpic
        clear hpic ht' hrg' KK f1 f2 lk
        go_wp2_with fail
        go_ret
        exact ⟨by rw [Hpi.out]; rfl, HWr.out⟩
theorem picS_sign (x : DetD) (a sc : Int) (k c : Nat) : picS (cutsOf x a) ((hullOf x.mem.boxes).lo.2.1 + c * sc) ((hullOf x.mem.boxes).lo.2.2 + k * sc) sc (inSolid x.mem.boxes x.mem.holes (a, (hullOf x.mem.boxes).lo.2.1 + c * sc, (hullOf x.mem.boxes).lo.2.2 + k * sc)) = signS x a sc k c := rfl
theorem addT (a b : ByteArray) (h : a.size + b.size ≤ 100000000) (W : World) : (Op.stringOp .add a b).run Tryz.prog W = .ok (.string (a ++ b)) W := run_string_add_sum W a b (by omega)
end Go.Proofs.YtmcjpdlkkpnhfaaGreat
