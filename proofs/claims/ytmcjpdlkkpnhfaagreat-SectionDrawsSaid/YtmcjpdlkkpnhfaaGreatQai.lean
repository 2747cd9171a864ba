/- The hull of boxes. -/
import Derived.Test.YtmcjpdlkkpnhfaaGreatQag
namespace Go.Proofs.YtmcjpdlkkpnhfaaGreat
open Go.RowKit

/-- The hull of boxes, one given ahead. -/
def hullOn (a : BoxD) (l : List BoxD) : BoxD := l.foldl (fun a b => ⟨minP a.lo b.lo, maxP a.hi b.hi⟩) a
theorem hullOn_snoc (a : BoxD) (l : List BoxD) (b : BoxD) : hullOn a (l ++ [b]) = ⟨minP (hullOn a l).lo b.lo, maxP (hullOn a l).hi b.hi⟩ := by simp [hullOn, List.foldl_append]
def hullOf (l : List BoxD) : BoxD := match l with
  | [] => ⟨(0, 0, 0), (0, 0, 0)⟩
  | b :: _ => hullOn b l
set_option maxHeartbeats 400000 in
theorem boxAll_any (A : Option Addr) (l : List BoxD) (n c : Nat) (w : World) {B : Nat} (h : BoxesAt w B A l) (hB : B ≤ w.heap.size) (hn : n = l.length) (hm : n ≤ 300000) :
    Calls Tryz.prog 80 #[.slice A n c] w fun e w' => e = .returned (.bool (l.all boxOk)) ∧ Below w.heap.size w w' := by
  have HF := hide (containsFuncBox_any A l n c 121 badBox w h hB hn hm Tryz.call121 (fun x W _ => badBox_any x W))
  have Hr := hide (show l.all boxOk = !someOf badBox l by rw [all_some]; rfl)
  clear h hn
  go_enter Tryz.func80, Tryz.ntmps80
  go_wp2_with fail
  refine HF.out.mono ?_
  rintro e w2 ⟨rfl, hb2⟩
  go_wp2_with fail
  go_ret
  exact ⟨ret_bool Hr.out.symm, hb2⟩
set_option maxHeartbeats 4000000 in
set_option maxRecDepth 100000 in
theorem boxHull_ok (A : Option Addr) (l : List BoxD) (n c : Nat) (w : World) {B : Nat} (h : BoxesAt w B A l) (hB : B ≤ w.heap.size) (hn : n = l.length) (hm : n ≤ 300000) (hne : 1 ≤ n) (hok : l.all boxOk = true) :
    Calls Tryz.prog 50 #[.slice A n c] w fun e w' => e = .returned (.tuple #[bx (hullOf l), .int .i64 0]) ∧ Below w.heap.size w w' := by
  have HA := hide (fun (wz : World) (hz : Below w.heap.size w wz) => boxAll_any A l n c wz (h.carry (Flat.carried _) (hz.mono hB) (Nat.le_refl B)) (Nat.le_trans hB hz.size) hn hm)
  rw [hok] at HA
  have Hs := hide h
  have hn' := hide hn
  clear hok h hn
  obtain ⟨b0, h0⟩ : ∃ b, l[0]? = some b := ⟨_, List.getElem?_eq_getElem (by rw [← hn'.out]; omega)⟩
  have Hh := hide (show hullOf l = hullOn b0 l by
    cases l with
    | nil => simp at h0
    | cons b r => simp at h0; subst h0; rfl)
  have H0 := hide h0
  clear h0
  go_enter Tryz.func50, Tryz.ntmps50
  go_wp2_with fail
  have Hw := hide (below_new w (.cells #[.int .i64 0, .int .i64 0, .int .i64 0, .int .i64 0, .int .i64 0, .int .i64 0] 63))
  have Hb := hide (Blk.new w 63 #[.int .i64 0, .int .i64 0, .int .i64 0, .int .i64 0, .int .i64 0, .int .i64 0])
  refine (HA.out _ Hw.out).mono ?_
  rintro e w2 ⟨rfl, hb2⟩
  have Hw2 := hide (below_step Hw.out hb2 (Nat.le_refl _))
  have Hb2 := hide (Hb.out.keep hb2)
  have q0 : ((n : Int) == 0) = false := by simp; omega
  obtain ⟨b, off, x, hA, hbl, hx, k0, k1, k2, k3, k4, k5⟩ := BoxesAt.get (k := 0) (Hs.out.carry (Flat.carried _) (Hw2.out.mono hB) (Nat.le_refl B)) (by rw [← hn'.out]; omega)
  rw [H0.out] at hx
  injection hx with hx
  subst hx
  subst hA
  simp only [Nat.zero_mul, Nat.add_zero] at k0 k1 k2 k3 k4 k5
  have hpos : 0 < n := by omega
  clear hb2 hbl
  go_wp2_with fail
  obtain ⟨w3, hw3⟩ : ∃ w3, w3 = w2.alloc (.cells #[.int .i64 b0.lo.1, .int .i64 b0.lo.2.1, .int .i64 b0.lo.2.2, .int .i64 b0.hi.1, .int .i64 b0.hi.2.1, .int .i64 b0.hi.2.2] 63) := ⟨_, rfl⟩
  have Ho := hide (Blk.new w2 63 #[.int .i64 b0.lo.1, .int .i64 b0.lo.2.1, .int .i64 b0.lo.2.2, .int .i64 b0.hi.1, .int .i64 b0.hi.2.1, .int .i64 b0.hi.2.2])
  have Hw3 := hide (below_new w2 (.cells #[.int .i64 b0.lo.1, .int .i64 b0.lo.2.1, .int .i64 b0.lo.2.2, .int .i64 b0.hi.1, .int .i64 b0.hi.2.1, .int .i64 b0.hi.2.2] 63))
  have Hsz := hide (show w3.heap.size = w2.heap.size + 1 by rw [hw3]; simp)
  rw [← hw3] at Ho Hw3 ⊢
  clear hw3
  go_loopw [22] (fun i wr => ∃ k : Nat, k ≤ n ∧ i = .int .i64 k ∧ (∃ a1 a2 a3 b1 b2 b3 : Int, Blk wr w2.heap.size 63 #[.int .i64 a1, .int .i64 a2, .int .i64 a3, .int .i64 b1, .int .i64 b2, .int .i64 b3] ∧ Hid (hullOn b0 (l.take k) = ⟨(a1, a2, a3), (b1, b2, b3)⟩)) ∧ Below w2.heap.size w2 wr) (fun i _ => n - (intOf i).toNat)
  case atStart => exact ⟨0, Nat.zero_le _, rfl, ⟨_, _, _, _, _, _, Ho.out, hide rfl⟩, Hw3.out⟩
  case round =>
    obtain ⟨k, hk, rfl, ⟨a1, a2, a3, b1, b2, b3, hbo, hho⟩, hbr⟩ := hrel
    have Hbo := hide hbo
    clear hbo
    by_cases hlt : k < n
    · obtain ⟨b', off', y, hA, hbl, hy, e0, e1, e2, e3, e4, e5⟩ := BoxesAt.get (k := k) (Hs.out.carry (Flat.carried _) ((Hw2.out.trans (hbr.mono Hw2.out.size)).mono hB) (Nat.le_refl B)) (by rw [← hn'.out]; exact hlt)
      injection hA with hA
      injection hA with hA1 hA2
      subst hA1
      subst hA2
      obtain ⟨⟨y1, y2, y3⟩, ⟨z1, z2, z3⟩⟩ := y
      simp only at e0 e1 e2 e3 e4 e5
      have Hn := hide (show hullOn b0 (l.take (k + 1)) = ⟨(min a1 y1, min a2 y2, min a3 y3), (max b1 z1, max b2 z2, max b3 z3)⟩ by rw [take_snoc' hy, hullOn_snoc, hho.out]; rfl)
      have hbl2 : b < wr.heap.size := by have := (Hw2.out.trans (hbr.mono Hw2.out.size)).size; omega
      have g0 := Hbo.out.cell 0
      have g1 := Hbo.out.cell 1
      have g2 := Hbo.out.cell 2
      have g3 := Hbo.out.cell 3
      have g4 := Hbo.out.cell 4
      have g5 := Hbo.out.cell 5
      simp at g0 g1 g2 g3 g4 g5
      have f0 := Hbo.out.frozen 0
      have f1 := Hbo.out.frozen 1
      have f2 := Hbo.out.frozen 2
      have f3 := Hbo.out.frozen 3
      have f4 := Hbo.out.frozen 4
      have f5 := Hbo.out.frozen 5
      have hgl := Hbo.out.lt
      clear hy hho hbl
      go_wp2_with fail
      go_roundw
      case rel =>
        refine ⟨k + 1, by omega, by go_num, ⟨_, _, _, _, _, _, ((((((Hbo.out.set_ 0 _).set_ 1 _).set_ 2 _).set_ 3 _).set_ 4 _).set_ 5 _).alloc _, hide ?_⟩, ?_⟩
        · rw [Hn.out]
          simp only [if_min, if_max]
        · exact ((((((hbr.setCell (Nat.le_refl _) _).setCell (Nat.le_refl _) _).setCell (Nat.le_refl _) _).setCell (Nat.le_refl _) _).setCell (Nat.le_refl _) _).setCell (Nat.le_refl _) _).alloc (by simpa [World.setCell] using hbr.size) _
      case measure => simp [intOf]; omega
    · obtain rfl : k = n := by omega
      have hfull : hullOf l = ⟨(a1, a2, a3), (b1, b2, b3)⟩ := by rw [Hh.out, ← hho.out, hn'.out, List.take_length]
      have Hfull := hide hfull
      have Hr := hide (Hb2.out.below hbr (by have := Hb2.out.lt; omega))
      have g0 := Hbo.out.cell 0
      have g1 := Hbo.out.cell 1
      have g2 := Hbo.out.cell 2
      have g3 := Hbo.out.cell 3
      have g4 := Hbo.out.cell 4
      have g5 := Hbo.out.cell 5
      simp at g0 g1 g2 g3 g4 g5
      have m0 := Hr.out.cell 0
      have m1 := Hr.out.cell 1
      have m2 := Hr.out.cell 2
      have m3 := Hr.out.cell 3
      have m4 := Hr.out.cell 4
      have m5 := Hr.out.cell 5
      simp at m0 m1 m2 m3 m4 m5
      have f0 := Hr.out.frozen 0
      have f1 := Hr.out.frozen 1
      have f2 := Hr.out.frozen 2
      have f3 := Hr.out.frozen 3
      have f4 := Hr.out.frozen 4
      have f5 := Hr.out.frozen 5
      have hgl := Hr.out.lt
      have Hw9 := hide (Hw2.out.trans (hbr.mono Hw2.out.size))
      clear hho hfull
      go_wp2_with fail
      refine bodyPost_ret (results_ct rfl rfl ((((((Hr.out.set_ 0 _).set_ 1 _).set_ 2 _).set_ 3 _).set_ 4 _).set_ 5 _) Tryz.underlying63 rfl (by kernel_rfl)) rfl ?_
      refine ⟨by rw [Hfull.out]; rfl, ?_⟩
      exact (((((Hw9.out.setCell (Nat.le_refl _) _).setCell (Nat.le_refl _) _).setCell (Nat.le_refl _) _).setCell (Nat.le_refl _) _).setCell (Nat.le_refl _) _).setCell (Nat.le_refl _) _
end Go.Proofs.YtmcjpdlkkpnhfaaGreat
