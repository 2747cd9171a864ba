/- Cutting plans: checked, what they use, and their waste. -/
import Derived.Test.YtnhmdgkhmkeopaaGreatDoorRight
import Derived.OwnWalk
namespace Go.Proofs.YtnhmdgkhmkeopaaGreatDoor
open Go.RowKit

def chkOk (s : List StkD) (l : List PieD) : Bool := stkOk s && ordOk l
def chkB (s : List StkD) (l : List PieD) (p : List PatD) : Bool := chkOk s l && rightOk s l p
def chkE (s : List StkD) (l : List PieD) : Int := if chkOk s l then 0 else 1
structure SLP (w : World) (B : Nat) (AS : Option Addr) (s : List StkD) (n1 : Nat) (A : Option Addr) (l : List PieD) (n2 : Nat) (AP : Option Addr) (p : List PatD) (n3 : Nat) : Prop where
  hs : StksAt w B AS s
  hl : PiesAt w B A l
  hp : PatsAt w B AP p
  hn1 : n1 = s.length
  hn2 : n2 = l.length
  hn3 : n3 = p.length
  m1 : n1 ≤ 60000
  m2 : n2 ≤ 60000
  m3 : n3 ≤ 60000
theorem SLP.carry {w w' : World} {B B' : Nat} {AS A AP : Option Addr} {s : List StkD} {l : List PieD} {p : List PatD} {n1 n2 n3 : Nat} (h : SLP w B AS s n1 A l n2 AP p n3) (hb : Below B w w') (hB : B ≤ B') : SLP w' B' AS s n1 A l n2 AP p n3 :=
  ⟨h.hs.carry (Flat.carried _) hb hB, h.hl.carry (Flat.carried _) hb hB, h.hp.carry patR_carried hb hB, h.hn1, h.hn2, h.hn3, h.m1, h.m2, h.m3⟩
section
variable {AS A AP : Option Addr} {s : List StkD} {l : List PieD} {p : List PatD} {n1 n2 n3 : Nat} {w : World} {B : Nat}
set_option maxHeartbeats 1000000 in
theorem check_any (c1 c2 c3 : Nat) (h : SLP w B AS s n1 A l n2 AP p n3) (hB : B ≤ w.heap.size) :
    Calls Tryz.prog 23 #[.slice AS n1 c1, .slice A n2 c2, .slice AP n3 c3] w fun e w' => e = .returned (.tuple #[.bool (chkB s l p), .int .i64 (chkE s l)]) ∧ Below w.heap.size w w' := by
  have HS := hide (stockValid_any AS s n1 c1 w h.hs hB h.hn1 h.m1)
  have HO := hide (fun (wz : World) (hz : Below w.heap.size w wz) => stockOrder_any A l n2 c2 wz (h.carry (hz.mono hB) (Nat.le_refl _)).hl (Nat.le_trans hB hz.size) h.hn2 h.m2)
  have HR := hide (fun (wz : World) (hz : Below w.heap.size w wz) (h1 : stkOk s = true) (h2 : ordOk l = true) => right_any AS s n1 c1 A l n2 c2 AP p n3 c3 wz (h.carry (hz.mono hB) (Nat.le_refl _)).hs (h.carry (hz.mono hB) (Nat.le_refl _)).hl (h.carry (hz.mono hB) (Nat.le_refl _)).hp (Nat.le_trans hB hz.size) h.hn1 h.hn2 h.hn3 h.m3 h1 h2)
  clear h
  cases h1 : stkOk s
  · have e1 := hide (show chkB s l p = false by rw [chkB, chkOk, h1]; rfl)
    have e2 := hide (show chkE s l = 1 by rw [chkE, chkOk, h1]; rfl)
    rw [h1] at HS
    clear HR h1
    go_enter Tryz.func23, Tryz.ntmps23
    go_wp2_with fail
    refine HS.out.mono ?_
    rintro e w2 ⟨rfl, hb2⟩
    go_wp2_with fail
    go_ret2
    exact ⟨by rw [e1.out, e2.out]; rfl, hb2⟩
  · cases h2 : ordOk l
    · have e1 := hide (show chkB s l p = false by rw [chkB, chkOk, h1, h2]; rfl)
      have e2 := hide (show chkE s l = 1 by rw [chkE, chkOk, h1, h2]; rfl)
      rw [h1] at HS
      rw [h2] at HO
      clear HR h1 h2
      go_enter Tryz.func23, Tryz.ntmps23
      go_wp2_with fail
      refine HS.out.mono ?_
      rintro e w2 ⟨rfl, hb2⟩
      clear HS
      go_wp2_with fail
      refine (HO.out _ hb2).mono ?_
      rintro e w3 ⟨rfl, hb3⟩
      have Hb := hide (below_step hb2 hb3 (Nat.le_refl _))
      clear hb2 hb3
      go_wp2_with fail
      go_ret2
      exact ⟨by rw [e1.out, e2.out]; rfl, Hb.out⟩
    · have e1 := hide (show chkB s l p = rightOk s l p by rw [chkB, chkOk, h1, h2]; rfl)
      have e2 := hide (show chkE s l = 0 by rw [chkE, chkOk, h1, h2]; rfl)
      have HR := hide (fun wz hz => HR.out wz hz h1 h2)
      rw [h1] at HS
      rw [h2] at HO
      clear h1 h2
      go_enter Tryz.func23, Tryz.ntmps23
      go_wp2_with fail
      refine HS.out.mono ?_
      rintro e w2 ⟨rfl, hb2⟩
      clear HS
      go_wp2_with fail
      refine (HO.out _ hb2).mono ?_
      rintro e w3 ⟨rfl, hb3⟩
      have Hb := hide (below_step hb2 hb3 (Nat.le_refl _))
      clear hb2 hb3
      go_wp2_with fail
      refine (HR.out _ Hb.out).mono ?_
      rintro e w4 ⟨rfl, hb4⟩
      have Hb4 := hide (below_step Hb.out hb4 (Nat.le_refl _))
      clear hb4 HR HO Hb
      go_wp2_with fail
      go_ret2
      exact ⟨by rw [e1.out, e2.out]; rfl, Hb4.out⟩
set_option maxHeartbeats 2000000 in
theorem used_ok (c1 c3 : Nat) (h : SLP w B AS s n1 A l n2 AP p n3) (hB : B ≤ w.heap.size) (hso : stkOk s = true) (hpo : planOk s.length p = true) :
    Calls Tryz.prog 24 #[.slice AS n1 c1, .slice AP n3 c3] w fun e w' => e = .returned (.tuple #[.int .i64 (usedN p), .int .i64 (usedSum s p), .int .i64 0]) ∧ Below w.heap.size w w' := by
  have HS := stockValid_any AS s n1 c1 w h.hs hB h.hn1 h.m1
  rw [hso] at HS
  have HS := hide HS
  have HP := fun (wz : World) (hz : Below w.heap.size w wz) => cutPlan_any AS n1 c1 AP p n3 c3 wz (h.carry (hz.mono hB) (Nat.le_refl _)).hp (Nat.le_trans hB hz.size) h.hn3 h.m3
  rw [h.hn1, hpo, ← h.hn1] at HP
  have HP := hide HP
  have Hmem := hide (fun x (hx : x ∈ p) => planOk_mem hpo hx)
  have Hs := hide h.hs
  have Hp := hide h.hp
  have hn1' := hide h.hn1
  have hn3' := hide h.hn3
  have h1000 : n3 ≤ 1000 := by rw [h.hn3]; exact planOk_len hpo
  have Hso := hide hso
  have Hrange := hide (fun k => used_range hso (p.take k) (fun x hx => planOk_mem hpo (List.mem_of_mem_take hx)))
  clear h hso hpo
  go_enter Tryz.func24, Tryz.ntmps24
  go_wp2_with fail
  refine HS.out.mono ?_
  rintro e w2 ⟨rfl, hb2⟩
  clear HS
  go_wp2_with fail
  refine (HP.out _ hb2).mono ?_
  rintro e w3 ⟨rfl, hb3⟩
  have Hb := hide (below_step hb2 hb3 (Nat.le_refl _))
  clear hb2 hb3 HP
  go_wp2_with fail
  go_loopw [7, 8, 22] (fun v7 v8 i wr => ∃ k : Nat, k ≤ n3 ∧ i = .int .i64 k ∧ (∃ a b : Int, v7 = .int .i64 a ∧ v8 = .int .i64 b ∧ Hid (a = usedN (p.take k)) ∧ Hid (b = usedSum s (p.take k))) ∧ Below w.heap.size w wr) (fun _ _ i _ => n3 - (intOf i).toNat)
  case atStart => exact ⟨0, Nat.zero_le _, rfl, ⟨0, 0, rfl, rfl, hide rfl, hide rfl⟩, Hb.out⟩
  case round =>
    clear Hb
    obtain ⟨k, hk, rfl, ⟨a, sb, rfl, rfl, ha, hsb⟩, hbr⟩ := hrel
    obtain ⟨⟨r0, r1⟩, r2, r3⟩ := Hrange.out k
    rw [← ha.out] at r0 r1
    rw [← hsb.out] at r2 r3
    have hlk : (p.take k).length ≤ 1000 := Nat.le_trans (List.length_take_le _ _) (by omega)
    by_cases hlt : k < n3
    · obtain ⟨b, off, x, A', c', hA, hbl, hx, hi, e0, e1, e2⟩ := PatsAt.get (k := k) Hp.out (by rw [← hn3'.out]; exact hlt)
      subst hA
      have hbw0 : b < w.heap.size := by omega
      replace e0 := (hbr.cell (p := ⟨b, off + k * 3, none⟩) hbw0).trans e0
      replace e1 := (hbr.cell (p := ⟨b, off + k * 3 + 1, none⟩) hbw0).trans e1
      replace e2 := (hbr.cell (p := ⟨b, off + k * 3 + 2, none⟩) hbw0).trans e2
      obtain ⟨t0, t1, t2, t3⟩ := Hmem.out x (mem_of_get hx)
      have Hn := hide (show usedN (p.take (k + 1)) = a + x.times by rw [take_snoc' hx, usedN_snoc, ha.out])
      have Hsum := hide (show usedSum s (p.take (k + 1)) = sb + x.times * lenAt s x.stock by rw [take_snoc' hx, usedSum_snoc, hsb.out])
      obtain ⟨st, ps, ti⟩ := x
      simp only at t0 t1 t2 t3 e0 e1 e2 Hn Hsum hi
      obtain ⟨j, rfl⟩ := Int.eq_ofNat_of_zero_le t0
      have hj : j < n1 := by have := hn1'.out; omega
      obtain ⟨bs, os, y, hAS, hbs, hy, y0, y1⟩ := StksAt.get (k := j) (Hs.out.carry (Flat.carried _) (hbr.mono hB) (Nat.le_refl _)) (by rw [← hn1'.out]; exact hj)
      subst hAS
      have hyr := stkOk_mem Hso.out (mem_of_get hy)
      have hyl : lenAt s (j : Int) = y.length := by rw [lenAt, show ((j : Int)).toNat = j from rfl, hy]
      rw [hyl] at Hsum
      obtain ⟨yl, yc⟩ := y
      simp only at hyr y0 y1 Hsum
      have hbs2 : bs < wr.heap.size := by have := hbr.size; omega
      have z0 : 0 ≤ ti * yl := Int.mul_nonneg (by omega) (by omega)
      have z1 : ti * yl ≤ 1000000 * 1048576 := Int.mul_le_mul t3 hyr.2 (by omega) (by omega)
      generalize ps.length = q at *
      clear hx hi hy hyl y1 hbl hbs
      go_wp2_with fail
      obtain ⟨w1, hw1⟩ : ∃ w1, w1 = wr.alloc (.cells #[.int .i64 j, .slice A' q c', .int .i64 ti] 63) := ⟨_, rfl⟩
      have bP := Blk.new wr 63 #[.int .i64 j, .slice A' q c', .int .i64 ti]
      have Hb1 := hide (hbr.alloc hbr.size (.cells #[.int .i64 j, .slice A' q c', .int .i64 ti] 63))
      have y2 := (World.cell?_alloc_lt _ (.cells #[.int .i64 j, .slice A' q c', .int .i64 ti] 63) ⟨bs, os + j * 2, none⟩ hbs2).trans y0
      rw [← hw1] at bP Hb1 y2 ⊢
      have g0 := bP.cell 0
      have g1 := bP.cell 1
      have g2 := bP.cell 2
      simp at g0 g1 g2
      clear hw1 e0 e1 e2 y0 bP
      have s1 : IntKind.i64.wrap (ti * yl) = ti * yl := IntWalk.i64_in _ (by omega)
      have s2 : IntKind.i64.wrap (sb + ti * yl) = sb + ti * yl := IntWalk.i64_in _ (by omega)
      have s3 : IntKind.i64.wrap (a + ti) = a + ti := IntWalk.i64_in _ (by omega)
      go_quiet (fail)
      clear s1 s2 s3
      go_wp2_with fail
      go_roundw
      case rel => exact ⟨k + 1, by omega, by go_num, ⟨_, _, rfl, rfl, hide (by rw [Hn.out]), hide (by rw [Hsum.out])⟩, below_drewQ Hb1.out _⟩
      case measure => simp [intOf]; omega
    · obtain rfl : k = n3 := by omega
      have f1 := hide (show a = usedN p by rw [ha.out, hn3'.out, List.take_length])
      have f2 := hide (show sb = usedSum s p by rw [hsb.out, hn3'.out, List.take_length])
      go_wp2_with fail
      go_ret3
      exact ⟨by rw [f1.out, f2.out]; rfl, hbr⟩
def wasteE (s : List StkD) (l : List PieD) (_p : List PatD) : Int := if chkOk s l then 13 else 1
theorem usedOk_of (h : chkB s l p = true) : stkOk s = true ∧ ordOk l = true ∧ rightOk s l p = true ∧ planOk s.length p = true := by
  simp only [chkB, chkOk, Bool.and_eq_true] at h
  exact ⟨h.1.1, h.1.2, h.2, rightOk_plan h.2⟩
theorem waste_range (h : chkB s l p = true) : (0 ≤ usedN p ∧ usedN p ≤ 1000000000) ∧ (0 ≤ usedSum s p ∧ usedSum s p ≤ 1048576000000000) ∧ (0 ≤ ordSum l ∧ ordSum l ≤ 209715200000000) := by
  obtain ⟨h1, h2, _, h4⟩ := usedOk_of h
  have a := used_range h1 p (fun x hx => planOk_mem h4 hx)
  have b := ordSum_range l (fun x hx => ordOk_mem h2 hx)
  have c := planOk_len h4
  have d := ordOk_len h2
  omega
set_option maxHeartbeats 1000000 in
theorem waste_no (c1 c2 c3 : Nat) (h : SLP w B AS s n1 A l n2 AP p n3) (hB : B ≤ w.heap.size) (hc : chkB s l p = false) :
    Calls Tryz.prog 25 #[.slice AS n1 c1, .slice A n2 c2, .slice AP n3 c3] w fun e w' => e = .returned (.tuple #[.int .i64 0, .int .i64 (wasteE s l p)]) ∧ Below w.heap.size w w' := by
  have HC := check_any c1 c2 c3 h hB
  rw [hc] at HC
  cases hk : chkOk s l
  · have e1 := hide (show wasteE s l p = 1 by rw [wasteE, hk]; rfl)
    rw [show chkE s l = 1 by rw [chkE, hk]; rfl] at HC
    have HC := hide HC
    clear h hc hk
    go_enter Tryz.func25, Tryz.ntmps25
    go_wp2_with fail
    refine HC.out.mono ?_
    rintro e w2 ⟨rfl, hb2⟩
    clear HC
    go_wp2_with fail
    go_ret2
    exact ⟨by rw [e1.out]; rfl, hb2⟩
  · have e1 := hide (show wasteE s l p = 13 by rw [wasteE, hk]; rfl)
    rw [show chkE s l = 0 by rw [chkE, hk]; rfl] at HC
    have HC := hide HC
    clear h hc hk
    go_enter Tryz.func25, Tryz.ntmps25
    go_wp2_with fail
    refine HC.out.mono ?_
    rintro e w2 ⟨rfl, hb2⟩
    clear HC
    go_wp2_with fail
    go_ret2
    exact ⟨by rw [e1.out]; rfl, hb2⟩
set_option maxHeartbeats 1000000 in
theorem waste_ok (c1 c2 c3 : Nat) (h : SLP w B AS s n1 A l n2 AP p n3) (hB : B ≤ w.heap.size) (hc : chkB s l p = true) :
    Calls Tryz.prog 25 #[.slice AS n1 c1, .slice A n2 c2, .slice AP n3 c3] w fun e w' => e = .returned (.tuple #[.int .i64 (wasteOf s l p), .int .i64 0]) ∧ Below w.heap.size w w' := by
  obtain ⟨o1, o2, o3, o4⟩ := usedOk_of hc
  obtain ⟨r1, r2, r3⟩ := waste_range hc
  have HC := check_any c1 c2 c3 h hB
  rw [hc, show chkE s l = 0 by rw [chkE, chkOk, o1, o2]; rfl] at HC
  have HC := hide HC
  have HU := hide (fun (wz : World) (hz : Below w.heap.size w wz) => used_ok c1 c3 (h.carry (hz.mono hB) (Nat.le_refl _)) (Nat.le_trans hB hz.size) o1 o4)
  have HT := hide (fun (wz : World) (hz : Below w.heap.size w wz) => stockTotal_any A l n2 c2 wz (h.carry (hz.mono hB) (Nat.le_refl _)).hl (Nat.le_trans hB hz.size) h.hn2 o2)
  have Hw := hide (show wasteOf s l p = usedSum s p - ordSum l from rfl)
  generalize wasteOf s l p = wv at *
  generalize usedSum s p = us at *
  generalize ordSum l = ol at *
  clear h hc o1 o2 o3 o4
  go_enter Tryz.func25, Tryz.ntmps25
  go_wp2_with fail
  refine HC.out.mono ?_
  rintro e w2 ⟨rfl, hb2⟩
  clear HC
  go_wp2_with fail
  refine (HU.out _ hb2).mono ?_
  rintro e w3 ⟨rfl, hb3⟩
  have Hb := hide (below_step hb2 hb3 (Nat.le_refl _))
  clear hb2 hb3 HU
  go_wp2_with fail
  refine (HT.out _ Hb.out).mono ?_
  rintro e w4 ⟨rfl, hb4⟩
  have Hb4 := hide (below_step Hb.out hb4 (Nat.le_refl _))
  clear hb4 Hb HT
  go_wp2_with fail
  go_ret2
  exact ⟨by rw [Hw.out]; rfl, Hb4.out⟩
end
end Go.Proofs.YtnhmdgkhmkeopaaGreatDoor
