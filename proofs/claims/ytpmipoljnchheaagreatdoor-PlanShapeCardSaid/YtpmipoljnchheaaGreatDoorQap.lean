/- A detail as an argument, in memory. No walk stands here. The references of layers 9, 17: whether a box, a solid, a member is valid. The reference of layer 15: images of points. The references of layers 16, 17, 24: members, near points, main legs, the place of a laid bar. What a small detail is: only the bounds that a true answer gives. Small schedules and runs; small details. Small details: what law46.few gives. -/
import Derived.Test.YtpmipoljnchheaaGreatDoorQao
import Derived.Test.YtpmipoljnchheaaGreatDoorQae
import Derived.Test.YtpmipoljnchheaaGreatDoorQag
import Derived.Test.YtpmipoljnchheaaGreatDoorQar
import Derived.Test.YtpmipoljnchheaaGreatDoorQak
import Derived.Test.YtpmipoljnchheaaGreatDoorQaa
import Derived.Deep.RegionHeld3
import Derived.Deep.Cut
import Derived.Test.YtpmipoljnchheaaGreatDoorQad
namespace Go.Proofs.YtpmipoljnchheaaGreatDoor
open Go.RowKit

/-- The six slices of a detail: addresses, lengths, capacities. -/
structure DetS where
  a1 : Option Addr
  n1 : Nat
  c1 : Nat
  a2 : Option Addr
  n2 : Nat
  c2 : Nat
  a3 : Option Addr
  n3 : Nat
  c3 : Nat
  a4 : Option Addr
  n4 : Nat
  c4 : Nat
  a5 : Option Addr
  n5 : Nat
  c5 : Nat
  a6 : Option Addr
  n6 : Nat
  c6 : Nat
abbrev detCells (m : MemD) (r : RuleD) (s : DetS) : Array Value :=
  #[.string m.name, .slice s.a1 s.n1 s.c1, .slice s.a2 s.n2 s.c2, .int .i64 m.cover, .int .i64 m.aggregate, .int .i64 m.poker, .slice s.a3 s.n3 s.c3, .slice s.a4 s.n4 s.c4, .slice s.a5 s.n5 s.c5, .slice s.a6 s.n6 s.c6,
    .int .i64 r.num, .int .i64 r.den, .int .i64 r.poorNum, .int .i64 r.poorDen, .int .i64 r.bendNum, .int .i64 r.bendDen, .int .i64 r.lapNum, .int .i64 r.lapDen, .int .i64 r.least]
abbrev detV (x : DetD) (s : DetS) : Value := .agg (detCells x.mem x.rule s)
structure DetAt (w : World) (B : Nat) (x : DetD) (s : DetS) : Prop where
  h1 : BoxesAt w B s.a1 x.mem.boxes
  h2 : BoxesAt w B s.a2 x.mem.holes
  h3 : BarsAt w B s.a3 x.bars
  h4 : RunsAt w B s.a4 x.runs
  h5 : JoinsAt w B s.a5 x.laps
  h6 : DemsAt w B s.a6 x.dems
theorem DetAt.carry {w w' : World} {B B' : Nat} {x : DetD} {s : DetS} (h : DetAt w B x s) (hb : Below B w w') (hB : B ≤ B') : DetAt w' B' x s :=
  ⟨h.h1.carry (Flat.carried _) hb hB, h.h2.carry (Flat.carried _) hb hB, h.h3.carry hb hB, h.h4.carry (Flat.carried _) hb hB, h.h5.carry (Flat.carried _) hb hB, SlOf.carry demR_carried h.h6 hb hB⟩
/-- The lengths, and what bounds the sizes. -/
structure DetFit (x : DetD) (s : DetS) : Prop where
  l1 : s.n1 = x.mem.boxes.length
  l2 : s.n2 = x.mem.holes.length
  l3 : s.n3 = x.bars.length
  l4 : s.n4 = x.runs.length
  l5 : s.n5 = x.laps.length
  l6 : s.n6 = x.dems.length
  m3 : s.n3 ≤ 60000
  m4 : s.n4 ≤ 60000
  m5 : s.n5 ≤ 60000
  m6 : s.n6 ≤ 60000
  k6 : s.n6 ≤ s.c6
  name : x.mem.name.size ≤ maxLen
  tame : Tame x.bars
  dems : DemTame x.dems
/-- A row that the call made, as a block that is known. -/
theorem row_blk {α : Type} {w : World} {base size : Nat} {e : TypeId} {enc : α → List Value} {A : Option Addr} {n c : Nat} {l : List α} (h : Row w base e size enc (.slice A n c) l) (hl : 0 < l.length) :
    ∃ g cs, A = some ⟨g, 0, none⟩ ∧ base ≤ g ∧ Blk w g e cs ∧ ∀ (j : Nat) (u : Value), (l.flatMap enc)[j]? = some u → cs[j]? = some u := by
  rcases h.2 with ⟨_, hn⟩ | ⟨g, cap, cur, hv, hb, hh, _, _, _, ht⟩
  · omega
  · injection hv with hA _ _
    refine ⟨g, cur, hA, hb, hh, fun j u hu => ?_⟩
    rw [← ht, List.getElem?_take] at hu
    split at hu
    · simpa using hu
    · cases hu
theorem blk_sl {α : Type} {w : World} {g B size : Nat} {e : TypeId} {enc : α → List Value} {cs : Array Value} {l : List α} (he : ∀ x, (enc x).length = size) (h : Blk w g e cs) (hc : ∀ (j : Nat) (u : Value), (l.flatMap enc)[j]? = some u → cs[j]? = some u) (hg : g < B) : SlOf w B size (Flat enc) (some ⟨g, 0, none⟩) l :=
  SlOf.of_row (xs := l.flatMap enc) hg (fun j u hu => by rw [h.cell]; exact hc j u hu) (fun k x hx => ⟨enc x, he x, rfl, fun j v hj => flatMap_get he l k x hx j v hj⟩)
theorem runOk_mul {bars : List BarD} {r : RunD} (h : runOk bars r = true) {k : Int} (h0 : 0 ≤ k) (h1 : k < r.count) : nearBy 1099511627776 (mulP k r.step) = true := by
  have hc := runOk_count h
  simp only [runOk, runHead, Bool.and_eq_true, Bool.or_eq_true, decide_eq_true_eq] at h
  rcases h.1.1.2 with h9 | h9
  · obtain rfl : k = 0 := by omega
    simp [mulP, nearBy, within]
  · exact step_near h9.2 h0 (by omega)
end Go.Proofs.YtpmipoljnchheaaGreatDoor
namespace Go.Proofs.YtpmipoljnchheaaGreatDoor
open Go.RowKit

def axAt (b : BoxD) (k : Nat) : Int × Int := (nthC b.lo k, nthC b.hi k)
theorem axes_at (b : BoxD) (k : Nat) (hk : k < 3) : (axes b).drop k = axAt b k :: (axes b).drop (k + 1) := by
  rcases (show k = 0 ∨ k = 1 ∨ k = 2 by omega) with rfl | rfl | rfl <;> rfl
set_option maxHeartbeats 2000000 in
theorem refBox_any (b : BoxD) (w : World) :
    Calls Tryz.prog 90 #[bxV b] w fun e w' => e = .returned (.bool (boxOk b)) ∧ Below w.heap.size w w' := by
  obtain ⟨⟨x1, x2, x3⟩, x4, x5, x6⟩ := b
  have K0 := hide (Blk.new w 93 #[.int .i64 x1, .int .i64 x2, .int .i64 x3, .int .i64 x4, .int .i64 x5, .int .i64 x6])
  have HW := hide (below_new w (.cells #[.int .i64 x1, .int .i64 x2, .int .i64 x3, .int .i64 x4, .int .i64 x5, .int .i64 x6] 93))
  have hb : boxOk ⟨(x1, x2, x3), (x4, x5, x6)⟩ = ((axes ⟨(x1, x2, x3), (x4, x5, x6)⟩).drop 0).all axisFine := rfl
  rw [hb]
  clear hb
  go_enter Tryz.func90, Tryz.ntmps90
  go_wp2_with fail
  go_loopw [3] (fun i wr => ∃ k : Nat, k ≤ 3 ∧ i = .int .i64 k ∧ Hid (((axes ⟨(x1, x2, x3), (x4, x5, x6)⟩).drop 0).all axisFine = ((axes ⟨(x1, x2, x3), (x4, x5, x6)⟩).drop k).all axisFine) ∧ Hid (Blk wr w.heap.size 93 #[.int .i64 x1, .int .i64 x2, .int .i64 x3, .int .i64 x4, .int .i64 x5, .int .i64 x6]) ∧ Below w.heap.size w wr) (fun i _ => 3 - (intOf i).toNat)
  case atStart => exact ⟨0, by omega, rfl, hide rfl, K0, HW.out⟩
  case round =>
    obtain ⟨k, hk, rfl, hq, hK, hbr⟩ := hrel
    by_cases hlt : k < 3
    · have Hq := hide (hq.out.trans (by rw [axes_at _ k hlt, List.all_cons]))
      have CL := fun W => refCoord_any x1 x2 x3 k hlt W
      have CH := fun W => refCoord_any x4 x5 x6 k hlt W
      have hax : axisFine (axAt ⟨(x1, x2, x3), (x4, x5, x6)⟩ k) = axisOk (nthC (x1, x2, x3) k) (nthC (x4, x5, x6) k) := rfl
      rw [hax] at Hq
      generalize nthC (x1, x2, x3) k = lo at *
      generalize nthC (x4, x5, x6) k = hi at *
      have HL := fun W => refIsLength_any lo W
      have HH := fun W => refIsLength_any hi W
      have hao : axisOk lo hi = (coordOk lo && coordOk hi && !decide (hi < lo)) := by
        rw [Bool.eq_iff_iff]
        simp only [axisOk, coordOk, Bool.and_eq_true, decide_eq_true_eq, Bool.not_eq_true', decide_eq_false_iff_not]
        omega
      rw [hao] at Hq
      generalize coordOk lo = a1 at *
      generalize coordOk hi = a2 at *
      have CL := hide CL
      have CH := hide CH
      have HL := hide HL
      have HH := hide HH
      have Hbr := hide hbr
      have HK := hide hK.out
      have c0 := cell_regrown (hK.out.cell 0)
      have c1 := cell_regrown (hK.out.cell 1)
      have c2 := cell_regrown (hK.out.cell 2)
      have c3 := cell_regrown (hK.out.cell 3)
      have c4 := cell_regrown (hK.out.cell 4)
      have c5 := cell_regrown (hK.out.cell 5)
      simp at c0 c1 c2 c3 c4 c5
      clear hq hax hao hbr hK
      cases a1
      · go_wp2_with fail
        refine wp_region_quiet_below (by kernel_rfl) (by kernel_rfl) ?_
        repeat (go_big_quiet_step (first
          | (go_at_call 139; first | with_reducible exact regrown_same (HL.out _) | with_reducible exact regrown_same (HH.out _))
          | (go_at_call 96; first | with_reducible exact Calls.regrown_of (CL.out _) | with_reducible exact Calls.regrown_of (CH.out _))))
        refine wpQuiet_nil ?_
        intro w2 hw'
        have hbq := hide (show Below _ _ w2 by obtain ⟨p, rfl⟩ := hw'; exact below_regrown _ _ _)
        clear hw'
        go_wp2_with fail
        go_ret
        exact ⟨ret_bool (by rw [Hq.out]; rfl), below_step Hbr.out hbq.out (Nat.le_refl _)⟩
      cases a2
      · go_wp2_with fail
        refine wp_region_quiet_below (by kernel_rfl) (by kernel_rfl) ?_
        repeat (go_big_quiet_step (first
          | (go_at_call 139; first | with_reducible exact regrown_same (HL.out _) | with_reducible exact regrown_same (HH.out _))
          | (go_at_call 96; first | with_reducible exact Calls.regrown_of (CL.out _) | with_reducible exact Calls.regrown_of (CH.out _))))
        refine wpQuiet_nil ?_
        intro w2 hw'
        have hbq := hide (show Below _ _ w2 by obtain ⟨p, rfl⟩ := hw'; exact below_regrown _ _ _)
        clear hw'
        go_wp2_with fail
        go_ret
        exact ⟨ret_bool (by rw [Hq.out]; rfl), below_step Hbr.out hbq.out (Nat.le_refl _)⟩
      cases hd : decide (hi < lo)
      · have Hd := hide hd
        go_wp2_with fail
        refine wp_region_quiet_below (by kernel_rfl) (by kernel_rfl) ?_
        repeat (go_big_quiet_step (first
          | (go_at_call 139; first | with_reducible exact regrown_same (HL.out _) | with_reducible exact regrown_same (HH.out _))
          | (go_at_call 96; first | with_reducible exact Calls.regrown_of (CL.out _) | with_reducible exact Calls.regrown_of (CH.out _))))
        refine wpQuiet_nil ?_
        intro w2 hw'
        have hbq := hide (show Below _ _ w2 by obtain ⟨p, rfl⟩ := hw'; exact below_regrown _ _ _)
        clear hw'
        go_wp2_with fail
        go_roundw
        case rel => exact ⟨k + 1, by omega, by go_num, hide (by rw [Hq.out, Hd.out]; rfl), hide (HK.out.keep hbq.out), below_step Hbr.out hbq.out (Nat.le_refl _)⟩
        case measure => simp [intOf]; omega
      · have Hd := hide hd
        go_wp2_with fail
        refine wp_region_quiet_below (by kernel_rfl) (by kernel_rfl) ?_
        repeat (go_big_quiet_step (first
          | (go_at_call 139; first | with_reducible exact regrown_same (HL.out _) | with_reducible exact regrown_same (HH.out _))
          | (go_at_call 96; first | with_reducible exact Calls.regrown_of (CL.out _) | with_reducible exact Calls.regrown_of (CH.out _))))
        refine wpQuiet_nil ?_
        intro w2 hw'
        have hbq := hide (show Below _ _ w2 by obtain ⟨p, rfl⟩ := hw'; exact below_regrown _ _ _)
        clear hw'
        go_wp2_with fail
        go_ret
        exact ⟨ret_bool (by rw [Hq.out, Hd.out]; rfl), below_step Hbr.out hbq.out (Nat.le_refl _)⟩
    · obtain rfl : k = 3 := by omega
      go_wp2_with fail
      go_ret
      exact ⟨ret_bool (by rw [hq.out]; rfl), hbr⟩
set_option maxHeartbeats 1000000 in
theorem refThick_any (b : BoxD) (w : World) :
    Calls Tryz.prog 131 #[bxV b] w fun e w' => e = .returned (.bool (thickOk b)) ∧ Below w.heap.size w w' := by
  have HB := fun W => refBox_any b W
  have hr : thickOk b = (boxOk b && (decide (b.lo.1 < b.hi.1) && (decide (b.lo.2.1 < b.hi.2.1) && decide (b.lo.2.2 < b.hi.2.2)))) := by simp only [thickOk, Bool.and_assoc]
  rw [hr]
  clear hr
  generalize boxOk b = a at *
  obtain ⟨⟨x1, x2, x3⟩, x4, x5, x6⟩ := b
  simp only
  have HB := hide HB
  have K0 := hide (Blk.new w 93 #[.int .i64 x1, .int .i64 x2, .int .i64 x3, .int .i64 x4, .int .i64 x5, .int .i64 x6])
  have HW := hide (below_new w (.cells #[.int .i64 x1, .int .i64 x2, .int .i64 x3, .int .i64 x4, .int .i64 x5, .int .i64 x6] 93))
  go_enter Tryz.func131, Tryz.ntmps131
  go_wp2_with fail
  refine (HB.out _).mono ?_
  rintro e w1 ⟨rfl, hb⟩
  have K0 := hide (K0.out.keep hb)
  have HW := hide (below_step HW.out hb (Nat.le_refl _))
  clear hb HB
  have c0 := K0.out.cell 0
  have c1 := K0.out.cell 1
  have c2 := K0.out.cell 2
  have c3 := K0.out.cell 3
  have c4 := K0.out.cell 4
  have c5 := K0.out.cell 5
  simp at c0 c1 c2 c3 c4 c5
  have lk := K0.out.lt
  cases a
  · go_wp2_with fail
    go_ret
    exact ⟨ret_bool (by first | rfl | (rw [q0]; rfl) | (rw [q0, q1]; rfl) | (rw [q0, q1, q2]; rfl)), HW.out⟩
  cases q0 : decide (x1 < x4)
  · go_wp2_with fail
    go_ret
    exact ⟨ret_bool (by first | rfl | (rw [q0]; rfl) | (rw [q0, q1]; rfl) | (rw [q0, q1, q2]; rfl)), HW.out⟩
  cases q1 : decide (x2 < x5)
  · go_wp2_with fail
    go_ret
    exact ⟨ret_bool (by first | rfl | (rw [q0]; rfl) | (rw [q0, q1]; rfl) | (rw [q0, q1, q2]; rfl)), HW.out⟩
  cases q2 : decide (x3 < x6)
  all_goals
    go_wp2_with fail
    go_ret
    exact ⟨ret_bool (by first | rfl | (rw [q0]; rfl) | (rw [q0, q1]; rfl) | (rw [q0, q1, q2]; rfl)), HW.out⟩
theorem all_at {α : Type} {p : α → Bool} {l : List α} {k : Nat} {x : α} (h : l[k]? = some x) : (l.drop k).all p = (p x && (l.drop (k + 1)).all p) := by
  rw [drop_at' h, List.all_cons]
set_option maxHeartbeats 2000000 in
theorem refSolid_any (bs hs : List BoxD) (A1 A2 : Option Addr) (n1 n2 c1 c2 : Nat) (w : World) {B : Nat} (h1 : BoxesAt w B A1 bs) (h2 : BoxesAt w B A2 hs) (hB : B ≤ w.heap.size) (l1 : n1 = bs.length) (l2 : n2 = hs.length) :
    Calls Tryz.prog 85 #[.agg #[.slice A1 n1 c1, .slice A2 n2 c2]] w fun e w' => e = .returned (.bool (solidOk bs hs)) ∧ Below w.heap.size w w' := by
  have L1 := hide l1
  have L2 := hide l2
  have H1 := hide h1
  have H2 := hide h2
  have K0 := hide (Blk.new w 24 #[.slice A1 n1 c1, .slice A2 n2 c2])
  have HW := hide (below_new w (.cells #[.slice A1 n1 c1, .slice A2 n2 c2] 24))
  by_cases hlen : ¬(1 ≤ n1 ∧ n1 ≤ 20 ∧ n2 ≤ 20)
  · have hr := hide (show solidOk bs hs = false by
      cases hx : solidOk bs hs with
      | false => rfl
      | true => simp only [solidOk, Bool.and_eq_true, decide_eq_true_eq] at hx; omega)
    clear h1 h2 l1 l2
    by_cases a : n1 < 1
    · obtain rfl : n1 = 0 := by omega
      go_enter Tryz.func85, Tryz.ntmps85
      go_wp2_with fail
      go_ret
      exact ⟨ret_bool hr.out.symm, HW.out⟩
    have d0 : decide ((n1 : Int) < 1) = false := by simp; omega
    by_cases b : 20 < n1
    · have d1 : decide (20 < (n1 : Int)) = true := by simp; omega
      clear hlen a b
      go_enter Tryz.func85, Tryz.ntmps85
      go_wp2_with fail
      go_ret
      exact ⟨ret_bool hr.out.symm, HW.out⟩
    have d1 : decide (20 < (n1 : Int)) = false := by simp; omega
    have d2 : decide (20 < (n2 : Int)) = true := by simp; omega
    clear hlen a b
    go_enter Tryz.func85, Tryz.ntmps85
    go_wp2_with fail
    go_ret
    exact ⟨ret_bool hr.out.symm, HW.out⟩
  have hl1 : 1 ≤ n1 ∧ n1 ≤ 20 ∧ n2 ≤ 20 := by omega
  obtain ⟨m1, m20, m2⟩ := hl1
  have hr := hide (show solidOk bs hs = ((bs.drop 0).all thickOk && (hs.drop 0).all thickOk) by
    rw [solidOk, decide_eq_true (by omega), decide_eq_true (by omega), decide_eq_true (by omega)]; rfl)
  have d0 : decide ((n1 : Int) < 1) = false := by simp; omega
  have d1 : decide (20 < (n1 : Int)) = false := by simp; omega
  have d2 : decide (20 < (n2 : Int)) = false := by simp; omega
  clear hlen h1 h2 l1 l2
  go_enter Tryz.func85, Tryz.ntmps85
  go_wp2_with fail
  go_loopw [3] (fun i wr => ∃ k : Nat, k ≤ n1 ∧ i = .int .i64 k ∧ Hid ((bs.drop 0).all thickOk = (bs.drop k).all thickOk) ∧ Hid (Blk wr w.heap.size 24 #[.slice A1 n1 c1, .slice A2 n2 c2]) ∧ Below w.heap.size w wr) (fun i _ => n1 - (intOf i).toNat)
  case atStart => exact ⟨0, Nat.zero_le _, rfl, hide rfl, K0, HW.out⟩
  case round =>
    obtain ⟨k, hk, rfl, hq, hK, hbr⟩ := hrel
    have e0 := hK.out.cell 0
    simp at e0
    have lk := hK.out.lt
    by_cases hlt : k < n1
    · obtain ⟨b, off, x, rfl, hbl, hx, f0, f1, f2, f3, f4, f5⟩ := BoxesAt.get (k := k) (H1.out.carry (Flat.carried _) (hbr.mono hB) (Nat.le_refl _)) (by rw [← L1.out]; exact hlt)
      have Hq := hide (hq.out.trans (all_at hx))
      have HT := hide (fun W => refThick_any x W)
      generalize thickOk x = a at *
      obtain ⟨⟨x1, x2, x3⟩, x4, x5, x6⟩ := x
      simp only at f0 f1 f2 f3 f4 f5
      have HK := hide hK.out
      have Hbr := hide hbr
      clear hx hbl hq hK hbr
      go_wp2_with fail
      refine (HT.out _).mono ?_
      rintro e w1 ⟨rfl, hb⟩
      have HK := hide (HK.out.keep hb)
      have Hbr := hide (below_step Hbr.out hb (Nat.le_refl _))
      clear hb HT f0 f1 f2 f3 f4 f5 e0 lk
      cases a
      · go_wp2_with fail
        go_ret
        exact ⟨ret_bool (by rw [hr.out, Hq.out]; rfl), Hbr.out⟩
      · go_wp2_with fail
        go_roundw
        case rel => exact ⟨k + 1, by omega, by go_num, hide (by rw [Hq.out]; rfl), HK, Hbr.out⟩
        case measure => simp [intOf]; omega
    · obtain rfl : n1 = k := by omega
      have hf := hide (show (bs.drop 0).all thickOk = true by rw [hq.out, L1.out, List.drop_length]; rfl)
      have K1 := hK
      have HW1 := hide hbr
      rename World => wo
      clear hq hbr
      go_wp2_with fail
      go_loopw [4] (fun i wr => ∃ k : Nat, k ≤ n2 ∧ i = .int .i64 k ∧ Hid ((hs.drop 0).all thickOk = (hs.drop k).all thickOk) ∧ Hid (Blk wr w.heap.size 24 #[.slice A1 n1 c1, .slice A2 n2 c2]) ∧ Below w.heap.size w wr) (fun i _ => n2 - (intOf i).toNat)
      case atStart => exact ⟨0, Nat.zero_le _, rfl, hide rfl, K1, HW1.out⟩
      case round =>
        obtain ⟨k, hk, rfl, hq, hK, hbr⟩ := hrel
        have e1 := hK.out.cell 1
        simp at e1
        have lk := hK.out.lt
        by_cases hlt : k < n2
        · obtain ⟨b, off, x, rfl, hbl, hx, f0, f1, f2, f3, f4, f5⟩ := BoxesAt.get (k := k) (H2.out.carry (Flat.carried _) (hbr.mono hB) (Nat.le_refl _)) (by rw [← L2.out]; exact hlt)
          have Hq := hide (hq.out.trans (all_at hx))
          have HT := hide (fun W => refThick_any x W)
          generalize thickOk x = a at *
          obtain ⟨⟨x1, x2, x3⟩, x4, x5, x6⟩ := x
          simp only at f0 f1 f2 f3 f4 f5
          have HK := hide hK.out
          have Hbr := hide hbr
          clear hx hbl hq hK hbr
          go_wp2_with fail
          refine (HT.out _).mono ?_
          rintro e w1 ⟨rfl, hb⟩
          have HK := hide (HK.out.keep hb)
          have Hbr := hide (below_step Hbr.out hb (Nat.le_refl _))
          clear hb HT f0 f1 f2 f3 f4 f5 e1 lk
          cases a
          · go_wp2_with fail
            go_ret
            exact ⟨ret_bool (by rw [hr.out, Hq.out, hf.out]; rfl), Hbr.out⟩
          · go_wp2_with fail
            go_roundw
            case rel => exact ⟨k + 1, by omega, by go_num, hide (by rw [Hq.out]; rfl), HK, Hbr.out⟩
            case measure => simp [intOf]; omega
        · obtain rfl : n2 = k := by omega
          have hf2 := hide (show (hs.drop 0).all thickOk = true by rw [hq.out, L2.out, List.drop_length]; rfl)
          go_wp2_with fail
          go_ret
          exact ⟨ret_bool (by rw [hr.out, hf.out, hf2.out]; rfl), hbr⟩
end Go.Proofs.YtpmipoljnchheaaGreatDoor
namespace Go.Proofs.YtpmipoljnchheaaGreatDoor
open Go.RowKit

theorem lin_sum {x y : Int} (p : Pt) : imgV x y p = addP (mulP p.1 (unitV x)) (addP (mulP p.2.1 (unitV y)) (mulP p.2.2 (crossV (unitV x) (unitV y)))) := by
  simp only [imgV, linV, addP, mulP, Prod.mk.injEq]
  refine ⟨?_, ?_, ?_⟩ <;> rw [Int.mul_comm p.1, Int.mul_comm p.2.1, Int.mul_comm p.2.2, Int.add_assoc]
theorem near_mul {n m : Int} {a : Pt} (ha : unitish a) (hn : -m ≤ n ∧ n ≤ m) (hm : 0 ≤ m) : nearBy m (mulP n a) = true := by
  obtain ⟨a1, a2, a3⟩ := ha
  have h1 := mulM_bound a1 hn hm
  have h2 := mulM_bound a2 hn hm
  have h3 := mulM_bound a3 hn hm
  rw [nearBy_iff]
  simp only [mulP]
  rw [Int.mul_comm n, Int.mul_comm n, Int.mul_comm n]
  exact ⟨h1, h2, h3⟩
theorem near_add {m n : Int} {p q : Pt} (hp : nearBy m p = true) (hq : nearBy n q = true) : nearBy (m + n) (addP p q) = true := by
  have h1 := nearBy_iff.1 hp
  have h2 := nearBy_iff.1 hq
  rw [nearBy_iff]
  simp only [addP]
  omega
/-- The result's block, and what was there ahead of the call. -/
def ImgR (w W : World) : Prop := (∃ u0 u1 u2, Blk W (w.heap.size + 1 + 1) 63 #[u0, u1, u2]) ∧ Below w.heap.size w W
theorem ImgR.step {w W wz : World} (h : ImgR w W) (hb : Below W.heap.size W wz) : ImgR w wz := by
  obtain ⟨⟨u0, u1, u2, hk⟩, hw⟩ := h
  exact ⟨⟨u0, u1, u2, hk.keep hb⟩, below_step hw hb (Nat.le_refl _)⟩
theorem ImgR.drew {w W : World} (h : ImgR w W) : ImgR w W.drew := by
  obtain ⟨⟨u0, u1, u2, hk⟩, hw⟩ := h
  exact ⟨⟨u0, u1, u2, hk.drew⟩, hw.drew⟩
theorem ImgR.store {w W : World} (h : ImgR w W) (x y z : Value) : ImgR w (((W.setCell ⟨w.heap.size + 1 + 1, 0, none⟩ x).setCell ⟨w.heap.size + 1 + 1, 1, none⟩ y).setCell ⟨w.heap.size + 1 + 1, 2, none⟩ z) := by
  obtain ⟨⟨u0, u1, u2, hk⟩, hw⟩ := h
  have h1 := ((hk.set_ 0 x).set_ 1 y).set_ 2 z
  simp only [List.setIfInBounds_toArray, List.set_cons_zero, List.set_cons_succ] at h1
  exact ⟨⟨x, y, z, h1⟩, ((hw.setCell (p := ⟨w.heap.size + 1 + 1, 0, none⟩) (by show w.heap.size ≤ w.heap.size + 1 + 1; omega) x).setCell (p := ⟨w.heap.size + 1 + 1, 1, none⟩) (by show w.heap.size ≤ w.heap.size + 1 + 1; omega) y).setCell (p := ⟨w.heap.size + 1 + 1, 2, none⟩) (by show w.heap.size ≤ w.heap.size + 1 + 1; omega) z⟩
theorem ImgR.facts {w W : World} (h : ImgR w W) : ∃ u0 u1 u2, W.cell? ⟨w.heap.size + 1 + 1, 0, none⟩ = some u0 ∧ W.cell? ⟨w.heap.size + 1 + 1, 1, none⟩ = some u1 ∧ W.cell? ⟨w.heap.size + 1 + 1, 2, none⟩ = some u2 ∧ W.frozen? ⟨w.heap.size + 1 + 1, 0, none⟩ = false ∧ W.frozen? ⟨w.heap.size + 1 + 1, 1, none⟩ = false ∧ W.frozen? ⟨w.heap.size + 1 + 1, 2, none⟩ = false := by
  obtain ⟨⟨u0, u1, u2, hk⟩, hw⟩ := h
  exact ⟨u0, u1, u2, hk.cell 0, hk.cell 1, hk.cell 2, hk.frozen 0, hk.frozen 1, hk.frozen 2⟩
theorem kc {W wz : World} {g i : Nat} {v : Value} (h : W.cell? ⟨g, i, none⟩ = some v) (hb : Below W.heap.size W wz) : wz.cell? ⟨g, i, none⟩ = some v := (hb.cell (p := ⟨g, i, none⟩) (lt_of_cell h)).trans h
theorem ks {W : World} {k g i : Nat} {v : Value} (hne : k ≠ g) (h : W.cell? ⟨g, i, none⟩ = some v) (x y z : Value) : (((W.setCell ⟨k, 0, none⟩ x).setCell ⟨k, 1, none⟩ y).setCell ⟨k, 2, none⟩ z).cell? ⟨g, i, none⟩ = some v :=
  cell_oth (.inl (Ne.symm hne)) (cell_oth (.inl (Ne.symm hne)) (cell_oth (.inl (Ne.symm hne)) h))
set_option maxHeartbeats 4000000 in
set_option maxRecDepth 100000 in
theorem refImage_any (x y : Int) (p : Pt) (w : World) (h : turnOk x y = true) (hp : nearBy 1048576 p = true) :
    Calls Tryz.prog 180 #[.agg #[.int .i64 x, .int .i64 y], ptA p] w fun e w' => e = .returned (ptA (imgV x y p)) ∧ Below w.heap.size w w' := by
  have hx : axis6 x := by
    simp only [turnOk, Bool.and_eq_true] at h
    exact axis6_of h.1.1.1
  have hy : axis6 y := by
    simp only [turnOk, Bool.and_eq_true] at h
    exact axis6_of h.1.1.2
  obtain ⟨HP1, HP2, HP3⟩ := nearBy_iff.1 hp
  have n1 := near_mul (unitish_of hx) HP1 (by omega)
  have n2 := near_mul (unitish_of hy) HP2 (by omega)
  have n3 := near_mul (cross_unit h) HP3 (by omega)
  have n4 := near_add n2 n3
  have HX := hide (fun (w : World) => refUnit_any x w hx)
  have HY := hide (fun (w : World) => refUnit_any y w hy)
  have HC := hide (fun (w : World) => refCross_any (unitV x) (unitV y) w (unitish_of hx) (unitish_of hy))
  have HT1 := hide (fun (w : World) => refTimes_any p.1 (unitV x) w (nearBy_mono n1 (by omega)))
  have HT2 := hide (fun (w : World) => refTimes_any p.2.1 (unitV y) w (nearBy_mono n2 (by omega)))
  have HT3 := hide (fun (w : World) => refTimes_any p.2.2 (crossV (unitV x) (unitV y)) w (nearBy_mono n3 (by omega)))
  have HS1 := hide (fun (w : World) => refPlus_any (mulP p.2.1 (unitV y)) (mulP p.2.2 (crossV (unitV x) (unitV y))) w (nearBy_mono n2 (by omega)) (nearBy_mono n3 (by omega)))
  have HS2 := hide (fun (w : World) => refPlus_any (mulP p.1 (unitV x)) (addP (mulP p.2.1 (unitV y)) (mulP p.2.2 (crossV (unitV x) (unitV y)))) w (nearBy_mono n1 (by omega)) (nearBy_mono n4 (by omega)))
  rw [lin_sum]
  generalize addP (mulP p.1 (unitV x)) (addP (mulP p.2.1 (unitV y)) (mulP p.2.2 (crossV (unitV x) (unitV y)))) = R at *
  generalize addP (mulP p.2.1 (unitV y)) (mulP p.2.2 (crossV (unitV x) (unitV y))) = S at *
  generalize mulP p.1 (unitV x) = T1 at *
  generalize mulP p.2.1 (unitV y) = T2 at *
  generalize mulP p.2.2 (crossV (unitV x) (unitV y)) = T3 at *
  generalize crossV (unitV x) (unitV y) = c at *
  generalize unitV x = a at *
  generalize unitV y = b at *
  clear n1 n2 n3 n4 h hp hx hy HP1 HP2 HP3
  obtain ⟨p1, p2, p3⟩ := p
  obtain ⟨a1, a2, a3⟩ := a
  obtain ⟨b1, b2, b3⟩ := b
  obtain ⟨c1, c2, c3⟩ := c
  obtain ⟨t1, t2, t3⟩ := T1
  obtain ⟨u1, u2, u3⟩ := T2
  obtain ⟨v1, v2, v3⟩ := T3
  obtain ⟨s1, s2, s3⟩ := S
  obtain ⟨r1, r2, r3⟩ := R
  simp only [ptA] at HX HY HC HT1 HT2 HT3 HS1 HS2 ⊢
  have KT := hide ((((Blk.new w 95 #[.int .i64 x, .int .i64 y]).alloc (.cells #[.int .i64 p1, .int .i64 p2, .int .i64 p3] 63)).alloc (.cells #[.int .i64 0, .int .i64 0, .int .i64 0] 63)))
  have KP := hide ((Blk.new1 w (.cells #[.int .i64 x, .int .i64 y] 95) 63 #[.int .i64 p1, .int .i64 p2, .int .i64 p3]).alloc (.cells #[.int .i64 0, .int .i64 0, .int .i64 0] 63))
  have KR := hide (Blk.new2 w (.cells #[.int .i64 x, .int .i64 y] 95) (.cells #[.int .i64 p1, .int .i64 p2, .int .i64 p3] 63) 63 #[.int .i64 0, .int .i64 0, .int .i64 0])
  have HW := hide ((below_new2 w (.cells #[.int .i64 x, .int .i64 y] 95) (.cells #[.int .i64 p1, .int .i64 p2, .int .i64 p3] 63)).alloc (by simp; omega) (.cells #[.int .i64 0, .int .i64 0, .int .i64 0] 63))
  go_enter Tryz.func180, Tryz.ntmps180
  go_wp2_with fail
  refine (HX.out _).mono ?_
  rintro e w1 ⟨rfl, hb⟩
  have KT := hide ((KT.out.keep hb).alloc (.cells #[.int .i64 a1, .int .i64 a2, .int .i64 a3] 63))
  have KP := hide ((KP.out.keep hb).alloc (.cells #[.int .i64 a1, .int .i64 a2, .int .i64 a3] 63))
  have KR := hide ((KR.out.keep hb).alloc (.cells #[.int .i64 a1, .int .i64 a2, .int .i64 a3] 63))
  have KA := hide (Blk.new w1 63 #[.int .i64 a1, .int .i64 a2, .int .i64 a3])
  have HW1 := hide (below_step HW.out hb (Nat.le_refl _))
  have HW := hide (HW1.out.alloc HW1.out.size (.cells #[.int .i64 a1, .int .i64 a2, .int .i64 a3] 63))
  have hb1' := hb.size
  clear hb HX HW1
  have e1 := KT.out.cell 1
  simp at e1
  have lt := KT.out.lt
  go_wp2_with fail
  refine (HY.out _).mono ?_
  rintro e w2 ⟨rfl, hb⟩
  have KP := hide ((KP.out.keep hb).alloc (.cells #[.int .i64 b1, .int .i64 b2, .int .i64 b3] 63))
  have KR := hide ((KR.out.keep hb).alloc (.cells #[.int .i64 b1, .int .i64 b2, .int .i64 b3] 63))
  have KA := hide ((KA.out.keep hb).alloc (.cells #[.int .i64 b1, .int .i64 b2, .int .i64 b3] 63))
  have KB := hide (Blk.new w2 63 #[.int .i64 b1, .int .i64 b2, .int .i64 b3])
  have HW1 := hide (below_step HW.out hb (Nat.le_refl _))
  have HW := hide (HW1.out.alloc HW1.out.size (.cells #[.int .i64 b1, .int .i64 b2, .int .i64 b3] 63))
  have hgA : w.heap.size + 2 < w1.heap.size := by
    have := hb1'
    simp at this
    omega
  have hgB : w1.heap.size < w2.heap.size := by
    have := hb.size
    simp at this
    omega
  clear hb HY e1 lt KT HW1
  obtain ⟨wa, hwa⟩ : ∃ wa, wa = w2.alloc (.cells #[.int .i64 b1, .int .i64 b2, .int .i64 b3] 63) := ⟨_, rfl⟩
  go_wp2_with fail
  rw [← hwa] at KP KR KA KB HW ⊢
  clear hwa
  have x0 := KP.out.cell 0
  have x1 := KP.out.cell 1
  have x2 := KP.out.cell 2
  have y0 := KA.out.cell 0
  have y1 := KA.out.cell 1
  have y2 := KA.out.cell 2
  have z0 := KB.out.cell 0
  have z1 := KB.out.cell 1
  have z2 := KB.out.cell 2
  simp at x0 x1 x2 y0 y1 y2 z0 z1 z2
  have KR := hide (show Blk wa (w.heap.size + 1 + 1) 63 #[.int .i64 0, .int .i64 0, .int .i64 0] from KR.out)
  have l1 := KP.out.lt
  have l2 := KA.out.lt
  have l3 := KB.out.lt
  have hR0 : ImgR w wa := ⟨⟨_, _, _, KR.out⟩, HW.out⟩
  have hg1 : w.heap.size + 1 + 1 ≠ w1.heap.size := by have := hgA; omega
  have hg2 : w.heap.size + 1 + 1 ≠ w2.heap.size := by have := hgB; omega
  have KC := hide (fun (W wz : World) (hS : W.cell? ⟨w.heap.size + 1, 0, none⟩ = some (.int .i64 p1) ∧ W.cell? ⟨w.heap.size + 1, 1, none⟩ = some (.int .i64 p2) ∧ W.cell? ⟨w.heap.size + 1, 2, none⟩ = some (.int .i64 p3) ∧ W.cell? ⟨w1.heap.size, 0, none⟩ = some (.int .i64 a1) ∧ W.cell? ⟨w1.heap.size, 1, none⟩ = some (.int .i64 a2) ∧ W.cell? ⟨w1.heap.size, 2, none⟩ = some (.int .i64 a3) ∧ W.cell? ⟨w2.heap.size, 0, none⟩ = some (.int .i64 b1) ∧ W.cell? ⟨w2.heap.size, 1, none⟩ = some (.int .i64 b2) ∧ W.cell? ⟨w2.heap.size, 2, none⟩ = some (.int .i64 b3) ∧ ImgR w W) (hbz : Below W.heap.size W wz) => show wz.cell? ⟨w.heap.size + 1, 0, none⟩ = some (.int .i64 p1) ∧ wz.cell? ⟨w.heap.size + 1, 1, none⟩ = some (.int .i64 p2) ∧ wz.cell? ⟨w.heap.size + 1, 2, none⟩ = some (.int .i64 p3) ∧ wz.cell? ⟨w1.heap.size, 0, none⟩ = some (.int .i64 a1) ∧ wz.cell? ⟨w1.heap.size, 1, none⟩ = some (.int .i64 a2) ∧ wz.cell? ⟨w1.heap.size, 2, none⟩ = some (.int .i64 a3) ∧ wz.cell? ⟨w2.heap.size, 0, none⟩ = some (.int .i64 b1) ∧ wz.cell? ⟨w2.heap.size, 1, none⟩ = some (.int .i64 b2) ∧ wz.cell? ⟨w2.heap.size, 2, none⟩ = some (.int .i64 b3) ∧ ImgR w wz from
    ⟨kc hS.1 hbz, kc hS.2.1 hbz, kc hS.2.2.1 hbz, kc hS.2.2.2.1 hbz, kc hS.2.2.2.2.1 hbz, kc hS.2.2.2.2.2.1 hbz, kc hS.2.2.2.2.2.2.1 hbz, kc hS.2.2.2.2.2.2.2.1 hbz, kc hS.2.2.2.2.2.2.2.2.1 hbz, hS.2.2.2.2.2.2.2.2.2.step hbz⟩)
  have KS := hide (fun (W : World) (x y z : Value) (hS : W.cell? ⟨w.heap.size + 1, 0, none⟩ = some (.int .i64 p1) ∧ W.cell? ⟨w.heap.size + 1, 1, none⟩ = some (.int .i64 p2) ∧ W.cell? ⟨w.heap.size + 1, 2, none⟩ = some (.int .i64 p3) ∧ W.cell? ⟨w1.heap.size, 0, none⟩ = some (.int .i64 a1) ∧ W.cell? ⟨w1.heap.size, 1, none⟩ = some (.int .i64 a2) ∧ W.cell? ⟨w1.heap.size, 2, none⟩ = some (.int .i64 a3) ∧ W.cell? ⟨w2.heap.size, 0, none⟩ = some (.int .i64 b1) ∧ W.cell? ⟨w2.heap.size, 1, none⟩ = some (.int .i64 b2) ∧ W.cell? ⟨w2.heap.size, 2, none⟩ = some (.int .i64 b3) ∧ ImgR w W) => show (((W.setCell ⟨w.heap.size + 1 + 1, 0, none⟩ x).setCell ⟨w.heap.size + 1 + 1, 1, none⟩ y).setCell ⟨w.heap.size + 1 + 1, 2, none⟩ z).cell? ⟨w.heap.size + 1, 0, none⟩ = some (.int .i64 p1) ∧ (((W.setCell ⟨w.heap.size + 1 + 1, 0, none⟩ x).setCell ⟨w.heap.size + 1 + 1, 1, none⟩ y).setCell ⟨w.heap.size + 1 + 1, 2, none⟩ z).cell? ⟨w.heap.size + 1, 1, none⟩ = some (.int .i64 p2) ∧ (((W.setCell ⟨w.heap.size + 1 + 1, 0, none⟩ x).setCell ⟨w.heap.size + 1 + 1, 1, none⟩ y).setCell ⟨w.heap.size + 1 + 1, 2, none⟩ z).cell? ⟨w.heap.size + 1, 2, none⟩ = some (.int .i64 p3) ∧ (((W.setCell ⟨w.heap.size + 1 + 1, 0, none⟩ x).setCell ⟨w.heap.size + 1 + 1, 1, none⟩ y).setCell ⟨w.heap.size + 1 + 1, 2, none⟩ z).cell? ⟨w1.heap.size, 0, none⟩ = some (.int .i64 a1) ∧ (((W.setCell ⟨w.heap.size + 1 + 1, 0, none⟩ x).setCell ⟨w.heap.size + 1 + 1, 1, none⟩ y).setCell ⟨w.heap.size + 1 + 1, 2, none⟩ z).cell? ⟨w1.heap.size, 1, none⟩ = some (.int .i64 a2) ∧ (((W.setCell ⟨w.heap.size + 1 + 1, 0, none⟩ x).setCell ⟨w.heap.size + 1 + 1, 1, none⟩ y).setCell ⟨w.heap.size + 1 + 1, 2, none⟩ z).cell? ⟨w1.heap.size, 2, none⟩ = some (.int .i64 a3) ∧ (((W.setCell ⟨w.heap.size + 1 + 1, 0, none⟩ x).setCell ⟨w.heap.size + 1 + 1, 1, none⟩ y).setCell ⟨w.heap.size + 1 + 1, 2, none⟩ z).cell? ⟨w2.heap.size, 0, none⟩ = some (.int .i64 b1) ∧ (((W.setCell ⟨w.heap.size + 1 + 1, 0, none⟩ x).setCell ⟨w.heap.size + 1 + 1, 1, none⟩ y).setCell ⟨w.heap.size + 1 + 1, 2, none⟩ z).cell? ⟨w2.heap.size, 1, none⟩ = some (.int .i64 b2) ∧ (((W.setCell ⟨w.heap.size + 1 + 1, 0, none⟩ x).setCell ⟨w.heap.size + 1 + 1, 1, none⟩ y).setCell ⟨w.heap.size + 1 + 1, 2, none⟩ z).cell? ⟨w2.heap.size, 2, none⟩ = some (.int .i64 b3) ∧ ImgR w (((W.setCell ⟨w.heap.size + 1 + 1, 0, none⟩ x).setCell ⟨w.heap.size + 1 + 1, 1, none⟩ y).setCell ⟨w.heap.size + 1 + 1, 2, none⟩ z) from
    ⟨ks (by omega) hS.1 x y z, ks (by omega) hS.2.1 x y z, ks (by omega) hS.2.2.1 x y z, ks hg1 hS.2.2.2.1 x y z, ks hg1 hS.2.2.2.2.1 x y z, ks hg1 hS.2.2.2.2.2.1 x y z, ks hg2 hS.2.2.2.2.2.2.1 x y z, ks hg2 hS.2.2.2.2.2.2.2.1 x y z, ks hg2 hS.2.2.2.2.2.2.2.2.1 x y z, hS.2.2.2.2.2.2.2.2.2.store x y z⟩)
  go_region_held3 (fun W => W.cell? ⟨w.heap.size + 1, 0, none⟩ = some (.int .i64 p1) ∧ W.cell? ⟨w.heap.size + 1, 1, none⟩ = some (.int .i64 p2) ∧ W.cell? ⟨w.heap.size + 1, 2, none⟩ = some (.int .i64 p3) ∧ W.cell? ⟨w1.heap.size, 0, none⟩ = some (.int .i64 a1) ∧ W.cell? ⟨w1.heap.size, 1, none⟩ = some (.int .i64 a2) ∧ W.cell? ⟨w1.heap.size, 2, none⟩ = some (.int .i64 a3) ∧ W.cell? ⟨w2.heap.size, 0, none⟩ = some (.int .i64 b1) ∧ W.cell? ⟨w2.heap.size, 1, none⟩ = some (.int .i64 b2) ∧ W.cell? ⟨w2.heap.size, 2, none⟩ = some (.int .i64 b3) ∧ ImgR w W)
    (first
      | (with_reducible assumption)
      | (refine KS.out _ _ _ _ ?_; with_reducible assumption)
      | (exact ⟨x0, x1, x2, y0, y1, y2, z0, z1, z2, ImgR.drew hR0⟩)
      | (exact ⟨x0, x1, x2, y0, y1, y2, z0, z1, z2, hR0⟩)
      | go_keep)
    (first
      | (go_at_call 198; have hS := ‹_ ∧ _ ∧ _ ∧ _ ∧ _ ∧ _ ∧ _ ∧ _ ∧ _ ∧ ImgR w _›; (first | (with_reducible refine (HT1.out _).mono ?_) | (with_reducible refine (HT2.out _).mono ?_) | (with_reducible refine (HT3.out _).mono ?_)); rintro e wz ⟨rfl, hbz⟩; have hS2 := KC.out _ _ hS hbz; obtain ⟨u0, u1, u2, d0, d1, d2, g0, g1, g2⟩ := hS2.2.2.2.2.2.2.2.2.2.facts)
      | (go_at_call 199; have hS := ‹_ ∧ _ ∧ _ ∧ _ ∧ _ ∧ _ ∧ _ ∧ _ ∧ _ ∧ ImgR w _›; (with_reducible refine (HC.out _).mono ?_); rintro e wz ⟨rfl, hbz⟩; have hS2 := KC.out _ _ hS hbz; obtain ⟨u0, u1, u2, d0, d1, d2, g0, g1, g2⟩ := hS2.2.2.2.2.2.2.2.2.2.facts)
      | (go_at_call 178; have hS := ‹_ ∧ _ ∧ _ ∧ _ ∧ _ ∧ _ ∧ _ ∧ _ ∧ _ ∧ ImgR w _›; (first | (with_reducible refine (HS1.out _).mono ?_) | (with_reducible refine (HS2.out _).mono ?_)); rintro e wz ⟨rfl, hbz⟩; have hS2 := KC.out _ _ hS hbz; obtain ⟨u0, u1, u2, d0, d1, d2, g0, g1, g2⟩ := hS2.2.2.2.2.2.2.2.2.2.facts))
  go_goals
  have hSz := ‹_ ∧ _ ∧ _ ∧ _ ∧ _ ∧ _ ∧ _ ∧ _ ∧ _ ∧ ImgR w wz›
  obtain ⟨⟨i0, i1, i2, hk⟩, hwz⟩ := hSz.2.2.2.2.2.2.2.2.2
  have Hk := hide hk
  have Hwz := hide hwz
  go_wp2_with fail
  refine bodyPost_ret (results_c rfl rfl (((Hk.out.set_ 0 _).set_ 1 _).set_ 2 _) Tryz.underlying63 rfl (by kernel_rfl)) rfl ?_
  refine ⟨?_, ((Hwz.out.setCell (p := ⟨w.heap.size + 1 + 1, 0, none⟩) (by show w.heap.size ≤ w.heap.size + 1 + 1; omega) _).setCell (p := ⟨w.heap.size + 1 + 1, 1, none⟩) (by show w.heap.size ≤ w.heap.size + 1 + 1; omega) _).setCell (p := ⟨w.heap.size + 1 + 1, 2, none⟩) (by show w.heap.size ≤ w.heap.size + 1 + 1; omega) _⟩
  simp only [List.setIfInBounds_toArray, List.set_cons_zero, List.set_cons_succ]
end Go.Proofs.YtpmipoljnchheaaGreatDoor
namespace Go.Proofs.YtpmipoljnchheaaGreatDoor
open Go.RowKit

set_option maxHeartbeats 4000000 in
theorem refMember_any (m : MemD) (A1 A2 : Option Addr) (n1 n2 c1 c2 : Nat) (w : World) {B : Nat} (h1 : BoxesAt w B A1 m.boxes) (h2 : BoxesAt w B A2 m.holes) (hB : B ≤ w.heap.size) (l1 : n1 = m.boxes.length) (l2 : n2 = m.holes.length) (hnm : m.name.size ≤ maxLen) :
    Calls Tryz.prog 60 #[.agg #[.string m.name, .slice A1 n1 c1, .slice A2 n2 c2, .int .i64 m.cover, .int .i64 m.aggregate, .int .i64 m.poker]] w fun e w' => e = .returned (.bool (memOk m)) ∧ Below w.heap.size w w' := by
  have HI := hide (fun (W : World) => refIsName_any m.name W hnm)
  have HS := hide (fun (W : World) (hz : Below w.heap.size w W) => refSolid_any m.boxes m.holes A1 A2 n1 n2 c1 c2 W (h1.carry (Flat.carried _) (hz.mono hB) (Nat.le_refl _)) (h2.carry (Flat.carried _) (hz.mono hB) (Nat.le_refl _)) (Nat.le_trans hB hz.size) l1 l2)
  have hr : memOk m = (isName m.name && (solidOk m.boxes m.holes && (decide (0 ≤ m.cover) && (decide (m.cover ≤ 200) && (decide (1 ≤ m.aggregate) && (decide (m.aggregate ≤ 100) && (decide (1 ≤ m.poker) && decide (m.poker ≤ 200)))))))) := by
    simp only [memOk, within, Bool.and_assoc]
  rw [hr]
  clear hr h1 h2 l1 l2 hB hnm
  generalize isName m.name = a1 at *
  generalize solidOk m.boxes m.holes = a2 at *
  obtain ⟨name, boxes, holes, cover, agg, poker⟩ := m
  simp only at HI HS ⊢
  have K0 := hide (Blk.new w 26 #[.string name, .slice A1 n1 c1, .slice A2 n2 c2, .int .i64 cover, .int .i64 agg, .int .i64 poker])
  have HW := hide (below_new w (.cells #[.string name, .slice A1 n1 c1, .slice A2 n2 c2, .int .i64 cover, .int .i64 agg, .int .i64 poker] 26))
  go_enter Tryz.func60, Tryz.ntmps60
  go_wp2_with fail
  refine (HI.out _).mono ?_
  rintro e w1 ⟨rfl, rfl⟩
  cases a1
  · go_wp2_with fail
    go_ret
    exact ⟨rfl, HW.out⟩
  go_wp2_with fail
  refine (HS.out _ HW.out).mono ?_
  rintro e w1 ⟨rfl, hb⟩
  have K0 := hide (K0.out.keep hb)
  have HW := hide (below_step HW.out hb (Nat.le_refl _))
  clear hb HS HI
  have e3 := K0.out.cell 3
  have e4 := K0.out.cell 4
  have e5 := K0.out.cell 5
  simp at e3 e4 e5
  have lk := K0.out.lt
  cases a2
  · go_wp2_with fail
    go_ret
    exact ⟨rfl, HW.out⟩
  cases q0 : decide (0 ≤ cover)
  · go_wp2_with fail
    go_ret
    exact ⟨ret_bool (by first | rfl | (rw [q0]; rfl) | (rw [q0, q1]; rfl) | (rw [q0, q1, q2]; rfl) | (rw [q0, q1, q2, q3]; rfl) | (rw [q0, q1, q2, q3, q4]; rfl) | (rw [q0, q1, q2, q3, q4, q5]; rfl)), HW.out⟩
  cases q1 : decide (cover ≤ 200)
  · go_wp2_with fail
    go_ret
    exact ⟨ret_bool (by first | rfl | (rw [q0]; rfl) | (rw [q0, q1]; rfl) | (rw [q0, q1, q2]; rfl) | (rw [q0, q1, q2, q3]; rfl) | (rw [q0, q1, q2, q3, q4]; rfl) | (rw [q0, q1, q2, q3, q4, q5]; rfl)), HW.out⟩
  cases q2 : decide (1 ≤ agg)
  · go_wp2_with fail
    go_ret
    exact ⟨ret_bool (by first | rfl | (rw [q0]; rfl) | (rw [q0, q1]; rfl) | (rw [q0, q1, q2]; rfl) | (rw [q0, q1, q2, q3]; rfl) | (rw [q0, q1, q2, q3, q4]; rfl) | (rw [q0, q1, q2, q3, q4, q5]; rfl)), HW.out⟩
  cases q3 : decide (agg ≤ 100)
  · go_wp2_with fail
    go_ret
    exact ⟨ret_bool (by first | rfl | (rw [q0]; rfl) | (rw [q0, q1]; rfl) | (rw [q0, q1, q2]; rfl) | (rw [q0, q1, q2, q3]; rfl) | (rw [q0, q1, q2, q3, q4]; rfl) | (rw [q0, q1, q2, q3, q4, q5]; rfl)), HW.out⟩
  cases q4 : decide (1 ≤ poker)
  · go_wp2_with fail
    go_ret
    exact ⟨ret_bool (by first | rfl | (rw [q0]; rfl) | (rw [q0, q1]; rfl) | (rw [q0, q1, q2]; rfl) | (rw [q0, q1, q2, q3]; rfl) | (rw [q0, q1, q2, q3, q4]; rfl) | (rw [q0, q1, q2, q3, q4, q5]; rfl)), HW.out⟩
  cases q5 : decide (poker ≤ 200)
  all_goals
    go_wp2_with fail
    go_ret
    exact ⟨ret_bool (by first | rfl | (rw [q0]; rfl) | (rw [q0, q1]; rfl) | (rw [q0, q1, q2]; rfl) | (rw [q0, q1, q2, q3]; rfl) | (rw [q0, q1, q2, q3, q4]; rfl) | (rw [q0, q1, q2, q3, q4, q5]; rfl)), HW.out⟩
theorem nears_at {l : List Pt} {k : Nat} {x : Pt} (h : l[k]? = some x) : (l.drop k).all (nearBy 1048576) = (nearBy 1048576 x && (l.drop (k + 1)).all (nearBy 1048576)) := all_at h
set_option maxHeartbeats 1000000 in
theorem refNears_any (A : Option Addr) (l : List Pt) (n c : Nat) (w : World) {B : Nat} (h : PtsAt w B A l) (hB : B ≤ w.heap.size) (hn : n = l.length) (hm : n ≤ 60000) :
    Calls Tryz.prog 137 #[.slice A n c] w fun e w' => e = .returned (.bool (l.all (nearBy 1048576))) ∧ Below w.heap.size w w' := by
  have hn' := hide hn
  have Hs := hide h
  have hr := hide (show l.all (nearBy 1048576) = (l.drop 0).all (nearBy 1048576) from rfl)
  clear hn h
  go_enter Tryz.func137, Tryz.ntmps137
  go_wp2_with fail
  go_loopw [3] (fun i wr => ∃ k : Nat, k ≤ n ∧ i = .int .i64 k ∧ Hid ((l.drop 0).all (nearBy 1048576) = (l.drop k).all (nearBy 1048576)) ∧ Below w.heap.size w wr) (fun i _ => n - (intOf i).toNat)
  case atStart => exact ⟨0, Nat.zero_le _, rfl, hide rfl, Below.refl _ _⟩
  case round =>
    obtain ⟨k, hk, rfl, hq, hbr⟩ := hrel
    by_cases hlt : k < n
    · obtain ⟨b, off, x, rfl, hbl, hx, f0, f1, f2⟩ := PtsAt.get (k := k) (Hs.out.carry (Flat.carried _) (hbr.mono hB) (Nat.le_refl _)) (by rw [← hn'.out]; exact hlt)
      have Hq := hide (hq.out.trans (nears_at hx))
      have HT := hide (fun W => refNear_any x W)
      generalize nearBy 1048576 x = a at *
      obtain ⟨x1, x2, x3⟩ := x
      simp only [ptA] at f0 f1 f2 HT
      have Hbr := hide hbr
      clear hx hbl hq hbr
      go_wp2_with fail
      refine (HT.out _).mono ?_
      rintro e w1 ⟨rfl, hb⟩
      have Hbr := hide (below_step Hbr.out hb (Nat.le_refl _))
      clear hb HT f0 f1 f2
      cases a
      · go_wp2_with fail
        go_ret
        exact ⟨ret_bool (by rw [hr.out, Hq.out]; rfl), Hbr.out⟩
      · go_wp2_with fail
        go_roundw
        case rel => exact ⟨k + 1, by omega, by go_num, hide (by rw [Hq.out]; rfl), Hbr.out⟩
        case measure => simp [intOf]; omega
    · obtain rfl : k = n := by omega
      go_wp2_with fail
      go_ret
      exact ⟨ret_bool (by rw [hr.out, hq.out, List.drop_of_length_le (by rw [← hn'.out]; exact Nat.le_refl _)]; rfl), hbr⟩
set_option maxHeartbeats 1000000 in
theorem refMain_any (b : BoxD) (w : World) :
    Calls Tryz.prog 183 #[bxV b] w fun e w' => e = .returned (.bool (isMain b)) ∧ Below w.heap.size w w' := by
  obtain ⟨⟨x1, x2, x3⟩, x4, x5, x6⟩ := b
  have hr : isMain ⟨(x1, x2, x3), (x4, x5, x6)⟩ = (decide (x1 < x4) && (decide (x2 = x5) && decide (x3 = x6))) := by simp only [isMain, Bool.and_assoc]
  have h1 : (x2 == x5) = decide (x2 = x5) := rfl
  have h2 : (x3 == x6) = decide (x3 = x6) := rfl
  rw [hr]
  clear hr
  cases q0 : decide (x1 < x4)
  · clear h1 h2
    go_enter Tryz.func183, Tryz.ntmps183
    go_wp2_with fail
    go_ret
    exact ⟨rfl, below_new _ _⟩
  cases q1 : decide (x2 = x5)
  · rw [q1] at h1
    clear h2
    go_enter Tryz.func183, Tryz.ntmps183
    go_wp2_with fail
    go_ret
    exact ⟨rfl, below_new _ _⟩
  cases q2 : decide (x3 = x6)
  all_goals
    rw [q1] at h1
    rw [q2] at h2
    go_enter Tryz.func183, Tryz.ntmps183
    go_wp2_with fail
    go_ret
    exact ⟨rfl, below_new _ _⟩
set_option maxHeartbeats 1000000 in
theorem refMainLeg_any (A : Option Addr) (l : List BoxD) (n c : Nat) (w : World) {B : Nat} (h : BoxesAt w B A l) (hB : B ≤ w.heap.size) (hn : n = l.length) (hm : n ≤ 60000) :
    Calls Tryz.prog 143 #[.slice A n c] w fun e w' => e = .returned (.int .i64 (idx isMain l)) ∧ Below w.heap.size w w' := by
  have hn' := hide hn
  have Hs := hide h
  clear hn h
  go_enter Tryz.func143, Tryz.ntmps143
  go_wp2_with fail
  go_loopw [3] (fun i wr => ∃ k : Nat, k ≤ n ∧ i = .int .i64 k ∧ NoneTo isMain l k ∧ Below w.heap.size w wr) (fun i _ => n - (intOf i).toNat)
  case atStart => exact ⟨0, Nat.zero_le _, rfl, NoneTo.zero _ _, Below.refl _ _⟩
  case round =>
    obtain ⟨k, hk, rfl, hq, hbr⟩ := hrel
    by_cases hlt : k < n
    · obtain ⟨b, off, x, rfl, hbl, hx, f0, f1, f2, f3, f4, f5⟩ := BoxesAt.get (k := k) (Hs.out.carry (Flat.carried _) (hbr.mono hB) (Nat.le_refl _)) (by rw [← hn'.out]; exact hlt)
      have Hx := hide hx
      have HT := hide (fun W => refMain_any x W)
      obtain ⟨a, ha⟩ : ∃ a, a = isMain x := ⟨_, rfl⟩
      rw [← ha] at HT
      have Ha := hide ha.symm
      obtain ⟨⟨x1, x2, x3⟩, x4, x5, x6⟩ := x
      simp only [bxV] at f0 f1 f2 f3 f4 f5 HT
      have Hbr := hide hbr
      clear hx hbl hbr ha
      go_wp2_with fail
      refine (HT.out _).mono ?_
      rintro e w1 ⟨rfl, hb⟩
      have Hbr := hide (below_step Hbr.out hb (Nat.le_refl _))
      clear hb HT f0 f1 f2 f3 f4 f5
      cases a
      · go_wp2_with fail
        go_roundw
        case rel => exact ⟨k + 1, by omega, by go_num, hq.succ Hx.out Ha.out, Hbr.out⟩
        case measure => simp [intOf]; omega
      · go_wp2_with fail
        go_ret
        exact ⟨ret_int (hq.hit Hx.out Ha.out).symm, Hbr.out⟩
    · obtain rfl : k = n := by omega
      go_wp2_with fail
      go_ret
      exact ⟨ret_int (NoneTo.miss (by rw [← hn'.out]; exact hq)).symm, hbr⟩
end Go.Proofs.YtpmipoljnchheaaGreatDoor
namespace Go.Proofs.YtpmipoljnchheaaGreatDoor
open Go.RowKit

/-- A true or a false; the true one tells something. -/
def RetB (e : Ending) (p : Prop) : Prop := ∃ t : Bool, e = .returned (.bool t) ∧ (t = true → p)
set_option maxHeartbeats 1000000 in
theorem short_any (m : ByteArray) (a b d : Int) (A : Option Addr) (n c : Nat) (w : World) :
    Calls Tryz.prog 59 #[.agg #[.string m, .int .i64 a, .int .i64 b, .int .i64 d, .slice A n c]] w fun e w' => RetB e (n ≤ 8 ∧ m.size ≤ 60) ∧ Below w.heap.size w w' := by
  have kB := hide (Blk.new w 53 #[.string m, .int .i64 a, .int .i64 b, .int .i64 d, .slice A n c])
  have hW := hide (below_new w (.cells #[.string m, .int .i64 a, .int .i64 b, .int .i64 d, .slice A n c] 53))
  have d1 : decide ((n : Int) ≤ 8) = decide (n ≤ 8) := by congr 1; simp; omega
  have d2 : decide ((m.size : Int) ≤ 60) = decide (m.size ≤ 60) := by congr 1; simp; omega
  go_enter Tryz.func59, Tryz.ntmps59
  go_wp2_with fail
  all_goals go_ret
  all_goals exact ⟨⟨_, rfl, fun h => by simp at h <;> omega⟩, hW.out⟩
set_option maxHeartbeats 1000000 in
theorem small17_any (A1 A2 : Option Addr) (n1 c1 n2 c2 : Nat) (w : World) :
    Calls Tryz.prog 36 #[.agg #[.slice A1 n1 c1, .slice A2 n2 c2], .int .i64 4] w fun e w' => RetB e True ∧ Below w.heap.size w w' := by
  have kB := hide (Blk.new w 24 #[.slice A1 n1 c1, .slice A2 n2 c2])
  have hW := hide (below_new w (.cells #[.slice A1 n1 c1, .slice A2 n2 c2] 24))
  go_enter Tryz.func36, Tryz.ntmps36
  go_wp2_with fail
  go_region
  all_goals (go_wp2_with fail)
  all_goals go_ret
  all_goals exact ⟨⟨_, rfl, fun _ => trivial⟩, hW.out.drew⟩
set_option maxHeartbeats 4000000 in
theorem count16_any (A : Option Addr) (l : List RunD) (n c : Nat) (w : World) {B : Nat} (h : RunsAt w B A l) (hB : B ≤ w.heap.size) (hn : n = l.length) (hm : n ≤ 60) (hok : ∀ r ∈ l, 1 ≤ r.count ∧ r.count ≤ 1000) :
    Calls Tryz.prog 88 #[.slice A n c] w fun e w' => e = .returned (.int .i64 (countRuns l)) ∧ Below w.heap.size w w' := by
  have H2 := hide h
  have hn2' := hide hn
  have Hc := hide hok
  have Hrg := hide (fun (k : Nat) => countRuns_range (l.take k) (fun r hr => hok r (List.mem_of_mem_take hr)))
  clear h hok hn
  go_enter Tryz.func88, Tryz.ntmps88
  go_wp2_with fail
  go_loopw [3, 4] (fun v i wr => ∃ k : Nat, k ≤ n ∧ i = .int .i64 k ∧ (∃ t : Int, v = .int .i64 t ∧ Hid (t = countRuns (l.take k))) ∧ Below w.heap.size w wr) (fun _ i _ => n - (intOf i).toNat)
  case atStart => exact ⟨0, Nat.zero_le _, rfl, ⟨0, rfl, hide rfl⟩, Below.refl _ _⟩
  case round =>
    obtain ⟨k, hk, rfl, ⟨t, rfl, ht⟩, hbr⟩ := hrel
    have hrg := Hrg.out k
    rw [← ht.out, List.length_take] at hrg
    by_cases hlt : k < n
    · obtain ⟨b, off, r, rfl, hbl, hx, hc⟩ := RunsAt.get (k := k) (H2.out.carry (Flat.carried _) (hbr.mono hB) (Nat.le_refl _)) (by rw [← hn2'.out]; exact hlt)
      obtain ⟨hc0, hc1⟩ := Hc.out r (mem_of_get hx)
      have Hn := hide (show countRuns (l.take (k + 1)) = t + r.count by rw [take_snoc' hx, countRuns_snoc, ht.out])
      obtain ⟨mark, tx, ty, ⟨a1, a2, a3⟩, ⟨s1, s2, s3⟩, cnt⟩ := r
      have p9 := hc 9 _ rfl
      simp only at p9 hc0 hc1 Hn
      clear hx hbl hc
      go_wp2_with fail
      go_roundw
      case rel => exact ⟨k + 1, by omega, by go_num, ⟨t + cnt, rfl, hide Hn.out.symm⟩, hbr⟩
      case measure => simp [intOf]; omega
    · obtain rfl : k = n := by omega
      have hf := hide (show t = countRuns l by rw [ht.out, hn2'.out, List.take_length])
      go_wp2_with fail
      go_ret
      exact ⟨by rw [← hf.out]; rfl, hbr⟩
set_option maxHeartbeats 4000000 in
theorem small23_any (A : Option Addr) (l : List DemD) (n c : Nat) (w : World) {B : Nat} (h : DemsAt w B A l) (hB : B ≤ w.heap.size) (hn : n = l.length) :
    Calls Tryz.prog 38 #[.slice A n c, .int .i64 4] w fun e w' => RetB e (n ≤ 25 ∧ ∀ d ∈ l, d.name.size ≤ 60 ∧ d.steps.length ≤ 205) ∧ Below w.heap.size w w' := by
  have hn' := hide hn
  have Hs := hide h
  clear hn h
  by_cases hcut : n ≤ 4 ∨ (20 < n ∧ n ≤ 25)
  case neg =>
    have d1 : (decide (4 < (n : Int)) && decide ((n : Int) ≤ 20) || decide (25 < (n : Int))) = true := by
      simp only [Bool.or_eq_true, Bool.and_eq_true, decide_eq_true_eq]; omega
    go_enter Tryz.func38, Tryz.ntmps38
    go_wp2_with fail
    all_goals go_ret
    all_goals exact ⟨⟨_, rfl, fun h => by simp at h <;> omega⟩, Below.refl _ _⟩
  case pos =>
    have hn25 : n ≤ 25 := by omega
    clear hcut
    go_enter Tryz.func38, Tryz.ntmps38
    go_wp2_with fail
    any_goals (
      go_loopw [5] (fun i wr => ∃ k : Nat, k ≤ n ∧ i = .int .i64 k ∧ Hid (∀ d ∈ l.take k, d.name.size ≤ 60 ∧ d.steps.length ≤ 205) ∧ Below w.heap.size w wr) (fun i _ => n - (intOf i).toNat)
      case atStart => exact ⟨0, Nat.zero_le _, rfl, hide (by simp), Below.refl _ _⟩
      case round =>
        obtain ⟨k, hk, rfl, hq, hbr⟩ := hrel
        by_cases hlt : k < n
        · have HR := hide (Hs.out.carry demR_carried (hbr.mono hB) (Nat.le_refl B))
          obtain ⟨b, off, x, A', c', rfl, hbl, hx, hi, hcells⟩ := DemsAt.get (k := k) HR.out (by rw [← hn'.out]; exact hlt)
          have h0 := hcells 0 _ rfl
          have h7 := hcells 7 _ rfl
          rw [Nat.add_zero] at h0
          have Hnext := fun (hx1 : x.name.size ≤ 60) (hx2 : x.steps.length ≤ 205) => (show ∀ d ∈ l.take (k + 1), d.name.size ≤ 60 ∧ d.steps.length ≤ 205 by
            rw [take_snoc' hx]
            intro d hd
            rcases List.mem_append.1 hd with h | h
            · exact hq.out d h
            · obtain rfl := List.mem_singleton.1 h; exact ⟨hx1, hx2⟩)
          have Hnext := hide Hnext
          clear hx hi hcells hbl hq
          obtain ⟨name, zone, steps⟩ := x
          simp only [] at h0 h7 Hnext
          generalize steps.length = sl at *
          go_wp2_with fail
          all_goals first
            | (go_roundw
               case rel => exact ⟨k + 1, by omega, by go_num, hide (Hnext.out (by omega) (by omega)), hbr⟩
               case measure => simp [intOf]; omega)
            | (go_ret
               exact ⟨⟨false, rfl, fun h => by cases h⟩, hbr⟩)
        · obtain rfl : k = n := by omega
          have hfull := hide (show ∀ d ∈ l, d.name.size ≤ 60 ∧ d.steps.length ≤ 205 by have := hq.out; rwa [hn'.out, List.take_length] at this)
          go_wp2_with fail
          go_ret
          first
            | exact ⟨⟨true, rfl, fun _ => hfull.out⟩, hbr⟩
            | exact ⟨⟨true, rfl, fun _ => ⟨by omega, hfull.out⟩⟩, hbr⟩)
    all_goals go_ret
    all_goals exact ⟨⟨false, rfl, fun h => by cases h⟩, Below.refl _ _⟩
end Go.Proofs.YtpmipoljnchheaaGreatDoor
namespace Go.Proofs.YtpmipoljnchheaaGreatDoor
open Go.RowKit

set_option maxHeartbeats 8000000 in
set_option maxRecDepth 100000 in
theorem small16_any (A : Option Addr) (l : List BarD) (n c : Nat) (A2 : Option Addr) (l2 : List RunD) (n2 c2 : Nat) (w : World) {B : Nat} (h : BarsAt w B A l) (h2 : RunsAt w B A2 l2) (hB : B ≤ w.heap.size) (hn : n = l.length) (hn2 : n2 = l2.length) :
    Calls Tryz.prog 37 #[.slice A n c, .slice A2 n2 c2, .int .i64 6, .int .i64 16] w fun e w' => RetB e (n ≤ 63 ∧ n2 ≤ 63 ∧ Tame l) ∧ Below w.heap.size w w' := by
  have hn' := hide hn
  have hn2' := hide hn2
  have Hs := hide h
  have H2 := hide h2
  clear hn hn2 h h2
  go_enter Tryz.func37, Tryz.ntmps37
  go_upto_region 1 with fail
  go_cut [41] from 12 (fun v W => (∃ t : Bool, v = .bool t ∧ Hid (t = false → n ≤ 63 ∧ n2 ≤ 63)) ∧ Below w.heap.size w W)
  case first =>
    go_wp2_with fail
    all_goals go_meet
    all_goals exact ⟨⟨_, rfl, hide (fun h => by simp at h <;> omega)⟩, Below.refl _ _⟩
  case rest =>
    obtain ⟨⟨t, rfl, ht⟩, hb⟩ := hcut
    cases t
    case true =>
      go_wp2_with fail
      go_ret
      exact ⟨⟨false, rfl, fun h => by cases h⟩, hb⟩
    case false =>
      obtain ⟨h63, h263⟩ := ht.out rfl
      clear ht
      have hb0 := hide hb
      clear hb
      go_wp2_with fail
      go_loopw [9] (fun i wr => ∃ k : Nat, k ≤ n ∧ i = .int .i64 k ∧ Hid (Tame (l.take k)) ∧ Below w.heap.size w wr) (fun i _ => n - (intOf i).toNat)
      case atStart => exact ⟨0, Nat.zero_le _, rfl, hide (by intro x hx; simp at hx), hb0.out⟩
      case round =>
        clear hb0
        obtain ⟨k, hk, rfl, hq, hbr⟩ := hrel
        by_cases hlt : k < n
        · have HR := hide (Hs.out.carry (hbr.mono hB) (Nat.le_refl B))
          obtain ⟨b, off, x, A', c', rfl, hbl, hx, hi, h0, h1, h2, h3, h4⟩ := BarsAt.get (k := k) HR.out (by rw [← hn'.out]; exact hlt)
          have Hnext := hide (fun (hx1 : x.dims.length ≤ 8 ∧ x.mark.size ≤ 60) => (show Tame (l.take (k + 1)) by
            rw [take_snoc' hx]
            intro d hd
            rcases List.mem_append.1 hd with h | h
            · exact hq.out d h
            · obtain rfl := List.mem_singleton.1 h; exact ⟨Nat.le_trans hx1.2 (by decide), by omega⟩))
          clear hx hi hbl hq
          obtain ⟨mark, size, cnt, code, dims⟩ := x
          simp only [] at h0 h1 h2 h3 h4 Hnext
          generalize dims.length = dl at *
          go_wp2_with fail
          refine (short_any mark size cnt code A' dl c' _).mono ?_
          rintro e w2 ⟨⟨t, rfl, ht⟩, hb2⟩
          have Hb2 := hide (hbr.trans (hb2.mono hbr.size))
          clear hb2
          cases t
          · clear ht Hnext
            go_wp2_with fail
            go_ret
            exact ⟨⟨false, rfl, fun h => by cases h⟩, Hb2.out⟩
          · have Hnext := hide (Hnext.out (ht rfl))
            clear ht
            go_wp2_with fail
            go_roundw
            case rel => exact ⟨k + 1, by omega, by go_num, Hnext, Hb2.out⟩
            case measure => simp [intOf]; omega
        · obtain rfl : k = n := by omega
          have HT := hide (show Tame l by have := hq.out; rwa [hn'.out, List.take_length] at this)
          have Hb0 := hide hbr
          clear hq hbr
          rename World => wo
          go_wp2_with fail
          go_loopw [10, 11] (fun v i wr => ∃ j : Nat, j ≤ n2 ∧ i = .int .i64 j ∧ (∃ t : Int, v = .int .i64 t ∧ 0 ≤ t ∧ t ≤ 16 * j) ∧ Below w.heap.size w wr) (fun _ i _ => n2 - (intOf i).toNat)
          case atStart => exact ⟨0, Nat.zero_le _, rfl, ⟨0, rfl, by omega, by omega⟩, Hb0.out⟩
          case round =>
            clear Hb0
            obtain ⟨j, hj, rfl, ⟨t, rfl, ht0, ht1⟩, hbr⟩ := hrel
            by_cases hlt : j < n2
            · obtain ⟨b, off, r, rfl, hbl, hx, hc⟩ := RunsAt.get (k := j) (H2.out.carry (Flat.carried _) (hbr.mono hB) (Nat.le_refl _)) (by rw [← hn2'.out]; exact hlt)
              obtain ⟨mark, tx, ty, ⟨a1, a2, a3⟩, ⟨s1, s2, s3⟩, cnt⟩ := r
              have p0 := hc 0 _ rfl
              have p9 := hc 9 _ rfl
              simp only [Nat.add_zero] at p0 p9
              clear hx hbl hc
              go_wp2_with fail
              all_goals first
                | (go_roundw
                   case rel => exact ⟨j + 1, by omega, by go_num, ⟨_, rfl, by omega, by omega⟩, hbr⟩
                   case measure => simp [intOf]; omega)
                | (go_ret
                   exact ⟨⟨false, rfl, fun h => by cases h⟩, hbr⟩)
            · obtain rfl : j = n2 := by omega
              go_wp2_with fail
              all_goals go_ret
              all_goals first
                | exact ⟨⟨_, rfl, fun _ => HT.out⟩, hbr⟩
                | exact ⟨⟨_, rfl, fun _ => ⟨h63, h263, HT.out⟩⟩, hbr⟩
                | exact ⟨⟨_, rfl, fun _ => ⟨by omega, by omega, HT.out⟩⟩, hbr⟩
end Go.Proofs.YtpmipoljnchheaaGreatDoor
namespace Go.Proofs.YtpmipoljnchheaaGreatDoor
open Go.RowKit

/-- What few(x) gives. -/
structure Few (x : DetD) (s : DetS) : Prop where
  name : x.mem.name.size ≤ 60
  bars : s.n3 ≤ 63
  runs : s.n4 ≤ 63
  laps : s.n5 ≤ 1005
  demn : s.n6 ≤ 25
  tame : Tame x.bars
  dems : ∀ d ∈ x.dems, d.name.size ≤ 60 ∧ d.steps.length ≤ 205
structure DetLen (x : DetD) (s : DetS) : Prop where
  l1 : s.n1 = x.mem.boxes.length
  l2 : s.n2 = x.mem.holes.length
  l3 : s.n3 = x.bars.length
  l4 : s.n4 = x.runs.length
  l5 : s.n5 = x.laps.length
  l6 : s.n6 = x.dems.length
  k6 : s.n6 ≤ s.c6
theorem few_fit {x : DetD} {s : DetS} (h : DetLen x s) (f : Few x s) : DetFit x s :=
  ⟨h.l1, h.l2, h.l3, h.l4, h.l5, h.l6, Nat.le_trans f.bars (by decide), Nat.le_trans f.runs (by decide), Nat.le_trans f.laps (by decide), Nat.le_trans f.demn (by decide), h.k6,
   Nat.le_trans f.name (by decide), f.tame, fun d hd => ⟨Nat.le_trans (f.dems d hd).1 (by decide), by have := (f.dems d hd).2; omega⟩⟩
set_option maxHeartbeats 8000000 in
set_option maxRecDepth 100000 in
theorem small25_any (x : DetD) (s : DetS) (w : World) {B : Nat} (h : DetAt w B x s) (hB : B ≤ w.heap.size) (hl : DetLen x s) :
    Calls Tryz.prog 18 #[detV x s] w fun e w' => RetB e (Few x s) ∧ Below w.heap.size w w' := by
  have HS := hide (fun (W : World) (hz : Below w.heap.size w W) => small16_any s.a3 x.bars s.n3 s.c3 s.a4 x.runs s.n4 s.c4 W (h.h3.carry (hz.mono hB) (Nat.le_refl _)) (h.h4.carry (Flat.carried _) (hz.mono hB) (Nat.le_refl _)) (Nat.le_trans hB hz.size) hl.l3 hl.l4)
  have HD := hide (fun (W : World) (hz : Below w.heap.size w W) => small23_any s.a6 x.dems s.n6 s.c6 W (SlOf.carry demR_carried h.h6 (hz.mono hB) (Nat.le_refl _)) (Nat.le_trans hB hz.size) hl.l6)
  have K0 := hide (Blk.new w 34 (detCells x.mem x.rule s))
  have W0 := hide (below_new w (.cells (detCells x.mem x.rule s) 34))
  clear h hB hl
  obtain ⟨mem, bars, runs, laps, dems, rule⟩ := x
  obtain ⟨sol, boxes, holes, cover, agg, poker⟩ := mem
  obtain ⟨a1, n1, c1, a2, n2, c2, a3, n3, c3, a4, n4, c4, a5, n5, c5, a6, n6, c6⟩ := s
  go_enter Tryz.func18, Tryz.ntmps18
  by_cases hnm : 60 < (sol.size : Int)
  · go_wp2_with fail
    go_ret
    exact ⟨⟨false, rfl, fun h => by cases h⟩, W0.out⟩
  · go_wp2_with fail
    refine (small17_any a1 a2 n1 c1 n2 c2 _).mono ?_
    rintro e w2 ⟨⟨t, rfl, _⟩, hb2⟩
    have K1 := hide (K0.out.keep hb2)
    have W1 := hide (below_step W0.out hb2 (Nat.le_refl _))
    clear hb2 K0 W0
    cases t
    · go_wp2_with fail
      go_ret
      exact ⟨⟨false, rfl, fun h => by cases h⟩, W1.out⟩
    have c6 := K1.out.cell 6
    have c7 := K1.out.cell 7
    simp at c6 c7
    go_wp2_with fail
    refine (HS.out _ W1.out).mono ?_
    rintro e w3 ⟨⟨t, rfl, ht⟩, hb3⟩
    have K2 := hide (K1.out.keep hb3)
    have W2 := hide (below_step W1.out hb3 (Nat.le_refl _))
    clear hb3 K1 W1 HS c6 c7
    cases t
    · clear ht
      go_wp2_with fail
      go_ret
      exact ⟨⟨false, rfl, fun h => by cases h⟩, W2.out⟩
    have H16 := hide (ht rfl)
    clear ht
    have c9 := K2.out.cell 9
    simp at c9
    go_wp2_with fail
    refine (HD.out _ W2.out).mono ?_
    rintro e w4 ⟨⟨t, rfl, ht⟩, hb4⟩
    have K3 := hide (K2.out.keep hb4)
    have W3 := hide (below_step W2.out hb4 (Nat.le_refl _))
    clear hb4 K2 W2 HD c9
    cases t
    · clear ht
      go_wp2_with fail
      go_ret
      exact ⟨⟨false, rfl, fun h => by cases h⟩, W3.out⟩
    have H23 := hide (ht rfl)
    clear ht
    have c8 := K3.out.cell 8
    simp at c8
    have Hfin := hide (fun (h5 : n5 ≤ 1005) => (⟨by simp only []; omega, H16.out.1, H16.out.2.1, h5, H23.out.1, H16.out.2.2, H23.out.2⟩ : Few ⟨⟨sol, boxes, holes, cover, agg, poker⟩, bars, runs, laps, dems, rule⟩ ⟨a1, n1, c1, a2, n2, c2, a3, n3, c3, a4, n4, c4, a5, n5, c5, a6, n6, c6⟩))
    go_wp2_with fail
    all_goals go_ret
    all_goals exact ⟨⟨_, rfl, fun h => Hfin.out (by simp at h <;> omega)⟩, W3.out⟩
/-- few: the detail is small. -/
theorem few_any (x : DetD) (s : DetS) (w : World) {B : Nat} (h : DetAt w B x s) (hB : B ≤ w.heap.size) (hl : DetLen x s) :
    Calls Tryz.prog 5 #[detV x s] w fun e w' => RetB e (Few x s) ∧ Below w.heap.size w w' := by
  have HS := hide (fun (W : World) (hz : Below w.heap.size w W) => small25_any x s W (h.carry (hz.mono hB) (Nat.le_refl _)) (Nat.le_trans hB hz.size) hl)
  have Hi := hide (show (Tryz.prog.info? 34).map (·.size) = some 19 by kernel_rfl)
  have W0 := hide (below_new w (.cells (detCells x.mem x.rule s) 34))
  have K0 := hide (Blk.new w 34 (detCells x.mem x.rule s))
  clear h hB hl
  generalize hQ : Few x s = Q at *
  clear hQ
  obtain ⟨mem, bars, runs, laps, dems, rule⟩ := x
  obtain ⟨a1, n1, c1, a2, n2, c2, a3, n3, c3, a4, n4, c4, a5, n5, c5, a6, n6, c6⟩ := s
  obtain ⟨name, boxes, holes, cover, agg, poker⟩ := mem
  obtain ⟨r1, r2, r3, r4, r5, r6, r7, r8, r9⟩ := rule
  simp only [detCells] at K0 W0
  show Calls Tryz.prog 5 #[.agg #[.string name, .slice a1 n1 c1, .slice a2 n2 c2, .int .i64 cover, .int .i64 agg, .int .i64 poker, .slice a3 n3 c3, .slice a4 n4 c4, .slice a5 n5 c5, .slice a6 n6 c6, .int .i64 r1, .int .i64 r2, .int .i64 r3, .int .i64 r4, .int .i64 r5, .int .i64 r6, .int .i64 r7, .int .i64 r8, .int .i64 r9]] w _
  go_enter Tryz.func5, Tryz.ntmps5
  go_wp2_with (refine wpList_load_row rfl 34 (.tmp 1) rfl w.heap.size rfl 34 _ (0, 0) _ K0.out Tryz.underlying34 rfl Hi.out ?_)
  refine (HS.out _ W0.out).mono ?_
  rintro e w2 ⟨⟨t, rfl, ht⟩, hb2⟩
  have Ht := hide ht
  have Hb := hide (below_step W0.out hb2 (Nat.le_refl _))
  clear ht hb2 HS K0 W0 Hi
  go_wp2_with fail
  go_ret
  exact ⟨⟨t, rfl, Ht.out⟩, Hb.out⟩
end Go.Proofs.YtpmipoljnchheaaGreatDoor
