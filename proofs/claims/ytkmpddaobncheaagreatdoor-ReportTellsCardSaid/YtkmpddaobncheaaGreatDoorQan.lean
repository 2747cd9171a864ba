/- Turns: whether they are valid; points, turned and moved; paths, turned and moved. Paths, turned and moved. Places, moved points, and the line of a mark. Points as boxes. -/
import Derived.Test.YtkmpddaobncheaaGreatDoorQam
namespace Go.Proofs.YtkmpddaobncheaaGreatDoor
open Go.RowKit

set_option maxHeartbeats 1000000 in
theorem frameValid_any (x y : Int) (w : World) : Calls Tryz.prog 174 #[.agg #[.int .i64 x, .int .i64 y]] w fun e w' => e = .returned (.bool (turnOk x y)) ∧ Below w.heap.size w w' := by
  have HX := hide (fun (W : World) => axis_any x W)
  have HY := hide (fun (W : World) => axis_any y W)
  cases hx : axisN x
  · have Hr := hide (show turnOk x y = false by rw [turnOk, hx]; rfl)
    rw [hx] at HX
    clear hx
    go_enter Tryz.func174, Tryz.ntmps174
    go_wp2_with fail
    refine (HX.out _).mono ?_
    rintro e w2 ⟨rfl, rfl⟩
    go_wp2_with fail
    go_ret
    exact ⟨ret_bool Hr.out.symm, below_new w _⟩
  cases hy : axisN y
  · have Hr := hide (show turnOk x y = false by rw [turnOk, hx, hy]; rfl)
    rw [hx] at HX
    rw [hy] at HY
    clear hx hy
    go_enter Tryz.func174, Tryz.ntmps174
    go_wp2_with fail
    refine (HX.out _).mono ?_
    rintro e w2 ⟨rfl, rfl⟩
    go_wp2_with fail
    refine (HY.out _).mono ?_
    rintro e w2 ⟨rfl, rfl⟩
    go_wp2_with fail
    go_ret
    exact ⟨ret_bool Hr.out.symm, below_new w _⟩
  have hry : -3 ≤ y ∧ y ≤ 3 := by
    simp [axisN] at hy
    omega
  have Hr := hide (show turnOk x y = (!decide (x = y) && !decide (x = -y)) by rw [turnOk, hx, hy]; rfl)
  have sn : IntKind.i64.wrap (-y) = -y := IntWalk.i64_in _ (by omega)
  rw [hx] at HX
  rw [hy] at HY
  clear hx hy
  go_enter Tryz.func174, Tryz.ntmps174
  go_wp2_with fail
  refine (HX.out _).mono ?_
  rintro e w2 ⟨rfl, rfl⟩
  go_wp2_with fail
  refine (HY.out _).mono ?_
  rintro e w2 ⟨rfl, rfl⟩
  go_wp2_with fail
  all_goals
    go_ret
    exact ⟨ret_bool (by rw [Hr.out, Bool.eq_iff_iff]; simp_all), below_new w _⟩

theorem img_range {x y : Int} {p : Pt} {m : Int} (h : turnOk x y = true) (hp : nearBy m p = true) (hm : 0 ≤ m) : nearBy (3 * m) (imgV x y p) = true := by
  obtain ⟨HP1, HP2, HP3⟩ := nearBy_iff.1 hp
  have hx : axis6 x := by
    simp only [turnOk, Bool.and_eq_true] at h
    exact axis6_of h.1.1.1
  have hy : axis6 y := by
    simp only [turnOk, Bool.and_eq_true] at h
    exact axis6_of h.1.1.2
  obtain ⟨A1, A2, A3⟩ := unitish_of hx
  obtain ⟨B1, B2, B3⟩ := unitish_of hy
  obtain ⟨C1, C2, C3⟩ := cross_unit h
  rw [nearBy_iff, imgV, linV]
  have a1 := mulM_bound A1 HP1 hm
  have a2 := mulM_bound A2 HP1 hm
  have a3 := mulM_bound A3 HP1 hm
  have b1 := mulM_bound B1 HP2 hm
  have b2 := mulM_bound B2 HP2 hm
  have b3 := mulM_bound B3 HP2 hm
  have c1 := mulM_bound C1 HP3 hm
  have c2 := mulM_bound C2 HP3 hm
  have c3 := mulM_bound C3 HP3 hm
  simp only
  omega
abbrev ptA (p : Pt) : Value := .agg #[.int .i64 p.1, .int .i64 p.2.1, .int .i64 p.2.2]
set_option maxHeartbeats 4000000 in
set_option maxRecDepth 100000 in
theorem placed_any (x y : Int) (a p : Pt) (w : World) (h : turnOk x y = true) (ha : nearBy 1099511627776 a = true) (hp : nearBy 1099511627776 p = true) :
    Calls Tryz.prog 184 #[.agg #[.int .i64 x, .int .i64 y], ptA a, ptA p] w fun e w' => ∃ q : Pt, e = .returned (ptA q) ∧ Hid (q = addP a (imgV x y p)) ∧ Below w.heap.size w w' := by
  have HI := hide (fun (W : World) => image_any x y p W h hp)
  have hr := img_range h hp (by omega)
  obtain ⟨v, hv⟩ : ∃ v, v = imgV x y p := ⟨_, rfl⟩
  rw [← hv] at HI hr
  have Hv := hide hv
  obtain ⟨⟨r1, r2⟩, ⟨r3, r4⟩, r5, r6⟩ := nearBy_iff.1 hr
  obtain ⟨⟨t1, t2⟩, ⟨t3, t4⟩, t5, t6⟩ := nearBy_iff.1 ha
  obtain ⟨v1, v2, v3⟩ := v
  obtain ⟨a1, a2, a3⟩ := a
  obtain ⟨p1, p2, p3⟩ := p
  simp only at r1 r2 r3 r4 r5 r6 t1 t2 t3 t4 t5 t6 HI
  have g4 := (Blk.new1 w (.cells #[.int .i64 x, .int .i64 y] 118) 49 #[.int .i64 a1, .int .i64 a2, .int .i64 a3])
  have z1 : IntKind.i64.wrap (a1 + v1) = a1 + v1 := IntWalk.i64_in _ (by omega)
  have z2 : IntKind.i64.wrap (a2 + v2) = a2 + v2 := IntWalk.i64_in _ (by omega)
  have z3 : IntKind.i64.wrap (a3 + v3) = a3 + v3 := IntWalk.i64_in _ (by omega)
  obtain ⟨o1, ho1⟩ : ∃ o1 : Obj, o1 = .cells #[.int .i64 x, .int .i64 y] 118 := ⟨_, rfl⟩
  obtain ⟨o3, ho3⟩ : ∃ o3 : Obj, o3 = .cells #[.int .i64 p1, .int .i64 p2, .int .i64 p3] 49 := ⟨_, rfl⟩
  have hB := hide ((((below_new2 w (.cells #[.int .i64 x, .int .i64 y] 118) (.cells #[.int .i64 a1, .int .i64 a2, .int .i64 a3] 49)).alloc (by simp; omega) (.cells #[.int .i64 p1, .int .i64 p2, .int .i64 p3] 49)).alloc (by simp; omega) (.cells #[.int .i64 0, .int .i64 0, .int .i64 0] 49)))
  have kA := hide ((g4.alloc (.cells #[.int .i64 p1, .int .i64 p2, .int .i64 p3] 49)).alloc (.cells #[.int .i64 0, .int .i64 0, .int .i64 0] 49))
  have kR0 := Blk.new (((w.alloc (.cells #[.int .i64 x, .int .i64 y] 118)).alloc (.cells #[.int .i64 a1, .int .i64 a2, .int .i64 a3] 49)).alloc (.cells #[.int .i64 p1, .int .i64 p2, .int .i64 p3] 49)) 49 #[.int .i64 0, .int .i64 0, .int .i64 0]
  rw [size_alloc', size_alloc', size_alloc'] at kR0
  have kR := hide kR0
  clear h ha hp hr hv g4 kR0 ho1 ho3 o1 o3
  show Calls Tryz.prog 184 #[.agg #[.int .i64 x, .int .i64 y], .agg #[.int .i64 a1, .int .i64 a2, .int .i64 a3], .agg #[.int .i64 p1, .int .i64 p2, .int .i64 p3]] w _
  go_enter Tryz.func184, Tryz.ntmps184
  go_wp2_with fail
  refine (HI.out _).mono ?_
  rintro e w2 ⟨q, rfl, hq, hb2⟩
  obtain rfl := hq.out
  have bA := kA.out.keep hb2
  have bR := kR.out.keep hb2
  have hw2 := below_step hB.out hb2 (Nat.le_refl _)
  have hsz : w.heap.size + 1 + 1 + 1 < w2.heap.size := bR.lt
  clear hb2 hB kA kR HI hq
  have c0 := bA.cell 0
  have c1 := bA.cell 1
  have c2 := bA.cell 2
  have d0 := bR.cell 0
  have d1 := bR.cell 1
  have d2 := bR.cell 2
  have f0 := bR.frozen 0
  have f1 := bR.frozen 1
  have f2 := bR.frozen 2
  simp at c0 c1 c2 d0 d1 d2
  have hl1 := bA.lt
  have hw3 := hide hw2
  have hR3 := hide bR
  clear bA bR hw2
  go_wp2_with fail
  have hfin := hide ((((hw3.out.setCell (p := ⟨w.heap.size + 1 + 1 + 1, 0, none⟩) (by show w.heap.size ≤ w.heap.size + 1 + 1 + 1; omega) (.int .i64 (a1 + v1))).setCell (p := ⟨w.heap.size + 1 + 1 + 1, 1, none⟩) (by show w.heap.size ≤ w.heap.size + 1 + 1 + 1; omega) (.int .i64 (a2 + v2))).setCell (p := ⟨w.heap.size + 1 + 1 + 1, 2, none⟩) (by show w.heap.size ≤ w.heap.size + 1 + 1 + 1; omega) (.int .i64 (a3 + v3))).alloc (by have := hw3.out.size; simpa using this) (.cells #[.int .i64 v1, .int .i64 v2, .int .i64 v3] 49))
  refine bodyPost_ret (results_c rfl rfl ((((hR3.out.set_ 0 _).set_ 1 _).set_ 2 _).alloc _) Tryz.underlying49 rfl (by kernel_rfl)) rfl ?_
  refine ⟨(a1 + v1, a2 + v2, a3 + v3), ?_, hide (by rw [← Hv.out]; rfl), hfin.out⟩
  simp only [List.setIfInBounds_toArray, List.set_cons_zero, List.set_cons_succ]
end Go.Proofs.YtkmpddaobncheaaGreatDoor
namespace Go.Proofs.YtkmpddaobncheaaGreatDoor
open Go.RowKit

def mapPts (x y : Int) (a : Pt) (l : List Pt) : List Pt := l.map fun p => addP a (imgV x y p)
theorem mapPts_snoc (x y : Int) (a : Pt) (l : List Pt) (p : Pt) : mapPts x y a (l ++ [p]) = mapPts x y a l ++ [addP a (imgV x y p)] := by simp [mapPts]
theorem mapPts_len (x y : Int) (a : Pt) (l : List Pt) : (mapPts x y a l).length = l.length := by simp [mapPts]
set_option maxHeartbeats 4000000 in
set_option maxRecDepth 100000 in
theorem framePath_ok (x y : Int) (a : Pt) (A : Option Addr) (l : List Pt) (n c : Nat) (w : World) {B : Nat} (h : PtsAt w B A l) (hB : B ≤ w.heap.size) (hn : n = l.length) (ht : turnOk x y = true) (hl : n ≤ 1000) (ha : nearBy 1048576 a = true) (hp : ∀ p ∈ l, nearBy 1048576 p = true) :
    Calls Tryz.prog 130 #[.agg #[.int .i64 x, .int .i64 y], ptA a, .slice A n c] w fun e w' => ∃ A' c', e = .returned (.tuple #[.slice A' n c', .int .i64 0]) ∧ PtsAt w' w'.heap.size A' (mapPts x y a l) ∧ Below w.heap.size w w' := by
  have HV := fun (W : World) => frameValid_any x y W
  rw [ht] at HV
  have HV := hide HV
  have HPl := hide (fun (W : World) (p : Pt) (hpl : p ∈ l) => placed_any x y a p W ht (nearBy_mono ha (by omega)) (nearBy_mono (hp p hpl) (by omega)))
  have hnl : l.all (nearBy 1048576) = true := List.all_eq_true.2 hp
  have HNl := fun (W : World) (hz : Below w.heap.size w W) => near_any A l n c W (h.carry (Flat.carried _) (hz.mono hB) (Nat.le_refl _)) (Nat.le_trans hB hz.size) hn (by omega)
  rw [hnl] at HNl
  have HNl := hide HNl
  have HNa := fun (W : World) => near_any (some ⟨W.heap.size, 0, none⟩) [a] 1 1 (W.alloc (.cells #[.int .i64 a.1, .int .i64 a.2.1, .int .i64 a.2.2] 49)) (B := W.heap.size + 1) (SlOf.lit encPt_len W 49 _ [a] rfl (Nat.lt_succ_self _)) (by simp) rfl (by omega)
  rw [show [a].all (nearBy 1048576) = true by simp [ha]] at HNa
  have HNa := hide HNa
  have Hs := hide h
  have hn' := hide hn
  have d0 : decide (1000 < (n : Int)) = false := by simp; omega
  obtain ⟨a1, a2, a3⟩ := a
  have b0 := (Blk.new w 118 #[.int .i64 x, .int .i64 y]).alloc (.cells #[.int .i64 a1, .int .i64 a2, .int .i64 a3] 49)
  have b1 := Blk.new1 w (.cells #[.int .i64 x, .int .i64 y] 118) 49 #[.int .i64 a1, .int .i64 a2, .int .i64 a3]
  have hw0 := below_new2 w (.cells #[.int .i64 x, .int .i64 y] 118) (.cells #[.int .i64 a1, .int .i64 a2, .int .i64 a3] 49)
  have K0 := hide b0
  have K1 := hide b1
  have HW0 := hide hw0
  clear h hn ht ha hp hnl b0 b1 hw0
  show Calls Tryz.prog 130 #[.agg #[.int .i64 x, .int .i64 y], .agg #[.int .i64 a1, .int .i64 a2, .int .i64 a3], .slice A n c] w _
  go_enter Tryz.func130, Tryz.ntmps130
  go_wp2_with fail
  refine (HV.out _).mono ?_
  rintro e w2 ⟨rfl, hb2⟩
  have k0 := K0.out.keep hb2
  have k1 := K1.out.keep hb2
  have hw2 := hide (below_step HW0.out hb2 (Nat.le_refl _))
  have c0 := k1.cell 0
  have c1 := k1.cell 1
  have c2 := k1.cell 2
  simp at c0 c1 c2
  have K0 := hide k0
  have K1 := hide k1
  clear hb2 k0 k1 HV HW0
  go_wp2_with fail
  refine (HNa.out _).mono ?_
  rintro e w3 ⟨rfl, hb3⟩
  have hb23 := (below_new w2 (.cells #[.int .i64 a1, .int .i64 a2, .int .i64 a3] 49)).trans (hb3.mono (by simp))
  have K0 := hide (K0.out.keep hb23)
  have K1 := hide (K1.out.keep hb23)
  have hw3 := hide (below_step hw2.out hb23 (Nat.le_refl _))
  clear hb3 hb23 c0 c1 c2 hw2 HNa
  go_wp2_with fail
  refine (HNl.out _ hw3.out).mono ?_
  rintro e w4 ⟨rfl, hb4⟩
  have K0 := hide (K0.out.keep hb4)
  have K1 := hide (K1.out.keep hb4)
  have hw4 := hide (below_step hw3.out hb4 (Nat.le_refl _))
  clear hb4 hw3 HNl
  go_wp2_with fail
  go_loopw [8, 31] (fun v i wr => ∃ k : Nat, k ≤ n ∧ i = .int .i64 k ∧ Row wr w4.heap.size 49 3 encPt v (mapPts x y (a1, a2, a3) (l.take k)) ∧ Below w4.heap.size w4 wr) (fun _ i _ => n - (intOf i).toNat)
  case atStart => exact ⟨0, Nat.zero_le _, rfl, Row.nil _ _ _ _ _, Below.refl _ _⟩
  case round =>
    obtain ⟨k, hk, rfl, hrow, hbr⟩ := hrel
    obtain ⟨A0, c0, rfl⟩ := hrow.val
    have hacc : (mapPts x y (a1, a2, a3) (l.take k)).length ≤ 1000 := by rw [mapPts_len, List.length_take]; omega
    have Hrow := hide hrow
    clear hrow
    by_cases hlt : k < n
    · have Hbw := hide (below_step hw4.out hbr (Nat.le_refl _))
      obtain ⟨b, off, p, rfl, hbl, hx, e0, e1, e2⟩ := PtsAt.get (k := k) (Hs.out.carry (Flat.carried _) (Hbw.out.mono hB) (Nat.le_refl _)) (by rw [← hn'.out]; exact hlt)
      have hbw : b < wr.heap.size := by have := Hbw.out.size; omega
      have Hn := hide (show mapPts x y (a1, a2, a3) (l.take (k + 1)) = mapPts x y (a1, a2, a3) (l.take k) ++ [addP (a1, a2, a3) (imgV x y p)] by rw [take_snoc' hx, mapPts_snoc])
      have HPp := hide (fun W => HPl.out W p (mem_of_get hx))
      generalize mapPts x y (a1, a2, a3) (l.take k) = acc at *
      have kk0 := K0.out.below hbr K0.out.lt
      have kk1 := K1.out.below hbr K1.out.lt
      have f0 := kk0.cell 0
      have f1 := kk0.cell 1
      have g0 := kk1.cell 0
      have g1 := kk1.cell 1
      have g2 := kk1.cell 2
      simp at f0 f1 g0 g1 g2
      have hl0 := kk0.lt
      have hl1 := kk1.lt
      obtain ⟨p1, p2, p3⟩ := p
      simp only at e0 e1 e2
      clear hx hbl kk0 kk1
      go_wp2_with fail
      refine (HPp.out _).mono ?_
      rintro e w5 ⟨q, rfl, hq, hb5⟩
      obtain ⟨q1, q2, q3⟩ := q
      have hbr5 := hide (hbr.trans ((below_new wr (.cells #[.int .i64 p1, .int .i64 p2, .int .i64 p3] 49)).trans (hb5.mono (by simp)) |>.mono hbr.size))
      have Hrow5 := hide (Hrow.out.keep ((below_new wr (.cells #[.int .i64 p1, .int .i64 p2, .int .i64 p3] 49)).trans (hb5.mono (by simp))))
      clear hb5 f0 f1 g0 g1 g2 e0 e1 e2
      go_wp2_with (at_builtin; refine wpList_append1 rfl (.tmp 35) (.tmp 40) 201 rfl w4.heap.size 49 (.agg #[.int .i64 0, .int .i64 0, .int .i64 0]) 3 24 encPt Tryz.underlying201 (by kernel_rfl) rfl (by omega) encPt_len encPt_one _ acc (q1, q2, q3) rfl (Hrow5.out.alloc _) _ rfl (Blk.new w5 _ _) (by omega) (by omega) (le_alloc hbr5.out.size _) ?_; intro A1 c1 w6 hrow6 hb6 _)
      go_roundw
      case rel => exact ⟨k + 1, by omega, by go_num, by rw [Hn.out, ← hq.out]; simpa using hrow6, (hbr5.out.alloc hbr5.out.size _).trans hb6⟩
      case measure => simp [intOf]; omega
    · obtain rfl : k = n := by omega
      have hfull := (show mapPts x y (a1, a2, a3) (l.take k) = mapPts x y (a1, a2, a3) l by rw [hn'.out, List.take_length])
      have hlen : (mapPts x y (a1, a2, a3) (l.take k)).length = k := by rw [mapPts_len, List.length_take]; have := hn'.out; omega
      have Hread := hide (show PtsAt wr wr.heap.size A0 (mapPts x y (a1, a2, a3) l) by rw [← hfull]; exact Row.read Hrow.out encPt_len (by omega))
      have Hlen := hide hlen
      clear hfull Hrow
      generalize (mapPts x y (a1, a2, a3) (l.take k)).length = m at *
      go_wp2_with fail
      go_ret2
      exact ⟨A0, c0, by rw [Hlen.out]; rfl, Hread.out, below_step hw4.out hbr (Nat.le_refl _)⟩
end Go.Proofs.YtkmpddaobncheaaGreatDoor
namespace Go.Proofs.YtkmpddaobncheaaGreatDoor
open Go.RowKit

set_option maxHeartbeats 1000000 in
theorem isPlace_any (p : Pt) (m : Int) (w : World) (hm : 0 ≤ m ∧ m ≤ 4194304) : Calls Tryz.prog 175 #[ptA p, .int .i64 m] w fun e w' => e = .returned (.bool (nearBy m p)) ∧ Below w.heap.size w w' := by
  obtain ⟨p1, p2, p3⟩ := p
  have Hr := hide (nearBy_iff (m := m) (p := (p1, p2, p3)))
  have sn : IntKind.i64.wrap (-m) = -m := IntWalk.i64_in _ (by omega)
  show Calls Tryz.prog 175 #[.agg #[.int .i64 p1, .int .i64 p2, .int .i64 p3], .int .i64 m] w _
  go_enter Tryz.func175, Tryz.ntmps175
  go_wp2_with fail
  all_goals
    go_ret
    refine ⟨ret_bool ?_, below_new w _⟩
    rw [Bool.eq_iff_iff, Hr.out]
    simp
    omega
set_option maxHeartbeats 4000000 in
theorem plus_any (p s : Pt) (k : Int) (w : World) (hp : nearBy 1099511627776 p = true) (hs : nearBy 1099511627776 (mulP k s) = true) :
    Calls Tryz.prog 177 #[ptA p, ptA s, .int .i64 k] w fun e w' => ∃ q : Pt, e = .returned (ptA q) ∧ Hid (q = addP p (mulP k s)) ∧ Below w.heap.size w w' := by
  obtain ⟨p1, p2, p3⟩ := p
  obtain ⟨x1, x2, x3⟩ := s
  obtain ⟨⟨r1, r2⟩, ⟨r3, r4⟩, r5, r6⟩ := nearBy_iff.1 hp
  obtain ⟨⟨t1, t2⟩, ⟨t3, t4⟩, t5, t6⟩ := nearBy_iff.1 hs
  simp only [mulP] at r1 r2 r3 r4 r5 r6 t1 t2 t3 t4 t5 t6
  have s1 : IntKind.i64.wrap (k * x1) = k * x1 := IntWalk.i64_in _ (by omega)
  have s2 : IntKind.i64.wrap (k * x2) = k * x2 := IntWalk.i64_in _ (by omega)
  have s3 : IntKind.i64.wrap (k * x3) = k * x3 := IntWalk.i64_in _ (by omega)
  have z1 : IntKind.i64.wrap (p1 + k * x1) = p1 + k * x1 := IntWalk.i64_in _ (by omega)
  have z2 : IntKind.i64.wrap (p2 + k * x2) = p2 + k * x2 := IntWalk.i64_in _ (by omega)
  have z3 : IntKind.i64.wrap (p3 + k * x3) = p3 + k * x3 := IntWalk.i64_in _ (by omega)
  have kR := hide (Blk.new2 w (.cells #[.int .i64 p1, .int .i64 p2, .int .i64 p3] 49) (.cells #[.int .i64 x1, .int .i64 x2, .int .i64 x3] 49) 49 #[.int .i64 (p1 + k * x1), .int .i64 (p2 + k * x2), .int .i64 (p3 + k * x3)])
  have hB := hide ((below_new2 w (.cells #[.int .i64 p1, .int .i64 p2, .int .i64 p3] 49) (.cells #[.int .i64 x1, .int .i64 x2, .int .i64 x3] 49)).alloc (by simp; omega) (.cells #[.int .i64 (p1 + k * x1), .int .i64 (p2 + k * x2), .int .i64 (p3 + k * x3)] 49))
  clear hp hs
  show Calls Tryz.prog 177 #[.agg #[.int .i64 p1, .int .i64 p2, .int .i64 p3], .agg #[.int .i64 x1, .int .i64 x2, .int .i64 x3], .int .i64 k] w _
  go_enter Tryz.func177, Tryz.ntmps177
  go_wp2_with fail
  refine bodyPost_ret (results_c rfl rfl kR.out Tryz.underlying49 rfl (by kernel_rfl)) rfl ?_
  exact ⟨(p1 + k * x1, p2 + k * x2, p3 + k * x3), rfl, hide rfl, hB.out⟩
set_option maxHeartbeats 400000 in
theorem find1_any (x : BarD) (A : Option Addr) (c : Nat) (m : ByteArray) (g : Nat) (w : World) (h0 : w.cell? ⟨g, 0, none⟩ = some (.string m)) :
    Calls Tryz.prog 234 #[.agg #[.string x.mark, .int .i64 x.size, .int .i64 x.count, .int .i64 x.code, .slice A x.dims.length c], .pointer (some ⟨g, 0, none⟩)] w fun e w' => e = .returned (.bool (markIs m x)) ∧ Below w.heap.size w w' := by
  have hg : g < w.heap.size := World.block_lt_of_cell? w _ h0
  have h1 := fun o => (World.cell?_alloc_lt w o ⟨g, 0, none⟩ hg).trans h0
  go_enter Tryz.func234, Tryz.ntmps234
  go_wp2_with fail
  go_ret
  exact ⟨ret_bool (by rfl), below_new _ _⟩
set_option maxHeartbeats 400000 in
theorem laidFind_any (A : Option Addr) (l : List BarD) (n c : Nat) (m : ByteArray) (w : World) {B : Nat} (h : BarsAt w B A l) (hB : B ≤ w.heap.size) (hn : n = l.length) (hm : n ≤ 60000) :
    Calls Tryz.prog 173 #[.slice A n c, .string m] w fun e w' => e = .returned (.int .i64 (idx (markIs m) l)) ∧ Below w.heap.size w w' := by
  have hn' := hide hn
  have h1 := hide (h.carry ((Below.refl B w).alloc hB (.cells #[.string m] 9)) (Nat.le_refl B))
  have h2 := hide (le_alloc hB (.cells #[.string m] 9))
  clear hn
  go_enter Tryz.func173, Tryz.ntmps173
  go_wp2_with fail
  refine (indexFuncBar_any A l n c 234 #[.pointer (some ⟨w.heap.size, 0, none⟩)] (markIs m) _ h1.out h2.out hn'.out hm Tryz.call234 (fun x A' c' W _ hb _ => find1_any x A' c' m w.heap.size W (by have h0 := ((Blk.new w 9 #[.string m]).keep hb).cell 0; simpa using h0))).mono ?_
  rintro e w1 ⟨rfl, hb⟩
  go_wp2_with fail
  go_ret
  exact ⟨rfl, below_step (below_new _ _) hb (Nat.le_refl _)⟩
end Go.Proofs.YtkmpddaobncheaaGreatDoor
namespace Go.Proofs.YtkmpddaobncheaaGreatDoor
open Go.RowKit

def ptBox (p : Pt) : BoxD := ⟨p, p⟩
set_option maxHeartbeats 2000000 in
set_option maxRecDepth 100000 in
theorem points_any (A : Option Addr) (l : List Pt) (n c : Nat) (w : World) {B : Nat} (h : PtsAt w B A l) (hB : B ≤ w.heap.size) (hn : n = l.length) (hm : n ≤ 1000) :
    Calls Tryz.prog 304 #[.slice A n c] w fun e w' => ∃ A' c', e = .returned (.slice A' n c') ∧ BoxesAt w' w'.heap.size A' (l.map ptBox) ∧ Below w.heap.size w w' := by
  have Hs := hide h
  have hn' := hide hn
  clear h hn
  go_enter Tryz.func304, Tryz.ntmps304
  go_wp2_with fail
  go_loopw [3, 8] (fun v i wr => ∃ k : Nat, k ≤ n ∧ i = .int .i64 k ∧ (∃ acc : List BoxD, Row wr w.heap.size 51 6 encB v acc ∧ Hid (acc = (l.take k).map ptBox)) ∧ Below w.heap.size w wr) (fun _ i _ => n - (intOf i).toNat)
  case atStart => exact ⟨0, Nat.zero_le _, rfl, ⟨[], Row.nil _ _ _ _ _, hide rfl⟩, Below.refl _ _⟩
  case round =>
    obtain ⟨k, hk, rfl, ⟨acc, hrow, hacc⟩, hbr⟩ := hrel
    obtain ⟨A0, c0, rfl⟩ := hrow.val
    have hal : acc.length ≤ 1000 := by rw [hacc.out, List.length_map, List.length_take]; omega
    have Hrow := hide hrow
    clear hrow
    by_cases hlt : k < n
    · obtain ⟨b, off, p, rfl, hbl, hx, e0, e1, e2⟩ := PtsAt.get (k := k) (Hs.out.carry (Flat.carried _) (hbr.mono hB) (Nat.le_refl _)) (by rw [← hn'.out]; exact hlt)
      have hbw : b < wr.heap.size := by have := hbr.size; omega
      have Hn := hide (show (l.take (k + 1)).map ptBox = acc ++ [ptBox p] by rw [take_snoc' hx, List.map_append, hacc.out]; rfl)
      obtain ⟨p1, p2, p3⟩ := p
      simp only at e0 e1 e2
      have hs1 := hbr.size
      clear hx hbl
      go_wp2_with (at_builtin; refine wpList_append1 rfl (.tmp 12) (.tmp 16) 22 rfl w.heap.size 51 (.agg #[.int .i64 0, .int .i64 0, .int .i64 0, .int .i64 0, .int .i64 0, .int .i64 0]) 6 48 encB Tryz.underlying22 (by kernel_rfl) rfl (by omega) encB_len encB_one _ acc (ptBox (p1, p2, p3)) rfl ((Hrow.out.alloc _).alloc _) _ rfl (Blk.new1 wr _ _ _) (by omega) (by omega) (le_alloc (le_alloc hs1 _) _) ?_; intro A1 c1 w6 hrow6 hb6 _)
      go_roundw
      case rel => exact ⟨k + 1, by omega, by go_num, ⟨acc ++ [ptBox (p1, p2, p3)], by simpa using hrow6, hide Hn.out.symm⟩, ((hbr.alloc hs1 _).alloc (le_alloc hs1 _) _).trans hb6⟩
      case measure => simp [intOf]; omega
    · obtain rfl : k = n := by omega
      have hf : acc = l.map ptBox := by rw [hacc.out, hn'.out, List.take_length]
      have hlen := hide (show acc.length = k by rw [hf, List.length_map]; exact hn'.out.symm)
      have Hr := hide (show BoxesAt wr wr.heap.size A0 (l.map ptBox) by rw [← hf]; exact Row.read Hrow.out encB_len (by omega))
      clear hf hacc Hrow
      generalize acc.length = m at *
      go_wp2_with fail
      go_ret
      exact ⟨A0, c0, by rw [← hlen.out]; rfl, Hr.out, hbr⟩
end Go.Proofs.YtkmpddaobncheaaGreatDoor
