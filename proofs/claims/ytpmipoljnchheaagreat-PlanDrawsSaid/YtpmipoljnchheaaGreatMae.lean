/- Turns: whether they are valid; points, turned and moved; paths, turned and moved. Paths, turned and moved. Places, moved points, and the line of a mark. The path of a valid bar. -/
import Derived.Test.YtpmipoljnchheaaGreatMad
namespace Go.Proofs.YtpmipoljnchheaaGreat
open Go.RowKit

set_option maxHeartbeats 1000000 in
theorem frameValid_any (x y : Int) (w : World) : Calls Tryz.prog 123 #[.agg #[.int .i64 x, .int .i64 y]] w fun e w' => e = .returned (.bool (turnOk x y)) ∧ Below w.heap.size w w' := by
  have HX := hide (fun (W : World) => axis_any x W)
  have HY := hide (fun (W : World) => axis_any y W)
  cases hx : axisN x
  · have Hr := hide (show turnOk x y = false by rw [turnOk, hx]; rfl)
    rw [hx] at HX
    clear hx
    go_enter Tryz.func123, Tryz.ntmps123
    go_wp2_with fail
    refine (HX.out _).mono ?_
    rintro e w2 ⟨rfl, rfl⟩
    go_wp2_with fail
    go_ret
    exact ⟨ret_bool Hr.out.symm, below_new w _⟩
  cases hy : axisN y
  · have Hr := hide (show turnOk x y = false by rw [turnOk, hx, hy]; rfl)
    rw [hx] at HX
    rw [hy] at HY
    clear hx hy
    go_enter Tryz.func123, Tryz.ntmps123
    go_wp2_with fail
    refine (HX.out _).mono ?_
    rintro e w2 ⟨rfl, rfl⟩
    go_wp2_with fail
    refine (HY.out _).mono ?_
    rintro e w2 ⟨rfl, rfl⟩
    go_wp2_with fail
    go_ret
    exact ⟨ret_bool Hr.out.symm, below_new w _⟩
  have hry : -3 ≤ y ∧ y ≤ 3 := by
    simp [axisN] at hy
    omega
  have Hr := hide (show turnOk x y = (!decide (x = y) && !decide (x = -y)) by rw [turnOk, hx, hy]; rfl)
  have sn : IntKind.i64.wrap (-y) = -y := IntWalk.i64_in _ (by omega)
  rw [hx] at HX
  rw [hy] at HY
  clear hx hy
  go_enter Tryz.func123, Tryz.ntmps123
  go_wp2_with fail
  refine (HX.out _).mono ?_
  rintro e w2 ⟨rfl, rfl⟩
  go_wp2_with fail
  refine (HY.out _).mono ?_
  rintro e w2 ⟨rfl, rfl⟩
  go_wp2_with fail
  all_goals
    go_ret
    exact ⟨ret_bool (by rw [Hr.out, Bool.eq_iff_iff]; simp_all), below_new w _⟩

theorem img_range {x y : Int} {p : Pt} {m : Int} (h : turnOk x y = true) (hp : nearBy m p = true) (hm : 0 ≤ m) : nearBy (3 * m) (imgV x y p) = true := by
  obtain ⟨HP1, HP2, HP3⟩ := nearBy_iff.1 hp
  have hx : axis6 x := by
    simp only [turnOk, Bool.and_eq_true] at h
    exact axis6_of h.1.1.1
  have hy : axis6 y := by
    simp only [turnOk, Bool.and_eq_true] at h
    exact axis6_of h.1.1.2
  obtain ⟨A1, A2, A3⟩ := unitish_of hx
  obtain ⟨B1, B2, B3⟩ := unitish_of hy
  obtain ⟨C1, C2, C3⟩ := cross_unit h
  rw [nearBy_iff, imgV, linV]
  have a1 := mulM_bound A1 HP1 hm
  have a2 := mulM_bound A2 HP1 hm
  have a3 := mulM_bound A3 HP1 hm
  have b1 := mulM_bound B1 HP2 hm
  have b2 := mulM_bound B2 HP2 hm
  have b3 := mulM_bound B3 HP2 hm
  have c1 := mulM_bound C1 HP3 hm
  have c2 := mulM_bound C2 HP3 hm
  have c3 := mulM_bound C3 HP3 hm
  simp only
  omega
abbrev ptA (p : Pt) : Value := .agg #[.int .i64 p.1, .int .i64 p.2.1, .int .i64 p.2.2]
set_option maxHeartbeats 4000000 in
set_option maxRecDepth 100000 in
theorem placed_any (x y : Int) (a p : Pt) (w : World) (h : turnOk x y = true) (ha : nearBy 1099511627776 a = true) (hp : nearBy 1099511627776 p = true) :
    Calls Tryz.prog 178 #[.agg #[.int .i64 x, .int .i64 y], ptA a, ptA p] w fun e w' => ∃ q : Pt, e = .returned (ptA q) ∧ Hid (q = addP a (imgV x y p)) ∧ Below w.heap.size w w' := by
  have HI := hide (fun (W : World) => image_any x y p W h hp)
  have hr := img_range h hp (by omega)
  obtain ⟨v, hv⟩ : ∃ v, v = imgV x y p := ⟨_, rfl⟩
  rw [← hv] at HI hr
  have Hv := hide hv
  obtain ⟨⟨r1, r2⟩, ⟨r3, r4⟩, r5, r6⟩ := nearBy_iff.1 hr
  obtain ⟨⟨t1, t2⟩, ⟨t3, t4⟩, t5, t6⟩ := nearBy_iff.1 ha
  obtain ⟨v1, v2, v3⟩ := v
  obtain ⟨a1, a2, a3⟩ := a
  obtain ⟨p1, p2, p3⟩ := p
  simp only at r1 r2 r3 r4 r5 r6 t1 t2 t3 t4 t5 t6 HI
  have g4 := (Blk.new1 w (.cells #[.int .i64 x, .int .i64 y] 77) 44 #[.int .i64 a1, .int .i64 a2, .int .i64 a3])
  have z1 : IntKind.i64.wrap (a1 + v1) = a1 + v1 := IntWalk.i64_in _ (by omega)
  have z2 : IntKind.i64.wrap (a2 + v2) = a2 + v2 := IntWalk.i64_in _ (by omega)
  have z3 : IntKind.i64.wrap (a3 + v3) = a3 + v3 := IntWalk.i64_in _ (by omega)
  obtain ⟨o1, ho1⟩ : ∃ o1 : Obj, o1 = .cells #[.int .i64 x, .int .i64 y] 77 := ⟨_, rfl⟩
  obtain ⟨o3, ho3⟩ : ∃ o3 : Obj, o3 = .cells #[.int .i64 p1, .int .i64 p2, .int .i64 p3] 44 := ⟨_, rfl⟩
  have hB := hide ((((below_new2 w (.cells #[.int .i64 x, .int .i64 y] 77) (.cells #[.int .i64 a1, .int .i64 a2, .int .i64 a3] 44)).alloc (by simp; omega) (.cells #[.int .i64 p1, .int .i64 p2, .int .i64 p3] 44)).alloc (by simp; omega) (.cells #[.int .i64 0, .int .i64 0, .int .i64 0] 44)))
  have kA := hide ((g4.alloc (.cells #[.int .i64 p1, .int .i64 p2, .int .i64 p3] 44)).alloc (.cells #[.int .i64 0, .int .i64 0, .int .i64 0] 44))
  have kR0 := Blk.new (((w.alloc (.cells #[.int .i64 x, .int .i64 y] 77)).alloc (.cells #[.int .i64 a1, .int .i64 a2, .int .i64 a3] 44)).alloc (.cells #[.int .i64 p1, .int .i64 p2, .int .i64 p3] 44)) 44 #[.int .i64 0, .int .i64 0, .int .i64 0]
  rw [size_alloc', size_alloc', size_alloc'] at kR0
  have kR := hide kR0
  clear h ha hp hr hv g4 kR0 ho1 ho3 o1 o3
  show Calls Tryz.prog 178 #[.agg #[.int .i64 x, .int .i64 y], .agg #[.int .i64 a1, .int .i64 a2, .int .i64 a3], .agg #[.int .i64 p1, .int .i64 p2, .int .i64 p3]] w _
  go_enter Tryz.func178, Tryz.ntmps178
  go_wp2_with fail
  refine (HI.out _).mono ?_
  rintro e w2 ⟨q, rfl, hq, hb2⟩
  obtain rfl := hq.out
  have bA := kA.out.keep hb2
  have bR := kR.out.keep hb2
  have hw2 := below_step hB.out hb2 (Nat.le_refl _)
  have hsz : w.heap.size + 1 + 1 + 1 < w2.heap.size := bR.lt
  clear hb2 hB kA kR HI hq
  have c0 := bA.cell 0
  have c1 := bA.cell 1
  have c2 := bA.cell 2
  have d0 := bR.cell 0
  have d1 := bR.cell 1
  have d2 := bR.cell 2
  have f0 := bR.frozen 0
  have f1 := bR.frozen 1
  have f2 := bR.frozen 2
  simp at c0 c1 c2 d0 d1 d2
  have hl1 := bA.lt
  have hw3 := hide hw2
  have hR3 := hide bR
  clear bA bR hw2
  go_wp2_with fail
  have hfin := hide ((((hw3.out.setCell (p := ⟨w.heap.size + 1 + 1 + 1, 0, none⟩) (by show w.heap.size ≤ w.heap.size + 1 + 1 + 1; omega) (.int .i64 (a1 + v1))).setCell (p := ⟨w.heap.size + 1 + 1 + 1, 1, none⟩) (by show w.heap.size ≤ w.heap.size + 1 + 1 + 1; omega) (.int .i64 (a2 + v2))).setCell (p := ⟨w.heap.size + 1 + 1 + 1, 2, none⟩) (by show w.heap.size ≤ w.heap.size + 1 + 1 + 1; omega) (.int .i64 (a3 + v3))).alloc (by have := hw3.out.size; simpa using this) (.cells #[.int .i64 v1, .int .i64 v2, .int .i64 v3] 44))
  refine bodyPost_ret (results_c rfl rfl ((((hR3.out.set_ 0 _).set_ 1 _).set_ 2 _).alloc _) Tryz.underlying44 rfl (by kernel_rfl)) rfl ?_
  refine ⟨(a1 + v1, a2 + v2, a3 + v3), ?_, hide (by rw [← Hv.out]; rfl), hfin.out⟩
  simp only [List.setIfInBounds_toArray, List.set_cons_zero, List.set_cons_succ]
end Go.Proofs.YtpmipoljnchheaaGreat
namespace Go.Proofs.YtpmipoljnchheaaGreat
open Go.RowKit

def mapPts (x y : Int) (a : Pt) (l : List Pt) : List Pt := l.map fun p => addP a (imgV x y p)
theorem mapPts_snoc (x y : Int) (a : Pt) (l : List Pt) (p : Pt) : mapPts x y a (l ++ [p]) = mapPts x y a l ++ [addP a (imgV x y p)] := by simp [mapPts]
theorem mapPts_len (x y : Int) (a : Pt) (l : List Pt) : (mapPts x y a l).length = l.length := by simp [mapPts]
theorem encPt_flat (p : Pt) : [p].flatMap encPt = encPt p := by simp
set_option maxHeartbeats 4000000 in
set_option maxRecDepth 100000 in
theorem framePath_ok (x y : Int) (a : Pt) (A : Option Addr) (l : List Pt) (n c : Nat) (w : World) {B : Nat} (h : PtsAt w B A l) (hB : B ≤ w.heap.size) (hn : n = l.length) (ht : turnOk x y = true) (hl : n ≤ 1000) (ha : nearBy 1048576 a = true) (hp : ∀ p ∈ l, nearBy 1048576 p = true) :
    Calls Tryz.prog 146 #[.agg #[.int .i64 x, .int .i64 y], ptA a, .slice A n c] w fun e w' => ∃ A' c', e = .returned (.tuple #[.slice A' n c', .int .i64 0]) ∧ PtsAt w' w'.heap.size A' (mapPts x y a l) ∧ Below w.heap.size w w' := by
  have HV := fun (W : World) => frameValid_any x y W
  rw [ht] at HV
  have HV := hide HV
  have HPl := hide (fun (W : World) (p : Pt) (hpl : p ∈ l) => placed_any x y a p W ht (nearBy_mono ha (by omega)) (nearBy_mono (hp p hpl) (by omega)))
  have hnl : l.all (nearBy 1048576) = true := List.all_eq_true.2 hp
  have HNl := fun (W : World) (hz : Below w.heap.size w W) => near_any A l n c W (h.carry (Flat.carried _) (hz.mono hB) (Nat.le_refl _)) (Nat.le_trans hB hz.size) hn (by omega)
  rw [hnl] at HNl
  have HNl := hide HNl
  have HNa := fun (W : World) => near_any (some ⟨W.heap.size, 0, none⟩) [a] 1 1 (W.alloc (.cells #[.int .i64 a.1, .int .i64 a.2.1, .int .i64 a.2.2] 44)) (B := W.heap.size + 1) (SlOf.lit encPt_len W 44 _ [a] rfl (Nat.lt_succ_self _)) (by simp) rfl (by omega)
  rw [show [a].all (nearBy 1048576) = true by simp [ha]] at HNa
  have HNa := hide HNa
  have Hs := hide h
  have hn' := hide hn
  have d0 : decide (1000 < (n : Int)) = false := by simp; omega
  obtain ⟨a1, a2, a3⟩ := a
  have b0 := (Blk.new w 77 #[.int .i64 x, .int .i64 y]).alloc (.cells #[.int .i64 a1, .int .i64 a2, .int .i64 a3] 44)
  have b1 := Blk.new1 w (.cells #[.int .i64 x, .int .i64 y] 77) 44 #[.int .i64 a1, .int .i64 a2, .int .i64 a3]
  have hw0 := below_new2 w (.cells #[.int .i64 x, .int .i64 y] 77) (.cells #[.int .i64 a1, .int .i64 a2, .int .i64 a3] 44)
  have K0 := hide b0
  have K1 := hide b1
  have HW0 := hide hw0
  clear h hn ht ha hp hnl b0 b1 hw0
  show Calls Tryz.prog 146 #[.agg #[.int .i64 x, .int .i64 y], .agg #[.int .i64 a1, .int .i64 a2, .int .i64 a3], .slice A n c] w _
  go_enter Tryz.func146, Tryz.ntmps146
  go_wp2_with fail
  refine (HV.out _).mono ?_
  rintro e w2 ⟨rfl, hb2⟩
  have k0 := K0.out.keep hb2
  have k1 := K1.out.keep hb2
  have hw2 := hide (below_step HW0.out hb2 (Nat.le_refl _))
  have c0 := k1.cell 0
  have c1 := k1.cell 1
  have c2 := k1.cell 2
  simp at c0 c1 c2
  have K0 := hide k0
  have K1 := hide k1
  clear hb2 k0 k1 HV HW0
  go_wp2_with fail
  refine (HNa.out _).mono ?_
  rintro e w3 ⟨rfl, hb3⟩
  have hb23 := (below_new w2 (.cells #[.int .i64 a1, .int .i64 a2, .int .i64 a3] 44)).trans (hb3.mono (by simp))
  have K0 := hide (K0.out.keep hb23)
  have K1 := hide (K1.out.keep hb23)
  have hw3 := hide (below_step hw2.out hb23 (Nat.le_refl _))
  clear hb3 hb23 c0 c1 c2 hw2 HNa
  go_wp2_with fail
  refine (HNl.out _ hw3.out).mono ?_
  rintro e w4 ⟨rfl, hb4⟩
  have K0 := hide (K0.out.keep hb4)
  have K1 := hide (K1.out.keep hb4)
  have hw4 := hide (below_step hw3.out hb4 (Nat.le_refl _))
  clear hb4 hw3 HNl
  go_wp2_with fail
  go_loopw [8, 31] (fun v i wr => ∃ k : Nat, k ≤ n ∧ i = .int .i64 k ∧ Row wr w4.heap.size 44 3 encPt v (mapPts x y (a1, a2, a3) (l.take k)) ∧ Below w4.heap.size w4 wr) (fun _ i _ => n - (intOf i).toNat)
  case atStart => exact ⟨0, Nat.zero_le _, rfl, Row.nil _ _ _ _ _, Below.refl _ _⟩
  case round =>
    obtain ⟨k, hk, rfl, hrow, hbr⟩ := hrel
    obtain ⟨A0, c0, rfl⟩ := hrow.val
    have hacc : (mapPts x y (a1, a2, a3) (l.take k)).length ≤ 1000 := by rw [mapPts_len, List.length_take]; omega
    have Hrow := hide hrow
    clear hrow
    by_cases hlt : k < n
    · have Hbw := hide (below_step hw4.out hbr (Nat.le_refl _))
      obtain ⟨b, off, p, rfl, hbl, hx, e0, e1, e2⟩ := PtsAt.get (k := k) (Hs.out.carry (Flat.carried _) (Hbw.out.mono hB) (Nat.le_refl _)) (by rw [← hn'.out]; exact hlt)
      have hbw : b < wr.heap.size := by have := Hbw.out.size; omega
      have Hn := hide (show mapPts x y (a1, a2, a3) (l.take (k + 1)) = mapPts x y (a1, a2, a3) (l.take k) ++ [addP (a1, a2, a3) (imgV x y p)] by rw [take_snoc' hx, mapPts_snoc])
      have HPp := hide (fun W => HPl.out W p (mem_of_get hx))
      generalize mapPts x y (a1, a2, a3) (l.take k) = acc at *
      have kk0 := K0.out.below hbr K0.out.lt
      have kk1 := K1.out.below hbr K1.out.lt
      have f0 := kk0.cell 0
      have f1 := kk0.cell 1
      have g0 := kk1.cell 0
      have g1 := kk1.cell 1
      have g2 := kk1.cell 2
      simp at f0 f1 g0 g1 g2
      have hl0 := kk0.lt
      have hl1 := kk1.lt
      obtain ⟨p1, p2, p3⟩ := p
      simp only at e0 e1 e2
      clear hx hbl kk0 kk1
      go_wp2_with fail
      refine (HPp.out _).mono ?_
      rintro e w5 ⟨q, rfl, hq, hb5⟩
      obtain ⟨q1, q2, q3⟩ := q
      have hbr5 := hide (hbr.trans ((below_new wr (.cells #[.int .i64 p1, .int .i64 p2, .int .i64 p3] 44)).trans (hb5.mono (by simp)) |>.mono hbr.size))
      have Hrow5 := hide (Hrow.out.keep ((below_new wr (.cells #[.int .i64 p1, .int .i64 p2, .int .i64 p3] 44)).trans (hb5.mono (by simp))))
      clear hb5 f0 f1 g0 g1 g2 e0 e1 e2
      go_wp2_with (at_builtin; refine wpList_append1 rfl (.tmp 35) (.tmp 40) 74 rfl w4.heap.size 44 (.agg #[.int .i64 0, .int .i64 0, .int .i64 0]) 3 24 encPt Tryz.underlying74 (by kernel_rfl) rfl (by omega) encPt_len encPt_one _ acc (q1, q2, q3) rfl (Hrow5.out.alloc _) _ rfl (Blk.new w5 _ _) (by omega) (by omega) (le_alloc hbr5.out.size _) ?_; intro A1 c1 w6 hrow6 hb6 _)
      go_roundw
      case rel => exact ⟨k + 1, by omega, by go_num, by rw [Hn.out, ← hq.out]; simpa using hrow6, (hbr5.out.alloc hbr5.out.size _).trans hb6⟩
      case measure => simp [intOf]; omega
    · obtain rfl : k = n := by omega
      have hfull := (show mapPts x y (a1, a2, a3) (l.take k) = mapPts x y (a1, a2, a3) l by rw [hn'.out, List.take_length])
      have hlen : (mapPts x y (a1, a2, a3) (l.take k)).length = k := by rw [mapPts_len, List.length_take]; have := hn'.out; omega
      have Hread := hide (show PtsAt wr wr.heap.size A0 (mapPts x y (a1, a2, a3) l) by rw [← hfull]; exact Row.read Hrow.out encPt_len (by omega))
      have Hlen := hide hlen
      clear hfull Hrow
      generalize (mapPts x y (a1, a2, a3) (l.take k)).length = m at *
      go_wp2_with fail
      go_ret2
      exact ⟨A0, c0, by rw [Hlen.out]; rfl, Hread.out, below_step hw4.out hbr (Nat.le_refl _)⟩
end Go.Proofs.YtpmipoljnchheaaGreat
namespace Go.Proofs.YtpmipoljnchheaaGreat
open Go.RowKit

set_option maxHeartbeats 1000000 in
theorem isPlace_any (p : Pt) (m : Int) (w : World) (hm : 0 ≤ m ∧ m ≤ 4194304) : Calls Tryz.prog 124 #[ptA p, .int .i64 m] w fun e w' => e = .returned (.bool (nearBy m p)) ∧ Below w.heap.size w w' := by
  obtain ⟨p1, p2, p3⟩ := p
  have Hr := hide (nearBy_iff (m := m) (p := (p1, p2, p3)))
  have sn : IntKind.i64.wrap (-m) = -m := IntWalk.i64_in _ (by omega)
  show Calls Tryz.prog 124 #[.agg #[.int .i64 p1, .int .i64 p2, .int .i64 p3], .int .i64 m] w _
  go_enter Tryz.func124, Tryz.ntmps124
  go_wp2_with fail
  all_goals
    go_ret
    refine ⟨ret_bool ?_, below_new w _⟩
    rw [Bool.eq_iff_iff, Hr.out]
    simp
    omega
set_option maxHeartbeats 4000000 in
theorem plus_any (p s : Pt) (k : Int) (w : World) (hp : nearBy 1099511627776 p = true) (hs : nearBy 1099511627776 (mulP k s) = true) :
    Calls Tryz.prog 116 #[ptA p, ptA s, .int .i64 k] w fun e w' => ∃ q : Pt, e = .returned (ptA q) ∧ Hid (q = addP p (mulP k s)) ∧ Below w.heap.size w w' := by
  obtain ⟨p1, p2, p3⟩ := p
  obtain ⟨x1, x2, x3⟩ := s
  obtain ⟨⟨r1, r2⟩, ⟨r3, r4⟩, r5, r6⟩ := nearBy_iff.1 hp
  obtain ⟨⟨t1, t2⟩, ⟨t3, t4⟩, t5, t6⟩ := nearBy_iff.1 hs
  simp only [mulP] at r1 r2 r3 r4 r5 r6 t1 t2 t3 t4 t5 t6
  have s1 : IntKind.i64.wrap (k * x1) = k * x1 := IntWalk.i64_in _ (by omega)
  have s2 : IntKind.i64.wrap (k * x2) = k * x2 := IntWalk.i64_in _ (by omega)
  have s3 : IntKind.i64.wrap (k * x3) = k * x3 := IntWalk.i64_in _ (by omega)
  have z1 : IntKind.i64.wrap (p1 + k * x1) = p1 + k * x1 := IntWalk.i64_in _ (by omega)
  have z2 : IntKind.i64.wrap (p2 + k * x2) = p2 + k * x2 := IntWalk.i64_in _ (by omega)
  have z3 : IntKind.i64.wrap (p3 + k * x3) = p3 + k * x3 := IntWalk.i64_in _ (by omega)
  have kR := hide (Blk.new2 w (.cells #[.int .i64 p1, .int .i64 p2, .int .i64 p3] 44) (.cells #[.int .i64 x1, .int .i64 x2, .int .i64 x3] 44) 44 #[.int .i64 (p1 + k * x1), .int .i64 (p2 + k * x2), .int .i64 (p3 + k * x3)])
  have hB := hide ((below_new2 w (.cells #[.int .i64 p1, .int .i64 p2, .int .i64 p3] 44) (.cells #[.int .i64 x1, .int .i64 x2, .int .i64 x3] 44)).alloc (by simp; omega) (.cells #[.int .i64 (p1 + k * x1), .int .i64 (p2 + k * x2), .int .i64 (p3 + k * x3)] 44))
  clear hp hs
  show Calls Tryz.prog 116 #[.agg #[.int .i64 p1, .int .i64 p2, .int .i64 p3], .agg #[.int .i64 x1, .int .i64 x2, .int .i64 x3], .int .i64 k] w _
  go_enter Tryz.func116, Tryz.ntmps116
  go_wp2_with fail
  refine bodyPost_ret (results_c rfl rfl kR.out Tryz.underlying44 rfl (by kernel_rfl)) rfl ?_
  exact ⟨(p1 + k * x1, p2 + k * x2, p3 + k * x3), rfl, hide rfl, hB.out⟩
set_option maxHeartbeats 400000 in
theorem find1_any (x : BarD) (A : Option Addr) (c : Nat) (m : ByteArray) (g : Nat) (w : World) (h0 : w.cell? ⟨g, 0, none⟩ = some (.string m)) :
    Calls Tryz.prog 162 #[.agg #[.string x.mark, .int .i64 x.size, .int .i64 x.count, .int .i64 x.code, .slice A x.dims.length c], .pointer (some ⟨g, 0, none⟩)] w fun e w' => e = .returned (.bool (markIs m x)) ∧ Below w.heap.size w w' := by
  have hg : g < w.heap.size := World.block_lt_of_cell? w _ h0
  have h1 := fun o => (World.cell?_alloc_lt w o ⟨g, 0, none⟩ hg).trans h0
  go_enter Tryz.func162, Tryz.ntmps162
  go_wp2_with fail
  go_ret
  exact ⟨ret_bool (by rfl), below_new _ _⟩
set_option maxHeartbeats 400000 in
theorem laidFind_any (A : Option Addr) (l : List BarD) (n c : Nat) (m : ByteArray) (w : World) {B : Nat} (h : BarsAt w B A l) (hB : B ≤ w.heap.size) (hn : n = l.length) (hm : n ≤ 60000) :
    Calls Tryz.prog 122 #[.slice A n c, .string m] w fun e w' => e = .returned (.int .i64 (idx (markIs m) l)) ∧ Below w.heap.size w w' := by
  have hn' := hide hn
  have h1 := hide (h.carry ((Below.refl B w).alloc hB (.cells #[.string m] 9)) (Nat.le_refl B))
  have h2 := hide (le_alloc hB (.cells #[.string m] 9))
  clear hn
  go_enter Tryz.func122, Tryz.ntmps122
  go_wp2_with fail
  refine (indexFuncBar_any A l n c 162 #[.pointer (some ⟨w.heap.size, 0, none⟩)] (markIs m) _ h1.out h2.out hn'.out hm Tryz.call162 (fun x A' c' W _ hb _ => find1_any x A' c' m w.heap.size W (by have h0 := ((Blk.new w 9 #[.string m]).keep hb).cell 0; simpa using h0))).mono ?_
  rintro e w1 ⟨rfl, hb⟩
  go_wp2_with fail
  go_ret
  exact ⟨rfl, below_step (below_new _ _) hb (Nat.le_refl _)⟩
end Go.Proofs.YtpmipoljnchheaaGreat
namespace Go.Proofs.YtpmipoljnchheaaGreat
open Go.RowKit

def encPts (p : Pt) : Array Value := #[.int .i64 p.1, .int .i64 p.2.1, .int .i64 p.2.2]
theorem rowSet {w : World} {base : Nat} {e : TypeId} {v : Value} {l : List Pt} (h : Row w base e 3 encPt v l) {a : Addr} (ha : a.block < base) (u : Value) : Row (w.setCell a u) base e 3 encPt v l := ownsRow_setCell_below h ha u
set_option maxHeartbeats 1000000 in
theorem legs_blk (code : Int) (w : World) (hno : legsOf code ≠ []) :
    Calls Tryz.prog 176 #[.int .i64 code] w fun e w' => ∃ cs, e = .returned (.slice (some ⟨w.heap.size, 0, none⟩) (legsLen code) (legsLen code)) ∧ Blk w' w.heap.size 228 cs ∧ Hid (cs.toList = (legsOf code).flatMap encLeg) ∧ Below w.heap.size w w' := by
  rcases code_cases hno with rfl | rfl | rfl | rfl | rfl | rfl | rfl | rfl
  all_goals
    clear hno
    go_enter Tryz.func176, Tryz.ntmps176
    go_wp2
    go_ret
    exact ⟨_, rfl, Blk.new w _ _, hide rfl, below_new _ _⟩
theorem rowBase {α : Type} {w : World} {base base' : Nat} {e : TypeId} {size : Nat} {enc : α → List Value} {v : Value} {l : List α} (hb : base' ≤ base) (h : Row w base e size enc v l) : Row w base' e size enc v l := by
  refine ⟨h.1, ?_⟩
  rcases h.2 with h | ⟨g, cap, cur, h1, h2, h3, r⟩
  · exact .inl h
  · exact .inr ⟨g, cap, cur, h1, Nat.le_trans hb h2, h3, r⟩
theorem take_path {x : BarD} {k : Nat} {p : Pt} (h : (pathOf x)[k + 1]? = some p) : (pathOf x).take (k + 2) = (pathOf x).take (k + 1) ++ [p] := take_snoc' h
set_option maxHeartbeats 4000000 in
set_option maxRecDepth 100000 in
theorem shapePath_row (x : BarD) (A : Option Addr) (c : Nat) (w : World) {B : Nat} (hA : Ints w B A x.dims) (hB : B ≤ w.heap.size) (hm : x.mark.size ≤ maxLen) (hd : x.dims.length ≤ 60000) (hok : barOk x = true) :
    Calls Tryz.prog 145 #[.agg #[.string x.mark, .int .i64 x.size, .int .i64 x.count, .int .i64 x.code, .slice A x.dims.length c]] w fun e w' =>
      ∃ A' c', e = .returned (.tuple #[.slice A' (pathOf x).length c', .int .i64 0]) ∧ Row w' w.heap.size 44 3 encPt (.slice A' (pathOf x).length c') (pathOf x) ∧ Below w.heap.size w w' := by
  have Hg := hide (barGood_of hok)
  have Hok := hide hok
  have Hnear := hide (path_near hok)
  have hle := legsLen_le x.code
  have hno : legsOf x.code ≠ [] := fun he => Hg.out.legs (by simp [legLens, he])
  have HLg := hide (fun (W : World) => legs_blk x.code W hno)
  have hbo := fun o => hide ((Below.refl B w).alloc hB o)
  clear hok hno
  go_enter Tryz.func145, Tryz.ntmps145
  go_wp2_with fail
  refine (barValid_any x A c _ (hA.carry (hbo _).out (Nat.le_refl _)) (le_alloc hB _) hm hd).mono ?_
  rintro e w1 ⟨rfl, hb1⟩
  rw [Hok.out]
  have hw1 := hide (below_step (below_new w _) hb1 (Nat.le_refl _))
  have b0 := (Blk.new w 65 #[.string x.mark, .int .i64 x.size, .int .i64 x.count, .int .i64 x.code, .slice A x.dims.length c]).keep hb1
  have c3 := b0.cell 3
  simp at c3
  have hA1 := hide (hA.carry ((hbo _).out.trans (hb1.mono (le_alloc hB _))) (Nat.le_refl _))
  have hl0 := b0.lt
  have B0 := hide b0
  clear b0 hA hb1 hbo
  go_wp2_with fail
  refine (HLg.out _).mono ?_
  rintro e w2 ⟨cs, rfl, hL, hcs, hb2⟩
  obtain ⟨gA, hgA⟩ : ∃ gA, gA = w1.heap.size := ⟨_, rfl⟩
  have kA := ((Blk.new w1 44 #[.int .i64 0, .int .i64 0, .int .i64 0]).alloc (.cells #[.int .i64 0, .int .i64 0, .int .i64 0] 44)).keep hb2
  have hrow := World.ownsRow_lit (base := w1.heap.size + 1) (e := 44) (size := 3) (w1.alloc (.cells #[.int .i64 0, .int .i64 0, .int .i64 0] 44)) #[.int .i64 0, .int .i64 0, .int .i64 0] 1 (by simp) (by unfold maxLen; omega) rfl
  rw [size_alloc'] at hrow
  have hrow2 : Row w2 (w1.heap.size + 1) 44 3 encPt (.slice (some ⟨w1.heap.size + 1, 0, none⟩) 1 1) [(0, 0, 0)] := Row.keep (show Row ((w1.alloc (.cells #[.int .i64 0, .int .i64 0, .int .i64 0] 44)).alloc (.cells #[.int .i64 0, .int .i64 0, .int .i64 0] 44)) (w1.heap.size + 1) 44 3 encPt (.slice (some ⟨w1.heap.size + 1, 0, none⟩) 1 1) [(0, 0, 0)] from hrow) hb2
  have hb12 := below_step (below_new2 w1 (.cells #[.int .i64 0, .int .i64 0, .int .i64 0] 44) (.cells #[.int .i64 0, .int .i64 0, .int .i64 0] 44)) hb2 (Nat.le_refl _)
  rw [size_alloc', size_alloc'] at hL
  have hp0 : [((0, 0, 0) : Pt)] = (pathOf x).take 1 := by
    have h9 := pathOf_zero x
    have h8 := take_snoc' h9
    simpa using h8.symm
  rw [hp0] at hrow2
  rw [← hgA] at kA hrow2 hL ⊢
  obtain ⟨gL, hgL⟩ : ∃ gL, gL = gA + 1 + 1 := ⟨_, rfl⟩
  rw [size_alloc', size_alloc', ← hgA, ← hgL]
  rw [← hgL] at hL
  have hgAL : gA ≠ gL := by omega
  have hwA : w.heap.size < gA := by omega
  have hA1' := hide (show w1.heap.size = gA from hgA.symm)
  have KA := hide (show Blk w2 gA 44 (encPts (0, 0, 0)) from kA)
  have HL := hide hL
  have Hrow := hide hrow2
  have Hb12 := hide hb12
  have Hcs := hide hcs.out
  clear kA hrow hrow2 hL hb12 hp0 hgL hgA hb2 hcs c3 HLg
  go_wp2_with fail
  go_loopw [5, 18] (fun v i wr => ∃ k : Nat, k ≤ legsLen x.code ∧ i = .int .i64 k ∧ (∃ o : Pt, Hid ((pathOf x)[k]? = some o) ∧ Blk wr gA 44 (encPts o)) ∧ Blk wr gL 228 cs ∧ Row wr (gA + 1) 44 3 encPt v ((pathOf x).take (k + 1)) ∧ Below w1.heap.size w1 wr) (fun _ i _ => legsLen x.code - (intOf i).toNat)
  case atStart => exact ⟨0, Nat.zero_le _, rfl, ⟨(0, 0, 0), hide (pathOf_zero x), KA.out⟩, HL.out, Hrow.out, Hb12.out⟩
  case round =>
    clear KA HL Hrow Hb12
    obtain ⟨k, hk, rfl, ⟨o, ho, kA⟩, kL, hrow, hbr⟩ := hrel
    obtain ⟨A0, c0, rfl⟩ := hrow.val
    by_cases hlt : k < legsLen x.code
    · obtain ⟨⟨d, y⟩, hx⟩ : ∃ p, (legsOf x.code)[k]? = some p := ⟨_, List.getElem?_eq_getElem hlt⟩
      have q0 : wr.cell? ⟨gL, k * 2, none⟩ = some (.int .i64 d) := by
        rw [kL.cell, ← Array.getElem?_toList, Hcs.out]
        simpa using flatMap_get encLeg_len _ k (d, y) hx 0 (.int .i64 d) rfl
      have q1 : wr.cell? ⟨gL, k * 2 + 1, none⟩ = some (.int .u8 y) := by
        rw [kL.cell, ← Array.getElem?_toList, Hcs.out]
        exact flatMap_get encLeg_len _ k (d, y) hx 1 (.int .u8 y) rfl
      obtain ⟨hd0, hd1, hd2, hd3, hd4⟩ := Hg.out.leg _ (mem_of_get hx)
      obtain ⟨b', off', z, rfl, hbl', hz, hcz⟩ := Ints.get (k := d.toNat) (hA1.out.carry (hbr.mono (Nat.le_trans hB hw1.out.size)) (Nat.le_refl _)) hd1
      have hz' : z = legDim x (d, y) := by simp only [hd2] at hz; injection hz with hz; exact hz.symm
      have hnext := pathOf_next ho.out hx
      rw [← hz'] at hnext hd3 hd4
      have hnear := nearBy_iff.1 (Hnear.out _ (mem_of_get hnext))
      have hways := legs_ways x.code _ (mem_of_get hx)
      have c4 := (B0.out.below hbr hl0).cell 4
      obtain ⟨o1, o2, o3⟩ := o
      have u0 := kA.cell 0
      have u1 := kA.cell 1
      have u2 := kA.cell 2
      have v0 := kA.frozen 0
      have v1 := kA.frozen 1
      have v2 := kA.frozen 2
      simp [encPts] at u0 u1 u2 c4
      simp only at hd0 hd1 hways hnext hnear
      have l0 : w.heap.size < wr.heap.size := by have := hbr.size; have := hw1.out.size; have := hA1'.out; omega
      have l1 : b' < wr.heap.size := by have := hbr.size; have := hw1.out.size; omega
      have l2 := kA.lt
      have l3 := kL.lt
      have KA := hide kA
      have KL := hide kL
      have Hrow := hide hrow
      have Hnext := hide hnext
      have hacc : ((pathOf x).take (k + 1)).length ≤ 1000 := by rw [List.length_take]; omega
      have Htake := hide (fun (p : Pt) (hp : (pathOf x)[k + 1]? = some p) => take_path hp)
      generalize (pathOf x).take (k + 1) = acc at Hrow hacc Htake
      have hbrs := hbr.size
      clear hx hz hz' hbl' hd2 hrow hnext ho kA kL
      rcases hways with rfl | rfl | rfl | rfl | rfl
      · simp [ptOf, addP] at hnear
        have s1 : IntKind.i64.wrap (o1 + z) = o1 + z := IntWalk.i64_in _ (by omega)
        have hset := hide (show (encPts (o1, o2, o3)).setIfInBounds 0 (.int .i64 (o1 + z)) = encPts (o1 + z, o2, o3) by simp [encPts])
        have hN := hide (show (pathOf x)[k + 1]? = some (o1 + z, o2, o3) by rw [Hnext.out]; simp [ptOf, addP]; try omega)
        have R1 := hide (Row.alloc (Row.alloc (rowSet Hrow.out (show (⟨gA, 0, none⟩ : Addr).block < gA + 1 from Nat.lt_succ_self _) (.int .i64 (o1 + z))) (.cells #[.int .i64 d, .int .u8 120] 228)) (.cells (encPts (o1 + z, o2, o3)) 44))
        have R2 := Blk.new1 (wr.setCell ⟨gA, 0, none⟩ (.int .i64 (o1 + z))) (.cells #[.int .i64 d, .int .u8 120] 228) 44 (encPts (o1 + z, o2, o3))
        rw [World.size_setCell] at R2
        have R2 := hide R2
        have R3 := hide (((KA.out.set_ 0 (.int .i64 (o1 + z))).alloc (.cells #[.int .i64 d, .int .u8 120] 228)).alloc (.cells (encPts (o1 + z, o2, o3)) 44))
        rw [hset.out] at R3
        have R4 := hide (((KL.out.far (p := ⟨gA, 0, none⟩) (fun h => hgAL h.symm) (.int .i64 (o1 + z))).alloc (.cells #[.int .i64 d, .int .u8 120] 228)).alloc (.cells (encPts (o1 + z, o2, o3)) 44))
        have R5 := hide (((hbr.setCell (p := ⟨gA, 0, none⟩) (by show w1.heap.size ≤ gA; have := hA1'.out; omega) (.int .i64 (o1 + z))).alloc (by rw [World.size_setCell]; exact hbrs) (.cells #[.int .i64 d, .int .u8 120] 228)).alloc (by rw [size_alloc', World.size_setCell]; omega) (.cells (encPts (o1 + z, o2, o3)) 44))
        have R6 := hide (show gA + 1 ≤ (((wr.setCell ⟨gA, 0, none⟩ (.int .i64 (o1 + z))).alloc (.cells #[.int .i64 d, .int .u8 120] 228)).alloc (.cells (encPts (o1 + z, o2, o3)) 44)).heap.size by rw [size_alloc', size_alloc', World.size_setCell]; omega)
        have hKk := hide hk
        clear hset Hnext
        go_wp2_with (at_builtin; refine wpList_append1 rfl (.tmp 65) (.tmp 67) 74 rfl (gA + 1) 44 (.agg #[.int .i64 0, .int .i64 0, .int .i64 0]) 3 24 encPt Tryz.underlying74 (by kernel_rfl) rfl (by omega) encPt_len encPt_one _ acc (o1 + z, o2, o3) rfl R1.out _ rfl R2.out (by omega) (by omega) R6.out ?_; intro A1 c1 w6 hrow6 hb6 hkeep)
        go_roundw
        case rel => exact ⟨k + 1, by omega, by go_num, ⟨(o1 + z, o2, o3), hN, R3.out.below hb6 (Nat.lt_succ_self _)⟩, hkeep gL 228 cs (by decide) R4.out, by rw [Htake.out (o1 + z, o2, o3) hN.out]; simpa using hrow6, R5.out.trans (hb6.mono (by have := hA1'.out; omega))⟩
        case measure => simp [intOf]; omega
      · simp [ptOf, addP] at hnear
        have s1 : IntKind.i64.wrap (o1 - z) = o1 - z := IntWalk.i64_in _ (by omega)
        have hset := hide (show (encPts (o1, o2, o3)).setIfInBounds 0 (.int .i64 (o1 - z)) = encPts (o1 - z, o2, o3) by simp [encPts])
        have hN := hide (show (pathOf x)[k + 1]? = some (o1 - z, o2, o3) by rw [Hnext.out]; simp [ptOf, addP]; try omega)
        have R1 := hide (Row.alloc (Row.alloc (rowSet Hrow.out (show (⟨gA, 0, none⟩ : Addr).block < gA + 1 from Nat.lt_succ_self _) (.int .i64 (o1 - z))) (.cells #[.int .i64 d, .int .u8 88] 228)) (.cells (encPts (o1 - z, o2, o3)) 44))
        have R2 := Blk.new1 (wr.setCell ⟨gA, 0, none⟩ (.int .i64 (o1 - z))) (.cells #[.int .i64 d, .int .u8 88] 228) 44 (encPts (o1 - z, o2, o3))
        rw [World.size_setCell] at R2
        have R2 := hide R2
        have R3 := hide (((KA.out.set_ 0 (.int .i64 (o1 - z))).alloc (.cells #[.int .i64 d, .int .u8 88] 228)).alloc (.cells (encPts (o1 - z, o2, o3)) 44))
        rw [hset.out] at R3
        have R4 := hide (((KL.out.far (p := ⟨gA, 0, none⟩) (fun h => hgAL h.symm) (.int .i64 (o1 - z))).alloc (.cells #[.int .i64 d, .int .u8 88] 228)).alloc (.cells (encPts (o1 - z, o2, o3)) 44))
        have R5 := hide (((hbr.setCell (p := ⟨gA, 0, none⟩) (by show w1.heap.size ≤ gA; have := hA1'.out; omega) (.int .i64 (o1 - z))).alloc (by rw [World.size_setCell]; exact hbrs) (.cells #[.int .i64 d, .int .u8 88] 228)).alloc (by rw [size_alloc', World.size_setCell]; omega) (.cells (encPts (o1 - z, o2, o3)) 44))
        have R6 := hide (show gA + 1 ≤ (((wr.setCell ⟨gA, 0, none⟩ (.int .i64 (o1 - z))).alloc (.cells #[.int .i64 d, .int .u8 88] 228)).alloc (.cells (encPts (o1 - z, o2, o3)) 44)).heap.size by rw [size_alloc', size_alloc', World.size_setCell]; omega)
        have hKk := hide hk
        clear hset Hnext
        go_wp2_with (at_builtin; refine wpList_append1 rfl (.tmp 65) (.tmp 67) 74 rfl (gA + 1) 44 (.agg #[.int .i64 0, .int .i64 0, .int .i64 0]) 3 24 encPt Tryz.underlying74 (by kernel_rfl) rfl (by omega) encPt_len encPt_one _ acc (o1 - z, o2, o3) rfl R1.out _ rfl R2.out (by omega) (by omega) R6.out ?_; intro A1 c1 w6 hrow6 hb6 hkeep)
        go_roundw
        case rel => exact ⟨k + 1, by omega, by go_num, ⟨(o1 - z, o2, o3), hN, R3.out.below hb6 (Nat.lt_succ_self _)⟩, hkeep gL 228 cs (by decide) R4.out, by rw [Htake.out (o1 - z, o2, o3) hN.out]; simpa using hrow6, R5.out.trans (hb6.mono (by have := hA1'.out; omega))⟩
        case measure => simp [intOf]; omega
      · simp [ptOf, addP] at hnear
        have s1 : IntKind.i64.wrap (o2 + z) = o2 + z := IntWalk.i64_in _ (by omega)
        have hset := hide (show (encPts (o1, o2, o3)).setIfInBounds 1 (.int .i64 (o2 + z)) = encPts (o1, o2 + z, o3) by simp [encPts])
        have hN := hide (show (pathOf x)[k + 1]? = some (o1, o2 + z, o3) by rw [Hnext.out]; simp [ptOf, addP]; try omega)
        have R1 := hide (Row.alloc (Row.alloc (rowSet Hrow.out (show (⟨gA, 1, none⟩ : Addr).block < gA + 1 from Nat.lt_succ_self _) (.int .i64 (o2 + z))) (.cells #[.int .i64 d, .int .u8 121] 228)) (.cells (encPts (o1, o2 + z, o3)) 44))
        have R2 := Blk.new1 (wr.setCell ⟨gA, 1, none⟩ (.int .i64 (o2 + z))) (.cells #[.int .i64 d, .int .u8 121] 228) 44 (encPts (o1, o2 + z, o3))
        rw [World.size_setCell] at R2
        have R2 := hide R2
        have R3 := hide (((KA.out.set_ 1 (.int .i64 (o2 + z))).alloc (.cells #[.int .i64 d, .int .u8 121] 228)).alloc (.cells (encPts (o1, o2 + z, o3)) 44))
        rw [hset.out] at R3
        have R4 := hide (((KL.out.far (p := ⟨gA, 1, none⟩) (fun h => hgAL h.symm) (.int .i64 (o2 + z))).alloc (.cells #[.int .i64 d, .int .u8 121] 228)).alloc (.cells (encPts (o1, o2 + z, o3)) 44))
        have R5 := hide (((hbr.setCell (p := ⟨gA, 1, none⟩) (by show w1.heap.size ≤ gA; have := hA1'.out; omega) (.int .i64 (o2 + z))).alloc (by rw [World.size_setCell]; exact hbrs) (.cells #[.int .i64 d, .int .u8 121] 228)).alloc (by rw [size_alloc', World.size_setCell]; omega) (.cells (encPts (o1, o2 + z, o3)) 44))
        have R6 := hide (show gA + 1 ≤ (((wr.setCell ⟨gA, 1, none⟩ (.int .i64 (o2 + z))).alloc (.cells #[.int .i64 d, .int .u8 121] 228)).alloc (.cells (encPts (o1, o2 + z, o3)) 44)).heap.size by rw [size_alloc', size_alloc', World.size_setCell]; omega)
        have hKk := hide hk
        clear hset Hnext
        go_wp2_with (at_builtin; refine wpList_append1 rfl (.tmp 65) (.tmp 67) 74 rfl (gA + 1) 44 (.agg #[.int .i64 0, .int .i64 0, .int .i64 0]) 3 24 encPt Tryz.underlying74 (by kernel_rfl) rfl (by omega) encPt_len encPt_one _ acc (o1, o2 + z, o3) rfl R1.out _ rfl R2.out (by omega) (by omega) R6.out ?_; intro A1 c1 w6 hrow6 hb6 hkeep)
        go_roundw
        case rel => exact ⟨k + 1, by omega, by go_num, ⟨(o1, o2 + z, o3), hN, R3.out.below hb6 (Nat.lt_succ_self _)⟩, hkeep gL 228 cs (by decide) R4.out, by rw [Htake.out (o1, o2 + z, o3) hN.out]; simpa using hrow6, R5.out.trans (hb6.mono (by have := hA1'.out; omega))⟩
        case measure => simp [intOf]; omega
      · simp [ptOf, addP] at hnear
        have s1 : IntKind.i64.wrap (o2 - z) = o2 - z := IntWalk.i64_in _ (by omega)
        have hset := hide (show (encPts (o1, o2, o3)).setIfInBounds 1 (.int .i64 (o2 - z)) = encPts (o1, o2 - z, o3) by simp [encPts])
        have hN := hide (show (pathOf x)[k + 1]? = some (o1, o2 - z, o3) by rw [Hnext.out]; simp [ptOf, addP]; try omega)
        have R1 := hide (Row.alloc (Row.alloc (rowSet Hrow.out (show (⟨gA, 1, none⟩ : Addr).block < gA + 1 from Nat.lt_succ_self _) (.int .i64 (o2 - z))) (.cells #[.int .i64 d, .int .u8 89] 228)) (.cells (encPts (o1, o2 - z, o3)) 44))
        have R2 := Blk.new1 (wr.setCell ⟨gA, 1, none⟩ (.int .i64 (o2 - z))) (.cells #[.int .i64 d, .int .u8 89] 228) 44 (encPts (o1, o2 - z, o3))
        rw [World.size_setCell] at R2
        have R2 := hide R2
        have R3 := hide (((KA.out.set_ 1 (.int .i64 (o2 - z))).alloc (.cells #[.int .i64 d, .int .u8 89] 228)).alloc (.cells (encPts (o1, o2 - z, o3)) 44))
        rw [hset.out] at R3
        have R4 := hide (((KL.out.far (p := ⟨gA, 1, none⟩) (fun h => hgAL h.symm) (.int .i64 (o2 - z))).alloc (.cells #[.int .i64 d, .int .u8 89] 228)).alloc (.cells (encPts (o1, o2 - z, o3)) 44))
        have R5 := hide (((hbr.setCell (p := ⟨gA, 1, none⟩) (by show w1.heap.size ≤ gA; have := hA1'.out; omega) (.int .i64 (o2 - z))).alloc (by rw [World.size_setCell]; exact hbrs) (.cells #[.int .i64 d, .int .u8 89] 228)).alloc (by rw [size_alloc', World.size_setCell]; omega) (.cells (encPts (o1, o2 - z, o3)) 44))
        have R6 := hide (show gA + 1 ≤ (((wr.setCell ⟨gA, 1, none⟩ (.int .i64 (o2 - z))).alloc (.cells #[.int .i64 d, .int .u8 89] 228)).alloc (.cells (encPts (o1, o2 - z, o3)) 44)).heap.size by rw [size_alloc', size_alloc', World.size_setCell]; omega)
        have hKk := hide hk
        clear hset Hnext
        go_wp2_with (at_builtin; refine wpList_append1 rfl (.tmp 65) (.tmp 67) 74 rfl (gA + 1) 44 (.agg #[.int .i64 0, .int .i64 0, .int .i64 0]) 3 24 encPt Tryz.underlying74 (by kernel_rfl) rfl (by omega) encPt_len encPt_one _ acc (o1, o2 - z, o3) rfl R1.out _ rfl R2.out (by omega) (by omega) R6.out ?_; intro A1 c1 w6 hrow6 hb6 hkeep)
        go_roundw
        case rel => exact ⟨k + 1, by omega, by go_num, ⟨(o1, o2 - z, o3), hN, R3.out.below hb6 (Nat.lt_succ_self _)⟩, hkeep gL 228 cs (by decide) R4.out, by rw [Htake.out (o1, o2 - z, o3) hN.out]; simpa using hrow6, R5.out.trans (hb6.mono (by have := hA1'.out; omega))⟩
        case measure => simp [intOf]; omega
      · simp [ptOf, addP] at hnear
        have s1 : IntKind.i64.wrap (o3 + z) = o3 + z := IntWalk.i64_in _ (by omega)
        have hset := hide (show (encPts (o1, o2, o3)).setIfInBounds 2 (.int .i64 (o3 + z)) = encPts (o1, o2, o3 + z) by simp [encPts])
        have hN := hide (show (pathOf x)[k + 1]? = some (o1, o2, o3 + z) by rw [Hnext.out]; simp [ptOf, addP]; try omega)
        have R1 := hide (Row.alloc (Row.alloc (rowSet Hrow.out (show (⟨gA, 2, none⟩ : Addr).block < gA + 1 from Nat.lt_succ_self _) (.int .i64 (o3 + z))) (.cells #[.int .i64 d, .int .u8 122] 228)) (.cells (encPts (o1, o2, o3 + z)) 44))
        have R2 := Blk.new1 (wr.setCell ⟨gA, 2, none⟩ (.int .i64 (o3 + z))) (.cells #[.int .i64 d, .int .u8 122] 228) 44 (encPts (o1, o2, o3 + z))
        rw [World.size_setCell] at R2
        have R2 := hide R2
        have R3 := hide (((KA.out.set_ 2 (.int .i64 (o3 + z))).alloc (.cells #[.int .i64 d, .int .u8 122] 228)).alloc (.cells (encPts (o1, o2, o3 + z)) 44))
        rw [hset.out] at R3
        have R4 := hide (((KL.out.far (p := ⟨gA, 2, none⟩) (fun h => hgAL h.symm) (.int .i64 (o3 + z))).alloc (.cells #[.int .i64 d, .int .u8 122] 228)).alloc (.cells (encPts (o1, o2, o3 + z)) 44))
        have R5 := hide (((hbr.setCell (p := ⟨gA, 2, none⟩) (by show w1.heap.size ≤ gA; have := hA1'.out; omega) (.int .i64 (o3 + z))).alloc (by rw [World.size_setCell]; exact hbrs) (.cells #[.int .i64 d, .int .u8 122] 228)).alloc (by rw [size_alloc', World.size_setCell]; omega) (.cells (encPts (o1, o2, o3 + z)) 44))
        have R6 := hide (show gA + 1 ≤ (((wr.setCell ⟨gA, 2, none⟩ (.int .i64 (o3 + z))).alloc (.cells #[.int .i64 d, .int .u8 122] 228)).alloc (.cells (encPts (o1, o2, o3 + z)) 44)).heap.size by rw [size_alloc', size_alloc', World.size_setCell]; omega)
        have hKk := hide hk
        clear hset Hnext
        go_wp2_with (at_builtin; refine wpList_append1 rfl (.tmp 65) (.tmp 67) 74 rfl (gA + 1) 44 (.agg #[.int .i64 0, .int .i64 0, .int .i64 0]) 3 24 encPt Tryz.underlying74 (by kernel_rfl) rfl (by omega) encPt_len encPt_one _ acc (o1, o2, o3 + z) rfl R1.out _ rfl R2.out (by omega) (by omega) R6.out ?_; intro A1 c1 w6 hrow6 hb6 hkeep)
        go_roundw
        case rel => exact ⟨k + 1, by omega, by go_num, ⟨(o1, o2, o3 + z), hN, R3.out.below hb6 (Nat.lt_succ_self _)⟩, hkeep gL 228 cs (by decide) R4.out, by rw [Htake.out (o1, o2, o3 + z) hN.out]; simpa using hrow6, R5.out.trans (hb6.mono (by have := hA1'.out; omega))⟩
        case measure => simp [intOf]; omega
    · obtain rfl : k = legsLen x.code := by omega
      have hlen : (pathOf x).length = legsLen x.code + 1 := by rw [pathOf_len]; rfl
      have hfull : (pathOf x).take (legsLen x.code + 1) = pathOf x := List.take_of_length_le (by omega)
      rw [hfull] at hrow
      have Hrow := hide hrow
      have hfin := hide (below_step hw1.out hbr (Nat.le_refl _))
      rw [hfull]
      generalize hgm : (pathOf x).length = m at *
      have Hm := hide hgm
      clear hrow hlen hfull hgm
      go_wp2_with fail
      go_ret2
      exact ⟨A0, c0, by rw [Hm.out]; rfl, by first | exact rowBase (Nat.le_succ_of_le (Nat.le_of_lt hwA)) Hrow.out | (rw [Hm.out]; exact rowBase (Nat.le_succ_of_le (Nat.le_of_lt hwA)) Hrow.out), hfin.out⟩
theorem shapePath_ok (x : BarD) (A : Option Addr) (c : Nat) (w : World) {B : Nat} (hA : Ints w B A x.dims) (hB : B ≤ w.heap.size) (hm : x.mark.size ≤ maxLen) (hd : x.dims.length ≤ 60000) (hok : barOk x = true) :
    Calls Tryz.prog 145 #[.agg #[.string x.mark, .int .i64 x.size, .int .i64 x.count, .int .i64 x.code, .slice A x.dims.length c]] w fun e w' =>
      ∃ A' c', e = .returned (.tuple #[.slice A' (pathOf x).length c', .int .i64 0]) ∧ PtsAt w' w'.heap.size A' (pathOf x) ∧ Below w.heap.size w w' :=
  (shapePath_row x A c w hA hB hm hd hok).mono fun _ _ ⟨A', c', he, hr, hb⟩ => ⟨A', c', he, Row.read hr encPt_len (by omega), hb⟩
end Go.Proofs.YtpmipoljnchheaaGreat
