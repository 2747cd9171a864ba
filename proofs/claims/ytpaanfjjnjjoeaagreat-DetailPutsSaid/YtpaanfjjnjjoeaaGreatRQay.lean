/- The reference of layer 16: the points of a bar of a run. -/
import Derived.Test.YtpaanfjjnjjoeaaGreatRQat
import Derived.Test.YtpaanfjjnjjoeaaGreatRQaq
import Derived.Deep.RegionWith
namespace Go.Proofs.YtpaanfjjnjjoeaaGreat
open Go.RowKit
theorem near_image {x y : Int} {p : Pt} (h : turnOk x y = true) (hp : nearBy 524288 p = true) : nearBy 1048576 p = true ∧ nearBy 2097152 (imgV x y p) = true :=
 ⟨nearBy_mono hp (by omega), nearBy_mono (img_range h hp (by omega)) (by omega)⟩
theorem ptsOf_len (x : BarD) (r : RunD) (k : Int) : (ptsOf x r k).length = (pathOf x).length := by rw [ptsOf_eq, List.length_map]
theorem ptsOf_at {x : BarD} {r : RunD} {k : Int} {j : Nat} {p : Pt} (h : (pathOf x)[j]? = some p) : (ptsOf x r k)[j]? = some (addP (addP r.place (mulP k r.step)) (imgV r.tx r.ty p)) := by
 rw [ptsOf_eq, List.getElem?_map, h]; rfl
theorem row_cap {α : Type} {w : World} {base size n c : Nat} {e : TypeId} {enc : α → List Value} {A : Option Addr} {l : List α} (h : Row w base e size enc (.slice A n c) l) : l.length ≤ c := by
 rcases h.2 with ⟨hv, h0⟩ | ⟨g, cap, cur, hv, _, _, hnc, _⟩
 ·omega
 ·injection hv with _ _ h3
  omega
set_option maxHeartbeats 8000000 in
set_option maxRecDepth 100000 in
theorem refPoints_ok (x : BarD) (A : Option Addr) (c : Nat) (r : RunD) (k : Int) (w : World) {B : Nat} (hA : Ints w B A x.dims) (hB : B ≤ w.heap.size) (hok : barOk x = true) (ht : turnOk r.tx r.ty = true) (hpl : nearBy 1048576 r.place = true) (hk : 0 ≤ k) (hst : nearBy 4294967296 (mulP k r.step) = true) :
  Calls Tryz.prog 147 #[.agg #[.string x.mark, .int .i64 x.size, .int .i64 x.count, .int .i64 x.code, .slice A x.dims.length c], runV r, .int .i64 k] w fun e w' =>
   ∃ A' c', e = .returned (.slice A' (ptsOf x r k).length c') ∧ PtsAt w' w'.heap.size A' (ptsOf x r k) ∧ (ptsOf x r k).length ≤ c' ∧ Below w.heap.size w w' := by
 have Hnear := hide (path_near hok)
 have Htu := hide ht
 have HN0 := hide (pathOf_len x)
 have hle := legsOf_len x.code
 have HPT0 := hide (fun (j : Nat) (p : Pt) (h : (pathOf x)[j]? = some p) => ptsOf_at (r := r) (k := k) h)
 have HPl0 := hide (ptsOf_len x r k)
 have Hna0 := hide (nearBy_mono (near_add hpl hst) (show (1048576 + 4294967296 : Int) ≤ 1099511627776 by omega))
 have Hplus := hide (fun (W : World) => refPlus_any r.place (mulP k r.step) W (nearBy_mono hpl (by omega)) (nearBy_mono hst (by omega)))
 have Htim := hide (fun (W : World) => refTimes16_any k r.step W (nearBy_mono hst (by omega)))
 have hbo := fun o o' => ((Below.refl B w).alloc hB o).alloc (le_alloc hB o) o'
 have HM := hide (refPath_ok x A c _ (hA.carry (hbo (.cells #[.string x.mark, .int .i64 x.size, .int .i64 x.count, .int .i64 x.code, .slice A x.dims.length c] 50) (.cells #[.string r.mark, .int .i64 r.tx, .int .i64 r.ty, .int .i64 r.place.1, .int .i64 r.place.2.1, .int .i64 r.place.2.2, .int .i64 r.step.1, .int .i64 r.step.2.1, .int .i64 r.step.2.2, .int .i64 r.count] 66)) (Nat.le_refl _)) (le_alloc (le_alloc hB _) _) hok)
 have HW := hide (below_new2 w (.cells #[.string x.mark, .int .i64 x.size, .int .i64 x.count, .int .i64 x.code, .slice A x.dims.length c] 50) (.cells #[.string r.mark, .int .i64 r.tx, .int .i64 r.ty, .int .i64 r.place.1, .int .i64 r.place.2.1, .int .i64 r.place.2.2, .int .i64 r.step.1, .int .i64 r.step.2.1, .int .i64 r.step.2.2, .int .i64 r.count] 66))
 have KRn := hide (Blk.new1 w (.cells #[.string x.mark, .int .i64 x.size, .int .i64 x.count, .int .i64 x.code, .slice A x.dims.length c] 50) 66 #[.string r.mark, .int .i64 r.tx, .int .i64 r.ty, .int .i64 r.place.1, .int .i64 r.place.2.1, .int .i64 r.place.2.2, .int .i64 r.step.1, .int .i64 r.step.2.1, .int .i64 r.step.2.2, .int .i64 r.count])
 clear hA hB hok ht hbo
 obtain ⟨mark, tx, ty, ⟨q1, q2, q3⟩, ⟨s1, s2, s3⟩, cnt⟩ := r
 obtain ⟨PT, hPT⟩ : ∃ PT, PT = ptsOf x ⟨mark, tx, ty, (q1, q2, q3), (s1, s2, s3), cnt⟩ k := ⟨_, rfl⟩
 obtain ⟨n, hn⟩ : ∃ n, n = (pathOf x).length := ⟨_, rfl⟩
 simp only at HPT0 HPl0 Hna0 Hplus Htim HM HW KRn Htu
 rw [← hPT] at HPT0 HPl0 ⊢
 rw [← hn] at HN0 HPl0 HM
 rw [HPl0.out]
 have HN := hide hn
 have hn7 : n ≤ 7 := by rw [HN0.out]; omega
 clear hPT hn HN0 hpl hst
 go_enter Tryz.func147, Tryz.ntmps147
 go_wp2_with fail
 refine HM.out.mono ?_
 rintro e w1 ⟨A1, c1, rfl, hp1, hb1⟩
 have KRn := hide (KRn.out.keep hb1)
 have HW1 := hide (below_step HW.out hb1 (Nat.le_refl _))
 have HPath := hide hp1
 clear hb1 hp1 HM HW
 have lrn := KRn.out.lt
 by_cases hk0 : 0 < k
 case neg =>
  obtain rfl : k = 0 := by omega
  have hz : addP (q1, q2, q3) (mulP 0 (s1, s2, s3)) = (q1, q2, q3) := by simp [addP, mulP]
  rw [hz] at HPT0 Hna0
  obtain ⟨a1, ha1⟩ : ∃ a, a = q1 := ⟨_, rfl⟩
  obtain ⟨a2, ha2⟩ : ∃ a, a = q2 := ⟨_, rfl⟩
  obtain ⟨a3, ha3⟩ : ∃ a, a = q3 := ⟨_, rfl⟩
  have KAt := hide (Blk.new w1 60 #[.int .i64 q1, .int .i64 q2, .int .i64 q3])
  have KAt := hide (show Blk (w1.alloc (.cells #[.int .i64 q1, .int .i64 q2, .int .i64 q3] 60)) w1.heap.size 60 #[.int .i64 a1, .int .i64 a2, .int .i64 a3] by rw [ha1, ha2, ha3]; exact KAt.out)
  have HWX := hide (below_new w1 (.cells #[.int .i64 q1, .int .i64 q2, .int .i64 q3] 60))
  rw [← ha1, ← ha2, ← ha3] at HPT0 Hna0
  have HPT := HPT0
  have Hna := Hna0
  have u3 := KRn.out.cell 3
  have u4 := KRn.out.cell 4
  have u5 := KRn.out.cell 5
  simp at u3 u4 u5
  clear hz hk0 hk Hplus Htim HPT0 Hna0 ha1 ha2 ha3
  go_wp2_with fail
  go_loopw [9, 10] (fun v iv wr => ∃ j : Nat, j ≤ n ∧ iv = .int .i64 j ∧ (∃ acc : List Pt, Row wr (w1.heap.size + 1) 60 3 encPt v acc ∧ Hid (acc = PT.take j)) ∧ Hid (Blk wr w1.heap.size 60 #[.int .i64 a1, .int .i64 a2, .int .i64 a3]) ∧ Hid (Below w1.heap.size w1 wr)) (fun _ iv _ => n - (intOf iv).toNat)
  case atStart => exact ⟨0, Nat.zero_le _, rfl, ⟨[], Row.nil _ _ _ _ _, hide rfl⟩, KAt, HWX⟩
  case round =>
   obtain ⟨j, hj, rfl, ⟨acc, hrow, hacc⟩, hK, hbr⟩ := hrel
   obtain ⟨A0, c0, rfl⟩ := hrow.val
   have hbs := hbr.out.size
   have hbase : w1.heap.size + 1 ≤ wr.heap.size := hK.out.lt
   by_cases hlt : j < n
   ·obtain ⟨b, off, pj, hAe, hbl, hx, g0, g1, g2⟩ := PtsAt.get (k := j) (HPath.out.carry (Flat.carried _) hbr.out (Nat.le_refl w1.heap.size)) (by rw [← HN.out]; exact hlt)
    subst hAe
    have hni := near_image Htu.out (Hnear.out _ (mem_of_get hx))
    have HIm := hide (fun (W : World) => refImage_any tx ty pj W Htu.out hni.1)
    have HPl := hide (fun (W : World) => refPlus_any (a1, a2, a3) (imgV tx ty pj) W Hna.out (nearBy_mono hni.2 (by omega)))
    have HQ := hide (HPT.out j pj hx)
    obtain ⟨im, him⟩ : ∃ im, im = imgV tx ty pj := ⟨_, rfl⟩
    rw [← him] at HIm HPl HQ
    obtain ⟨pj1, pj2, pj3⟩ := pj
    obtain ⟨im1, im2, im3⟩ := im
    simp only [ptA, addP] at HIm HPl HQ g0 g1 g2
    have hal : acc.length ≤ 1000 := by rw [hacc.out, List.length_take]; omega
    have Htk := hide (show PT.take (j + 1) = acc ++ [(a1 + im1, a2 + im2, a3 + im3)] by rw [take_snoc' HQ.out, hacc.out])
    have krn := KRn.out.below hbr.out lrn
    have t1 := krn.cell 1
    have t2 := krn.cell 2
    have e0 := hK.out.cell 0
    have e1 := hK.out.cell 1
    have e2 := hK.out.cell 2
    simp at t1 t2 e0 e1 e2
    have hbl1 : b < w1.heap.size := hbl
    have l1 := krn.lt
    have l2 := hK.out.lt
    have l3 : b < wr.heap.size := Nat.lt_of_lt_of_le hbl hbs
    have ColS := hide (fun (W : World) (h : Below (w1.heap.size + 1) wr W) => show W.cell? ⟨w1.heap.size, 0, none⟩ = some (.int .i64 a1) ∧ W.cell? ⟨w1.heap.size, 1, none⟩ = some (.int .i64 a2) ∧ W.cell? ⟨w1.heap.size, 2, none⟩ = some (.int .i64 a3) ∧ W.cell? ⟨w.heap.size + 1, 1, none⟩ = some (.int .i64 tx) ∧ W.cell? ⟨w.heap.size + 1, 2, none⟩ = some (.int .i64 ty) ∧ W.cell? ⟨b, off + j * 3, none⟩ = some (.int .i64 pj1) ∧ W.cell? ⟨b, off + j * 3 + 1, none⟩ = some (.int .i64 pj2) ∧ W.cell? ⟨b, off + j * 3 + 2, none⟩ = some (.int .i64 pj3) ∧ Below (w1.heap.size + 1) wr W from
     ⟨(h.cell (p := ⟨w1.heap.size, 0, none⟩) (Nat.lt_succ_self _)).trans e0, (h.cell (p := ⟨w1.heap.size, 1, none⟩) (Nat.lt_succ_self _)).trans e1, (h.cell (p := ⟨w1.heap.size, 2, none⟩) (Nat.lt_succ_self _)).trans e2, (h.cell (p := ⟨w.heap.size + 1, 1, none⟩) (Nat.lt_succ_of_lt lrn)).trans t1, (h.cell (p := ⟨w.heap.size + 1, 2, none⟩) (Nat.lt_succ_of_lt lrn)).trans t2, (h.cell (p := ⟨b, off + j * 3, none⟩) (Nat.lt_succ_of_lt hbl1)).trans g0, (h.cell (p := ⟨b, off + j * 3 + 1, none⟩) (Nat.lt_succ_of_lt hbl1)).trans g1, (h.cell (p := ⟨b, off + j * 3 + 2, none⟩) (Nat.lt_succ_of_lt hbl1)).trans g2, h⟩)
    have Hrow := hide hrow
    have hS0 := ColS.out _ (Below.drew (Below.refl (w1.heap.size + 1) wr))
    have hB0 := Below.drew (Below.refl wr.heap.size wr)
    clear hrow hx hbl him hni krn
    go_wp2_with fail
    go_region_held3 (fun W => W.cell? ⟨w1.heap.size, 0, none⟩ = some (.int .i64 a1) ∧ W.cell? ⟨w1.heap.size, 1, none⟩ = some (.int .i64 a2) ∧ W.cell? ⟨w1.heap.size, 2, none⟩ = some (.int .i64 a3) ∧ W.cell? ⟨w.heap.size + 1, 1, none⟩ = some (.int .i64 tx) ∧ W.cell? ⟨w.heap.size + 1, 2, none⟩ = some (.int .i64 ty) ∧ W.cell? ⟨b, off + j * 3, none⟩ = some (.int .i64 pj1) ∧ W.cell? ⟨b, off + j * 3 + 1, none⟩ = some (.int .i64 pj2) ∧ W.cell? ⟨b, off + j * 3 + 2, none⟩ = some (.int .i64 pj3) ∧ Below (w1.heap.size + 1) wr W)
     (first
      | (with_reducible assumption)
      | (refine ColS.out _ (Below.alloc (Below.mono hB hbase) (Nat.le_trans hbase hB.size) _))
      | (refine ColS.out _ (Below.trans (Below.alloc (Below.mono hB hbase) (Nat.le_trans hbase hB.size) _) hb5))
      | go_keep)
     (first
      | (go_at_call 210; (with_reducible refine (HIm.out _).mono ?_); rintro e wz ⟨rfl, hbz⟩; have hB := below_step (by assumption) hbz (Nat.le_refl wr.heap.size); have hS2 := ColS.out _ (Below.mono hB hbase))
      | (go_at_call 208; (with_reducible refine (HPl.out _).mono ?_); rintro e wz ⟨rfl, hbz⟩; have hB := below_step (by assumption) hbz (Nat.le_refl wr.heap.size); have hS2 := ColS.out _ (Below.mono hB hbase))
      | (refine step_append1 (by rfl) (.tmp 29) (.tmp 39) 204 (by rfl) (w1.heap.size + 1) 60 (.agg #[.int .i64 0, .int .i64 0, .int .i64 0]) 3 24 encPt Tryz.underlying204 (by kernel_rfl) rfl (by omega) encPt_len encPt_one _ acc (a1 + im1, a2 + im2, a3 + im3) (by rfl) ((Hrow.out.keep hB).alloc _) _ (by rfl) (Blk.new _ _ _) (by omega) (by omega) (le_alloc (Nat.le_trans hbase hB.size) _) ?_; intro A1 c1 w5 hrow5 hb5 hkeep5))
    go_goals
    have hN5 := hide (((hK.out.keep hB).alloc (.cells #[.int .i64 (a1 + im1), .int .i64 (a2 + im2), .int .i64 (a3 + im3)] 60)).below hb5 (Nat.lt_succ_self _))
    have h1 := hbr.out.trans (hB.mono hbs)
    have hB5 := hide ((h1.alloc h1.size (.cells #[.int .i64 (a1 + im1), .int .i64 (a2 + im2), .int .i64 (a3 + im3)] 60)).trans (hb5.mono (Nat.le_succ _)))
    have hrow6 := hide hrow5
    clear hrow5 hkeep5 hb5 h1
    go_wp2_with fail
    go_roundw
    case rel => exact ⟨j + 1, by omega, by go_num, ⟨acc ++ [(a1 + im1, a2 + im2, a3 + im3)], by simpa using hrow6.out, hide Htk.out.symm⟩, hN5, hB5⟩
    case measure => simp [intOf]; omega
   ·obtain rfl : j = n := by omega
    have hf : acc = PT := by rw [hacc.out]; exact List.take_of_length_le (by rw [HPl0.out]; exact Nat.le_refl _)
    have hlen := hide (show j = acc.length by rw [hf, HPl0.out])
    have Hr := hide (show PtsAt wr wr.heap.size A0 PT by rw [← hf]; exact Row.read hrow encPt_len (by omega))
    have Hcp := hide (show j ≤ c0 by rw [hlen.out]; exact row_cap hrow)
    have Hb := hide (below_step HW1.out hbr.out (Nat.le_refl _))
    clear hf hacc hrow
    generalize acc.length = m at *
    go_wp2_with fail
    go_ret
    exact ⟨A0, c0, by rw [hlen.out]; rfl, Hr.out, Hcp.out, Hb.out⟩
 case pos =>
  have d0 : decide (0 < k) = true := by simpa using hk0
  obtain ⟨⟨m1, m2, m3⟩, hm⟩ : ∃ m : Pt, m = mulP k (s1, s2, s3) := ⟨_, rfl⟩
  rw [← hm] at Hplus Htim HPT0 Hna0
  simp only [ptA, addP] at Hplus Htim HPT0 Hna0
  obtain ⟨a1, ha1⟩ : ∃ a, a = q1 + m1 := ⟨_, rfl⟩
  obtain ⟨a2, ha2⟩ : ∃ a, a = q2 + m2 := ⟨_, rfl⟩
  obtain ⟨a3, ha3⟩ : ∃ a, a = q3 + m3 := ⟨_, rfl⟩
  rw [← ha1, ← ha2, ← ha3] at Hplus HPT0 Hna0
  have HPT := hide (fun (j : Nat) (p : Pt) (h : (pathOf x)[j]? = some p) => show PT[j]? = some (addP (a1, a2, a3) (imgV tx ty p)) from HPT0.out j p h)
  have Hna := Hna0
  obtain ⟨wX, hwX⟩ : ∃ wX, wX = w1.alloc (.cells #[.int .i64 q1, .int .i64 q2, .int .i64 q3] 60) := ⟨_, rfl⟩
  have KAt := hide (Blk.new w1 60 #[.int .i64 q1, .int .i64 q2, .int .i64 q3])
  have KR2 := hide (KRn.out.alloc (.cells #[.int .i64 q1, .int .i64 q2, .int .i64 q3] 60))
  have HWX := hide (below_new w1 (.cells #[.int .i64 q1, .int .i64 q2, .int .i64 q3] 60))
  rw [← hwX] at KAt KR2 HWX
  have u3 := KRn.out.cell 3
  have u4 := KRn.out.cell 4
  have u5 := KRn.out.cell 5
  have u6 := KRn.out.cell 6
  have u7 := KRn.out.cell 7
  have u8 := KRn.out.cell 8
  have y6 := KR2.out.cell 6
  have y7 := KR2.out.cell 7
  have y8 := KR2.out.cell 8
  have x0 := KAt.out.cell 0
  have x1 := KAt.out.cell 1
  have x2 := KAt.out.cell 2
  have z0 := KAt.out.frozen 0
  have z1 := KAt.out.frozen 1
  have z2 := KAt.out.frozen 2
  simp at u3 u4 u5 u6 u7 u8 x0 x1 x2 y6 y7 y8
  have lA := KAt.out.lt
  have lR := KR2.out.lt
  have RS := hide (fun (W : World) (h : Below wX.heap.size wX W) => show W.cell? ⟨w1.heap.size, 0, none⟩ = some (.int .i64 q1) ∧ W.cell? ⟨w1.heap.size, 1, none⟩ = some (.int .i64 q2) ∧ W.cell? ⟨w1.heap.size, 2, none⟩ = some (.int .i64 q3) ∧ W.frozen? ⟨w1.heap.size, 0, none⟩ = false ∧ W.frozen? ⟨w1.heap.size, 1, none⟩ = false ∧ W.frozen? ⟨w1.heap.size, 2, none⟩ = false from
   ⟨(h.cell (p := ⟨w1.heap.size, 0, none⟩) lA).trans x0, (h.cell (p := ⟨w1.heap.size, 1, none⟩) lA).trans x1, (h.cell (p := ⟨w1.heap.size, 2, none⟩) lA).trans x2, (h.frozen (p := ⟨w1.heap.size, 0, none⟩) lA).trans z0, (h.frozen (p := ⟨w1.heap.size, 1, none⟩) lA).trans z1, (h.frozen (p := ⟨w1.heap.size, 2, none⟩) lA).trans z2⟩)
  clear hk0 hk HPT0 Hna0 hm ha1 ha2 ha3
  go_wp2_with fail
  rw [← hwX]
  go_cut [8] from 17 (fun s8 wx => s8 = .pointer (some ⟨w1.heap.size, 0, none⟩) ∧ Hid (Blk wx w1.heap.size 60 #[.int .i64 a1, .int .i64 a2, .int .i64 a3]) ∧ Hid (Below w1.heap.size w1 wx))
  case first =>
   have HK := hide (fun (W : World) (h : Below w1.heap.size w1 W) => show W.cell? ⟨w.heap.size + 1, 6, none⟩ = some (.int .i64 s1) ∧ W.cell? ⟨w.heap.size + 1, 7, none⟩ = some (.int .i64 s2) ∧ W.cell? ⟨w.heap.size + 1, 8, none⟩ = some (.int .i64 s3) from
    ⟨(h.cell (p := ⟨w.heap.size + 1, 6, none⟩) lrn).trans u6, (h.cell (p := ⟨w.heap.size + 1, 7, none⟩) lrn).trans u7, (h.cell (p := ⟨w.heap.size + 1, 8, none⟩) lrn).trans u8⟩)
   have hB := Below.drew (Below.refl wX.heap.size wX)
   have hS := HK.out _ (Below.drew HWX.out)
   have hXs := HWX.out.size
   clear y6 y7 y8 u3 u4 u5 u6 u7 u8 hwX
   refine wp_region_held_drew (S := fun W => W.cell? ⟨w.heap.size + 1, 6, none⟩ = some (.int .i64 s1) ∧ W.cell? ⟨w.heap.size + 1, 7, none⟩ = some (.int .i64 s2) ∧ W.cell? ⟨w.heap.size + 1, 8, none⟩ = some (.int .i64 s3)) (by kernel_rfl) hS (fun hHeld => ?_)
   refine wpAnyH_take (i := 1) (v := ?_) rfl (by kernel_rfl) (by kernel_rfl) (by kernel_rfl) (fun _ _ _ h => h) (Or.inl ⟨by rfl, ?_⟩) (by assumption) ?_
   rotate_left
   ·intro w hSw
    (try dsimp only at hSw)
    go_simp
    first | done | with_reducible rfl
   (try simp only [zzA, zzB, zzC, Act.put, zzD, zzE, zzF])
   refine wpAnyH_take (i := 2) (v := ?_) rfl (by kernel_rfl) (by kernel_rfl) (by kernel_rfl) (fun _ _ _ h => h) (Or.inl ⟨by rfl, ?_⟩) (by assumption) ?_
   rotate_left
   ·intro w hSw
    (try dsimp only at hSw)
    go_simp
    first | done | with_reducible rfl
   (try simp only [zzA, zzB, zzC, Act.put, zzD, zzE, zzF])
   refine wpAnyH_take (i := 3) (v := ?_) rfl (by kernel_rfl) (by kernel_rfl) (by kernel_rfl) (fun _ _ _ h => h) (Or.inl ⟨by rfl, ?_⟩) (by assumption) ?_
   rotate_left
   ·intro w hSw
    (try dsimp only at hSw)
    go_simp
    first | done | with_reducible rfl
   (try simp only [zzA, zzB, zzC, Act.put, zzD, zzE, zzF])
   refine wpAnyH_ready (rs := [0, 4]) (by kernel_rfl) (by simp) (AllReadyH.cons rfl (fun K hK => ?_) (AllReadyH.cons rfl (fun K hK => ?_) AllReadyH.nil))
   ·skip
    go_simp
    refine hK.out _ _ hS (fun hHeld => ?_)
    clear hK K
    (try simp only [zzA, zzB, zzC, Act.put, zzD, zzE, zzF])
    refine wpAnyH_ready (rs := [4]) (by kernel_rfl) (by simp) (AllReadyH.cons rfl (fun K hK => ?_) AllReadyH.nil)
    ·skip
     go_simp
     refine (Htim.out _).mono ?_
     rintro e wz ⟨rfl, hbz⟩
     have hB := below_step hB hbz (Nat.le_refl wX.heap.size)
     obtain ⟨d0, d1, d2, e0, e1, e2⟩ := RS.out _ hB
     have hS := HK.out _ (HWX.out.trans (hB.mono hXs))
     go_wp2_with fail
     refine hK.out _ _ hS (fun hHeld => ?_)
     clear hK K
     (try simp only [zzA, zzB, zzC, Act.put, zzD, zzE, zzF])
     refine wpAnyH_ready (rs := [5]) (by kernel_rfl) (by simp) (AllReadyH.cons rfl (fun K hK => ?_) AllReadyH.nil)
     ·skip
      go_simp
      refine (Hplus.out _).mono ?_
      rintro e wz ⟨rfl, hbz⟩
      have hB := below_step hB hbz (Nat.le_refl wX.heap.size)
      obtain ⟨d0, d1, d2, e0, e1, e2⟩ := RS.out _ hB
      have hS := HK.out _ (HWX.out.trans (hB.mono hXs))
      go_wp2_with fail
      refine hK.out _ _ hS (fun hHeld => ?_)
      clear hK K
      (try simp only [zzA, zzB, zzC, Act.put, zzD, zzE, zzF])
      refine wpAnyH_ready (rs := [6]) (by kernel_rfl) (by simp) (AllReadyH.cons rfl (fun K hK => ?_) AllReadyH.nil)
      ·skip
       go_simp
       refine hK.out _ _ (HK.out _ (below3 (g := w1.heap.size) (HWX.out.trans (hB.mono hXs)) (Nat.le_refl _) _ _ _)) (fun hHeld => ?_)
       clear hK K
       (try simp only [zzA, zzB, zzC, Act.put, zzD, zzE, zzF])
       refine wpAnyH_done (by kernel_rfl) ?_ _
       go_wp2_with fail
       go_meet
       exact ⟨rfl, hide (blk3 (KAt.out.below hB lA) _ _ _), hide (below3 (g := w1.heap.size) (HWX.out.trans (hB.mono hXs)) (Nat.le_refl _) _ _ _)⟩
   ·skip
    go_simp
    refine (Htim.out _).mono ?_
    rintro e wz ⟨rfl, hbz⟩
    have hB := below_step hB hbz (Nat.le_refl wX.heap.size)
    obtain ⟨d0, d1, d2, e0, e1, e2⟩ := RS.out _ hB
    have hS := HK.out _ (HWX.out.trans (hB.mono hXs))
    go_wp2_with fail
    refine hK.out _ _ hS (fun hHeld => ?_)
    clear hK K
    (try simp only [zzA, zzB, zzC, Act.put, zzD, zzE, zzF])
    refine wpAnyH_ready (rs := [0]) (by kernel_rfl) (by simp) (AllReadyH.cons rfl (fun K hK => ?_) AllReadyH.nil)
    ·skip
     go_simp
     refine hK.out _ _ hS (fun hHeld => ?_)
     clear hK K
     (try simp only [zzA, zzB, zzC, Act.put, zzD, zzE, zzF])
     refine wpAnyH_ready (rs := [5]) (by kernel_rfl) (by simp) (AllReadyH.cons rfl (fun K hK => ?_) AllReadyH.nil)
     ·skip
      go_simp
      refine (Hplus.out _).mono ?_
      rintro e wz ⟨rfl, hbz⟩
      have hB := below_step hB hbz (Nat.le_refl wX.heap.size)
      obtain ⟨d0, d1, d2, e0, e1, e2⟩ := RS.out _ hB
      have hS := HK.out _ (HWX.out.trans (hB.mono hXs))
      go_wp2_with fail
      refine hK.out _ _ hS (fun hHeld => ?_)
      clear hK K
      (try simp only [zzA, zzB, zzC, Act.put, zzD, zzE, zzF])
      refine wpAnyH_ready (rs := [6]) (by kernel_rfl) (by simp) (AllReadyH.cons rfl (fun K hK => ?_) AllReadyH.nil)
      ·skip
       go_simp
       refine hK.out _ _ (HK.out _ (below3 (g := w1.heap.size) (HWX.out.trans (hB.mono hXs)) (Nat.le_refl _) _ _ _)) (fun hHeld => ?_)
       clear hK K
       (try simp only [zzA, zzB, zzC, Act.put, zzD, zzE, zzF])
       refine wpAnyH_done (by kernel_rfl) ?_ _
       go_wp2_with fail
       go_meet
       exact ⟨rfl, hide (blk3 (KAt.out.below hB lA) _ _ _), hide (below3 (g := w1.heap.size) (HWX.out.trans (hB.mono hXs)) (Nat.le_refl _) _ _ _)⟩
  case rest =>
   obtain ⟨rfl, KAt', HWX'⟩ := hcut
   have KAt := KAt'
   have HWX := HWX'
   clear u3 u4 u5 u6 u7 u8 y6 y7 y8 x0 x1 x2 z0 z1 z2 lA lR RS Hplus Htim KR2 hwX
   go_wp2_with fail
   go_loopw [9, 10] (fun v iv wr => ∃ j : Nat, j ≤ n ∧ iv = .int .i64 j ∧ (∃ acc : List Pt, Row wr (w1.heap.size + 1) 60 3 encPt v acc ∧ Hid (acc = PT.take j)) ∧ Hid (Blk wr w1.heap.size 60 #[.int .i64 a1, .int .i64 a2, .int .i64 a3]) ∧ Hid (Below w1.heap.size w1 wr)) (fun _ iv _ => n - (intOf iv).toNat)
   case atStart => exact ⟨0, Nat.zero_le _, rfl, ⟨[], Row.nil _ _ _ _ _, hide rfl⟩, KAt, HWX⟩
   case round =>
    obtain ⟨j, hj, rfl, ⟨acc, hrow, hacc⟩, hK, hbr⟩ := hrel
    obtain ⟨A0, c0, rfl⟩ := hrow.val
    have hbs := hbr.out.size
    have hbase : w1.heap.size + 1 ≤ wr.heap.size := hK.out.lt
    by_cases hlt : j < n
    ·obtain ⟨b, off, pj, hAe, hbl, hx, g0, g1, g2⟩ := PtsAt.get (k := j) (HPath.out.carry (Flat.carried _) hbr.out (Nat.le_refl w1.heap.size)) (by rw [← HN.out]; exact hlt)
     subst hAe
     have hni := near_image Htu.out (Hnear.out _ (mem_of_get hx))
     have HIm := hide (fun (W : World) => refImage_any tx ty pj W Htu.out hni.1)
     have HPl := hide (fun (W : World) => refPlus_any (a1, a2, a3) (imgV tx ty pj) W Hna.out (nearBy_mono hni.2 (by omega)))
     have HQ := hide (HPT.out j pj hx)
     obtain ⟨im, him⟩ : ∃ im, im = imgV tx ty pj := ⟨_, rfl⟩
     rw [← him] at HIm HPl HQ
     obtain ⟨pj1, pj2, pj3⟩ := pj
     obtain ⟨im1, im2, im3⟩ := im
     simp only [ptA, addP] at HIm HPl HQ g0 g1 g2
     have hal : acc.length ≤ 1000 := by rw [hacc.out, List.length_take]; omega
     have Htk := hide (show PT.take (j + 1) = acc ++ [(a1 + im1, a2 + im2, a3 + im3)] by rw [take_snoc' HQ.out, hacc.out])
     have krn := KRn.out.below hbr.out lrn
     have t1 := krn.cell 1
     have t2 := krn.cell 2
     have e0 := hK.out.cell 0
     have e1 := hK.out.cell 1
     have e2 := hK.out.cell 2
     simp at t1 t2 e0 e1 e2
     have hbl1 : b < w1.heap.size := hbl
     have l1 := krn.lt
     have l2 := hK.out.lt
     have l3 : b < wr.heap.size := Nat.lt_of_lt_of_le hbl hbs
     have ColS := hide (fun (W : World) (h : Below (w1.heap.size + 1) wr W) => show W.cell? ⟨w1.heap.size, 0, none⟩ = some (.int .i64 a1) ∧ W.cell? ⟨w1.heap.size, 1, none⟩ = some (.int .i64 a2) ∧ W.cell? ⟨w1.heap.size, 2, none⟩ = some (.int .i64 a3) ∧ W.cell? ⟨w.heap.size + 1, 1, none⟩ = some (.int .i64 tx) ∧ W.cell? ⟨w.heap.size + 1, 2, none⟩ = some (.int .i64 ty) ∧ W.cell? ⟨b, off + j * 3, none⟩ = some (.int .i64 pj1) ∧ W.cell? ⟨b, off + j * 3 + 1, none⟩ = some (.int .i64 pj2) ∧ W.cell? ⟨b, off + j * 3 + 2, none⟩ = some (.int .i64 pj3) ∧ Below (w1.heap.size + 1) wr W from
      ⟨(h.cell (p := ⟨w1.heap.size, 0, none⟩) (Nat.lt_succ_self _)).trans e0, (h.cell (p := ⟨w1.heap.size, 1, none⟩) (Nat.lt_succ_self _)).trans e1, (h.cell (p := ⟨w1.heap.size, 2, none⟩) (Nat.lt_succ_self _)).trans e2, (h.cell (p := ⟨w.heap.size + 1, 1, none⟩) (Nat.lt_succ_of_lt lrn)).trans t1, (h.cell (p := ⟨w.heap.size + 1, 2, none⟩) (Nat.lt_succ_of_lt lrn)).trans t2, (h.cell (p := ⟨b, off + j * 3, none⟩) (Nat.lt_succ_of_lt hbl1)).trans g0, (h.cell (p := ⟨b, off + j * 3 + 1, none⟩) (Nat.lt_succ_of_lt hbl1)).trans g1, (h.cell (p := ⟨b, off + j * 3 + 2, none⟩) (Nat.lt_succ_of_lt hbl1)).trans g2, h⟩)
     have Hrow := hide hrow
     have hS0 := ColS.out _ (Below.drew (Below.refl (w1.heap.size + 1) wr))
     have hB0 := Below.drew (Below.refl wr.heap.size wr)
     clear hrow hx hbl him hni krn
     go_wp2_with fail
     go_region_held3 (fun W => W.cell? ⟨w1.heap.size, 0, none⟩ = some (.int .i64 a1) ∧ W.cell? ⟨w1.heap.size, 1, none⟩ = some (.int .i64 a2) ∧ W.cell? ⟨w1.heap.size, 2, none⟩ = some (.int .i64 a3) ∧ W.cell? ⟨w.heap.size + 1, 1, none⟩ = some (.int .i64 tx) ∧ W.cell? ⟨w.heap.size + 1, 2, none⟩ = some (.int .i64 ty) ∧ W.cell? ⟨b, off + j * 3, none⟩ = some (.int .i64 pj1) ∧ W.cell? ⟨b, off + j * 3 + 1, none⟩ = some (.int .i64 pj2) ∧ W.cell? ⟨b, off + j * 3 + 2, none⟩ = some (.int .i64 pj3) ∧ Below (w1.heap.size + 1) wr W)
      (first
       | (with_reducible assumption)
       | (refine ColS.out _ (Below.alloc (Below.mono hB hbase) (Nat.le_trans hbase hB.size) _))
       | (refine ColS.out _ (Below.trans (Below.alloc (Below.mono hB hbase) (Nat.le_trans hbase hB.size) _) hb5))
       | go_keep)
      (first
       | (go_at_call 210; (with_reducible refine (HIm.out _).mono ?_); rintro e wz ⟨rfl, hbz⟩; have hB := below_step (by assumption) hbz (Nat.le_refl wr.heap.size); have hS2 := ColS.out _ (Below.mono hB hbase))
       | (go_at_call 208; (with_reducible refine (HPl.out _).mono ?_); rintro e wz ⟨rfl, hbz⟩; have hB := below_step (by assumption) hbz (Nat.le_refl wr.heap.size); have hS2 := ColS.out _ (Below.mono hB hbase))
       | (refine step_append1 (by rfl) (.tmp 29) (.tmp 39) 204 (by rfl) (w1.heap.size + 1) 60 (.agg #[.int .i64 0, .int .i64 0, .int .i64 0]) 3 24 encPt Tryz.underlying204 (by kernel_rfl) rfl (by omega) encPt_len encPt_one _ acc (a1 + im1, a2 + im2, a3 + im3) (by rfl) ((Hrow.out.keep hB).alloc _) _ (by rfl) (Blk.new _ _ _) (by omega) (by omega) (le_alloc (Nat.le_trans hbase hB.size) _) ?_; intro A1 c1 w5 hrow5 hb5 hkeep5))
     go_goals
     have hN5 := hide (((hK.out.keep hB).alloc (.cells #[.int .i64 (a1 + im1), .int .i64 (a2 + im2), .int .i64 (a3 + im3)] 60)).below hb5 (Nat.lt_succ_self _))
     have h1 := hbr.out.trans (hB.mono hbs)
     have hB5 := hide ((h1.alloc h1.size (.cells #[.int .i64 (a1 + im1), .int .i64 (a2 + im2), .int .i64 (a3 + im3)] 60)).trans (hb5.mono (Nat.le_succ _)))
     have hrow6 := hide hrow5
     clear hrow5 hkeep5 hb5 h1
     go_wp2_with fail
     go_roundw
     case rel => exact ⟨j + 1, by omega, by go_num, ⟨acc ++ [(a1 + im1, a2 + im2, a3 + im3)], by simpa using hrow6.out, hide Htk.out.symm⟩, hN5, hB5⟩
     case measure => simp [intOf]; omega
    ·obtain rfl : j = n := by omega
     have hf : acc = PT := by rw [hacc.out]; exact List.take_of_length_le (by rw [HPl0.out]; exact Nat.le_refl _)
     have hlen := hide (show j = acc.length by rw [hf, HPl0.out])
     have Hr := hide (show PtsAt wr wr.heap.size A0 PT by rw [← hf]; exact Row.read hrow encPt_len (by omega))
     have Hcp := hide (show j ≤ c0 by rw [hlen.out]; exact row_cap hrow)
     have Hb := hide (below_step HW1.out hbr.out (Nat.le_refl _))
     clear hf hacc hrow
     generalize acc.length = m at *
     go_wp2_with fail
     go_ret
     exact ⟨A0, c0, by rw [hlen.out]; rfl, Hr.out, Hcp.out, Hb.out⟩
end Go.Proofs.YtpaanfjjnjjoeaaGreat
