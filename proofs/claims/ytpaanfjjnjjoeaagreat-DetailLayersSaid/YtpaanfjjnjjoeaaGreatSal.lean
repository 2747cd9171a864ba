/- The reference of layer 16: the points of a bar of a run. -/
import Derived.Test.YtpaanfjjnjjoeaaGreatSaj
set_option maxHeartbeats 8000000
set_option maxRecDepth 100000
namespace Go.Proofs.YtpaanfjjnjjoeaaGreat
open Go.RowKit
theorem zjN {x y : Int} {p : Pt} (h : zav x y = true) (hp : zJ 524288 p = true) : zJ 1048576 p = true ∧ zJ 2097152 (zeF x y p) = true :=
 ⟨zak hp (by omega), zak (zik h hp (by omega)) (by omega)⟩
theorem zkX (x : BarD) (r : RunD) (k : Int) : (zbJ x r k).length = (zai x).length := by rw [zju, zw]
theorem zsg {x : BarD} {r : RunD} {k : Int} {j : Nat} {p : Pt} (h : (zai x)[j]? = some p) : (zbJ x r k)[j]? = some (zbf (zbf r.place (zbe k r.step)) (zeF r.tx r.ty p)) := by
 rw [zju, zaH, h]; rfl
theorem zpL {α : Type} {w : World} {base size n c : Nat} {e : TypeId} {enc : α → List Value} {A : Option Addr} {l : List α} (h : Row w base e size enc (.slice A n c) l) : l.length ≤ c := by
 rcases h.2 with ⟨hv, h0⟩ | ⟨g, cap, cur, hv, _, _, hnc, _⟩
 ·omega
 ·injection hv with _ _ h3
  omega
theorem zhI (x : BarD) (A : Option Addr) (c : Nat) (r : RunD) (k : Int) (w : World) {B : Nat} (hA : Ints w B A x.dims) (hB : B ≤ w.heap.size) (hok : zcr x = true) (ht : zav r.tx r.ty = true) (hpl : zJ 1048576 r.place = true) (hk : 0 ≤ k) (hst : zJ 4294967296 (zbe k r.step) = true) :
  Calls Tryz.prog 147 #[.agg #[.string x.mark, .int .i64 x.size, .int .i64 x.count, .int .i64 x.code, .slice A x.dims.length c], zsZ r, .int .i64 k] w fun e w' =>
   ∃ A' c', e = .returned (.slice A' (zbJ x r k).length c') ∧ PtsAt w' w'.heap.size A' (zbJ x r k) ∧ (zbJ x r k).length ≤ c' ∧ Below w.heap.size w w' := by
 have Hnear := zf (zeU hok);have Htu := zf ht;have HN0 := zf (zb4 x);have hle := zc9 x.code;have HPT0 := zf (fun (j : Nat) (p : Pt) (h : (zai x)[j]? = some p) => zsg (r := r) (k := k) h);have HPl0 := zf (zkX x r k);have Hna0 := zf (zak (zmM hpl hst) (show (1048576 + 4294967296 : Int) ≤ 1099511627776 by omega));have Hplus := zf (fun (W : World) => zem r.place (zbe k r.step) W (zak hpl (by omega)) (zak hst (by omega)));have Htim := zf (fun (W : World) => zkb k r.step W (zak hst (by omega)));have hbo := fun o o' => ((Below.refl B w).alloc hB o).alloc (zM hB o) o';have HM := zf (zoD x A c _ (hA.carry (hbo (.cells #[.string x.mark, .int .i64 x.size, .int .i64 x.count, .int .i64 x.code, .slice A x.dims.length c] 50) (.cells #[.string r.mark, .int .i64 r.tx, .int .i64 r.ty, .int .i64 r.place.1, .int .i64 r.place.2.1, .int .i64 r.place.2.2, .int .i64 r.step.1, .int .i64 r.step.2.1, .int .i64 r.step.2.2, .int .i64 r.count] 66)) (ze _)) (zM (zM hB _) _) hok);have HW := zf (zH w (.cells #[.string x.mark, .int .i64 x.size, .int .i64 x.count, .int .i64 x.code, .slice A x.dims.length c] 50) (.cells #[.string r.mark, .int .i64 r.tx, .int .i64 r.ty, .int .i64 r.place.1, .int .i64 r.place.2.1, .int .i64 r.place.2.2, .int .i64 r.step.1, .int .i64 r.step.2.1, .int .i64 r.step.2.2, .int .i64 r.count] 66));have KRn := zf (Blk.new1 w (.cells #[.string x.mark, .int .i64 x.size, .int .i64 x.count, .int .i64 x.code, .slice A x.dims.length c] 50) 66 #[.string r.mark, .int .i64 r.tx, .int .i64 r.ty, .int .i64 r.place.1, .int .i64 r.place.2.1, .int .i64 r.place.2.2, .int .i64 r.step.1, .int .i64 r.step.2.1, .int .i64 r.step.2.2, .int .i64 r.count]);clear hA hB hok ht hbo;obtain ⟨mark, tx, ty, ⟨q1, q2, q3⟩, ⟨s1, s2, s3⟩, cnt⟩ := r;obtain ⟨PT, hPT⟩ : ∃ PT, PT = zbJ x ⟨mark, tx, ty, (q1, q2, q3), (s1, s2, s3), cnt⟩ k := ⟨_, rfl⟩;obtain ⟨n, hn⟩ : ∃ n, n = (zai x).length := ⟨_, rfl⟩;simp only at HPT0 HPl0 Hna0 Hplus Htim HM HW KRn Htu;rw [← hPT] at HPT0 HPl0 ⊢;rw [← hn] at HN0 HPl0 HM;rw [HPl0.out];have HN := zf hn;have hn7 : n ≤ 7 := by rw [HN0.out]; omega
 clear hPT hn HN0 hpl hst;go_enter Tryz.func147, Tryz.ntmps147;go_wp2_with fail;refine HM.out.mono ?_;rintro e w1 ⟨A1, c1, rfl, hp1, hb1⟩;have KRn := zf (KRn.out.keep hb1);have HW1 := zf (zg HW.out hb1 (ze _));have HPath := zf hp1;clear hb1 hp1 HM HW;have lrn := KRn.out.lt;by_cases hk0 : 0 < k
 case neg =>
  obtain rfl : k = 0 := by omega
  have hz : zbf (q1, q2, q3) (zbe 0 (s1, s2, s3)) = (q1, q2, q3) := by simp [zbf, zbe]
  rw [hz] at HPT0 Hna0;obtain ⟨a1, ha1⟩ : ∃ a, a = q1 := ⟨_, rfl⟩;obtain ⟨a2, ha2⟩ : ∃ a, a = q2 := ⟨_, rfl⟩;obtain ⟨a3, ha3⟩ : ∃ a, a = q3 := ⟨_, rfl⟩;have KAt := zf (Blk.new w1 60 #[.int .i64 q1, .int .i64 q2, .int .i64 q3]);have KAt := zf (show Blk (w1.alloc (.cells #[.int .i64 q1, .int .i64 q2, .int .i64 q3] 60)) w1.heap.size 60 #[.int .i64 a1, .int .i64 a2, .int .i64 a3] by rw [ha1, ha2, ha3]; exact KAt.out);have HWX := zf (zk w1 (.cells #[.int .i64 q1, .int .i64 q2, .int .i64 q3] 60));rw [← ha1, ← ha2, ← ha3] at HPT0 Hna0;have HPT := HPT0;have Hna := Hna0;have u3 := KRn.out.cell 3;have u4 := KRn.out.cell 4;have u5 := KRn.out.cell 5;simp at u3 u4 u5;clear hz hk0 hk Hplus Htim HPT0 Hna0 ha1 ha2 ha3;go_wp2;go_loopw [9, 10] (fun v iv wr => ∃ j : Nat, j ≤ n ∧ iv = .int .i64 j ∧ (∃ acc : List Pt, Row wr (w1.heap.size + 1) 60 3 zbF v acc ∧ Hid (acc = PT.take j)) ∧ Hid (Blk wr w1.heap.size 60 #[.int .i64 a1, .int .i64 a2, .int .i64 a3]) ∧ Hid (Below w1.heap.size w1 wr)) (fun _ iv _ => n - (intOf iv).toNat)
  case atStart => exact ⟨0, zu _, rfl, ⟨[], Row.nil _ _ _ _ _, zf rfl⟩, KAt, HWX⟩
  case round =>
   obtain ⟨j, hj, rfl, ⟨acc, hrow, hacc⟩, hK, hbr⟩ := hrel;obtain ⟨A0, c0, rfl⟩ := hrow.val;have hbs := hbr.out.size;have hbase : w1.heap.size + 1 ≤ wr.heap.size := hK.out.lt;by_cases hlt : j < n
   ·obtain ⟨b, off, pj, hAe, hbl, hx, g0, g1, g2⟩ := PtsAt.get (k := j) (HPath.out.carry (Flat.carried _) hbr.out (ze w1.heap.size)) (by rw [← HN.out]; exact hlt);subst hAe;have hni := zjN Htu.out (Hnear.out _ (zv hx));have HIm := zf (fun (W : World) => zhL tx ty pj W Htu.out hni.1);have HPl := zf (fun (W : World) => zem (a1, a2, a3) (zeF tx ty pj) W Hna.out (zak hni.2 (by omega)));have HQ := zf (HPT.out j pj hx);obtain ⟨im, him⟩ : ∃ im, im = zeF tx ty pj := ⟨_, rfl⟩;rw [← him] at HIm HPl HQ;obtain ⟨pj1, pj2, pj3⟩ := pj;obtain ⟨im1, im2, im3⟩ := im;simp only [ptA, zbf] at HIm HPl HQ g0 g1 g2;have hal : acc.length ≤ 1000 := by rw [hacc.out, zG]; omega
    have Htk := zf (show PT.take (j + 1) = acc ++ [(a1 + im1, a2 + im2, a3 + im3)] by rw [zQ HQ.out, hacc.out]);have krn := KRn.out.below hbr.out lrn;have t1 := krn.cell 1;have t2 := krn.cell 2;have e0 := hK.out.cell 0;have e1 := hK.out.cell 1;have e2 := hK.out.cell 2;simp at t1 t2 e0 e1 e2;have hbl1 : b < w1.heap.size := hbl;have l1 := krn.lt;have l2 := hK.out.lt;have l3 : b < wr.heap.size := zt hbl hbs;have ColS := zf (fun (W : World) (h : Below (w1.heap.size + 1) wr W) => show W.cell? ⟨w1.heap.size, 0, none⟩ = some (.int .i64 a1) ∧ W.cell? ⟨w1.heap.size, 1, none⟩ = some (.int .i64 a2) ∧ W.cell? ⟨w1.heap.size, 2, none⟩ = some (.int .i64 a3) ∧ W.cell? ⟨w.heap.size + 1, 1, none⟩ = some (.int .i64 tx) ∧ W.cell? ⟨w.heap.size + 1, 2, none⟩ = some (.int .i64 ty) ∧ W.cell? ⟨b, off + j * 3, none⟩ = some (.int .i64 pj1) ∧ W.cell? ⟨b, off + j * 3 + 1, none⟩ = some (.int .i64 pj2) ∧ W.cell? ⟨b, off + j * 3 + 2, none⟩ = some (.int .i64 pj3) ∧ Below (w1.heap.size + 1) wr W from
     ⟨(h.cell (p := ⟨w1.heap.size, 0, none⟩) (zK _)).trans e0, (h.cell (p := ⟨w1.heap.size, 1, none⟩) (zK _)).trans e1, (h.cell (p := ⟨w1.heap.size, 2, none⟩) (zK _)).trans e2, (h.cell (p := ⟨w.heap.size + 1, 1, none⟩) (Nat.lt_succ_of_lt lrn)).trans t1, (h.cell (p := ⟨w.heap.size + 1, 2, none⟩) (Nat.lt_succ_of_lt lrn)).trans t2, (h.cell (p := ⟨b, off + j * 3, none⟩) (Nat.lt_succ_of_lt hbl1)).trans g0, (h.cell (p := ⟨b, off + j * 3 + 1, none⟩) (Nat.lt_succ_of_lt hbl1)).trans g1, (h.cell (p := ⟨b, off + j * 3 + 2, none⟩) (Nat.lt_succ_of_lt hbl1)).trans g2, h⟩)
    have Hrow := zf hrow;have hS0 := ColS.out _ (Below.drew (Below.refl (w1.heap.size + 1) wr));have hB0 := Below.drew (Below.refl wr.heap.size wr);clear hrow hx hbl him hni krn;go_wp2_with fail
    go_region_held3 (fun W => W.cell? ⟨w1.heap.size, 0, none⟩ = some (.int .i64 a1) ∧ W.cell? ⟨w1.heap.size, 1, none⟩ = some (.int .i64 a2) ∧ W.cell? ⟨w1.heap.size, 2, none⟩ = some (.int .i64 a3) ∧ W.cell? ⟨w.heap.size + 1, 1, none⟩ = some (.int .i64 tx) ∧ W.cell? ⟨w.heap.size + 1, 2, none⟩ = some (.int .i64 ty) ∧ W.cell? ⟨b, off + j * 3, none⟩ = some (.int .i64 pj1) ∧ W.cell? ⟨b, off + j * 3 + 1, none⟩ = some (.int .i64 pj2) ∧ W.cell? ⟨b, off + j * 3 + 2, none⟩ = some (.int .i64 pj3) ∧ Below (w1.heap.size + 1) wr W)
     (first
      | (with_reducible assumption)
      | (refine ColS.out _ (Below.alloc (Below.mono hB hbase) (zh hbase hB.size) _))
      | (refine ColS.out _ (Below.trans (Below.alloc (Below.mono hB hbase) (zh hbase hB.size) _) hb5))
      | go_keep)
     (first
      | (go_at_call 210; (with_reducible refine (HIm.out _).mono ?_); rintro e wz ⟨rfl, hbz⟩; have hB := zg (by assumption) hbz (ze wr.heap.size); have hS2 := ColS.out _ (Below.mono hB hbase))
      | (go_at_call 208; (with_reducible refine (HPl.out _).mono ?_); rintro e wz ⟨rfl, hbz⟩; have hB := zg (by assumption) hbz (ze wr.heap.size); have hS2 := ColS.out _ (Below.mono hB hbase))
      | (refine zf9 (by rfl) (.tmp 29) (.tmp 39) 204 (by rfl) (w1.heap.size + 1) 60 (.agg #[.int .i64 0, .int .i64 0, .int .i64 0]) 3 24 zbF Tryz.underlying204 (by kernel_rfl) rfl (by omega) zbc zdh _ acc (a1 + im1, a2 + im2, a3 + im3) (by rfl) ((Hrow.out.keep hB).alloc _) _ (by rfl) (Blk.new _ _ _) (by omega) (by omega) (zM (zh hbase hB.size) _) ?_; intro A1 c1 w5 hrow5 hb5 hkeep5))
    go_goals
    have hN5 := zf (((hK.out.keep hB).alloc (.cells #[.int .i64 (a1 + im1), .int .i64 (a2 + im2), .int .i64 (a3 + im3)] 60)).below hb5 (zK _));have h1 := hbr.out.trans (hB.mono hbs);have hB5 := zf ((h1.alloc h1.size (.cells #[.int .i64 (a1 + im1), .int .i64 (a2 + im2), .int .i64 (a3 + im3)] 60)).trans (hb5.mono (zao _)));have hrow6 := zf hrow5;clear hrow5 hkeep5 hb5 h1;go_wp2;go_roundw
    case rel => exact ⟨j + 1, by omega, by go_num, ⟨acc ++ [(a1 + im1, a2 + im2, a3 + im3)], by simpa using hrow6.out, zf Htk.out.symm⟩, hN5, hB5⟩
    case measure => simp [intOf]; omega
   ·obtain rfl : j = n := by omega
    have hf : acc = PT := by rw [hacc.out]; exact List.take_of_length_le (by rw [HPl0.out]; exact ze _)
    have hlen := zf (show j = acc.length by rw [hf, HPl0.out]);have Hr := zf (show PtsAt wr wr.heap.size A0 PT by rw [← hf]; exact Row.read hrow zbc (by omega));have Hcp := zf (show j ≤ c0 by rw [hlen.out]; exact zpL hrow);have Hb := zf (zg HW1.out hbr.out (ze _));clear hf hacc hrow;generalize acc.length = m at *;go_wp2;go_ret;exact ⟨A0, c0, by rw [hlen.out]; rfl, Hr.out, Hcp.out, Hb.out⟩
 case pos =>
  have d0 : decide (0 < k) = true := by simpa using hk0
  obtain ⟨⟨m1, m2, m3⟩, hm⟩ : ∃ m : Pt, m = zbe k (s1, s2, s3) := ⟨_, rfl⟩;rw [← hm] at Hplus Htim HPT0 Hna0;simp only [ptA, zbf] at Hplus Htim HPT0 Hna0;obtain ⟨a1, ha1⟩ : ∃ a, a = q1 + m1 := ⟨_, rfl⟩;obtain ⟨a2, ha2⟩ : ∃ a, a = q2 + m2 := ⟨_, rfl⟩;obtain ⟨a3, ha3⟩ : ∃ a, a = q3 + m3 := ⟨_, rfl⟩;rw [← ha1, ← ha2, ← ha3] at Hplus HPT0 Hna0;have HPT := zf (fun (j : Nat) (p : Pt) (h : (zai x)[j]? = some p) => show PT[j]? = some (zbf (a1, a2, a3) (zeF tx ty p)) from HPT0.out j p h);have Hna := Hna0;obtain ⟨wX, hwX⟩ : ∃ wX, wX = w1.alloc (.cells #[.int .i64 q1, .int .i64 q2, .int .i64 q3] 60) := ⟨_, rfl⟩;have KAt := zf (Blk.new w1 60 #[.int .i64 q1, .int .i64 q2, .int .i64 q3]);have KR2 := zf (KRn.out.alloc (.cells #[.int .i64 q1, .int .i64 q2, .int .i64 q3] 60));have HWX := zf (zk w1 (.cells #[.int .i64 q1, .int .i64 q2, .int .i64 q3] 60));rw [← hwX] at KAt KR2 HWX;have u3 := KRn.out.cell 3;have u4 := KRn.out.cell 4;have u5 := KRn.out.cell 5;have u6 := KRn.out.cell 6;have u7 := KRn.out.cell 7;have u8 := KRn.out.cell 8;have y6 := KR2.out.cell 6;have y7 := KR2.out.cell 7;have y8 := KR2.out.cell 8;have x0 := KAt.out.cell 0;have x1 := KAt.out.cell 1;have x2 := KAt.out.cell 2;have z0 := KAt.out.frozen 0;have z1 := KAt.out.frozen 1;have z2 := KAt.out.frozen 2;simp at u3 u4 u5 u6 u7 u8 x0 x1 x2 y6 y7 y8;have lA := KAt.out.lt;have lR := KR2.out.lt;have RS := zf (fun (W : World) (h : Below wX.heap.size wX W) => show W.cell? ⟨w1.heap.size, 0, none⟩ = some (.int .i64 q1) ∧ W.cell? ⟨w1.heap.size, 1, none⟩ = some (.int .i64 q2) ∧ W.cell? ⟨w1.heap.size, 2, none⟩ = some (.int .i64 q3) ∧ W.frozen? ⟨w1.heap.size, 0, none⟩ = false ∧ W.frozen? ⟨w1.heap.size, 1, none⟩ = false ∧ W.frozen? ⟨w1.heap.size, 2, none⟩ = false from
   ⟨(h.cell (p := ⟨w1.heap.size, 0, none⟩) lA).trans x0, (h.cell (p := ⟨w1.heap.size, 1, none⟩) lA).trans x1, (h.cell (p := ⟨w1.heap.size, 2, none⟩) lA).trans x2, (h.frozen (p := ⟨w1.heap.size, 0, none⟩) lA).trans z0, (h.frozen (p := ⟨w1.heap.size, 1, none⟩) lA).trans z1, (h.frozen (p := ⟨w1.heap.size, 2, none⟩) lA).trans z2⟩)
  clear hk0 hk HPT0 Hna0 hm ha1 ha2 ha3;go_wp2_with fail;rw [← hwX];go_cut [8] from 17 (fun s8 wx => s8 = .pointer (some ⟨w1.heap.size, 0, none⟩) ∧ Hid (Blk wx w1.heap.size 60 #[.int .i64 a1, .int .i64 a2, .int .i64 a3]) ∧ Hid (Below w1.heap.size w1 wx))
  case first =>
   have HK := zf (fun (W : World) (h : Below w1.heap.size w1 W) => show W.cell? ⟨w.heap.size + 1, 6, none⟩ = some (.int .i64 s1) ∧ W.cell? ⟨w.heap.size + 1, 7, none⟩ = some (.int .i64 s2) ∧ W.cell? ⟨w.heap.size + 1, 8, none⟩ = some (.int .i64 s3) from
    ⟨(h.cell (p := ⟨w.heap.size + 1, 6, none⟩) lrn).trans u6, (h.cell (p := ⟨w.heap.size + 1, 7, none⟩) lrn).trans u7, (h.cell (p := ⟨w.heap.size + 1, 8, none⟩) lrn).trans u8⟩)
   have hB := Below.drew (Below.refl wX.heap.size wX);have hS := HK.out _ (Below.drew HWX.out);have hXs := HWX.out.size;clear y6 y7 y8 u3 u4 u5 u6 u7 u8 hwX;refine wp_region_held_drew (S := fun W => W.cell? ⟨w.heap.size + 1, 6, none⟩ = some (.int .i64 s1) ∧ W.cell? ⟨w.heap.size + 1, 7, none⟩ = some (.int .i64 s2) ∧ W.cell? ⟨w.heap.size + 1, 8, none⟩ = some (.int .i64 s3)) (by kernel_rfl) hS (fun hHeld => ?_);refine wpAnyH_take (i := 1) (v := ?_) rfl (by kernel_rfl) (by kernel_rfl) (by kernel_rfl) (fun _ _ _ h => h) (Or.inl ⟨by rfl, ?_⟩) (by assumption) ?_;rotate_left
   ·intro w hSw
    (try dsimp only at hSw)
    go_simp
    first | done | with_reducible rfl
   (try simp only [zzA, zzB, zzC, Act.put, zzD, zzE, zzF])
   refine wpAnyH_take (i := 2) (v := ?_) rfl (by kernel_rfl) (by kernel_rfl) (by kernel_rfl) (fun _ _ _ h => h) (Or.inl ⟨by rfl, ?_⟩) (by assumption) ?_;rotate_left
   ·intro w hSw
    (try dsimp only at hSw)
    go_simp
    first | done | with_reducible rfl
   (try simp only [zzA, zzB, zzC, Act.put, zzD, zzE, zzF])
   refine wpAnyH_take (i := 3) (v := ?_) rfl (by kernel_rfl) (by kernel_rfl) (by kernel_rfl) (fun _ _ _ h => h) (Or.inl ⟨by rfl, ?_⟩) (by assumption) ?_;rotate_left
   ·intro w hSw
    (try dsimp only at hSw)
    go_simp
    first | done | with_reducible rfl
   (try simp only [zzA, zzB, zzC, Act.put, zzD, zzE, zzF])
   refine wpAnyH_ready (rs := [0, 4]) (by kernel_rfl) (by simp) (AllReadyH.cons rfl (fun K hK => ?_) (AllReadyH.cons rfl (fun K hK => ?_) AllReadyH.nil))
   ·skip
    go_simp;refine hK.out _ _ hS (fun hHeld => ?_);clear hK K
    (try simp only [zzA, zzB, zzC, Act.put, zzD, zzE, zzF])
    refine wpAnyH_ready (rs := [4]) (by kernel_rfl) (by simp) (AllReadyH.cons rfl (fun K hK => ?_) AllReadyH.nil)
    ·skip
     go_simp;refine (Htim.out _).mono ?_;rintro e wz ⟨rfl, hbz⟩;have hB := zg hB hbz (ze wX.heap.size);obtain ⟨d0, d1, d2, e0, e1, e2⟩ := RS.out _ hB;have hS := HK.out _ (HWX.out.trans (hB.mono hXs));go_wp2_with fail;refine hK.out _ _ hS (fun hHeld => ?_);clear hK K
     (try simp only [zzA, zzB, zzC, Act.put, zzD, zzE, zzF])
     refine wpAnyH_ready (rs := [5]) (by kernel_rfl) (by simp) (AllReadyH.cons rfl (fun K hK => ?_) AllReadyH.nil)
     ·skip
      go_simp;refine (Hplus.out _).mono ?_;rintro e wz ⟨rfl, hbz⟩;have hB := zg hB hbz (ze wX.heap.size);obtain ⟨d0, d1, d2, e0, e1, e2⟩ := RS.out _ hB;have hS := HK.out _ (HWX.out.trans (hB.mono hXs));go_wp2_with fail;refine hK.out _ _ hS (fun hHeld => ?_);clear hK K
      (try simp only [zzA, zzB, zzC, Act.put, zzD, zzE, zzF])
      refine wpAnyH_ready (rs := [6]) (by kernel_rfl) (by simp) (AllReadyH.cons rfl (fun K hK => ?_) AllReadyH.nil)
      ·skip
       go_simp;refine hK.out _ _ (HK.out _ (zjo (g := w1.heap.size) (HWX.out.trans (hB.mono hXs)) (ze _) _ _ _)) (fun hHeld => ?_);clear hK K
       (try simp only [zzA, zzB, zzC, Act.put, zzD, zzE, zzF])
       refine wpAnyH_done (by kernel_rfl) ?_ _;go_wp2_with fail;go_meet;exact ⟨rfl, zf (ztK (KAt.out.below hB lA) _ _ _), zf (zjo (g := w1.heap.size) (HWX.out.trans (hB.mono hXs)) (ze _) _ _ _)⟩
   ·skip
    go_simp;refine (Htim.out _).mono ?_;rintro e wz ⟨rfl, hbz⟩;have hB := zg hB hbz (ze wX.heap.size);obtain ⟨d0, d1, d2, e0, e1, e2⟩ := RS.out _ hB;have hS := HK.out _ (HWX.out.trans (hB.mono hXs));go_wp2_with fail;refine hK.out _ _ hS (fun hHeld => ?_);clear hK K
    (try simp only [zzA, zzB, zzC, Act.put, zzD, zzE, zzF])
    refine wpAnyH_ready (rs := [0]) (by kernel_rfl) (by simp) (AllReadyH.cons rfl (fun K hK => ?_) AllReadyH.nil)
    ·skip
     go_simp;refine hK.out _ _ hS (fun hHeld => ?_);clear hK K
     (try simp only [zzA, zzB, zzC, Act.put, zzD, zzE, zzF])
     refine wpAnyH_ready (rs := [5]) (by kernel_rfl) (by simp) (AllReadyH.cons rfl (fun K hK => ?_) AllReadyH.nil)
     ·skip
      go_simp;refine (Hplus.out _).mono ?_;rintro e wz ⟨rfl, hbz⟩;have hB := zg hB hbz (ze wX.heap.size);obtain ⟨d0, d1, d2, e0, e1, e2⟩ := RS.out _ hB;have hS := HK.out _ (HWX.out.trans (hB.mono hXs));go_wp2_with fail;refine hK.out _ _ hS (fun hHeld => ?_);clear hK K
      (try simp only [zzA, zzB, zzC, Act.put, zzD, zzE, zzF])
      refine wpAnyH_ready (rs := [6]) (by kernel_rfl) (by simp) (AllReadyH.cons rfl (fun K hK => ?_) AllReadyH.nil)
      ·skip
       go_simp;refine hK.out _ _ (HK.out _ (zjo (g := w1.heap.size) (HWX.out.trans (hB.mono hXs)) (ze _) _ _ _)) (fun hHeld => ?_);clear hK K
       (try simp only [zzA, zzB, zzC, Act.put, zzD, zzE, zzF])
       refine wpAnyH_done (by kernel_rfl) ?_ _;go_wp2_with fail;go_meet;exact ⟨rfl, zf (ztK (KAt.out.below hB lA) _ _ _), zf (zjo (g := w1.heap.size) (HWX.out.trans (hB.mono hXs)) (ze _) _ _ _)⟩
  case rest =>
   obtain ⟨rfl, KAt', HWX'⟩ := hcut;have KAt := KAt';have HWX := HWX';clear u3 u4 u5 u6 u7 u8 y6 y7 y8 x0 x1 x2 z0 z1 z2 lA lR RS Hplus Htim KR2 hwX;go_wp2;go_loopw [9, 10] (fun v iv wr => ∃ j : Nat, j ≤ n ∧ iv = .int .i64 j ∧ (∃ acc : List Pt, Row wr (w1.heap.size + 1) 60 3 zbF v acc ∧ Hid (acc = PT.take j)) ∧ Hid (Blk wr w1.heap.size 60 #[.int .i64 a1, .int .i64 a2, .int .i64 a3]) ∧ Hid (Below w1.heap.size w1 wr)) (fun _ iv _ => n - (intOf iv).toNat)
   case atStart => exact ⟨0, zu _, rfl, ⟨[], Row.nil _ _ _ _ _, zf rfl⟩, KAt, HWX⟩
   case round =>
    obtain ⟨j, hj, rfl, ⟨acc, hrow, hacc⟩, hK, hbr⟩ := hrel;obtain ⟨A0, c0, rfl⟩ := hrow.val;have hbs := hbr.out.size;have hbase : w1.heap.size + 1 ≤ wr.heap.size := hK.out.lt;by_cases hlt : j < n
    ·obtain ⟨b, off, pj, hAe, hbl, hx, g0, g1, g2⟩ := PtsAt.get (k := j) (HPath.out.carry (Flat.carried _) hbr.out (ze w1.heap.size)) (by rw [← HN.out]; exact hlt);subst hAe;have hni := zjN Htu.out (Hnear.out _ (zv hx));have HIm := zf (fun (W : World) => zhL tx ty pj W Htu.out hni.1);have HPl := zf (fun (W : World) => zem (a1, a2, a3) (zeF tx ty pj) W Hna.out (zak hni.2 (by omega)));have HQ := zf (HPT.out j pj hx);obtain ⟨im, him⟩ : ∃ im, im = zeF tx ty pj := ⟨_, rfl⟩;rw [← him] at HIm HPl HQ;obtain ⟨pj1, pj2, pj3⟩ := pj;obtain ⟨im1, im2, im3⟩ := im;simp only [ptA, zbf] at HIm HPl HQ g0 g1 g2;have hal : acc.length ≤ 1000 := by rw [hacc.out, zG]; omega
     have Htk := zf (show PT.take (j + 1) = acc ++ [(a1 + im1, a2 + im2, a3 + im3)] by rw [zQ HQ.out, hacc.out]);have krn := KRn.out.below hbr.out lrn;have t1 := krn.cell 1;have t2 := krn.cell 2;have e0 := hK.out.cell 0;have e1 := hK.out.cell 1;have e2 := hK.out.cell 2;simp at t1 t2 e0 e1 e2;have hbl1 : b < w1.heap.size := hbl;have l1 := krn.lt;have l2 := hK.out.lt;have l3 : b < wr.heap.size := zt hbl hbs;have ColS := zf (fun (W : World) (h : Below (w1.heap.size + 1) wr W) => show W.cell? ⟨w1.heap.size, 0, none⟩ = some (.int .i64 a1) ∧ W.cell? ⟨w1.heap.size, 1, none⟩ = some (.int .i64 a2) ∧ W.cell? ⟨w1.heap.size, 2, none⟩ = some (.int .i64 a3) ∧ W.cell? ⟨w.heap.size + 1, 1, none⟩ = some (.int .i64 tx) ∧ W.cell? ⟨w.heap.size + 1, 2, none⟩ = some (.int .i64 ty) ∧ W.cell? ⟨b, off + j * 3, none⟩ = some (.int .i64 pj1) ∧ W.cell? ⟨b, off + j * 3 + 1, none⟩ = some (.int .i64 pj2) ∧ W.cell? ⟨b, off + j * 3 + 2, none⟩ = some (.int .i64 pj3) ∧ Below (w1.heap.size + 1) wr W from
      ⟨(h.cell (p := ⟨w1.heap.size, 0, none⟩) (zK _)).trans e0, (h.cell (p := ⟨w1.heap.size, 1, none⟩) (zK _)).trans e1, (h.cell (p := ⟨w1.heap.size, 2, none⟩) (zK _)).trans e2, (h.cell (p := ⟨w.heap.size + 1, 1, none⟩) (Nat.lt_succ_of_lt lrn)).trans t1, (h.cell (p := ⟨w.heap.size + 1, 2, none⟩) (Nat.lt_succ_of_lt lrn)).trans t2, (h.cell (p := ⟨b, off + j * 3, none⟩) (Nat.lt_succ_of_lt hbl1)).trans g0, (h.cell (p := ⟨b, off + j * 3 + 1, none⟩) (Nat.lt_succ_of_lt hbl1)).trans g1, (h.cell (p := ⟨b, off + j * 3 + 2, none⟩) (Nat.lt_succ_of_lt hbl1)).trans g2, h⟩)
     have Hrow := zf hrow;have hS0 := ColS.out _ (Below.drew (Below.refl (w1.heap.size + 1) wr));have hB0 := Below.drew (Below.refl wr.heap.size wr);clear hrow hx hbl him hni krn;go_wp2_with fail
     go_region_held3 (fun W => W.cell? ⟨w1.heap.size, 0, none⟩ = some (.int .i64 a1) ∧ W.cell? ⟨w1.heap.size, 1, none⟩ = some (.int .i64 a2) ∧ W.cell? ⟨w1.heap.size, 2, none⟩ = some (.int .i64 a3) ∧ W.cell? ⟨w.heap.size + 1, 1, none⟩ = some (.int .i64 tx) ∧ W.cell? ⟨w.heap.size + 1, 2, none⟩ = some (.int .i64 ty) ∧ W.cell? ⟨b, off + j * 3, none⟩ = some (.int .i64 pj1) ∧ W.cell? ⟨b, off + j * 3 + 1, none⟩ = some (.int .i64 pj2) ∧ W.cell? ⟨b, off + j * 3 + 2, none⟩ = some (.int .i64 pj3) ∧ Below (w1.heap.size + 1) wr W)
      (first
       | (with_reducible assumption)
       | (refine ColS.out _ (Below.alloc (Below.mono hB hbase) (zh hbase hB.size) _))
       | (refine ColS.out _ (Below.trans (Below.alloc (Below.mono hB hbase) (zh hbase hB.size) _) hb5))
       | go_keep)
      (first
       | (go_at_call 210; (with_reducible refine (HIm.out _).mono ?_); rintro e wz ⟨rfl, hbz⟩; have hB := zg (by assumption) hbz (ze wr.heap.size); have hS2 := ColS.out _ (Below.mono hB hbase))
       | (go_at_call 208; (with_reducible refine (HPl.out _).mono ?_); rintro e wz ⟨rfl, hbz⟩; have hB := zg (by assumption) hbz (ze wr.heap.size); have hS2 := ColS.out _ (Below.mono hB hbase))
       | (refine zf9 (by rfl) (.tmp 29) (.tmp 39) 204 (by rfl) (w1.heap.size + 1) 60 (.agg #[.int .i64 0, .int .i64 0, .int .i64 0]) 3 24 zbF Tryz.underlying204 (by kernel_rfl) rfl (by omega) zbc zdh _ acc (a1 + im1, a2 + im2, a3 + im3) (by rfl) ((Hrow.out.keep hB).alloc _) _ (by rfl) (Blk.new _ _ _) (by omega) (by omega) (zM (zh hbase hB.size) _) ?_; intro A1 c1 w5 hrow5 hb5 hkeep5))
     go_goals
     have hN5 := zf (((hK.out.keep hB).alloc (.cells #[.int .i64 (a1 + im1), .int .i64 (a2 + im2), .int .i64 (a3 + im3)] 60)).below hb5 (zK _));have h1 := hbr.out.trans (hB.mono hbs);have hB5 := zf ((h1.alloc h1.size (.cells #[.int .i64 (a1 + im1), .int .i64 (a2 + im2), .int .i64 (a3 + im3)] 60)).trans (hb5.mono (zao _)));have hrow6 := zf hrow5;clear hrow5 hkeep5 hb5 h1;go_wp2;go_roundw
     case rel => exact ⟨j + 1, by omega, by go_num, ⟨acc ++ [(a1 + im1, a2 + im2, a3 + im3)], by simpa using hrow6.out, zf Htk.out.symm⟩, hN5, hB5⟩
     case measure => simp [intOf]; omega
    ·obtain rfl : j = n := by omega
     have hf : acc = PT := by rw [hacc.out]; exact List.take_of_length_le (by rw [HPl0.out]; exact ze _)
     have hlen := zf (show j = acc.length by rw [hf, HPl0.out]);have Hr := zf (show PtsAt wr wr.heap.size A0 PT by rw [← hf]; exact Row.read hrow zbc (by omega));have Hcp := zf (show j ≤ c0 by rw [hlen.out]; exact zpL hrow);have Hb := zf (zg HW1.out hbr.out (ze _));clear hf hacc hrow;generalize acc.length = m at *;go_wp2;go_ret;exact ⟨A0, c0, by rw [hlen.out]; rfl, Hr.out, Hcp.out, Hb.out⟩
theorem zqk {bars : List BarD} {r : RunD} {j : Nat} {x : BarD} (hj : idx (zaJ r.mark) bars = (j : Int)) (hx : bars[j]? = some x) (h2 : zav r.tx r.ty = true) (h3 : 1 ≤ r.count) (h4 : r.count ≤ 1000) (h5 : zJ 1048576 r.place = true) :
  zaC bars r = (zh9 r && ((zbJ x r 0).all (zJ 1048576) && (zbJ x r (r.count - 1)).all (zJ 1048576))) := by
 rw [zaC, zds, zg7, zg7, zid hj hx, hj, h2, h5, zI h3, zI h4, zI (show (0 : Int) ≤ (j : Int) by omega)];simp only [Bool.true_and, Bool.and_true];rw [Bool.and_assoc]
 rfl
theorem zr1 {s : Pt} {k : Int} (h : zJ 2097152 s = true) (h0 : 0 ≤ k) (h1 : k ≤ 999) : zJ 4294967296 (zbe k s) = true := by
 obtain ⟨a, b, c⟩ := zab.1 h;have key : ∀ v : Int, -2097152 ≤ v ∧ v ≤ 2097152 → -4294967296 ≤ k * v ∧ k * v ≤ 4294967296 := by
  intro v hv;obtain ⟨f, g⟩ := zfm (s := v) h0 h1;rcases Int.le_total 0 v with hs | hs
  ·have := f hs; omega
  ·have := g hs; omega
 rw [zab, zbe];exact ⟨key _ a, key _ b, key _ c⟩
theorem zmN (s : Pt) : zJ 4294967296 (zbe 0 s) = true := by simp [zbe, zab]
theorem zoC (A : Option Addr) (bars : List BarD) (n c : Nat) (r : RunD) (w : World) {B : Nat} (h : BarsAt w B A bars) (hB : B ≤ w.heap.size) (hn : n = bars.length) (hm : n ≤ 60000) (hall : ∀ x ∈ bars, zcr x = true) :
    Calls Tryz.prog 88 #[.slice A n c, zsZ r] w fun e w' => e = .returned (.bool (zaC bars r)) ∧ Below w.heap.size w w' := by
  have HF := fun (W : World) (hz : Below w.heap.size w W) => zgF A bars n c r.mark W (h.carry (hz.mono hB) (ze _)) hn hm;by_cases hno : idx (zaJ r.mark) bars < 0
  · have hres := zf (show zaC bars r = false by rw [zaC, zds, zE (by omega)]; rfl)
    have d0 : decide (idx (zaJ r.mark) bars < 0) = true := by simpa using hno
    generalize zaC bars r = res at *;obtain ⟨mark, tx, ty, ⟨a1, a2, a3⟩, ⟨s1, s2, s3⟩, cnt⟩ := r;simp only at HF d0;generalize idx (zaJ mark) bars = ix at *;have HF := zf HF;have HW := zf (zk w (.cells #[.string mark, .int .i64 tx, .int .i64 ty, .int .i64 a1, .int .i64 a2, .int .i64 a3, .int .i64 s1, .int .i64 s2, .int .i64 s3, .int .i64 cnt] 66));clear h hB hn hm hall hno
    show Calls Tryz.prog 88 #[.slice A n c, .agg #[.string mark, .int .i64 tx, .int .i64 ty, .int .i64 a1, .int .i64 a2, .int .i64 a3, .int .i64 s1, .int .i64 s2, .int .i64 s3, .int .i64 cnt]] w _
    go_enter Tryz.func88, Tryz.ntmps88;go_wp2_with fail;refine (HF.out _ HW.out).mono ?_;rintro e w2 ⟨rfl, rfl⟩;clear HF;go_wp2;go_ret;exact ⟨zo hres.out.symm, HW.out⟩
  obtain ⟨j, hj⟩ := Int.eq_ofNat_of_zero_le (show 0 ≤ idx (zaJ r.mark) bars by omega);have hrange := zeW (zaJ r.mark) bars;obtain ⟨x, hx⟩ : ∃ x, bars[j]? = some x := ⟨_, zi (by omega)⟩;have hok := hall x (zv hx);have HV := zf (fun (W : World) => znh r.tx r.ty W);have HI := zf (fun (W : World) => ziH r.place W);have HI2 := zf (fun (W : World) => zlZ r.step W);rw [hj] at HF;have HF := zf HF;by_cases hhead : zav r.tx r.ty = true ∧ 1 ≤ r.count ∧ r.count ≤ 1000 ∧ zJ 1048576 r.place = true
  rotate_left
  · have hres := zf (show zaC bars r = false by
      rw [zaC, zds];cases q2 : zav r.tx r.ty
      · simp
      by_cases q3 : 1 ≤ r.count
      · by_cases q4 : r.count ≤ 1000
        · cases q5 : zJ 1048576 r.place
          · simp
          · exact absurd ⟨q2, q3, q4, q5⟩ hhead
        · simp [q4]
      · simp [q3])
    have hways : zav r.tx r.ty = false ∨ (zav r.tx r.ty = true ∧ decide (r.count < 1) = true) ∨ (zav r.tx r.ty = true ∧ decide (r.count < 1) = false ∧ decide (1000 < r.count) = true) ∨ (zav r.tx r.ty = true ∧ decide (r.count < 1) = false ∧ decide (1000 < r.count) = false ∧ zJ 1048576 r.place = false) := by
      cases q2 : zav r.tx r.ty
      · exact .inl rfl
      right
      by_cases q3 : r.count < 1
      · exact .inl ⟨rfl, by simpa using q3⟩
      right
      by_cases q4 : 1000 < r.count
      · exact .inl ⟨rfl, by simpa using q3, by simpa using q4⟩
      right
      refine ⟨rfl, by simpa using q3, by simpa using q4, ?_⟩;cases q5 : zJ 1048576 r.place
      · rfl
      · exact absurd ⟨q2, by omega, by omega, q5⟩ hhead
    generalize zaC bars r = res at *;obtain ⟨mark, tx, ty, ⟨a1, a2, a3⟩, ⟨s1, s2, s3⟩, cnt⟩ := r;simp only at HF HV HI HI2 hways;have B0 := zf (Blk.new w 66 #[.string mark, .int .i64 tx, .int .i64 ty, .int .i64 a1, .int .i64 a2, .int .i64 a3, .int .i64 s1, .int .i64 s2, .int .i64 s3, .int .i64 cnt]);have HW := zf (zk w (.cells #[.string mark, .int .i64 tx, .int .i64 ty, .int .i64 a1, .int .i64 a2, .int .i64 a3, .int .i64 s1, .int .i64 s2, .int .i64 s3, .int .i64 cnt] 66));clear h hB hn hm hall hno hj hrange hx hok hhead HI2;rcases hways with q0 | ⟨q0, q1⟩ | ⟨q0, q1, q2⟩ | ⟨q0, q1, q2, q3⟩
    · rw [q0] at HV
      clear q0 HI
      show Calls Tryz.prog 88 #[.slice A n c, .agg #[.string mark, .int .i64 tx, .int .i64 ty, .int .i64 a1, .int .i64 a2, .int .i64 a3, .int .i64 s1, .int .i64 s2, .int .i64 s3, .int .i64 cnt]] w _
      go_enter Tryz.func88, Tryz.ntmps88;go_wp2_with fail;refine (HF.out _ HW.out).mono ?_;rintro e w2 ⟨rfl, rfl⟩;have k0 := B0.out;have K0 := zf k0;have e1 := k0.cell 1;have e2 := k0.cell 2;have i0 : decide ((j : Int) < 0) = false := by simp
      simp at e1 e2;clear HF k0;go_wp2_with fail;refine (HV.out _).mono ?_;rintro e w3 ⟨rfl, hb3⟩;have HW3 := zf (zg HW.out hb3 (ze _));have k0 := K0.out.keep hb3;have K0 := zf k0;have e3 := k0.cell 3;have e4 := k0.cell 4;have e5 := k0.cell 5;have e9 := k0.cell 9;simp at e3 e4 e5 e9;clear hb3 HV k0 e1 e2;go_wp2;go_ret;exact ⟨zo hres.out.symm, HW3.out⟩
    · rw [q0] at HV
      clear q0 HI
      show Calls Tryz.prog 88 #[.slice A n c, .agg #[.string mark, .int .i64 tx, .int .i64 ty, .int .i64 a1, .int .i64 a2, .int .i64 a3, .int .i64 s1, .int .i64 s2, .int .i64 s3, .int .i64 cnt]] w _
      go_enter Tryz.func88, Tryz.ntmps88;go_wp2_with fail;refine (HF.out _ HW.out).mono ?_;rintro e w2 ⟨rfl, rfl⟩;have k0 := B0.out;have K0 := zf k0;have e1 := k0.cell 1;have e2 := k0.cell 2;have i0 : decide ((j : Int) < 0) = false := by simp
      simp at e1 e2;clear HF k0;go_wp2_with fail;refine (HV.out _).mono ?_;rintro e w3 ⟨rfl, hb3⟩;have HW3 := zf (zg HW.out hb3 (ze _));have k0 := K0.out.keep hb3;have K0 := zf k0;have e3 := k0.cell 3;have e4 := k0.cell 4;have e5 := k0.cell 5;have e9 := k0.cell 9;simp at e3 e4 e5 e9;clear hb3 HV k0 e1 e2;go_wp2;go_ret;exact ⟨zo hres.out.symm, HW3.out⟩
    · rw [q0] at HV
      clear q0 HI
      show Calls Tryz.prog 88 #[.slice A n c, .agg #[.string mark, .int .i64 tx, .int .i64 ty, .int .i64 a1, .int .i64 a2, .int .i64 a3, .int .i64 s1, .int .i64 s2, .int .i64 s3, .int .i64 cnt]] w _
      go_enter Tryz.func88, Tryz.ntmps88;go_wp2_with fail;refine (HF.out _ HW.out).mono ?_;rintro e w2 ⟨rfl, rfl⟩;have k0 := B0.out;have K0 := zf k0;have e1 := k0.cell 1;have e2 := k0.cell 2;have i0 : decide ((j : Int) < 0) = false := by simp
      simp at e1 e2;clear HF k0;go_wp2_with fail;refine (HV.out _).mono ?_;rintro e w3 ⟨rfl, hb3⟩;have HW3 := zf (zg HW.out hb3 (ze _));have k0 := K0.out.keep hb3;have K0 := zf k0;have e3 := k0.cell 3;have e4 := k0.cell 4;have e5 := k0.cell 5;have e9 := k0.cell 9;simp at e3 e4 e5 e9;clear hb3 HV k0 e1 e2;go_wp2;go_ret;exact ⟨zo hres.out.symm, HW3.out⟩
    · rw [q0] at HV
      simp only [ptA] at HI;rw [q3] at HI;clear q0 q3
      show Calls Tryz.prog 88 #[.slice A n c, .agg #[.string mark, .int .i64 tx, .int .i64 ty, .int .i64 a1, .int .i64 a2, .int .i64 a3, .int .i64 s1, .int .i64 s2, .int .i64 s3, .int .i64 cnt]] w _
      go_enter Tryz.func88, Tryz.ntmps88;go_wp2_with fail;refine (HF.out _ HW.out).mono ?_;rintro e w2 ⟨rfl, rfl⟩;have k0 := B0.out;have K0 := zf k0;have e1 := k0.cell 1;have e2 := k0.cell 2;have i0 : decide ((j : Int) < 0) = false := by simp
      simp at e1 e2;clear HF k0;go_wp2_with fail;refine (HV.out _).mono ?_;rintro e w3 ⟨rfl, hb3⟩;have HW3 := zf (zg HW.out hb3 (ze _));have k0 := K0.out.keep hb3;have K0 := zf k0;have e3 := k0.cell 3;have e4 := k0.cell 4;have e5 := k0.cell 5;have e9 := k0.cell 9;simp at e3 e4 e5 e9;clear hb3 HV k0 e1 e2;go_wp2_with fail;refine (HI.out _).mono ?_;rintro e w4 ⟨rfl, hb4⟩;have HW4 := zf (zg HW3.out hb4 (ze _));clear hb4 HI;go_wp2;go_ret;exact ⟨zo hres.out.symm, HW4.out⟩
  obtain ⟨h2, h3, h4, h5⟩ := hhead;have hro := zqk hj hx h2 h3 h4 h5;have hways : decide (r.count < 1) = false ∧ decide (1000 < r.count) = false := by simp; omega
  rw [h2] at HV;have Hro := zf hro;have HPt := zf (fun (k : Int) (hk : 0 ≤ k) (hfar : zJ 4294967296 (zbe k r.step) = true) (A' : Option Addr) (c' : Nat) (W : World) (hi : Ints W B A' x.dims) (hz : Below w.heap.size w W) => zhI x A' c' r k W hi (zh hB hz.size) hok h2 h5 hk hfar);have Hpn := zf (fun (k : Int) => show (zbJ x r k).length ≤ 60000 by rw [zkX, zb4]; have := zc9 x.code; omega);have Hst := zf (show zh9 r = (decide (r.count ≤ 1) || (!zft r.step && zJ 2097152 r.step)) from rfl);have HB0 := zf (fun (W : World) (hz : Below w.heap.size w W) => BarsAt.get (k := j) (h.carry (hz.mono hB) (ze B)) (by omega));have Hx := zf hx;simp only [ptA] at HI;rw [h5] at HI;generalize zaC bars r = res at *;generalize zh9 r = so at *;generalize zbJ x r = pts at *;obtain ⟨mark, tx, ty, ⟨a1, a2, a3⟩, ⟨s1, s2, s3⟩, cnt⟩ := r;simp only at HF HV HI HI2 hways;have B0 := zf (Blk.new w 66 #[.string mark, .int .i64 tx, .int .i64 ty, .int .i64 a1, .int .i64 a2, .int .i64 a3, .int .i64 s1, .int .i64 s2, .int .i64 s3, .int .i64 cnt]);have HW := zf (zk w (.cells #[.string mark, .int .i64 tx, .int .i64 ty, .int .i64 a1, .int .i64 a2, .int .i64 a3, .int .i64 s1, .int .i64 s2, .int .i64 s3, .int .i64 cnt] 66));obtain ⟨q1, q2⟩ := hways;simp only at HPt Hro Hst h3 h4;have hjn : j < n := by rw [hn]; omega
  have hB0 := hB;clear h hB hn hall hno hj hrange hx hok h2 h5 hro
  show Calls Tryz.prog 88 #[.slice A n c, .agg #[.string mark, .int .i64 tx, .int .i64 ty, .int .i64 a1, .int .i64 a2, .int .i64 a3, .int .i64 s1, .int .i64 s2, .int .i64 s3, .int .i64 cnt]] w _
  go_enter Tryz.func88, Tryz.ntmps88;go_wp2_with fail;refine (HF.out _ HW.out).mono ?_;rintro e w2 ⟨rfl, rfl⟩;have k0 := B0.out;have K0 := zf k0;have e1 := k0.cell 1;have e2 := k0.cell 2;have i0 : decide ((j : Int) < 0) = false := by simp
  simp at e1 e2;clear HF k0;go_wp2_with fail;refine (HV.out _).mono ?_;rintro e w3 ⟨rfl, hb3⟩;have HW3 := zf (zg HW.out hb3 (ze _));have k0 := K0.out.keep hb3;have K0 := zf k0;have e3 := k0.cell 3;have e4 := k0.cell 4;have e5 := k0.cell 5;have e9 := k0.cell 9;simp at e3 e4 e5 e9;clear hb3 HV k0 e1 e2;go_wp2_with fail;refine (HI.out _).mono ?_;rintro e w4 ⟨rfl, hb4⟩;have HW4 := zf (zg HW3.out hb4 (ze _));have k0 := K0.out.keep hb4;have K0 := zf k0;clear hb4 HI k0 e3 e4 e5 e9;have e6 := K0.out.cell 6;have e7 := K0.out.cell 7;have e8 := K0.out.cell 8;have e9 := K0.out.cell 9;simp at e6 e7 e8 e9;generalize hnb : zJ 2097152 (s1, s2, s3) = nb at HI2 Hst;have Hnb := zf hnb;have K4 := K0;clear hnb;go_upto_region 4 with fail
  go_cut [48] from 34 (fun t48 wx => t48 = .bool (!so) ∧ Hid (Below w4.heap.size w4 wx))
  case first =>
    clear HPt HB0 Hx Hpn Hro;by_cases hc : cnt ≤ 1
    · have d1 : decide (1 < cnt) = false := by simp; omega
      have Hso := zf (show so = true by rw [Hst.out, zI hc]; rfl);clear hc h3 h4;go_wp2_with fail;go_meet;exact ⟨by rw [Hso.out]; rfl, zf (Below.refl _ _)⟩
    have d1 : decide (1 < cnt) = true := by simp; omega
    have d2 : decide (cnt ≤ 1) = false := by simp; omega
    rw [d2] at Hst;clear hc h3 h4 d2;by_cases hz1 : s1 = 0
    · subst hz1
      by_cases hz2 : s2 = 0
      · subst hz2
        by_cases hz3 : s3 = 0
        · subst hz3
          have Hso := zf (show so = false by rw [Hst.out]; rfl);clear Hst;go_wp2_with fail;go_meet;exact ⟨by rw [Hso.out]; rfl, zf (Below.refl _ _)⟩
        · have Hso := zf (show so = nb by rw [Hst.out, zft, zE hz3]; simp)
          clear Hst;go_wp2_with fail;refine (HI2.out _).mono ?_;rintro e w5 ⟨rfl, hb5⟩;go_wp2_with fail;go_meet;exact ⟨by rw [Hso.out], zf hb5⟩
      · have Hso := zf (show so = nb by rw [Hst.out, zft, zE hz2]; simp)
        clear Hst;go_wp2_with fail;refine (HI2.out _).mono ?_;rintro e w5 ⟨rfl, hb5⟩;go_wp2_with fail;go_meet;exact ⟨by rw [Hso.out], zf hb5⟩
    · have Hso := zf (show so = nb by rw [Hst.out, zft, zE hz1]; simp)
      clear Hst;go_wp2_with fail;refine (HI2.out _).mono ?_;rintro e w5 ⟨rfl, hb5⟩;go_wp2_with fail;go_meet;exact ⟨by rw [Hso.out], zf hb5⟩
  case rest =>
    obtain ⟨rfl, hbx⟩ := hcut;rename World => wx;have HW5 := zf (zg HW4.out hbx.out (ze _));have K5 := zf (K4.out.keep hbx.out);clear hbx HW HW3 HW4 B0 K0 K4 HF HI2 e6 e7 e8 e9;cases so
    · have Hres := zf (show res = false by rw [Hro.out]; rfl)
      clear HPt HB0 Hx Hpn Hro Hst;go_wp2;go_ret;exact ⟨zo Hres.out.symm, HW5.out⟩
    have Hres := zf (show res = ((pts 0).all (zJ 1048576) && (pts (cnt - 1)).all (zJ 1048576)) by rw [Hro.out]; rfl);have hfar : zJ 4294967296 (zbe (cnt - 1) (s1, s2, s3)) = true := by
      by_cases hc : cnt ≤ 1
      · obtain rfl : cnt = 1 := by omega
        exact zmN _
      · have h9 := Hst.out
        rw [zE hc, Bool.false_or] at h9;exact zr1 (by rw [Hnb.out]; exact (Bool.and_eq_true_iff.1 h9.symm).2) (by omega) (by omega)
    obtain ⟨b, off, x', A', c', rfl, hbl, hx', hdi, f0, f1, f2, f3, f4⟩ := HB0.out wx HW5.out;rw [Hx.out] at hx';injection hx' with hx'
    subst hx';have Hdi := zf hdi;have HP0 := zf (fun (W : World) (h : Below wx.heap.size wx W) => HPt.out 0 (by omega) (zmN _) A' c' W (Hdi.out.carry (h.mono (zh hB0 HW5.out.size)) (ze _)) (zg HW5.out h (ze _)));have HP1 := zf (fun (W : World) (h : Below wx.heap.size wx W) => HPt.out (cnt - 1) (by omega) hfar A' c' W (Hdi.out.carry (h.mono (zh hB0 HW5.out.size)) (ze _)) (zg HW5.out h (ze _)));have lb : b < wx.heap.size := zt hbl (zh hB0 HW5.out.size);have z1 : IntKind.i64.wrap (cnt - 1) = cnt - 1 := zr _ (by omega);have Hl0 := zf (Hpn.out 0);have Hl1 := zf (Hpn.out (cnt - 1));generalize pts (cnt - 1) = q1 at *;generalize pts 0 = q0 at *;obtain ⟨a0, ha0⟩ : ∃ a, a = q0.all (zJ 1048576) := ⟨_, rfl⟩;obtain ⟨a1', ha1⟩ : ∃ a, a = q1.all (zJ 1048576) := ⟨_, rfl⟩;rw [← ha0, ← ha1] at Hres;have HN0 := zf (fun (A : Option Addr) (c : Nat) (W : World) (h : PtsAt W W.heap.size A q0) => show Calls Tryz.prog 146 #[.slice A q0.length c] W fun e w' => e = .returned (.bool a0) ∧ Below W.heap.size W w' by rw [ha0]; exact zhK A q0 q0.length c W h (ze _) rfl Hl0.out);have HN1 := zf (fun (A : Option Addr) (c : Nat) (W : World) (h : PtsAt W W.heap.size A q1) => show Calls Tryz.prog 146 #[.slice A q1.length c] W fun e w' => e = .returned (.bool a1') ∧ Below W.heap.size W w' by rw [ha1]; exact zhK A q1 q1.length c W h (ze _) rfl Hl1.out);have k0 := K5.out;have lk := k0.lt;have r0 := k0.cell 0;have r1 := k0.cell 1;have r2 := k0.cell 2;have r3 := k0.cell 3;have r4 := k0.cell 4;have r5 := k0.cell 5;have r6 := k0.cell 6;have r7 := k0.cell 7;have r8 := k0.cell 8;have r9 := k0.cell 9;simp at r0 r1 r2 r3 r4 r5 r6 r7 r8 r9;obtain ⟨mk, sz, ct, cd, dims⟩ := x;simp only at f0 f1 f2 f3 f4 HP0 HP1;have HC := zf (fun (W : World) (h : Below wx.heap.size wx W) => show W.cell? ⟨w.heap.size, 0, none⟩ = some (.string mark) ∧ W.cell? ⟨w.heap.size, 1, none⟩ = some (.int .i64 tx) ∧ W.cell? ⟨w.heap.size, 2, none⟩ = some (.int .i64 ty) ∧ W.cell? ⟨w.heap.size, 3, none⟩ = some (.int .i64 a1) ∧ W.cell? ⟨w.heap.size, 4, none⟩ = some (.int .i64 a2) ∧ W.cell? ⟨w.heap.size, 5, none⟩ = some (.int .i64 a3) ∧ W.cell? ⟨w.heap.size, 6, none⟩ = some (.int .i64 s1) ∧ W.cell? ⟨w.heap.size, 7, none⟩ = some (.int .i64 s2) ∧ W.cell? ⟨w.heap.size, 8, none⟩ = some (.int .i64 s3) ∧ W.cell? ⟨w.heap.size, 9, none⟩ = some (.int .i64 cnt) ∧ W.cell? ⟨b, off + j * 5, none⟩ = some (.string mk) ∧ W.cell? ⟨b, off + j * 5 + 1, none⟩ = some (.int .i64 sz) ∧ W.cell? ⟨b, off + j * 5 + 2, none⟩ = some (.int .i64 ct) ∧ W.cell? ⟨b, off + j * 5 + 3, none⟩ = some (.int .i64 cd) ∧ W.cell? ⟨b, off + j * 5 + 4, none⟩ = some (.slice A' dims.length c') ∧ Below w.heap.size w W from
      ⟨(h.cell (p := ⟨w.heap.size, 0, none⟩) lk).trans r0, (h.cell (p := ⟨w.heap.size, 1, none⟩) lk).trans r1, (h.cell (p := ⟨w.heap.size, 2, none⟩) lk).trans r2, (h.cell (p := ⟨w.heap.size, 3, none⟩) lk).trans r3, (h.cell (p := ⟨w.heap.size, 4, none⟩) lk).trans r4, (h.cell (p := ⟨w.heap.size, 5, none⟩) lk).trans r5, (h.cell (p := ⟨w.heap.size, 6, none⟩) lk).trans r6, (h.cell (p := ⟨w.heap.size, 7, none⟩) lk).trans r7, (h.cell (p := ⟨w.heap.size, 8, none⟩) lk).trans r8, (h.cell (p := ⟨w.heap.size, 9, none⟩) lk).trans r9, (h.cell (p := ⟨b, off + j * 5, none⟩) lb).trans f0, (h.cell (p := ⟨b, off + j * 5 + 1, none⟩) lb).trans f1, (h.cell (p := ⟨b, off + j * 5 + 2, none⟩) lb).trans f2, (h.cell (p := ⟨b, off + j * 5 + 3, none⟩) lb).trans f3, (h.cell (p := ⟨b, off + j * 5 + 4, none⟩) lb).trans f4, zg HW5.out h (ze _)⟩)
    clear HPt HB0 Hx Hpn Hro Hst hdi hbl hfar Hdi ha0 ha1 Hl0 Hl1 k0;have hS0 := HC.out _ (Below.drew (Below.refl wx.heap.size wx));have hBx := Below.drew (Below.refl wx.heap.size wx);cases a0
    · go_wp2_with fail
      refine wp_region_held_drew (S := (fun W => W.cell? ⟨w.heap.size, 0, none⟩ = some (.string mark) ∧ W.cell? ⟨w.heap.size, 1, none⟩ = some (.int .i64 tx) ∧ W.cell? ⟨w.heap.size, 2, none⟩ = some (.int .i64 ty) ∧ W.cell? ⟨w.heap.size, 3, none⟩ = some (.int .i64 a1) ∧ W.cell? ⟨w.heap.size, 4, none⟩ = some (.int .i64 a2) ∧ W.cell? ⟨w.heap.size, 5, none⟩ = some (.int .i64 a3) ∧ W.cell? ⟨w.heap.size, 6, none⟩ = some (.int .i64 s1) ∧ W.cell? ⟨w.heap.size, 7, none⟩ = some (.int .i64 s2) ∧ W.cell? ⟨w.heap.size, 8, none⟩ = some (.int .i64 s3) ∧ W.cell? ⟨w.heap.size, 9, none⟩ = some (.int .i64 cnt) ∧ W.cell? ⟨b, off + j * 5, none⟩ = some (.string mk) ∧ W.cell? ⟨b, off + j * 5 + 1, none⟩ = some (.int .i64 sz) ∧ W.cell? ⟨b, off + j * 5 + 2, none⟩ = some (.int .i64 ct) ∧ W.cell? ⟨b, off + j * 5 + 3, none⟩ = some (.int .i64 cd) ∧ W.cell? ⟨b, off + j * 5 + 4, none⟩ = some (.slice A' dims.length c') ∧ Below w.heap.size w W)) (by kernel_rfl) hS0 (fun hHeld => ?_);refine wpAnyH_take (i := 0) (v := ?_) rfl (by kernel_rfl) (by kernel_rfl) (by kernel_rfl) (fun _ _ _ h => h) (Or.inl ⟨by rfl, ?_⟩) (by assumption) ?_;rotate_left
      · intro w hSw
        (try dsimp only at hSw)
        go_simp
        first | done | with_reducible rfl
      (try simp only [zzA, zzC, Act.put, zzD, zzE, zzF])
      refine wpAnyH_take (i := 1) (v := ?_) rfl (by kernel_rfl) (by kernel_rfl) (by kernel_rfl) (fun _ _ _ h => h) (Or.inl ⟨by rfl, ?_⟩) (by assumption) ?_;rotate_left
      · intro w hSw
        (try dsimp only at hSw)
        go_simp
        first | done | with_reducible rfl
      (try simp only [zzA, zzB, zzC, Act.put, zzD, zzE, zzF])
      refine wpAnyH_take (i := 2) (v := ?_) rfl (by kernel_rfl) (by kernel_rfl) (by kernel_rfl) (fun _ _ _ h => h) (Or.inl ⟨by rfl, ?_⟩) (by assumption) ?_;rotate_left
      · intro w hSw
        (try dsimp only at hSw)
        go_simp
        first | done | with_reducible rfl
      (try simp only [zzA, zzB, zzC, Act.put, zzD, zzE, zzF])
      refine wpAnyH_take (i := 3) (v := ?_) rfl (by kernel_rfl) (by kernel_rfl) (by kernel_rfl) (fun _ _ _ h => h) (Or.inl ⟨by rfl, ?_⟩) (by assumption) ?_;rotate_left
      · intro w hSw
        (try dsimp only at hSw)
        go_simp
        first | done | with_reducible rfl
      (try simp only [zzA, zzB, zzC, Act.put, zzD, zzE, zzF])
      refine wpAnyH_take (i := 4) (v := ?_) rfl (by kernel_rfl) (by kernel_rfl) (by kernel_rfl) (fun _ _ _ h => h) (Or.inl ⟨by rfl, ?_⟩) (by assumption) ?_;rotate_left
      · intro w hSw
        (try dsimp only at hSw)
        go_simp
        first | done | with_reducible rfl
      (try simp only [zzA, zzB, zzC, Act.put, zzD, zzE, zzF])
      refine wpAnyH_ready (rs := [5]) (by kernel_rfl) (by simp) (AllReadyH.cons rfl (fun K hK => ?_) AllReadyH.nil);go_simp;refine (HP0.out _ hBx).mono ?_;rintro e wz ⟨A5, c5, rfl, hp5, _, hbz⟩;have hBx := zg hBx hbz (ze _);clear hHeld;go_wp2_with fail;refine hK.out _ _ (HC.out _ hBx) (fun hHeld => ?_);clear hK K;refine wpAnyH_ready (rs := [6]) (by kernel_rfl) (by simp) (AllReadyH.cons rfl (fun K hK => ?_) AllReadyH.nil);go_simp;refine (HN0.out _ _ _ hp5).mono ?_;rintro e wy ⟨rfl, hbz⟩;have hBx := zg hBx hbz (ze _);clear hHeld;go_wp2_with fail;refine hK.out _ _ (HC.out _ hBx) (fun hHeld => ?_);clear hK K;refine wpAnyH_take (i := 7) (v := ?_) rfl (by kernel_rfl) (by kernel_rfl) (by kernel_rfl) (fun _ _ _ h => h) (Or.inl ⟨by rfl, ?_⟩) (by assumption) ?_;rotate_left
      · intro w hSw
        (try dsimp only at hSw)
        go_simp
        first | done | with_reducible rfl
      (try simp only [zzA, zzB, zzC, Act.put, zzD, zzE, zzF])
      refine wpAnyH_take (i := 8) (v := undef) rfl (by kernel_rfl) (by kernel_rfl) (by kernel_rfl) (fun _ _ _ h => h) (Or.inr ⟨by rfl, rfl⟩) (by assumption) ?_
      (try simp only [zzA, zzB, zzC, Act.put, zzD, zzE, zzF])
      refine wpAnyH_take (i := 9) (v := undef) rfl (by kernel_rfl) (by kernel_rfl) (by kernel_rfl) (fun _ _ _ h => h) (Or.inr ⟨by rfl, rfl⟩) (by assumption) ?_
      (try simp only [zzA, zzB, zzC, Act.put, zzD, zzE, zzF])
      refine wpAnyH_take (i := 10) (v := undef) rfl (by kernel_rfl) (by kernel_rfl) (by kernel_rfl) (fun _ _ _ h => h) (Or.inr ⟨by rfl, rfl⟩) (by assumption) ?_
      (try simp only [zzA, zzB, zzC, Act.put, zzD, zzE, zzF])
      refine wpAnyH_take (i := 11) (v := undef) rfl (by kernel_rfl) (by kernel_rfl) (by kernel_rfl) (fun _ _ _ h => h) (Or.inr ⟨by rfl, rfl⟩) (by assumption) ?_
      (try simp only [zzA, zzB, zzC, Act.put, zzD, zzE, zzF])
      refine wpAnyH_take (i := 12) (v := undef) rfl (by kernel_rfl) (by kernel_rfl) (by kernel_rfl) (fun _ _ _ h => h) (Or.inr ⟨by rfl, rfl⟩) (by assumption) ?_
      (try simp only [zzA, zzB, zzC, Act.put, zzD, zzE, zzF])
      refine wpAnyH_take (i := 13) (v := undef) rfl (by kernel_rfl) (by kernel_rfl) (by kernel_rfl) (fun _ _ _ h => h) (Or.inr ⟨by rfl, rfl⟩) (by assumption) ?_
      (try simp only [zzA, zzB, zzC, Act.put, zzD, zzE, zzF])
      refine wpAnyH_take (i := 14) (v := undef) rfl (by kernel_rfl) (by kernel_rfl) (by kernel_rfl) (fun _ _ _ h => h) (Or.inr ⟨by rfl, rfl⟩) (by assumption) ?_
      (try simp only [zzA, zzB, zzC, Act.put, zzD, zzE, zzF])
      refine wpAnyH_take (i := 15) (v := undef) rfl (by kernel_rfl) (by kernel_rfl) (by kernel_rfl) (fun _ _ _ h => h) (Or.inr ⟨by rfl, rfl⟩) (by assumption) ?_
      (try simp only [zzA, zzB, zzC, Act.put, zzD, zzE, zzF])
      refine wpAnyH_take (i := 16) (v := undef) rfl (by kernel_rfl) (by kernel_rfl) (by kernel_rfl) (fun _ _ _ h => h) (Or.inr ⟨by rfl, rfl⟩) (by assumption) ?_
      (try simp only [zzA, zzB, zzC, Act.put, zzD, zzE, zzF])
      refine wpAnyH_take (i := 17) (v := undef) rfl (by kernel_rfl) (by kernel_rfl) (by kernel_rfl) (fun _ _ _ h => h) (Or.inr ⟨by rfl, rfl⟩) (by assumption) ?_
      (try simp only [zzA, zzB, zzC, Act.put, zzD, zzE, zzF])
      refine wpAnyH_take (i := 18) (v := ?_) rfl (by kernel_rfl) (by kernel_rfl) (by kernel_rfl) (fun _ _ _ h => h) (Or.inl ⟨by rfl, ?_⟩) (by assumption) ?_;rotate_left
      · intro w hSw
        (try dsimp only at hSw)
        go_simp
        first | done | with_reducible rfl
      (try simp only [zzA, zzB, zzC, Act.put, zzD, zzE, zzF])
      refine wpAnyH_take (i := 19) (v := ?_) rfl (by kernel_rfl) (by kernel_rfl) (by kernel_rfl) (fun _ _ _ h => h) (Or.inl ⟨by rfl, ?_⟩) (by assumption) ?_;rotate_left
      · intro w hSw
        (try dsimp only at hSw)
        go_simp
        first | done | with_reducible rfl
      (try simp only [zzA, zzB, zzC, Act.put, zzD, zzE, zzF])
      refine wpAnyH_done (by kernel_rfl) ?_ _;go_wp2;go_ret;exact ⟨zo (by rw [Hres.out]; rfl), zg HW5.out hBx (ze _)⟩
    cases a1'
    · go_wp2_with fail
      go_region_held3 (fun W => W.cell? ⟨w.heap.size, 0, none⟩ = some (.string mark) ∧ W.cell? ⟨w.heap.size, 1, none⟩ = some (.int .i64 tx) ∧ W.cell? ⟨w.heap.size, 2, none⟩ = some (.int .i64 ty) ∧ W.cell? ⟨w.heap.size, 3, none⟩ = some (.int .i64 a1) ∧ W.cell? ⟨w.heap.size, 4, none⟩ = some (.int .i64 a2) ∧ W.cell? ⟨w.heap.size, 5, none⟩ = some (.int .i64 a3) ∧ W.cell? ⟨w.heap.size, 6, none⟩ = some (.int .i64 s1) ∧ W.cell? ⟨w.heap.size, 7, none⟩ = some (.int .i64 s2) ∧ W.cell? ⟨w.heap.size, 8, none⟩ = some (.int .i64 s3) ∧ W.cell? ⟨w.heap.size, 9, none⟩ = some (.int .i64 cnt) ∧ W.cell? ⟨b, off + j * 5, none⟩ = some (.string mk) ∧ W.cell? ⟨b, off + j * 5 + 1, none⟩ = some (.int .i64 sz) ∧ W.cell? ⟨b, off + j * 5 + 2, none⟩ = some (.int .i64 ct) ∧ W.cell? ⟨b, off + j * 5 + 3, none⟩ = some (.int .i64 cd) ∧ W.cell? ⟨b, off + j * 5 + 4, none⟩ = some (.slice A' dims.length c') ∧ Below w.heap.size w W)
        (first | (with_reducible assumption) | go_keep)
        (first
          | (go_at_call 147; have hS := ‹_ ∧ _ ∧ _ ∧ _ ∧ _ ∧ _ ∧ _ ∧ _ ∧ _ ∧ _ ∧ _ ∧ _ ∧ _ ∧ _ ∧ _ ∧ Below w.heap.size w _›
             (first
               | ((with_reducible refine (HP0.out _ hBx).mono ?_); rintro e wz ⟨A5, c5, rfl, hp5, _, hbz⟩)
               | ((with_reducible refine (HP1.out _ hBx).mono ?_); rintro e wz ⟨A6, c6, rfl, hp6, _, hbz⟩))
             have hBx := zg hBx hbz (ze _);have hS' := HC.out _ hBx)
          | (go_at_call 146
             (first
               | ((with_reducible refine (HN0.out _ _ _ hp5).mono ?_); rintro e wz ⟨rfl, hbz⟩)
               | ((with_reducible refine (HN1.out _ _ _ hp6).mono ?_); rintro e wz ⟨rfl, hbz⟩))
             have hBx := zg hBx hbz (ze _);have hS' := HC.out _ hBx))
      all_goals
        go_wp2;go_ret;exact ⟨zo (by rw [Hres.out]; rfl), zg HW5.out hBx (ze _)⟩
    · go_wp2_with fail
      go_region_held3 (fun W => W.cell? ⟨w.heap.size, 0, none⟩ = some (.string mark) ∧ W.cell? ⟨w.heap.size, 1, none⟩ = some (.int .i64 tx) ∧ W.cell? ⟨w.heap.size, 2, none⟩ = some (.int .i64 ty) ∧ W.cell? ⟨w.heap.size, 3, none⟩ = some (.int .i64 a1) ∧ W.cell? ⟨w.heap.size, 4, none⟩ = some (.int .i64 a2) ∧ W.cell? ⟨w.heap.size, 5, none⟩ = some (.int .i64 a3) ∧ W.cell? ⟨w.heap.size, 6, none⟩ = some (.int .i64 s1) ∧ W.cell? ⟨w.heap.size, 7, none⟩ = some (.int .i64 s2) ∧ W.cell? ⟨w.heap.size, 8, none⟩ = some (.int .i64 s3) ∧ W.cell? ⟨w.heap.size, 9, none⟩ = some (.int .i64 cnt) ∧ W.cell? ⟨b, off + j * 5, none⟩ = some (.string mk) ∧ W.cell? ⟨b, off + j * 5 + 1, none⟩ = some (.int .i64 sz) ∧ W.cell? ⟨b, off + j * 5 + 2, none⟩ = some (.int .i64 ct) ∧ W.cell? ⟨b, off + j * 5 + 3, none⟩ = some (.int .i64 cd) ∧ W.cell? ⟨b, off + j * 5 + 4, none⟩ = some (.slice A' dims.length c') ∧ Below w.heap.size w W)
        (first | (with_reducible assumption) | go_keep)
        (first
          | (go_at_call 147; have hS := ‹_ ∧ _ ∧ _ ∧ _ ∧ _ ∧ _ ∧ _ ∧ _ ∧ _ ∧ _ ∧ _ ∧ _ ∧ _ ∧ _ ∧ _ ∧ Below w.heap.size w _›
             (first
               | ((with_reducible refine (HP0.out _ hBx).mono ?_); rintro e wz ⟨A5, c5, rfl, hp5, _, hbz⟩)
               | ((with_reducible refine (HP1.out _ hBx).mono ?_); rintro e wz ⟨A6, c6, rfl, hp6, _, hbz⟩))
             have hBx := zg hBx hbz (ze _);have hS' := HC.out _ hBx)
          | (go_at_call 146
             (first
               | ((with_reducible refine (HN0.out _ _ _ hp5).mono ?_); rintro e wz ⟨rfl, hbz⟩)
               | ((with_reducible refine (HN1.out _ _ _ hp6).mono ?_); rintro e wz ⟨rfl, hbz⟩))
             have hBx := zg hBx hbz (ze _);have hS' := HC.out _ hBx))
      all_goals
        go_wp2;go_ret;exact ⟨zo (by rw [Hres.out]; rfl), zg HW5.out hBx (ze _)⟩
end Go.Proofs.YtpaanfjjnjjoeaaGreat
