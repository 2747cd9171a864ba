/- The turned path of a run. -/
import Derived.Test.YtpaanfjjnjjoeaaGreatRQao
import Derived.Test.YtpaanfjjnjjoeaaGreatRQap
import Derived.Test.YtpaanfjjnjjoeaaGreatRQag
namespace Go.Proofs.YtpaanfjjnjjoeaaGreat
open Go.RowKit
abbrev runV (r : RunD) : Value := .agg #[.string r.mark, .int .i64 r.tx, .int .i64 r.ty, .int .i64 r.place.1, .int .i64 r.place.2.1, .int .i64 r.place.2.2, .int .i64 r.step.1, .int .i64 r.step.2.1, .int .i64 r.step.2.2, .int .i64 r.count]
def turnedOf (r : RunD) (x : BarD) : List Pt := mapPts r.tx r.ty (0, 0, 0) (pathOf x)
theorem turnedOf_len (r : RunD) (x : BarD) : (turnedOf r x).length = (pathOf x).length := mapPts_len _ _ _ _
set_option maxHeartbeats 4000000 in
set_option maxRecDepth 100000 in
theorem turned_ok (A : Option Addr) (bars : List BarD) (n c : Nat) (r : RunD) (x : BarD) (j : Nat) (w : World) {B : Nat} (h : BarsAt w B A bars) (hB : B ≤ w.heap.size) (hn : n = bars.length) (hm : n ≤ 60000) (htame : Tame bars)
  (hj : idx (markIs r.mark) bars = (j : Int)) (hx : bars[j]? = some x) (hok : barOk x = true) (ht : turnOk r.tx r.ty = true) :
  Calls Tryz.prog 173 #[.slice A n c, runV r] w fun e w' => ∃ A' c', e = .returned (.slice A' (turnedOf r x).length c') ∧ PtsAt w' w'.heap.size A' (turnedOf r x) ∧ Below w.heap.size w w' := by
 obtain ⟨hxm, hxd⟩ := htame x (mem_of_get hx)
 have hnear := path_near hok
 have HF := fun (W : World) (hz : Below w.heap.size w W) => laidFind_any A bars n c r.mark W (h.carry (hz.mono hB) (Nat.le_refl _)) (Nat.le_trans hB hz.size) hn hm
 rw [hj] at HF
 have HF := hide HF
 have HP := hide (fun (W : World) (A' : Option Addr) (c' : Nat) (hA : Ints W B A' x.dims) (hb : B ≤ W.heap.size) => shapePath_ok x A' c' W hA hb hxm hxd hok)
 have HQ := hide (fun (W : World) (A' : Option Addr) (c' : Nat) (hA : PtsAt W W.heap.size A' (pathOf x)) => framePath_ok r.tx r.ty (0, 0, 0) A' (pathOf x) (pathOf x).length c' W hA (Nat.le_refl _) rfl ht (by rw [pathOf_len]; have := legsOf_len x.code; omega) rfl (fun p hp => nearBy_mono (hnear p hp) (by omega)))
 have Hs := hide h
 have hn' := hide hn
 have Hx := hide hx
 have Htl := hide (show (turnedOf r x).length = (pathOf x).length from turnedOf_len r x)
 have Hto := hide (show turnedOf r x = mapPts r.tx r.ty (0, 0, 0) (pathOf x) from rfl)
 obtain ⟨mark, tx, ty, ⟨a1, a2, a3⟩, ⟨s1, s2, s3⟩, cnt⟩ := r
 simp only at HF HQ
 have b0 := Blk.new w 66 #[.string mark, .int .i64 tx, .int .i64 ty, .int .i64 a1, .int .i64 a2, .int .i64 a3, .int .i64 s1, .int .i64 s2, .int .i64 s3, .int .i64 cnt]
 have B0 := hide b0
 have HW := hide (below_new w (.cells #[.string mark, .int .i64 tx, .int .i64 ty, .int .i64 a1, .int .i64 a2, .int .i64 a3, .int .i64 s1, .int .i64 s2, .int .i64 s3, .int .i64 cnt] 66))
 generalize turnedOf ⟨mark, tx, ty, (a1, a2, a3), (s1, s2, s3), cnt⟩ x = tp at *
 have hjn : j < n := by have := lt_of_get hx; omega
 clear h hn hm htame hj hx hok ht hnear b0 hxm hxd
 show Calls Tryz.prog 173 #[.slice A n c, .agg #[.string mark, .int .i64 tx, .int .i64 ty, .int .i64 a1, .int .i64 a2, .int .i64 a3, .int .i64 s1, .int .i64 s2, .int .i64 s3, .int .i64 cnt]] w _
 go_enter Tryz.func173, Tryz.ntmps173
 go_wp2_with fail
 refine (HF.out _ HW.out).mono ?_
 rintro e w2 ⟨rfl, hb2⟩
 have K0 := hide (B0.out.keep hb2)
 have HW2 := hide (below_step HW.out hb2 (Nat.le_refl _))
 obtain ⟨b, off, y, A', c', hA, hbl, hy, hi, e0, e1, e2, e3, e4⟩ := BarsAt.get (k := j) (Hs.out.carry (HW2.out.mono hB) (Nat.le_refl _)) (by rw [← hn'.out]; exact hjn)
 subst hA
 have hyx : y = x := by rw [Hx.out] at hy; injection hy with hy; exact hy.symm
 subst hyx
 have Hi := hide hi
 have i0 : (0 : Int) ≤ (j : Int) := by omega
 clear hb2 HF HW hy hi hbl
 go_wp2_with fail
 refine (HP.out _ A' c' Hi.out (Nat.le_trans hB HW2.out.size)).mono ?_
 rintro e w3 ⟨A3, c3, rfl, hpts, hb3⟩
 have K0 := K0.out.keep hb3
 have HW3 := hide (below_step HW2.out hb3 (Nat.le_refl _))
 have k1 := K0.cell 1
 have k2 := K0.cell 2
 simp at k1 k2
 have HQ3 := hide (HQ.out w3 A3 c3 hpts)
 clear hb3 hpts K0 HP HQ e0 e1 e2 e3 e4
 go_wp2_with fail
 refine HQ3.out.mono ?_
 rintro e w4 ⟨A4, c4, rfl, hp4, hb4⟩
 have HW4 := hide (below_step HW3.out hb4 (Nat.le_refl _))
 have Hp4 := hide hp4
 clear hb4 hp4 HQ3
 go_wp2_with fail
 go_ret
 exact ⟨A4, c4, by rw [Htl.out]; rfl, by rw [Hto.out]; exact Hp4.out, HW4.out⟩
theorem row3 {w : World} {base g : Nat} {e : TypeId} {v : Value} {l : List Pt} (h : Row w base e 3 encPt v l) (hg : g < base) (a b c : Value) : Row (((w.setCell ⟨g, 0, none⟩ a).setCell ⟨g, 1, none⟩ b).setCell ⟨g, 2, none⟩ c) base e 3 encPt v l :=
 rowSet (rowSet (rowSet h (a := ⟨g, 0, none⟩) hg a) (a := ⟨g, 1, none⟩) hg b) (a := ⟨g, 2, none⟩) hg c
theorem blk3 {w : World} {g : Nat} {t : TypeId} {x y z : Value} (h : Blk w g t #[x, y, z]) (a b c : Value) : Blk (((w.setCell ⟨g, 0, none⟩ a).setCell ⟨g, 1, none⟩ b).setCell ⟨g, 2, none⟩ c) g t #[a, b, c] := by
 have h1 := ((h.set_ 0 a).set_ 1 b).set_ 2 c
 simpa only [zzD, zzE, zzF] using h1
theorem below3 {B g : Nat} {a w : World} (h : Below B a w) (hg : B ≤ g) (x y z : Value) : Below B a (((w.setCell ⟨g, 0, none⟩ x).setCell ⟨g, 1, none⟩ y).setCell ⟨g, 2, none⟩ z) :=
 ((h.setCell (p := ⟨g, 0, none⟩) hg x).setCell (p := ⟨g, 1, none⟩) hg y).setCell (p := ⟨g, 2, none⟩) hg z
theorem size3 (w : World) (g : Nat) (x y z : Value) : (((w.setCell ⟨g, 0, none⟩ x).setCell ⟨g, 1, none⟩ y).setCell ⟨g, 2, none⟩ z).heap.size = w.heap.size := by
 rw [zzG, zzG, zzG]
set_option maxHeartbeats 4000000 in
set_option maxRecDepth 100000 in
theorem refPath_ok (x : BarD) (A : Option Addr) (c : Nat) (w : World) {B : Nat} (hA : Ints w B A x.dims) (hB : B ≤ w.heap.size) (hok : barOk x = true) :
  Calls Tryz.prog 207 #[.agg #[.string x.mark, .int .i64 x.size, .int .i64 x.count, .int .i64 x.code, .slice A x.dims.length c]] w fun e w' =>
   ∃ A' c', e = .returned (.slice A' (pathOf x).length c') ∧ PtsAt w' w'.heap.size A' (pathOf x) ∧ Below w.heap.size w w' := by
 have Hnear := hide (path_near hok)
 have hle := legsLen_le x.code
 have hbo := fun o => (Below.refl B w).alloc hB o
 have HM := hide (refMoves_ok x A c _ (hA.carry (hbo (.cells #[.string x.mark, .int .i64 x.size, .int .i64 x.count, .int .i64 x.code, .slice A x.dims.length c] 50)) (Nat.le_refl _)) (le_alloc hB _) hok)
 have HW := hide (below_new w (.cells #[.string x.mark, .int .i64 x.size, .int .i64 x.count, .int .i64 x.code, .slice A x.dims.length c] 50))
 have Hlen := hide (show (pathOf x).length = legsLen x.code + 1 by rw [pathOf_len]; rfl)
 have Hml := hide (show (movesOf x).length = legsLen x.code by simp [movesOf, legsLen])
 clear hA hB hok hbo
 go_enter Tryz.func207, Tryz.ntmps207
 go_wp2_with fail
 refine HM.out.mono ?_
 rintro e w1 ⟨AM, rfl, hmv, hb1⟩
 have Hmv := hide hmv
 have HW1 := hide (below_step HW.out hb1 (Nat.le_refl _))
 clear hmv hb1 HM HW
 have hrow := World.ownsRow_lit (base := w1.heap.size + 1) (e := 60) (size := 3) (w1.alloc (.cells #[.int .i64 0, .int .i64 0, .int .i64 0] 60)) #[.int .i64 0, .int .i64 0, .int .i64 0] 1 (by simp) (by unfold maxLen; omega) rfl
 rw [size_alloc'] at hrow
 have hp0 : [((0, 0, 0) : Pt)] = (pathOf x).take 1 := by
  have h9 := pathOf_zero x
  have h8 := take_snoc' h9
  simpa using h8.symm
 have hrow2 : Row ((w1.alloc (.cells #[.int .i64 0, .int .i64 0, .int .i64 0] 60)).alloc (.cells #[.int .i64 0, .int .i64 0, .int .i64 0] 60)) (w1.heap.size + 1) 60 3 encPt (.slice (some ⟨w1.heap.size + 1, 0, none⟩) 1 1) [(0, 0, 0)] := hrow
 rw [hp0] at hrow2
 have Hrow := hide hrow2
 have KA := hide ((Blk.new w1 60 #[.int .i64 0, .int .i64 0, .int .i64 0]).alloc (.cells #[.int .i64 0, .int .i64 0, .int .i64 0] 60))
 have HB12 := hide (below_new2 w1 (.cells #[.int .i64 0, .int .i64 0, .int .i64 0] 60) (.cells #[.int .i64 0, .int .i64 0, .int .i64 0] 60))
 clear hrow hrow2 hp0
 go_wp2_with fail
 go_loopw [5, 6] (fun v i wr => ∃ k : Nat, k ≤ legsLen x.code ∧ i = .int .i64 k ∧ (∃ o1 o2 o3 : Int, Hid ((pathOf x)[k]? = some (o1, o2, o3)) ∧ Hid (Blk wr w1.heap.size 60 #[.int .i64 o1, .int .i64 o2, .int .i64 o3])) ∧ Row wr (w1.heap.size + 1) 60 3 encPt v ((pathOf x).take (k + 1)) ∧ Hid (Below w1.heap.size w1 wr)) (fun _ i _ => legsLen x.code - (intOf i).toNat)
 case atStart => exact ⟨0, Nat.zero_le _, rfl, ⟨0, 0, 0, hide (pathOf_zero x), KA⟩, Hrow.out, HB12⟩
 case round =>
  clear KA Hrow HB12
  obtain ⟨k, hk, rfl, ⟨o1, o2, o3, ho, kA⟩, hrow, hbr⟩ := hrel
  obtain ⟨A0, c0, rfl⟩ := hrow.val
  have hbs := hbr.out.size
  have lk := kA.out.lt
  by_cases hlt : k < legsLen x.code
  ·obtain ⟨b, off, m, rfl, hbl, hm, g0, g1, g2⟩ := PtsAt.get (k := k) (Hmv.out.carry (Flat.carried _) hbr.out hbs) (by rw [Hml.out]; exact hlt)
   have hnext := pathFrom_at _ _ _ _ _ ho.out hm
   obtain ⟨m1, m2, m3⟩ := m
   have hnear := nearBy_iff.1 (Hnear.out _ (mem_of_get hnext))
   simp only [addP] at hnear hnext g0 g1 g2
   have Hnext := hide hnext
   have a0 := kA.out.cell 0
   have a1 := kA.out.cell 1
   have a2 := kA.out.cell 2
   have f0 := kA.out.frozen 0
   have f1 := kA.out.frozen 1
   have f2 := kA.out.frozen 2
   simp at a0 a1 a2
   have s1 : IntKind.i64.wrap (o1 + m1) = o1 + m1 := IntWalk.i64_in _ (by omega)
   have s2 : IntKind.i64.wrap (o2 + m2) = o2 + m2 := IntWalk.i64_in _ (by omega)
   have s3 : IntKind.i64.wrap (o3 + m3) = o3 + m3 := IntWalk.i64_in _ (by omega)
   have hacc : ((pathOf x).take (k + 1)).length ≤ 1000 := by rw [List.length_take]; omega
   have Htake := hide (take_path Hnext.out)
   generalize (pathOf x).take (k + 1) = acc at hrow hacc Htake ⊢
   have R1 := hide (Row.drew (Row.alloc (row3 (g := w1.heap.size) hrow (Nat.lt_succ_self _) (.int .i64 (o1 + m1)) (.int .i64 (o2 + m2)) (.int .i64 (o3 + m3))) (.cells #[.int .i64 (o1 + m1), .int .i64 (o2 + m2), .int .i64 (o3 + m3)] 60)))
   have R2 := (Blk.drew (Blk.new (((wr.setCell ⟨w1.heap.size, 0, none⟩ (.int .i64 (o1 + m1))).setCell ⟨w1.heap.size, 1, none⟩ (.int .i64 (o2 + m2))).setCell ⟨w1.heap.size, 2, none⟩ (.int .i64 (o3 + m3))) 60 #[.int .i64 (o1 + m1), .int .i64 (o2 + m2), .int .i64 (o3 + m3)]))
   rw [size3] at R2
   have R2 := hide R2
   have R3 := hide (Blk.drew ((blk3 kA.out (.int .i64 (o1 + m1)) (.int .i64 (o2 + m2)) (.int .i64 (o3 + m3))).alloc (.cells #[.int .i64 (o1 + m1), .int .i64 (o2 + m2), .int .i64 (o3 + m3)] 60)))
   have R5 := hide (Below.drew ((below3 (g := w1.heap.size) hbr.out (Nat.le_refl _) (.int .i64 (o1 + m1)) (.int .i64 (o2 + m2)) (.int .i64 (o3 + m3))).alloc (by rw [size3]; exact hbs) (.cells #[.int .i64 (o1 + m1), .int .i64 (o2 + m2), .int .i64 (o3 + m3)] 60)))
   have R6 := hide (show w1.heap.size + 1 ≤ ((((wr.setCell ⟨w1.heap.size, 0, none⟩ (.int .i64 (o1 + m1))).setCell ⟨w1.heap.size, 1, none⟩ (.int .i64 (o2 + m2))).setCell ⟨w1.heap.size, 2, none⟩ (.int .i64 (o3 + m3))).alloc (.cells #[.int .i64 (o1 + m1), .int .i64 (o2 + m2), .int .i64 (o3 + m3)] 60)).drew.heap.size by rw [zzH, size_alloc', size3]; omega)
   clear hm hbl ho kA hrow hbr hnear hnext
   go_wp2_with fail
   go_still_tail 25, (by kernel_rfl)
   change wpList _ _ _ _ _ (World.drew wr)
   go_wp2_with (at_builtin; go_loud (refine wpList_append1 rfl (.tmp 43) (.tmp 45) 204 rfl (w1.heap.size + 1) 60 (.agg #[.int .i64 0, .int .i64 0, .int .i64 0]) 3 24 encPt Tryz.underlying204 (by kernel_rfl) rfl (by omega) encPt_len encPt_one _ acc (o1 + m1, o2 + m2, o3 + m3) rfl R1.out _ rfl R2.out (by omega) (by omega) R6.out ?_); intro A1 c1 w6 hrow6 hb6 hkeep)
   go_roundw
   case rel => exact ⟨k + 1, by omega, by go_num, ⟨o1 + m1, o2 + m2, o3 + m3, Hnext, hide (R3.out.below hb6 (Nat.lt_succ_self _))⟩, by rw [Htake.out]; simpa using hrow6, hide (R5.out.trans (hb6.mono (by omega)))⟩
   case measure => simp [intOf]; omega
  ·obtain rfl : k = legsLen x.code := by omega
   have hfull : (pathOf x).take (legsLen x.code + 1) = pathOf x := List.take_of_length_le (by rw [Hlen.out]; exact Nat.le_refl _)
   rw [hfull] at hrow
   have Hrow := hide hrow
   have hfin := hide (below_step HW1.out hbr.out (Nat.le_refl _))
   rw [hfull]
   generalize hgm : (pathOf x).length = m at *
   have Hm := hide hgm
   clear hrow hfull hgm Hlen
   go_wp2_with fail
   go_ret
   exact ⟨A0, c0, by rw [Hm.out]; rfl, Row.read Hrow.out encPt_len (by omega), hfin.out⟩
end Go.Proofs.YtpaanfjjnjjoeaaGreat
