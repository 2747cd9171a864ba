/- The turned path of a run. -/
import Derived.Test.YtkmpddaobncheaaGreatDoorQan
import Derived.Test.YtkmpddaobncheaaGreatDoorQao
namespace Go.Proofs.YtkmpddaobncheaaGreatDoor
open Go.RowKit

abbrev runV (r : RunD) : Value := .agg #[.string r.mark, .int .i64 r.tx, .int .i64 r.ty, .int .i64 r.place.1, .int .i64 r.place.2.1, .int .i64 r.place.2.2, .int .i64 r.step.1, .int .i64 r.step.2.1, .int .i64 r.step.2.2, .int .i64 r.count]
def turnedOf (r : RunD) (x : BarD) : List Pt := mapPts r.tx r.ty (0, 0, 0) (pathOf x)
theorem turnedOf_len (r : RunD) (x : BarD) : (turnedOf r x).length = (pathOf x).length := mapPts_len _ _ _ _
set_option maxHeartbeats 4000000 in
set_option maxRecDepth 100000 in
theorem turned_ok (A : Option Addr) (bars : List BarD) (n c : Nat) (r : RunD) (x : BarD) (j : Nat) (w : World) {B : Nat} (h : BarsAt w B A bars) (hB : B ≤ w.heap.size) (hn : n = bars.length) (hm : n ≤ 60000) (htame : Tame bars)
    (hj : idx (markIs r.mark) bars = (j : Int)) (hx : bars[j]? = some x) (hok : barOk x = true) (ht : turnOk r.tx r.ty = true) :
    Calls Tryz.prog 176 #[.slice A n c, runV r] w fun e w' => ∃ A' c', e = .returned (.slice A' (turnedOf r x).length c') ∧ PtsAt w' w'.heap.size A' (turnedOf r x) ∧ Below w.heap.size w w' := by
  obtain ⟨hxm, hxd⟩ := htame x (mem_of_get hx)
  have hnear := path_near hok
  have HF := fun (W : World) (hz : Below w.heap.size w W) => laidFind_any A bars n c r.mark W (h.carry (hz.mono hB) (Nat.le_refl _)) (Nat.le_trans hB hz.size) hn hm
  rw [hj] at HF
  have HF := hide HF
  have HP := hide (fun (W : World) (A' : Option Addr) (c' : Nat) (hA : Ints W B A' x.dims) (hb : B ≤ W.heap.size) => shapePath_ok x A' c' W hA hb hxm hxd hok)
  have HQ := hide (fun (W : World) (A' : Option Addr) (c' : Nat) (hA : PtsAt W W.heap.size A' (pathOf x)) => framePath_ok r.tx r.ty (0, 0, 0) A' (pathOf x) (pathOf x).length c' W hA (Nat.le_refl _) rfl ht (by rw [pathOf_len]; have := legsOf_len x.code; omega) rfl (fun p hp => nearBy_mono (hnear p hp) (by omega)))
  have Hs := hide h
  have hn' := hide hn
  have Hx := hide hx
  have Htl := hide (show (turnedOf r x).length = (pathOf x).length from turnedOf_len r x)
  have Hto := hide (show turnedOf r x = mapPts r.tx r.ty (0, 0, 0) (pathOf x) from rfl)
  obtain ⟨mark, tx, ty, ⟨a1, a2, a3⟩, ⟨s1, s2, s3⟩, cnt⟩ := r
  simp only at HF HQ
  have b0 := Blk.new w 120 #[.string mark, .int .i64 tx, .int .i64 ty, .int .i64 a1, .int .i64 a2, .int .i64 a3, .int .i64 s1, .int .i64 s2, .int .i64 s3, .int .i64 cnt]
  have B0 := hide b0
  have HW := hide (below_new w (.cells #[.string mark, .int .i64 tx, .int .i64 ty, .int .i64 a1, .int .i64 a2, .int .i64 a3, .int .i64 s1, .int .i64 s2, .int .i64 s3, .int .i64 cnt] 120))
  generalize turnedOf ⟨mark, tx, ty, (a1, a2, a3), (s1, s2, s3), cnt⟩ x = tp at *
  have hjn : j < n := by have := lt_of_get hx; omega
  clear h hn hm htame hj hx hok ht hnear b0 hxm hxd
  show Calls Tryz.prog 176 #[.slice A n c, .agg #[.string mark, .int .i64 tx, .int .i64 ty, .int .i64 a1, .int .i64 a2, .int .i64 a3, .int .i64 s1, .int .i64 s2, .int .i64 s3, .int .i64 cnt]] w _
  go_enter Tryz.func176, Tryz.ntmps176
  go_wp2_with fail
  refine (HF.out _ HW.out).mono ?_
  rintro e w2 ⟨rfl, hb2⟩
  have K0 := hide (B0.out.keep hb2)
  have HW2 := hide (below_step HW.out hb2 (Nat.le_refl _))
  obtain ⟨b, off, y, A', c', hA, hbl, hy, hi, e0, e1, e2, e3, e4⟩ := BarsAt.get (k := j) (Hs.out.carry (HW2.out.mono hB) (Nat.le_refl _)) (by rw [← hn'.out]; exact hjn)
  subst hA
  have hyx : y = x := by rw [Hx.out] at hy; injection hy with hy; exact hy.symm
  subst hyx
  have Hi := hide hi
  have i0 : (0 : Int) ≤ (j : Int) := by omega
  clear hb2 HF HW hy hi hbl
  go_wp2_with fail
  refine (HP.out _ A' c' Hi.out (Nat.le_trans hB HW2.out.size)).mono ?_
  rintro e w3 ⟨A3, c3, rfl, hpts, hb3⟩
  have K0 := K0.out.keep hb3
  have HW3 := hide (below_step HW2.out hb3 (Nat.le_refl _))
  have k1 := K0.cell 1
  have k2 := K0.cell 2
  simp at k1 k2
  have HQ3 := hide (HQ.out w3 A3 c3 hpts)
  clear hb3 hpts K0 HP HQ e0 e1 e2 e3 e4
  go_wp2_with fail
  refine HQ3.out.mono ?_
  rintro e w4 ⟨A4, c4, rfl, hp4, hb4⟩
  have HW4 := hide (below_step HW3.out hb4 (Nat.le_refl _))
  have Hp4 := hide hp4
  clear hb4 hp4 HQ3
  go_wp2_with fail
  go_ret
  exact ⟨A4, c4, by rw [Htl.out]; rfl, by rw [Hto.out]; exact Hp4.out, HW4.out⟩
end Go.Proofs.YtkmpddaobncheaaGreatDoor
