/- detail.Drop. -/
import Derived.Test.YtpaanfjjnjjoeaaGreatSaw
set_option maxHeartbeats 8000000
set_option maxRecDepth 100000
namespace Go.Proofs.YtpaanfjjnjjoeaaGreat
open Go.RowKit
def zgS (x : DetD) (k : Int) (w' : World) (e : Ending) : Prop :=
 (zah x = false ∧ e = .returned (.tuple #[.agg zeroD, .int .i64 1])) ∨ (zah x = true ∧ (k < 0 ∨ (x.runs.length : Int) ≤ k) ∧ e = .returned (.tuple #[.agg zeroD, .int .i64 2])) ∨
  (zah x = true ∧ ∃ j : Nat, k = j ∧ j < x.runs.length ∧ ∃ s', e = .returned (.tuple #[zcZ (zan x j) s', .int .i64 0]) ∧ DetAt w' w'.heap.size (zan x j) s' ∧ DetFit (zan x j) s')
theorem zpn (x : DetD) (s : DetS) (k : Int) {B : Nat} (w : World) (h : DetAt w B x s) (hB : B ≤ w.heap.size) (hf : DetFit x s) (hm1 : s.n1 ≤ 300000) (hm2 : s.n2 ≤ 300000) (hm3 : ∀ b ∈ x.bars, b.dims.length ≤ 300000) (hm6 : ∀ d ∈ x.dems, d.steps.length ≤ 300000) (hk4 : s.n4 ≤ s.c4) :
  Calls Tryz.prog 29 #[zcZ x s, .int .i64 k] w fun e w' => zgS x k w' e ∧ Below w.heap.size w w' := by
 have HV := zf (fun (W : World) (hz : Below w.heap.size w W) => show Calls Tryz.prog 26 #[.agg (zp x.mem x.rule s)] W _ from zgf x s W (h.carry (hz.mono hB) (ze _)) (zh hB hz.size) hf);have HC := zf (fun (W : World) (hz : Below w.heap.size w W) => show Calls Tryz.prog 63 #[.agg (zp x.mem x.rule s)] W _ from zrq x s W (h.carry (hz.mono hB) (ze _)) (zh hB hz.size) hf hm1 hm2 hm3 hm6);have H4 := zf (fun (W : World) (hz : Below w.heap.size w W) => SlOf.carry (Flat.carried _) h.h4 (hz.mono hB) (ze B));have H5 := zf (fun (W : World) (hz : Below w.heap.size w W) => SlOf.carry (Flat.carried _) h.h5 (hz.mono hB) (ze B));have K0 := zf ((Blk.new w 34 (zp x.mem x.rule s)).alloc (.cells zeroD 34));have KZ := zf (Blk.new1 w (.cells (zp x.mem x.rule s) 34) 34 zeroD);have HW := zf (zH w (.cells (zp x.mem x.rule s) 34) (.cells zeroD 34));have Hi := zf (show (Tryz.prog.info? 34).map (·.size) = some 19 by kernel_rfl);have Hir := zf (show (Tryz.prog.info? 66).map (·.size) = some 10 by kernel_rfl);have HS0 := zf (show (zp x.mem x.rule s).size = 19 from rfl);have HL4 := zf hf.l4;have HL5 := zf hf.l5;have hb4 := hf.m4;have hb5 := hf.m5;have HCL := zf (fun (V : World) (hv : Blk V w.heap.size 34 (zp x.mem x.rule s)) => show V.cell? ⟨w.heap.size, 7, none⟩ = some (.slice s.a4 s.n4 s.c4) ∧ V.cell? ⟨w.heap.size, 8, none⟩ = some (.slice s.a5 s.n5 s.c5) from ⟨hv.cell 7, hv.cell 8⟩);have P1 := zf (fun (w' : World) (h9 : zah x = false) => show zgS x k w' (.returned (.tuple #[.agg zeroD, .int .i64 1])) from .inl ⟨h9, rfl⟩);have P2 := zf (fun (w' : World) (h9 : zah x = true) (h8 : k < 0 ∨ (x.runs.length : Int) ≤ k) => show zgS x k w' (.returned (.tuple #[.agg zeroD, .int .i64 2])) from .inr (.inl ⟨h9, h8, rfl⟩));have P3 := zf (fun (w' : World) (h9 : zah x = true) (j : Nat) (hj : k = j) (hjl : j < x.runs.length) (s' : DetS) (h1 : DetAt w' w'.heap.size (zan x j) s') (h2 : DetFit (zan x j) s') => show zgS x k w' (.returned (.tuple #[.agg (zp (zan x j).mem (zan x j).rule s'), .int .i64 0])) from .inr (.inr ⟨h9, j, hj, hjl, s', rfl, h1, h2⟩));have Hlap := zf (fun (h9 : zah x = true) => zgW h9);have Hcr := zf (fun (h9 : zah x = true) (r : RunD) (hr : r ∈ x.runs) => show 1 ≤ r.count ∧ r.count ≤ 1000 from by
  exact zaw ((zap (zaG h9).2.1).2.2 r hr))
 have Hf := zf hf;obtain ⟨C, hC⟩ : ∃ C, C = zp x.mem x.rule s := ⟨_, rfl⟩;rw [← hC] at HV HC K0 KZ HW HS0 HCL
 show Calls Tryz.prog 29 #[.agg (zp x.mem x.rule s), .int .i64 k] w _
 rw [← hC];generalize zgS x k = PE at *;generalize zah x = t at *;clear h hf hm1 hm2 hm3 hm6 hC hB;go_enter Tryz.func29, Tryz.ntmps29;go_wp2_with (refine wpList_load_row rfl 34 (.tmp 2) rfl w.heap.size rfl 34 _ (0, 0) _ K0.out Tryz.underlying34 rfl (by rw [HS0.out]; exact Hi.out) ?_);refine (HV.out _ HW.out).mono ?_;rintro e w1 ⟨rfl, hb⟩;replace HW := zf (zg HW.out hb (ze _));replace K0 := zf (K0.out.keep hb);replace KZ := zf (KZ.out.keep hb);clear hb HV;have hz1 : w.heap.size + 1 < w1.heap.size := KZ.out.lt;cases t
 ·clear HC K0 HS0;go_wp2_with (refine wpList_store_row rfl 34 (.tmp 4) (.tmp 19) rfl (w.heap.size + 1) zeroD rfl rfl 34 _ KZ.out Hi.out rfl (by kernel_rfl) ?_);refine bodyPost_ret (zbK rfl rfl (setRow_heap _ (w.heap.size + 1) _ zeroD _ _ KZ.out) Tryz.underlying34 rfl (by kernel_rfl)) rfl ?_;exact ⟨P1.out _ (by simp), Below.setRow HW.out (by omega) _⟩
 ·obtain ⟨e7, e8⟩ := HCL.out _ K0.out;by_cases hneg : k < 0
  ·have d1 : decide (k < 0) = true := zI hneg;go_wp2_with (refine wpList_store_row rfl 34 (.tmp 4) (.tmp 30) rfl (w.heap.size + 1) zeroD rfl rfl 34 _ KZ.out Hi.out rfl (by kernel_rfl) ?_);refine bodyPost_ret (zbK rfl rfl (setRow_heap _ (w.heap.size + 1) _ zeroD _ _ KZ.out) Tryz.underlying34 rfl (by kernel_rfl)) rfl ?_;exact ⟨P2.out _ (by simp) (.inl hneg), Below.setRow HW.out (by omega) _⟩
  ·have d1 : decide (k < 0) = false := zE hneg;obtain ⟨j, rfl⟩ : ∃ j : Nat, k = j := ⟨k.toNat, by omega⟩;by_cases hge : s.n4 ≤ j
   ·have d2 : decide ((s.n4 : Int) ≤ (j : Int)) = true := zI (by omega);go_wp2_with (refine wpList_store_row rfl 34 (.tmp 4) (.tmp 30) rfl (w.heap.size + 1) zeroD rfl rfl 34 _ KZ.out Hi.out rfl (by kernel_rfl) ?_);refine bodyPost_ret (zbK rfl rfl (setRow_heap _ (w.heap.size + 1) _ zeroD _ _ KZ.out) Tryz.underlying34 rfl (by kernel_rfl)) rfl ?_;exact ⟨P2.out _ (by simp) (.inr (by rw [← HL4.out]; omega)), Below.setRow HW.out (by omega) _⟩
   ·have d2 : decide ((s.n4 : Int) ≤ (j : Int)) = false := zE (by omega);clear P1 P2;have Kb := zf (K0.out.alloc (.cells #[.int .i64 0] 3));have KF := zf (Blk.new w1 3 #[.int .i64 0]);have HW2 := zf (zk w1 (.cells #[.int .i64 0] 3));obtain ⟨n7, n8⟩ := HCL.out _ Kb.out;have hjc : j ≤ s.c4 := by omega
    have hjn : j < s.n4 := by omega
    have hq1 : (0 : Int) ≤ (j : Int) := by omega
    have hq2 : (j : Int) ≤ (s.c4 : Int) := by omega
    have HjL := zf (show j < x.runs.length by rw [← HL4.out]; omega);have Hr := zf (fun r (hr : r ∈ x.runs) => Hcr.out (by simp) r hr);have hsm : x.runs.length ≤ 60000 := by rw [← HL4.out]; exact hb4
    have Hct := zf (fun i : Nat => show 0 ≤ zD (x.runs.take i) ∧ zD (x.runs.take i) ≤ 60000000 from by
     have h1 := zdu (x.runs.take i) (fun r hr => Hr.out r (List.mem_of_mem_take hr));have h2 : (x.runs.take i).length ≤ x.runs.length := by rw [zG]; exact Nat.min_le_right _ _
     refine ⟨h1.1, Int.le_trans h1.2 ?_⟩;omega)
    have Hcs := zf (fun (i : Nat) (r : RunD) (h9 : x.runs[i]? = some r) => show zD (x.runs.take (i + 1)) = zD (x.runs.take i) + r.count by rw [zQ h9, zcz]);clear hsm Hcr;go_wp2_with fail;have HF0 := zf (show Blk (w1.alloc (.cells #[.int .i64 0] 3)) w1.heap.size 3 #[.int .i64 (zD (x.runs.take 0))] from KF.out);clear e7 e8 n7 n8 KF Kb;generalize w1.alloc (.cells #[.int .i64 0] 3) = w2 at *;go_loopw [36] (fun iv wr => ∃ i : Nat, i ≤ j ∧ iv = .int .i64 i ∧ Hid (Blk wr w1.heap.size 3 #[.int .i64 (zD (x.runs.take i))]) ∧ Hid (Below w1.heap.size w1 wr)) (fun iv _ => j - (intOf iv).toNat)
    case atStart => exact ⟨0, zu _, rfl, HF0, HW2⟩
    case round =>
     clear HF0 HW2;obtain ⟨i, hi, rfl, kf, hbr⟩ := hrel;rename World => wr;by_cases hlt : i < j
     ·obtain ⟨b9, off, r, hA, hbl, hx, hc⟩ := RunsAt.get (k := i) (H4.out _ (zg HW.out hbr.out (ze _))) (by have := HjL.out; omega);have hr2 := Hr.out r (zv hx);have hcn := Hct.out i;have Hn := zf (Hcs.out i r hx);obtain ⟨mark, tx, ty, ⟨a1, a2, a3⟩, ⟨s1, s2, s3⟩, cnt⟩ := r;have p0 := hc 0 _ rfl;have p1 := hc 1 _ rfl;have p2 := hc 2 _ rfl;have p3 := hc 3 _ rfl;have p4 := hc 4 _ rfl;have p5 := hc 5 _ rfl;have p6 := hc 6 _ rfl;have p7 := hc 7 _ rfl;have p8 := hc 8 _ rfl;have p9 := hc 9 _ rfl;simp only [Nat.add_zero] at p0 p1 p2 p3 p4 p5 p6 p7 p8 p9 hr2 Hn;have Kf := zf (kf.out.alloc (.cells #[.string mark, .int .i64 tx, .int .i64 ty, .int .i64 a1, .int .i64 a2, .int .i64 a3, .int .i64 s1, .int .i64 s2, .int .i64 s3, .int .i64 cnt] 66));have KN := zf (Blk.new wr 66 #[.string mark, .int .i64 tx, .int .i64 ty, .int .i64 a1, .int .i64 a2, .int .i64 a3, .int .i64 s1, .int .i64 s2, .int .i64 s3, .int .i64 cnt]);have HBa := zf (hbr.out.alloc hbr.out.size (.cells #[.string mark, .int .i64 tx, .int .i64 ty, .int .i64 a1, .int .i64 a2, .int .i64 a3, .int .i64 s1, .int .i64 s2, .int .i64 s3, .int .i64 cnt] 66));have q0 := Kf.out.cell 0;have q1 := Kf.out.frozen 0;have q9 := KN.out.cell 9;simp at q0 q9;generalize zD (x.runs.take i) = cr at *;have z1 : IntKind.i64.wrap (cr + cnt) = cr + cnt := zr _ (by omega);have Kg := zf (Kf.out.set_ 0 (.int .i64 (cr + cnt)));have HBg := zf (HBa.out.setCell (p := ⟨w1.heap.size, 0, none⟩) (ze _) (.int .i64 (cr + cnt)));clear hc hx KN Kf HBa kf;go_wp2;go_roundw
      case rel => exact ⟨i + 1, by omega, by go_num, by rw [Hn.out]; exact Kg, HBg⟩
      case measure => simp [intOf]; omega
     ·obtain rfl : j = i := by omega
      have K0r := zf (K0.out.below hbr.out K0.out.lt);have KZr := zf (KZ.out.below hbr.out KZ.out.lt);have HWr := zf (zg HW.out hbr.out (ze _));obtain ⟨e7, e8⟩ := HCL.out _ K0r.out;obtain ⟨b9, off, r, hA, hbl, hx, hc⟩ := RunsAt.get (k := j) (H4.out _ HWr.out) HjL.out;have hr2 := Hr.out r (zv hx);have hcnt := zf (show zcT x.runs j = r.count by simp [zcT, hx]);obtain ⟨mark, tx, ty, ⟨a1, a2, a3⟩, ⟨s1, s2, s3⟩, cnt⟩ := r;have p9 := hc 9 _ rfl;simp only at p9 hr2;have hcn := Hct.out j;have Hfr := zf (show zan x j = ⟨x.mem, x.bars, x.runs.eraseIdx j, zaO (zD (x.runs.take j)) (zcT x.runs j) x.laps, x.dems, x.rule⟩ from rfl);generalize zD (x.runs.take j) = fr at *;have hlt2 : wr.heap.size ≤ wr.heap.size := ze _;have KFn := zf (kf.out.alloc (.cells #[.int .i64 cnt] 3));have KNn := zf (Blk.new wr 3 #[.int .i64 cnt]);have K0n := zf (K0r.out.alloc (.cells #[.int .i64 cnt] 3));have KZn := zf (KZr.out.alloc (.cells #[.int .i64 cnt] 3));have HWn := zf (HWr.out.alloc HWr.out.size (.cells #[.int .i64 cnt] 3));have hgf := kf.out.lt;have HCz := zf (HC.out _ HWn.out);clear hc hx kf K0 KZ K0r KZr HW HWr hbr hlt hi HC hlt2 Hcs;go_wp2_with (refine wpList_load_row rfl 34 (.tmp 2) rfl w.heap.size rfl 34 _ (0, 0) _ K0n.out Tryz.underlying34 rfl (by rw [HS0.out]; exact Hi.out) ?_);refine HCz.out.mono ?_;rintro e w5 ⟨s', b, LB, LD, rfl, hln, hown, hb⟩;clear hln;have hz5 : wr.heap.size < w5.heap.size := by
       have h9 := hb.size;simp at h9;omega
      have hlo : wr.heap.size + 1 ≤ b 0 := by
       have h9 := hown.low;simp at h9;omega
      have HW5 := zf (zg HWn.out hb (ze _));have K05 := zf (K0n.out.keep hb);have KF5 := zf (KFn.out.keep hb);have KN5 := zf (KNn.out.keep hb);have KZ5 := zf (KZn.out.keep hb);have Hown := zf (OwnDet.lower hown hlo);have K12 := zf (Blk.new w5 34 zeroD);have HX5 := zf (zk w5 (.cells zeroD 34));clear hown hb HWn K0n KFn KNn KZn HCz;have Hv := zf (show zcZ x s' = .agg (zp x.mem x.rule s') from rfl)
      show _
      go_upto_region 15 with (refine wpList_store_row rfl 34 (.tmp 12) (.tmp 54) rfl w5.heap.size (zp x.mem x.rule s') rfl rfl 34 _ K12.out (by kernel_rfl) rfl (by kernel_rfl) ?_)
      have k64 := setRow_heap _ w5.heap.size _ (zp x.mem x.rule s') _ _ K12.out;have hx6 := Below.setRow HX5.out (ze _) (zp x.mem x.rule s');generalize World.setRow (w5.alloc (.cells zeroD 34)) w5.heap.size (zp x.mem x.rule s') = w6 at *;have K126 := zf (show Blk w6 w5.heap.size 34 (zp x.mem x.rule s') from k64);have HX6 := zf hx6;have HW6 := zf (HW5.out.trans (hx6.mono HW5.out.size));have K06 := zf (K05.out.below hx6 K05.out.lt);have KF6 := zf (KF5.out.below hx6 KF5.out.lt);have KN6 := zf (KN5.out.below hx6 KN5.out.lt);have KZ6 := zf (KZ5.out.below hx6 KZ5.out.lt);have m7 := K126.out.cell 7;simp only [zp] at m7;simp at m7;have HR6 := zf (((Hown.out.r4.mono (zh Hown.out.low (Hown.out.from0 3)) (ze _)).row.keep hx6));have HA6 := zf (show some w5.heap.size ≠ (Value.slice s'.a4 s'.n4 s'.c4).ownBlock from fun h9 => zcS Hown.out.r4.row (ze _) h9.symm);have HAl := zf (fun (g : Nat) (hg : g < wr.heap.size + 1) => show some g ≠ (Value.slice s'.a4 s'.n4 s'.c4).ownBlock from fun h9 => zbs HR6.out hg h9.symm);have Hdel := zf (zky s'.a4 s'.n4 s'.c4 j (wr.heap.size + 1) x.runs w6 HR6.out HjL.out);have zj : IntKind.i64.wrap ((j : Int) + 1) = (j : Int) + 1 := zr _ (by omega);clear k64 hx6 K12 HX5 HW5 K05 KF5 KN5 KZ5 e7 e8 p9;go_wp2_with fail;refine Hdel.out.mono ?_;rintro e w7 ⟨rfl, hrow7, hg7⟩;have K127 := zf (K126.out.grown hg7 HA6.out);have K07 := zf (K06.out.grown hg7 (HAl.out _ (by omega)));have KF7 := zf (KF6.out.grown hg7 (HAl.out _ (by omega)));have KN7 := zf (KN6.out.grown hg7 (HAl.out _ (by omega)));have KZ7 := zf (KZ6.out.grown hg7 (HAl.out _ (by omega)));have HR7 := zf hrow7;have HG7 := zf hg7;clear hrow7 hg7 Hdel K126 K06 KF6 KN6 KZ6 m7 HA6 HAl;have m7 := K127.out.cell 7;have m8 := K127.out.frozen 7;have o7 := (K127.out.set_ 7 (.slice s'.a4 (s'.n4 - 1) s'.c4)).cell 8;have o8 := (K127.out.set_ 7 (.slice s'.a4 (s'.n4 - 1) s'.c4)).frozen 8;simp only [zp] at m7 o7;simp at m7 o7;go_upto_region 17 with fail
      have kd1 := K127.out.set_ 7 (.slice s'.a4 (s'.n4 - 1) s'.c4);have kd2 := kd1.set_ 8 (.slice none 0 0);have hrow8a := zb2 HR7.out (zcy w7 w5.heap.size 7 (.slice s'.a4 (s'.n4 - 1) s'.c4)) (fun k hk => by
       injection hk with hk
       subst hk;exact zf7 HR7.out K127.out (by decide))
      have hrow8 := zb2 hrow8a (zcy (w7.setCell ⟨w5.heap.size, 7, none⟩ (.slice s'.a4 (s'.n4 - 1) s'.c4)) w5.heap.size 8 (.slice none 0 0)) (fun k hk => by
       injection hk with hk
       subst hk;exact zf7 hrow8a kd1 (by decide))
      have hg8 := (((zbW HX6.out (Value.slice s'.a4 s'.n4 s'.c4).ownBlock).trans HG7.out).andThen (zcy w7 w5.heap.size 7 (.slice s'.a4 (s'.n4 - 1) s'.c4)) (fun q hq => by injection hq with hq; left; omega)).andThen (zcy (w7.setCell ⟨w5.heap.size, 7, none⟩ (.slice s'.a4 (s'.n4 - 1) s'.c4)) w5.heap.size 8 (.slice none 0 0)) (fun q hq => by injection hq with hq; left; omega)
      have low8 := (OwnDet.runs (y := ⟨x.mem, x.bars, x.runs.eraseIdx j, x.laps, x.dems, x.rule⟩) (s' := { s' with n4 := s'.n4 - 1 }) Hown.out hg8 (A := s'.a4) (n := s'.n4 - 1) (c := s'.c4) hrow8 rfl rfl).laps (Row.nil _ _ _ _ _)
      have k08 := (K07.out.far (p := ⟨w5.heap.size, 7, none⟩) (show w.heap.size ≠ w5.heap.size by omega) (.slice s'.a4 (s'.n4 - 1) s'.c4)).far (p := ⟨w5.heap.size, 8, none⟩) (show w.heap.size ≠ w5.heap.size by omega) (.slice none 0 0);have kf8 := (KF7.out.far (p := ⟨w5.heap.size, 7, none⟩) (show w1.heap.size ≠ w5.heap.size by omega) (.slice s'.a4 (s'.n4 - 1) s'.c4)).far (p := ⟨w5.heap.size, 8, none⟩) (show w1.heap.size ≠ w5.heap.size by omega) (.slice none 0 0);have kn8 := (KN7.out.far (p := ⟨w5.heap.size, 7, none⟩) (show wr.heap.size ≠ w5.heap.size by omega) (.slice s'.a4 (s'.n4 - 1) s'.c4)).far (p := ⟨w5.heap.size, 8, none⟩) (show wr.heap.size ≠ w5.heap.size by omega) (.slice none 0 0);have kz8 := (KZ7.out.far (p := ⟨w5.heap.size, 7, none⟩) (show w.heap.size + 1 ≠ w5.heap.size by omega) (.slice s'.a4 (s'.n4 - 1) s'.c4)).far (p := ⟨w5.heap.size, 8, none⟩) (show w.heap.size + 1 ≠ w5.heap.size by omega) (.slice none 0 0);have hw8 := ((HW6.out.grown HG7.out HW6.out.size (fun q hq => Nat.le_of_not_lt (fun h9 => zbs HR6.out (show q < wr.heap.size + 1 by omega) hq))).setCell (p := ⟨w5.heap.size, 7, none⟩) (show w.heap.size ≤ w5.heap.size by omega) (.slice s'.a4 (s'.n4 - 1) s'.c4)).setCell (p := ⟨w5.heap.size, 8, none⟩) (show w.heap.size ≤ w5.heap.size by omega) (.slice none 0 0);generalize World.setCell (World.setCell w7 ⟨w5.heap.size, 7, none⟩ (.slice s'.a4 (s'.n4 - 1) s'.c4)) ⟨w5.heap.size, 8, none⟩ (.slice none 0 0) = w8 at *;have K8 := zf (show Blk w8 w5.heap.size 34 (zp x.mem x.rule { s' with n4 := s'.n4 - 1, a5 := none, n5 := 0, c5 := 0 }) from by
       simp only [zp, zzD, zzE, zzF] at kd2 ⊢;exact kd2)
      have Low8 := zf low8;have K08 := zf k08;have KF8 := zf kf8;have KN8 := zf kn8;have KZ8 := zf kz8;have HW8 := zf hw8;obtain ⟨e7, e8⟩ := HCL.out _ k08;clear kd1 kd2 hrow8a hrow8 hg8 low8 k08 kf8 kn8 kz8 hw8 m7 m8 o7 o8 K127 K07 KF7 KN7 KZ7 HR7 HG7 HW6 HX6 HR6 Hown zj;have HG0 := zf (zbW (Below.refl w8.heap.size w8) (some w5.heap.size));go_wp2_with fail;clear e7 e8;go_loopw [66] (fun iv wv => ∃ i : Nat, i ≤ s.n5 ∧ iv = .int .i64 i ∧ (∃ (A9 : Option Addr) (c9 : Nat) (acc : List JoinD), Hid (acc = zaO fr (zcT x.runs j) (x.laps.take i)) ∧ Hid (Blk wv w5.heap.size 34 (zp x.mem x.rule { s' with n4 := s'.n4 - 1, a5 := A9, n5 := acc.length, c5 := c9 })) ∧ Hid (Row wv w8.heap.size 73 2 zcs (.slice A9 acc.length c9) acc)) ∧ Hid (w8.grownBy wv (some w5.heap.size))) (fun iv _ => s.n5 - (intOf iv).toNat)
      case atStart => exact ⟨0, zu _, rfl, ⟨none, 0, [], zf rfl, K8, zf (Row.nil _ _ _ _ _)⟩, HG0⟩
      case round =>
       clear HG0;obtain ⟨i, hi, rfl, ⟨A9, c9, acc, hacc, hK, hrow⟩, hgr⟩ := hrel;rename World => wv;have Kx := zf (K08.out.grown hgr.out (by simp; omega));have Kf := zf (KF8.out.grown hgr.out (by simp; omega));have Kn := zf (KN8.out.grown hgr.out (by simp; omega));have Kz := zf (KZ8.out.grown hgr.out (by simp; omega));have Hwv := zf (HW8.out.grown hgr.out HW8.out.size (fun q hq => by injection hq with hq; omega))
       by_cases hlt : i < s.n5
       ·obtain ⟨bj, oj, jn, hA5, hbl5, hx5, c0, c1⟩ := JoinsAt.get (k := i) (H5.out _ Hwv.out) (by rw [← HL5.out]; exact hlt);rw [hA5];clear hA5;have hjm := Hlap.out (by simp) jn (zv hx5);have hall := Hct.out x.runs.length;rw [zF] at hall;obtain ⟨first, second⟩ := jn;simp only at c0 c1 hjm;have Hx5 := zf hx5;have Kfq := zf (Kf.out.alloc (.cells #[.int .i64 first, .int .i64 second] 73));have Knq := zf (Kn.out.alloc (.cells #[.int .i64 first, .int .i64 second] 73));have KJ := zf (Blk.new wv 73 #[.int .i64 first, .int .i64 second]);have hKq := zf (hK.out.alloc (.cells #[.int .i64 first, .int .i64 second] 73));have hrowq := zf (hrow.out.alloc (.cells #[.int .i64 first, .int .i64 second] 73));have hgrq := zf (hgr.out.trans (zbW (zk wv (.cells #[.int .i64 first, .int .i64 second] 73)) (some w5.heap.size)));have hcn9 := hcnt.out;have HGa := zf (zmR fr cnt first w1.heap.size wr.heap.size _ Kfq.out Knq.out (by omega) (by omega) (by omega) (by omega));have HGb := zf (zmR fr cnt second w1.heap.size wr.heap.size _ Kfq.out Knq.out (by omega) (by omega) (by omega) (by omega));have Hkp := zf (show zcV fr (zcT x.runs j) ⟨first, second⟩ = (!zc3 fr cnt first && !zc3 fr cnt second) by rw [hcn9]; rfl);have j0 := KJ.out.cell 0;have j1 := KJ.out.cell 1;simp at j0 j1;generalize zc3 fr cnt first = ga at *;generalize zc3 fr cnt second = gb at *;have Hap := zf (zcS hrow.out (ze wv.heap.size));clear hK hrow hgr Kf Kn hx5 hcn9;go_wp2_with fail;refine HGa.out.mono ?_;rintro e wz ⟨rfl, rfl⟩;cases ga
        ·go_wp2_with fail;refine HGb.out.mono ?_;rintro e wz ⟨rfl, rfl⟩;cases gb
         ·go_upto_region 21 with fail
          have HMa := zf (zk2 fr cnt first w1.heap.size wr.heap.size _ Kfq.out.drew Knq.out.drew (by omega) (by omega) (by omega) (by omega));have HMb := zf (zk2 fr cnt second w1.heap.size wr.heap.size _ Kfq.out.drew Knq.out.drew (by omega) (by omega) (by omega) (by omega));have KJd := zf KJ.out.drew;have Kd := zf hKq.out.drew;have Rd := zf hrowq.out.drew;have HS := zf (show (wv.alloc (.cells #[.int .i64 first, .int .i64 second] 73)).drew.cell? ⟨w5.heap.size, 8, none⟩ = some (.slice A9 acc.length c9) ∧ (wv.alloc (.cells #[.int .i64 first, .int .i64 second] 73)).drew.cell? ⟨wv.heap.size, 0, none⟩ = some (.int .i64 first) ∧ (wv.alloc (.cells #[.int .i64 first, .int .i64 second] 73)).drew.cell? ⟨wv.heap.size, 1, none⟩ = some (.int .i64 second) from ⟨Kd.out.cell 8, KJd.out.cell 0, KJd.out.cell 1⟩);have Hmv := zf (show zcc fr (zcT x.runs j) ⟨first, second⟩ = ⟨zcb fr cnt first, zcb fr cnt second⟩ by rw [hcnt.out]; rfl);generalize zcb fr cnt first = ma at *;generalize zcb fr cnt second = mb at *;refine zby (S := fun V => V.cell? ⟨w5.heap.size, 8, none⟩ = some (.slice A9 acc.length c9) ∧ V.cell? ⟨wv.heap.size, 0, none⟩ = some (.int .i64 first) ∧ V.cell? ⟨wv.heap.size, 1, none⟩ = some (.int .i64 second)) (n := 13) (by kernel_rfl) ?_;refine HeldTo.take (i := 0) (v := ?_) rfl (by kernel_rfl) (by kernel_rfl) (by kernel_rfl) (by kernel_rfl) (fun _ _ _ h => h) (Or.inl ⟨by rfl, ?_⟩) HS.out ?_;rotate_left
          ·intro w hSw
           (try dsimp only at hSw)
           go_simp
           first | done | with_reducible rfl
          (try simp only [zzA, zzC, Act.put, zzD, zzE, zzF])
          refine HeldTo.take (i := 1) (v := ?_) rfl (by kernel_rfl) (by kernel_rfl) (by kernel_rfl) (by kernel_rfl) (fun _ _ _ h => h) (Or.inl ⟨by rfl, ?_⟩) HS.out ?_;rotate_left
          ·intro w hSw
           (try dsimp only at hSw)
           go_simp
           first | done | with_reducible rfl
          (try simp only [zzA, zzB, zzC, Act.put, zzD, zzE, zzF])
          refine HeldTo.take (i := 2) (v := ?_) rfl (by kernel_rfl) (by kernel_rfl) (by kernel_rfl) (by kernel_rfl) (fun _ _ _ h => h) (Or.inl ⟨by rfl, ?_⟩) HS.out ?_;rotate_left
          ·intro w hSw
           (try dsimp only at hSw)
           go_simp
           first | done | with_reducible rfl
          (try simp only [zzA, zzB, zzC, Act.put, zzD, zzE, zzF])
          refine HeldTo.take (i := 3) (v := ?_) rfl (by kernel_rfl) (by kernel_rfl) (by kernel_rfl) (by kernel_rfl) (fun _ _ _ h => h) (Or.inl ⟨by rfl, ?_⟩) HS.out ?_;rotate_left
          ·intro w hSw
           (try dsimp only at hSw)
           go_simp
           first | done | with_reducible rfl
          (try simp only [zzA, zzB, zzC, Act.put, zzD, zzE, zzF])
          refine HeldTo.take (i := 4) (v := ?_) rfl (by kernel_rfl) (by kernel_rfl) (by kernel_rfl) (by kernel_rfl) (fun _ _ _ h => h) (Or.inl ⟨by rfl, ?_⟩) HS.out ?_;rotate_left
          ·intro w hSw
           (try dsimp only at hSw)
           go_simp
           first | done | with_reducible rfl
          (try simp only [zzA, zzB, zzC, Act.put, zzD, zzE, zzF])
          refine HeldTo.take (i := 6) (v := ?_) rfl (by kernel_rfl) (by kernel_rfl) (by kernel_rfl) (by kernel_rfl) (fun _ _ _ h => h) (Or.inl ⟨by rfl, ?_⟩) HS.out ?_;rotate_left
          ·intro w hSw
           (try dsimp only at hSw)
           go_simp
           first | done | with_reducible rfl
          (try simp only [zzA, zzB, zzC, Act.put, zzD, zzE, zzF])
          refine HeldTo.take (i := 7) (v := ?_) rfl (by kernel_rfl) (by kernel_rfl) (by kernel_rfl) (by kernel_rfl) (fun _ _ _ h => h) (Or.inl ⟨by rfl, ?_⟩) HS.out ?_;rotate_left
          ·intro w hSw
           (try dsimp only at hSw)
           go_simp
           first | done | with_reducible rfl
          (try simp only [zzA, zzB, zzC, Act.put, zzD, zzE, zzF])
          refine HeldTo.take (i := 8) (v := ?_) rfl (by kernel_rfl) (by kernel_rfl) (by kernel_rfl) (by kernel_rfl) (fun _ _ _ h => h) (Or.inl ⟨by rfl, ?_⟩) HS.out ?_;rotate_left
          ·intro w hSw
           (try dsimp only at hSw)
           go_simp
           first | done | with_reducible rfl
          (try simp only [zzA, zzB, zzC, Act.put, zzD, zzE, zzF])
          refine HeldTo.one (i := 5) (by kernel_rfl) rfl (fun K hK => ?_);go_simp;refine HMa.out.mono ?_;rintro e wz ⟨rfl, rfl⟩;go_wp2_with fail;refine hK.out _ _ (fun _ => HS.out) (fun h8 => ?_);clear h8 hK K
          (try simp only [zzA, zzB, zzC, Act.put, zzD, zzE, zzF])
          refine HeldTo.one (i := 9) (by kernel_rfl) rfl (fun K hK => ?_);go_simp;refine HMb.out.mono ?_;rintro e wz ⟨rfl, rfl⟩;go_wp2_with fail;refine hK.out _ _ (fun _ => HS.out) (fun h8 => ?_);clear h8 hK K
          (try simp only [zzA, zzB, zzC, Act.put, zzD, zzE, zzF])
          refine HeldTo.one (i := 10) (by kernel_rfl) rfl (fun K hK => ?_);go_simp;refine hK.out _ _ (fun _ => HS.out) (fun h8 => ?_);clear h8 hK K
          (try simp only [zzA, zzB, zzC, Act.put, zzD, zzE, zzF])
          refine HeldTo.one (i := 11) (by kernel_rfl) rfl (fun K hK => ?_);go_simp;have hwq := show wv.heap.size + 1 = (wv.alloc (.cells #[.int .i64 first, .int .i64 second] 73)).drew.heap.size by simp
          have KJe := zf (KJd.out.alloc (.cells #[.int .i64 ma, .int .i64 mb] 73));have Ke := zf (Kd.out.alloc (.cells #[.int .i64 ma, .int .i64 mb] 73));have Re := zf (Rd.out.alloc (.cells #[.int .i64 ma, .int .i64 mb] 73));have HS2 := zf (And.intro (Ke.out.cell 8) (And.intro (KJe.out.cell 0) (KJe.out.cell 1)));have HYS := zf (SlOf.lit zgJ (wv.alloc (.cells #[.int .i64 first, .int .i64 second] 73)).drew 73 #[.int .i64 ma, .int .i64 mb] [⟨ma, mb⟩] (by simp [zcs]) (zK _));refine hK.out _ _ (fun _ => HS2.out) (fun h8 => ?_);clear h8 hK K
          (try simp only [zzA, zzB, zzC, Act.put, zzD, zzE, zzF])
          refine HeldTo.one (i := 12) (by kernel_rfl) rfl (fun K hK => ?_);refine zlO rfl (.tmp 83) (.tmp 93) 29 rfl w8.heap.size 73 (.agg #[.int .i64 0, .int .i64 0]) 2 16 zcs Tryz.underlying29 (by kernel_rfl) rfl (by omega) zgJ ziW _ acc [⟨ma, mb⟩] rfl Re.out (some ⟨wv.heap.size + 1, 0, none⟩) 1 1 rfl rfl (by have q := HYS.out; rw [← hwq] at q; exact q) ?_ (by simp) (by omega) ?_ ?_
          rotate_right
          ·intro A5 c5 w9 hrow9 hb9 hg9;clear hwq;have K9 := zf (Ke.out.grown hg9 (show some w5.heap.size ≠ (Value.slice A9 acc.length c9).ownBlock from fun h9 => zbs Re.out K8.out.lt h9.symm));have KJ9 := zf (KJe.out.grown hg9 (show some wv.heap.size ≠ (Value.slice A9 acc.length c9).ownBlock from fun h9 => Hap.out h9.symm));have HS9 := zf (And.intro (K9.out.cell 8) (And.intro (KJ9.out.cell 0) (KJ9.out.cell 1)));have HG9 := zf (((hgrq.out.trans (zbW (Below.drew (zk (wv.alloc (.cells #[.int .i64 first, .int .i64 second] 73)) (.cells #[.int .i64 ma, .int .i64 mb] 73))) (some w5.heap.size))).andThen hg9 (fun q hq => .inl (Nat.le_of_not_lt (fun h9 => zbs Re.out h9 hq)))).trans (zcy w9 w5.heap.size 8 (.slice A5 (acc.length + 1) c5)));have HR9 := zf (zb2 hrow9 (zcy w9 w5.heap.size 8 (.slice A5 (acc.length + 1) c5)) (fun k hk => by
            injection hk with hk
            subst hk;exact zbs hrow9 K8.out.lt))
           have k10 := K9.out.set_ 8 (.slice A5 (acc.length + 1) c5);have hal1 : (acc ++ [(⟨ma, mb⟩ : JoinD)]).length = acc.length + 1 := by simp
           have K10 := zf (show Blk (w9.setCell ⟨w5.heap.size, 8, none⟩ (.slice A5 (acc.length + 1) c5)) w5.heap.size 34 (zp x.mem x.rule { s' with n4 := s'.n4 - 1, a5 := A5, n5 := (acc ++ [(⟨ma, mb⟩ : JoinD)]).length, c5 := c5 }) from by
            rw [hal1];simp only [zp, zzD, zzE, zzF] at k10 ⊢;exact k10)
           have HR10 := zf (show Row (w9.setCell ⟨w5.heap.size, 8, none⟩ (.slice A5 (acc.length + 1) c5)) w8.heap.size 73 2 zcs (.slice A5 (acc ++ [(⟨ma, mb⟩ : JoinD)]).length c5) (acc ++ [⟨ma, mb⟩]) from by rw [hal1]; exact HR9.out);have e8 := K9.out.cell 8;have f8 := K9.out.frozen 8;simp only [zp] at e8;simp at e8;clear k10 hal1 hrow9 hb9 hg9 HR9;refine hK.out _ _ (fun _ => HS9.out) (fun h8 => ?_);clear h8 hK K
           (try simp only [zzA, zzB, zzC, Act.put, zzD, zzE, zzF])
           refine HeldTo.one (i := 13) (by kernel_rfl) rfl (fun K hK => ?_);go_simp;refine hK.out _ _ (fun h9 => absurd h9 (by omega)) (fun h8 => ?_);clear h8 hK K
           (try simp only [zzA, zzB, zzC, Act.put, zzD, zzE, zzF])
           refine HeldTo.one (i := 14) (by kernel_rfl) rfl (fun K hK => ?_);go_simp;refine hK.out _ _ (fun h9 => absurd h9 (by omega)) (fun h8 => HeldTo.done (by kernel_rfl) ?_ _);clear h8 hK K e8 f8 K9 KJ9 HS9 KJe Ke Re HS2 HYS KJd Kd Rd HS HMa HMb;go_wp2;go_roundw
           case rel => exact ⟨i + 1, by omega, by go_num, ⟨A5, c5, acc ++ [⟨ma, mb⟩], zf (by rw [hacc.out, zQ Hx5.out, zfC, Hkp.out, Hmv.out]; simp), K10, HR10⟩, HG9⟩
           case measure => simp [intOf]; omega
          ·have h9 : acc.length ≤ x.laps.length := by
            rw [hacc.out, zaO, zw];refine zh (zal _ _) ?_;rw [zG];exact Nat.min_le_right _ _
           rw [← HL5.out] at h9;omega
          ·have h9 := hgrq.out.size;simp at h9 ⊢;omega
         ·go_wp2;go_roundw
          case rel => exact ⟨i + 1, by omega, by go_num, ⟨A9, c9, acc, zf (by rw [hacc.out, zQ Hx5.out, zfC, Hkp.out]; simp), hKq, hrowq⟩, hgrq⟩
          case measure => simp [intOf]; omega
        ·go_wp2;go_roundw
         case rel => exact ⟨i + 1, by omega, by go_num, ⟨A9, c9, acc, zf (by rw [hacc.out, zQ Hx5.out, zfC, Hkp.out]; simp), hKq, hrowq⟩, hgrq⟩
         case measure => simp [intOf]; omega
       ·obtain rfl : s.n5 = i := by omega
        have hlw := (Low8.out.far hgr.out K8.out).laps (zg8 (show wr.heap.size + 1 ≤ w8.heap.size from zh (by omega) (zX K8.out.lt)) hrow.out);have hD : zan x j = ⟨x.mem, x.bars, x.runs.eraseIdx j, acc, x.dems, x.rule⟩ := by rw [Hfr.out, hacc.out, HL5.out, zF]
        have hal : acc.length ≤ x.laps.length := by
         rw [hacc.out, HL5.out, zF, zaO, zw];exact zal _ _
        have her : (x.runs.eraseIdx j).length ≤ 60000 := by
         have h9 := List.length_eraseIdx_le x.runs j;rw [← HL4.out] at h9;omega
        have hfit := hlw.len.fit Hf.out rfl rfl rfl her (by show acc.length ≤ 60000; rw [← HL5.out] at hal; omega);have Hfin := zf (fun (W : World) (hg : wv.grownBy W none ∨ ∃ q, q < wr.heap.size + 1 ∧ wv.grownBy W (some q)) => show True from trivial);have Hlw := zf hlw;have Hft := zf hfit;have HD := zf hD;have HP := zf (fun (W : World) (h1 : DetAt W W.heap.size ⟨x.mem, x.bars, x.runs.eraseIdx j, acc, x.dems, x.rule⟩ { s' with n4 := s'.n4 - 1, a5 := A9, n5 := acc.length, c5 := c9 }) => P3.out W (by simp) j rfl HjL.out { s' with n4 := s'.n4 - 1, a5 := A9, n5 := acc.length, c5 := c9 } (by rw [HD.out]; exact h1) (by rw [HD.out]; exact Hft.out))
        have Hi9 := zf (show (Tryz.prog.info? 34).map (·.size) = some (zp x.mem x.rule { s' with n4 := s'.n4 - 1, a5 := A9, n5 := acc.length, c5 := c9 }).size by kernel_rfl)
        have Ho9 := zf (show (zp x.mem x.rule { s' with n4 := s'.n4 - 1, a5 := A9, n5 := acc.length, c5 := c9 }).all (·.oneCell') = true by kernel_rfl)
        have Hz9 := zf (show zeroD.size = (zp x.mem x.rule { s' with n4 := s'.n4 - 1, a5 := A9, n5 := acc.length, c5 := c9 }).size by kernel_rfl)
        have hmd : (zan x j).mem = x.mem := rfl;have hrd : (zan x j).rule = x.rule := rfl;rw [hmd, hrd] at HP;generalize zp x.mem x.rule { s' with n4 := s'.n4 - 1, a5 := A9, n5 := acc.length, c5 := c9 } = C9 at *
        clear hlw hD hal her hfit Hfin hmd hrd Hlap Hct Hr P3;go_wp2_with (first
         | (refine wpList_load_row rfl 34 (.tmp 12) rfl w5.heap.size rfl 34 _ (0, 0) _ hK.out Tryz.underlying34 rfl Hi9.out ?_)
         | (refine wpList_store_row rfl 34 (.tmp 4) (.tmp 97) rfl (w.heap.size + 1) C9 rfl rfl 34 _ Kz.out Hi9.out Hz9.out Ho9.out ?_))
        refine bodyPost_ret (zbK rfl rfl (setRow_heap _ (w.heap.size + 1) _ C9 _ _ Kz.out) Tryz.underlying34 rfl Hi9.out) rfl ?_;exact ⟨HP.out _ (Hlw.out.kept (zlb _ _ _) (fun q hq => by
         injection hq with hq
         omega)).at_, Below.setRow Hwv.out (by omega) _⟩
end Go.Proofs.YtpaanfjjnjjoeaaGreat
