/- Whether a detail is valid. -/
import Derived.Test.YtpaanfjjnjjoeaaGreatRQbb
import Derived.Test.YtpaanfjjnjjoeaaGreatRQaa
import Derived.Deep.RegionWith
import Derived.Test.YtpaanfjjnjjoeaaGreatRQas
import Derived.Test.YtpaanfjjnjjoeaaGreatRQaw
import Derived.Test.YtpaanfjjnjjoeaaGreatRQay
import Derived.Test.YtpaanfjjnjjoeaaGreatRQau
import Derived.Test.YtpaanfjjnjjoeaaGreatRQat
namespace Go.Proofs.YtpaanfjjnjjoeaaGreat
open Go.RowKit
def LookPost (x : DetD) (w : World) (e : Ending) (w' : World) : Prop :=
 (detOk x = false ∧ e = .returned (.tuple #[.slice none 0 0, .bool false]) ∧ Below w.heap.size w w') ∨
 (detOk x = true ∧ ∃ A c, e = .returned (.tuple #[.slice A (laidAll x.bars x.runs).length c, .bool true]) ∧ MainsAt w' w'.heap.size A ((laidAll x.bars x.runs).map mainOf) ∧ Below w.heap.size w w')
theorem lapsFrom_at {ms : List (Option BoxD)} {l : List JoinD} {k : Nat} {j : JoinD} (h : l[k]? = some j) (f s : List Int) :
  lapsFrom ms f s (l.drop k) = (lapsFit ms j && !f.contains j.first && !s.contains j.second && lapsFrom ms (j.first :: f) (j.second :: s) (l.drop (k + 1))) := by
 rw [drop_at' h, lapsFrom]
theorem jointOk_range {l : List MainD} {j : JoinD} (h : jointOk l j = true) (hl : l.length ≤ 2000) : InInt j.first ∧ InInt j.second := by
 simp only [jointOk, lapsFit, Bool.and_eq_true, zzJ, List.length_map] at h
 unfold InInt
 omega
set_option maxHeartbeats 4000000 in
set_option maxRecDepth 100000 in
theorem look_any (x : DetD) (s : DetS) (w : World) {B : Nat} (h : DetAt w B x s) (hB : B ≤ w.heap.size) (hf : DetFit x s) :
  Calls Tryz.prog 56 #[detV x s] w fun e w' => LookPost x w e w' := by
 have HMM := hide (fun (W : World) (hz : Below w.heap.size w W) (hok : laidOk x.bars x.runs = true) => mains_ok x s W (h.carry (hz.mono hB) (Nat.le_refl _)) (Nat.le_trans hB hz.size) hf hok)
 have HM := hide (fun (W : World) (hz : Below w.heap.size w W) => member_any x.mem s.a1 s.a2 s.n1 s.n2 s.c1 s.c2 W (h.h1.carry (Flat.carried _) (hz.mono hB) (Nat.le_refl _)) (h.h2.carry (Flat.carried _) (hz.mono hB) (Nat.le_refl _)) (Nat.le_trans hB hz.size) hf.l1 hf.l2 hf.name)
 have HL := hide (fun (W : World) (hz : Below w.heap.size w W) => laidValid_any s.a3 x.bars s.n3 s.c3 s.a4 x.runs s.n4 s.c4 W (h.h3.carry (hz.mono hB) (Nat.le_refl _)) (h.h4.carry (Flat.carried _) (hz.mono hB) (Nat.le_refl _)) (Nat.le_trans hB hz.size) hf.l3 hf.l4 hf.m3 hf.m4 hf.tame)
 have HD := hide (fun (W : World) (hz : Below w.heap.size w W) => demandValid_any s.a6 x.dems s.n6 s.c6 W (SlOf.carry demR_carried h.h6 (hz.mono hB) (Nat.le_refl _)) (Nat.le_trans hB hz.size) hf.l6 (by have := hf.m6; omega) hf.k6 hf.dems)
 have HR := hide (fun (W : World) => anchorValid_any x.rule W)
 have H5 := hide h.h5
 have L5 := hide hf.l5
 have M5 := hide hf.m5
 have Hlen := hide (fun (hok : laidOk x.bars x.runs = true) => (laidOk_len hok).2)
 clear h hf
 obtain ⟨tm, htm⟩ : ∃ t, t = memOk x.mem := ⟨_, rfl⟩
 obtain ⟨tl, htl⟩ : ∃ t, t = laidOk x.bars x.runs := ⟨_, rfl⟩
 obtain ⟨td, htd⟩ : ∃ t, t = demsOk x.dems := ⟨_, rfl⟩
 obtain ⟨tr, htr⟩ : ∃ t, t = ruleOk x.rule := ⟨_, rfl⟩
 obtain ⟨LL, hLL⟩ : ∃ LL, LL = (laidAll x.bars x.runs).map mainOf := ⟨_, rfl⟩
 have Hd := hide (show detOk x = (tm && tl && td && tr && decide (x.laps.length ≤ 1000) && lapsFrom (LL.map MainD.opt) [] [] x.laps) by rw [detOk, detHead, htm, htl, htd, htr, hLL, mains_opt])
 rw [← htm] at HM
 rw [← htl] at HL HMM Hlen
 rw [← htd] at HD
 rw [← htr] at HR
 rw [← hLL] at HMM
 have HLL := hide (show LL.length = (laidAll x.bars x.runs).length by rw [hLL, List.length_map])
 have HL0 := hide hLL
 obtain ⟨mem, bars, runs, laps, dems, rule⟩ := x
 obtain ⟨a1, n1, c1, a2, n2, c2, a3, n3, c3, a4, n4, c4, a5, n5, c5, a6, n6, c6⟩ := s
 obtain ⟨name, boxes, holes, cover, agg, poker⟩ := mem
 obtain ⟨r1, r2, r3, r4, r5, r6, r7, r8, r9⟩ := rule
 simp only at HM HL HMM HD HR H5 L5 M5 Hlen HLL HL0
 have m5 : n5 ≤ 60000 := M5.out
 clear htm htl htd htr hLL M5
 have K0 := hide (Blk.new w 34 #[.string name, .slice a1 n1 c1, .slice a2 n2 c2, .int .i64 cover, .int .i64 agg, .int .i64 poker, .slice a3 n3 c3, .slice a4 n4 c4, .slice a5 n5 c5, .slice a6 n6 c6, .int .i64 r1, .int .i64 r2, .int .i64 r3, .int .i64 r4, .int .i64 r5, .int .i64 r6, .int .i64 r7, .int .i64 r8, .int .i64 r9])
 have HW := hide (below_new w (.cells #[.string name, .slice a1 n1 c1, .slice a2 n2 c2, .int .i64 cover, .int .i64 agg, .int .i64 poker, .slice a3 n3 c3, .slice a4 n4 c4, .slice a5 n5 c5, .slice a6 n6 c6, .int .i64 r1, .int .i64 r2, .int .i64 r3, .int .i64 r4, .int .i64 r5, .int .i64 r6, .int .i64 r7, .int .i64 r8, .int .i64 r9] 34))
 show Calls Tryz.prog 56 #[.agg #[.string name, .slice a1 n1 c1, .slice a2 n2 c2, .int .i64 cover, .int .i64 agg, .int .i64 poker, .slice a3 n3 c3, .slice a4 n4 c4, .slice a5 n5 c5, .slice a6 n6 c6, .int .i64 r1, .int .i64 r2, .int .i64 r3, .int .i64 r4, .int .i64 r5, .int .i64 r6, .int .i64 r7, .int .i64 r8, .int .i64 r9]] w _
 go_enter Tryz.func56, Tryz.ntmps56
 go_wp2_with fail
 refine (HM.out _ HW.out).mono ?_
 rintro e W2 ⟨rfl, hb2⟩
 have K0 := hide (K0.out.keep hb2)
 have HW := hide (below_step HW.out hb2 (Nat.le_refl _))
 clear hb2 HM
 cases tm
 ·have hres := hide (show detOk ⟨⟨name, boxes, holes, cover, agg, poker⟩, bars, runs, laps, dems, ⟨r1, r2, r3, r4, r5, r6, r7, r8, r9⟩⟩ = false by rw [Hd.out]; simp)
  go_wp2_with fail
  go_ret2
  exact .inl ⟨hres.out, rfl, HW.out⟩
 have e6 := K0.out.cell 6
 have e7 := K0.out.cell 7
 simp at e6 e7
 have hk0 := K0.out.lt
 go_wp2_with fail
 refine (HL.out _ HW.out).mono ?_
 clear e6 e7
 rintro e W2 ⟨rfl, hb2⟩
 have K0 := hide (K0.out.keep hb2)
 have HW := hide (below_step HW.out hb2 (Nat.le_refl _))
 clear hb2 HL
 cases tl
 ·have hres := hide (show detOk ⟨⟨name, boxes, holes, cover, agg, poker⟩, bars, runs, laps, dems, ⟨r1, r2, r3, r4, r5, r6, r7, r8, r9⟩⟩ = false by rw [Hd.out]; simp)
  go_wp2_with fail
  go_ret2
  exact .inl ⟨hres.out, rfl, HW.out⟩
 have e9 := K0.out.cell 9
 simp at e9
 have hk0 := K0.out.lt
 go_wp2_with fail
 refine (HD.out _ HW.out).mono ?_
 clear e9
 rintro e W2 ⟨rfl, hb2⟩
 have K0 := hide (K0.out.keep hb2)
 have HW := hide (below_step HW.out hb2 (Nat.le_refl _))
 clear hb2 HD
 cases td
 ·have hres := hide (show detOk ⟨⟨name, boxes, holes, cover, agg, poker⟩, bars, runs, laps, dems, ⟨r1, r2, r3, r4, r5, r6, r7, r8, r9⟩⟩ = false by rw [Hd.out]; simp)
  go_wp2_with fail
  go_ret2
  exact .inl ⟨hres.out, rfl, HW.out⟩
 have e10 := K0.out.cell 10
 have e11 := K0.out.cell 11
 have e12 := K0.out.cell 12
 have e13 := K0.out.cell 13
 have e14 := K0.out.cell 14
 have e15 := K0.out.cell 15
 have e16 := K0.out.cell 16
 have e17 := K0.out.cell 17
 have e18 := K0.out.cell 18
 simp at e10 e11 e12 e13 e14 e15 e16 e17 e18
 have hk0 := K0.out.lt
 go_wp2_with fail
 refine (HR.out _).mono ?_
 clear e10 e11 e12 e13 e14 e15 e16 e17 e18
 rintro e W2 ⟨rfl, hb2⟩
 have K0 := hide (K0.out.keep hb2)
 have HW := hide (below_step HW.out hb2 (Nat.le_refl _))
 clear hb2 HR
 cases tr
 ·have hres := hide (show detOk ⟨⟨name, boxes, holes, cover, agg, poker⟩, bars, runs, laps, dems, ⟨r1, r2, r3, r4, r5, r6, r7, r8, r9⟩⟩ = false by rw [Hd.out]; simp)
  go_wp2_with fail
  go_ret2
  exact .inl ⟨hres.out, rfl, HW.out⟩
 have e8 := K0.out.cell 8
 simp at e8
 have hk0 := K0.out.lt
 by_cases hbig : 1000 < n5
 ·have d0 : decide (1000 < (n5 : Int)) = true := by simp; omega
  have Hd := hide (show detOk ⟨⟨name, boxes, holes, cover, agg, poker⟩, bars, runs, laps, dems, ⟨r1, r2, r3, r4, r5, r6, r7, r8, r9⟩⟩ = (true && false) by rw [Hd.out, decide_eq_false (by rw [← L5.out]; omega)]; rfl)
  have hres := hide (show detOk ⟨⟨name, boxes, holes, cover, agg, poker⟩, bars, runs, laps, dems, ⟨r1, r2, r3, r4, r5, r6, r7, r8, r9⟩⟩ = false by rw [Hd.out]; simp)
  go_wp2_with fail
  go_ret2
  exact .inl ⟨hres.out, rfl, HW.out⟩
 have d0 : decide (1000 < (n5 : Int)) = false := by simp; omega
 have Hd := hide (show detOk ⟨⟨name, boxes, holes, cover, agg, poker⟩, bars, runs, laps, dems, ⟨r1, r2, r3, r4, r5, r6, r7, r8, r9⟩⟩ = lapsFrom (LL.map MainD.opt) [] [] (laps.drop 0) by rw [Hd.out, decide_eq_true (by rw [← L5.out]; omega)]; rfl)
 have hln := Hlen.out trivial
 have hmm := @run_makeMap Tryz.prog
 have Hi := hide (show (Tryz.prog.info? 34).map (·.size) = some 19 by kernel_rfl)
 go_wp2_with (refine wpList_load_row rfl 34 (.tmp 1) rfl w.heap.size rfl 34 _ (0, 0) _ K0.out Tryz.underlying34 rfl Hi.out ?_)
 refine (HMM.out _ HW.out trivial).mono ?_
 rintro e wM ⟨AM, cM, rfl, hmains, hb2⟩
 have K0 := hide (K0.out.keep hb2)
 have HWM := hide (below_step HW.out hb2 (Nat.le_refl _))
 have HMs := hide hmains
 have e8 := K0.out.cell 8
 simp at e8
 have hk0 := K0.out.lt
 clear hb2 HMM hmains Hi
 have hll := HLL.out
 rw [← hll] at hln ⊢
 generalize hgl : LL.length = nl at *
 have Hnl := hide hgl.symm
 have hB1 := BSet.new wM
 have hB2 := (BSet.new wM).alloc (.map #[] 0)
 have hB3 := BSet.new (wM.alloc (.map #[] 0))
 rw [size_alloc'] at hB3
 have HB2 := hide hB2
 have HB3 := hide hB3
 have HbM := hide (below_new2 wM (.map #[] 0) (.map #[] 0))
 have HJ := hide (fun (W : World) (hz : Below wM.heap.size wM W) (j : JoinD) => joint_any AM LL nl cM j W (HMs.out.carry (Flat.carried _) hz (Nat.le_refl _)) hz.size Hnl.out (by omega))
 have Hrg := hide (fun (j : JoinD) (h : jointOk LL j = true) => jointOk_range h (by rw [← Hnl.out]; exact hln))
 clear hgl hB1 hB2 hB3 hll
 go_wp2_with fail
 go_loopw [46] (fun i wr => ∃ k : Nat, k ≤ n5 ∧ i = .int .i64 k ∧ (∃ f t : List Int, BSet wr wM.heap.size k f ∧ BSet wr (wM.heap.size + 1) k t ∧ Hid (detOk ⟨⟨name, boxes, holes, cover, agg, poker⟩, bars, runs, laps, dems, ⟨r1, r2, r3, r4, r5, r6, r7, r8, r9⟩⟩ = lapsFrom (LL.map MainD.opt) f t (laps.drop k))) ∧ Below wM.heap.size wM wr) (fun i _ => n5 - (intOf i).toNat)
 case atStart => exact ⟨0, Nat.zero_le _, rfl, ⟨[], [], HB2.out, HB3.out, Hd⟩, HbM.out⟩
 case round =>
  clear HB2 HB3 HbM Hd K0 hk0 e8
  obtain ⟨k, hk, rfl, ⟨f, t, hf, ht, hq⟩, hbr⟩ := hrel
  have HWr := hide (below_step HWM.out hbr (Nat.le_refl _))
  by_cases hlt : k < n5
  ·obtain ⟨b, off, j, rfl, hbl, hx, c0, c1⟩ := JoinsAt.get (k := k) (H5.out.carry (Flat.carried _) (HWr.out.mono hB) (Nat.le_refl _)) (by rw [← L5.out]; exact hlt)
   have Hq := hide (hq.out.trans (lapsFrom_at hx f t))
   have hbw : b < wr.heap.size := by have := HWr.out.size; omega
   have HJj := hide (fun (W : World) (hz : Below wM.heap.size wM W) => HJ.out W hz j)
   have Hrj := hide (Hrg.out j)
   have Hjk := hide (show lapsFit (LL.map MainD.opt) j = jointOk LL j from rfl)
   obtain ⟨tj, htj⟩ : ∃ t, t = jointOk LL j := ⟨_, rfl⟩
   rw [← htj] at HJj Hrj Hjk
   rw [Hjk.out] at Hq
   obtain ⟨j1, j2⟩ := j
   simp only at c0 c1 HJj Hrj Hq
   have HF := hide (hf.alloc (.cells #[.int .i64 j1, .int .i64 j2] 73))
   have HT := hide (ht.alloc (.cells #[.int .i64 j1, .int .i64 j2] 73))
   have K1 := hide (Blk.new wr 73 #[.int .i64 j1, .int .i64 j2])
   have HR := hide (hbr.alloc hbr.size (.cells #[.int .i64 j1, .int .i64 j2] 73))
   have ltF := hf.lt
   have ltT := ht.lt
   clear hx hbl htj hq hf ht hbr Hjk
   go_wp2_with fail
   refine (HJj.out _ HR.out).mono ?_
   rintro e w2 ⟨rfl, hb2⟩
   have K1 := hide (K1.out.keep hb2)
   have HF := hide (HF.out.keep hb2)
   have HT := hide (HT.out.keep hb2)
   have HR := hide (below_step HR.out hb2 (Nat.le_refl _))
   have HWr := hide (below_step HWM.out HR.out (Nat.le_refl _))
   have d0 := K1.out.cell 0
   have d1 := K1.out.cell 1
   simp at d0 d1
   have hk1 := K1.out.lt
   clear hb2 HJj c0 c1
   cases tj
   ·have hres := hide (show detOk ⟨⟨name, boxes, holes, cover, agg, poker⟩, bars, runs, laps, dems, ⟨r1, r2, r3, r4, r5, r6, r7, r8, r9⟩⟩ = false by rw [Hq.out]; rfl)
    go_wp2_with fail
    go_ret2
    exact .inl ⟨hres.out, rfl, HWr.out⟩
   obtain ⟨i1, i2⟩ := Hrj.out rfl
   have hl1 := HF.out.look i1
   cases hc1 : f.contains j1
   ·rw [hc1] at hl1
    have hl2 := HT.out.look i2
    cases hc2 : t.contains j2
    ·rw [hc2] at hl2
     have Hq2 := hide (show detOk ⟨⟨name, boxes, holes, cover, agg, poker⟩, bars, runs, laps, dems, ⟨r1, r2, r3, r4, r5, r6, r7, r8, r9⟩⟩ = lapsFrom (LL.map MainD.opt) (j1 :: f) (j2 :: t) (laps.drop (k + 1)) by rw [Hq.out, hc1, hc2]; rfl)
     have I1 := hide i1
     have I2 := hide i2
     clear hc1 hc2 Hq i1 i2
     go_wp2_with fail
     clear hl1 hl2
     have hk9 : k ≤ 1000000 := by omega
     obtain ⟨w6, run6, h6, hg6⟩ := HF.out.drew.store I1.out hk9
     have h7 := HT.out.drew.grown hg6 (by omega)
     obtain ⟨w8, run8, h8, hg8⟩ := h7.store I2.out hk9
     have H8 := hide h8
     have H9 := hide (h6.grown hg8 (by omega))
     have hb6 := below_grown (HR.out.drew) hg6 HR.out.size (Nat.le_refl _)
     have hb8 := hide (below_grown hb6 hg8 hb6.size (by omega))
     have d2 := ((K1.out.drew).grown hg6 (by simp; omega)).cell 1
     simp at d2
     have hk6 : wr.heap.size < w6.heap.size := Nat.lt_of_lt_of_le hk1 hg6.size
     clear h6 h7 h8 hg6 hg8 hb6
     go_region
     all_goals
      clear d0
      go_wp2_with fail
      go_roundw
      case rel => exact ⟨k + 1, by omega, by go_num, ⟨j1 :: f, j2 :: t, H9.out, H8.out, Hq2⟩, hb8.out⟩
      case measure => simp [intOf]; omega
    ·rw [hc2] at hl2
     have hres := hide (show detOk ⟨⟨name, boxes, holes, cover, agg, poker⟩, bars, runs, laps, dems, ⟨r1, r2, r3, r4, r5, r6, r7, r8, r9⟩⟩ = false by rw [Hq.out, hc2]; simp)
     clear hc1 hc2
     go_wp2_with fail
     go_ret2
     exact .inl ⟨hres.out, rfl, HWr.out⟩
   ·rw [hc1] at hl1
    have hres := hide (show detOk ⟨⟨name, boxes, holes, cover, agg, poker⟩, bars, runs, laps, dems, ⟨r1, r2, r3, r4, r5, r6, r7, r8, r9⟩⟩ = false by rw [Hq.out, hc1]; simp)
    clear hc1
    go_wp2_with fail
    go_ret2
    exact .inl ⟨hres.out, rfl, HWr.out⟩
  ·obtain rfl : k = n5 := by omega
   have hres := hide (show detOk ⟨⟨name, boxes, holes, cover, agg, poker⟩, bars, runs, laps, dems, ⟨r1, r2, r3, r4, r5, r6, r7, r8, r9⟩⟩ = true by rw [hq.out, L5.out, List.drop_length]; rfl)
   have HMf := hide (show MainsAt wr wr.heap.size AM LL from HMs.out.carry (Flat.carried _) hbr hbr.size)
   clear hf ht hq
   go_wp2_with fail
   go_ret2
   exact .inr ⟨hres.out, AM, cM, by rw [← HLL.out]; rfl, by rw [← HL0.out]; exact HMf.out, HWr.out⟩
set_option maxHeartbeats 1000000 in
set_option maxRecDepth 100000 in
theorem lapValid_any (x : DetD) (s : DetS) (w : World) {B : Nat} (h : DetAt w B x s) (hB : B ≤ w.heap.size) (hf : DetFit x s) :
  Calls Tryz.prog 61 #[detV x s] w fun e w' => e = .returned (.bool (detOk x)) ∧ Below w.heap.size w w' := by
 have HL := hide (fun (W : World) (hz : Below w.heap.size w W) => look_any x s W (h.carry (hz.mono hB) (Nat.le_refl _)) (Nat.le_trans hB hz.size) hf)
 have K0 := hide (Blk.new w 34 (detCells x.mem x.rule s))
 have HW := hide (below_new w (.cells (detCells x.mem x.rule s) 34))
 have Hi := hide (show (Tryz.prog.info? 34).map (·.size) = some 19 by kernel_rfl)
 obtain ⟨mem, bars, runs, laps, dems, rule⟩ := x
 obtain ⟨a1, n1, c1, a2, n2, c2, a3, n3, c3, a4, n4, c4, a5, n5, c5, a6, n6, c6⟩ := s
 obtain ⟨name, boxes, holes, cover, agg, poker⟩ := mem
 obtain ⟨r1, r2, r3, r4, r5, r6, r7, r8, r9⟩ := rule
 simp only [detCells] at K0 HW
 clear h hf
 show Calls Tryz.prog 61 #[.agg #[.string name, .slice a1 n1 c1, .slice a2 n2 c2, .int .i64 cover, .int .i64 agg, .int .i64 poker, .slice a3 n3 c3, .slice a4 n4 c4, .slice a5 n5 c5, .slice a6 n6 c6, .int .i64 r1, .int .i64 r2, .int .i64 r3, .int .i64 r4, .int .i64 r5, .int .i64 r6, .int .i64 r7, .int .i64 r8, .int .i64 r9]] w _
 go_enter Tryz.func61, Tryz.ntmps61
 go_wp2_with (refine wpList_load_row rfl 34 (.tmp 1) rfl w.heap.size rfl 34 _ (0, 0) _ K0.out Tryz.underlying34 rfl Hi.out ?_)
 refine (HL.out _ HW.out).mono ?_
 rintro e w2 (⟨hd, rfl, hb2⟩ | ⟨hd, A, c, rfl, _, hb2⟩)
 all_goals
  have Hd := hide hd
  have Hb := hide (below_step HW.out hb2 (Nat.le_refl _))
  clear hd hb2 HL K0 HW Hi
  go_wp2_with fail
  go_ret
  exact ⟨ret_bool Hd.out.symm, Hb.out⟩
theorem boxOk_iff {b : BoxD} : boxOk b = true ↔ (b.lo.1 ≤ b.hi.1 ∧ -1048576 ≤ b.lo.1 ∧ b.hi.1 ≤ 1048576) ∧ (b.lo.2.1 ≤ b.hi.2.1 ∧ -1048576 ≤ b.lo.2.1 ∧ b.hi.2.1 ≤ 1048576) ∧ (b.lo.2.2 ≤ b.hi.2.2 ∧ -1048576 ≤ b.lo.2.2 ∧ b.hi.2.2 ≤ 1048576) := by
 simp [boxOk, axes, axisFine, axisOk, and_assoc]
theorem hullOn_ok : ∀ (l : List BoxD) (a : BoxD), boxOk a = true → l.all boxOk = true → boxOk (hullOn a l) = true := by
 intro l
 induction l with
 | nil => intro a h _; exact h
 | cons b l ih =>
  intro a ha hl
  rw [List.all_cons, Bool.and_eq_true] at hl
  refine ih _ ?_ hl.2
  have h1 := boxOk_iff.1 ha
  have h2 := boxOk_iff.1 hl.1
  rw [boxOk_iff]
  simp only [minP, maxP]
  omega
theorem hullOf_ok {l : List BoxD} (hn : 1 ≤ l.length) (h : l.all boxOk = true) : boxOk (hullOf l) = true := by
 cases l with
 | nil => simp at hn
 | cons b l =>
  have h9 := h
  rw [List.all_cons, Bool.and_eq_true] at h9
  exact hullOn_ok (b :: l) b h9.1 h
theorem detOk_parts {x : DetD} (h : detOk x = true) : memOk x.mem = true ∧ laidOk x.bars x.runs = true ∧ solidOk x.mem.boxes x.mem.holes = true := by
 simp only [detOk, detHead, Bool.and_eq_true] at h
 have hm := h.1.1.1.1.1
 refine ⟨hm, h.1.1.1.1.2, ?_⟩
 simp only [memOk, Bool.and_eq_true] at hm
 exact hm.1.1.1.2
structure PieceD where
 cut : BoxD
 bar : Int
 size : Int
 cross : Bool
theorem snoc_ind {α : Type} {P : List α → Prop} (h0 : P []) (h1 : ∀ l x, P l → P (l ++ [x])) (l : List α) : P l := by
 rw [← List.reverse_reverse l]
 induction l.reverse with
 | nil => exact h0
 | cons x r ih => rw [List.reverse_cons]; exact h1 _ _ ih
def opensB (h b : BoxD) : Bool := decide (b.lo.1 < h.hi.1) && decide (h.lo.1 < b.hi.1) && decide (b.lo.2.1 < h.hi.2.1) && decide (h.lo.2.1 < b.hi.2.1) && decide (b.lo.2.2 < h.hi.2.2) && decide (h.lo.2.2 < b.hi.2.2)
def holdsB (a b : BoxD) : Bool := decide (a.lo.1 ≤ b.lo.1) && decide (b.hi.1 ≤ a.hi.1) && decide (a.lo.2.1 ≤ b.lo.2.1) && decide (b.hi.2.1 ≤ a.hi.2.1) && decide (a.lo.2.2 ≤ b.lo.2.2) && decide (b.hi.2.2 ≤ a.hi.2.2)
def opensAt (b : BoxD) (h : BoxD) : Bool := opensB h b
def holdsAt (b : BoxD) (a : BoxD) : Bool := holdsB a b
def putD (x : DetD) (r : RunD) : DetD := ⟨x.mem, x.bars, x.runs ++ [r], x.laps, x.dems, x.rule⟩
def goneAt (frm n i : Int) : Bool := decide (frm ≤ i) && decide (i < frm + n)
def movedTo (frm n i : Int) : Int := if frm ≤ i then i - n else i
def keptLap (frm n : Int) (j : JoinD) : Bool := !goneAt frm n j.first && !goneAt frm n j.second
def movedLap (frm n : Int) (j : JoinD) : JoinD := ⟨movedTo frm n j.first, movedTo frm n j.second⟩
def lapsLess (frm n : Int) (l : List JoinD) : List JoinD := (l.filter (keptLap frm n)).map (movedLap frm n)
def cntAt (l : List RunD) (k : Nat) : Int := match l[k]? with | some r => r.count | none => 0
def dropD (x : DetD) (k : Nat) : DetD := ⟨x.mem, x.bars, x.runs.eraseIdx k, lapsLess (countRuns (x.runs.take k)) (cntAt x.runs k) x.laps, x.dems, x.rule⟩
theorem lapsLess_snoc (frm n : Int) (l : List JoinD) (j : JoinD) : lapsLess frm n (l ++ [j]) = lapsLess frm n l ++ (if keptLap frm n j then [movedLap frm n j] else []) := by
 simp only [lapsLess, List.filter_append, List.map_append]
 cases h : keptLap frm n j <;> simp [h]
theorem lapsFrom_mem {ms : List (Option BoxD)} : ∀ (l : List JoinD) (f s : List Int), lapsFrom ms f s l = true → ∀ j ∈ l, lapsFit ms j = true := by
 intro l
 induction l with
 | nil => intro f s _ j hj; cases hj
 | cons y l ih =>
  intro f s h j hj
  simp only [lapsFrom, Bool.and_eq_true] at h
  rcases List.mem_cons.1 hj with rfl | hj
  ·exact h.1.1.1
  ·exact ih _ _ h.2 j hj
theorem lapsFit_range {ms : List (Option BoxD)} {j : JoinD} (h : lapsFit ms j = true) : 0 ≤ j.first ∧ j.first < (ms.length : Int) ∧ 0 ≤ j.second ∧ j.second < (ms.length : Int) := by
 simp only [lapsFit, Bool.and_eq_true, zzJ] at h
 exact ⟨h.1.1.1.1, h.1.1.1.2, h.1.1.2, h.1.2⟩
theorem detOk_laps {x : DetD} (h : detOk x = true) : lapsFrom ((laidAll x.bars x.runs).map mainLeg) [] [] x.laps = true := by
 simp only [detOk, Bool.and_eq_true] at h
 exact h.2
theorem detOk_lap {x : DetD} (h : detOk x = true) : ∀ j ∈ x.laps, 0 ≤ j.first ∧ j.first < countRuns x.runs ∧ 0 ≤ j.second ∧ j.second < countRuns x.runs := by
 intro j hj
 have h1 := lapsFit_range (lapsFrom_mem _ _ _ (detOk_laps h) j hj)
 have h2 := (laidOk_len (detOk_parts h).2.1).1
 rw [List.length_map] at h1
 omega
def pairOk (a b : Option BoxD) : Bool := match a, b with
 | some a, some b => decide (a.lo.1 < b.lo.1) && decide (a.hi.1 < b.hi.1) && decide (b.lo.1 ≤ a.hi.1)
 | _, _ => false
theorem lapsFit_iff {ms : List (Option BoxD)} {j : JoinD} : lapsFit ms j = true ↔ 0 ≤ j.first ∧ j.first < (ms.length : Int) ∧ 0 ≤ j.second ∧ j.second < (ms.length : Int) ∧ pairOk (ms.getD j.first.toNat none) (ms.getD j.second.toNat none) = true := by
 have h : lapsFit ms j = (decide (0 ≤ j.first) && decide (j.first < ms.length) && decide (0 ≤ j.second) && decide (j.second < ms.length) && pairOk (ms.getD j.first.toNat none) (ms.getD j.second.toNat none)) := rfl
 rw [h]
 simp only [Bool.and_eq_true, zzJ, and_assoc]
theorem schedFrom_at {l : List BarD} : ∀ (r : List BarD) (k : Nat), schedFrom l k r = true → ∀ (j : Nat) (x : BarD), r[j]? = some x → idx (markIs x.mark) l = ((k + j : Nat) : Int) := by
 intro r
 induction r with
 | nil => intro k _ j x h; simp at h
 | cons y r ih =>
  intro k h j x hx
  simp only [schedFrom, Bool.and_eq_true, zzJ] at h
  cases j with
  | zero =>
   obtain rfl : y = x := by simpa using hx
   exact h.1.2
  | succ j =>
   rw [List.getElem?_cons_succ] at hx
   rw [ih (k + 1) h.2 j x hx]
   congr 1
   omega
theorem sched_at {l : List BarD} (h : schedOk l = true) {j : Nat} {x : BarD} (hx : l[j]? = some x) : idx (markIs x.mark) l = (j : Int) := by
 simp only [schedOk, Bool.and_eq_true] at h
 rw [schedFrom_at l 0 h.2 j x hx, Nat.zero_add]
def OneMark (l : List BarD) : Prop := ∀ (i j : Nat) (x y : BarD), l[i]? = some x → l[j]? = some y → x.mark = y.mark → i = j
theorem sched_one {l : List BarD} (h : schedOk l = true) : OneMark l := by
 intro i j x y hx hy he
 have h1 := sched_at h hx
 have h2 := sched_at h hy
 rw [he, h2] at h1
 omega
def sizeTo (l : List BarD) : ByteArray → Int := l.foldl (fun f b => putS f b.mark b.size) (fun _ => 0)
theorem sizeTo_snoc (l : List BarD) (b : BarD) : sizeTo (l ++ [b]) = putS (sizeTo l) b.mark b.size := by simp [sizeTo, List.foldl_append]
theorem sizeTo_at : ∀ (l : List BarD), OneMark l → ∀ x ∈ l, sizeTo l x.mark = x.size := by
 refine snoc_ind ?_ ?_
 ·intro _ x hx; simp at hx
 ·intro l z ih h x hx
  rw [sizeTo_snoc, putS]
  by_cases he : x.mark = z.mark
  ·rw [if_pos he]
   obtain ⟨i, hi, hxi⟩ := List.getElem_of_mem hx
   have h1 : (l ++ [z])[i]? = some x := by rw [List.getElem?_eq_getElem hi, hxi]
   have h2 : (l ++ [z])[l.length]? = some z := by simp
   have h3 := h i l.length x z h1 h2 he
   rw [h3, h2] at h1
   injection h1 with h1
   rw [h1]
  ·rw [if_neg he]
   rcases List.mem_append.1 hx with h1 | h1
   ·refine ih (fun i j u v hu hv huv => h i j u v ?_ ?_ huv) x h1
    ·rw [List.getElem?_append_left (lt_of_get hu)]; exact hu
    ·rw [List.getElem?_append_left (lt_of_get hv)]; exact hv
   ·rw [List.mem_singleton] at h1
    exact absurd (by rw [h1]) he
theorem laidOk_sched {bars : List BarD} {runs : List RunD} (h : laidOk bars runs = true) : schedOk bars = true := by
 simp only [laidOk, Bool.and_eq_true] at h
 exact h.1.1
theorem laid_bar {bars : List BarD} {runs : List RunD} (hok : laidOk bars runs = true) {i : Nat} {l : LaidD} (hl : (laidAll bars runs)[i]? = some l) : l.bar ∈ bars := by
 have hm := mem_of_get hl
 simp only [laidAll, List.mem_flatMap] at hm
 obtain ⟨u, hu, hm⟩ := hm
 obtain ⟨j, y, hj, hy, hyb, _⟩ := runOk_bar ((laidOk_mem hok).2.2 u hu)
 rw [laidRun_of hyb] at hm
 simp only [laidTo, List.mem_map] at hm
 obtain ⟨q, _, rfl⟩ := hm
 exact mem_of_get hy
theorem bar_size {bars : List BarD} {runs : List RunD} (hok : laidOk bars runs = true) {x : BarD} (hx : x ∈ bars) : isSize x.size = true := by
 have h := (laidOk_mem hok).1 x hx
 simp only [barOk, Bool.and_eq_true] at h
 simp_all
theorem isSize_int {d : Int} (h : isSize d = true) : InInt d := by
 have := isSize_range h
 unfold InInt
 omega
theorem hull_pair (p q : Pt) : hullOf [ptBox p, ptBox q] = legBox p q := by
 obtain ⟨p1, p2, p3⟩ := p
 obtain ⟨q1, q2, q3⟩ := q
 simp [hullOf, hullOn, ptBox, legBox, minP, maxP]
theorem ptBox_ok {p : Pt} (h : nearBy 1048576 p = true) : boxOk (ptBox p) = true := by
 obtain ⟨a, b, c⟩ := nearBy_iff.1 h
 rw [boxOk_iff]
 simp only [ptBox]
 omega
theorem leg_ok {p q : Pt} (hp : nearBy 1048576 p = true) (hq : nearBy 1048576 q = true) : boxOk (legBox p q) = true := by
 obtain ⟨a, b, c⟩ := nearBy_iff.1 hp
 obtain ⟨d, e, f⟩ := nearBy_iff.1 hq
 rw [boxOk_iff]
 simp only [legBox, minP, maxP]
 omega
theorem pts_pair {w : World} {B b off : Nat} {l : List Pt} {k : Nat} {p q : Pt} (h : PtsAt w B (some ⟨b, off, none⟩) l) (hp : l[k]? = some p) (hq : l[k + 1]? = some q) : PtsAt w B (some ⟨b, off + k * 3, none⟩) [p, q] := by
 obtain ⟨b', off', hA, hb, hc⟩ := h (by have := lt_of_get hp; omega)
 injection hA with hA
 injection hA with h1 h2
 subst h1
 subst h2
 intro _
 refine ⟨b, off + k * 3, rfl, hb, fun j x hx => ?_⟩
 have hj : l[k + j]? = some x := by
  match j, hx with
  | 0, hx => simp at hx; subst hx; exact hp
  | 1, hx => simp at hx; subst hx; exact hq
  | j + 2, hx => simp at hx
 obtain ⟨vs, hs, hr, hv⟩ := hc (k + j) x hj
 exact ⟨vs, hs, hr, fun i v hi => by
  have := hv i v hi
  rwa [show off + (k + j) * 3 + i = off + k * 3 + j * 3 + i by omega] at this⟩
theorem laid_near {bars : List BarD} : ∀ (runs : List RunD) (i : Nat) (l : LaidD), (∀ r ∈ runs, runOk bars r = true) → (laidAll bars runs)[i]? = some l → (∀ p ∈ l.pts, nearBy 1048576 p = true) ∧ 1 ≤ l.pts.length ∧ l.pts.length ≤ 7 := by
 intro runs
 induction runs with
 | nil => intro i l _ h; simp [laidAll] at h
 | cons r runs ih =>
  intro i l hok h
  obtain ⟨j, x, hj, hx', hx, _⟩ := runOk_bar (hok r (by simp))
  have e : laidAll bars (r :: runs) = laidTo x r r.count.toNat ++ laidAll bars runs := by rw [← laidRun_of hx]; simp [laidAll]
  rw [e] at h
  by_cases hi : i < r.count.toNat
  ·rw [List.getElem?_append_left (by rw [laidTo_len]; exact hi)] at h
   simp [laidTo, hi] at h
   subst h
   refine ⟨runOk_near (hok r (by simp)) hx (by omega) (by omega), ?_⟩
   simp only [ptsOf, List.length_map, pathOf_len]
   have := legsOf_len x.code
   omega
  ·rw [List.getElem?_append_right (by rw [laidTo_len]; omega)] at h
   exact ih _ l (fun z hz => hok z (List.mem_cons_of_mem _ hz)) h
set_option maxHeartbeats 4000000 in
set_option maxRecDepth 100000 in
theorem laidLegs_row (A3 A4 : Option Addr) (bars : List BarD) (runs : List RunD) (n3 c3 n4 c4 i : Nat) (ld : LaidD) (w : World) {B : Nat} (h3 : BarsAt w B A3 bars) (h4 : RunsAt w B A4 runs) (hB : B ≤ w.heap.size) (l3 : n3 = bars.length) (l4 : n4 = runs.length) (m3 : n3 ≤ 60000) (m4 : n4 ≤ 60000) (htame : Tame bars) (hok : laidOk bars runs = true) (hi : (laidAll bars runs)[i]? = some ld) :
  Calls Tryz.prog 115 #[.slice A3 n3 c3, .slice A4 n4 c4, .int .i64 i] w fun e w' => ∃ A c, e = .returned (.tuple #[.slice A (legsOfPts ld.pts).length c, .int .i64 0]) ∧ Row w' w.heap.size 62 6 encB (.slice A (legsOfPts ld.pts).length c) (legsOfPts ld.pts) ∧ Below w.heap.size w w' := by
 have HP := hide (laidPath_ok A3 A4 bars runs n3 c3 n4 c4 i ld w h3 h4 hB l3 l4 m3 m4 htame hok hi)
 obtain ⟨hnear, hl1, hl7⟩ := laid_near runs i ld (laidOk_mem hok).2.2 hi
 have Hnear := hide hnear
 obtain ⟨pts, hpts⟩ : ∃ pts, pts = ld.pts := ⟨_, rfl⟩
 rw [← hpts] at HP hl1 hl7 Hnear ⊢
 obtain ⟨n, hn⟩ : ∃ n, n = pts.length := ⟨_, rfl⟩
 rw [← hn] at HP hl1 hl7
 have Hn := hide hn
 clear h3 h4 hB l3 l4 m3 m4 htame hok hi hnear hpts hn
 go_enter Tryz.func115, Tryz.ntmps115
 go_wp2_with fail
 refine HP.out.mono ?_
 rintro e w1 ⟨A, rfl, hp, hb1⟩
 have Hp := hide hp
 have Hb1 := hide hb1
 clear HP hp hb1
 go_wp2_with fail
 go_loopw [10, 11] (fun v iv wr => ∃ k : Nat, k + 1 ≤ n ∧ iv = .int .i64 ((k : Int) + 1) ∧ (∃ acc : List BoxD, Row wr w1.heap.size 62 6 encB v acc ∧ Hid (acc = (legsOfPts pts).take k)) ∧ Below w1.heap.size w1 wr) (fun _ iv _ => n - (intOf iv).toNat)
 case atStart => exact ⟨0, hl1, rfl, ⟨[], Row.nil _ _ _ _ _, hide rfl⟩, Below.refl _ _⟩
 case round =>
  obtain ⟨k, hk, rfl, ⟨acc, hrow, hacc⟩, hbr⟩ := hrel
  obtain ⟨A0, c0, rfl⟩ := hrow.val
  have hal : acc.length ≤ 1000 := by rw [hacc.out, List.length_take]; omega
  have Hrow := hide hrow
  clear hrow
  by_cases hlt : k + 1 < n
  ·obtain ⟨b, off, p, hA, hbl, hx, e3, e4, e5⟩ := PtsAt.get (k := k) (Hp.out.carry (Flat.carried _) hbr hbr.size) (by rw [← Hn.out]; omega)
   obtain ⟨b', off', q, hA', hbl', hy, e0, e1, e2⟩ := PtsAt.get (k := k + 1) (Hp.out.carry (Flat.carried _) hbr hbr.size) (by rw [← Hn.out]; exact hlt)
   clear hA' hbl' e0 e1 e2 e3 e4 e5
   subst hA
   have hsub : k + 1 + 1 - k = 2 := by omega
   have HPo := hide (fun (W : World) (hz : Below w1.heap.size w1 W) => points_any (some ⟨b, off + k * 3, none⟩) [p, q] 2 (n - k) W (pts_pair (Hp.out.carry (Flat.carried _) hz (Nat.le_refl _)) hx hy) hz.size rfl (by omega))
   have HHu := hide (fun (W : World) (A' : Option Addr) (c' : Nat) (h : BoxesAt W W.heap.size A' ([p, q].map ptBox)) => boxHull_ok A' ([p, q].map ptBox) 2 c' W h (Nat.le_refl _) rfl (by omega) (by omega) (by simp [ptBox_ok (Hnear.out p (mem_of_get hx)), ptBox_ok (Hnear.out q (mem_of_get hy))]))
   have Hhp := hide (show hullOf ([p, q].map ptBox) = legBox p q from hull_pair p q)
   have Hn2 := hide (show (legsOfPts pts).take (k + 1) = acc ++ [legBox p q] by rw [take_snoc' (legsOfPts_at pts k p q hx hy), hacc.out])
   have z1 : IntKind.i64.wrap ((k : Int) + 1 - 1) = (k : Int) := by rw [Int.add_sub_cancel]; exact IntWalk.i64_in _ (by omega)
   have z2 : IntKind.i64.wrap (k : Int) = (k : Int) := IntWalk.i64_in _ (by omega)
   have z3 : IntKind.i64.wrap ((k : Int) + 1 + 1) = (k : Int) + 1 + 1 := IntWalk.i64_in _ (by omega)
   have HB := hide hbr
   clear hx hy hbl hbr
   go_wp2_with fail
   refine (HPo.out _ HB.out).mono ?_
   rintro e w2 ⟨A6, c6, rfl, hbx, hb2⟩
   have HHu2 := hide (HHu.out w2 A6 c6 hbx)
   have HB2 := hide (below_step HB.out hb2 (Nat.le_refl _))
   have Hrow2 := hide (Hrow.out.keep hb2)
   clear hbx hb2 HPo HHu
   go_wp2_with fail
   refine HHu2.out.mono ?_
   rintro e w3 ⟨rfl, hb3⟩
   rw [Hhp.out]
   have HB3 := hide (below_step HB2.out hb3 (Nat.le_refl _))
   have Hrow3 := hide (Hrow2.out.keep hb3)
   generalize legBox p q = lb at *
   obtain ⟨⟨x1, x2, x3⟩, x4, x5, x6⟩ := lb
   have hs3 := HB3.out.size
   clear hb3 HHu2 Hhp
   go_wp2_with (at_builtin; refine wpList_append1 rfl (.tmp 44) (.tmp 46) 22 rfl w1.heap.size 62 (.agg #[.int .i64 0, .int .i64 0, .int .i64 0, .int .i64 0, .int .i64 0, .int .i64 0]) 6 48 encB Tryz.underlying22 (by kernel_rfl) rfl (by omega) encB_len encB_one _ acc ⟨(x1, x2, x3), (x4, x5, x6)⟩ rfl ((Hrow3.out.alloc _).alloc _) _ rfl (Blk.new1 w3 _ _ _) (by omega) (by omega) (le_alloc (le_alloc hs3 _) _) ?_; intro A1 c1 w6 hrow6 hb6 _)
   go_roundw
   case rel => exact ⟨k + 1, by omega, by go_num, ⟨acc ++ [⟨(x1, x2, x3), (x4, x5, x6)⟩], by simpa using hrow6, hide Hn2.out.symm⟩, ((HB3.out.alloc hs3 _).alloc (le_alloc hs3 _) _).trans hb6⟩
   case measure => simp [intOf]; omega
  ·have hk9 : k + 1 = n := by omega
   have hf : acc = legsOfPts pts := by
    rw [hacc.out]
    exact List.take_of_length_le (by rw [legsOfPts_len, ← Hn.out]; omega)
   have hlen := hide (show (legsOfPts pts).length = acc.length by rw [hf])
   have Hr := hide (show Row wr w.heap.size 62 6 encB (.slice A0 (legsOfPts pts).length c0) (legsOfPts pts) by rw [← hf]; exact rowBase Hb1.out.size Hrow.out)
   have Hb := hide (below_step Hb1.out hbr (Nat.le_refl _))
   clear hf hacc Hrow hbr
   generalize acc.length = m at *
   go_wp2_with fail
   go_ret2
   exact ⟨A0, c0, by rw [hlen.out]; rfl, Hr.out, Hb.out⟩
theorem laidLegs_ok (A3 A4 : Option Addr) (bars : List BarD) (runs : List RunD) (n3 c3 n4 c4 i : Nat) (ld : LaidD) (w : World) {B : Nat} (h3 : BarsAt w B A3 bars) (h4 : RunsAt w B A4 runs) (hB : B ≤ w.heap.size) (l3 : n3 = bars.length) (l4 : n4 = runs.length) (m3 : n3 ≤ 60000) (m4 : n4 ≤ 60000) (htame : Tame bars) (hok : laidOk bars runs = true) (hi : (laidAll bars runs)[i]? = some ld) :
  Calls Tryz.prog 115 #[.slice A3 n3 c3, .slice A4 n4 c4, .int .i64 i] w fun e w' => ∃ A c, e = .returned (.tuple #[.slice A (legsOfPts ld.pts).length c, .int .i64 0]) ∧ BoxesAt w' w'.heap.size A (legsOfPts ld.pts) ∧ Below w.heap.size w w' :=
 (laidLegs_row A3 A4 bars runs n3 c3 n4 c4 i ld w h3 h4 hB l3 l4 m3 m4 htame hok hi).mono fun _ _ ⟨A, c, he, hr, hb⟩ => ⟨A, c, he, Row.read hr encB_len (by omega), hb⟩
theorem step_far8 {s : Pt} {k : Int} (h : nearBy 2097152 s = true) (h0 : 0 ≤ k) (h1 : k ≤ 999) : nearBy 4294967296 (mulP k s) = true := by
 obtain ⟨a, b, c⟩ := nearBy_iff.1 h
 have key : ∀ v : Int, -2097152 ≤ v ∧ v ≤ 2097152 → -4294967296 ≤ k * v ∧ k * v ≤ 4294967296 := by
  intro v hv
  obtain ⟨f, g⟩ := mul_between (s := v) h0 h1
  rcases Int.le_total 0 v with hs | hs
  ·have := f hs; omega
  ·have := g hs; omega
 rw [nearBy_iff, mulP]
 exact ⟨key _ a, key _ b, key _ c⟩
set_option maxHeartbeats 4000000 in
set_option maxRecDepth 100000 in
theorem refPts_ok (A3 A4 : Option Addr) (bars : List BarD) (runs : List RunD) (n3 c3 n4 c4 i : Nat) (ld : LaidD) (w : World) {B : Nat} (h3 : BarsAt w B A3 bars) (h4 : RunsAt w B A4 runs) (hB : B ≤ w.heap.size) (l3 : n3 = bars.length) (l4 : n4 = runs.length) (m3 : n3 ≤ 60000) (hok : laidOk bars runs = true) (hi : (laidAll bars runs)[i]? = some ld) :
    Calls Tryz.prog 211 #[.slice A3 n3 c3, .slice A4 n4 c4, .int .i64 i] w fun e w' => ∃ A c, e = .returned (.slice A ld.pts.length c) ∧ PtsAt w' w'.heap.size A ld.pts ∧ ld.pts.length ≤ c ∧ Below w.heap.size w w' := by
  obtain ⟨hbars, hlen, hruns⟩ := laidOk_mem hok
  have hi9 : i ≤ 100000 := by have := (laidOk_len hok).2; have := lt_of_get hi; omega
  have HP := hide (fun (W : World) (hz : Below w.heap.size w W) => refPlaceL_ok bars A4 runs n4 c4 i ld W (h4.carry (Flat.carried _) (hz.mono hB) (Nat.le_refl _)) l4 (by omega) hruns hi hi9)
  have HBa := hide (fun (W : World) (hz : Below w.heap.size w W) => refBar_ok A3 A4 bars runs n3 c3 n4 c4 i ld W (h3.carry (hz.mono hB) (Nat.le_refl _)) (h4.carry (Flat.carried _) (hz.mono hB) (Nat.le_refl _)) (Nat.le_trans hB hz.size) l3 l4 m3 hok hi)
  have Hbk := hide (fun (k : Nat) (r : RunD) (hk : runs[k]? = some r) (hx : runBar bars r = some ld.bar) => find_bar (hruns r (mem_of_get hk)) hx)
  obtain ⟨bar, pts⟩ := ld
  simp only at HP HBa Hbk ⊢
  have Hro := hide (fun (k : Nat) (r : RunD) (hk : runs[k]? = some r) => hruns r (mem_of_get hk))
  have Hbo := hide hbars
  have H4 := hide h4
  have L4 := hide l4
  have HB := hide hB
  clear h3 h4 l3 l4 hok hi hruns hlen hbars hB
  go_enter Tryz.func211, Tryz.ntmps211
  go_wp2_with fail
  refine (HP.out _ (Below.refl _ _)).mono ?_
  rintro e w1 ⟨k, j, r, rfl, hk, hx, hj, hrb, hpts, rfl⟩
  obtain ⟨q, hq, hy⟩ := Hbk.out k r hx hrb
  have hro := Hro.out k r hx
  have hbo := Hbo.out _ (mem_of_get hy)
  obtain ⟨jj, x', _, _, _, htu⟩ := runOk_bar hro
  have hfar : nearBy 4294967296 (mulP (j : Int) r.step) = true := by
    have h9 := runOk_count hro
    simp only [runOk, runHead, Bool.and_eq_true, Bool.or_eq_true, zzJ] at hro
    rcases hro.1.1.2 with h8 | h8
    · obtain rfl : j = 0 := by omega
      simp [mulP, nearBy_iff]
    · exact step_far8 h8.2 (by omega) (by omega)
  have HPt := hide (fun (A' : Option Addr) (c' : Nat) (W : World) (hdi : Ints W B A' bar.dims) (hz : Below w.heap.size w W) => refPoints_ok bar A' c' r j W hdi (Nat.le_trans HB.out hz.size) hbo htu (runOk_place hro) (by omega) hfar)
  rw [← hpts] at HPt
  obtain ⟨b, off, r', rfl, hbl, hx', hc⟩ := RunsAt.get (k := k) H4.out (by rw [← L4.out]; exact hk)
  rw [hx] at hx'
  injection hx' with hx'
  subst hx'
  have hbw : b < w.heap.size := Nat.lt_of_lt_of_le hbl HB.out
  obtain ⟨mark, tx, ty, ⟨a1, a2, a3⟩, ⟨s1, s2, s3⟩, cnt⟩ := r
  obtain ⟨mk, sz, ct, cd, dims⟩ := bar
  have e0 := hc 0 _ rfl
  have e1 := hc 1 _ rfl
  have e2 := hc 2 _ rfl
  have e3 := hc 3 _ rfl
  have e4 := hc 4 _ rfl
  have e5 := hc 5 _ rfl
  have e6 := hc 6 _ rfl
  have e7 := hc 7 _ rfl
  have e8 := hc 8 _ rfl
  have e9 := hc 9 _ rfl
  simp only [Nat.add_zero] at e0 e1 e2 e3 e4 e5 e6 e7 e8 e9
  simp only [barV] at HBa HPt
  have HC := hide (fun (W : World) (h : Below w.heap.size w W) => show W.cell? ⟨b, off + k * 10, none⟩ = some (.string mark) ∧ W.cell? ⟨b, off + k * 10 + 1, none⟩ = some (.int .i64 tx) ∧ W.cell? ⟨b, off + k * 10 + 2, none⟩ = some (.int .i64 ty) ∧ W.cell? ⟨b, off + k * 10 + 3, none⟩ = some (.int .i64 a1) ∧ W.cell? ⟨b, off + k * 10 + 4, none⟩ = some (.int .i64 a2) ∧ W.cell? ⟨b, off + k * 10 + 5, none⟩ = some (.int .i64 a3) ∧ W.cell? ⟨b, off + k * 10 + 6, none⟩ = some (.int .i64 s1) ∧ W.cell? ⟨b, off + k * 10 + 7, none⟩ = some (.int .i64 s2) ∧ W.cell? ⟨b, off + k * 10 + 8, none⟩ = some (.int .i64 s3) ∧ W.cell? ⟨b, off + k * 10 + 9, none⟩ = some (.int .i64 cnt) from
    ⟨(h.cell (p := ⟨b, off + k * 10, none⟩) hbw).trans e0, (h.cell (p := ⟨b, off + k * 10 + 1, none⟩) hbw).trans e1, (h.cell (p := ⟨b, off + k * 10 + 2, none⟩) hbw).trans e2, (h.cell (p := ⟨b, off + k * 10 + 3, none⟩) hbw).trans e3, (h.cell (p := ⟨b, off + k * 10 + 4, none⟩) hbw).trans e4, (h.cell (p := ⟨b, off + k * 10 + 5, none⟩) hbw).trans e5, (h.cell (p := ⟨b, off + k * 10 + 6, none⟩) hbw).trans e6, (h.cell (p := ⟨b, off + k * 10 + 7, none⟩) hbw).trans e7, (h.cell (p := ⟨b, off + k * 10 + 8, none⟩) hbw).trans e8, (h.cell (p := ⟨b, off + k * 10 + 9, none⟩) hbw).trans e9⟩)
  clear hx hbl hc hq hy hro hbo htu hfar hrb hpts hj HP Hbk Hro Hbo H4 L4
  have hS0 := HC.out _ (Below.drew (Below.refl w.heap.size w))
  have hBx := Below.drew (Below.refl w.heap.size w)
  go_wp2_with fail
  first
    | (go_region_held3 (fun W => W.cell? ⟨b, off + k * 10, none⟩ = some (.string mark) ∧ W.cell? ⟨b, off + k * 10 + 1, none⟩ = some (.int .i64 tx) ∧ W.cell? ⟨b, off + k * 10 + 2, none⟩ = some (.int .i64 ty) ∧ W.cell? ⟨b, off + k * 10 + 3, none⟩ = some (.int .i64 a1) ∧ W.cell? ⟨b, off + k * 10 + 4, none⟩ = some (.int .i64 a2) ∧ W.cell? ⟨b, off + k * 10 + 5, none⟩ = some (.int .i64 a3) ∧ W.cell? ⟨b, off + k * 10 + 6, none⟩ = some (.int .i64 s1) ∧ W.cell? ⟨b, off + k * 10 + 7, none⟩ = some (.int .i64 s2) ∧ W.cell? ⟨b, off + k * 10 + 8, none⟩ = some (.int .i64 s3) ∧ W.cell? ⟨b, off + k * 10 + 9, none⟩ = some (.int .i64 cnt))
        (first | (with_reducible assumption) | go_keep)
        (first
          | (go_at_call 99
             (with_reducible refine (HBa.out _ hBx).mono ?_); rintro e wz ⟨A5, c5, rfl, hdi, hbz⟩
             have hBx := below_step hBx hbz (Nat.le_refl _)
             have hS' := HC.out _ hBx)
          | (go_at_call 147
             (with_reducible refine (HPt.out _ _ _ hdi hBx).mono ?_); rintro e wz ⟨A6, c6, rfl, hp6, hc6, hbz⟩
             have hBx := below_step hBx hbz (Nat.le_refl _)
             have hS' := HC.out _ hBx)))
    | fail
  all_goals
    have Hp6 := hide hp6
    go_wp2_with fail
    go_ret
    exact ⟨A6, c6, rfl, Hp6.out, hc6, hBx⟩
set_option maxHeartbeats 4000000 in
set_option maxRecDepth 100000 in
theorem refLegs_row (A3 A4 : Option Addr) (bars : List BarD) (runs : List RunD) (n3 c3 n4 c4 i : Nat) (ld : LaidD) (w : World) {B : Nat} (h3 : BarsAt w B A3 bars) (h4 : RunsAt w B A4 runs) (hB : B ≤ w.heap.size) (l3 : n3 = bars.length) (l4 : n4 = runs.length) (m3 : n3 ≤ 60000) (hok : laidOk bars runs = true) (hi : (laidAll bars runs)[i]? = some ld) :
  Calls Tryz.prog 152 #[.slice A3 n3 c3, .slice A4 n4 c4, .int .i64 i] w fun e w' => ∃ A c b0, e = .returned (.slice A (legsOfPts ld.pts).length c) ∧ Row w' b0 62 6 encB (.slice A (legsOfPts ld.pts).length c) (legsOfPts ld.pts) ∧ Below w.heap.size w w' := by
 have HP := hide (refPts_ok A3 A4 bars runs n3 c3 n4 c4 i ld w h3 h4 hB l3 l4 m3 hok hi)
 obtain ⟨hnear, hl1, hl7⟩ := laid_near runs i ld (laidOk_mem hok).2.2 hi
 obtain ⟨bar, pts⟩ := ld
 simp only at HP hl1 hl7 ⊢
 obtain ⟨n, hn⟩ : ∃ n, n = pts.length := ⟨_, rfl⟩
 rw [← hn] at HP hl1 hl7
 have Hn := hide hn
 clear h3 h4 hB l3 l4 m3 hok hi hnear hn
 go_enter Tryz.func152, Tryz.ntmps152
 go_wp2_with fail
 refine HP.out.mono ?_
 rintro e w1 ⟨A, c, rfl, hp, hcp, hb1⟩
 have Hp := hide hp
 have Hb1 := hide hb1
 clear HP hp hb1
 go_wp2_with fail
 go_loopw [8, 9] (fun v iv wr => ∃ k : Nat, k + 1 ≤ n ∧ iv = .int .i64 ((k : Int) + 1) ∧ (∃ acc : List BoxD, Row wr w1.heap.size 62 6 encB v acc ∧ Hid (acc = (legsOfPts pts).take k)) ∧ Below w1.heap.size w1 wr) (fun _ iv _ => n - (intOf iv).toNat)
 case atStart => exact ⟨0, hl1, rfl, ⟨[], Row.nil _ _ _ _ _, hide rfl⟩, Below.refl _ _⟩
 case round =>
  obtain ⟨k, hk, rfl, ⟨acc, hrow, hacc⟩, hbr⟩ := hrel
  obtain ⟨A0, c0, rfl⟩ := hrow.val
  have hal : acc.length ≤ 1000 := by rw [hacc.out, List.length_take]; omega
  have Hrow := hide hrow
  clear hrow
  by_cases hlt : k + 1 < n
  ·obtain ⟨b, off, p, hA, hbl, hx, e3, e4, e5⟩ := PtsAt.get (k := k) (Hp.out.carry (Flat.carried _) hbr hbr.size) (by rw [← Hn.out]; omega)
   obtain ⟨b', off', q, hA', hbl', hy, e0, e1, e2⟩ := PtsAt.get (k := k + 1) (Hp.out.carry (Flat.carried _) hbr hbr.size) (by rw [← Hn.out]; exact hlt)
   clear hA' hbl' e0 e1 e2 e3 e4 e5
   subst hA
   have hsub : k + 1 + 1 - k = 2 := by omega
   have HHu := hide (fun (W : World) (hz : Below w1.heap.size w1 W) => refHull2_any (some ⟨b, off + k * 3, none⟩) p q (c - k) W (pts_pair (Hp.out.carry (Flat.carried _) hz (Nat.le_refl _)) hx hy) hz.size)
   have Hn2 := hide (show (legsOfPts pts).take (k + 1) = acc ++ [legBox p q] by rw [take_snoc' (legsOfPts_at pts k p q hx hy), hacc.out])
   have z1 : IntKind.i64.wrap ((k : Int) + 1 - 1) = (k : Int) := by rw [Int.add_sub_cancel]; exact IntWalk.i64_in _ (by omega)
   have z2 : IntKind.i64.wrap (k : Int) = (k : Int) := IntWalk.i64_in _ (by omega)
   have z3 : IntKind.i64.wrap ((k : Int) + 1 + 1) = (k : Int) + 1 + 1 := IntWalk.i64_in _ (by omega)
   have HB := hide hbr
   have hkc : k + 1 + 1 ≤ c := by omega
   clear hx hy hbl hbr
   go_wp2_with fail
   refine (HHu.out _ HB.out).mono ?_
   rintro e w3 ⟨rfl, hb3⟩
   have HB3 := hide (below_step HB.out hb3 (Nat.le_refl _))
   have Hrow3 := hide (Hrow.out.keep hb3)
   generalize legBox p q = lb at *
   obtain ⟨⟨x1, x2, x3⟩, x4, x5, x6⟩ := lb
   have hs3 := HB3.out.size
   clear hb3 HHu
   go_wp2_with (at_builtin; refine wpList_append1 rfl (.tmp 20) (.tmp 28) 22 rfl w1.heap.size 62 (.agg #[.int .i64 0, .int .i64 0, .int .i64 0, .int .i64 0, .int .i64 0, .int .i64 0]) 6 48 encB Tryz.underlying22 (by kernel_rfl) rfl (by omega) encB_len encB_one _ acc ⟨(x1, x2, x3), (x4, x5, x6)⟩ rfl (Hrow3.out.alloc _) _ rfl (Blk.new w3 _ _) (by omega) (by omega) (le_alloc hs3 _) ?_; intro A1 c1 w6 hrow6 hb6 _)
   go_roundw
   case rel => exact ⟨k + 1, by omega, by go_num, ⟨acc ++ [⟨(x1, x2, x3), (x4, x5, x6)⟩], by simpa using hrow6, hide Hn2.out.symm⟩, (HB3.out.alloc hs3 _).trans hb6⟩
   case measure => simp [intOf]; omega
  ·have hk9 : k + 1 = n := by omega
   have hf : acc = legsOfPts pts := by
    rw [hacc.out]
    exact List.take_of_length_le (by rw [legsOfPts_len, ← Hn.out]; omega)
   have hlen := hide (show (legsOfPts pts).length = acc.length by rw [hf])
   have Hr := hide (show Row wr w1.heap.size 62 6 encB (.slice A0 acc.length c0) (legsOfPts pts) by rw [← hf]; exact Hrow.out)
   have Hb := hide (below_step Hb1.out hbr (Nat.le_refl _))
   clear hf hacc Hrow hbr
   generalize acc.length = m at *
   go_wp2_with fail
   go_ret
   exact ⟨A0, c0, w1.heap.size, by rw [hlen.out]; rfl, by rw [hlen.out]; exact Hr.out, Hb.out⟩
theorem refLegs_ok (A3 A4 : Option Addr) (bars : List BarD) (runs : List RunD) (n3 c3 n4 c4 i : Nat) (ld : LaidD) (w : World) {B : Nat} (h3 : BarsAt w B A3 bars) (h4 : RunsAt w B A4 runs) (hB : B ≤ w.heap.size) (l3 : n3 = bars.length) (l4 : n4 = runs.length) (m3 : n3 ≤ 60000) (hok : laidOk bars runs = true) (hi : (laidAll bars runs)[i]? = some ld) :
  Calls Tryz.prog 152 #[.slice A3 n3 c3, .slice A4 n4 c4, .int .i64 i] w fun e w' => ∃ A c, e = .returned (.slice A (legsOfPts ld.pts).length c) ∧ BoxesAt w' w'.heap.size A (legsOfPts ld.pts) ∧ Below w.heap.size w w' := by
 refine (refLegs_row A3 A4 bars runs n3 c3 n4 c4 i ld w h3 h4 hB l3 l4 m3 hok hi).mono ?_
 rintro e w' ⟨A, c, b0, he, hr, hb⟩
 exact ⟨A, c, he, Row.read hr encB_len (by omega), hb⟩
def mainT (o : Option BoxD) : Array Value := match o with
 | some b => #[bxV b, .bool true]
 | none => #[.agg #[.int .i64 0, .int .i64 0, .int .i64 0, .int .i64 0, .int .i64 0, .int .i64 0], .bool false]
set_option maxHeartbeats 4000000 in
set_option maxRecDepth 100000 in
theorem refMain25_ok (x : DetD) (s : DetS) (i : Nat) (ld : LaidD) (w : World) {B : Nat} (h : DetAt w B x s) (hB : B ≤ w.heap.size) (hf : DetFit x s) (hok : laidOk x.bars x.runs = true) (hi : (laidAll x.bars x.runs)[i]? = some ld) :
  Calls Tryz.prog 94 #[detV x s, .int .i64 i] w fun e w' => e = .returned (.tuple (mainT (mainLeg ld))) ∧ Below w.heap.size w w' := by
 have HL := hide (fun (W : World) (hz : Below w.heap.size w W) => refLegs_ok s.a3 s.a4 x.bars x.runs s.n3 s.c3 s.n4 s.c4 i ld W (h.h3.carry (hz.mono hB) (Nat.le_refl _)) (h.h4.carry (Flat.carried _) (hz.mono hB) (Nat.le_refl _)) (Nat.le_trans hB hz.size) hf.l3 hf.l4 hf.m3 hok hi)
 have hl6 : (legsOfPts ld.pts).length ≤ 60000 := by
  obtain ⟨_, hl1, hl7⟩ := laid_near x.runs i ld (laidOk_mem hok).2.2 hi
  rw [legsOfPts_len]
  omega
 have Hml := hide (show mainLeg ld = (legsOfPts ld.pts).find? isMain from rfl)
 generalize legsOfPts ld.pts = LG at *
 obtain ⟨ml, hml⟩ : ∃ ml, ml = mainLeg ld := ⟨_, rfl⟩
 rw [← hml] at Hml ⊢
 have K0 := hide ((Blk.new w 34 (detCells x.mem x.rule s)).alloc (.cells #[.int .i64 0, .int .i64 0, .int .i64 0, .int .i64 0, .int .i64 0, .int .i64 0] 62))
 have KB := hide (Blk.new1 w (.cells (detCells x.mem x.rule s) 34) 62 #[.int .i64 0, .int .i64 0, .int .i64 0, .int .i64 0, .int .i64 0, .int .i64 0])
 have HW := hide (below_new2 w (.cells (detCells x.mem x.rule s) 34) (.cells #[.int .i64 0, .int .i64 0, .int .i64 0, .int .i64 0, .int .i64 0, .int .i64 0] 62))
 obtain ⟨mem, bars, runs, laps, dems, rule⟩ := x
 obtain ⟨a1, n1, c1, a2, n2, c2, a3, n3, c3, a4, n4, c4, a5, n5, c5, a6, n6, c6⟩ := s
 obtain ⟨name, boxes, holes, cover, agg, poker⟩ := mem
 obtain ⟨r1, r2, r3, r4, r5, r6, r7, r8, r9⟩ := rule
 simp only [detCells] at K0 KB HW
 simp only at HL
 have e6 := K0.out.cell 6
 have e7 := K0.out.cell 7
 simp at e6 e7
 clear h hf hB hok hi hml
 show Calls Tryz.prog 94 #[.agg #[.string name, .slice a1 n1 c1, .slice a2 n2 c2, .int .i64 cover, .int .i64 agg, .int .i64 poker, .slice a3 n3 c3, .slice a4 n4 c4, .slice a5 n5 c5, .slice a6 n6 c6, .int .i64 r1, .int .i64 r2, .int .i64 r3, .int .i64 r4, .int .i64 r5, .int .i64 r6, .int .i64 r7, .int .i64 r8, .int .i64 r9], .int .i64 i] w _
 go_enter Tryz.func94, Tryz.ntmps94
 go_wp2_with fail
 refine (HL.out _ HW.out).mono ?_
 rintro e w1 ⟨A1, c1', rfl, hlg, hb1⟩
 have KB := hide (KB.out.keep hb1)
 have HW1 := hide (below_step HW.out hb1 (Nat.le_refl _))
 have HLG := hide hlg
 have HM := hide (refMainLeg_any A1 LG LG.length c1' w1 hlg (Nat.le_refl _) rfl hl6)
 clear hlg hb1 HL HW K0 e6 e7
 go_wp2_with fail
 refine HM.out.mono ?_
 rintro e w2 ⟨rfl, hb2⟩
 have KB := hide (KB.out.keep hb2)
 have HW2 := hide (below_step HW1.out hb2 (Nat.le_refl _))
 have HLG := hide (HLG.out.carry (Flat.carried _) hb2 hb2.size)
 clear hb2 HM HW1
 have u0 := KB.out.cell 0
 have v0 := KB.out.frozen 0
 have u1 := KB.out.cell 1
 have v1 := KB.out.frozen 1
 have u2 := KB.out.cell 2
 have v2 := KB.out.frozen 2
 have u3 := KB.out.cell 3
 have v3 := KB.out.frozen 3
 have u4 := KB.out.cell 4
 have v4 := KB.out.frozen 4
 have u5 := KB.out.cell 5
 have v5 := KB.out.frozen 5
 simp at u0 u1 u2 u3 u4 u5
 have lk := KB.out.lt
 have hrg := idx_range isMain LG
 by_cases hneg : idx isMain LG < 0
 ·have d0 : decide (idx isMain LG < 0) = true := by simpa using hneg
  have Hn := hide (show ml = none by
   rw [Hml.out, List.find?_eq_none]
   intro z hz hm
   have h1 := idx_any isMain LG
   rw [List.any_eq_true.2 ⟨z, hz, hm⟩, zzJ] at h1
   omega)
  generalize idx isMain LG = ix at *
  clear Hml hrg hneg
  go_wp2_with fail
  refine bodyPost_ret (results_ct rfl rfl ((((((KB.out.set_ 0 _).set_ 1 _).set_ 2 _).set_ 3 _).set_ 4 _).set_ 5 _) Tryz.underlying62 rfl (by kernel_rfl)) rfl ?_
  refine ⟨?_, ((((((HW2.out.setCell (p := ⟨w.heap.size + 1, 0, none⟩) (Nat.le_succ _) _).setCell (p := ⟨w.heap.size + 1, 1, none⟩) (Nat.le_succ _) _).setCell (p := ⟨w.heap.size + 1, 2, none⟩) (Nat.le_succ _) _).setCell (p := ⟨w.heap.size + 1, 3, none⟩) (Nat.le_succ _) _).setCell (p := ⟨w.heap.size + 1, 4, none⟩) (Nat.le_succ _) _).setCell (p := ⟨w.heap.size + 1, 5, none⟩) (Nat.le_succ _) _)⟩
  simp only [zzD, zzE, zzF]
  rw [Hn.out]
  rfl
 ·obtain ⟨j, hj⟩ := Int.eq_ofNat_of_zero_le (show 0 ≤ idx isMain LG by omega)
  obtain ⟨y, hy, hp, hno⟩ := idx_spec hj
  have Hn := hide (show ml = some y by rw [Hml.out]; exact NoneTo.find hno hy hp)
  obtain ⟨b, off, y', rfl, hbl, hy', f0, f1, f2, f3, f4, f5⟩ := BoxesAt.get (k := j) HLG.out (lt_of_get hy)
  rw [hy] at hy'
  injection hy' with hy'
  subst hy'
  have d0 : decide ((j : Int) < 0) = false := by simp
  have hjl : j < LG.length := lt_of_get hy
  rw [hj]
  obtain ⟨⟨y1, y2, y3⟩, y4, y5, y6⟩ := y
  simp only at f0 f1 f2 f3 f4 f5
  generalize LG.length = ln at *
  clear Hml hrg hneg hj hy hp hno
  go_wp2_with fail
  refine bodyPost_ret (results_ct rfl rfl ((((((KB.out.set_ 0 _).set_ 1 _).set_ 2 _).set_ 3 _).set_ 4 _).set_ 5 _) Tryz.underlying62 rfl (by kernel_rfl)) rfl ?_
  refine ⟨?_, ((((((HW2.out.setCell (p := ⟨w.heap.size + 1, 0, none⟩) (Nat.le_succ _) _).setCell (p := ⟨w.heap.size + 1, 1, none⟩) (Nat.le_succ _) _).setCell (p := ⟨w.heap.size + 1, 2, none⟩) (Nat.le_succ _) _).setCell (p := ⟨w.heap.size + 1, 3, none⟩) (Nat.le_succ _) _).setCell (p := ⟨w.heap.size + 1, 4, none⟩) (Nat.le_succ _) _).setCell (p := ⟨w.heap.size + 1, 5, none⟩) (Nat.le_succ _) _)⟩
  simp only [zzD, zzE, zzF]
  rw [Hn.out]
  rfl
end Go.Proofs.YtpaanfjjnjjoeaaGreat
