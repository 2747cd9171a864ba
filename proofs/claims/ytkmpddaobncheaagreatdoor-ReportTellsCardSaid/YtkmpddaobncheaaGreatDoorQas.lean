/- Whether a detail is valid. Whether a detail is valid, as a Boolean. Plain: the cuts of a section, their bars, their steel. No walk stands here. Plain: a detail with a further run; a detail without one of its runs. No walk stands here. A map from string to int that the call made. The path of a laid bar: a range over the iterator of all laid bars. The reference of layer 15: images of points. Rows of elements that hold slices, each made anew in turn. No walk stands here. -/
import Derived.Test.YtkmpddaobncheaaGreatDoorQaw
import Derived.Test.YtkmpddaobncheaaGreatDoorQac
import Derived.Deep.RegionWith
import Derived.Test.YtkmpddaobncheaaGreatDoorQar
import Derived.Test.YtkmpddaobncheaaGreatDoorQav
import Derived.Test.YtkmpddaobncheaaGreatDoorQan
import Derived.Lib.QuietBelow
import Derived.Deep.RegionHeld3
import Derived.Deep.Cut
import Derived.Lib.SliceRun
import Derived.Test.YtkmpddaobncheaaGreatDoorQau
namespace Go.Proofs.YtkmpddaobncheaaGreatDoor
open Go.RowKit

def LookPost (x : DetD) (w : World) (e : Ending) (w' : World) : Prop :=
  (detOk x = false ∧ e = .returned (.tuple #[.slice none 0 0, .bool false]) ∧ Below w.heap.size w w') ∨
  (detOk x = true ∧ ∃ A c, e = .returned (.tuple #[.slice A (laidAll x.bars x.runs).length c, .bool true]) ∧ MainsAt w' w'.heap.size A ((laidAll x.bars x.runs).map mainOf) ∧ Below w.heap.size w w')
theorem lapsFrom_at {ms : List (Option BoxD)} {l : List JoinD} {k : Nat} {j : JoinD} (h : l[k]? = some j) (f s : List Int) :
    lapsFrom ms f s (l.drop k) = (lapsFit ms j && !f.contains j.first && !s.contains j.second && lapsFrom ms (j.first :: f) (j.second :: s) (l.drop (k + 1))) := by
  rw [drop_at' h, lapsFrom]
theorem jointOk_range {l : List MainD} {j : JoinD} (h : jointOk l j = true) (hl : l.length ≤ 2000) : InInt j.first ∧ InInt j.second := by
  simp only [jointOk, lapsFit, Bool.and_eq_true, decide_eq_true_eq, List.length_map] at h
  unfold InInt
  omega
set_option maxHeartbeats 4000000 in
set_option maxRecDepth 100000 in
theorem look_any (x : DetD) (s : DetS) (w : World) {B : Nat} (h : DetAt w B x s) (hB : B ≤ w.heap.size) (hf : DetFit x s) :
    Calls Tryz.prog 50 #[detV x s] w fun e w' => LookPost x w e w' := by
  have HMM := hide (fun (W : World) (hz : Below w.heap.size w W) (hok : laidOk x.bars x.runs = true) => mains_ok x s W (h.carry (hz.mono hB) (Nat.le_refl _)) (Nat.le_trans hB hz.size) hf hok)
  have HM := hide (fun (W : World) (hz : Below w.heap.size w W) => member_any x.mem s.a1 s.a2 s.n1 s.n2 s.c1 s.c2 W (h.h1.carry (Flat.carried _) (hz.mono hB) (Nat.le_refl _)) (h.h2.carry (Flat.carried _) (hz.mono hB) (Nat.le_refl _)) (Nat.le_trans hB hz.size) hf.l1 hf.l2 hf.name)
  have HL := hide (fun (W : World) (hz : Below w.heap.size w W) => laidValid_any s.a3 x.bars s.n3 s.c3 s.a4 x.runs s.n4 s.c4 W (h.h3.carry (hz.mono hB) (Nat.le_refl _)) (h.h4.carry (Flat.carried _) (hz.mono hB) (Nat.le_refl _)) (Nat.le_trans hB hz.size) hf.l3 hf.l4 hf.m3 hf.m4 hf.tame)
  have HD := hide (fun (W : World) (hz : Below w.heap.size w W) => demandValid_any s.a6 x.dems s.n6 s.c6 W (SlOf.carry demR_carried h.h6 (hz.mono hB) (Nat.le_refl _)) (Nat.le_trans hB hz.size) hf.l6 (by have := hf.m6; omega) hf.k6 hf.dems)
  have HR := hide (fun (W : World) => anchorValid_any x.rule W)
  have H5 := hide h.h5
  have L5 := hide hf.l5
  have M5 := hide hf.m5
  have Hlen := hide (fun (hok : laidOk x.bars x.runs = true) => (laidOk_len hok).2)
  clear h hf
  obtain ⟨tm, htm⟩ : ∃ t, t = memOk x.mem := ⟨_, rfl⟩
  obtain ⟨tl, htl⟩ : ∃ t, t = laidOk x.bars x.runs := ⟨_, rfl⟩
  obtain ⟨td, htd⟩ : ∃ t, t = demsOk x.dems := ⟨_, rfl⟩
  obtain ⟨tr, htr⟩ : ∃ t, t = ruleOk x.rule := ⟨_, rfl⟩
  obtain ⟨LL, hLL⟩ : ∃ LL, LL = (laidAll x.bars x.runs).map mainOf := ⟨_, rfl⟩
  have Hd := hide (show detOk x = (tm && tl && td && tr && decide (x.laps.length ≤ 1000) && lapsFrom (LL.map MainD.opt) [] [] x.laps) by rw [detOk, detHead, htm, htl, htd, htr, hLL, mains_opt])
  rw [← htm] at HM
  rw [← htl] at HL HMM Hlen
  rw [← htd] at HD
  rw [← htr] at HR
  rw [← hLL] at HMM
  have HLL := hide (show LL.length = (laidAll x.bars x.runs).length by rw [hLL, List.length_map])
  have HL0 := hide hLL
  obtain ⟨mem, bars, runs, laps, dems, rule⟩ := x
  obtain ⟨a1, n1, c1, a2, n2, c2, a3, n3, c3, a4, n4, c4, a5, n5, c5, a6, n6, c6⟩ := s
  obtain ⟨name, boxes, holes, cover, agg, poker⟩ := mem
  obtain ⟨r1, r2, r3, r4, r5, r6, r7, r8, r9⟩ := rule
  simp only at HM HL HMM HD HR H5 L5 M5 Hlen HLL HL0
  have m5 : n5 ≤ 60000 := M5.out
  clear htm htl htd htr hLL M5
  have K0 := hide (Blk.new w 34 #[.string name, .slice a1 n1 c1, .slice a2 n2 c2, .int .i64 cover, .int .i64 agg, .int .i64 poker, .slice a3 n3 c3, .slice a4 n4 c4, .slice a5 n5 c5, .slice a6 n6 c6, .int .i64 r1, .int .i64 r2, .int .i64 r3, .int .i64 r4, .int .i64 r5, .int .i64 r6, .int .i64 r7, .int .i64 r8, .int .i64 r9])
  have HW := hide (below_new w (.cells #[.string name, .slice a1 n1 c1, .slice a2 n2 c2, .int .i64 cover, .int .i64 agg, .int .i64 poker, .slice a3 n3 c3, .slice a4 n4 c4, .slice a5 n5 c5, .slice a6 n6 c6, .int .i64 r1, .int .i64 r2, .int .i64 r3, .int .i64 r4, .int .i64 r5, .int .i64 r6, .int .i64 r7, .int .i64 r8, .int .i64 r9] 34))
  show Calls Tryz.prog 50 #[.agg #[.string name, .slice a1 n1 c1, .slice a2 n2 c2, .int .i64 cover, .int .i64 agg, .int .i64 poker, .slice a3 n3 c3, .slice a4 n4 c4, .slice a5 n5 c5, .slice a6 n6 c6, .int .i64 r1, .int .i64 r2, .int .i64 r3, .int .i64 r4, .int .i64 r5, .int .i64 r6, .int .i64 r7, .int .i64 r8, .int .i64 r9]] w _
  go_enter Tryz.func50, Tryz.ntmps50
  go_wp2_with fail
  refine (HM.out _ HW.out).mono ?_
  rintro e W2 ⟨rfl, hb2⟩
  have K0 := hide (K0.out.keep hb2)
  have HW := hide (below_step HW.out hb2 (Nat.le_refl _))
  clear hb2 HM
  cases tm
  · have hres := hide (show detOk ⟨⟨name, boxes, holes, cover, agg, poker⟩, bars, runs, laps, dems, ⟨r1, r2, r3, r4, r5, r6, r7, r8, r9⟩⟩ = false by rw [Hd.out]; simp)
    go_wp2_with fail
    go_ret2
    exact .inl ⟨hres.out, rfl, HW.out⟩
  have e6 := K0.out.cell 6
  have e7 := K0.out.cell 7
  simp at e6 e7
  have hk0 := K0.out.lt
  go_wp2_with fail
  refine (HL.out _ HW.out).mono ?_
  clear e6 e7
  rintro e W2 ⟨rfl, hb2⟩
  have K0 := hide (K0.out.keep hb2)
  have HW := hide (below_step HW.out hb2 (Nat.le_refl _))
  clear hb2 HL
  cases tl
  · have hres := hide (show detOk ⟨⟨name, boxes, holes, cover, agg, poker⟩, bars, runs, laps, dems, ⟨r1, r2, r3, r4, r5, r6, r7, r8, r9⟩⟩ = false by rw [Hd.out]; simp)
    go_wp2_with fail
    go_ret2
    exact .inl ⟨hres.out, rfl, HW.out⟩
  have e9 := K0.out.cell 9
  simp at e9
  have hk0 := K0.out.lt
  go_wp2_with fail
  refine (HD.out _ HW.out).mono ?_
  clear e9
  rintro e W2 ⟨rfl, hb2⟩
  have K0 := hide (K0.out.keep hb2)
  have HW := hide (below_step HW.out hb2 (Nat.le_refl _))
  clear hb2 HD
  cases td
  · have hres := hide (show detOk ⟨⟨name, boxes, holes, cover, agg, poker⟩, bars, runs, laps, dems, ⟨r1, r2, r3, r4, r5, r6, r7, r8, r9⟩⟩ = false by rw [Hd.out]; simp)
    go_wp2_with fail
    go_ret2
    exact .inl ⟨hres.out, rfl, HW.out⟩
  have e10 := K0.out.cell 10
  have e11 := K0.out.cell 11
  have e12 := K0.out.cell 12
  have e13 := K0.out.cell 13
  have e14 := K0.out.cell 14
  have e15 := K0.out.cell 15
  have e16 := K0.out.cell 16
  have e17 := K0.out.cell 17
  have e18 := K0.out.cell 18
  simp at e10 e11 e12 e13 e14 e15 e16 e17 e18
  have hk0 := K0.out.lt
  go_wp2_with fail
  refine (HR.out _).mono ?_
  clear e10 e11 e12 e13 e14 e15 e16 e17 e18
  rintro e W2 ⟨rfl, hb2⟩
  have K0 := hide (K0.out.keep hb2)
  have HW := hide (below_step HW.out hb2 (Nat.le_refl _))
  clear hb2 HR
  cases tr
  · have hres := hide (show detOk ⟨⟨name, boxes, holes, cover, agg, poker⟩, bars, runs, laps, dems, ⟨r1, r2, r3, r4, r5, r6, r7, r8, r9⟩⟩ = false by rw [Hd.out]; simp)
    go_wp2_with fail
    go_ret2
    exact .inl ⟨hres.out, rfl, HW.out⟩
  have e8 := K0.out.cell 8
  simp at e8
  have hk0 := K0.out.lt
  by_cases hbig : 1000 < n5
  · have d0 : decide (1000 < (n5 : Int)) = true := by simp; omega
    have Hd := hide (show detOk ⟨⟨name, boxes, holes, cover, agg, poker⟩, bars, runs, laps, dems, ⟨r1, r2, r3, r4, r5, r6, r7, r8, r9⟩⟩ = (true && false) by rw [Hd.out, decide_eq_false (by rw [← L5.out]; omega)]; rfl)
    have hres := hide (show detOk ⟨⟨name, boxes, holes, cover, agg, poker⟩, bars, runs, laps, dems, ⟨r1, r2, r3, r4, r5, r6, r7, r8, r9⟩⟩ = false by rw [Hd.out]; simp)
    go_wp2_with fail
    go_ret2
    exact .inl ⟨hres.out, rfl, HW.out⟩
  have d0 : decide (1000 < (n5 : Int)) = false := by simp; omega
  have Hd := hide (show detOk ⟨⟨name, boxes, holes, cover, agg, poker⟩, bars, runs, laps, dems, ⟨r1, r2, r3, r4, r5, r6, r7, r8, r9⟩⟩ = lapsFrom (LL.map MainD.opt) [] [] (laps.drop 0) by rw [Hd.out, decide_eq_true (by rw [← L5.out]; omega)]; rfl)
  have hln := Hlen.out trivial
  have hmm := @run_makeMap Tryz.prog
  have Hi := hide (show (Tryz.prog.info? 34).map (·.size) = some 19 by kernel_rfl)
  go_wp2_with (refine wpList_load_row rfl 34 (.tmp 1) rfl w.heap.size rfl 34 _ (0, 0) _ K0.out Tryz.underlying34 rfl Hi.out ?_)
  refine (HMM.out _ HW.out trivial).mono ?_
  rintro e wM ⟨AM, cM, rfl, hmains, hb2⟩
  have K0 := hide (K0.out.keep hb2)
  have HWM := hide (below_step HW.out hb2 (Nat.le_refl _))
  have HMs := hide hmains
  have e8 := K0.out.cell 8
  simp at e8
  have hk0 := K0.out.lt
  clear hb2 HMM hmains Hi
  have hll := HLL.out
  rw [← hll] at hln ⊢
  generalize hgl : LL.length = nl at *
  have Hnl := hide hgl.symm
  have hB1 := BSet.new wM
  have hB2 := (BSet.new wM).alloc (.map #[] 0)
  have hB3 := BSet.new (wM.alloc (.map #[] 0))
  rw [size_alloc'] at hB3
  have HB2 := hide hB2
  have HB3 := hide hB3
  have HbM := hide (below_new2 wM (.map #[] 0) (.map #[] 0))
  have HJ := hide (fun (W : World) (hz : Below wM.heap.size wM W) (j : JoinD) => joint_any AM LL nl cM j W (HMs.out.carry (Flat.carried _) hz (Nat.le_refl _)) hz.size Hnl.out (by omega))
  have Hrg := hide (fun (j : JoinD) (h : jointOk LL j = true) => jointOk_range h (by rw [← Hnl.out]; exact hln))
  clear hgl hB1 hB2 hB3 hll
  go_wp2_with fail
  go_loopw [46] (fun i wr => ∃ k : Nat, k ≤ n5 ∧ i = .int .i64 k ∧ (∃ f t : List Int, BSet wr wM.heap.size k f ∧ BSet wr (wM.heap.size + 1) k t ∧ Hid (detOk ⟨⟨name, boxes, holes, cover, agg, poker⟩, bars, runs, laps, dems, ⟨r1, r2, r3, r4, r5, r6, r7, r8, r9⟩⟩ = lapsFrom (LL.map MainD.opt) f t (laps.drop k))) ∧ Below wM.heap.size wM wr) (fun i _ => n5 - (intOf i).toNat)
  case atStart => exact ⟨0, Nat.zero_le _, rfl, ⟨[], [], HB2.out, HB3.out, Hd⟩, HbM.out⟩
  case round =>
    clear HB2 HB3 HbM Hd K0 hk0 e8
    obtain ⟨k, hk, rfl, ⟨f, t, hf, ht, hq⟩, hbr⟩ := hrel
    have HWr := hide (below_step HWM.out hbr (Nat.le_refl _))
    by_cases hlt : k < n5
    · obtain ⟨b, off, j, rfl, hbl, hx, c0, c1⟩ := JoinsAt.get (k := k) (H5.out.carry (Flat.carried _) (HWr.out.mono hB) (Nat.le_refl _)) (by rw [← L5.out]; exact hlt)
      have Hq := hide (hq.out.trans (lapsFrom_at hx f t))
      have hbw : b < wr.heap.size := by have := HWr.out.size; omega
      have HJj := hide (fun (W : World) (hz : Below wM.heap.size wM W) => HJ.out W hz j)
      have Hrj := hide (Hrg.out j)
      have Hjk := hide (show lapsFit (LL.map MainD.opt) j = jointOk LL j from rfl)
      obtain ⟨tj, htj⟩ : ∃ t, t = jointOk LL j := ⟨_, rfl⟩
      rw [← htj] at HJj Hrj Hjk
      rw [Hjk.out] at Hq
      obtain ⟨j1, j2⟩ := j
      simp only at c0 c1 HJj Hrj Hq
      have HF := hide (hf.alloc (.cells #[.int .i64 j1, .int .i64 j2] 163))
      have HT := hide (ht.alloc (.cells #[.int .i64 j1, .int .i64 j2] 163))
      have K1 := hide (Blk.new wr 163 #[.int .i64 j1, .int .i64 j2])
      have HR := hide (hbr.alloc hbr.size (.cells #[.int .i64 j1, .int .i64 j2] 163))
      have ltF := hf.lt
      have ltT := ht.lt
      clear hx hbl htj hq hf ht hbr Hjk
      go_wp2_with fail
      refine (HJj.out _ HR.out).mono ?_
      rintro e w2 ⟨rfl, hb2⟩
      have K1 := hide (K1.out.keep hb2)
      have HF := hide (HF.out.keep hb2)
      have HT := hide (HT.out.keep hb2)
      have HR := hide (below_step HR.out hb2 (Nat.le_refl _))
      have HWr := hide (below_step HWM.out HR.out (Nat.le_refl _))
      have d0 := K1.out.cell 0
      have d1 := K1.out.cell 1
      simp at d0 d1
      have hk1 := K1.out.lt
      clear hb2 HJj c0 c1
      cases tj
      · have hres := hide (show detOk ⟨⟨name, boxes, holes, cover, agg, poker⟩, bars, runs, laps, dems, ⟨r1, r2, r3, r4, r5, r6, r7, r8, r9⟩⟩ = false by rw [Hq.out]; rfl)
        go_wp2_with fail
        go_ret2
        exact .inl ⟨hres.out, rfl, HWr.out⟩
      obtain ⟨i1, i2⟩ := Hrj.out rfl
      have hl1 := HF.out.look i1
      cases hc1 : f.contains j1
      · rw [hc1] at hl1
        have hl2 := HT.out.look i2
        cases hc2 : t.contains j2
        · rw [hc2] at hl2
          have Hq2 := hide (show detOk ⟨⟨name, boxes, holes, cover, agg, poker⟩, bars, runs, laps, dems, ⟨r1, r2, r3, r4, r5, r6, r7, r8, r9⟩⟩ = lapsFrom (LL.map MainD.opt) (j1 :: f) (j2 :: t) (laps.drop (k + 1)) by rw [Hq.out, hc1, hc2]; rfl)
          have I1 := hide i1
          have I2 := hide i2
          clear hc1 hc2 Hq i1 i2
          go_wp2_with fail
          clear hl1 hl2
          have hk9 : k ≤ 1000000 := by omega
          obtain ⟨w6, run6, h6, hg6⟩ := HF.out.drew.store I1.out hk9
          have h7 := HT.out.drew.grown hg6 (by omega)
          obtain ⟨w8, run8, h8, hg8⟩ := h7.store I2.out hk9
          have H8 := hide h8
          have H9 := hide (h6.grown hg8 (by omega))
          have hb6 := below_grown (HR.out.drew) hg6 HR.out.size (Nat.le_refl _)
          have hb8 := hide (below_grown hb6 hg8 hb6.size (by omega))
          have d2 := ((K1.out.drew).grown hg6 (by simp; omega)).cell 1
          simp at d2
          have hk6 : wr.heap.size < w6.heap.size := Nat.lt_of_lt_of_le hk1 hg6.size
          clear h6 h7 h8 hg6 hg8 hb6
          go_region
          all_goals
            clear d0
            go_wp2_with fail
            go_roundw
            case rel => exact ⟨k + 1, by omega, by go_num, ⟨j1 :: f, j2 :: t, H9.out, H8.out, Hq2⟩, hb8.out⟩
            case measure => simp [intOf]; omega
        · rw [hc2] at hl2
          have hres := hide (show detOk ⟨⟨name, boxes, holes, cover, agg, poker⟩, bars, runs, laps, dems, ⟨r1, r2, r3, r4, r5, r6, r7, r8, r9⟩⟩ = false by rw [Hq.out, hc2]; simp)
          clear hc1 hc2
          go_wp2_with fail
          go_ret2
          exact .inl ⟨hres.out, rfl, HWr.out⟩
      · rw [hc1] at hl1
        have hres := hide (show detOk ⟨⟨name, boxes, holes, cover, agg, poker⟩, bars, runs, laps, dems, ⟨r1, r2, r3, r4, r5, r6, r7, r8, r9⟩⟩ = false by rw [Hq.out, hc1]; simp)
        clear hc1
        go_wp2_with fail
        go_ret2
        exact .inl ⟨hres.out, rfl, HWr.out⟩
    · obtain rfl : k = n5 := by omega
      have hres := hide (show detOk ⟨⟨name, boxes, holes, cover, agg, poker⟩, bars, runs, laps, dems, ⟨r1, r2, r3, r4, r5, r6, r7, r8, r9⟩⟩ = true by rw [hq.out, L5.out, List.drop_length]; rfl)
      have HMf := hide (show MainsAt wr wr.heap.size AM LL from HMs.out.carry (Flat.carried _) hbr hbr.size)
      clear hf ht hq
      go_wp2_with fail
      go_ret2
      exact .inr ⟨hres.out, AM, cM, by rw [← HLL.out]; rfl, by rw [← HL0.out]; exact HMf.out, HWr.out⟩
end Go.Proofs.YtkmpddaobncheaaGreatDoor
namespace Go.Proofs.YtkmpddaobncheaaGreatDoor
open Go.RowKit

set_option maxHeartbeats 1000000 in
set_option maxRecDepth 100000 in
theorem lapValid_any (x : DetD) (s : DetS) (w : World) {B : Nat} (h : DetAt w B x s) (hB : B ≤ w.heap.size) (hf : DetFit x s) :
    Calls Tryz.prog 24 #[detV x s] w fun e w' => e = .returned (.bool (detOk x)) ∧ Below w.heap.size w w' := by
  have HL := hide (fun (W : World) (hz : Below w.heap.size w W) => look_any x s W (h.carry (hz.mono hB) (Nat.le_refl _)) (Nat.le_trans hB hz.size) hf)
  have K0 := hide (Blk.new w 34 (detCells x.mem x.rule s))
  have HW := hide (below_new w (.cells (detCells x.mem x.rule s) 34))
  have Hi := hide (show (Tryz.prog.info? 34).map (·.size) = some 19 by kernel_rfl)
  obtain ⟨mem, bars, runs, laps, dems, rule⟩ := x
  obtain ⟨a1, n1, c1, a2, n2, c2, a3, n3, c3, a4, n4, c4, a5, n5, c5, a6, n6, c6⟩ := s
  obtain ⟨name, boxes, holes, cover, agg, poker⟩ := mem
  obtain ⟨r1, r2, r3, r4, r5, r6, r7, r8, r9⟩ := rule
  simp only [detCells] at K0 HW
  clear h hf
  show Calls Tryz.prog 24 #[.agg #[.string name, .slice a1 n1 c1, .slice a2 n2 c2, .int .i64 cover, .int .i64 agg, .int .i64 poker, .slice a3 n3 c3, .slice a4 n4 c4, .slice a5 n5 c5, .slice a6 n6 c6, .int .i64 r1, .int .i64 r2, .int .i64 r3, .int .i64 r4, .int .i64 r5, .int .i64 r6, .int .i64 r7, .int .i64 r8, .int .i64 r9]] w _
  go_enter Tryz.func24, Tryz.ntmps24
  go_wp2_with (refine wpList_load_row rfl 34 (.tmp 1) rfl w.heap.size rfl 34 _ (0, 0) _ K0.out Tryz.underlying34 rfl Hi.out ?_)
  refine (HL.out _ HW.out).mono ?_
  rintro e w2 (⟨hd, rfl, hb2⟩ | ⟨hd, A, c, rfl, _, hb2⟩)
  all_goals
    have Hd := hide hd
    have Hb := hide (below_step HW.out hb2 (Nat.le_refl _))
    clear hd hb2 HL K0 HW Hi
    go_wp2_with fail
    go_ret
    exact ⟨ret_bool Hd.out.symm, Hb.out⟩
theorem boxOk_iff {b : BoxD} : boxOk b = true ↔ (b.lo.1 ≤ b.hi.1 ∧ -1048576 ≤ b.lo.1 ∧ b.hi.1 ≤ 1048576) ∧ (b.lo.2.1 ≤ b.hi.2.1 ∧ -1048576 ≤ b.lo.2.1 ∧ b.hi.2.1 ≤ 1048576) ∧ (b.lo.2.2 ≤ b.hi.2.2 ∧ -1048576 ≤ b.lo.2.2 ∧ b.hi.2.2 ≤ 1048576) := by
  simp [boxOk, axes, axisFine, axisOk, and_assoc]
theorem hullOn_ok : ∀ (l : List BoxD) (a : BoxD), boxOk a = true → l.all boxOk = true → boxOk (hullOn a l) = true := by
  intro l
  induction l with
  | nil => intro a h _; exact h
  | cons b l ih =>
    intro a ha hl
    rw [List.all_cons, Bool.and_eq_true] at hl
    refine ih _ ?_ hl.2
    have h1 := boxOk_iff.1 ha
    have h2 := boxOk_iff.1 hl.1
    rw [boxOk_iff]
    simp only [minP, maxP]
    omega
theorem hullOf_ok {l : List BoxD} (hn : 1 ≤ l.length) (h : l.all boxOk = true) : boxOk (hullOf l) = true := by
  cases l with
  | nil => simp at hn
  | cons b l =>
    have h9 := h
    rw [List.all_cons, Bool.and_eq_true] at h9
    exact hullOn_ok (b :: l) b h9.1 h
theorem detOk_parts {x : DetD} (h : detOk x = true) : memOk x.mem = true ∧ laidOk x.bars x.runs = true ∧ solidOk x.mem.boxes x.mem.holes = true := by
  simp only [detOk, detHead, Bool.and_eq_true] at h
  have hm := h.1.1.1.1.1
  refine ⟨hm, h.1.1.1.1.2, ?_⟩
  simp only [memOk, Bool.and_eq_true] at hm
  exact hm.1.1.1.2
end Go.Proofs.YtkmpddaobncheaaGreatDoor
namespace Go.Proofs.YtkmpddaobncheaaGreatDoor
open Go.RowKit

/-- A leg that a section cuts. -/
structure PieceD where
  cut : BoxD
  bar : Int
  size : Int
  cross : Bool
def encPc (p : PieceD) : List Value := [.int .i64 p.cut.lo.1, .int .i64 p.cut.lo.2.1, .int .i64 p.cut.lo.2.2, .int .i64 p.cut.hi.1, .int .i64 p.cut.hi.2.1, .int .i64 p.cut.hi.2.2, .int .i64 p.bar, .int .i64 p.size, .bool p.cross]
abbrev PcsAt (w : World) (B : Nat) (A : Option Addr) (l : List PieceD) : Prop := SlOf w B 9 (Flat encPc) A l
theorem PcsAt.get {w : World} {B : Nat} {A : Option Addr} {l : List PieceD} (h : PcsAt w B A l) {k : Nat} (hk : k < l.length) :
    ∃ b off x, A = some ⟨b, off, none⟩ ∧ b < B ∧ l[k]? = some x ∧ ∀ j v, (encPc x)[j]? = some v → w.cell? ⟨b, off + k * 9 + j, none⟩ = some v := by
  obtain ⟨b, off, x, vs, hA, hb, hx, _, hr, hc⟩ := h.at_ hk
  have hr' : vs = encPc x := hr
  subst hr'
  exact ⟨b, off, x, hA, hb, hx, hc⟩
/-- The cut without its size, as the reference keeps it. -/
def encPt8 (p : PieceD) : List Value := [.int .i64 p.cut.lo.1, .int .i64 p.cut.lo.2.1, .int .i64 p.cut.lo.2.2, .int .i64 p.cut.hi.1, .int .i64 p.cut.hi.2.1, .int .i64 p.cut.hi.2.2, .int .i64 p.bar, .bool p.cross]
abbrev PartsAt (w : World) (B : Nat) (A : Option Addr) (l : List PieceD) : Prop := SlOf w B 8 (Flat encPt8) A l
theorem PartsAt.get {w : World} {B : Nat} {A : Option Addr} {l : List PieceD} (h : PartsAt w B A l) {k : Nat} (hk : k < l.length) :
    ∃ b off x, A = some ⟨b, off, none⟩ ∧ b < B ∧ l[k]? = some x ∧ ∀ j v, (encPt8 x)[j]? = some v → w.cell? ⟨b, off + k * 8 + j, none⟩ = some v := by
  obtain ⟨b, off, x, vs, hA, hb, hx, _, hr, hc⟩ := h.at_ hk
  have hr' : vs = encPt8 x := hr
  subst hr'
  exact ⟨b, off, x, hA, hb, hx, hc⟩
def areaOf (d : Int) : Int := (7854 * d * d + 50) / 100
end Go.Proofs.YtkmpddaobncheaaGreatDoor
namespace Go.Proofs.YtkmpddaobncheaaGreatDoor
open Go.RowKit

theorem lapsFrom_mem {ms : List (Option BoxD)} : ∀ (l : List JoinD) (f s : List Int), lapsFrom ms f s l = true → ∀ j ∈ l, lapsFit ms j = true := by
  intro l
  induction l with
  | nil => intro f s _ j hj; cases hj
  | cons y l ih =>
    intro f s h j hj
    simp only [lapsFrom, Bool.and_eq_true] at h
    rcases List.mem_cons.1 hj with rfl | hj
    · exact h.1.1.1
    · exact ih _ _ h.2 j hj
theorem lapsFit_range {ms : List (Option BoxD)} {j : JoinD} (h : lapsFit ms j = true) : 0 ≤ j.first ∧ j.first < (ms.length : Int) ∧ 0 ≤ j.second ∧ j.second < (ms.length : Int) := by
  simp only [lapsFit, Bool.and_eq_true, decide_eq_true_eq] at h
  exact ⟨h.1.1.1.1, h.1.1.1.2, h.1.1.2, h.1.2⟩
theorem detOk_laps {x : DetD} (h : detOk x = true) : lapsFrom ((laidAll x.bars x.runs).map mainLeg) [] [] x.laps = true := by
  simp only [detOk, Bool.and_eq_true] at h
  exact h.2
theorem detOk_lap {x : DetD} (h : detOk x = true) : ∀ j ∈ x.laps, 0 ≤ j.first ∧ j.first < countRuns x.runs ∧ 0 ≤ j.second ∧ j.second < countRuns x.runs := by
  intro j hj
  have h1 := lapsFit_range (lapsFrom_mem _ _ _ (detOk_laps h) j hj)
  have h2 := (laidOk_len (detOk_parts h).2.1).1
  rw [List.length_map] at h1
  omega
end Go.Proofs.YtkmpddaobncheaaGreatDoor
namespace Go.Proofs.YtkmpddaobncheaaGreatDoor
open Go.RowKit Go.Maps

theorem zeroInt (w : World) : (zeroValue 3).run Tryz.prog w = .ok (.int .i64 0) w := by kernel_rfl
set_option maxRecDepth 100000 in
theorem plainElem_int_inv' {v : Value} {z : DataW Unit × List MemPlace} (h : plainElem Tryz.prog 3 v = some z) : ∃ x, v = .int .i64 x ∧ z = (.lit (.int .i64 x), []) := by
  obtain ⟨a, h1, h2, _⟩ := plainElem_int_inv Tryz.underlying3 h
  exact ⟨a, h1, h2⟩
/-- Block b is a map that holds the number f s at each string s. -/
def SMap (w : World) (b n : Nat) (f : ByteArray → Int) : Prop :=
  ∃ D : DataW Unit, IsMap D ∧ w.ownsMap Tryz.prog 9 (plainElem Tryz.prog 3) b n D ∧ ∀ s : ByteArray, s.size ≤ maxLen → D.atKey (sKey s) (.lit (.int .i64 0)) = .lit (.int .i64 (f s))
section
variable {w w' : World} {b n : Nat} {f : ByteArray → Int}
set_option maxRecDepth 100000 in
theorem SMap.new (w : World) : SMap (w.alloc (.map #[] 0)) w.heap.size 0 (fun _ => 0) :=
  ⟨.map [], ⟨[], rfl⟩, World.ownsMap_made _ _ _ _, fun _ _ => rfl⟩
set_option maxRecDepth 100000 in
theorem SMap.lt (h : SMap w b n f) : b < w.heap.size := by obtain ⟨D, _, ho, _⟩ := h; exact ho.lt
set_option maxRecDepth 100000 in
theorem SMap.keep (h : SMap w b n f) (hb : Below w.heap.size w w') : SMap w' b n f := by
  obtain ⟨D, hm, ho, ha⟩ := h
  exact ⟨D, hm, ho.kept (row := none) ⟨hb.os, hb.tape, hb.output, hb.size, fun k hk _ => hb.block k hk⟩ (by simp), ha⟩
theorem SMap.alloc (h : SMap w b n f) (o : Obj) : SMap (w.alloc o) b n f := h.keep (below_new w o)
theorem SMap.drew (h : SMap w b n f) : SMap w.drew b n f := h.keep (Below.drew (Below.refl _ _))
set_option maxRecDepth 100000 in
theorem SMap.grown {g : Nat} (h : SMap w b n f) (hg : w.grownBy w' (some g)) (hb : b ≠ g) : SMap w' b n f := by
  obtain ⟨D, hm, ho, ha⟩ := h
  exact ⟨D, hm, ho.kept hg (by simpa using hb), ha⟩
set_option maxRecDepth 100000 in
theorem SMap.below {B : Nat} (h : SMap w b n f) (hb : Below B w w') (hB : b < B) (_hw : B ≤ w.heap.size) : SMap w' b n f := by
  obtain ⟨D, hm, ho, ha⟩ := h
  obtain ⟨es, clock, h1, h2⟩ := ho
  exact ⟨D, hm, ⟨es, clock, (hb.block b hB).trans h1, h2⟩, ha⟩
end
end Go.Proofs.YtkmpddaobncheaaGreatDoor
namespace Go.Proofs.YtkmpddaobncheaaGreatDoor
open Go.RowKit
attribute [local go_sem] Oper.semAt_some

theorem run_loadVar1 {P : Program} {w : World} {g : Nat} {v : Value} {ty : TypeId} {d : TypeDesc} (hc : w.cell? ⟨g, 0, none⟩ = some v) (hu : P.underlying ty = some d) (hd : (match d with | .struct _ | .array _ _ => true | _ => false) = false) :
    (loadVar ty ⟨g, 0, none⟩).run P w = .ok v w := by
  have hagg : (isAgg ty).run P w = .ok false w := by
    unfold isAgg
    rw [Sem.run_bind, run_underlying hu w]
    cases d <;> simp_all
  simp [loadVar, Sem.run_bind, hagg]
  simp [go_sem, hc]
/-- A function's results where both lie in cells of one cell each. -/
theorem results_cc1 {P : Program} {fn : Func} {p q : Tmp} {tp tq : TypeId} (h : fn.results = #[.cell p tp, .cell q tq]) {tmps : Array Value} {w : World} {gp gq : Nat} {vp vq : Value} {dp dq : TypeDesc}
    (hp : tmps.getD p undef = .pointer (some ⟨gp, 0, none⟩)) (hq : tmps.getD q undef = .pointer (some ⟨gq, 0, none⟩)) (cp : w.cell? ⟨gp, 0, none⟩ = some vp) (cq : w.cell? ⟨gq, 0, none⟩ = some vq)
    (hup : P.underlying tp = some dp) (huq : P.underlying tq = some dq) (hdp : (match dp with | .struct _ | .array _ _ => true | _ => false) = false) (hdq : (match dq with | .struct _ | .array _ _ => true | _ => false) = false) :
    (results fn tmps).run P w = .ok (.tuple #[vp, vq]) w := by
  have hp' : tmps[p]?.getD undef = .pointer (some ⟨gp, 0, none⟩) := by simpa using hp
  have hq' : tmps[q]?.getD undef = .pointer (some ⟨gq, 0, none⟩) := by simpa using hq
  simp [results, h, hp', hq', asAddr, run_loadVar1 cp hup hdp, run_loadVar1 cq huq hdq]
set_option maxHeartbeats 400000 in
theorem all_any (A3 A4 : Option Addr) (n3 c3 n4 c4 : Nat) (w : World) :
    Calls Tryz.prog 314 #[.slice A3 n3 c3, .slice A4 n4 c4] w fun e w' => e = .returned (.func (.func 318) #[] #[.pointer (some ⟨w.heap.size + 1, 0, none⟩), .pointer (some ⟨w.heap.size, 0, none⟩)]) ∧
      w' = (w.alloc (.cells #[.slice A3 n3 c3] 27)).alloc (.cells #[.slice A4 n4 c4] 28) := by
  go_enter Tryz.func314, Tryz.ntmps314
  go_wp2_with fail
  go_ret
  exact ⟨rfl, rfl⟩
theorem SlOf.block {α : Type} {enc : α → List Value} {size B B' g : Nat} {L : List α} {w w' : World} (h : SlOf w B size (Flat enc) (some ⟨g, 0, none⟩) L) (he : w'.heap[g]? = w.heap[g]?) (hB : B ≤ B') : SlOf w' B' size (Flat enc) (some ⟨g, 0, none⟩) L := by
  intro hn
  obtain ⟨b, off, hA, hb, hc⟩ := h hn
  injection hA with hA
  injection hA with h1 h2
  subst h1
  subst h2
  refine ⟨g, 0, rfl, Nat.lt_of_lt_of_le hb hB, fun k x hx => ?_⟩
  obtain ⟨vs, hs, hr, hv⟩ := hc k x hx
  exact ⟨vs, hs, hr, fun j v hj => (World.cell?_of_block he).trans (hv j v hj)⟩
/-- The record of a range over a function. -/
def mkRec (fn : FuncId) (tmps : Array Value) (ps : Array Tmp) (assign body : Code) (D : Nat) (st : LoopState) (pe : Option Code) : Loop := { state := st, pending := pe, fn := fn, tmps := tmps, params := ps, assign := assign, body := body, defers := D }
/-- A range over a function whose body leaves, in the end, by a return. -/
theorem range_intro {P : Program} {n : Nat} {g : Operand} {ps : Array Tmp} {assign body : Code} {Q : Exit → Act → World → Prop} {a : Act} {w : World} {gf : Nat} {lb : Array Value} (hg : a.eval g = .func (.func gf) #[] lb) (eg : ∀ args w, (callFunc gf args).run P w = .ok (.enter gf args) w)
    (h : ∀ (fn : FuncId) (rec : LoopState → Option Code → Loop) (W1 : World), rec = mkRec fn a.tmps ps assign body w.heap.size → W1 = (w.alloc (.deferred (some []))).alloc (.loop (rec .ready none)) →
      Calls P gf (#[.func (.yield (w.heap.size + 1)) #[] #[]] ++ lb) W1 fun e W' => (∃ v, e = .returned v) ∧ W'.heap[w.heap.size + 1]? = some (.loop (rec .done (some .ret))) ∧
        Q .ret { a with defers := { target := .collected w.heap.size, args := #[] } :: a.defers } (W'.putObj (w.heap.size + 1) (.loop (rec .exhausted (some .ret))))) :
    (Code.rangeFunc g ps assign body).wpIn Fence.wide n P Q a w := by
  refine wpIn_rangeFunc ?_
  intro fn hfn
  refine ⟨w.heap.size + 1, [{ target := .collected w.heap.size, args := #[] }], ((w.alloc (.deferred (some []))).alloc (.loop (mkRec fn a.tmps ps assign body w.heap.size .ready none))), { target := .fn (.func gf) lb, args := #[.func (.yield (w.heap.size + 1)) #[] #[]] }, ((w.alloc (.deferred (some []))).alloc (.loop (mkRec fn a.tmps ps assign body w.heap.size .ready none))), gf, #[.func (.yield (w.heap.size + 1)) #[] #[]] ++ lb, ((w.alloc (.deferred (some []))).alloc (.loop (mkRec fn a.tmps ps assign body w.heap.size .ready none))), run_enterLoop_outer _ _ _ _ _, ?_, fun _ _ => trivial, ?_, fun hd => absurd hd (by simp [Fence.wide]), ?_⟩
  · simp only [resolve, hg]
    simp [go_sem]
  · simp [invoke, go_sem, eg]
  · refine (callsIn_wide.2 (h fn _ _ rfl rfl)).mono ?_
    rintro e W2 ⟨⟨v, rfl⟩, hl, hq⟩
    exact ⟨some .ret, _, run_endLoop hl (by simp [mkRec]), wpIn_ret hq⟩
/-- A round of it. -/
theorem yield_intro {P : Program} {fn : FuncId} {tmps : Array Value} {ps : Array Tmp} {assign body : Code} {D l : Nat} {W : World} {args : Array Value} {R : Ending → World → Prop} {rec : LoopState → Option Code → Loop} (hrec : rec = mkRec fn tmps ps assign body D) (hl : W.heap[l]? = some (.loop (rec .ready none))) (hs : args.size = ps.size)
    (h : assign.wpIn (Fence.wide.inRound l) 2 P (Exit.then (fun a₁ w₁ => ∃ w₂, (Instr.beginRound l).run P w₁ = .ok () w₂ ∧ body.wpIn (Fence.wide.inRound l) 2 P (roundPost P l R) a₁ w₂) (fun _ _ _ => False)) { tmps := (ps.zip args).foldl (fun t (p, v) => t.setIfInBounds p v) tmps, defers := [] } W) : YieldAt Fence.wide 2 P l args W R := by
  subst hrec
  exact ⟨fn, _, assign, body, run_yield hl hs, roundIn_of_wpIn trivial h⟩
set_option maxHeartbeats 4000000 in
set_option maxRecDepth 100000 in
theorem laidPath_ok (A3 A4 : Option Addr) (bars : List BarD) (runs : List RunD) (n3 c3 n4 c4 i : Nat) (ld : LaidD) (w : World) {B : Nat} (h3 : BarsAt w B A3 bars) (h4 : RunsAt w B A4 runs) (hB : B ≤ w.heap.size) (l3 : n3 = bars.length) (l4 : n4 = runs.length) (m3 : n3 ≤ 60000) (m4 : n4 ≤ 60000) (htame : Tame bars) (hok : laidOk bars runs = true) (hi : (laidAll bars runs)[i]? = some ld) :
    Calls Tryz.prog 302 #[.slice A3 n3 c3, .slice A4 n4 c4, .int .i64 i] w fun e w' => ∃ A, e = .returned (.tuple #[.slice A ld.pts.length ld.pts.length, .int .i64 0]) ∧ PtsAt w' w'.heap.size A ld.pts ∧ Below w.heap.size w w' := by
  have HV := fun (W : World) (hz : Below w.heap.size w W) => laidValid_any A3 bars n3 c3 A4 runs n4 c4 W (h3.carry (hz.mono hB) (Nat.le_refl _)) (h4.carry (Flat.carried _) (hz.mono hB) (Nat.le_refl _)) (Nat.le_trans hB hz.size) l3 l4 m3 m4 htame
  rw [hok] at HV
  have HV := hide HV
  have HAll := hide (fun (n₀ gB gR l : Nat) (J : Nat → World → Prop) (Jx : World → Prop) (a1 a2) (W : World) (a3) (hz : Below w.heap.size w W) (hn : w.heap.size ≤ n₀) (hn1 : n₀ ≤ W.heap.size) (hl : n₀ ≤ l) (a4 a5 a6 a7 a8) => all1_walk A3 A4 bars runs n3 c3 n4 c4 n₀ gB gR l J Jx a1 a2 W a3 (h3.carry (hz.mono hB) (Nat.le_trans hB hn)) (h4.carry (Flat.carried _) (hz.mono hB) (Nat.le_trans hB hn)) hn1 hl a4 a5 a6 a7 l3 l4 m3 htame hok a8)
  have Hi := hide hi
  have HW := hide (((below_new2 w (.cells #[.int .i64 i] 3) (.cells #[.slice none 0 0] 201)).alloc (by simp; omega) (.cells #[.int .i64 0] 37)))
  have K5 := hide (((Blk.new w 3 #[.int .i64 i]).alloc (.cells #[.slice none 0 0] 201)).alloc (.cells #[.int .i64 0] 37))
  have K6 := hide ((Blk.new1 w (.cells #[.int .i64 i] 3) 201 #[.slice none 0 0]).alloc (.cells #[.int .i64 0] 37))
  have K7 := hide (Blk.new2 w (.cells #[.int .i64 i] 3) (.cells #[.slice none 0 0] 201) 37 #[.int .i64 0])
  clear h3 h4 hB l3 l4 m3 m4 htame hok hi
  refine (callsIn_wide (n := 4)).1 ?_
  refine callsIn_of_wp_marks Tryz.func302 rfl trivial ?_ rfl
  simp only [Tryz.ntmps302, List.size_toArray, List.length_cons, List.length_nil, Nat.reduceAdd, Nat.reduceSub, Array.replicate_succ, Array.replicate_zero, List.push_toArray, List.append_toArray, List.nil_append, List.cons_append]
  refine wpIn_wide.2 ?_
  go_wp2_with fail
  refine (HV.out _ HW.out).mono ?_
  rintro e w2 ⟨rfl, hb2⟩
  have K5 := hide (K5.out.keep hb2)
  have K6 := hide (K6.out.keep hb2)
  have K7 := hide (K7.out.keep hb2)
  have HW := hide (below_step HW.out hb2 (Nat.le_refl _))
  have Hws := hide K7.out.lt
  clear hb2 HV
  go_wp2_with (go_at_call 314; refine (all_any _ _ _ _ _ _ _).mono ?_; rintro e w3 ⟨rfl, rfl⟩)
  refine (wpIn_wide (n := 4)).1 ?_
  obtain ⟨w3, hw3⟩ : ∃ w3, w3 = (w2.alloc (.cells #[.slice A3 n3 c3] 27)).alloc (.cells #[.slice A4 n4 c4] 28) := ⟨_, rfl⟩
  have K5 := hide ((K5.out.alloc (.cells #[.slice A3 n3 c3] 27)).alloc (.cells #[.slice A4 n4 c4] 28))
  have K6 := hide ((K6.out.alloc (.cells #[.slice A3 n3 c3] 27)).alloc (.cells #[.slice A4 n4 c4] 28))
  have K7 := hide ((K7.out.alloc (.cells #[.slice A3 n3 c3] 27)).alloc (.cells #[.slice A4 n4 c4] 28))
  have KB := hide ((Blk.new w2 27 #[.slice A3 n3 c3]).alloc (.cells #[.slice A4 n4 c4] 28))
  have KR := hide (Blk.new1 w2 (.cells #[.slice A3 n3 c3] 27) 28 #[.slice A4 n4 c4])
  have HW := hide ((HW.out.alloc HW.out.size (.cells #[.slice A3 n3 c3] 27)).alloc (by rw [size_alloc']; exact Nat.le_succ_of_le HW.out.size) (.cells #[.slice A4 n4 c4] 28))
  have hs3 : w3.heap.size = w2.heap.size + 1 + 1 := by rw [hw3]; simp
  rw [← hw3] at K5 K6 K7 KB KR HW ⊢
  have Hs3 := hide hs3
  clear hw3 hs3
  refine range_intro rfl (enters_of Tryz.func318 (by kernel_rfl) rfl) ?_
  intro fn rec W1 hrec hW1
  obtain ⟨D, hD⟩ : ∃ D, D = w3.heap.size := ⟨_, rfl⟩
  have hs1 : W1.heap.size = D + 2 := by rw [hW1, hD]; simp
  have hL1 : W1.heap[D + 1]? = some (.loop (rec .ready none)) := by
    rw [hW1, hD]; have := World.alloc_heap_new (w3.alloc (.deferred (some []))) (.loop (rec .ready none)); rwa [World.size_alloc] at this
  have hD1 : W1.heap[D]? = some (.deferred (some [])) := by
    rw [hW1, hD]; exact (Below.heap_alloc _ _ _ (by simp)).trans (World.alloc_heap_new w3 _)
  have k5 : Blk W1 w.heap.size 3 #[.int .i64 i] := by rw [hW1]; exact (K5.out.alloc _).alloc _
  have k6 : Blk W1 (w.heap.size + 1) 201 #[.slice none 0 0] := by rw [hW1]; exact (K6.out.alloc _).alloc _
  have k7 : Blk W1 (w.heap.size + 2) 37 #[.int .i64 0] := by rw [hW1]; exact (K7.out.alloc _).alloc _
  have kB : Blk W1 w2.heap.size 27 #[.slice A3 n3 c3] := by rw [hW1]; exact (KB.out.alloc _).alloc _
  have kR : Blk W1 (w2.heap.size + 1) 28 #[.slice A4 n4 c4] := by rw [hW1]; exact (KR.out.alloc _).alloc _
  have hw1 : Below w.heap.size w W1 := by rw [hW1]; exact (HW.out.alloc HW.out.size _).alloc (by rw [size_alloc']; exact Nat.le_succ_of_le HW.out.size) _
  have hsD : w2.heap.size + 2 = D := by rw [hD, Hs3.out]
  have hws := Hws.out
  have hwD : w.heap.size ≤ D := by omega
  clear hW1 K5 K6 K7 KB KR HW Hs3 Hws
  rw [← hD]
  clear hD
  obtain ⟨J, hJd⟩ : ∃ J : Nat → World → Prop, J = fun k W => k ≤ i ∧ Below w.heap.size w W ∧ W.heap[D + 1]? = some (.loop (rec .ready none)) ∧ W.heap[D]? = some (.deferred (some [])) ∧ Blk W w.heap.size 3 #[.int .i64 i] ∧ Blk W (w.heap.size + 1) 201 #[.slice none 0 0] ∧ Blk W (w.heap.size + 2) 37 #[.int .i64 0] := ⟨_, rfl⟩
  obtain ⟨Jx, hJxd⟩ : ∃ Jx : World → Prop, Jx = fun W => W.heap[D + 1]? = some (.loop (rec .done (some .ret))) ∧ W.heap[D]? = some (.deferred (some [])) ∧ Below w.heap.size w W ∧ ∃ g, D < g ∧ g ≠ D + 1 ∧ W.cell? ⟨w.heap.size + 1, 0, none⟩ = some (.slice (some ⟨g, 0, none⟩) ld.pts.length ld.pts.length) ∧ W.cell? ⟨w.heap.size + 2, 0, none⟩ = some (.int .i64 0) ∧ PtsAt W W.heap.size (some ⟨g, 0, none⟩) ld.pts := ⟨_, rfl⟩
  have HJd := hide hJd
  have HJxd := hide hJxd
  have Hrec := hide hrec
  clear hJd hJxd hrec
  refine (HAll.out D w2.heap.size (w2.heap.size + 1) (D + 1) J Jx ?_ ?_ W1 ?_ hw1 hwD (by omega) (Nat.le_succ D) ?_ ?_ (by omega) (by omega) ?_).mono ?_
  · intro k W W' hj hb
    rw [HJd.out] at hj ⊢
    obtain ⟨j1, j2, j3, j4, j5, j6, j7⟩ := hj
    exact ⟨j1, below_step j2 hb (Nat.le_refl _), (hb.block _ (Array.getElem?_eq_some_iff.1 j3).1).trans j3, (hb.block _ (Array.getElem?_eq_some_iff.1 j4).1).trans j4, j5.keep hb, j6.keep hb, j7.keep hb⟩
  · intro k W hj
    rw [HJd.out] at hj
    exact ⟨_, hj.2.2.1, rfl⟩
  · intro k ld' g m c W hj hld hm hcm hg hpts
    subst hcm
    subst hm
    rw [HJd.out] at hj
    obtain ⟨j1, j2, j3, j4, j5, j6, j7⟩ := hj
    refine yield_intro Hrec.out j3 rfl ?_
    have HA := hide (And.intro j3 (And.intro j5 (And.intro j6 j7)))
    clear j3 j5 j6 j7
    gi_wp2
    obtain ⟨j3, j5, j6, j7⟩ := HA.out
    refine ⟨_, run_beginRound j3 (by rw [Hrec.out]; rfl), ?_⟩
    obtain ⟨W2, hW2⟩ : ∃ W2, W2 = W.putObj (D + 1) (.loop { rec .ready none with state := .busy }) := ⟨_, rfl⟩
    have hDW : D + 1 < W.heap.size := (Array.getElem?_eq_some_iff.1 j3).1
    have hL2 : W2.heap[D + 1]? = some (.loop { rec .ready none with state := .busy }) := by rw [hW2]; exact World.putObj_heap_same hDW
    have o2 : ∀ b, b ≠ D + 1 → W2.heap[b]? = W.heap[b]? := fun b hb => by rw [hW2]; exact World.putObj_heap_other hb
    have k5 : Blk W2 w.heap.size 3 #[.int .i64 i] := (o2 _ (by omega)).trans j5
    have k6 : Blk W2 (w.heap.size + 1) 201 #[.slice none 0 0] := (o2 _ (by omega)).trans j6
    have k7 : Blk W2 (w.heap.size + 2) 37 #[.int .i64 0] := (o2 _ (by omega)).trans j7
    have hz2 : W2.heap.size = W.heap.size := by rw [hW2]; simp
    rw [← hW2]
    have HX := hide (And.intro hW2 (And.intro o2 hL2))
    have R5 := hide k5
    have R6 := hide k6
    have R7 := hide k7
    have c5 := k5.cell 0
    have c6 := k6.cell 0
    have c7 := k7.cell 0
    have f6 := k6.frozen 0
    have f7 := k7.frozen 0
    simp at c5 c6 c7
    have Hj := hide (And.intro j2 (And.intro j3 (And.intro j4 (And.intro j5 (And.intro j6 j7)))))
    have Hp := hide hpts
    clear hW2 o2 hL2 k5 k6 k7 j2 j3 j4 j5 j6 j7 hpts
    by_cases hki : k = i
    · subst hki
      gi_wp2
      obtain ⟨hW2, o2, hL2⟩ := HX.out
      obtain ⟨j2, j3, j4, j5, j6, j7⟩ := Hj.out
      have hlds : ld' = ld := by have h9 := Hi.out; rw [hld] at h9; injection h9
      subst hlds
      obtain ⟨sv, hsv⟩ : ∃ sv, sv = Value.slice (some ⟨g, 0, none⟩) ld'.pts.length ld'.pts.length := ⟨_, rfl⟩
      rw [← hsv]
      have o5 : ∀ b, b ≠ w.heap.size + 1 → b ≠ w.heap.size + 2 → ((W2.setCell ⟨w.heap.size + 1, 0, none⟩ sv).setCell ⟨w.heap.size + 2, 0, none⟩ (.int .i64 0)).heap[b]? = W2.heap[b]? := fun b h1 h2 => (Below.heap_setCell _ _ _ b h2).trans (Below.heap_setCell _ _ _ b h1)
      have hL5 := (o5 (D + 1) (by omega) (by omega)).trans hL2
      obtain ⟨W5, hW5⟩ : ∃ W5, W5 = (W2.setCell ⟨w.heap.size + 1, 0, none⟩ sv).setCell ⟨w.heap.size + 2, 0, none⟩ (.int .i64 0) := ⟨_, rfl⟩
      have q6 : Blk W5 (w.heap.size + 1) 201 #[sv] := by
        rw [hW5]
        have h9 := (R6.out.set_ 0 sv).far (p := ⟨w.heap.size + 2, 0, none⟩) (by show w.heap.size + 1 ≠ w.heap.size + 2; omega) (.int .i64 0)
        simpa using h9
      have q7 : Blk W5 (w.heap.size + 2) 37 #[.int .i64 0] := by
        rw [hW5]
        have h9 := (R7.out.far (p := ⟨w.heap.size + 1, 0, none⟩) (by show w.heap.size + 2 ≠ w.heap.size + 1; omega) sv).set_ 0 (.int .i64 0)
        simpa using h9
      have hB5 : Below w.heap.size w W5 := by
        rw [hW5, hW2]
        exact ((j2.trans ((Below.refl w.heap.size W).grown (grownBy_putObj' W (D + 1) _) j2.size (fun r e => by cases e; omega))).setCell (p := ⟨w.heap.size + 1, 0, none⟩) (Nat.le_succ _) _).setCell (p := ⟨w.heap.size + 2, 0, none⟩) (by show w.heap.size ≤ w.heap.size + 2; omega) _
      have hz5 : W5.heap.size = W.heap.size := by rw [hW5]; simp only [World.size_setCell]; exact hz2
      have o5' : ∀ b, b ≠ w.heap.size + 1 → b ≠ w.heap.size + 2 → W5.heap[b]? = W2.heap[b]? := by rw [hW5]; exact o5
      rw [← hW5] at hL5
      show roundPost _ _ _ _ _ ((W2.setCell ⟨w.heap.size + 1, 0, none⟩ sv).setCell ⟨w.heap.size + 2, 0, none⟩ (.int .i64 0))
      rw [← hW5]
      clear hW5 o5 hW2
      refine ⟨_, _, run_endRound (some .ret) hL5, .inr ⟨rfl, ?_⟩⟩
      rw [HJxd.out]
      have hrc : ({ { rec .ready none with state := .busy } with state := if (some Code.ret).isNone then LoopState.ready else LoopState.done, pending := some Code.ret } : Loop) = rec .done (some .ret) := by rw [Hrec.out]; rfl
      have oo : ∀ b, b ≠ D + 1 → (W5.putObj (D + 1) (.loop { { rec .ready none with state := .busy } with state := if (some Code.ret).isNone then LoopState.ready else LoopState.done, pending := some Code.ret })).heap[b]? = W5.heap[b]? := fun b hb => World.putObj_heap_other hb
      refine ⟨?_, (oo D (by omega)).trans ((o5' D (by omega) (by omega)).trans ((o2 D (by omega)).trans j4)), hB5.grown (grownBy_putObj' _ _ _) hB5.size (fun r e => by cases e; omega), g, by omega, by omega, ?_, ?_, ?_⟩
      · rw [World.putObj_heap_same (by rw [hz5]; exact hDW), hrc]
      · have h9 := q6.cell 0
        rw [← hsv]
        exact (World.cell?_of_block (a := ⟨w.heap.size + 1, 0, none⟩) (oo (w.heap.size + 1) (by omega))).trans (by simpa using h9)
      · have h9 := q7.cell 0
        exact (World.cell?_of_block (a := ⟨w.heap.size + 2, 0, none⟩) (oo (w.heap.size + 2) (by omega))).trans (by simpa using h9)
      · exact SlOf.block Hp.out ((oo g (by omega)).trans ((o5' g (by omega) (by omega)).trans (o2 g (by omega)))) (by simp [hz5])
    · have hki2 : ((k : Int) == (i : Int)) = false := by simp; omega
      have hki3 : (k == i) = false := by simpa using hki
      gi_wp2
      obtain ⟨hW2, o2, hL2⟩ := HX.out
      obtain ⟨j2, j3, j4, j5, j6, j7⟩ := Hj.out
      refine ⟨_, _, run_endRound none hL2, .inl ⟨rfl, ?_, ?_⟩⟩
      · rw [HJd.out]
        have hrc : ({ { rec .ready none with state := .busy } with state := if (none : Option Code).isNone then LoopState.ready else LoopState.done, pending := none } : Loop) = rec .ready none := by rw [Hrec.out]; rfl
        have oo : ∀ b, b ≠ D + 1 → (W2.putObj (D + 1) (.loop { { rec .ready none with state := .busy } with state := if (none : Option Code).isNone then LoopState.ready else LoopState.done, pending := none })).heap[b]? = W2.heap[b]? := fun b hb => World.putObj_heap_other hb
        have hB2 : Below w.heap.size w W2 := by
          rw [hW2]
          exact j2.trans ((Below.refl w.heap.size W).grown (grownBy_putObj' W (D + 1) _) j2.size (fun r e => by cases e; omega))
        refine ⟨by omega, hB2.grown (grownBy_putObj' _ _ _) hB2.size (fun r e => by cases e; omega), ?_, (oo D (by omega)).trans ((o2 D (by omega)).trans j4), (oo _ (by omega)).trans R5.out, (oo _ (by omega)).trans R6.out, (oo _ (by omega)).trans R7.out⟩
        rw [World.putObj_heap_same (by rw [hz2]; exact hDW), hrc]
      · refine ⟨?_, ?_, ?_, by simp [hz2], fun b hb hne => ?_⟩
        · rw [hW2]; rfl
        · rw [hW2]; rfl
        · rw [hW2]; rfl
        · have hb1 : b ≠ D + 1 := fun h9 => hne (by rw [h9])
          exact (World.putObj_heap_other hb1).trans (o2 b hb1)
  · have := kB.cell 0
    simpa using this
  · have := kR.cell 0
    simpa using this
  · rw [HJd.out]
    exact ⟨Nat.zero_le _, hw1, hL1, hD1, k5, k6, k7⟩
  · rintro e W5 ⟨hv, hJf | hJf⟩
    · rw [HJd.out] at hJf
      have := lt_of_get Hi.out
      omega
    · rw [HJxd.out] at hJf
      obtain ⟨j1, j2, j3, g, hgD, hgL, j4, j5, j6⟩ := hJf
      have o1 : ∀ b, b ≠ D + 1 → b ≠ D → ((W5.putObj (D + 1) (.loop (rec .exhausted (some .ret)))).putObj D (.deferred none)).heap[b]? = W5.heap[b]? := fun b h1 h2 => (World.putObj_heap_other h2).trans (World.putObj_heap_other h1)
      have hD5 : D < W5.heap.size := (Array.getElem?_eq_some_iff.1 j2).1
      have oA := o1 (w.heap.size + 1) (by omega) (by omega)
      have oB := o1 (w.heap.size + 2) (by omega) (by omega)
      refine ⟨hv, j1, by simp, .inl ⟨_, _, rfl, run_takeDeferred (show (W5.putObj (D + 1) (.loop (rec .exhausted (some .ret)))).heap[D]? = some (.deferred (some [])) from (World.putObj_heap_other (by omega)).trans j2), ?_⟩⟩
      refine ⟨_, results_cc1 (gp := w.heap.size + 1) (gq := w.heap.size + 2) rfl rfl rfl ((World.cell?_of_block (a := ⟨w.heap.size + 1, 0, none⟩) oA).trans j4) ((World.cell?_of_block (a := ⟨w.heap.size + 2, 0, none⟩) oB).trans j5) Tryz.underlying201 Tryz.underlying37 rfl rfl, some ⟨g, 0, none⟩, rfl, ?_, ?_⟩
      · exact SlOf.block j6 (o1 _ hgL (by omega)) (by simp)
      · refine ⟨j3.os, j3.tape, j3.output, by simpa using j3.size, fun b hb => (o1 b (by omega) (by omega)).trans (j3.block b hb)⟩
end Go.Proofs.YtkmpddaobncheaaGreatDoor
namespace Go.Proofs.YtkmpddaobncheaaGreatDoor
open Go.RowKit

/-- The result's block, and what was there ahead of the call. -/
def ImgR (w W : World) : Prop := (∃ u0 u1 u2, Blk W (w.heap.size + 1 + 1) 49 #[u0, u1, u2]) ∧ Below w.heap.size w W
theorem ImgR.step {w W wz : World} (h : ImgR w W) (hb : Below W.heap.size W wz) : ImgR w wz := by
  obtain ⟨⟨u0, u1, u2, hk⟩, hw⟩ := h
  exact ⟨⟨u0, u1, u2, hk.keep hb⟩, below_step hw hb (Nat.le_refl _)⟩
theorem ImgR.drew {w W : World} (h : ImgR w W) : ImgR w W.drew := by
  obtain ⟨⟨u0, u1, u2, hk⟩, hw⟩ := h
  exact ⟨⟨u0, u1, u2, hk.drew⟩, hw.drew⟩
theorem ImgR.store {w W : World} (h : ImgR w W) (x y z : Value) : ImgR w (((W.setCell ⟨w.heap.size + 1 + 1, 0, none⟩ x).setCell ⟨w.heap.size + 1 + 1, 1, none⟩ y).setCell ⟨w.heap.size + 1 + 1, 2, none⟩ z) := by
  obtain ⟨⟨u0, u1, u2, hk⟩, hw⟩ := h
  have h1 := ((hk.set_ 0 x).set_ 1 y).set_ 2 z
  simp only [List.setIfInBounds_toArray, List.set_cons_zero, List.set_cons_succ] at h1
  exact ⟨⟨x, y, z, h1⟩, ((hw.setCell (p := ⟨w.heap.size + 1 + 1, 0, none⟩) (by show w.heap.size ≤ w.heap.size + 1 + 1; omega) x).setCell (p := ⟨w.heap.size + 1 + 1, 1, none⟩) (by show w.heap.size ≤ w.heap.size + 1 + 1; omega) y).setCell (p := ⟨w.heap.size + 1 + 1, 2, none⟩) (by show w.heap.size ≤ w.heap.size + 1 + 1; omega) z⟩
theorem kc {W wz : World} {g i : Nat} {v : Value} (h : W.cell? ⟨g, i, none⟩ = some v) (hb : Below W.heap.size W wz) : wz.cell? ⟨g, i, none⟩ = some v := (hb.cell (p := ⟨g, i, none⟩) (lt_of_cell h)).trans h
theorem ks {W : World} {k g i : Nat} {v : Value} (hne : k ≠ g) (h : W.cell? ⟨g, i, none⟩ = some v) (x y z : Value) : (((W.setCell ⟨k, 0, none⟩ x).setCell ⟨k, 1, none⟩ y).setCell ⟨k, 2, none⟩ z).cell? ⟨g, i, none⟩ = some v :=
  cell_oth (.inl (Ne.symm hne)) (cell_oth (.inl (Ne.symm hne)) (cell_oth (.inl (Ne.symm hne)) h))
end Go.Proofs.YtkmpddaobncheaaGreatDoor
namespace Go.Proofs.YtkmpddaobncheaaGreatDoor
open Go.RowKit

theorem grown_below {w w' : World} (h : Below w.heap.size w w') (row : Option Nat) : w.grownBy w' row := ⟨h.os, h.tape, h.output, h.size, fun k hk _ => h.block k hk⟩
theorem row_kept {α : Type} {w w' : World} {base size : Nat} {e : TypeId} {enc : α → List Value} {v : Value} {l : List α} {row : Option Nat} (h : Row w base e size enc v l) (hg : w.grownBy w' row) (hr : ∀ k, row = some k → Apart v k) : Row w' base e size enc v l :=
  World.ownsRow.kept h hg (by
    cases hv : v.ownBlock with
    | none => exact .inl rfl
    | some k => exact .inr (fun he => hr k he.symm hv))
theorem row_base {α : Type} {w : World} {base size : Nat} {e : TypeId} {enc : α → List Value} {v : Value} {l : List α} (h : Row w base e size enc v l) {k : Nat} (hk : k < base) : Apart v k := by
  intro he
  rcases h.2 with ⟨hv, _⟩ | ⟨g, cap, cur, hv, hb, _⟩
  · rw [hv] at he
    cases he
  · rw [hv] at he
    injection he with he
    simp only at he
    omega

/-- A row in a block from 'lo' on, and below 'hi'. -/
structure InRow {α : Type} (w : World) (lo hi : Nat) (e : TypeId) (size : Nat) (enc : α → List Value) (v : Value) (l : List α) : Prop where
  row : Row w lo e size enc v l
  up : ∀ k, v.ownBlock = some k → k < hi
section
variable {α : Type} {w w' : World} {lo hi size : Nat} {e : TypeId} {enc : α → List Value} {v : Value} {l : List α}
theorem InRow.new (h : Row w lo e size enc v l) : InRow w lo w.heap.size e size enc v l := ⟨h, fun _ hk => Nat.lt_of_not_le (fun h9 => apart_new h h9 hk)⟩
theorem InRow.low (h : InRow w lo hi e size enc v l) {k : Nat} (hk : v.ownBlock = some k) : lo ≤ k := Nat.le_of_not_lt (fun h9 => row_base h.row h9 hk)
theorem InRow.keep (h : InRow w lo hi e size enc v l) (hb : Below w.heap.size w w') : InRow w' lo hi e size enc v l := ⟨h.row.keep hb, h.up⟩
theorem InRow.drew (h : InRow w lo hi e size enc v l) : InRow w.drew lo hi e size enc v l := ⟨h.row.drew, h.up⟩
theorem InRow.kept {row : Option Nat} (h : InRow w lo hi e size enc v l) (hg : w.grownBy w' row) (hr : ∀ k, row = some k → k < lo ∨ hi ≤ k) : InRow w' lo hi e size enc v l :=
  ⟨row_kept h.row hg (fun k hk he => by
    have h1 := h.low he
    have h2 := h.up k he
    have h3 := hr k hk
    omega), h.up⟩
theorem InRow.set_ (h : InRow w lo hi e size enc v l) {a : Addr} (ha : a.block < lo) (u : Value) : InRow (w.setCell a u) lo hi e size enc v l := ⟨ownsRow_setCell_below h.row ha u, h.up⟩
end

/-- The first i elements of a list hold slices that were made anew, from a block on, each in a block of its own. -/
structure SubOwn {α β : Type} (t : TypeId) (size : Nat) (enc : β → List Value) (sl : α → Value) (ls : α → List β) (w : World) (lo : Nat) (L : List α) (i : Nat) : Prop where
  row : ∀ k p, k < i → L[k]? = some p → Row w lo t size enc (sl p) (ls p)
  far : ∀ j k p q, j < k → k < i → L[j]? = some p → L[k]? = some q → ∀ g, (sl p).ownBlock = some g → Apart (sl q) g
section
variable {α β : Type} {t : TypeId} {size : Nat} {enc : β → List Value} {sl : α → Value} {ls : α → List β} {w w' : World} {lo : Nat} {L : List α} {i : Nat}
theorem SubOwn.zero : SubOwn t size enc sl ls w lo L 0 := ⟨fun k _ h => absurd h (Nat.not_lt_zero k), fun _ k _ _ _ h => absurd h (Nat.not_lt_zero k)⟩
theorem SubOwn.kept {row : Option Nat} (h : SubOwn t size enc sl ls w lo L i) (hg : w.grownBy w' row) (hr : ∀ k, row = some k → k < lo) : SubOwn t size enc sl ls w' lo L i :=
  ⟨fun k p hk hp => row_kept (h.row k p hk hp) hg (fun g hg' => row_base (h.row k p hk hp) (hr g hg')), h.far⟩
theorem SubOwn.keep (h : SubOwn t size enc sl ls w lo L i) (hb : Below w.heap.size w w') : SubOwn t size enc sl ls w' lo L i := ⟨fun k p hk hp => (h.row k p hk hp).keep hb, h.far⟩
theorem SubOwn.step (h : SubOwn t size enc sl ls w lo L i) (hb : Below w.heap.size w w') {y : α} (hr : Row w' w.heap.size t size enc (sl y) (ls y)) (hlo : lo ≤ w.heap.size) (hi : i < L.length) : SubOwn t size enc sl ls w' lo (L.set i y) (i + 1) := by
  have old : ∀ k p, k < i → (L.set i y)[k]? = some p → L[k]? = some p := fun k p hk hp => by
    rw [List.getElem?_set_ne (by omega)] at hp
    exact hp
  have new : ∀ p, (L.set i y)[i]? = some p → p = y := fun p hp => by
    rw [List.getElem?_set_self hi] at hp
    exact (Option.some.inj hp).symm
  refine ⟨fun k p hk hp => ?_, fun j k p q hj hk hp hq g hg => ?_⟩
  · rcases Nat.lt_or_ge k i with h1 | h1
    · exact (h.row k p h1 (old k p h1 hp)).keep hb
    · obtain rfl : k = i := by omega
      obtain rfl := new p hp
      refine ⟨hr.1, ?_⟩
      rcases hr.2 with h2 | ⟨g, cap, cur, h2, h3, r⟩
      · exact .inl h2
      · exact .inr ⟨g, cap, cur, h2, Nat.le_trans hlo h3, r⟩
  · rcases Nat.lt_or_ge k i with h1 | h1
    · exact h.far j k p q hj h1 (old j p (by omega) hp) (old k q h1 hq) g hg
    · obtain rfl : k = i := by omega
      obtain rfl := new q hq
      refine row_base hr ?_
      rcases Nat.lt_or_ge g w.heap.size with h2 | h2
      · exact h2
      · exact absurd hg (apart_new (h.row j p hj (old j p hj hp)) h2)
theorem SubOwn.up (h : SubOwn t size enc sl ls w lo L i) {k : Nat} {p : α} (hk : k < i) (hp : L[k]? = some p) {g : Nat} (hg : (sl p).ownBlock = some g) : g < w.heap.size := Nat.lt_of_not_le (fun h9 => apart_new (h.row k p hk hp) h9 hg)
end
/-- All elements' slices, in blocks below 'hi'. -/
structure SubIn {α β : Type} (t : TypeId) (size : Nat) (enc : β → List Value) (sl : α → Value) (ls : α → List β) (w : World) (lo hi : Nat) (L : List α) : Prop where
  own : SubOwn t size enc sl ls w lo L L.length
  up : ∀ (k : Nat) (p : α) (g : Nat), L[k]? = some p → (sl p).ownBlock = some g → g < hi
theorem SubIn.kept {α β : Type} {t : TypeId} {size : Nat} {enc : β → List Value} {sl : α → Value} {ls : α → List β} {w w' : World} {lo hi : Nat} {L : List α} {row : Option Nat} (h : SubIn t size enc sl ls w lo hi L) (hg : w.grownBy w' row) (hr : ∀ k, row = some k → k < lo ∨ hi ≤ k) : SubIn t size enc sl ls w' lo hi L :=
  ⟨⟨fun k p hk hp => row_kept (h.own.row k p hk hp) hg (fun g hg' he => by
      have h1 := hr g hg'
      have h2 := h.up k p g hp he
      have h3 : lo ≤ g := Nat.le_of_not_lt (fun h9 => row_base (h.own.row k p hk hp) h9 he)
      omega), h.own.far⟩, h.up⟩
/-- A detail in memory whose slices all lie in blocks of their own, from a block on. -/
structure OwnDet (w : World) (lo : Nat) (x : DetD) (s : DetS) (b : Nat → Nat) (LB : List BarX) (LD : List DemX) : Prop where
  low : lo ≤ b 0
  up : ∀ i, b i ≤ b (i + 1)
  r1 : InRow w (b 0) (b 1) 51 6 encB (.slice s.a1 s.n1 s.c1) x.mem.boxes
  r2 : InRow w (b 1) (b 2) 51 6 encB (.slice s.a2 s.n2 s.c2) x.mem.holes
  r3 : InRow w (b 2) (b 3) 68 5 encBarX (.slice s.a3 s.n3 s.c3) LB
  r4 : InRow w (b 3) (b 4) 120 10 encRun (.slice s.a4 s.n4 s.c4) x.runs
  r5 : InRow w (b 4) (b 5) 163 2 encJoin (.slice s.a5 s.n5 s.c5) x.laps
  r6 : InRow w (b 5) (b 6) 54 8 encDemX (.slice s.a6 s.n6 s.c6) LD
  m3 : LB.map (·.1) = x.bars
  m6 : LD.map (·.1) = x.dems
  d3 : SubIn 3 1 encInt (fun p : BarX => Value.slice p.2.1 p.1.dims.length p.2.2) (fun p => p.1.dims) w (b 6) (b 7) LB
  d6 : SubIn 112 2 encStp (fun p : DemX => Value.slice p.2.1 p.1.steps.length p.2.2) (fun p => p.1.steps) w (b 7) (b 8) LD
theorem OwnDet.from0 {w : World} {lo : Nat} {x : DetD} {s : DetS} {b : Nat → Nat} {LB : List BarX} {LD : List DemX} (h : OwnDet w lo x s b LB LD) : ∀ i, b 0 ≤ b i
  | 0 => Nat.le_refl _
  | i + 1 => Nat.le_trans (h.from0 i) (h.up i)
theorem OwnDet.kept {w w' : World} {lo : Nat} {x : DetD} {s : DetS} {b : Nat → Nat} {LB : List BarX} {LD : List DemX} {row : Option Nat} (h : OwnDet w lo x s b LB LD) (hg : w.grownBy w' row) (hr : ∀ k, row = some k → k < b 0) : OwnDet w' lo x s b LB LD := by
  have key : ∀ i j k, row = some k → k < b i ∨ b j ≤ k := fun i _ k hk => .inl (Nat.lt_of_lt_of_le (hr k hk) (h.from0 i))
  exact ⟨h.low, h.up, h.r1.kept hg (key 0 1), h.r2.kept hg (key 1 2), h.r3.kept hg (key 2 3), h.r4.kept hg (key 3 4), h.r5.kept hg (key 4 5), h.r6.kept hg (key 5 6), h.m3, h.m6, h.d3.kept hg (key 6 7), h.d6.kept hg (key 7 8)⟩
theorem OwnDet.keep {w w' : World} {lo : Nat} {x : DetD} {s : DetS} {b : Nat → Nat} {LB : List BarX} {LD : List DemX} (h : OwnDet w lo x s b LB LD) (hb : Below w.heap.size w w') : OwnDet w' lo x s b LB LD := h.kept (grown_below hb none) (fun k hk => by cases hk)
theorem InRow.mono {α : Type} {w : World} {lo hi lo' hi' size : Nat} {e : TypeId} {enc : α → List Value} {v : Value} {l : List α} (h : InRow w lo hi e size enc v l) (h1 : lo' ≤ lo) (h2 : hi ≤ hi') : InRow w lo' hi' e size enc v l := by
  refine ⟨⟨h.row.1, ?_⟩, fun k hk => Nat.lt_of_lt_of_le (h.up k hk) h2⟩
  rcases h.row.2 with h3 | ⟨g, cap, cur, h3, h4, r⟩
  · exact .inl h3
  · exact .inr ⟨g, cap, cur, h3, Nat.le_trans h1 h4, r⟩
end Go.Proofs.YtkmpddaobncheaaGreatDoor
