/- Whether a detail is valid. Whether a detail is valid, as a Boolean. Plain: the cuts of a section, their bars, their steel. No walk stands here. Plain: what is inside a solid, and the drawing of a section. No walk stands here. Plain: a detail with a further run; a detail without one of its runs. No walk stands here. Plain: the sizes of marks, as a map. No walk stands here. The legs of a laid bar. The reference of layer 16: the points and the legs of a laid bar; of layer 25: its main leg. -/
import Derived.Test.YtpaanfjjnjjoeaaGreatQbb
import Derived.Test.YtpaanfjjnjjoeaaGreatQaa
import Derived.Deep.RegionWith
import Derived.Test.YtpaanfjjnjjoeaaGreatQas
import Derived.Test.YtpaanfjjnjjoeaaGreatQaw
import Derived.Test.YtpaanfjjnjjoeaaGreatQay
import Derived.Test.YtpaanfjjnjjoeaaGreatQau
import Derived.Test.YtpaanfjjnjjoeaaGreatQat
namespace Go.Proofs.YtpaanfjjnjjoeaaGreat
open Go.RowKit

def LookPost (x : DetD) (w : World) (e : Ending) (w' : World) : Prop :=
  (detOk x = false ∧ e = .returned (.tuple #[.slice none 0 0, .bool false]) ∧ Below w.heap.size w w') ∨
  (detOk x = true ∧ ∃ A c, e = .returned (.tuple #[.slice A (laidAll x.bars x.runs).length c, .bool true]) ∧ MainsAt w' w'.heap.size A ((laidAll x.bars x.runs).map mainOf) ∧ Below w.heap.size w w')
theorem lapsFrom_at {ms : List (Option BoxD)} {l : List JoinD} {k : Nat} {j : JoinD} (h : l[k]? = some j) (f s : List Int) :
    lapsFrom ms f s (l.drop k) = (lapsFit ms j && !f.contains j.first && !s.contains j.second && lapsFrom ms (j.first :: f) (j.second :: s) (l.drop (k + 1))) := by
  rw [drop_at' h, lapsFrom]
theorem jointOk_range {l : List MainD} {j : JoinD} (h : jointOk l j = true) (hl : l.length ≤ 2000) : InInt j.first ∧ InInt j.second := by
  simp only [jointOk, lapsFit, Bool.and_eq_true, decide_eq_true_eq, List.length_map] at h
  unfold InInt
  omega
set_option maxHeartbeats 4000000 in
set_option maxRecDepth 100000 in
theorem look_any (x : DetD) (s : DetS) (w : World) {B : Nat} (h : DetAt w B x s) (hB : B ≤ w.heap.size) (hf : DetFit x s) :
    Calls Tryz.prog 56 #[detV x s] w fun e w' => LookPost x w e w' := by
  have HMM := hide (fun (W : World) (hz : Below w.heap.size w W) (hok : laidOk x.bars x.runs = true) => mains_ok x s W (h.carry (hz.mono hB) (Nat.le_refl _)) (Nat.le_trans hB hz.size) hf hok)
  have HM := hide (fun (W : World) (hz : Below w.heap.size w W) => member_any x.mem s.a1 s.a2 s.n1 s.n2 s.c1 s.c2 W (h.h1.carry (Flat.carried _) (hz.mono hB) (Nat.le_refl _)) (h.h2.carry (Flat.carried _) (hz.mono hB) (Nat.le_refl _)) (Nat.le_trans hB hz.size) hf.l1 hf.l2 hf.name)
  have HL := hide (fun (W : World) (hz : Below w.heap.size w W) => laidValid_any s.a3 x.bars s.n3 s.c3 s.a4 x.runs s.n4 s.c4 W (h.h3.carry (hz.mono hB) (Nat.le_refl _)) (h.h4.carry (Flat.carried _) (hz.mono hB) (Nat.le_refl _)) (Nat.le_trans hB hz.size) hf.l3 hf.l4 hf.m3 hf.m4 hf.tame)
  have HD := hide (fun (W : World) (hz : Below w.heap.size w W) => demandValid_any s.a6 x.dems s.n6 s.c6 W (SlOf.carry demR_carried h.h6 (hz.mono hB) (Nat.le_refl _)) (Nat.le_trans hB hz.size) hf.l6 (by have := hf.m6; omega) hf.k6 hf.dems)
  have HR := hide (fun (W : World) => anchorValid_any x.rule W)
  have H5 := hide h.h5
  have L5 := hide hf.l5
  have M5 := hide hf.m5
  have Hlen := hide (fun (hok : laidOk x.bars x.runs = true) => (laidOk_len hok).2)
  clear h hf
  obtain ⟨tm, htm⟩ : ∃ t, t = memOk x.mem := ⟨_, rfl⟩
  obtain ⟨tl, htl⟩ : ∃ t, t = laidOk x.bars x.runs := ⟨_, rfl⟩
  obtain ⟨td, htd⟩ : ∃ t, t = demsOk x.dems := ⟨_, rfl⟩
  obtain ⟨tr, htr⟩ : ∃ t, t = ruleOk x.rule := ⟨_, rfl⟩
  obtain ⟨LL, hLL⟩ : ∃ LL, LL = (laidAll x.bars x.runs).map mainOf := ⟨_, rfl⟩
  have Hd := hide (show detOk x = (tm && tl && td && tr && decide (x.laps.length ≤ 1000) && lapsFrom (LL.map MainD.opt) [] [] x.laps) by rw [detOk, detHead, htm, htl, htd, htr, hLL, mains_opt])
  rw [← htm] at HM
  rw [← htl] at HL HMM Hlen
  rw [← htd] at HD
  rw [← htr] at HR
  rw [← hLL] at HMM
  have HLL := hide (show LL.length = (laidAll x.bars x.runs).length by rw [hLL, List.length_map])
  have HL0 := hide hLL
  obtain ⟨mem, bars, runs, laps, dems, rule⟩ := x
  obtain ⟨a1, n1, c1, a2, n2, c2, a3, n3, c3, a4, n4, c4, a5, n5, c5, a6, n6, c6⟩ := s
  obtain ⟨name, boxes, holes, cover, agg, poker⟩ := mem
  obtain ⟨r1, r2, r3, r4, r5, r6, r7, r8, r9⟩ := rule
  simp only at HM HL HMM HD HR H5 L5 M5 Hlen HLL HL0
  have m5 : n5 ≤ 60000 := M5.out
  clear htm htl htd htr hLL M5
  have K0 := hide (Blk.new w 34 #[.string name, .slice a1 n1 c1, .slice a2 n2 c2, .int .i64 cover, .int .i64 agg, .int .i64 poker, .slice a3 n3 c3, .slice a4 n4 c4, .slice a5 n5 c5, .slice a6 n6 c6, .int .i64 r1, .int .i64 r2, .int .i64 r3, .int .i64 r4, .int .i64 r5, .int .i64 r6, .int .i64 r7, .int .i64 r8, .int .i64 r9])
  have HW := hide (below_new w (.cells #[.string name, .slice a1 n1 c1, .slice a2 n2 c2, .int .i64 cover, .int .i64 agg, .int .i64 poker, .slice a3 n3 c3, .slice a4 n4 c4, .slice a5 n5 c5, .slice a6 n6 c6, .int .i64 r1, .int .i64 r2, .int .i64 r3, .int .i64 r4, .int .i64 r5, .int .i64 r6, .int .i64 r7, .int .i64 r8, .int .i64 r9] 34))
  show Calls Tryz.prog 56 #[.agg #[.string name, .slice a1 n1 c1, .slice a2 n2 c2, .int .i64 cover, .int .i64 agg, .int .i64 poker, .slice a3 n3 c3, .slice a4 n4 c4, .slice a5 n5 c5, .slice a6 n6 c6, .int .i64 r1, .int .i64 r2, .int .i64 r3, .int .i64 r4, .int .i64 r5, .int .i64 r6, .int .i64 r7, .int .i64 r8, .int .i64 r9]] w _
  go_enter Tryz.func56, Tryz.ntmps56
  go_wp2_with fail
  refine (HM.out _ HW.out).mono ?_
  rintro e W2 ⟨rfl, hb2⟩
  have K0 := hide (K0.out.keep hb2)
  have HW := hide (below_step HW.out hb2 (Nat.le_refl _))
  clear hb2 HM
  cases tm
  · have hres := hide (show detOk ⟨⟨name, boxes, holes, cover, agg, poker⟩, bars, runs, laps, dems, ⟨r1, r2, r3, r4, r5, r6, r7, r8, r9⟩⟩ = false by rw [Hd.out]; simp)
    go_wp2_with fail
    go_ret2
    exact .inl ⟨hres.out, rfl, HW.out⟩
  have e6 := K0.out.cell 6
  have e7 := K0.out.cell 7
  simp at e6 e7
  have hk0 := K0.out.lt
  go_wp2_with fail
  refine (HL.out _ HW.out).mono ?_
  clear e6 e7
  rintro e W2 ⟨rfl, hb2⟩
  have K0 := hide (K0.out.keep hb2)
  have HW := hide (below_step HW.out hb2 (Nat.le_refl _))
  clear hb2 HL
  cases tl
  · have hres := hide (show detOk ⟨⟨name, boxes, holes, cover, agg, poker⟩, bars, runs, laps, dems, ⟨r1, r2, r3, r4, r5, r6, r7, r8, r9⟩⟩ = false by rw [Hd.out]; simp)
    go_wp2_with fail
    go_ret2
    exact .inl ⟨hres.out, rfl, HW.out⟩
  have e9 := K0.out.cell 9
  simp at e9
  have hk0 := K0.out.lt
  go_wp2_with fail
  refine (HD.out _ HW.out).mono ?_
  clear e9
  rintro e W2 ⟨rfl, hb2⟩
  have K0 := hide (K0.out.keep hb2)
  have HW := hide (below_step HW.out hb2 (Nat.le_refl _))
  clear hb2 HD
  cases td
  · have hres := hide (show detOk ⟨⟨name, boxes, holes, cover, agg, poker⟩, bars, runs, laps, dems, ⟨r1, r2, r3, r4, r5, r6, r7, r8, r9⟩⟩ = false by rw [Hd.out]; simp)
    go_wp2_with fail
    go_ret2
    exact .inl ⟨hres.out, rfl, HW.out⟩
  have e10 := K0.out.cell 10
  have e11 := K0.out.cell 11
  have e12 := K0.out.cell 12
  have e13 := K0.out.cell 13
  have e14 := K0.out.cell 14
  have e15 := K0.out.cell 15
  have e16 := K0.out.cell 16
  have e17 := K0.out.cell 17
  have e18 := K0.out.cell 18
  simp at e10 e11 e12 e13 e14 e15 e16 e17 e18
  have hk0 := K0.out.lt
  go_wp2_with fail
  refine (HR.out _).mono ?_
  clear e10 e11 e12 e13 e14 e15 e16 e17 e18
  rintro e W2 ⟨rfl, hb2⟩
  have K0 := hide (K0.out.keep hb2)
  have HW := hide (below_step HW.out hb2 (Nat.le_refl _))
  clear hb2 HR
  cases tr
  · have hres := hide (show detOk ⟨⟨name, boxes, holes, cover, agg, poker⟩, bars, runs, laps, dems, ⟨r1, r2, r3, r4, r5, r6, r7, r8, r9⟩⟩ = false by rw [Hd.out]; simp)
    go_wp2_with fail
    go_ret2
    exact .inl ⟨hres.out, rfl, HW.out⟩
  have e8 := K0.out.cell 8
  simp at e8
  have hk0 := K0.out.lt
  by_cases hbig : 1000 < n5
  · have d0 : decide (1000 < (n5 : Int)) = true := by simp; omega
    have Hd := hide (show detOk ⟨⟨name, boxes, holes, cover, agg, poker⟩, bars, runs, laps, dems, ⟨r1, r2, r3, r4, r5, r6, r7, r8, r9⟩⟩ = (true && false) by rw [Hd.out, decide_eq_false (by rw [← L5.out]; omega)]; rfl)
    have hres := hide (show detOk ⟨⟨name, boxes, holes, cover, agg, poker⟩, bars, runs, laps, dems, ⟨r1, r2, r3, r4, r5, r6, r7, r8, r9⟩⟩ = false by rw [Hd.out]; simp)
    go_wp2_with fail
    go_ret2
    exact .inl ⟨hres.out, rfl, HW.out⟩
  have d0 : decide (1000 < (n5 : Int)) = false := by simp; omega
  have Hd := hide (show detOk ⟨⟨name, boxes, holes, cover, agg, poker⟩, bars, runs, laps, dems, ⟨r1, r2, r3, r4, r5, r6, r7, r8, r9⟩⟩ = lapsFrom (LL.map MainD.opt) [] [] (laps.drop 0) by rw [Hd.out, decide_eq_true (by rw [← L5.out]; omega)]; rfl)
  have hln := Hlen.out trivial
  have hmm := @run_makeMap Tryz.prog
  have Hi := hide (show (Tryz.prog.info? 34).map (·.size) = some 19 by kernel_rfl)
  go_wp2_with (refine wpList_load_row rfl 34 (.tmp 1) rfl w.heap.size rfl 34 _ (0, 0) _ K0.out Tryz.underlying34 rfl Hi.out ?_)
  refine (HMM.out _ HW.out trivial).mono ?_
  rintro e wM ⟨AM, cM, rfl, hmains, hb2⟩
  have K0 := hide (K0.out.keep hb2)
  have HWM := hide (below_step HW.out hb2 (Nat.le_refl _))
  have HMs := hide hmains
  have e8 := K0.out.cell 8
  simp at e8
  have hk0 := K0.out.lt
  clear hb2 HMM hmains Hi
  have hll := HLL.out
  rw [← hll] at hln ⊢
  generalize hgl : LL.length = nl at *
  have Hnl := hide hgl.symm
  have hB1 := BSet.new wM
  have hB2 := (BSet.new wM).alloc (.map #[] 0)
  have hB3 := BSet.new (wM.alloc (.map #[] 0))
  rw [size_alloc'] at hB3
  have HB2 := hide hB2
  have HB3 := hide hB3
  have HbM := hide (below_new2 wM (.map #[] 0) (.map #[] 0))
  have HJ := hide (fun (W : World) (hz : Below wM.heap.size wM W) (j : JoinD) => joint_any AM LL nl cM j W (HMs.out.carry (Flat.carried _) hz (Nat.le_refl _)) hz.size Hnl.out (by omega))
  have Hrg := hide (fun (j : JoinD) (h : jointOk LL j = true) => jointOk_range h (by rw [← Hnl.out]; exact hln))
  clear hgl hB1 hB2 hB3 hll
  go_wp2_with fail
  go_loopw [46] (fun i wr => ∃ k : Nat, k ≤ n5 ∧ i = .int .i64 k ∧ (∃ f t : List Int, BSet wr wM.heap.size k f ∧ BSet wr (wM.heap.size + 1) k t ∧ Hid (detOk ⟨⟨name, boxes, holes, cover, agg, poker⟩, bars, runs, laps, dems, ⟨r1, r2, r3, r4, r5, r6, r7, r8, r9⟩⟩ = lapsFrom (LL.map MainD.opt) f t (laps.drop k))) ∧ Below wM.heap.size wM wr) (fun i _ => n5 - (intOf i).toNat)
  case atStart => exact ⟨0, Nat.zero_le _, rfl, ⟨[], [], HB2.out, HB3.out, Hd⟩, HbM.out⟩
  case round =>
    clear HB2 HB3 HbM Hd K0 hk0 e8
    obtain ⟨k, hk, rfl, ⟨f, t, hf, ht, hq⟩, hbr⟩ := hrel
    have HWr := hide (below_step HWM.out hbr (Nat.le_refl _))
    by_cases hlt : k < n5
    · obtain ⟨b, off, j, rfl, hbl, hx, c0, c1⟩ := JoinsAt.get (k := k) (H5.out.carry (Flat.carried _) (HWr.out.mono hB) (Nat.le_refl _)) (by rw [← L5.out]; exact hlt)
      have Hq := hide (hq.out.trans (lapsFrom_at hx f t))
      have hbw : b < wr.heap.size := by have := HWr.out.size; omega
      have HJj := hide (fun (W : World) (hz : Below wM.heap.size wM W) => HJ.out W hz j)
      have Hrj := hide (Hrg.out j)
      have Hjk := hide (show lapsFit (LL.map MainD.opt) j = jointOk LL j from rfl)
      obtain ⟨tj, htj⟩ : ∃ t, t = jointOk LL j := ⟨_, rfl⟩
      rw [← htj] at HJj Hrj Hjk
      rw [Hjk.out] at Hq
      obtain ⟨j1, j2⟩ := j
      simp only at c0 c1 HJj Hrj Hq
      have HF := hide (hf.alloc (.cells #[.int .i64 j1, .int .i64 j2] 73))
      have HT := hide (ht.alloc (.cells #[.int .i64 j1, .int .i64 j2] 73))
      have K1 := hide (Blk.new wr 73 #[.int .i64 j1, .int .i64 j2])
      have HR := hide (hbr.alloc hbr.size (.cells #[.int .i64 j1, .int .i64 j2] 73))
      have ltF := hf.lt
      have ltT := ht.lt
      clear hx hbl htj hq hf ht hbr Hjk
      go_wp2_with fail
      refine (HJj.out _ HR.out).mono ?_
      rintro e w2 ⟨rfl, hb2⟩
      have K1 := hide (K1.out.keep hb2)
      have HF := hide (HF.out.keep hb2)
      have HT := hide (HT.out.keep hb2)
      have HR := hide (below_step HR.out hb2 (Nat.le_refl _))
      have HWr := hide (below_step HWM.out HR.out (Nat.le_refl _))
      have d0 := K1.out.cell 0
      have d1 := K1.out.cell 1
      simp at d0 d1
      have hk1 := K1.out.lt
      clear hb2 HJj c0 c1
      cases tj
      · have hres := hide (show detOk ⟨⟨name, boxes, holes, cover, agg, poker⟩, bars, runs, laps, dems, ⟨r1, r2, r3, r4, r5, r6, r7, r8, r9⟩⟩ = false by rw [Hq.out]; rfl)
        go_wp2_with fail
        go_ret2
        exact .inl ⟨hres.out, rfl, HWr.out⟩
      obtain ⟨i1, i2⟩ := Hrj.out rfl
      have hl1 := HF.out.look i1
      cases hc1 : f.contains j1
      · rw [hc1] at hl1
        have hl2 := HT.out.look i2
        cases hc2 : t.contains j2
        · rw [hc2] at hl2
          have Hq2 := hide (show detOk ⟨⟨name, boxes, holes, cover, agg, poker⟩, bars, runs, laps, dems, ⟨r1, r2, r3, r4, r5, r6, r7, r8, r9⟩⟩ = lapsFrom (LL.map MainD.opt) (j1 :: f) (j2 :: t) (laps.drop (k + 1)) by rw [Hq.out, hc1, hc2]; rfl)
          have I1 := hide i1
          have I2 := hide i2
          clear hc1 hc2 Hq i1 i2
          go_wp2_with fail
          clear hl1 hl2
          have hk9 : k ≤ 1000000 := by omega
          obtain ⟨w6, run6, h6, hg6⟩ := HF.out.drew.store I1.out hk9
          have h7 := HT.out.drew.grown hg6 (by omega)
          obtain ⟨w8, run8, h8, hg8⟩ := h7.store I2.out hk9
          have H8 := hide h8
          have H9 := hide (h6.grown hg8 (by omega))
          have hb6 := below_grown (HR.out.drew) hg6 HR.out.size (Nat.le_refl _)
          have hb8 := hide (below_grown hb6 hg8 hb6.size (by omega))
          have d2 := ((K1.out.drew).grown hg6 (by simp; omega)).cell 1
          simp at d2
          have hk6 : wr.heap.size < w6.heap.size := Nat.lt_of_lt_of_le hk1 hg6.size
          clear h6 h7 h8 hg6 hg8 hb6
          go_region
          all_goals
            clear d0
            go_wp2_with fail
            go_roundw
            case rel => exact ⟨k + 1, by omega, by go_num, ⟨j1 :: f, j2 :: t, H9.out, H8.out, Hq2⟩, hb8.out⟩
            case measure => simp [intOf]; omega
        · rw [hc2] at hl2
          have hres := hide (show detOk ⟨⟨name, boxes, holes, cover, agg, poker⟩, bars, runs, laps, dems, ⟨r1, r2, r3, r4, r5, r6, r7, r8, r9⟩⟩ = false by rw [Hq.out, hc2]; simp)
          clear hc1 hc2
          go_wp2_with fail
          go_ret2
          exact .inl ⟨hres.out, rfl, HWr.out⟩
      · rw [hc1] at hl1
        have hres := hide (show detOk ⟨⟨name, boxes, holes, cover, agg, poker⟩, bars, runs, laps, dems, ⟨r1, r2, r3, r4, r5, r6, r7, r8, r9⟩⟩ = false by rw [Hq.out, hc1]; simp)
        clear hc1
        go_wp2_with fail
        go_ret2
        exact .inl ⟨hres.out, rfl, HWr.out⟩
    · obtain rfl : k = n5 := by omega
      have hres := hide (show detOk ⟨⟨name, boxes, holes, cover, agg, poker⟩, bars, runs, laps, dems, ⟨r1, r2, r3, r4, r5, r6, r7, r8, r9⟩⟩ = true by rw [hq.out, L5.out, List.drop_length]; rfl)
      have HMf := hide (show MainsAt wr wr.heap.size AM LL from HMs.out.carry (Flat.carried _) hbr hbr.size)
      clear hf ht hq
      go_wp2_with fail
      go_ret2
      exact .inr ⟨hres.out, AM, cM, by rw [← HLL.out]; rfl, by rw [← HL0.out]; exact HMf.out, HWr.out⟩
end Go.Proofs.YtpaanfjjnjjoeaaGreat
namespace Go.Proofs.YtpaanfjjnjjoeaaGreat
open Go.RowKit

set_option maxHeartbeats 1000000 in
set_option maxRecDepth 100000 in
theorem lapValid_any (x : DetD) (s : DetS) (w : World) {B : Nat} (h : DetAt w B x s) (hB : B ≤ w.heap.size) (hf : DetFit x s) :
    Calls Tryz.prog 61 #[detV x s] w fun e w' => e = .returned (.bool (detOk x)) ∧ Below w.heap.size w w' := by
  have HL := hide (fun (W : World) (hz : Below w.heap.size w W) => look_any x s W (h.carry (hz.mono hB) (Nat.le_refl _)) (Nat.le_trans hB hz.size) hf)
  have K0 := hide (Blk.new w 34 (detCells x.mem x.rule s))
  have HW := hide (below_new w (.cells (detCells x.mem x.rule s) 34))
  have Hi := hide (show (Tryz.prog.info? 34).map (·.size) = some 19 by kernel_rfl)
  obtain ⟨mem, bars, runs, laps, dems, rule⟩ := x
  obtain ⟨a1, n1, c1, a2, n2, c2, a3, n3, c3, a4, n4, c4, a5, n5, c5, a6, n6, c6⟩ := s
  obtain ⟨name, boxes, holes, cover, agg, poker⟩ := mem
  obtain ⟨r1, r2, r3, r4, r5, r6, r7, r8, r9⟩ := rule
  simp only [detCells] at K0 HW
  clear h hf
  show Calls Tryz.prog 61 #[.agg #[.string name, .slice a1 n1 c1, .slice a2 n2 c2, .int .i64 cover, .int .i64 agg, .int .i64 poker, .slice a3 n3 c3, .slice a4 n4 c4, .slice a5 n5 c5, .slice a6 n6 c6, .int .i64 r1, .int .i64 r2, .int .i64 r3, .int .i64 r4, .int .i64 r5, .int .i64 r6, .int .i64 r7, .int .i64 r8, .int .i64 r9]] w _
  go_enter Tryz.func61, Tryz.ntmps61
  go_wp2_with (refine wpList_load_row rfl 34 (.tmp 1) rfl w.heap.size rfl 34 _ (0, 0) _ K0.out Tryz.underlying34 rfl Hi.out ?_)
  refine (HL.out _ HW.out).mono ?_
  rintro e w2 (⟨hd, rfl, hb2⟩ | ⟨hd, A, c, rfl, _, hb2⟩)
  all_goals
    have Hd := hide hd
    have Hb := hide (below_step HW.out hb2 (Nat.le_refl _))
    clear hd hb2 HL K0 HW Hi
    go_wp2_with fail
    go_ret
    exact ⟨ret_bool Hd.out.symm, Hb.out⟩
theorem boxOk_iff {b : BoxD} : boxOk b = true ↔ (b.lo.1 ≤ b.hi.1 ∧ -1048576 ≤ b.lo.1 ∧ b.hi.1 ≤ 1048576) ∧ (b.lo.2.1 ≤ b.hi.2.1 ∧ -1048576 ≤ b.lo.2.1 ∧ b.hi.2.1 ≤ 1048576) ∧ (b.lo.2.2 ≤ b.hi.2.2 ∧ -1048576 ≤ b.lo.2.2 ∧ b.hi.2.2 ≤ 1048576) := by
  simp [boxOk, axes, axisFine, axisOk, and_assoc]
theorem hullOn_ok : ∀ (l : List BoxD) (a : BoxD), boxOk a = true → l.all boxOk = true → boxOk (hullOn a l) = true := by
  intro l
  induction l with
  | nil => intro a h _; exact h
  | cons b l ih =>
    intro a ha hl
    rw [List.all_cons, Bool.and_eq_true] at hl
    refine ih _ ?_ hl.2
    have h1 := boxOk_iff.1 ha
    have h2 := boxOk_iff.1 hl.1
    rw [boxOk_iff]
    simp only [minP, maxP]
    omega
theorem hullOf_ok {l : List BoxD} (hn : 1 ≤ l.length) (h : l.all boxOk = true) : boxOk (hullOf l) = true := by
  cases l with
  | nil => simp at hn
  | cons b l =>
    have h9 := h
    rw [List.all_cons, Bool.and_eq_true] at h9
    exact hullOn_ok (b :: l) b h9.1 h
theorem detOk_parts {x : DetD} (h : detOk x = true) : memOk x.mem = true ∧ laidOk x.bars x.runs = true ∧ solidOk x.mem.boxes x.mem.holes = true := by
  simp only [detOk, detHead, Bool.and_eq_true] at h
  have hm := h.1.1.1.1.1
  refine ⟨hm, h.1.1.1.1.2, ?_⟩
  simp only [memOk, Bool.and_eq_true] at hm
  exact hm.1.1.1.2
theorem detOk_hull {x : DetD} (h : detOk x = true) : boxOk (hullOf x.mem.boxes) = true := by
  obtain ⟨b1, _, b3⟩ := solid_boxes (detOk_parts h).2.2
  exact hullOf_ok b1 b3
end Go.Proofs.YtpaanfjjnjjoeaaGreat
namespace Go.Proofs.YtpaanfjjnjjoeaaGreat
open Go.RowKit

/-- A leg that a section cuts. -/
structure PieceD where
  cut : BoxD
  bar : Int
  size : Int
  cross : Bool
def encPc (p : PieceD) : List Value := [.int .i64 p.cut.lo.1, .int .i64 p.cut.lo.2.1, .int .i64 p.cut.lo.2.2, .int .i64 p.cut.hi.1, .int .i64 p.cut.hi.2.1, .int .i64 p.cut.hi.2.2, .int .i64 p.bar, .int .i64 p.size, .bool p.cross]
theorem encPc_len (p : PieceD) : (encPc p).length = 9 := rfl
theorem encPc_one (p : PieceD) : ∀ u ∈ encPc p, u.oneCell' = true := by
  intro u hu
  simp only [encPc, List.mem_cons, List.not_mem_nil, or_false] at hu
  rcases hu with rfl | rfl | rfl | rfl | rfl | rfl | rfl | rfl | rfl <;> rfl
abbrev PcsAt (w : World) (B : Nat) (A : Option Addr) (l : List PieceD) : Prop := SlOf w B 9 (Flat encPc) A l
theorem PcsAt.get {w : World} {B : Nat} {A : Option Addr} {l : List PieceD} (h : PcsAt w B A l) {k : Nat} (hk : k < l.length) :
    ∃ b off x, A = some ⟨b, off, none⟩ ∧ b < B ∧ l[k]? = some x ∧ ∀ j v, (encPc x)[j]? = some v → w.cell? ⟨b, off + k * 9 + j, none⟩ = some v := by
  obtain ⟨b, off, x, vs, hA, hb, hx, _, hr, hc⟩ := h.at_ hk
  have hr' : vs = encPc x := hr
  subst hr'
  exact ⟨b, off, x, hA, hb, hx, hc⟩
/-- The cut without its size, as the reference keeps it. -/
def encPt8 (p : PieceD) : List Value := [.int .i64 p.cut.lo.1, .int .i64 p.cut.lo.2.1, .int .i64 p.cut.lo.2.2, .int .i64 p.cut.hi.1, .int .i64 p.cut.hi.2.1, .int .i64 p.cut.hi.2.2, .int .i64 p.bar, .bool p.cross]
theorem encPt8_len (p : PieceD) : (encPt8 p).length = 8 := rfl
theorem encPt8_one (p : PieceD) : ∀ u ∈ encPt8 p, u.oneCell' = true := by
  intro u hu
  simp only [encPt8, List.mem_cons, List.not_mem_nil, or_false] at hu
  rcases hu with rfl | rfl | rfl | rfl | rfl | rfl | rfl | rfl <;> rfl
abbrev PartsAt (w : World) (B : Nat) (A : Option Addr) (l : List PieceD) : Prop := SlOf w B 8 (Flat encPt8) A l
theorem PartsAt.get {w : World} {B : Nat} {A : Option Addr} {l : List PieceD} (h : PartsAt w B A l) {k : Nat} (hk : k < l.length) :
    ∃ b off x, A = some ⟨b, off, none⟩ ∧ b < B ∧ l[k]? = some x ∧ ∀ j v, (encPt8 x)[j]? = some v → w.cell? ⟨b, off + k * 8 + j, none⟩ = some v := by
  obtain ⟨b, off, x, vs, hA, hb, hx, _, hr, hc⟩ := h.at_ hk
  have hr' : vs = encPt8 x := hr
  subst hr'
  exact ⟨b, off, x, hA, hb, hx, hc⟩
theorem snoc_ind {α : Type} {P : List α → Prop} (h0 : P []) (h1 : ∀ l x, P l → P (l ++ [x])) (l : List α) : P l := by
  rw [← List.reverse_reverse l]
  induction l.reverse with
  | nil => exact h0
  | cons x r ih => rw [List.reverse_cons]; exact h1 _ _ ih
def cutOf (a : Int) (b : BoxD) : BoxD := ⟨(a, b.lo.2.1, b.lo.2.2), (a, b.hi.2.1, b.hi.2.2)⟩
def overX (a : Int) (b : BoxD) : Bool := decide (b.lo.1 ≤ a) && decide (a ≤ b.hi.1)
def pieceOf (a bar size : Int) (b : BoxD) : PieceD := ⟨cutOf a b, bar, size, decide (a < b.hi.1)⟩
def legPieces (a bar size : Int) (l : List BoxD) : List PieceD := (l.filter (overX a)).map (pieceOf a bar size)
theorem legPieces_snoc (a bar size : Int) (l : List BoxD) (b : BoxD) : legPieces a bar size (l ++ [b]) = legPieces a bar size l ++ (if overX a b then [pieceOf a bar size b] else []) := by
  simp only [legPieces, List.filter_append, List.map_append, List.filter_cons, List.filter_nil]
  split <;> simp_all
theorem legPieces_nil (a bar size : Int) : legPieces a bar size [] = [] := rfl
theorem legPieces_len (a bar size : Int) (l : List BoxD) : (legPieces a bar size l).length ≤ l.length := by
  rw [legPieces, List.length_map]
  exact List.length_filter_le _ _
def piecesTo (a : Int) (l : List LaidD) : List PieceD := l.zipIdx.flatMap fun p => legPieces a (p.2 : Nat) p.1.bar.size (legsOfPts p.1.pts)
theorem piecesTo_nil (a : Int) : piecesTo a [] = [] := rfl
theorem piecesTo_snoc (a : Int) (l : List LaidD) (x : LaidD) : piecesTo a (l ++ [x]) = piecesTo a l ++ legPieces a (l.length : Nat) x.bar.size (legsOfPts x.pts) := by
  simp [piecesTo, List.zipIdx_append, List.flatMap_append]
theorem piecesTo_len {a : Int} : ∀ (l : List LaidD), (∀ x ∈ l, x.pts.length ≤ 7) → (piecesTo a l).length ≤ 6 * l.length := by
  refine snoc_ind ?_ ?_
  · intro _; simp [piecesTo]
  · intro l x ih h
    have h1 := ih (fun y hy => h y (by simp [hy]))
    have h2 := h x (by simp)
    have h3 := legPieces_len a (l.length : Nat) x.bar.size (legsOfPts x.pts)
    rw [legsOfPts_len] at h3
    rw [piecesTo_snoc, List.length_append, List.length_append, List.length_singleton]
    omega
/-- The legs that the section at a place cuts. -/
def cutsOf (x : DetD) (a : Int) : List PieceD := piecesTo a (laidAll x.bars x.runs)
def secErr (x : DetD) (a : Int) : Int := if detOk x = false then 1 else if a < -1048576 ∨ 1048576 < a then 2 else 0
theorem secErr_ok {x : DetD} {a : Int} (h : secErr x a = 0) : detOk x = true ∧ -1048576 ≤ a ∧ a ≤ 1048576 := by
  unfold secErr at h
  split at h
  · cases h
  rename_i h1
  split at h
  · cases h
  exact ⟨by simpa using h1, by omega⟩
/-- The bars of cuts, each once where it comes again at once. -/
def addBar (out : List Int) (p : PieceD) : List Int := if out.getLast? = some p.bar then out else out ++ [p.bar]
def barsOf (l : List PieceD) : List Int := l.foldl addBar []
theorem barsOf_snoc (l : List PieceD) (p : PieceD) : barsOf (l ++ [p]) = addBar (barsOf l) p := by simp [barsOf, List.foldl_append]
theorem addBar_len (out : List Int) (p : PieceD) : (addBar out p).length ≤ out.length + 1 := by
  unfold addBar
  split
  · omega
  · simp
theorem barsOf_len : ∀ l : List PieceD, (barsOf l).length ≤ l.length := by
  refine snoc_ind ?_ ?_
  · simp [barsOf]
  · intro l p ih
    have := addBar_len (barsOf l) p
    rw [barsOf_snoc, List.length_append, List.length_singleton]
    omega
def areaOf (d : Int) : Int := (7854 * d * d + 50) / 100
def steelOne (p : PieceD) : Int := if p.cross then areaOf p.size else 0
def steelOf (l : List PieceD) : Int := (l.map steelOne).sum
theorem steelOf_snoc (l : List PieceD) (p : PieceD) : steelOf (l ++ [p]) = steelOf l + steelOne p := by simp [steelOf]
def colsOf (x : DetD) (sc : Int) : Int := ((hullOf x.mem.boxes).hi.2.1 - (hullOf x.mem.boxes).lo.2.1) / sc + 1
def rowsS (x : DetD) (sc : Int) : Int := ((hullOf x.mem.boxes).hi.2.2 - (hullOf x.mem.boxes).lo.2.2) / sc + 1
def sizeErr (x : DetD) (sc : Int) : Int := if detOk x = false then 1 else if sc < 1 ∨ 1048576 < sc then 2 else 0
theorem sizeErr_ok {x : DetD} {sc : Int} (h : sizeErr x sc = 0) : detOk x = true ∧ 1 ≤ sc ∧ sc ≤ 1048576 := by
  unfold sizeErr at h
  split at h
  · cases h
  rename_i h1
  split at h
  · cases h
  exact ⟨by simpa using h1, by omega⟩
end Go.Proofs.YtpaanfjjnjjoeaaGreat
namespace Go.Proofs.YtpaanfjjnjjoeaaGreat
open Go.RowKit

def opensB (h b : BoxD) : Bool := decide (b.lo.1 < h.hi.1) && decide (h.lo.1 < b.hi.1) && decide (b.lo.2.1 < h.hi.2.1) && decide (h.lo.2.1 < b.hi.2.1) && decide (b.lo.2.2 < h.hi.2.2) && decide (h.lo.2.2 < b.hi.2.2)
def holdsB (a b : BoxD) : Bool := decide (a.lo.1 ≤ b.lo.1) && decide (b.hi.1 ≤ a.hi.1) && decide (a.lo.2.1 ≤ b.lo.2.1) && decide (b.hi.2.1 ≤ a.hi.2.1) && decide (a.lo.2.2 ≤ b.lo.2.2) && decide (b.hi.2.2 ≤ a.hi.2.2)
def opensAt (b : BoxD) (h : BoxD) : Bool := opensB h b
def holdsAt (b : BoxD) (a : BoxD) : Bool := holdsB a b
def inSolid (bs hs : List BoxD) (p : Pt) : Bool := !someOf (opensAt (ptBox p)) hs && someOf (holdsAt (ptBox p)) bs
theorem inSolid_far {bs hs : List BoxD} {p : Pt} (hb : bs.all boxOk = true) (h : nearBy 1048576 p = false) : inSolid bs hs p = false := by
  have hn : someOf (holdsAt (ptBox p)) bs = false := by
    rw [someOf, List.any_eq_false]
    intro a ha hh
    have h1 := boxOk_iff.1 (List.all_eq_true.1 hb a ha)
    have h2 : nearBy 1048576 p = true := by
      rw [nearBy_iff]
      have h3 : holdsB a ⟨p, p⟩ = true := hh
      simp only [holdsB, Bool.and_eq_true, decide_eq_true_eq] at h3
      omega
    rw [h] at h2
    cases h2
  rw [inSolid, hn, Bool.and_false]

def cellIx (n from_ sc : Int) : Int := if n < from_ then -1 else (n - from_) / sc
theorem cellIx_le {n f sc k : Int} (hs : 1 ≤ sc) (hk : 0 ≤ k) : cellIx n f sc ≤ k ↔ n < f + k * sc + sc := by
  have h1 : 0 ≤ k * sc := Int.mul_nonneg hk (by omega)
  unfold cellIx
  split
  · omega
  · have h2 : (n - f) / sc < k + 1 ↔ n - f < (k + 1) * sc := Int.ediv_lt_iff_lt_mul (by omega)
    rw [Int.add_mul, Int.one_mul] at h2
    omega
theorem le_cellIx {n f sc k : Int} (hs : 1 ≤ sc) (hk : 0 ≤ k) : k ≤ cellIx n f sc ↔ f + k * sc ≤ n := by
  have h1 : 0 ≤ k * sc := Int.mul_nonneg hk (by omega)
  unfold cellIx
  split
  · omega
  · have h2 : k ≤ (n - f) / sc ↔ k * sc ≤ n - f := Int.le_ediv_iff_mul_le (by omega)
    omega
theorem cellIx_range {n f sc : Int} (hs : 1 ≤ sc) (h : n - f ≤ 4194304) : -1 ≤ cellIx n f sc ∧ cellIx n f sc ≤ 4194304 := by
  unfold cellIx
  split
  · omega
  · have a := Int.ediv_nonneg (a := n - f) (b := sc) (by omega) (by omega)
    have b := Int.ediv_le_self (a := n - f) sc (by omega)
    omega
/-- Whether a box is seen in a cell: k the row, c the column. -/
def covS (y z sc : Int) (b : BoxD) (k c : Nat) : Bool :=
  decide (b.lo.2.1 < y + c * sc + sc) && decide (y + c * sc ≤ b.hi.2.1) && decide (b.lo.2.2 < z + k * sc + sc) && decide (z + k * sc ≤ b.hi.2.2)
def dotB (p : PieceD) : BoxD := ⟨p.cut.lo, p.cut.lo⟩
def plusIn (y z sc : Int) (k c : Nat) (p : PieceD) : Bool := covS y z sc p.cut k c
def ringIn (y z sc : Int) (k c : Nat) (p : PieceD) : Bool := p.cross && covS y z sc (dotB p) k c
def sign3 (r p i : Bool) : UInt8 := if r then 111 else if p then 43 else if i then 35 else 46
/-- The cell's sign behind so many pieces of the first pass, so many of the second one. -/
def signTo (y z sc : Int) (ins : Nat → Nat → Bool) (l1 l2 : List PieceD) (k c : Nat) : UInt8 := sign3 (l2.any (ringIn y z sc k c)) (l1.any (plusIn y z sc k c)) (ins k c)
def rectS (klo khi clo chi : Int) (k c : Nat) : Bool := decide (klo ≤ (k : Int)) && decide ((k : Int) ≤ khi) && decide (clo ≤ (c : Int)) && decide ((c : Int) ≤ chi)
theorem rect_cov {y z sc : Int} (hs : 1 ≤ sc) (b : BoxD) {rows cols k c : Nat} (hk : k < rows) (hc : c < cols) :
    rectS (max 0 (cellIx b.lo.2.2 z sc)) (min ((rows : Int) - 1) (cellIx b.hi.2.2 z sc)) (max 0 (cellIx b.lo.2.1 y sc)) (min ((cols : Int) - 1) (cellIx b.hi.2.1 y sc)) k c = covS y z sc b k c := by
  have h1 := cellIx_le (n := b.lo.2.2) (f := z) hs (Int.natCast_nonneg k)
  have h2 := le_cellIx (n := b.hi.2.2) (f := z) hs (Int.natCast_nonneg k)
  have h3 := cellIx_le (n := b.lo.2.1) (f := y) hs (Int.natCast_nonneg c)
  have h4 := le_cellIx (n := b.hi.2.1) (f := y) hs (Int.natCast_nonneg c)
  rw [Bool.eq_iff_iff]
  simp only [rectS, covS, Bool.and_eq_true, decide_eq_true_eq, ← h1, ← h2, ← h3, ← h4]
  omega
/-- The part of a rectangle that is painted when the loops are at row k0, column c0. -/
def rectTo (klo khi clo chi k0 c0 : Int) (k c : Nat) : Bool := rectS klo khi clo chi k c && (decide ((k : Int) < k0) || (decide ((k : Int) = k0) && decide ((c : Int) < c0)))
def paint (S : Nat → Nat → Bool) (sg : UInt8) (G : Nat → Nat → UInt8) (k c : Nat) : UInt8 := if S k c then sg else G k c
def setG (k0 c0 : Nat) (sg : UInt8) (G : Nat → Nat → UInt8) (k c : Nat) : UInt8 := if k = k0 ∧ c = c0 then sg else G k c
theorem paint_none (klo khi clo chi : Int) (sg : UInt8) (G : Nat → Nat → UInt8) (k c : Nat) : paint (rectTo klo khi clo chi klo clo) sg G k c = G k c := by
  unfold paint
  rw [if_neg]
  simp only [rectTo, rectS, Bool.and_eq_true, Bool.or_eq_true, decide_eq_true_eq]
  omega
theorem paint_step {klo khi clo chi : Int} {k0 c0 : Nat} (h1 : klo ≤ (k0 : Int)) (h2 : (k0 : Int) ≤ khi) (h3 : clo ≤ (c0 : Int)) (h4 : (c0 : Int) ≤ chi) (sg : UInt8) (G : Nat → Nat → UInt8) (k c : Nat) :
    setG k0 c0 sg (paint (rectTo klo khi clo chi k0 c0) sg G) k c = paint (rectTo klo khi clo chi k0 ((c0 : Int) + 1)) sg G k c := by
  unfold setG paint
  by_cases h : k = k0 ∧ c = c0
  · rw [if_pos h, if_pos]
    simp only [rectTo, rectS, Bool.and_eq_true, Bool.or_eq_true, decide_eq_true_eq]
    omega
  · rw [if_neg h]
    have e : rectTo klo khi clo chi k0 c0 k c = rectTo klo khi clo chi k0 ((c0 : Int) + 1) k c := by
      rw [Bool.eq_iff_iff]
      simp only [rectTo, rectS, Bool.and_eq_true, Bool.or_eq_true, decide_eq_true_eq]
      omega
    rw [e]
theorem paint_row {klo khi clo chi k0 c0 : Int} (h : chi < c0) (sg : UInt8) (G : Nat → Nat → UInt8) (k c : Nat) :
    paint (rectTo klo khi clo chi k0 c0) sg G k c = paint (rectTo klo khi clo chi (k0 + 1) clo) sg G k c := by
  have e : rectTo klo khi clo chi k0 c0 k c = rectTo klo khi clo chi (k0 + 1) clo k c := by
    rw [Bool.eq_iff_iff]
    simp only [rectTo, rectS, Bool.and_eq_true, Bool.or_eq_true, decide_eq_true_eq]
    omega
  unfold paint
  rw [e]
theorem paint_all {klo khi clo chi k0 c0 : Int} (h : khi < k0) (sg : UInt8) (G : Nat → Nat → UInt8) (k c : Nat) :
    paint (rectTo klo khi clo chi k0 c0) sg G k c = paint (rectS klo khi clo chi) sg G k c := by
  have e : rectTo klo khi clo chi k0 c0 k c = rectS klo khi clo chi k c := by
    rw [Bool.eq_iff_iff]
    simp only [rectTo, rectS, Bool.and_eq_true, Bool.or_eq_true, decide_eq_true_eq]
    omega
  unfold paint
  rw [e]
theorem sign_plus (y z sc : Int) (ins : Nat → Nat → Bool) (l : List PieceD) (p : PieceD) (k c : Nat) :
    (if covS y z sc p.cut k c then 43 else signTo y z sc ins l [] k c) = signTo y z sc ins (l ++ [p]) [] k c := by
  simp only [signTo, sign3, List.any_nil, List.any_append, List.any_cons, Bool.or_false, plusIn]
  cases covS y z sc p.cut k c <;> simp
theorem sign_ring (y z sc : Int) (ins : Nat → Nat → Bool) (l1 l : List PieceD) (p : PieceD) (hp : p.cross = true) (k c : Nat) :
    (if covS y z sc (dotB p) k c then 111 else signTo y z sc ins l1 l k c) = signTo y z sc ins l1 (l ++ [p]) k c := by
  simp only [signTo, sign3, List.any_append, List.any_cons, List.any_nil, Bool.or_false, ringIn, hp, Bool.true_and]
  cases covS y z sc (dotB p) k c <;> simp
theorem sign_skip (y z sc : Int) (ins : Nat → Nat → Bool) (l1 l : List PieceD) (p : PieceD) (hp : p.cross = false) (k c : Nat) :
    signTo y z sc ins l1 l k c = signTo y z sc ins l1 (l ++ [p]) k c := by
  simp only [signTo, List.any_append, List.any_cons, List.any_nil, Bool.or_false, ringIn, hp, Bool.false_and, Bool.or_false]
/-- So many of m rows, from the last one on. -/
def textTop (R : Nat → List UInt8) (m : Nat) : Nat → List UInt8
  | 0 => []
  | n + 1 => textTop R m n ++ R (m - 1 - n)
def rowB (G : Nat → Nat → UInt8) (cols k : Nat) : List UInt8 := (List.range cols).map (G k) ++ [10]
theorem rowB_len (G : Nat → Nat → UInt8) (cols k : Nat) : (rowB G cols k).length = cols + 1 := by simp [rowB]
theorem textTop_len (G : Nat → Nat → UInt8) (cols m : Nat) : ∀ n, (textTop (rowB G cols) m n).length = n * (cols + 1) := by
  intro n
  induction n with
  | zero => simp [textTop]
  | succ n ih => rw [textTop, List.length_append, ih, rowB_len, Nat.add_mul, Nat.one_mul]
theorem textTop_congr {G G' : Nat → Nat → UInt8} {cols m : Nat} (h : ∀ k c, k < m → c < cols → G k c = G' k c) : ∀ n, n ≤ m → textTop (rowB G cols) m n = textTop (rowB G' cols) m n := by
  intro n
  induction n with
  | zero => intro _; rfl
  | succ n ih =>
    intro hn
    rw [textTop, textTop, ih (by omega)]
    congr 1
    unfold rowB
    congr 1
    refine List.map_congr_left fun c hc => ?_
    rw [List.mem_range] at hc
    exact h _ _ (by omega) hc
/-- The drawing's signs. -/
def insAt (x : DetD) (a sc : Int) (k c : Nat) : Bool := inSolid x.mem.boxes x.mem.holes (a, (hullOf x.mem.boxes).lo.2.1 + c * sc, (hullOf x.mem.boxes).lo.2.2 + k * sc)
def signS (x : DetD) (a sc : Int) (k c : Nat) : UInt8 := signTo (hullOf x.mem.boxes).lo.2.1 (hullOf x.mem.boxes).lo.2.2 sc (insAt x a sc) (cutsOf x a) (cutsOf x a) k c
def sectText (x : DetD) (a sc : Int) : List UInt8 := textTop (rowB (signS x a sc) (colsOf x sc).toNat) (rowsS x sc).toNat (rowsS x sc).toNat
def drawErr (x : DetD) (a sc : Int) : Int := if secErr x a ≠ 0 then secErr x a else if sizeErr x sc ≠ 0 then sizeErr x sc else if 200 < colsOf x sc ∨ 200 < rowsS x sc then 4 else 0
end Go.Proofs.YtpaanfjjnjjoeaaGreat
namespace Go.Proofs.YtpaanfjjnjjoeaaGreat
open Go.RowKit

def putD (x : DetD) (r : RunD) : DetD := ⟨x.mem, x.bars, x.runs ++ [r], x.laps, x.dems, x.rule⟩
def goneAt (frm n i : Int) : Bool := decide (frm ≤ i) && decide (i < frm + n)
def movedTo (frm n i : Int) : Int := if frm ≤ i then i - n else i
def keptLap (frm n : Int) (j : JoinD) : Bool := !goneAt frm n j.first && !goneAt frm n j.second
def movedLap (frm n : Int) (j : JoinD) : JoinD := ⟨movedTo frm n j.first, movedTo frm n j.second⟩
def lapsLess (frm n : Int) (l : List JoinD) : List JoinD := (l.filter (keptLap frm n)).map (movedLap frm n)
def cntAt (l : List RunD) (k : Nat) : Int := match l[k]? with | some r => r.count | none => 0
def dropD (x : DetD) (k : Nat) : DetD := ⟨x.mem, x.bars, x.runs.eraseIdx k, lapsLess (countRuns (x.runs.take k)) (cntAt x.runs k) x.laps, x.dems, x.rule⟩

theorem lapsLess_snoc (frm n : Int) (l : List JoinD) (j : JoinD) : lapsLess frm n (l ++ [j]) = lapsLess frm n l ++ (if keptLap frm n j then [movedLap frm n j] else []) := by
  simp only [lapsLess, List.filter_append, List.map_append]
  cases h : keptLap frm n j <;> simp [h]
theorem lapsFrom_mem {ms : List (Option BoxD)} : ∀ (l : List JoinD) (f s : List Int), lapsFrom ms f s l = true → ∀ j ∈ l, lapsFit ms j = true := by
  intro l
  induction l with
  | nil => intro f s _ j hj; cases hj
  | cons y l ih =>
    intro f s h j hj
    simp only [lapsFrom, Bool.and_eq_true] at h
    rcases List.mem_cons.1 hj with rfl | hj
    · exact h.1.1.1
    · exact ih _ _ h.2 j hj
theorem lapsFit_range {ms : List (Option BoxD)} {j : JoinD} (h : lapsFit ms j = true) : 0 ≤ j.first ∧ j.first < (ms.length : Int) ∧ 0 ≤ j.second ∧ j.second < (ms.length : Int) := by
  simp only [lapsFit, Bool.and_eq_true, decide_eq_true_eq] at h
  exact ⟨h.1.1.1.1, h.1.1.1.2, h.1.1.2, h.1.2⟩
theorem detOk_laps {x : DetD} (h : detOk x = true) : lapsFrom ((laidAll x.bars x.runs).map mainLeg) [] [] x.laps = true := by
  simp only [detOk, Bool.and_eq_true] at h
  exact h.2
theorem detOk_lap {x : DetD} (h : detOk x = true) : ∀ j ∈ x.laps, 0 ≤ j.first ∧ j.first < countRuns x.runs ∧ 0 ≤ j.second ∧ j.second < countRuns x.runs := by
  intro j hj
  have h1 := lapsFit_range (lapsFrom_mem _ _ _ (detOk_laps h) j hj)
  have h2 := (laidOk_len (detOk_parts h).2.1).1
  rw [List.length_map] at h1
  omega
theorem laps_same {frm n : Int} : ∀ l : List JoinD, (∀ j ∈ l, j.first < frm ∧ j.second < frm) → lapsLess frm n l = l := by
  intro l
  induction l with
  | nil => intro _; rfl
  | cons j l ih =>
    intro h
    obtain ⟨h1, h2⟩ := h j (List.mem_cons_self ..)
    have hk : keptLap frm n j = true := by simp [keptLap, goneAt]; omega
    have hm : movedLap frm n j = j := by
      obtain ⟨a, b⟩ := j
      have g1 : ¬ frm ≤ a := by have : a < frm := h1; omega
      have g2 : ¬ frm ≤ b := by have : b < frm := h2; omega
      show (⟨movedTo frm n a, movedTo frm n b⟩ : JoinD) = ⟨a, b⟩
      rw [movedTo, movedTo, if_neg g1, if_neg g2]
    have := ih (fun q hq => h q (List.mem_cons_of_mem _ hq))
    simp only [lapsLess] at this ⊢
    rw [List.filter_cons_of_pos hk, List.map_cons, hm, this]
/-- What is put, and dropped, leaves the detail as it was. -/
theorem put_drop {x : DetD} (h : detOk x = true) (r : RunD) : dropD (putD x r) x.runs.length = x := by
  have h1 : (x.runs ++ [r]).eraseIdx x.runs.length = x.runs := by rw [List.eraseIdx_append_of_length_le (Nat.le_refl _)]; simp
  have h2 : lapsLess (countRuns ((x.runs ++ [r]).take x.runs.length)) (cntAt (x.runs ++ [r]) x.runs.length) x.laps = x.laps := by
    rw [List.take_left']
    · exact laps_same _ (fun j hj => by have := detOk_lap h j hj; omega)
    · rfl
  obtain ⟨a, b, c, d, e, f⟩ := x
  simp only [dropD, putD] at h1 h2 ⊢
  rw [h1, h2]
/-- The bars of the runs but one. -/
theorem erase_split {α : Type} (l : List α) (k : Nat) : l.eraseIdx k = l.take k ++ l.drop (k + 1) := List.eraseIdx_eq_take_drop_succ l k
theorem countRuns_app (a : List RunD) : ∀ b : List RunD, countRuns (a ++ b) = countRuns a + countRuns b := by
  induction a with
  | nil => intro b; simp [countRuns]
  | cons r a ih => intro b; rw [List.cons_append, countRuns_cons, countRuns_cons, ih b]; omega
theorem laidAll_app (bars : List BarD) (a b : List RunD) : laidAll bars (a ++ b) = laidAll bars a ++ laidAll bars b := by simp [laidAll]
theorem laidOk_drop {bars : List BarD} {runs : List RunD} {k : Nat} (h : laidOk bars runs = true) : laidOk bars (runs.eraseIdx k) = true := by
  simp only [laidOk, Bool.and_eq_true, decide_eq_true_eq] at h ⊢
  obtain ⟨⟨h1, h2⟩, h3⟩ := h
  refine ⟨⟨h1, Nat.le_trans (List.length_eraseIdx_le ..) h2⟩, ?_⟩
  rw [runsFit_all _ _ (by omega), Bool.and_eq_true, decide_eq_true_eq] at h3 ⊢
  obtain ⟨h3, h4⟩ := h3
  rw [List.all_eq_true] at h3
  refine ⟨List.all_eq_true.2 (fun r hr => h3 r (List.mem_of_mem_eraseIdx hr)), ?_⟩
  rcases Nat.lt_or_ge k runs.length with hk | hk
  · have hs : runs = runs.take k ++ runs[k] :: runs.drop (k + 1) := by rw [← List.drop_eq_getElem_cons hk, List.take_append_drop]
    have e1 : countRuns runs = countRuns (runs.take k) + ((runs[k]).count + countRuns (runs.drop (k + 1))) := by
      conv => lhs; rw [hs]
      rw [countRuns_app, countRuns_cons]
    have e2 := (runOk_count (h3 _ (List.getElem_mem hk))).1
    rw [erase_split, countRuns_app]
    omega
  · rw [List.eraseIdx_of_length_le hk]
    exact h4
theorem laidRun_len {bars : List BarD} {r : RunD} (h : runOk bars r = true) : ((laidRun bars r).length : Int) = r.count := by
  have h1 := laidAll_len (bars := bars) [r] (by intro q hq; rw [List.mem_singleton] at hq; subst hq; exact h)
  simpa [laidAll, countRuns] using h1
/-- The main legs without those of a run. -/
theorem mains_drop {bars : List BarD} {runs : List RunD} {k : Nat} (h : laidOk bars runs = true) (hk : k < runs.length) :
    ∃ P S T : List (Option BoxD), (laidAll bars runs).map mainLeg = P ++ S ++ T ∧ (laidAll bars (runs.eraseIdx k)).map mainLeg = P ++ T ∧ (P.length : Int) = countRuns (runs.take k) ∧ (S.length : Int) = cntAt runs k := by
  have hm := (laidOk_mem h).2.2
  have hs : runs = runs.take k ++ [runs[k]] ++ runs.drop (k + 1) := by
    rw [List.append_assoc, List.singleton_append, ← List.drop_eq_getElem_cons hk, List.take_append_drop]
  refine ⟨(laidAll bars (runs.take k)).map mainLeg, (laidRun bars runs[k]).map mainLeg, (laidAll bars (runs.drop (k + 1))).map mainLeg, ?_, ?_, ?_, ?_⟩
  · conv => lhs; rw [hs]
    rw [laidAll_app, laidAll_app, List.map_append, List.map_append]
    congr 2
    simp [laidAll]
  · rw [erase_split, laidAll_app, List.map_append]
  · rw [List.length_map]
    exact laidAll_len _ (fun r hr => hm r (List.mem_of_mem_take hr))
  · rw [List.length_map, laidRun_len (hm _ (List.getElem_mem hk)), cntAt, List.getElem?_eq_getElem hk]
theorem getD_drop {α : Type} {P S T : List α} {i : Nat} {d : α} (h : i < P.length ∨ P.length + S.length ≤ i) : (P ++ T).getD (if P.length ≤ i then i - S.length else i) d = (P ++ S ++ T).getD i d := by
  rw [List.getD_eq_getElem?_getD, List.getD_eq_getElem?_getD]
  congr 1
  rcases h with h | h
  · rw [if_neg (by omega), List.getElem?_append_left h, List.append_assoc, List.getElem?_append_left h]
  · rw [if_pos (by omega), List.getElem?_append_right (by omega), List.append_assoc, List.getElem?_append_right (by omega), List.getElem?_append_right (by omega)]
    congr 1
    omega
theorem moved_nat {P S : Nat} {i : Int} (h0 : 0 ≤ i) (hk : goneAt P S i = false) : (i.toNat < P ∨ P + S ≤ i.toNat) ∧ movedTo P S i = ((if P ≤ i.toNat then i.toNat - S else i.toNat : Nat) : Int) := by
  simp only [goneAt, Bool.and_eq_false_iff, decide_eq_false_iff_not] at hk
  refine ⟨by omega, ?_⟩
  unfold movedTo
  split <;> split <;> omega
theorem moved_inj {P S : Nat} {i j : Int} (hi : goneAt P S i = false) (hj : goneAt P S j = false) (h : movedTo P S i = movedTo P S j) : i = j := by
  simp only [goneAt, Bool.and_eq_false_iff, decide_eq_false_iff_not] at hi hj
  unfold movedTo at h
  split at h <;> split at h <;> omega
def pairOk (a b : Option BoxD) : Bool := match a, b with
  | some a, some b => decide (a.lo.1 < b.lo.1) && decide (a.hi.1 < b.hi.1) && decide (b.lo.1 ≤ a.hi.1)
  | _, _ => false
theorem lapsFit_iff {ms : List (Option BoxD)} {j : JoinD} : lapsFit ms j = true ↔ 0 ≤ j.first ∧ j.first < (ms.length : Int) ∧ 0 ≤ j.second ∧ j.second < (ms.length : Int) ∧ pairOk (ms.getD j.first.toNat none) (ms.getD j.second.toNat none) = true := by
  have h : lapsFit ms j = (decide (0 ≤ j.first) && decide (j.first < ms.length) && decide (0 ≤ j.second) && decide (j.second < ms.length) && pairOk (ms.getD j.first.toNat none) (ms.getD j.second.toNat none)) := rfl
  rw [h]
  simp only [Bool.and_eq_true, decide_eq_true_eq, and_assoc]
theorem fit_drop {P S T : List (Option BoxD)} {j : JoinD} (h : lapsFit (P ++ S ++ T) j = true) (hk : keptLap P.length S.length j = true) : lapsFit (P ++ T) (movedLap P.length S.length j) = true := by
  have hr := lapsFit_range h
  simp only [keptLap, Bool.and_eq_true, Bool.not_eq_true'] at hk
  obtain ⟨a1, a2⟩ := moved_nat hr.1 hk.1
  obtain ⟨b1, b2⟩ := moved_nat hr.2.2.1 hk.2
  have e1 := getD_drop (T := T) (d := none) a1
  have e2 := getD_drop (T := T) (d := none) b1
  rw [lapsFit_iff] at h ⊢
  have c1 : (movedLap P.length S.length j).first = ((if P.length ≤ j.first.toNat then j.first.toNat - S.length else j.first.toNat : Nat) : Int) := a2
  have c2 : (movedLap P.length S.length j).second = ((if P.length ≤ j.second.toNat then j.second.toNat - S.length else j.second.toNat : Nat) : Int) := b2
  rw [c1, c2, Int.toNat_natCast, Int.toNat_natCast, e1, e2]
  simp only [List.length_append] at hr ⊢
  refine ⟨by omega, ?_, by omega, ?_, h.2.2.2.2⟩
  · split <;> omega
  · split <;> omega
theorem laps_drop {P S T : List (Option BoxD)} : ∀ (l : List JoinD) (f s f' s' : List Int), lapsFrom (P ++ S ++ T) f s l = true →
    (∀ i, goneAt P.length S.length i = false → movedTo P.length S.length i ∈ f' → i ∈ f) → (∀ i, goneAt P.length S.length i = false → movedTo P.length S.length i ∈ s' → i ∈ s) →
    lapsFrom (P ++ T) f' s' (lapsLess P.length S.length l) = true := by
  intro l
  induction l with
  | nil => intro f s f' s' _ _ _; rfl
  | cons j l ih =>
    intro f s f' s' h hf hs
    simp only [lapsFrom, Bool.and_eq_true, Bool.not_eq_true'] at h
    obtain ⟨⟨⟨h1, h2⟩, h3⟩, h4⟩ := h
    cases hk : keptLap P.length S.length j
    · have : lapsLess P.length S.length (j :: l) = lapsLess P.length S.length l := by simp [lapsLess, hk]
      rw [this]
      exact ih _ _ f' s' h4 (fun i hi hm => List.mem_cons_of_mem _ (hf i hi hm)) (fun i hi hm => List.mem_cons_of_mem _ (hs i hi hm))
    · have : lapsLess P.length S.length (j :: l) = movedLap P.length S.length j :: lapsLess P.length S.length l := by simp [lapsLess, hk]
      rw [this]
      have hk2 := hk
      simp only [keptLap, Bool.and_eq_true, Bool.not_eq_true'] at hk2
      simp only [lapsFrom, Bool.and_eq_true, Bool.not_eq_true']
      refine ⟨⟨⟨fit_drop h1 hk, ?_⟩, ?_⟩, ?_⟩
      · cases hc : f'.contains (movedLap P.length S.length j).first
        · rfl
        · rw [List.contains_iff_mem] at hc
          have := hf _ hk2.1 hc
          rw [← List.contains_iff_mem, h2] at this
          cases this
      · cases hc : s'.contains (movedLap P.length S.length j).second
        · rfl
        · rw [List.contains_iff_mem] at hc
          have := hs _ hk2.2 hc
          rw [← List.contains_iff_mem, h3] at this
          cases this
      · refine ih _ _ _ _ h4 (fun i hi hm => ?_) (fun i hi hm => ?_)
        · rcases List.mem_cons.1 hm with hm | hm
          · rw [moved_inj hi hk2.1 hm]; exact List.mem_cons_self ..
          · exact List.mem_cons_of_mem _ (hf i hi hm)
        · rcases List.mem_cons.1 hm with hm | hm
          · rw [moved_inj hi hk2.2 hm]; exact List.mem_cons_self ..
          · exact List.mem_cons_of_mem _ (hs i hi hm)
/-- A detail without a run is valid. -/
theorem drop_ok {x : DetD} (h : detOk x = true) {k : Nat} (hk : k < x.runs.length) : detOk (dropD x k) = true := by
  have hp := detOk_parts h
  obtain ⟨P, S, T, e1, e2, e3, e4⟩ := mains_drop hp.2.1 hk
  have hl := detOk_laps h
  rw [e1] at hl
  have hl2 := laps_drop x.laps [] [] [] [] hl (fun i _ hm => by cases hm) (fun i _ hm => by cases hm)
  rw [e3, e4] at hl2
  have hlen : (lapsLess (countRuns (x.runs.take k)) (cntAt x.runs k) x.laps).length ≤ x.laps.length := by
    rw [lapsLess, List.length_map]
    exact List.length_filter_le ..
  simp only [detOk, detHead, Bool.and_eq_true, decide_eq_true_eq] at h ⊢
  obtain ⟨⟨⟨⟨⟨g1, g2⟩, g3⟩, g4⟩, g5⟩, g6⟩ := h
  refine ⟨⟨⟨⟨⟨g1, laidOk_drop g2⟩, g3⟩, g4⟩, Nat.le_trans hlen g5⟩, ?_⟩
  show lapsFrom ((laidAll x.bars (x.runs.eraseIdx k)).map mainLeg) [] [] (lapsLess (countRuns (x.runs.take k)) (cntAt x.runs k) x.laps) = true
  rw [e2]
  exact hl2
end Go.Proofs.YtpaanfjjnjjoeaaGreat
namespace Go.Proofs.YtpaanfjjnjjoeaaGreat
open Go.RowKit

theorem schedFrom_at {l : List BarD} : ∀ (r : List BarD) (k : Nat), schedFrom l k r = true → ∀ (j : Nat) (x : BarD), r[j]? = some x → idx (markIs x.mark) l = ((k + j : Nat) : Int) := by
  intro r
  induction r with
  | nil => intro k _ j x h; simp at h
  | cons y r ih =>
    intro k h j x hx
    simp only [schedFrom, Bool.and_eq_true, decide_eq_true_eq] at h
    cases j with
    | zero =>
      obtain rfl : y = x := by simpa using hx
      exact h.1.2
    | succ j =>
      rw [List.getElem?_cons_succ] at hx
      rw [ih (k + 1) h.2 j x hx]
      congr 1
      omega
theorem sched_at {l : List BarD} (h : schedOk l = true) {j : Nat} {x : BarD} (hx : l[j]? = some x) : idx (markIs x.mark) l = (j : Int) := by
  simp only [schedOk, Bool.and_eq_true] at h
  rw [schedFrom_at l 0 h.2 j x hx, Nat.zero_add]
def OneMark (l : List BarD) : Prop := ∀ (i j : Nat) (x y : BarD), l[i]? = some x → l[j]? = some y → x.mark = y.mark → i = j
theorem sched_one {l : List BarD} (h : schedOk l = true) : OneMark l := by
  intro i j x y hx hy he
  have h1 := sched_at h hx
  have h2 := sched_at h hy
  rw [he, h2] at h1
  omega
/-- The size of each mark, once so many lines have been laid. -/
def sizeTo (l : List BarD) : ByteArray → Int := l.foldl (fun f b => putS f b.mark b.size) (fun _ => 0)
theorem sizeTo_nil : sizeTo [] = fun _ => 0 := rfl
theorem sizeTo_snoc (l : List BarD) (b : BarD) : sizeTo (l ++ [b]) = putS (sizeTo l) b.mark b.size := by simp [sizeTo, List.foldl_append]
theorem sizeTo_at : ∀ (l : List BarD), OneMark l → ∀ x ∈ l, sizeTo l x.mark = x.size := by
  refine snoc_ind ?_ ?_
  · intro _ x hx; simp at hx
  · intro l z ih h x hx
    rw [sizeTo_snoc, putS]
    by_cases he : x.mark = z.mark
    · rw [if_pos he]
      obtain ⟨i, hi, hxi⟩ := List.getElem_of_mem hx
      have h1 : (l ++ [z])[i]? = some x := by rw [List.getElem?_eq_getElem hi, hxi]
      have h2 : (l ++ [z])[l.length]? = some z := by simp
      have h3 := h i l.length x z h1 h2 he
      rw [h3, h2] at h1
      injection h1 with h1
      rw [h1]
    · rw [if_neg he]
      rcases List.mem_append.1 hx with h1 | h1
      · refine ih (fun i j u v hu hv huv => h i j u v ?_ ?_ huv) x h1
        · rw [List.getElem?_append_left (lt_of_get hu)]; exact hu
        · rw [List.getElem?_append_left (lt_of_get hv)]; exact hv
      · rw [List.mem_singleton] at h1
        exact absurd (by rw [h1]) he
theorem laidOk_sched {bars : List BarD} {runs : List RunD} (h : laidOk bars runs = true) : schedOk bars = true := by
  simp only [laidOk, Bool.and_eq_true] at h
  exact h.1.1
theorem laid_bar {bars : List BarD} {runs : List RunD} (hok : laidOk bars runs = true) {i : Nat} {l : LaidD} (hl : (laidAll bars runs)[i]? = some l) : l.bar ∈ bars := by
  have hm := mem_of_get hl
  simp only [laidAll, List.mem_flatMap] at hm
  obtain ⟨u, hu, hm⟩ := hm
  obtain ⟨j, y, hj, hy, hyb, _⟩ := runOk_bar ((laidOk_mem hok).2.2 u hu)
  rw [laidRun_of hyb] at hm
  simp only [laidTo, List.mem_map] at hm
  obtain ⟨q, _, rfl⟩ := hm
  exact mem_of_get hy
theorem bar_size {bars : List BarD} {runs : List RunD} (hok : laidOk bars runs = true) {x : BarD} (hx : x ∈ bars) : isSize x.size = true := by
  have h := (laidOk_mem hok).1 x hx
  simp only [barOk, Bool.and_eq_true] at h
  simp_all
theorem isSize_int {d : Int} (h : isSize d = true) : InInt d := by
  have := isSize_range h
  unfold InInt
  omega
end Go.Proofs.YtpaanfjjnjjoeaaGreat
namespace Go.Proofs.YtpaanfjjnjjoeaaGreat
open Go.RowKit

theorem hull_pair (p q : Pt) : hullOf [ptBox p, ptBox q] = legBox p q := by
  obtain ⟨p1, p2, p3⟩ := p
  obtain ⟨q1, q2, q3⟩ := q
  simp [hullOf, hullOn, ptBox, legBox, minP, maxP]
theorem ptBox_ok {p : Pt} (h : nearBy 1048576 p = true) : boxOk (ptBox p) = true := by
  obtain ⟨a, b, c⟩ := nearBy_iff.1 h
  rw [boxOk_iff]
  simp only [ptBox]
  omega
theorem leg_ok {p q : Pt} (hp : nearBy 1048576 p = true) (hq : nearBy 1048576 q = true) : boxOk (legBox p q) = true := by
  obtain ⟨a, b, c⟩ := nearBy_iff.1 hp
  obtain ⟨d, e, f⟩ := nearBy_iff.1 hq
  rw [boxOk_iff]
  simp only [legBox, minP, maxP]
  omega
/-- Two points next to each other, out of a slice of points. -/
theorem pts_pair {w : World} {B b off : Nat} {l : List Pt} {k : Nat} {p q : Pt} (h : PtsAt w B (some ⟨b, off, none⟩) l) (hp : l[k]? = some p) (hq : l[k + 1]? = some q) : PtsAt w B (some ⟨b, off + k * 3, none⟩) [p, q] := by
  obtain ⟨b', off', hA, hb, hc⟩ := h (by have := lt_of_get hp; omega)
  injection hA with hA
  injection hA with h1 h2
  subst h1
  subst h2
  intro _
  refine ⟨b, off + k * 3, rfl, hb, fun j x hx => ?_⟩
  have hj : l[k + j]? = some x := by
    match j, hx with
    | 0, hx => simp at hx; subst hx; exact hp
    | 1, hx => simp at hx; subst hx; exact hq
    | j + 2, hx => simp at hx
  obtain ⟨vs, hs, hr, hv⟩ := hc (k + j) x hj
  exact ⟨vs, hs, hr, fun i v hi => by
    have := hv i v hi
    rwa [show off + (k + j) * 3 + i = off + k * 3 + j * 3 + i by omega] at this⟩
theorem laid_near {bars : List BarD} : ∀ (runs : List RunD) (i : Nat) (l : LaidD), (∀ r ∈ runs, runOk bars r = true) → (laidAll bars runs)[i]? = some l → (∀ p ∈ l.pts, nearBy 1048576 p = true) ∧ 1 ≤ l.pts.length ∧ l.pts.length ≤ 7 := by
  intro runs
  induction runs with
  | nil => intro i l _ h; simp [laidAll] at h
  | cons r runs ih =>
    intro i l hok h
    obtain ⟨j, x, hj, hx', hx, _⟩ := runOk_bar (hok r (by simp))
    have e : laidAll bars (r :: runs) = laidTo x r r.count.toNat ++ laidAll bars runs := by rw [← laidRun_of hx]; simp [laidAll]
    rw [e] at h
    by_cases hi : i < r.count.toNat
    · rw [List.getElem?_append_left (by rw [laidTo_len]; exact hi)] at h
      simp [laidTo, hi] at h
      subst h
      refine ⟨runOk_near (hok r (by simp)) hx (by omega) (by omega), ?_⟩
      simp only [ptsOf, List.length_map, pathOf_len]
      have := legsOf_len x.code
      omega
    · rw [List.getElem?_append_right (by rw [laidTo_len]; omega)] at h
      exact ih _ l (fun z hz => hok z (List.mem_cons_of_mem _ hz)) h
set_option maxHeartbeats 4000000 in
set_option maxRecDepth 100000 in
theorem laidLegs_row (A3 A4 : Option Addr) (bars : List BarD) (runs : List RunD) (n3 c3 n4 c4 i : Nat) (ld : LaidD) (w : World) {B : Nat} (h3 : BarsAt w B A3 bars) (h4 : RunsAt w B A4 runs) (hB : B ≤ w.heap.size) (l3 : n3 = bars.length) (l4 : n4 = runs.length) (m3 : n3 ≤ 60000) (m4 : n4 ≤ 60000) (htame : Tame bars) (hok : laidOk bars runs = true) (hi : (laidAll bars runs)[i]? = some ld) :
    Calls Tryz.prog 115 #[.slice A3 n3 c3, .slice A4 n4 c4, .int .i64 i] w fun e w' => ∃ A c, e = .returned (.tuple #[.slice A (legsOfPts ld.pts).length c, .int .i64 0]) ∧ Row w' w.heap.size 62 6 encB (.slice A (legsOfPts ld.pts).length c) (legsOfPts ld.pts) ∧ Below w.heap.size w w' := by
  have HP := hide (laidPath_ok A3 A4 bars runs n3 c3 n4 c4 i ld w h3 h4 hB l3 l4 m3 m4 htame hok hi)
  obtain ⟨hnear, hl1, hl7⟩ := laid_near runs i ld (laidOk_mem hok).2.2 hi
  have Hnear := hide hnear
  obtain ⟨pts, hpts⟩ : ∃ pts, pts = ld.pts := ⟨_, rfl⟩
  rw [← hpts] at HP hl1 hl7 Hnear ⊢
  obtain ⟨n, hn⟩ : ∃ n, n = pts.length := ⟨_, rfl⟩
  rw [← hn] at HP hl1 hl7
  have Hn := hide hn
  clear h3 h4 hB l3 l4 m3 m4 htame hok hi hnear hpts hn
  go_enter Tryz.func115, Tryz.ntmps115
  go_wp2_with fail
  refine HP.out.mono ?_
  rintro e w1 ⟨A, rfl, hp, hb1⟩
  have Hp := hide hp
  have Hb1 := hide hb1
  clear HP hp hb1
  go_wp2_with fail
  go_loopw [10, 11] (fun v iv wr => ∃ k : Nat, k + 1 ≤ n ∧ iv = .int .i64 ((k : Int) + 1) ∧ (∃ acc : List BoxD, Row wr w1.heap.size 62 6 encB v acc ∧ Hid (acc = (legsOfPts pts).take k)) ∧ Below w1.heap.size w1 wr) (fun _ iv _ => n - (intOf iv).toNat)
  case atStart => exact ⟨0, hl1, rfl, ⟨[], Row.nil _ _ _ _ _, hide rfl⟩, Below.refl _ _⟩
  case round =>
    obtain ⟨k, hk, rfl, ⟨acc, hrow, hacc⟩, hbr⟩ := hrel
    obtain ⟨A0, c0, rfl⟩ := hrow.val
    have hal : acc.length ≤ 1000 := by rw [hacc.out, List.length_take]; omega
    have Hrow := hide hrow
    clear hrow
    by_cases hlt : k + 1 < n
    · obtain ⟨b, off, p, hA, hbl, hx, e3, e4, e5⟩ := PtsAt.get (k := k) (Hp.out.carry (Flat.carried _) hbr hbr.size) (by rw [← Hn.out]; omega)
      obtain ⟨b', off', q, hA', hbl', hy, e0, e1, e2⟩ := PtsAt.get (k := k + 1) (Hp.out.carry (Flat.carried _) hbr hbr.size) (by rw [← Hn.out]; exact hlt)
      clear hA' hbl' e0 e1 e2 e3 e4 e5
      subst hA
      have hsub : k + 1 + 1 - k = 2 := by omega
      have HPo := hide (fun (W : World) (hz : Below w1.heap.size w1 W) => points_any (some ⟨b, off + k * 3, none⟩) [p, q] 2 (n - k) W (pts_pair (Hp.out.carry (Flat.carried _) hz (Nat.le_refl _)) hx hy) hz.size rfl (by omega))
      have HHu := hide (fun (W : World) (A' : Option Addr) (c' : Nat) (h : BoxesAt W W.heap.size A' ([p, q].map ptBox)) => boxHull_ok A' ([p, q].map ptBox) 2 c' W h (Nat.le_refl _) rfl (by omega) (by omega) (by simp [ptBox_ok (Hnear.out p (mem_of_get hx)), ptBox_ok (Hnear.out q (mem_of_get hy))]))
      have Hhp := hide (show hullOf ([p, q].map ptBox) = legBox p q from hull_pair p q)
      have Hn2 := hide (show (legsOfPts pts).take (k + 1) = acc ++ [legBox p q] by rw [take_snoc' (legsOfPts_at pts k p q hx hy), hacc.out])
      have z1 : IntKind.i64.wrap ((k : Int) + 1 - 1) = (k : Int) := by rw [Int.add_sub_cancel]; exact IntWalk.i64_in _ (by omega)
      have z2 : IntKind.i64.wrap (k : Int) = (k : Int) := IntWalk.i64_in _ (by omega)
      have z3 : IntKind.i64.wrap ((k : Int) + 1 + 1) = (k : Int) + 1 + 1 := IntWalk.i64_in _ (by omega)
      have HB := hide hbr
      clear hx hy hbl hbr
      go_wp2_with fail
      refine (HPo.out _ HB.out).mono ?_
      rintro e w2 ⟨A6, c6, rfl, hbx, hb2⟩
      have HHu2 := hide (HHu.out w2 A6 c6 hbx)
      have HB2 := hide (below_step HB.out hb2 (Nat.le_refl _))
      have Hrow2 := hide (Hrow.out.keep hb2)
      clear hbx hb2 HPo HHu
      go_wp2_with fail
      refine HHu2.out.mono ?_
      rintro e w3 ⟨rfl, hb3⟩
      rw [Hhp.out]
      have HB3 := hide (below_step HB2.out hb3 (Nat.le_refl _))
      have Hrow3 := hide (Hrow2.out.keep hb3)
      generalize legBox p q = lb at *
      obtain ⟨⟨x1, x2, x3⟩, x4, x5, x6⟩ := lb
      have hs3 := HB3.out.size
      clear hb3 HHu2 Hhp
      go_wp2_with (at_builtin; refine wpList_append1 rfl (.tmp 44) (.tmp 46) 22 rfl w1.heap.size 62 (.agg #[.int .i64 0, .int .i64 0, .int .i64 0, .int .i64 0, .int .i64 0, .int .i64 0]) 6 48 encB Tryz.underlying22 (by kernel_rfl) rfl (by omega) encB_len encB_one _ acc ⟨(x1, x2, x3), (x4, x5, x6)⟩ rfl ((Hrow3.out.alloc _).alloc _) _ rfl (Blk.new1 w3 _ _ _) (by omega) (by omega) (le_alloc (le_alloc hs3 _) _) ?_; intro A1 c1 w6 hrow6 hb6 _)
      go_roundw
      case rel => exact ⟨k + 1, by omega, by go_num, ⟨acc ++ [⟨(x1, x2, x3), (x4, x5, x6)⟩], by simpa using hrow6, hide Hn2.out.symm⟩, ((HB3.out.alloc hs3 _).alloc (le_alloc hs3 _) _).trans hb6⟩
      case measure => simp [intOf]; omega
    · have hk9 : k + 1 = n := by omega
      have hf : acc = legsOfPts pts := by
        rw [hacc.out]
        exact List.take_of_length_le (by rw [legsOfPts_len, ← Hn.out]; omega)
      have hlen := hide (show (legsOfPts pts).length = acc.length by rw [hf])
      have Hr := hide (show Row wr w.heap.size 62 6 encB (.slice A0 (legsOfPts pts).length c0) (legsOfPts pts) by rw [← hf]; exact rowBase Hb1.out.size Hrow.out)
      have Hb := hide (below_step Hb1.out hbr (Nat.le_refl _))
      clear hf hacc Hrow hbr
      generalize acc.length = m at *
      go_wp2_with fail
      go_ret2
      exact ⟨A0, c0, by rw [hlen.out]; rfl, Hr.out, Hb.out⟩
theorem laidLegs_ok (A3 A4 : Option Addr) (bars : List BarD) (runs : List RunD) (n3 c3 n4 c4 i : Nat) (ld : LaidD) (w : World) {B : Nat} (h3 : BarsAt w B A3 bars) (h4 : RunsAt w B A4 runs) (hB : B ≤ w.heap.size) (l3 : n3 = bars.length) (l4 : n4 = runs.length) (m3 : n3 ≤ 60000) (m4 : n4 ≤ 60000) (htame : Tame bars) (hok : laidOk bars runs = true) (hi : (laidAll bars runs)[i]? = some ld) :
    Calls Tryz.prog 115 #[.slice A3 n3 c3, .slice A4 n4 c4, .int .i64 i] w fun e w' => ∃ A c, e = .returned (.tuple #[.slice A (legsOfPts ld.pts).length c, .int .i64 0]) ∧ BoxesAt w' w'.heap.size A (legsOfPts ld.pts) ∧ Below w.heap.size w w' :=
  (laidLegs_row A3 A4 bars runs n3 c3 n4 c4 i ld w h3 h4 hB l3 l4 m3 m4 htame hok hi).mono fun _ _ ⟨A, c, he, hr, hb⟩ => ⟨A, c, he, Row.read hr encB_len (by omega), hb⟩
end Go.Proofs.YtpaanfjjnjjoeaaGreat
namespace Go.Proofs.YtpaanfjjnjjoeaaGreat
open Go.RowKit

theorem step_far8 {s : Pt} {k : Int} (h : nearBy 2097152 s = true) (h0 : 0 ≤ k) (h1 : k ≤ 999) : nearBy 4294967296 (mulP k s) = true := by
  obtain ⟨a, b, c⟩ := nearBy_iff.1 h
  have key : ∀ v : Int, -2097152 ≤ v ∧ v ≤ 2097152 → -4294967296 ≤ k * v ∧ k * v ≤ 4294967296 := by
    intro v hv
    obtain ⟨f, g⟩ := mul_between (s := v) h0 h1
    rcases Int.le_total 0 v with hs | hs
    · have := f hs; omega
    · have := g hs; omega
  rw [nearBy_iff, mulP]
  exact ⟨key _ a, key _ b, key _ c⟩
set_option maxHeartbeats 4000000 in
set_option maxRecDepth 100000 in
theorem refPts_ok (A3 A4 : Option Addr) (bars : List BarD) (runs : List RunD) (n3 c3 n4 c4 i : Nat) (ld : LaidD) (w : World) {B : Nat} (h3 : BarsAt w B A3 bars) (h4 : RunsAt w B A4 runs) (hB : B ≤ w.heap.size) (l3 : n3 = bars.length) (l4 : n4 = runs.length) (m3 : n3 ≤ 60000) (hok : laidOk bars runs = true) (hi : (laidAll bars runs)[i]? = some ld) :
    Calls Tryz.prog 211 #[.slice A3 n3 c3, .slice A4 n4 c4, .int .i64 i] w fun e w' => ∃ A c, e = .returned (.slice A ld.pts.length c) ∧ PtsAt w' w'.heap.size A ld.pts ∧ ld.pts.length ≤ c ∧ Below w.heap.size w w' := by
  obtain ⟨hbars, hlen, hruns⟩ := laidOk_mem hok
  have hi9 : i ≤ 100000 := by have := (laidOk_len hok).2; have := lt_of_get hi; omega
  have HP := hide (fun (W : World) (hz : Below w.heap.size w W) => refPlaceL_ok bars A4 runs n4 c4 i ld W (h4.carry (Flat.carried _) (hz.mono hB) (Nat.le_refl _)) l4 (by omega) hruns hi hi9)
  have HBa := hide (fun (W : World) (hz : Below w.heap.size w W) => refBar_ok A3 A4 bars runs n3 c3 n4 c4 i ld W (h3.carry (hz.mono hB) (Nat.le_refl _)) (h4.carry (Flat.carried _) (hz.mono hB) (Nat.le_refl _)) (Nat.le_trans hB hz.size) l3 l4 m3 hok hi)
  have Hbk := hide (fun (k : Nat) (r : RunD) (hk : runs[k]? = some r) (hx : runBar bars r = some ld.bar) => find_bar (hruns r (mem_of_get hk)) hx)
  obtain ⟨bar, pts⟩ := ld
  simp only at HP HBa Hbk ⊢
  have Hro := hide (fun (k : Nat) (r : RunD) (hk : runs[k]? = some r) => hruns r (mem_of_get hk))
  have Hbo := hide hbars
  have H4 := hide h4
  have L4 := hide l4
  have HB := hide hB
  clear h3 h4 l3 l4 hok hi hruns hlen hbars hB
  go_enter Tryz.func211, Tryz.ntmps211
  go_wp2_with fail
  refine (HP.out _ (Below.refl _ _)).mono ?_
  rintro e w1 ⟨k, j, r, rfl, hk, hx, hj, hrb, hpts, rfl⟩
  obtain ⟨q, hq, hy⟩ := Hbk.out k r hx hrb
  have hro := Hro.out k r hx
  have hbo := Hbo.out _ (mem_of_get hy)
  obtain ⟨jj, x', _, _, _, htu⟩ := runOk_bar hro
  have hfar : nearBy 4294967296 (mulP (j : Int) r.step) = true := by
    have h9 := runOk_count hro
    simp only [runOk, runHead, Bool.and_eq_true, Bool.or_eq_true, decide_eq_true_eq] at hro
    rcases hro.1.1.2 with h8 | h8
    · obtain rfl : j = 0 := by omega
      simp [mulP, nearBy_iff]
    · exact step_far8 h8.2 (by omega) (by omega)
  have HPt := hide (fun (A' : Option Addr) (c' : Nat) (W : World) (hdi : Ints W B A' bar.dims) (hz : Below w.heap.size w W) => refPoints_ok bar A' c' r j W hdi (Nat.le_trans HB.out hz.size) hbo htu (runOk_place hro) (by omega) hfar)
  rw [← hpts] at HPt
  obtain ⟨b, off, r', rfl, hbl, hx', hc⟩ := RunsAt.get (k := k) H4.out (by rw [← L4.out]; exact hk)
  rw [hx] at hx'
  injection hx' with hx'
  subst hx'
  have hbw : b < w.heap.size := Nat.lt_of_lt_of_le hbl HB.out
  obtain ⟨mark, tx, ty, ⟨a1, a2, a3⟩, ⟨s1, s2, s3⟩, cnt⟩ := r
  obtain ⟨mk, sz, ct, cd, dims⟩ := bar
  have e0 := hc 0 _ rfl
  have e1 := hc 1 _ rfl
  have e2 := hc 2 _ rfl
  have e3 := hc 3 _ rfl
  have e4 := hc 4 _ rfl
  have e5 := hc 5 _ rfl
  have e6 := hc 6 _ rfl
  have e7 := hc 7 _ rfl
  have e8 := hc 8 _ rfl
  have e9 := hc 9 _ rfl
  simp only [Nat.add_zero] at e0 e1 e2 e3 e4 e5 e6 e7 e8 e9
  simp only [barV] at HBa HPt
  have HC := hide (fun (W : World) (h : Below w.heap.size w W) => show W.cell? ⟨b, off + k * 10, none⟩ = some (.string mark) ∧ W.cell? ⟨b, off + k * 10 + 1, none⟩ = some (.int .i64 tx) ∧ W.cell? ⟨b, off + k * 10 + 2, none⟩ = some (.int .i64 ty) ∧ W.cell? ⟨b, off + k * 10 + 3, none⟩ = some (.int .i64 a1) ∧ W.cell? ⟨b, off + k * 10 + 4, none⟩ = some (.int .i64 a2) ∧ W.cell? ⟨b, off + k * 10 + 5, none⟩ = some (.int .i64 a3) ∧ W.cell? ⟨b, off + k * 10 + 6, none⟩ = some (.int .i64 s1) ∧ W.cell? ⟨b, off + k * 10 + 7, none⟩ = some (.int .i64 s2) ∧ W.cell? ⟨b, off + k * 10 + 8, none⟩ = some (.int .i64 s3) ∧ W.cell? ⟨b, off + k * 10 + 9, none⟩ = some (.int .i64 cnt) from
    ⟨(h.cell (p := ⟨b, off + k * 10, none⟩) hbw).trans e0, (h.cell (p := ⟨b, off + k * 10 + 1, none⟩) hbw).trans e1, (h.cell (p := ⟨b, off + k * 10 + 2, none⟩) hbw).trans e2, (h.cell (p := ⟨b, off + k * 10 + 3, none⟩) hbw).trans e3, (h.cell (p := ⟨b, off + k * 10 + 4, none⟩) hbw).trans e4, (h.cell (p := ⟨b, off + k * 10 + 5, none⟩) hbw).trans e5, (h.cell (p := ⟨b, off + k * 10 + 6, none⟩) hbw).trans e6, (h.cell (p := ⟨b, off + k * 10 + 7, none⟩) hbw).trans e7, (h.cell (p := ⟨b, off + k * 10 + 8, none⟩) hbw).trans e8, (h.cell (p := ⟨b, off + k * 10 + 9, none⟩) hbw).trans e9⟩)
  clear hx hbl hc hq hy hro hbo htu hfar hrb hpts hj HP Hbk Hro Hbo H4 L4
  have hS0 := HC.out _ (Below.drew (Below.refl w.heap.size w))
  have hBx := Below.drew (Below.refl w.heap.size w)
  go_wp2_with fail
  first
    | (go_region_held3 (fun W => W.cell? ⟨b, off + k * 10, none⟩ = some (.string mark) ∧ W.cell? ⟨b, off + k * 10 + 1, none⟩ = some (.int .i64 tx) ∧ W.cell? ⟨b, off + k * 10 + 2, none⟩ = some (.int .i64 ty) ∧ W.cell? ⟨b, off + k * 10 + 3, none⟩ = some (.int .i64 a1) ∧ W.cell? ⟨b, off + k * 10 + 4, none⟩ = some (.int .i64 a2) ∧ W.cell? ⟨b, off + k * 10 + 5, none⟩ = some (.int .i64 a3) ∧ W.cell? ⟨b, off + k * 10 + 6, none⟩ = some (.int .i64 s1) ∧ W.cell? ⟨b, off + k * 10 + 7, none⟩ = some (.int .i64 s2) ∧ W.cell? ⟨b, off + k * 10 + 8, none⟩ = some (.int .i64 s3) ∧ W.cell? ⟨b, off + k * 10 + 9, none⟩ = some (.int .i64 cnt))
        (first | (with_reducible assumption) | go_keep)
        (first
          | (go_at_call 99
             (with_reducible refine (HBa.out _ hBx).mono ?_); rintro e wz ⟨A5, c5, rfl, hdi, hbz⟩
             have hBx := below_step hBx hbz (Nat.le_refl _)
             have hS' := HC.out _ hBx)
          | (go_at_call 147
             (with_reducible refine (HPt.out _ _ _ hdi hBx).mono ?_); rintro e wz ⟨A6, c6, rfl, hp6, hc6, hbz⟩
             have hBx := below_step hBx hbz (Nat.le_refl _)
             have hS' := HC.out _ hBx)))
    | fail
  all_goals
    have Hp6 := hide hp6
    go_wp2_with fail
    go_ret
    exact ⟨A6, c6, rfl, Hp6.out, hc6, hBx⟩
set_option maxHeartbeats 4000000 in
set_option maxRecDepth 100000 in
theorem refLegs_row (A3 A4 : Option Addr) (bars : List BarD) (runs : List RunD) (n3 c3 n4 c4 i : Nat) (ld : LaidD) (w : World) {B : Nat} (h3 : BarsAt w B A3 bars) (h4 : RunsAt w B A4 runs) (hB : B ≤ w.heap.size) (l3 : n3 = bars.length) (l4 : n4 = runs.length) (m3 : n3 ≤ 60000) (hok : laidOk bars runs = true) (hi : (laidAll bars runs)[i]? = some ld) :
    Calls Tryz.prog 152 #[.slice A3 n3 c3, .slice A4 n4 c4, .int .i64 i] w fun e w' => ∃ A c b0, e = .returned (.slice A (legsOfPts ld.pts).length c) ∧ Row w' b0 62 6 encB (.slice A (legsOfPts ld.pts).length c) (legsOfPts ld.pts) ∧ Below w.heap.size w w' := by
  have HP := hide (refPts_ok A3 A4 bars runs n3 c3 n4 c4 i ld w h3 h4 hB l3 l4 m3 hok hi)
  obtain ⟨hnear, hl1, hl7⟩ := laid_near runs i ld (laidOk_mem hok).2.2 hi
  obtain ⟨bar, pts⟩ := ld
  simp only at HP hl1 hl7 ⊢
  obtain ⟨n, hn⟩ : ∃ n, n = pts.length := ⟨_, rfl⟩
  rw [← hn] at HP hl1 hl7
  have Hn := hide hn
  clear h3 h4 hB l3 l4 m3 hok hi hnear hn
  go_enter Tryz.func152, Tryz.ntmps152
  go_wp2_with fail
  refine HP.out.mono ?_
  rintro e w1 ⟨A, c, rfl, hp, hcp, hb1⟩
  have Hp := hide hp
  have Hb1 := hide hb1
  clear HP hp hb1
  go_wp2_with fail
  go_loopw [8, 9] (fun v iv wr => ∃ k : Nat, k + 1 ≤ n ∧ iv = .int .i64 ((k : Int) + 1) ∧ (∃ acc : List BoxD, Row wr w1.heap.size 62 6 encB v acc ∧ Hid (acc = (legsOfPts pts).take k)) ∧ Below w1.heap.size w1 wr) (fun _ iv _ => n - (intOf iv).toNat)
  case atStart => exact ⟨0, hl1, rfl, ⟨[], Row.nil _ _ _ _ _, hide rfl⟩, Below.refl _ _⟩
  case round =>
    obtain ⟨k, hk, rfl, ⟨acc, hrow, hacc⟩, hbr⟩ := hrel
    obtain ⟨A0, c0, rfl⟩ := hrow.val
    have hal : acc.length ≤ 1000 := by rw [hacc.out, List.length_take]; omega
    have Hrow := hide hrow
    clear hrow
    by_cases hlt : k + 1 < n
    · obtain ⟨b, off, p, hA, hbl, hx, e3, e4, e5⟩ := PtsAt.get (k := k) (Hp.out.carry (Flat.carried _) hbr hbr.size) (by rw [← Hn.out]; omega)
      obtain ⟨b', off', q, hA', hbl', hy, e0, e1, e2⟩ := PtsAt.get (k := k + 1) (Hp.out.carry (Flat.carried _) hbr hbr.size) (by rw [← Hn.out]; exact hlt)
      clear hA' hbl' e0 e1 e2 e3 e4 e5
      subst hA
      have hsub : k + 1 + 1 - k = 2 := by omega
      have HHu := hide (fun (W : World) (hz : Below w1.heap.size w1 W) => refHull2_any (some ⟨b, off + k * 3, none⟩) p q (c - k) W (pts_pair (Hp.out.carry (Flat.carried _) hz (Nat.le_refl _)) hx hy) hz.size)
      have Hn2 := hide (show (legsOfPts pts).take (k + 1) = acc ++ [legBox p q] by rw [take_snoc' (legsOfPts_at pts k p q hx hy), hacc.out])
      have z1 : IntKind.i64.wrap ((k : Int) + 1 - 1) = (k : Int) := by rw [Int.add_sub_cancel]; exact IntWalk.i64_in _ (by omega)
      have z2 : IntKind.i64.wrap (k : Int) = (k : Int) := IntWalk.i64_in _ (by omega)
      have z3 : IntKind.i64.wrap ((k : Int) + 1 + 1) = (k : Int) + 1 + 1 := IntWalk.i64_in _ (by omega)
      have HB := hide hbr
      have hkc : k + 1 + 1 ≤ c := by omega
      clear hx hy hbl hbr
      go_wp2_with fail
      refine (HHu.out _ HB.out).mono ?_
      rintro e w3 ⟨rfl, hb3⟩
      have HB3 := hide (below_step HB.out hb3 (Nat.le_refl _))
      have Hrow3 := hide (Hrow.out.keep hb3)
      generalize legBox p q = lb at *
      obtain ⟨⟨x1, x2, x3⟩, x4, x5, x6⟩ := lb
      have hs3 := HB3.out.size
      clear hb3 HHu
      go_wp2_with (at_builtin; refine wpList_append1 rfl (.tmp 20) (.tmp 28) 22 rfl w1.heap.size 62 (.agg #[.int .i64 0, .int .i64 0, .int .i64 0, .int .i64 0, .int .i64 0, .int .i64 0]) 6 48 encB Tryz.underlying22 (by kernel_rfl) rfl (by omega) encB_len encB_one _ acc ⟨(x1, x2, x3), (x4, x5, x6)⟩ rfl (Hrow3.out.alloc _) _ rfl (Blk.new w3 _ _) (by omega) (by omega) (le_alloc hs3 _) ?_; intro A1 c1 w6 hrow6 hb6 _)
      go_roundw
      case rel => exact ⟨k + 1, by omega, by go_num, ⟨acc ++ [⟨(x1, x2, x3), (x4, x5, x6)⟩], by simpa using hrow6, hide Hn2.out.symm⟩, (HB3.out.alloc hs3 _).trans hb6⟩
      case measure => simp [intOf]; omega
    · have hk9 : k + 1 = n := by omega
      have hf : acc = legsOfPts pts := by
        rw [hacc.out]
        exact List.take_of_length_le (by rw [legsOfPts_len, ← Hn.out]; omega)
      have hlen := hide (show (legsOfPts pts).length = acc.length by rw [hf])
      have Hr := hide (show Row wr w1.heap.size 62 6 encB (.slice A0 acc.length c0) (legsOfPts pts) by rw [← hf]; exact Hrow.out)
      have Hb := hide (below_step Hb1.out hbr (Nat.le_refl _))
      clear hf hacc Hrow hbr
      generalize acc.length = m at *
      go_wp2_with fail
      go_ret
      exact ⟨A0, c0, w1.heap.size, by rw [hlen.out]; rfl, by rw [hlen.out]; exact Hr.out, Hb.out⟩
theorem refLegs_ok (A3 A4 : Option Addr) (bars : List BarD) (runs : List RunD) (n3 c3 n4 c4 i : Nat) (ld : LaidD) (w : World) {B : Nat} (h3 : BarsAt w B A3 bars) (h4 : RunsAt w B A4 runs) (hB : B ≤ w.heap.size) (l3 : n3 = bars.length) (l4 : n4 = runs.length) (m3 : n3 ≤ 60000) (hok : laidOk bars runs = true) (hi : (laidAll bars runs)[i]? = some ld) :
    Calls Tryz.prog 152 #[.slice A3 n3 c3, .slice A4 n4 c4, .int .i64 i] w fun e w' => ∃ A c, e = .returned (.slice A (legsOfPts ld.pts).length c) ∧ BoxesAt w' w'.heap.size A (legsOfPts ld.pts) ∧ Below w.heap.size w w' := by
  refine (refLegs_row A3 A4 bars runs n3 c3 n4 c4 i ld w h3 h4 hB l3 l4 m3 hok hi).mono ?_
  rintro e w' ⟨A, c, b0, he, hr, hb⟩
  exact ⟨A, c, he, Row.read hr encB_len (by omega), hb⟩
/-- The main leg as the reference gives it. -/
def mainT (o : Option BoxD) : Array Value := match o with
  | some b => #[bxV b, .bool true]
  | none => #[.agg #[.int .i64 0, .int .i64 0, .int .i64 0, .int .i64 0, .int .i64 0, .int .i64 0], .bool false]
set_option maxHeartbeats 4000000 in
set_option maxRecDepth 100000 in
theorem refMain25_ok (x : DetD) (s : DetS) (i : Nat) (ld : LaidD) (w : World) {B : Nat} (h : DetAt w B x s) (hB : B ≤ w.heap.size) (hf : DetFit x s) (hok : laidOk x.bars x.runs = true) (hi : (laidAll x.bars x.runs)[i]? = some ld) :
    Calls Tryz.prog 94 #[detV x s, .int .i64 i] w fun e w' => e = .returned (.tuple (mainT (mainLeg ld))) ∧ Below w.heap.size w w' := by
  have HL := hide (fun (W : World) (hz : Below w.heap.size w W) => refLegs_ok s.a3 s.a4 x.bars x.runs s.n3 s.c3 s.n4 s.c4 i ld W (h.h3.carry (hz.mono hB) (Nat.le_refl _)) (h.h4.carry (Flat.carried _) (hz.mono hB) (Nat.le_refl _)) (Nat.le_trans hB hz.size) hf.l3 hf.l4 hf.m3 hok hi)
  have hl6 : (legsOfPts ld.pts).length ≤ 60000 := by
    obtain ⟨_, hl1, hl7⟩ := laid_near x.runs i ld (laidOk_mem hok).2.2 hi
    rw [legsOfPts_len]
    omega
  have Hml := hide (show mainLeg ld = (legsOfPts ld.pts).find? isMain from rfl)
  generalize legsOfPts ld.pts = LG at *
  obtain ⟨ml, hml⟩ : ∃ ml, ml = mainLeg ld := ⟨_, rfl⟩
  rw [← hml] at Hml ⊢
  have K0 := hide ((Blk.new w 34 (detCells x.mem x.rule s)).alloc (.cells #[.int .i64 0, .int .i64 0, .int .i64 0, .int .i64 0, .int .i64 0, .int .i64 0] 62))
  have KB := hide (Blk.new1 w (.cells (detCells x.mem x.rule s) 34) 62 #[.int .i64 0, .int .i64 0, .int .i64 0, .int .i64 0, .int .i64 0, .int .i64 0])
  have HW := hide (below_new2 w (.cells (detCells x.mem x.rule s) 34) (.cells #[.int .i64 0, .int .i64 0, .int .i64 0, .int .i64 0, .int .i64 0, .int .i64 0] 62))
  obtain ⟨mem, bars, runs, laps, dems, rule⟩ := x
  obtain ⟨a1, n1, c1, a2, n2, c2, a3, n3, c3, a4, n4, c4, a5, n5, c5, a6, n6, c6⟩ := s
  obtain ⟨name, boxes, holes, cover, agg, poker⟩ := mem
  obtain ⟨r1, r2, r3, r4, r5, r6, r7, r8, r9⟩ := rule
  simp only [detCells] at K0 KB HW
  simp only at HL
  have e6 := K0.out.cell 6
  have e7 := K0.out.cell 7
  simp at e6 e7
  clear h hf hB hok hi hml
  show Calls Tryz.prog 94 #[.agg #[.string name, .slice a1 n1 c1, .slice a2 n2 c2, .int .i64 cover, .int .i64 agg, .int .i64 poker, .slice a3 n3 c3, .slice a4 n4 c4, .slice a5 n5 c5, .slice a6 n6 c6, .int .i64 r1, .int .i64 r2, .int .i64 r3, .int .i64 r4, .int .i64 r5, .int .i64 r6, .int .i64 r7, .int .i64 r8, .int .i64 r9], .int .i64 i] w _
  go_enter Tryz.func94, Tryz.ntmps94
  go_wp2_with fail
  refine (HL.out _ HW.out).mono ?_
  rintro e w1 ⟨A1, c1', rfl, hlg, hb1⟩
  have KB := hide (KB.out.keep hb1)
  have HW1 := hide (below_step HW.out hb1 (Nat.le_refl _))
  have HLG := hide hlg
  have HM := hide (refMainLeg_any A1 LG LG.length c1' w1 hlg (Nat.le_refl _) rfl hl6)
  clear hlg hb1 HL HW K0 e6 e7
  go_wp2_with fail
  refine HM.out.mono ?_
  rintro e w2 ⟨rfl, hb2⟩
  have KB := hide (KB.out.keep hb2)
  have HW2 := hide (below_step HW1.out hb2 (Nat.le_refl _))
  have HLG := hide (HLG.out.carry (Flat.carried _) hb2 hb2.size)
  clear hb2 HM HW1
  have u0 := KB.out.cell 0
  have v0 := KB.out.frozen 0
  have u1 := KB.out.cell 1
  have v1 := KB.out.frozen 1
  have u2 := KB.out.cell 2
  have v2 := KB.out.frozen 2
  have u3 := KB.out.cell 3
  have v3 := KB.out.frozen 3
  have u4 := KB.out.cell 4
  have v4 := KB.out.frozen 4
  have u5 := KB.out.cell 5
  have v5 := KB.out.frozen 5
  simp at u0 u1 u2 u3 u4 u5
  have lk := KB.out.lt
  have hrg := idx_range isMain LG
  by_cases hneg : idx isMain LG < 0
  · have d0 : decide (idx isMain LG < 0) = true := by simpa using hneg
    have Hn := hide (show ml = none by
      rw [Hml.out, List.find?_eq_none]
      intro z hz hm
      have h1 := idx_any isMain LG
      rw [List.any_eq_true.2 ⟨z, hz, hm⟩, decide_eq_true_eq] at h1
      omega)
    generalize idx isMain LG = ix at *
    clear Hml hrg hneg
    go_wp2_with fail
    refine bodyPost_ret (results_ct rfl rfl ((((((KB.out.set_ 0 _).set_ 1 _).set_ 2 _).set_ 3 _).set_ 4 _).set_ 5 _) Tryz.underlying62 rfl (by kernel_rfl)) rfl ?_
    refine ⟨?_, ((((((HW2.out.setCell (p := ⟨w.heap.size + 1, 0, none⟩) (Nat.le_succ _) _).setCell (p := ⟨w.heap.size + 1, 1, none⟩) (Nat.le_succ _) _).setCell (p := ⟨w.heap.size + 1, 2, none⟩) (Nat.le_succ _) _).setCell (p := ⟨w.heap.size + 1, 3, none⟩) (Nat.le_succ _) _).setCell (p := ⟨w.heap.size + 1, 4, none⟩) (Nat.le_succ _) _).setCell (p := ⟨w.heap.size + 1, 5, none⟩) (Nat.le_succ _) _)⟩
    simp only [List.setIfInBounds_toArray, List.set_cons_zero, List.set_cons_succ]
    rw [Hn.out]
    rfl
  · obtain ⟨j, hj⟩ := Int.eq_ofNat_of_zero_le (show 0 ≤ idx isMain LG by omega)
    obtain ⟨y, hy, hp, hno⟩ := idx_spec hj
    have Hn := hide (show ml = some y by rw [Hml.out]; exact NoneTo.find hno hy hp)
    obtain ⟨b, off, y', rfl, hbl, hy', f0, f1, f2, f3, f4, f5⟩ := BoxesAt.get (k := j) HLG.out (lt_of_get hy)
    rw [hy] at hy'
    injection hy' with hy'
    subst hy'
    have d0 : decide ((j : Int) < 0) = false := by simp
    have hjl : j < LG.length := lt_of_get hy
    rw [hj]
    obtain ⟨⟨y1, y2, y3⟩, y4, y5, y6⟩ := y
    simp only at f0 f1 f2 f3 f4 f5
    generalize LG.length = ln at *
    clear Hml hrg hneg hj hy hp hno
    go_wp2_with fail
    refine bodyPost_ret (results_ct rfl rfl ((((((KB.out.set_ 0 _).set_ 1 _).set_ 2 _).set_ 3 _).set_ 4 _).set_ 5 _) Tryz.underlying62 rfl (by kernel_rfl)) rfl ?_
    refine ⟨?_, ((((((HW2.out.setCell (p := ⟨w.heap.size + 1, 0, none⟩) (Nat.le_succ _) _).setCell (p := ⟨w.heap.size + 1, 1, none⟩) (Nat.le_succ _) _).setCell (p := ⟨w.heap.size + 1, 2, none⟩) (Nat.le_succ _) _).setCell (p := ⟨w.heap.size + 1, 3, none⟩) (Nat.le_succ _) _).setCell (p := ⟨w.heap.size + 1, 4, none⟩) (Nat.le_succ _) _).setCell (p := ⟨w.heap.size + 1, 5, none⟩) (Nat.le_succ _) _)⟩
    simp only [List.setIfInBounds_toArray, List.set_cons_zero, List.set_cons_succ]
    rw [Hn.out]
    rfl
end Go.Proofs.YtpaanfjjnjjoeaaGreat
