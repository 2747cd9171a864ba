/- Whether a detail is valid. Whether a detail is valid, as a Boolean. The legs of a laid bar. The reference of layer 16: whether runs are valid. Plain: the cuts of a section, their bars, their steel. No walk stands here. Plain: the sizes of marks, as a map. No walk stands here. The area of a size: the program's, the reference's. Plain: what is inside a solid, and the drawing of a section. No walk stands here. Plain: what SectionHas says of the bars that a section cuts. No walk stands here. -/
import Derived.Test.YtmcjpdlkkpnhfaaGreatQbg
import Derived.Test.YtmcjpdlkkpnhfaaGreatQaa
import Derived.Deep.RegionWith
import Derived.Test.YtmcjpdlkkpnhfaaGreatQbb
import Derived.Test.YtmcjpdlkkpnhfaaGreatQbe
import Derived.Test.YtmcjpdlkkpnhfaaGreatQas
import Derived.Test.YtmcjpdlkkpnhfaaGreatQad
import Derived.Lib.SlicesCompact
namespace Go.Proofs.YtmcjpdlkkpnhfaaGreat
open Go.RowKit

def LookPost (x : DetD) (w : World) (e : Ending) (w' : World) : Prop :=
  (detOk x = false ∧ e = .returned (.tuple #[.slice none 0 0, .bool false]) ∧ Below w.heap.size w w') ∨
  (detOk x = true ∧ ∃ A c, e = .returned (.tuple #[.slice A (laidAll x.bars x.runs).length c, .bool true]) ∧ MainsAt w' w'.heap.size A ((laidAll x.bars x.runs).map mainOf) ∧ Below w.heap.size w w')
theorem lapsFrom_at {ms : List (Option BoxD)} {l : List JoinD} {k : Nat} {j : JoinD} (h : l[k]? = some j) (f s : List Int) :
    lapsFrom ms f s (l.drop k) = (lapsFit ms j && !f.contains j.first && !s.contains j.second && lapsFrom ms (j.first :: f) (j.second :: s) (l.drop (k + 1))) := by
  rw [drop_at' h, lapsFrom]
theorem jointOk_range {l : List MainD} {j : JoinD} (h : jointOk l j = true) (hl : l.length ≤ 2000) : InInt j.first ∧ InInt j.second := by
  simp only [jointOk, lapsFit, Bool.and_eq_true, decide_eq_true_eq, List.length_map] at h
  unfold InInt
  omega
set_option maxHeartbeats 4000000 in
set_option maxRecDepth 100000 in
theorem look_any (x : DetD) (s : DetS) (w : World) {B : Nat} (h : DetAt w B x s) (hB : B ≤ w.heap.size) (hf : DetFit x s) :
    Calls Tryz.prog 63 #[detV x s] w fun e w' => LookPost x w e w' := by
  have HMM := hide (fun (W : World) (hz : Below w.heap.size w W) (hok : laidOk x.bars x.runs = true) => mains_ok x s W (h.carry (hz.mono hB) (Nat.le_refl _)) (Nat.le_trans hB hz.size) hf hok)
  have HM := hide (fun (W : World) (hz : Below w.heap.size w W) => member_any x.mem s.a1 s.a2 s.n1 s.n2 s.c1 s.c2 W (h.h1.carry (Flat.carried _) (hz.mono hB) (Nat.le_refl _)) (h.h2.carry (Flat.carried _) (hz.mono hB) (Nat.le_refl _)) (Nat.le_trans hB hz.size) hf.l1 hf.l2 hf.name)
  have HL := hide (fun (W : World) (hz : Below w.heap.size w W) => laidValid_any s.a3 x.bars s.n3 s.c3 s.a4 x.runs s.n4 s.c4 W (h.h3.carry (hz.mono hB) (Nat.le_refl _)) (h.h4.carry (Flat.carried _) (hz.mono hB) (Nat.le_refl _)) (Nat.le_trans hB hz.size) hf.l3 hf.l4 hf.m3 hf.m4 hf.tame)
  have HD := hide (fun (W : World) (hz : Below w.heap.size w W) => demandValid_any s.a6 x.dems s.n6 s.c6 W (SlOf.carry demR_carried h.h6 (hz.mono hB) (Nat.le_refl _)) (Nat.le_trans hB hz.size) hf.l6 (by have := hf.m6; omega) hf.k6 hf.dems)
  have HR := hide (fun (W : World) => anchorValid_any x.rule W)
  have H5 := hide h.h5
  have L5 := hide hf.l5
  have M5 := hide hf.m5
  have Hlen := hide (fun (hok : laidOk x.bars x.runs = true) => (laidOk_len hok).2)
  clear h hf
  obtain ⟨tm, htm⟩ : ∃ t, t = memOk x.mem := ⟨_, rfl⟩
  obtain ⟨tl, htl⟩ : ∃ t, t = laidOk x.bars x.runs := ⟨_, rfl⟩
  obtain ⟨td, htd⟩ : ∃ t, t = demsOk x.dems := ⟨_, rfl⟩
  obtain ⟨tr, htr⟩ : ∃ t, t = ruleOk x.rule := ⟨_, rfl⟩
  obtain ⟨LL, hLL⟩ : ∃ LL, LL = (laidAll x.bars x.runs).map mainOf := ⟨_, rfl⟩
  have Hd := hide (show detOk x = (tm && tl && td && tr && decide (x.laps.length ≤ 1000) && lapsFrom (LL.map MainD.opt) [] [] x.laps) by rw [detOk, detHead, htm, htl, htd, htr, hLL, mains_opt])
  rw [← htm] at HM
  rw [← htl] at HL HMM Hlen
  rw [← htd] at HD
  rw [← htr] at HR
  rw [← hLL] at HMM
  have HLL := hide (show LL.length = (laidAll x.bars x.runs).length by rw [hLL, List.length_map])
  have HL0 := hide hLL
  obtain ⟨mem, bars, runs, laps, dems, rule⟩ := x
  obtain ⟨a1, n1, c1, a2, n2, c2, a3, n3, c3, a4, n4, c4, a5, n5, c5, a6, n6, c6⟩ := s
  obtain ⟨name, boxes, holes, cover, agg, poker⟩ := mem
  obtain ⟨r1, r2, r3, r4, r5, r6, r7, r8, r9⟩ := rule
  simp only at HM HL HMM HD HR H5 L5 M5 Hlen HLL HL0
  have m5 : n5 ≤ 60000 := M5.out
  clear htm htl htd htr hLL M5
  have K0 := hide (Blk.new w 34 #[.string name, .slice a1 n1 c1, .slice a2 n2 c2, .int .i64 cover, .int .i64 agg, .int .i64 poker, .slice a3 n3 c3, .slice a4 n4 c4, .slice a5 n5 c5, .slice a6 n6 c6, .int .i64 r1, .int .i64 r2, .int .i64 r3, .int .i64 r4, .int .i64 r5, .int .i64 r6, .int .i64 r7, .int .i64 r8, .int .i64 r9])
  have HW := hide (below_new w (.cells #[.string name, .slice a1 n1 c1, .slice a2 n2 c2, .int .i64 cover, .int .i64 agg, .int .i64 poker, .slice a3 n3 c3, .slice a4 n4 c4, .slice a5 n5 c5, .slice a6 n6 c6, .int .i64 r1, .int .i64 r2, .int .i64 r3, .int .i64 r4, .int .i64 r5, .int .i64 r6, .int .i64 r7, .int .i64 r8, .int .i64 r9] 34))
  show Calls Tryz.prog 63 #[.agg #[.string name, .slice a1 n1 c1, .slice a2 n2 c2, .int .i64 cover, .int .i64 agg, .int .i64 poker, .slice a3 n3 c3, .slice a4 n4 c4, .slice a5 n5 c5, .slice a6 n6 c6, .int .i64 r1, .int .i64 r2, .int .i64 r3, .int .i64 r4, .int .i64 r5, .int .i64 r6, .int .i64 r7, .int .i64 r8, .int .i64 r9]] w _
  go_enter Tryz.func63, Tryz.ntmps63
  go_wp2_with fail
  refine (HM.out _ HW.out).mono ?_
  rintro e W2 ⟨rfl, hb2⟩
  have K0 := hide (K0.out.keep hb2)
  have HW := hide (below_step HW.out hb2 (Nat.le_refl _))
  clear hb2 HM
  cases tm
  · have hres := hide (show detOk ⟨⟨name, boxes, holes, cover, agg, poker⟩, bars, runs, laps, dems, ⟨r1, r2, r3, r4, r5, r6, r7, r8, r9⟩⟩ = false by rw [Hd.out]; simp)
    go_wp2_with fail
    go_ret2
    exact .inl ⟨hres.out, rfl, HW.out⟩
  have e6 := K0.out.cell 6
  have e7 := K0.out.cell 7
  simp at e6 e7
  have hk0 := K0.out.lt
  go_wp2_with fail
  refine (HL.out _ HW.out).mono ?_
  clear e6 e7
  rintro e W2 ⟨rfl, hb2⟩
  have K0 := hide (K0.out.keep hb2)
  have HW := hide (below_step HW.out hb2 (Nat.le_refl _))
  clear hb2 HL
  cases tl
  · have hres := hide (show detOk ⟨⟨name, boxes, holes, cover, agg, poker⟩, bars, runs, laps, dems, ⟨r1, r2, r3, r4, r5, r6, r7, r8, r9⟩⟩ = false by rw [Hd.out]; simp)
    go_wp2_with fail
    go_ret2
    exact .inl ⟨hres.out, rfl, HW.out⟩
  have e9 := K0.out.cell 9
  simp at e9
  have hk0 := K0.out.lt
  go_wp2_with fail
  refine (HD.out _ HW.out).mono ?_
  clear e9
  rintro e W2 ⟨rfl, hb2⟩
  have K0 := hide (K0.out.keep hb2)
  have HW := hide (below_step HW.out hb2 (Nat.le_refl _))
  clear hb2 HD
  cases td
  · have hres := hide (show detOk ⟨⟨name, boxes, holes, cover, agg, poker⟩, bars, runs, laps, dems, ⟨r1, r2, r3, r4, r5, r6, r7, r8, r9⟩⟩ = false by rw [Hd.out]; simp)
    go_wp2_with fail
    go_ret2
    exact .inl ⟨hres.out, rfl, HW.out⟩
  have e10 := K0.out.cell 10
  have e11 := K0.out.cell 11
  have e12 := K0.out.cell 12
  have e13 := K0.out.cell 13
  have e14 := K0.out.cell 14
  have e15 := K0.out.cell 15
  have e16 := K0.out.cell 16
  have e17 := K0.out.cell 17
  have e18 := K0.out.cell 18
  simp at e10 e11 e12 e13 e14 e15 e16 e17 e18
  have hk0 := K0.out.lt
  go_wp2_with fail
  refine (HR.out _).mono ?_
  clear e10 e11 e12 e13 e14 e15 e16 e17 e18
  rintro e W2 ⟨rfl, hb2⟩
  have K0 := hide (K0.out.keep hb2)
  have HW := hide (below_step HW.out hb2 (Nat.le_refl _))
  clear hb2 HR
  cases tr
  · have hres := hide (show detOk ⟨⟨name, boxes, holes, cover, agg, poker⟩, bars, runs, laps, dems, ⟨r1, r2, r3, r4, r5, r6, r7, r8, r9⟩⟩ = false by rw [Hd.out]; simp)
    go_wp2_with fail
    go_ret2
    exact .inl ⟨hres.out, rfl, HW.out⟩
  have e8 := K0.out.cell 8
  simp at e8
  have hk0 := K0.out.lt
  by_cases hbig : 1000 < n5
  · have d0 : decide (1000 < (n5 : Int)) = true := by simp; omega
    have Hd := hide (show detOk ⟨⟨name, boxes, holes, cover, agg, poker⟩, bars, runs, laps, dems, ⟨r1, r2, r3, r4, r5, r6, r7, r8, r9⟩⟩ = (true && false) by rw [Hd.out, decide_eq_false (by rw [← L5.out]; omega)]; rfl)
    have hres := hide (show detOk ⟨⟨name, boxes, holes, cover, agg, poker⟩, bars, runs, laps, dems, ⟨r1, r2, r3, r4, r5, r6, r7, r8, r9⟩⟩ = false by rw [Hd.out]; simp)
    go_wp2_with fail
    go_ret2
    exact .inl ⟨hres.out, rfl, HW.out⟩
  have d0 : decide (1000 < (n5 : Int)) = false := by simp; omega
  have Hd := hide (show detOk ⟨⟨name, boxes, holes, cover, agg, poker⟩, bars, runs, laps, dems, ⟨r1, r2, r3, r4, r5, r6, r7, r8, r9⟩⟩ = lapsFrom (LL.map MainD.opt) [] [] (laps.drop 0) by rw [Hd.out, decide_eq_true (by rw [← L5.out]; omega)]; rfl)
  have hln := Hlen.out trivial
  have hmm := @run_makeMap Tryz.prog
  have Hi := hide (show (Tryz.prog.info? 34).map (·.size) = some 19 by kernel_rfl)
  go_wp2_with (refine wpList_load_row rfl 34 (.tmp 1) rfl w.heap.size rfl 34 _ (0, 0) _ K0.out Tryz.underlying34 rfl Hi.out ?_)
  refine (HMM.out _ HW.out trivial).mono ?_
  rintro e wM ⟨AM, cM, rfl, hmains, hb2⟩
  have K0 := hide (K0.out.keep hb2)
  have HWM := hide (below_step HW.out hb2 (Nat.le_refl _))
  have HMs := hide hmains
  have e8 := K0.out.cell 8
  simp at e8
  have hk0 := K0.out.lt
  clear hb2 HMM hmains Hi
  have hll := HLL.out
  rw [← hll] at hln ⊢
  generalize hgl : LL.length = nl at *
  have Hnl := hide hgl.symm
  have hB1 := BSet.new wM
  have hB2 := (BSet.new wM).alloc (.map #[] 0)
  have hB3 := BSet.new (wM.alloc (.map #[] 0))
  rw [size_alloc'] at hB3
  have HB2 := hide hB2
  have HB3 := hide hB3
  have HbM := hide (below_new2 wM (.map #[] 0) (.map #[] 0))
  have HJ := hide (fun (W : World) (hz : Below wM.heap.size wM W) (j : JoinD) => joint_any AM LL nl cM j W (HMs.out.carry (Flat.carried _) hz (Nat.le_refl _)) hz.size Hnl.out (by omega))
  have Hrg := hide (fun (j : JoinD) (h : jointOk LL j = true) => jointOk_range h (by rw [← Hnl.out]; exact hln))
  clear hgl hB1 hB2 hB3 hll
  go_wp2_with fail
  go_loopw [46] (fun i wr => ∃ k : Nat, k ≤ n5 ∧ i = .int .i64 k ∧ (∃ f t : List Int, BSet wr wM.heap.size k f ∧ BSet wr (wM.heap.size + 1) k t ∧ Hid (detOk ⟨⟨name, boxes, holes, cover, agg, poker⟩, bars, runs, laps, dems, ⟨r1, r2, r3, r4, r5, r6, r7, r8, r9⟩⟩ = lapsFrom (LL.map MainD.opt) f t (laps.drop k))) ∧ Below wM.heap.size wM wr) (fun i _ => n5 - (intOf i).toNat)
  case atStart => exact ⟨0, Nat.zero_le _, rfl, ⟨[], [], HB2.out, HB3.out, Hd⟩, HbM.out⟩
  case round =>
    clear HB2 HB3 HbM Hd K0 hk0 e8
    obtain ⟨k, hk, rfl, ⟨f, t, hf, ht, hq⟩, hbr⟩ := hrel
    have HWr := hide (below_step HWM.out hbr (Nat.le_refl _))
    by_cases hlt : k < n5
    · obtain ⟨b, off, j, rfl, hbl, hx, c0, c1⟩ := JoinsAt.get (k := k) (H5.out.carry (Flat.carried _) (HWr.out.mono hB) (Nat.le_refl _)) (by rw [← L5.out]; exact hlt)
      have Hq := hide (hq.out.trans (lapsFrom_at hx f t))
      have hbw : b < wr.heap.size := by have := HWr.out.size; omega
      have HJj := hide (fun (W : World) (hz : Below wM.heap.size wM W) => HJ.out W hz j)
      have Hrj := hide (Hrg.out j)
      have Hjk := hide (show lapsFit (LL.map MainD.opt) j = jointOk LL j from rfl)
      obtain ⟨tj, htj⟩ : ∃ t, t = jointOk LL j := ⟨_, rfl⟩
      rw [← htj] at HJj Hrj Hjk
      rw [Hjk.out] at Hq
      obtain ⟨j1, j2⟩ := j
      simp only at c0 c1 HJj Hrj Hq
      have HF := hide (hf.alloc (.cells #[.int .i64 j1, .int .i64 j2] 133))
      have HT := hide (ht.alloc (.cells #[.int .i64 j1, .int .i64 j2] 133))
      have K1 := hide (Blk.new wr 133 #[.int .i64 j1, .int .i64 j2])
      have HR := hide (hbr.alloc hbr.size (.cells #[.int .i64 j1, .int .i64 j2] 133))
      have ltF := hf.lt
      have ltT := ht.lt
      clear hx hbl htj hq hf ht hbr Hjk
      go_wp2_with fail
      refine (HJj.out _ HR.out).mono ?_
      rintro e w2 ⟨rfl, hb2⟩
      have K1 := hide (K1.out.keep hb2)
      have HF := hide (HF.out.keep hb2)
      have HT := hide (HT.out.keep hb2)
      have HR := hide (below_step HR.out hb2 (Nat.le_refl _))
      have HWr := hide (below_step HWM.out HR.out (Nat.le_refl _))
      have d0 := K1.out.cell 0
      have d1 := K1.out.cell 1
      simp at d0 d1
      have hk1 := K1.out.lt
      clear hb2 HJj c0 c1
      cases tj
      · have hres := hide (show detOk ⟨⟨name, boxes, holes, cover, agg, poker⟩, bars, runs, laps, dems, ⟨r1, r2, r3, r4, r5, r6, r7, r8, r9⟩⟩ = false by rw [Hq.out]; rfl)
        go_wp2_with fail
        go_ret2
        exact .inl ⟨hres.out, rfl, HWr.out⟩
      obtain ⟨i1, i2⟩ := Hrj.out rfl
      have hl1 := HF.out.look i1
      cases hc1 : f.contains j1
      · rw [hc1] at hl1
        have hl2 := HT.out.look i2
        cases hc2 : t.contains j2
        · rw [hc2] at hl2
          have Hq2 := hide (show detOk ⟨⟨name, boxes, holes, cover, agg, poker⟩, bars, runs, laps, dems, ⟨r1, r2, r3, r4, r5, r6, r7, r8, r9⟩⟩ = lapsFrom (LL.map MainD.opt) (j1 :: f) (j2 :: t) (laps.drop (k + 1)) by rw [Hq.out, hc1, hc2]; rfl)
          have I1 := hide i1
          have I2 := hide i2
          clear hc1 hc2 Hq i1 i2
          go_wp2_with fail
          clear hl1 hl2
          have hk9 : k ≤ 1000000 := by omega
          obtain ⟨w6, run6, h6, hg6⟩ := HF.out.drew.store I1.out hk9
          have h7 := HT.out.drew.grown hg6 (by omega)
          obtain ⟨w8, run8, h8, hg8⟩ := h7.store I2.out hk9
          have H8 := hide h8
          have H9 := hide (h6.grown hg8 (by omega))
          have hb6 := below_grown (HR.out.drew) hg6 HR.out.size (Nat.le_refl _)
          have hb8 := hide (below_grown hb6 hg8 hb6.size (by omega))
          have d2 := ((K1.out.drew).grown hg6 (by simp; omega)).cell 1
          simp at d2
          have hk6 : wr.heap.size < w6.heap.size := Nat.lt_of_lt_of_le hk1 hg6.size
          clear h6 h7 h8 hg6 hg8 hb6
          go_region
          all_goals
            clear d0
            go_wp2_with fail
            go_roundw
            case rel => exact ⟨k + 1, by omega, by go_num, ⟨j1 :: f, j2 :: t, H9.out, H8.out, Hq2⟩, hb8.out⟩
            case measure => simp [intOf]; omega
        · rw [hc2] at hl2
          have hres := hide (show detOk ⟨⟨name, boxes, holes, cover, agg, poker⟩, bars, runs, laps, dems, ⟨r1, r2, r3, r4, r5, r6, r7, r8, r9⟩⟩ = false by rw [Hq.out, hc2]; simp)
          clear hc1 hc2
          go_wp2_with fail
          go_ret2
          exact .inl ⟨hres.out, rfl, HWr.out⟩
      · rw [hc1] at hl1
        have hres := hide (show detOk ⟨⟨name, boxes, holes, cover, agg, poker⟩, bars, runs, laps, dems, ⟨r1, r2, r3, r4, r5, r6, r7, r8, r9⟩⟩ = false by rw [Hq.out, hc1]; simp)
        clear hc1
        go_wp2_with fail
        go_ret2
        exact .inl ⟨hres.out, rfl, HWr.out⟩
    · obtain rfl : k = n5 := by omega
      have hres := hide (show detOk ⟨⟨name, boxes, holes, cover, agg, poker⟩, bars, runs, laps, dems, ⟨r1, r2, r3, r4, r5, r6, r7, r8, r9⟩⟩ = true by rw [hq.out, L5.out, List.drop_length]; rfl)
      have HMf := hide (show MainsAt wr wr.heap.size AM LL from HMs.out.carry (Flat.carried _) hbr hbr.size)
      clear hf ht hq
      go_wp2_with fail
      go_ret2
      exact .inr ⟨hres.out, AM, cM, by rw [← HLL.out]; rfl, by rw [← HL0.out]; exact HMf.out, HWr.out⟩
end Go.Proofs.YtmcjpdlkkpnhfaaGreat
namespace Go.Proofs.YtmcjpdlkkpnhfaaGreat
open Go.RowKit

set_option maxHeartbeats 1000000 in
set_option maxRecDepth 100000 in
theorem lapValid_any (x : DetD) (s : DetS) (w : World) {B : Nat} (h : DetAt w B x s) (hB : B ≤ w.heap.size) (hf : DetFit x s) :
    Calls Tryz.prog 39 #[detV x s] w fun e w' => e = .returned (.bool (detOk x)) ∧ Below w.heap.size w w' := by
  have HL := hide (fun (W : World) (hz : Below w.heap.size w W) => look_any x s W (h.carry (hz.mono hB) (Nat.le_refl _)) (Nat.le_trans hB hz.size) hf)
  have K0 := hide (Blk.new w 34 (detCells x.mem x.rule s))
  have HW := hide (below_new w (.cells (detCells x.mem x.rule s) 34))
  have Hi := hide (show (Tryz.prog.info? 34).map (·.size) = some 19 by kernel_rfl)
  obtain ⟨mem, bars, runs, laps, dems, rule⟩ := x
  obtain ⟨a1, n1, c1, a2, n2, c2, a3, n3, c3, a4, n4, c4, a5, n5, c5, a6, n6, c6⟩ := s
  obtain ⟨name, boxes, holes, cover, agg, poker⟩ := mem
  obtain ⟨r1, r2, r3, r4, r5, r6, r7, r8, r9⟩ := rule
  simp only [detCells] at K0 HW
  clear h hf
  show Calls Tryz.prog 39 #[.agg #[.string name, .slice a1 n1 c1, .slice a2 n2 c2, .int .i64 cover, .int .i64 agg, .int .i64 poker, .slice a3 n3 c3, .slice a4 n4 c4, .slice a5 n5 c5, .slice a6 n6 c6, .int .i64 r1, .int .i64 r2, .int .i64 r3, .int .i64 r4, .int .i64 r5, .int .i64 r6, .int .i64 r7, .int .i64 r8, .int .i64 r9]] w _
  go_enter Tryz.func39, Tryz.ntmps39
  go_wp2_with (refine wpList_load_row rfl 34 (.tmp 1) rfl w.heap.size rfl 34 _ (0, 0) _ K0.out Tryz.underlying34 rfl Hi.out ?_)
  refine (HL.out _ HW.out).mono ?_
  rintro e w2 (⟨hd, rfl, hb2⟩ | ⟨hd, A, c, rfl, _, hb2⟩)
  all_goals
    have Hd := hide hd
    have Hb := hide (below_step HW.out hb2 (Nat.le_refl _))
    clear hd hb2 HL K0 HW Hi
    go_wp2_with fail
    go_ret
    exact ⟨ret_bool Hd.out.symm, Hb.out⟩
theorem boxOk_iff {b : BoxD} : boxOk b = true ↔ (b.lo.1 ≤ b.hi.1 ∧ -1048576 ≤ b.lo.1 ∧ b.hi.1 ≤ 1048576) ∧ (b.lo.2.1 ≤ b.hi.2.1 ∧ -1048576 ≤ b.lo.2.1 ∧ b.hi.2.1 ≤ 1048576) ∧ (b.lo.2.2 ≤ b.hi.2.2 ∧ -1048576 ≤ b.lo.2.2 ∧ b.hi.2.2 ≤ 1048576) := by
  simp [boxOk, axes, axisFine, axisOk, and_assoc]
theorem hullOn_ok : ∀ (l : List BoxD) (a : BoxD), boxOk a = true → l.all boxOk = true → boxOk (hullOn a l) = true := by
  intro l
  induction l with
  | nil => intro a h _; exact h
  | cons b l ih =>
    intro a ha hl
    rw [List.all_cons, Bool.and_eq_true] at hl
    refine ih _ ?_ hl.2
    have h1 := boxOk_iff.1 ha
    have h2 := boxOk_iff.1 hl.1
    rw [boxOk_iff]
    simp only [minP, maxP]
    omega
theorem hullOf_ok {l : List BoxD} (hn : 1 ≤ l.length) (h : l.all boxOk = true) : boxOk (hullOf l) = true := by
  cases l with
  | nil => simp at hn
  | cons b l =>
    have h9 := h
    rw [List.all_cons, Bool.and_eq_true] at h9
    exact hullOn_ok (b :: l) b h9.1 h
theorem detOk_parts {x : DetD} (h : detOk x = true) : memOk x.mem = true ∧ laidOk x.bars x.runs = true ∧ solidOk x.mem.boxes x.mem.holes = true := by
  simp only [detOk, detHead, Bool.and_eq_true] at h
  have hm := h.1.1.1.1.1
  refine ⟨hm, h.1.1.1.1.2, ?_⟩
  simp only [memOk, Bool.and_eq_true] at hm
  exact hm.1.1.1.2
theorem detOk_hull {x : DetD} (h : detOk x = true) : boxOk (hullOf x.mem.boxes) = true := by
  obtain ⟨b1, _, b3⟩ := solid_boxes (detOk_parts h).2.2
  exact hullOf_ok b1 b3
end Go.Proofs.YtmcjpdlkkpnhfaaGreat
namespace Go.Proofs.YtmcjpdlkkpnhfaaGreat
open Go.RowKit

theorem hull_pair (p q : Pt) : hullOf [ptBox p, ptBox q] = legBox p q := by
  obtain ⟨p1, p2, p3⟩ := p
  obtain ⟨q1, q2, q3⟩ := q
  simp [hullOf, hullOn, ptBox, legBox, minP, maxP]
theorem ptBox_ok {p : Pt} (h : nearBy 1048576 p = true) : boxOk (ptBox p) = true := by
  obtain ⟨a, b, c⟩ := nearBy_iff.1 h
  rw [boxOk_iff]
  simp only [ptBox]
  omega
theorem leg_ok {p q : Pt} (hp : nearBy 1048576 p = true) (hq : nearBy 1048576 q = true) : boxOk (legBox p q) = true := by
  obtain ⟨a, b, c⟩ := nearBy_iff.1 hp
  obtain ⟨d, e, f⟩ := nearBy_iff.1 hq
  rw [boxOk_iff]
  simp only [legBox, minP, maxP]
  omega
/-- Two points next to each other, out of a slice of points. -/
theorem pts_pair {w : World} {B b off : Nat} {l : List Pt} {k : Nat} {p q : Pt} (h : PtsAt w B (some ⟨b, off, none⟩) l) (hp : l[k]? = some p) (hq : l[k + 1]? = some q) : PtsAt w B (some ⟨b, off + k * 3, none⟩) [p, q] := by
  obtain ⟨b', off', hA, hb, hc⟩ := h (by have := lt_of_get hp; omega)
  injection hA with hA
  injection hA with h1 h2
  subst h1
  subst h2
  intro _
  refine ⟨b, off + k * 3, rfl, hb, fun j x hx => ?_⟩
  have hj : l[k + j]? = some x := by
    match j, hx with
    | 0, hx => simp at hx; subst hx; exact hp
    | 1, hx => simp at hx; subst hx; exact hq
    | j + 2, hx => simp at hx
  obtain ⟨vs, hs, hr, hv⟩ := hc (k + j) x hj
  exact ⟨vs, hs, hr, fun i v hi => by
    have := hv i v hi
    rwa [show off + (k + j) * 3 + i = off + k * 3 + j * 3 + i by omega] at this⟩
theorem laid_near {bars : List BarD} : ∀ (runs : List RunD) (i : Nat) (l : LaidD), (∀ r ∈ runs, runOk bars r = true) → (laidAll bars runs)[i]? = some l → (∀ p ∈ l.pts, nearBy 1048576 p = true) ∧ 1 ≤ l.pts.length ∧ l.pts.length ≤ 7 := by
  intro runs
  induction runs with
  | nil => intro i l _ h; simp [laidAll] at h
  | cons r runs ih =>
    intro i l hok h
    obtain ⟨j, x, hj, hx', hx, _⟩ := runOk_bar (hok r (by simp))
    have e : laidAll bars (r :: runs) = laidTo x r r.count.toNat ++ laidAll bars runs := by rw [← laidRun_of hx]; simp [laidAll]
    rw [e] at h
    by_cases hi : i < r.count.toNat
    · rw [List.getElem?_append_left (by rw [laidTo_len]; exact hi)] at h
      simp [laidTo, hi] at h
      subst h
      refine ⟨runOk_near (hok r (by simp)) hx (by omega) (by omega), ?_⟩
      simp only [ptsOf, List.length_map, pathOf_len]
      have := legsOf_len x.code
      omega
    · rw [List.getElem?_append_right (by rw [laidTo_len]; omega)] at h
      exact ih _ l (fun z hz => hok z (List.mem_cons_of_mem _ hz)) h
set_option maxHeartbeats 4000000 in
set_option maxRecDepth 100000 in
theorem laidLegs_row (A3 A4 : Option Addr) (bars : List BarD) (runs : List RunD) (n3 c3 n4 c4 i : Nat) (ld : LaidD) (w : World) {B : Nat} (h3 : BarsAt w B A3 bars) (h4 : RunsAt w B A4 runs) (hB : B ≤ w.heap.size) (l3 : n3 = bars.length) (l4 : n4 = runs.length) (m3 : n3 ≤ 60000) (m4 : n4 ≤ 60000) (htame : Tame bars) (hok : laidOk bars runs = true) (hi : (laidAll bars runs)[i]? = some ld) :
    Calls Tryz.prog 18 #[.slice A3 n3 c3, .slice A4 n4 c4, .int .i64 i] w fun e w' => ∃ A c, e = .returned (.tuple #[.slice A (legsOfPts ld.pts).length c, .int .i64 0]) ∧ Row w' w.heap.size 63 6 encB (.slice A (legsOfPts ld.pts).length c) (legsOfPts ld.pts) ∧ Below w.heap.size w w' := by
  have HP := hide (laidPath_ok A3 A4 bars runs n3 c3 n4 c4 i ld w h3 h4 hB l3 l4 m3 m4 htame hok hi)
  obtain ⟨hnear, hl1, hl7⟩ := laid_near runs i ld (laidOk_mem hok).2.2 hi
  have Hnear := hide hnear
  obtain ⟨pts, hpts⟩ : ∃ pts, pts = ld.pts := ⟨_, rfl⟩
  rw [← hpts] at HP hl1 hl7 Hnear ⊢
  obtain ⟨n, hn⟩ : ∃ n, n = pts.length := ⟨_, rfl⟩
  rw [← hn] at HP hl1 hl7
  have Hn := hide hn
  clear h3 h4 hB l3 l4 m3 m4 htame hok hi hnear hpts hn
  go_enter Tryz.func18, Tryz.ntmps18
  go_wp2_with fail
  refine HP.out.mono ?_
  rintro e w1 ⟨A, rfl, hp, hb1⟩
  have Hp := hide hp
  have Hb1 := hide hb1
  clear HP hp hb1
  go_wp2_with fail
  go_loopw [10, 11] (fun v iv wr => ∃ k : Nat, k + 1 ≤ n ∧ iv = .int .i64 ((k : Int) + 1) ∧ (∃ acc : List BoxD, Row wr w1.heap.size 63 6 encB v acc ∧ Hid (acc = (legsOfPts pts).take k)) ∧ Below w1.heap.size w1 wr) (fun _ iv _ => n - (intOf iv).toNat)
  case atStart => exact ⟨0, hl1, rfl, ⟨[], Row.nil _ _ _ _ _, hide rfl⟩, Below.refl _ _⟩
  case round =>
    obtain ⟨k, hk, rfl, ⟨acc, hrow, hacc⟩, hbr⟩ := hrel
    obtain ⟨A0, c0, rfl⟩ := hrow.val
    have hal : acc.length ≤ 1000 := by rw [hacc.out, List.length_take]; omega
    have Hrow := hide hrow
    clear hrow
    by_cases hlt : k + 1 < n
    · obtain ⟨b, off, p, hA, hbl, hx, e3, e4, e5⟩ := PtsAt.get (k := k) (Hp.out.carry (Flat.carried _) hbr hbr.size) (by rw [← Hn.out]; omega)
      obtain ⟨b', off', q, hA', hbl', hy, e0, e1, e2⟩ := PtsAt.get (k := k + 1) (Hp.out.carry (Flat.carried _) hbr hbr.size) (by rw [← Hn.out]; exact hlt)
      clear hA' hbl' e0 e1 e2 e3 e4 e5
      subst hA
      have hsub : k + 1 + 1 - k = 2 := by omega
      have HPo := hide (fun (W : World) (hz : Below w1.heap.size w1 W) => points_any (some ⟨b, off + k * 3, none⟩) [p, q] 2 (n - k) W (pts_pair (Hp.out.carry (Flat.carried _) hz (Nat.le_refl _)) hx hy) hz.size rfl (by omega))
      have HHu := hide (fun (W : World) (A' : Option Addr) (c' : Nat) (h : BoxesAt W W.heap.size A' ([p, q].map ptBox)) => boxHull_ok A' ([p, q].map ptBox) 2 c' W h (Nat.le_refl _) rfl (by omega) (by omega) (by simp [ptBox_ok (Hnear.out p (mem_of_get hx)), ptBox_ok (Hnear.out q (mem_of_get hy))]))
      have Hhp := hide (show hullOf ([p, q].map ptBox) = legBox p q from hull_pair p q)
      have Hn2 := hide (show (legsOfPts pts).take (k + 1) = acc ++ [legBox p q] by rw [take_snoc' (legsOfPts_at pts k p q hx hy), hacc.out])
      have z1 : IntKind.i64.wrap ((k : Int) + 1 - 1) = (k : Int) := by rw [Int.add_sub_cancel]; exact IntWalk.i64_in _ (by omega)
      have z2 : IntKind.i64.wrap (k : Int) = (k : Int) := IntWalk.i64_in _ (by omega)
      have z3 : IntKind.i64.wrap ((k : Int) + 1 + 1) = (k : Int) + 1 + 1 := IntWalk.i64_in _ (by omega)
      have HB := hide hbr
      clear hx hy hbl hbr
      go_wp2_with fail
      refine (HPo.out _ HB.out).mono ?_
      rintro e w2 ⟨A6, c6, rfl, hbx, hb2⟩
      have HHu2 := hide (HHu.out w2 A6 c6 hbx)
      have HB2 := hide (below_step HB.out hb2 (Nat.le_refl _))
      have Hrow2 := hide (Hrow.out.keep hb2)
      clear hbx hb2 HPo HHu
      go_wp2_with fail
      refine HHu2.out.mono ?_
      rintro e w3 ⟨rfl, hb3⟩
      rw [Hhp.out]
      have HB3 := hide (below_step HB2.out hb3 (Nat.le_refl _))
      have Hrow3 := hide (Hrow2.out.keep hb3)
      generalize legBox p q = lb at *
      obtain ⟨⟨x1, x2, x3⟩, x4, x5, x6⟩ := lb
      have hs3 := HB3.out.size
      clear hb3 HHu2 Hhp
      go_wp2_with (at_builtin; refine wpList_append1 rfl (.tmp 44) (.tmp 46) 22 rfl w1.heap.size 63 (.agg #[.int .i64 0, .int .i64 0, .int .i64 0, .int .i64 0, .int .i64 0, .int .i64 0]) 6 48 encB Tryz.underlying22 (by kernel_rfl) rfl (by omega) encB_len encB_one _ acc ⟨(x1, x2, x3), (x4, x5, x6)⟩ rfl ((Hrow3.out.alloc _).alloc _) _ rfl (Blk.new1 w3 _ _ _) (by omega) (by omega) (le_alloc (le_alloc hs3 _) _) ?_; intro A1 c1 w6 hrow6 hb6 _)
      go_roundw
      case rel => exact ⟨k + 1, by omega, by go_num, ⟨acc ++ [⟨(x1, x2, x3), (x4, x5, x6)⟩], by simpa using hrow6, hide Hn2.out.symm⟩, ((HB3.out.alloc hs3 _).alloc (le_alloc hs3 _) _).trans hb6⟩
      case measure => simp [intOf]; omega
    · have hk9 : k + 1 = n := by omega
      have hf : acc = legsOfPts pts := by
        rw [hacc.out]
        exact List.take_of_length_le (by rw [legsOfPts_len, ← Hn.out]; omega)
      have hlen := hide (show (legsOfPts pts).length = acc.length by rw [hf])
      have Hr := hide (show Row wr w.heap.size 63 6 encB (.slice A0 (legsOfPts pts).length c0) (legsOfPts pts) by rw [← hf]; exact rowBase Hb1.out.size Hrow.out)
      have Hb := hide (below_step Hb1.out hbr (Nat.le_refl _))
      clear hf hacc Hrow hbr
      generalize acc.length = m at *
      go_wp2_with fail
      go_ret2
      exact ⟨A0, c0, by rw [hlen.out]; rfl, Hr.out, Hb.out⟩
theorem laidLegs_ok (A3 A4 : Option Addr) (bars : List BarD) (runs : List RunD) (n3 c3 n4 c4 i : Nat) (ld : LaidD) (w : World) {B : Nat} (h3 : BarsAt w B A3 bars) (h4 : RunsAt w B A4 runs) (hB : B ≤ w.heap.size) (l3 : n3 = bars.length) (l4 : n4 = runs.length) (m3 : n3 ≤ 60000) (m4 : n4 ≤ 60000) (htame : Tame bars) (hok : laidOk bars runs = true) (hi : (laidAll bars runs)[i]? = some ld) :
    Calls Tryz.prog 18 #[.slice A3 n3 c3, .slice A4 n4 c4, .int .i64 i] w fun e w' => ∃ A c, e = .returned (.tuple #[.slice A (legsOfPts ld.pts).length c, .int .i64 0]) ∧ BoxesAt w' w'.heap.size A (legsOfPts ld.pts) ∧ Below w.heap.size w w' :=
  (laidLegs_row A3 A4 bars runs n3 c3 n4 c4 i ld w h3 h4 hB l3 l4 m3 m4 htame hok hi).mono fun _ _ ⟨A, c, he, hr, hb⟩ => ⟨A, c, he, Row.read hr encB_len (by omega), hb⟩
end Go.Proofs.YtmcjpdlkkpnhfaaGreat
namespace Go.Proofs.YtmcjpdlkkpnhfaaGreat
open Go.RowKit

theorem runs_at {bars : List BarD} {l : List RunD} {k : Nat} {r : RunD} (h : l[k]? = some r) : (l.drop k).all (runOk bars) = (runOk bars r && (l.drop (k + 1)).all (runOk bars)) := all_at h
set_option maxHeartbeats 4000000 in
theorem refLaid_any (A3 A4 : Option Addr) (bars : List BarD) (runs : List RunD) (n3 c3 n4 c4 : Nat) (w : World) {B : Nat} (h3 : BarsAt w B A3 bars) (h4 : RunsAt w B A4 runs) (hB : B ≤ w.heap.size) (l3 : n3 = bars.length) (l4 : n4 = runs.length) (m3 : n3 ≤ 60000) (htame : Tame bars) :
    Calls Tryz.prog 66 #[.slice A3 n3 c3, .slice A4 n4 c4] w fun e w' => e = .returned (.bool (laidOk bars runs)) ∧ Below w.heap.size w w' := by
  have HV := hide (refSchedValid_any A3 bars n3 c3 w h3 hB l3 htame m3)
  have hr := hide (laidOk_ref bars runs)
  cases hs : schedOk bars
  · rw [hs] at HV hr
    generalize laidOk bars runs = res at *
    clear h3 h4 hB l3 l4 m3 htame hs
    go_enter Tryz.func66, Tryz.ntmps66
    go_wp2_with fail
    refine HV.out.mono ?_
    rintro e w1 ⟨rfl, hb⟩
    have HW := hide hb
    clear hb HV
    go_wp2_with fail
    go_ret
    exact ⟨ret_bool (by rw [hr.out]; rfl), HW.out⟩
  rw [hs] at HV hr
  have hbar := schedOk_bars hs
  by_cases hlen : 60 < n4
  · have d0 : decide (60 < (n4 : Int)) = true := by simp; omega
    have hr := hide (show laidOk bars runs = false by rw [hr.out, decide_eq_false (by omega)]; rfl)
    generalize laidOk bars runs = res at *
    clear h3 h4 hB l3 l4 m3 htame hs hbar hlen
    go_enter Tryz.func66, Tryz.ntmps66
    go_wp2_with fail
    refine HV.out.mono ?_
    rintro e w1 ⟨rfl, hb⟩
    have HW := hide hb
    clear hb HV
    go_wp2_with fail
    go_ret
    exact ⟨ret_bool hr.out.symm, HW.out⟩
  have d0 : decide (60 < (n4 : Int)) = false := by simp; omega
  have hn60 : n4 ≤ 60 := by omega
  have hr := hide (show laidOk bars runs = ((runs.drop 0).all (runOk bars) && decide (countRuns runs ≤ 2000)) by rw [hr.out, decide_eq_true (by omega)]; rfl)
  have HR := hide (fun (r : RunD) (W : World) (hz : Below w.heap.size w W) => refRun_any A3 bars n3 c3 r W (h3.carry (hz.mono hB) (Nat.le_refl _)) (Nat.le_trans hB hz.size) l3 m3 hbar)
  have HC := hide (fun (hok : ∀ r ∈ runs, 1 ≤ r.count ∧ r.count ≤ 1000) (W : World) (hz : Below w.heap.size w W) => count16_any A4 runs n4 c4 W (h4.carry (Flat.carried _) (hz.mono hB) (Nat.le_refl _)) (Nat.le_trans hB hz.size) l4 hn60 hok)
  have H4 := hide h4
  have L4 := hide l4
  have HB := hide hB
  generalize laidOk bars runs = res at *
  clear h3 h4 hB l3 l4 m3 htame hs hbar hlen
  go_enter Tryz.func66, Tryz.ntmps66
  go_wp2_with fail
  refine HV.out.mono ?_
  rintro e w1 ⟨rfl, hb⟩
  have HW := hide hb
  clear hb HV
  go_wp2_with fail
  go_loopw [5] (fun i wr => ∃ k : Nat, k ≤ n4 ∧ i = .int .i64 k ∧ Hid ((runs.drop 0).all (runOk bars) = (runs.drop k).all (runOk bars)) ∧ Hid (∀ r ∈ runs.take k, runOk bars r = true) ∧ Hid (Below w.heap.size w wr)) (fun i _ => n4 - (intOf i).toNat)
  case atStart => exact ⟨0, Nat.zero_le _, rfl, hide rfl, hide (by simp), HW⟩
  case round =>
    clear HW
    obtain ⟨k, hk, rfl, hq, hp, hbr⟩ := hrel
    by_cases hlt : k < n4
    · obtain ⟨b, off, r, rfl, hbl, hx, hc⟩ := RunsAt.get (k := k) (H4.out.carry (Flat.carried _) (hbr.out.mono HB.out) (Nat.le_refl _)) (by rw [← L4.out]; exact hlt)
      have Hq := hide (hq.out.trans (runs_at hx))
      have HT := HR.out r _ hbr.out
      obtain ⟨a, ha⟩ : ∃ a, a = runOk bars r := ⟨_, rfl⟩
      rw [← ha] at HT Hq
      have HT := hide HT
      have Hp := hide (fun (h1 : a = true) => show ∀ r ∈ runs.take (k + 1), runOk bars r = true by
        rw [take_snoc' hx]
        intro z hz
        rcases List.mem_append.1 hz with h | h
        · exact hp.out z h
        · obtain rfl := List.mem_singleton.1 h; rw [← ha]; exact h1)
      obtain ⟨mark, tx, ty, ⟨a1, a2, a3⟩, ⟨s1, s2, s3⟩, cnt⟩ := r
      have e0 := hc 0 _ rfl
      have e1 := hc 1 _ rfl
      have e2 := hc 2 _ rfl
      have e3 := hc 3 _ rfl
      have e4 := hc 4 _ rfl
      have e5 := hc 5 _ rfl
      have e6 := hc 6 _ rfl
      have e7 := hc 7 _ rfl
      have e8 := hc 8 _ rfl
      have e9 := hc 9 _ rfl
      simp only [Nat.add_zero] at e0 e1 e2 e3 e4 e5 e6 e7 e8 e9
      clear hx hbl hc hq hp ha
      go_wp2_with fail
      refine HT.out.mono ?_
      rintro e w2 ⟨rfl, hb⟩
      have Hbr := hide (below_step hbr.out hb (Nat.le_refl _))
      clear hb HT e0 e1 e2 e3 e4 e5 e6 e7 e8 e9
      cases a
      · go_wp2_with fail
        go_ret
        exact ⟨ret_bool (by rw [hr.out, Hq.out]; rfl), Hbr.out⟩
      · go_wp2_with fail
        go_roundw
        case rel => exact ⟨k + 1, by omega, by go_num, hide (by rw [Hq.out]; rfl), hide (Hp.out (by simp)), Hbr⟩
        case measure => simp [intOf]; omega
    · obtain rfl : k = n4 := by omega
      have hall : ∀ r ∈ runs, runOk bars r = true := by have := hp.out; rwa [L4.out, List.take_length] at this
      have HCo := hide (HC.out (fun r hr => runOk_count (hall r hr)) _ hbr.out)
      have Hr := hide (show res = decide (countRuns runs ≤ 2000) by
        rw [hr.out, hq.out, List.drop_of_length_le (by rw [← L4.out]; exact Nat.le_refl _)]; rfl)
      generalize countRuns runs = t at *
      clear hall hq hp hr HC
      go_wp2_with fail
      refine HCo.out.mono ?_
      rintro e w2 ⟨rfl, hb⟩
      have Hbr := hide (below_step hbr.out hb (Nat.le_refl _))
      clear hb HCo
      go_wp2_with fail
      go_ret
      exact ⟨ret_bool Hr.out.symm, Hbr.out⟩
end Go.Proofs.YtmcjpdlkkpnhfaaGreat
namespace Go.Proofs.YtmcjpdlkkpnhfaaGreat
open Go.RowKit

/-- A leg that a section cuts. -/
structure PieceD where
  cut : BoxD
  bar : Int
  size : Int
  cross : Bool
def encPc (p : PieceD) : List Value := [.int .i64 p.cut.lo.1, .int .i64 p.cut.lo.2.1, .int .i64 p.cut.lo.2.2, .int .i64 p.cut.hi.1, .int .i64 p.cut.hi.2.1, .int .i64 p.cut.hi.2.2, .int .i64 p.bar, .int .i64 p.size, .bool p.cross]
theorem encPc_len (p : PieceD) : (encPc p).length = 9 := rfl
theorem encPc_one (p : PieceD) : ∀ u ∈ encPc p, u.oneCell' = true := by
  intro u hu
  simp only [encPc, List.mem_cons, List.not_mem_nil, or_false] at hu
  rcases hu with rfl | rfl | rfl | rfl | rfl | rfl | rfl | rfl | rfl <;> rfl
abbrev PcsAt (w : World) (B : Nat) (A : Option Addr) (l : List PieceD) : Prop := SlOf w B 9 (Flat encPc) A l
theorem PcsAt.get {w : World} {B : Nat} {A : Option Addr} {l : List PieceD} (h : PcsAt w B A l) {k : Nat} (hk : k < l.length) :
    ∃ b off x, A = some ⟨b, off, none⟩ ∧ b < B ∧ l[k]? = some x ∧ ∀ j v, (encPc x)[j]? = some v → w.cell? ⟨b, off + k * 9 + j, none⟩ = some v := by
  obtain ⟨b, off, x, vs, hA, hb, hx, _, hr, hc⟩ := h.at_ hk
  have hr' : vs = encPc x := hr
  subst hr'
  exact ⟨b, off, x, hA, hb, hx, hc⟩
/-- The cut without its size, as the reference keeps it. -/
def encPt8 (p : PieceD) : List Value := [.int .i64 p.cut.lo.1, .int .i64 p.cut.lo.2.1, .int .i64 p.cut.lo.2.2, .int .i64 p.cut.hi.1, .int .i64 p.cut.hi.2.1, .int .i64 p.cut.hi.2.2, .int .i64 p.bar, .bool p.cross]
theorem encPt8_len (p : PieceD) : (encPt8 p).length = 8 := rfl
theorem encPt8_one (p : PieceD) : ∀ u ∈ encPt8 p, u.oneCell' = true := by
  intro u hu
  simp only [encPt8, List.mem_cons, List.not_mem_nil, or_false] at hu
  rcases hu with rfl | rfl | rfl | rfl | rfl | rfl | rfl | rfl <;> rfl
abbrev PartsAt (w : World) (B : Nat) (A : Option Addr) (l : List PieceD) : Prop := SlOf w B 8 (Flat encPt8) A l
theorem PartsAt.get {w : World} {B : Nat} {A : Option Addr} {l : List PieceD} (h : PartsAt w B A l) {k : Nat} (hk : k < l.length) :
    ∃ b off x, A = some ⟨b, off, none⟩ ∧ b < B ∧ l[k]? = some x ∧ ∀ j v, (encPt8 x)[j]? = some v → w.cell? ⟨b, off + k * 8 + j, none⟩ = some v := by
  obtain ⟨b, off, x, vs, hA, hb, hx, _, hr, hc⟩ := h.at_ hk
  have hr' : vs = encPt8 x := hr
  subst hr'
  exact ⟨b, off, x, hA, hb, hx, hc⟩
theorem snoc_ind {α : Type} {P : List α → Prop} (h0 : P []) (h1 : ∀ l x, P l → P (l ++ [x])) (l : List α) : P l := by
  rw [← List.reverse_reverse l]
  induction l.reverse with
  | nil => exact h0
  | cons x r ih => rw [List.reverse_cons]; exact h1 _ _ ih
def cutOf (a : Int) (b : BoxD) : BoxD := ⟨(a, b.lo.2.1, b.lo.2.2), (a, b.hi.2.1, b.hi.2.2)⟩
def overX (a : Int) (b : BoxD) : Bool := decide (b.lo.1 ≤ a) && decide (a ≤ b.hi.1)
def pieceOf (a bar size : Int) (b : BoxD) : PieceD := ⟨cutOf a b, bar, size, decide (a < b.hi.1)⟩
def legPieces (a bar size : Int) (l : List BoxD) : List PieceD := (l.filter (overX a)).map (pieceOf a bar size)
theorem legPieces_snoc (a bar size : Int) (l : List BoxD) (b : BoxD) : legPieces a bar size (l ++ [b]) = legPieces a bar size l ++ (if overX a b then [pieceOf a bar size b] else []) := by
  simp only [legPieces, List.filter_append, List.map_append, List.filter_cons, List.filter_nil]
  split <;> simp_all
theorem legPieces_nil (a bar size : Int) : legPieces a bar size [] = [] := rfl
theorem legPieces_len (a bar size : Int) (l : List BoxD) : (legPieces a bar size l).length ≤ l.length := by
  rw [legPieces, List.length_map]
  exact List.length_filter_le _ _
def piecesTo (a : Int) (l : List LaidD) : List PieceD := l.zipIdx.flatMap fun p => legPieces a (p.2 : Nat) p.1.bar.size (legsOfPts p.1.pts)
theorem piecesTo_nil (a : Int) : piecesTo a [] = [] := rfl
theorem piecesTo_snoc (a : Int) (l : List LaidD) (x : LaidD) : piecesTo a (l ++ [x]) = piecesTo a l ++ legPieces a (l.length : Nat) x.bar.size (legsOfPts x.pts) := by
  simp [piecesTo, List.zipIdx_append, List.flatMap_append]
theorem piecesTo_len {a : Int} : ∀ (l : List LaidD), (∀ x ∈ l, x.pts.length ≤ 7) → (piecesTo a l).length ≤ 6 * l.length := by
  refine snoc_ind ?_ ?_
  · intro _; simp [piecesTo]
  · intro l x ih h
    have h1 := ih (fun y hy => h y (by simp [hy]))
    have h2 := h x (by simp)
    have h3 := legPieces_len a (l.length : Nat) x.bar.size (legsOfPts x.pts)
    rw [legsOfPts_len] at h3
    rw [piecesTo_snoc, List.length_append, List.length_append, List.length_singleton]
    omega
/-- The legs that the section at a place cuts. -/
def cutsOf (x : DetD) (a : Int) : List PieceD := piecesTo a (laidAll x.bars x.runs)
def secErr (x : DetD) (a : Int) : Int := if detOk x = false then 1 else if a < -1048576 ∨ 1048576 < a then 2 else 0
theorem secErr_ok {x : DetD} {a : Int} (h : secErr x a = 0) : detOk x = true ∧ -1048576 ≤ a ∧ a ≤ 1048576 := by
  unfold secErr at h
  split at h
  · cases h
  rename_i h1
  split at h
  · cases h
  exact ⟨by simpa using h1, by omega⟩
/-- The bars of cuts, each once where it comes again at once. -/
def addBar (out : List Int) (p : PieceD) : List Int := if out.getLast? = some p.bar then out else out ++ [p.bar]
def barsOf (l : List PieceD) : List Int := l.foldl addBar []
theorem barsOf_snoc (l : List PieceD) (p : PieceD) : barsOf (l ++ [p]) = addBar (barsOf l) p := by simp [barsOf, List.foldl_append]
theorem addBar_len (out : List Int) (p : PieceD) : (addBar out p).length ≤ out.length + 1 := by
  unfold addBar
  split
  · omega
  · simp
theorem barsOf_len : ∀ l : List PieceD, (barsOf l).length ≤ l.length := by
  refine snoc_ind ?_ ?_
  · simp [barsOf]
  · intro l p ih
    have := addBar_len (barsOf l) p
    rw [barsOf_snoc, List.length_append, List.length_singleton]
    omega
def areaOf (d : Int) : Int := (7854 * d * d + 50) / 100
def steelOne (p : PieceD) : Int := if p.cross then areaOf p.size else 0
def steelOf (l : List PieceD) : Int := (l.map steelOne).sum
theorem steelOf_snoc (l : List PieceD) (p : PieceD) : steelOf (l ++ [p]) = steelOf l + steelOne p := by simp [steelOf]
def colsOf (x : DetD) (sc : Int) : Int := ((hullOf x.mem.boxes).hi.2.1 - (hullOf x.mem.boxes).lo.2.1) / sc + 1
def rowsS (x : DetD) (sc : Int) : Int := ((hullOf x.mem.boxes).hi.2.2 - (hullOf x.mem.boxes).lo.2.2) / sc + 1
def sizeErr (x : DetD) (sc : Int) : Int := if detOk x = false then 1 else if sc < 1 ∨ 1048576 < sc then 2 else 0
theorem sizeErr_ok {x : DetD} {sc : Int} (h : sizeErr x sc = 0) : detOk x = true ∧ 1 ≤ sc ∧ sc ≤ 1048576 := by
  unfold sizeErr at h
  split at h
  · cases h
  rename_i h1
  split at h
  · cases h
  exact ⟨by simpa using h1, by omega⟩
end Go.Proofs.YtmcjpdlkkpnhfaaGreat
namespace Go.Proofs.YtmcjpdlkkpnhfaaGreat
open Go.RowKit

theorem schedFrom_at {l : List BarD} : ∀ (r : List BarD) (k : Nat), schedFrom l k r = true → ∀ (j : Nat) (x : BarD), r[j]? = some x → idx (markIs x.mark) l = ((k + j : Nat) : Int) := by
  intro r
  induction r with
  | nil => intro k _ j x h; simp at h
  | cons y r ih =>
    intro k h j x hx
    simp only [schedFrom, Bool.and_eq_true, decide_eq_true_eq] at h
    cases j with
    | zero =>
      obtain rfl : y = x := by simpa using hx
      exact h.1.2
    | succ j =>
      rw [List.getElem?_cons_succ] at hx
      rw [ih (k + 1) h.2 j x hx]
      congr 1
      omega
theorem sched_at {l : List BarD} (h : schedOk l = true) {j : Nat} {x : BarD} (hx : l[j]? = some x) : idx (markIs x.mark) l = (j : Int) := by
  simp only [schedOk, Bool.and_eq_true] at h
  rw [schedFrom_at l 0 h.2 j x hx, Nat.zero_add]
def OneMark (l : List BarD) : Prop := ∀ (i j : Nat) (x y : BarD), l[i]? = some x → l[j]? = some y → x.mark = y.mark → i = j
theorem sched_one {l : List BarD} (h : schedOk l = true) : OneMark l := by
  intro i j x y hx hy he
  have h1 := sched_at h hx
  have h2 := sched_at h hy
  rw [he, h2] at h1
  omega
/-- The size of each mark, once so many lines have been laid. -/
def sizeTo (l : List BarD) : ByteArray → Int := l.foldl (fun f b => putS f b.mark b.size) (fun _ => 0)
theorem sizeTo_nil : sizeTo [] = fun _ => 0 := rfl
theorem sizeTo_snoc (l : List BarD) (b : BarD) : sizeTo (l ++ [b]) = putS (sizeTo l) b.mark b.size := by simp [sizeTo, List.foldl_append]
theorem sizeTo_at : ∀ (l : List BarD), OneMark l → ∀ x ∈ l, sizeTo l x.mark = x.size := by
  refine snoc_ind ?_ ?_
  · intro _ x hx; simp at hx
  · intro l z ih h x hx
    rw [sizeTo_snoc, putS]
    by_cases he : x.mark = z.mark
    · rw [if_pos he]
      obtain ⟨i, hi, hxi⟩ := List.getElem_of_mem hx
      have h1 : (l ++ [z])[i]? = some x := by rw [List.getElem?_eq_getElem hi, hxi]
      have h2 : (l ++ [z])[l.length]? = some z := by simp
      have h3 := h i l.length x z h1 h2 he
      rw [h3, h2] at h1
      injection h1 with h1
      rw [h1]
    · rw [if_neg he]
      rcases List.mem_append.1 hx with h1 | h1
      · refine ih (fun i j u v hu hv huv => h i j u v ?_ ?_ huv) x h1
        · rw [List.getElem?_append_left (lt_of_get hu)]; exact hu
        · rw [List.getElem?_append_left (lt_of_get hv)]; exact hv
      · rw [List.mem_singleton] at h1
        exact absurd (by rw [h1]) he
theorem laidOk_sched {bars : List BarD} {runs : List RunD} (h : laidOk bars runs = true) : schedOk bars = true := by
  simp only [laidOk, Bool.and_eq_true] at h
  exact h.1.1
theorem laid_bar {bars : List BarD} {runs : List RunD} (hok : laidOk bars runs = true) {i : Nat} {l : LaidD} (hl : (laidAll bars runs)[i]? = some l) : l.bar ∈ bars := by
  have hm := mem_of_get hl
  simp only [laidAll, List.mem_flatMap] at hm
  obtain ⟨u, hu, hm⟩ := hm
  obtain ⟨j, y, hj, hy, hyb, _⟩ := runOk_bar ((laidOk_mem hok).2.2 u hu)
  rw [laidRun_of hyb] at hm
  simp only [laidTo, List.mem_map] at hm
  obtain ⟨q, _, rfl⟩ := hm
  exact mem_of_get hy
theorem bar_size {bars : List BarD} {runs : List RunD} (hok : laidOk bars runs = true) {x : BarD} (hx : x ∈ bars) : isSize x.size = true := by
  have h := (laidOk_mem hok).1 x hx
  simp only [barOk, Bool.and_eq_true] at h
  simp_all
theorem isSize_int {d : Int} (h : isSize d = true) : InInt d := by
  have := isSize_range h
  unfold InInt
  omega
end Go.Proofs.YtmcjpdlkkpnhfaaGreat
namespace Go.Proofs.YtmcjpdlkkpnhfaaGreat
open Go.RowKit

theorem area_nine {d : Int} (h : isSize d = true) : d ∈ steelSizes := isSize_mem h
set_option maxHeartbeats 400000 in
theorem area_any (d : Int) (w : World) (hd : isSize d = true) :
    Calls Tryz.prog 54 #[.int .i64 d] w fun e w' => e = .returned (.int .i64 (areaOf d)) ∧ w = w' := by
  have hm := isSize_mem hd
  clear hd
  simp [steelSizes] at hm
  rcases hm with rfl | rfl | rfl | rfl | rfl | rfl | rfl | rfl | rfl
  all_goals
    go_enter Tryz.func54, Tryz.ntmps54
    go_wp2_with fail
    go_ret
    exact ⟨ret_int (by simp [areaOf]), rfl⟩
set_option maxHeartbeats 400000 in
theorem area1_any (d : Int) (w : World) (g : Nat) (hd : isSize d = true) (h1 : w.cell? ⟨g, 0, none⟩ = some (.int .i64 d)) :
    Calls Tryz.prog 53 #[.pointer (some ⟨g, 0, none⟩)] w fun e w' => e = .returned (.int .i64 (areaOf d)) ∧ w = w' := by
  have HA := hide (fun W => area_any d W hd)
  clear hd
  go_enter Tryz.func53, Tryz.ntmps53
  go_wp2_with fail
  refine (HA.out _).mono ?_
  rintro e w1 ⟨rfl, rfl⟩
  go_wp2_with fail
  go_ret
  exact ⟨rfl, rfl⟩
set_option maxHeartbeats 400000 in
theorem area_ok (d : Int) (w : World) (hd : isSize d = true) :
    Calls Tryz.prog 21 #[.int .i64 d] w fun e w' => e = .returned (.tuple #[.int .i64 (areaOf d), .int .i64 0]) ∧ Below w.heap.size w w' := by
  have Hd := hide hd
  clear hd
  go_enter Tryz.func21, Tryz.ntmps21
  go_wp2_with fail
  refine (sized_ok d (areaOf d) _ _ _ Hd.out Tryz.call53 (fun W hb => area1_any d W _ Hd.out (((Blk.new w 3 #[.int .i64 d]).keep hb).cell 0))).mono ?_
  rintro e w1 ⟨rfl, hb⟩
  have HB := hide (below_step (below_new w _) hb (Nat.le_refl _))
  clear hb
  go_wp2_with fail
  go_ret2
  exact ⟨rfl, HB.out⟩
set_option maxHeartbeats 400000 in
theorem refArea_any (d : Int) (w : World) (hd : isSize d = true) :
    Calls Tryz.prog 57 #[.int .i64 d] w fun e w' => e = .returned (.int .i64 (areaOf d)) ∧ w = w' := by
  have hm := isSize_mem hd
  clear hd
  simp [steelSizes] at hm
  rcases hm with rfl | rfl | rfl | rfl | rfl | rfl | rfl | rfl | rfl
  all_goals
    go_enter Tryz.func57, Tryz.ntmps57
    go_wp2_with fail
    go_ret
    exact ⟨ret_int (by simp [areaOf]), rfl⟩
end Go.Proofs.YtmcjpdlkkpnhfaaGreat
namespace Go.Proofs.YtmcjpdlkkpnhfaaGreat
open Go.RowKit

def opensB (h b : BoxD) : Bool := decide (b.lo.1 < h.hi.1) && decide (h.lo.1 < b.hi.1) && decide (b.lo.2.1 < h.hi.2.1) && decide (h.lo.2.1 < b.hi.2.1) && decide (b.lo.2.2 < h.hi.2.2) && decide (h.lo.2.2 < b.hi.2.2)
def holdsB (a b : BoxD) : Bool := decide (a.lo.1 ≤ b.lo.1) && decide (b.hi.1 ≤ a.hi.1) && decide (a.lo.2.1 ≤ b.lo.2.1) && decide (b.hi.2.1 ≤ a.hi.2.1) && decide (a.lo.2.2 ≤ b.lo.2.2) && decide (b.hi.2.2 ≤ a.hi.2.2)
def opensAt (b : BoxD) (h : BoxD) : Bool := opensB h b
def holdsAt (b : BoxD) (a : BoxD) : Bool := holdsB a b
def inSolid (bs hs : List BoxD) (p : Pt) : Bool := !someOf (opensAt (ptBox p)) hs && someOf (holdsAt (ptBox p)) bs
theorem inSolid_far {bs hs : List BoxD} {p : Pt} (hb : bs.all boxOk = true) (h : nearBy 1048576 p = false) : inSolid bs hs p = false := by
  have hn : someOf (holdsAt (ptBox p)) bs = false := by
    rw [someOf, List.any_eq_false]
    intro a ha hh
    have h1 := boxOk_iff.1 (List.all_eq_true.1 hb a ha)
    have h2 : nearBy 1048576 p = true := by
      rw [nearBy_iff]
      have h3 : holdsB a ⟨p, p⟩ = true := hh
      simp only [holdsB, Bool.and_eq_true, decide_eq_true_eq] at h3
      omega
    rw [h] at h2
    cases h2
  rw [inSolid, hn, Bool.and_false]

def cellIx (n from_ sc : Int) : Int := if n < from_ then -1 else (n - from_) / sc
theorem cellIx_le {n f sc k : Int} (hs : 1 ≤ sc) (hk : 0 ≤ k) : cellIx n f sc ≤ k ↔ n < f + k * sc + sc := by
  have h1 : 0 ≤ k * sc := Int.mul_nonneg hk (by omega)
  unfold cellIx
  split
  · omega
  · have h2 : (n - f) / sc < k + 1 ↔ n - f < (k + 1) * sc := Int.ediv_lt_iff_lt_mul (by omega)
    rw [Int.add_mul, Int.one_mul] at h2
    omega
theorem le_cellIx {n f sc k : Int} (hs : 1 ≤ sc) (hk : 0 ≤ k) : k ≤ cellIx n f sc ↔ f + k * sc ≤ n := by
  have h1 : 0 ≤ k * sc := Int.mul_nonneg hk (by omega)
  unfold cellIx
  split
  · omega
  · have h2 : k ≤ (n - f) / sc ↔ k * sc ≤ n - f := Int.le_ediv_iff_mul_le (by omega)
    omega
theorem cellIx_range {n f sc : Int} (hs : 1 ≤ sc) (h : n - f ≤ 4194304) : -1 ≤ cellIx n f sc ∧ cellIx n f sc ≤ 4194304 := by
  unfold cellIx
  split
  · omega
  · have a := Int.ediv_nonneg (a := n - f) (b := sc) (by omega) (by omega)
    have b := Int.ediv_le_self (a := n - f) sc (by omega)
    omega
/-- Whether a box is seen in a cell: k the row, c the column. -/
def covS (y z sc : Int) (b : BoxD) (k c : Nat) : Bool :=
  decide (b.lo.2.1 < y + c * sc + sc) && decide (y + c * sc ≤ b.hi.2.1) && decide (b.lo.2.2 < z + k * sc + sc) && decide (z + k * sc ≤ b.hi.2.2)
def dotB (p : PieceD) : BoxD := ⟨p.cut.lo, p.cut.lo⟩
def plusIn (y z sc : Int) (k c : Nat) (p : PieceD) : Bool := covS y z sc p.cut k c
def ringIn (y z sc : Int) (k c : Nat) (p : PieceD) : Bool := p.cross && covS y z sc (dotB p) k c
def sign3 (r p i : Bool) : UInt8 := if r then 111 else if p then 43 else if i then 35 else 46
/-- The cell's sign behind so many pieces of the first pass, so many of the second one. -/
def signTo (y z sc : Int) (ins : Nat → Nat → Bool) (l1 l2 : List PieceD) (k c : Nat) : UInt8 := sign3 (l2.any (ringIn y z sc k c)) (l1.any (plusIn y z sc k c)) (ins k c)
def rectS (klo khi clo chi : Int) (k c : Nat) : Bool := decide (klo ≤ (k : Int)) && decide ((k : Int) ≤ khi) && decide (clo ≤ (c : Int)) && decide ((c : Int) ≤ chi)
theorem rect_cov {y z sc : Int} (hs : 1 ≤ sc) (b : BoxD) {rows cols k c : Nat} (hk : k < rows) (hc : c < cols) :
    rectS (max 0 (cellIx b.lo.2.2 z sc)) (min ((rows : Int) - 1) (cellIx b.hi.2.2 z sc)) (max 0 (cellIx b.lo.2.1 y sc)) (min ((cols : Int) - 1) (cellIx b.hi.2.1 y sc)) k c = covS y z sc b k c := by
  have h1 := cellIx_le (n := b.lo.2.2) (f := z) hs (Int.natCast_nonneg k)
  have h2 := le_cellIx (n := b.hi.2.2) (f := z) hs (Int.natCast_nonneg k)
  have h3 := cellIx_le (n := b.lo.2.1) (f := y) hs (Int.natCast_nonneg c)
  have h4 := le_cellIx (n := b.hi.2.1) (f := y) hs (Int.natCast_nonneg c)
  rw [Bool.eq_iff_iff]
  simp only [rectS, covS, Bool.and_eq_true, decide_eq_true_eq, ← h1, ← h2, ← h3, ← h4]
  omega
/-- The part of a rectangle that is painted when the loops are at row k0, column c0. -/
def rectTo (klo khi clo chi k0 c0 : Int) (k c : Nat) : Bool := rectS klo khi clo chi k c && (decide ((k : Int) < k0) || (decide ((k : Int) = k0) && decide ((c : Int) < c0)))
def paint (S : Nat → Nat → Bool) (sg : UInt8) (G : Nat → Nat → UInt8) (k c : Nat) : UInt8 := if S k c then sg else G k c
def setG (k0 c0 : Nat) (sg : UInt8) (G : Nat → Nat → UInt8) (k c : Nat) : UInt8 := if k = k0 ∧ c = c0 then sg else G k c
theorem paint_none (klo khi clo chi : Int) (sg : UInt8) (G : Nat → Nat → UInt8) (k c : Nat) : paint (rectTo klo khi clo chi klo clo) sg G k c = G k c := by
  unfold paint
  rw [if_neg]
  simp only [rectTo, rectS, Bool.and_eq_true, Bool.or_eq_true, decide_eq_true_eq]
  omega
theorem paint_step {klo khi clo chi : Int} {k0 c0 : Nat} (h1 : klo ≤ (k0 : Int)) (h2 : (k0 : Int) ≤ khi) (h3 : clo ≤ (c0 : Int)) (h4 : (c0 : Int) ≤ chi) (sg : UInt8) (G : Nat → Nat → UInt8) (k c : Nat) :
    setG k0 c0 sg (paint (rectTo klo khi clo chi k0 c0) sg G) k c = paint (rectTo klo khi clo chi k0 ((c0 : Int) + 1)) sg G k c := by
  unfold setG paint
  by_cases h : k = k0 ∧ c = c0
  · rw [if_pos h, if_pos]
    simp only [rectTo, rectS, Bool.and_eq_true, Bool.or_eq_true, decide_eq_true_eq]
    omega
  · rw [if_neg h]
    have e : rectTo klo khi clo chi k0 c0 k c = rectTo klo khi clo chi k0 ((c0 : Int) + 1) k c := by
      rw [Bool.eq_iff_iff]
      simp only [rectTo, rectS, Bool.and_eq_true, Bool.or_eq_true, decide_eq_true_eq]
      omega
    rw [e]
theorem paint_row {klo khi clo chi k0 c0 : Int} (h : chi < c0) (sg : UInt8) (G : Nat → Nat → UInt8) (k c : Nat) :
    paint (rectTo klo khi clo chi k0 c0) sg G k c = paint (rectTo klo khi clo chi (k0 + 1) clo) sg G k c := by
  have e : rectTo klo khi clo chi k0 c0 k c = rectTo klo khi clo chi (k0 + 1) clo k c := by
    rw [Bool.eq_iff_iff]
    simp only [rectTo, rectS, Bool.and_eq_true, Bool.or_eq_true, decide_eq_true_eq]
    omega
  unfold paint
  rw [e]
theorem paint_all {klo khi clo chi k0 c0 : Int} (h : khi < k0) (sg : UInt8) (G : Nat → Nat → UInt8) (k c : Nat) :
    paint (rectTo klo khi clo chi k0 c0) sg G k c = paint (rectS klo khi clo chi) sg G k c := by
  have e : rectTo klo khi clo chi k0 c0 k c = rectS klo khi clo chi k c := by
    rw [Bool.eq_iff_iff]
    simp only [rectTo, rectS, Bool.and_eq_true, Bool.or_eq_true, decide_eq_true_eq]
    omega
  unfold paint
  rw [e]
theorem sign_plus (y z sc : Int) (ins : Nat → Nat → Bool) (l : List PieceD) (p : PieceD) (k c : Nat) :
    (if covS y z sc p.cut k c then 43 else signTo y z sc ins l [] k c) = signTo y z sc ins (l ++ [p]) [] k c := by
  simp only [signTo, sign3, List.any_nil, List.any_append, List.any_cons, Bool.or_false, plusIn]
  cases covS y z sc p.cut k c <;> simp
theorem sign_ring (y z sc : Int) (ins : Nat → Nat → Bool) (l1 l : List PieceD) (p : PieceD) (hp : p.cross = true) (k c : Nat) :
    (if covS y z sc (dotB p) k c then 111 else signTo y z sc ins l1 l k c) = signTo y z sc ins l1 (l ++ [p]) k c := by
  simp only [signTo, sign3, List.any_append, List.any_cons, List.any_nil, Bool.or_false, ringIn, hp, Bool.true_and]
  cases covS y z sc (dotB p) k c <;> simp
theorem sign_skip (y z sc : Int) (ins : Nat → Nat → Bool) (l1 l : List PieceD) (p : PieceD) (hp : p.cross = false) (k c : Nat) :
    signTo y z sc ins l1 l k c = signTo y z sc ins l1 (l ++ [p]) k c := by
  simp only [signTo, List.any_append, List.any_cons, List.any_nil, Bool.or_false, ringIn, hp, Bool.false_and, Bool.or_false]
/-- So many of m rows, from the last one on. -/
def textTop (R : Nat → List UInt8) (m : Nat) : Nat → List UInt8
  | 0 => []
  | n + 1 => textTop R m n ++ R (m - 1 - n)
def rowB (G : Nat → Nat → UInt8) (cols k : Nat) : List UInt8 := (List.range cols).map (G k) ++ [10]
theorem rowB_len (G : Nat → Nat → UInt8) (cols k : Nat) : (rowB G cols k).length = cols + 1 := by simp [rowB]
theorem textTop_len (G : Nat → Nat → UInt8) (cols m : Nat) : ∀ n, (textTop (rowB G cols) m n).length = n * (cols + 1) := by
  intro n
  induction n with
  | zero => simp [textTop]
  | succ n ih => rw [textTop, List.length_append, ih, rowB_len, Nat.add_mul, Nat.one_mul]
theorem textTop_congr {G G' : Nat → Nat → UInt8} {cols m : Nat} (h : ∀ k c, k < m → c < cols → G k c = G' k c) : ∀ n, n ≤ m → textTop (rowB G cols) m n = textTop (rowB G' cols) m n := by
  intro n
  induction n with
  | zero => intro _; rfl
  | succ n ih =>
    intro hn
    rw [textTop, textTop, ih (by omega)]
    congr 1
    unfold rowB
    congr 1
    refine List.map_congr_left fun c hc => ?_
    rw [List.mem_range] at hc
    exact h _ _ (by omega) hc
/-- The drawing's signs. -/
def insAt (x : DetD) (a sc : Int) (k c : Nat) : Bool := inSolid x.mem.boxes x.mem.holes (a, (hullOf x.mem.boxes).lo.2.1 + c * sc, (hullOf x.mem.boxes).lo.2.2 + k * sc)
def signS (x : DetD) (a sc : Int) (k c : Nat) : UInt8 := signTo (hullOf x.mem.boxes).lo.2.1 (hullOf x.mem.boxes).lo.2.2 sc (insAt x a sc) (cutsOf x a) (cutsOf x a) k c
def sectText (x : DetD) (a sc : Int) : List UInt8 := textTop (rowB (signS x a sc) (colsOf x sc).toNat) (rowsS x sc).toNat (rowsS x sc).toNat
def drawErr (x : DetD) (a sc : Int) : Int := if secErr x a ≠ 0 then secErr x a else if sizeErr x sc ≠ 0 then sizeErr x sc else if 200 < colsOf x sc ∨ 200 < rowsS x sc then 4 else 0
end Go.Proofs.YtmcjpdlkkpnhfaaGreat
namespace Go.Proofs.YtmcjpdlkkpnhfaaGreat
open Go.RowKit

def numsOf (l : List PieceD) : List Int := l.map (·.bar)
theorem numsOf_snoc (l : List PieceD) (p : PieceD) : numsOf (l ++ [p]) = numsOf l ++ [p.bar] := by simp [numsOf]
theorem bars_last : ∀ l : List PieceD, (barsOf l).getLast? = (numsOf l).getLast? := by
  refine snoc_ind ?_ ?_
  · rfl
  · intro l p _
    rw [barsOf_snoc, numsOf_snoc]
    unfold addBar
    split
    · rename_i h
      rw [h]
      simp
    · simp
theorem upTo_left (xs : List Int) (y : Int) : ∀ m, m ≤ xs.length → Lib.compactUpTo (xs ++ [y]).toArray m = Lib.compactUpTo xs.toArray m := by
  have hg : ∀ i, i < xs.length → (xs ++ [y]).toArray[i]! = xs.toArray[i]! := by
    intro i hi
    rw [getElem!_pos _ i (by simp; omega), getElem!_pos _ i (by simpa using hi)]
    simp [List.getElem_append_left, hi]
  intro m
  induction m with
  | zero => intro _; rfl
  | succ m ih =>
    intro hm
    have hk : Lib.keeps (xs ++ [y]).toArray m = Lib.keeps xs.toArray m := by
      unfold Lib.keeps
      rw [hg m (by omega), hg (m - 1) (by omega)]
    rw [Lib.compactUpTo_succ, Lib.compactUpTo_succ, ih (by omega), hg m (by omega), hk]
theorem compact_snoc (xs : List Int) (y : Int) : Lib.compact (xs ++ [y]) = if xs.getLast? = some y then Lib.compact xs else Lib.compact xs ++ [y] := by
  unfold Lib.compact
  rw [List.length_append, List.length_singleton, Lib.compactUpTo_succ, upTo_left xs y _ (Nat.le_refl _)]
  have hy : (xs ++ [y]).toArray[xs.length]! = y := by
    rw [getElem!_pos _ _ (by simp)]
    simp
  rw [hy]
  rcases List.eq_nil_or_concat xs with h0 | ⟨l, z, h0⟩
  · subst h0
    rw [Lib.keeps_lt_one _ _ (by simp)]
    simp
  · have hp : (xs ++ [y]).toArray[xs.length - 1]! = z := by
      subst h0
      rw [getElem!_pos _ _ (by simp)]
      simp
    have hl : xs.getLast? = some z := by rw [h0]; simp
    have hn : 0 < xs.length := by rw [h0]; simp
    rw [hl]
    by_cases h : z = y
    · subst h
      rw [Lib.keeps_neg hn (by rw [hy, hp]), if_pos rfl]
      simp
    · rw [Lib.keeps_pos (by rw [hy, hp]; exact fun h9 => h h9.symm), if_pos rfl, if_neg (by simpa using h)]
theorem compact_bars : ∀ l : List PieceD, Lib.compact (numsOf l) = barsOf l := by
  refine snoc_ind ?_ ?_
  · rfl
  · intro l p ih
    rw [numsOf_snoc, compact_snoc, ih, barsOf_snoc, addBar, bars_last]
theorem mem_bars (z : Int) : ∀ l : List PieceD, z ∈ barsOf l ↔ z ∈ numsOf l := by
  refine snoc_ind ?_ ?_
  · simp [barsOf, numsOf]
  · intro l p ih
    rw [barsOf_snoc, numsOf_snoc, addBar, List.mem_append, ← ih, List.mem_singleton]
    split
    · rename_i h
      refine ⟨.inl, fun h9 => ?_⟩
      rcases h9 with h9 | h9
      · exact h9
      · rw [h9]; exact List.mem_of_getLast? h
    · rw [List.mem_append, List.mem_singleton]
theorem nums_legs (a bar sz z : Int) (l : List BoxD) : z ∈ numsOf (legPieces a bar sz l) ↔ z = bar ∧ l.any (overX a) = true := by
  simp only [numsOf, legPieces, List.map_map, List.mem_map, List.mem_filter, List.any_eq_true]
  constructor
  · rintro ⟨b, ⟨h1, h2⟩, rfl⟩; exact ⟨rfl, b, h1, h2⟩
  · rintro ⟨rfl, b, h1, h2⟩; exact ⟨b, ⟨h1, h2⟩, rfl⟩
theorem nums_range (a : Int) : ∀ l : List LaidD, ∀ z ∈ numsOf (piecesTo a l), 0 ≤ z ∧ z < (l.length : Int) := by
  refine snoc_ind ?_ ?_
  · simp [piecesTo, numsOf]
  · intro l x ih z hz
    rw [piecesTo_snoc, numsOf, List.map_append, List.mem_append] at hz
    rw [List.length_append, List.length_singleton]
    rcases hz with hz | hz
    · have := ih z hz; omega
    · have := ((nums_legs a (l.length : Nat) x.bar.size z (legsOfPts x.pts)).1 hz).1; omega
theorem nums_asc (a : Int) : ∀ l : List LaidD, (numsOf (piecesTo a l)).Pairwise (· ≤ ·) := by
  refine snoc_ind ?_ ?_
  · simp [piecesTo, numsOf]
  · intro l x ih
    rw [piecesTo_snoc, numsOf, List.map_append, List.pairwise_append]
    refine ⟨ih, ?_, fun y hy z hz => ?_⟩
    · refine List.pairwise_iff_getElem.2 (fun i j hi hj _ => ?_)
      have h1 := ((nums_legs a (l.length : Nat) x.bar.size _ (legsOfPts x.pts)).1 (List.getElem_mem hi)).1
      have h2 := ((nums_legs a (l.length : Nat) x.bar.size _ (legsOfPts x.pts)).1 (List.getElem_mem hj)).1
      exact Int.le_of_eq (h1.trans h2.symm)
    · have h1 := nums_range a l y hy
      have h2 := ((nums_legs a (l.length : Nat) x.bar.size z (legsOfPts x.pts)).1 hz).1
      omega
theorem nums_mem (a : Int) : ∀ (l : List LaidD) (k : Nat), (k : Int) ∈ numsOf (piecesTo a l) ↔ ∃ ld, l[k]? = some ld ∧ (legsOfPts ld.pts).any (overX a) = true := by
  refine snoc_ind ?_ ?_
  · intro k; simp [piecesTo, numsOf]
  · intro l x ih k
    have hs : (k : Int) ∈ numsOf (piecesTo a (l ++ [x])) ↔ (k : Int) ∈ numsOf (piecesTo a l) ∨ ((k : Int) = (l.length : Nat) ∧ (legsOfPts x.pts).any (overX a) = true) := by
      rw [piecesTo_snoc, numsOf, List.map_append, List.mem_append]
      exact or_congr Iff.rfl (nums_legs a (l.length : Nat) x.bar.size k (legsOfPts x.pts))
    rw [hs, ih]
    rcases Nat.lt_trichotomy k l.length with h | h | h
    · rw [List.getElem?_append_left h]
      exact ⟨fun h9 => h9.elim id (fun h8 => absurd h8.1 (by omega)), .inl⟩
    · subst h
      rw [List.getElem?_eq_none (Nat.le_refl _), List.getElem?_append_right (Nat.le_refl _), Nat.sub_self]
      constructor
      · rintro (⟨_, h, _⟩ | ⟨_, h⟩)
        · cases h
        · exact ⟨x, rfl, h⟩
      · rintro ⟨ld, h1, h2⟩
        obtain rfl : x = ld := by simpa using h1
        exact .inr ⟨rfl, h2⟩
    · rw [List.getElem?_eq_none (by omega), List.getElem?_eq_none (by simp; omega)]
      constructor
      · rintro (⟨_, h, _⟩ | ⟨h9, _⟩)
        · cases h
        · omega
      · rintro ⟨_, h, _⟩; cases h
theorem piece_of (a : Int) : ∀ (l : List LaidD), ∀ p ∈ piecesTo a l, ∃ (i : Nat) (ld : LaidD) (b : BoxD), l[i]? = some ld ∧ p.bar = (i : Int) ∧ b ∈ legsOfPts ld.pts ∧ overX a b = true ∧ p.cut = cutOf a b := by
  intro l p hp
  simp only [piecesTo, List.mem_flatMap] at hp
  obtain ⟨⟨ld, i⟩, hl, hp⟩ := hp
  simp only [legPieces, List.mem_map, List.mem_filter] at hp
  obtain ⟨b, ⟨hb, ho⟩, rfl⟩ := hp
  exact ⟨i, ld, b, List.mk_mem_zipIdx_iff_getElem?.1 hl, rfl, hb, ho, rfl⟩
theorem hull_x (b : BoxD) : ∀ l : List BoxD, (∀ c ∈ b :: l, (hullOn b l).lo.1 ≤ c.lo.1 ∧ c.hi.1 ≤ (hullOn b l).hi.1) ∧ (∃ c ∈ b :: l, (hullOn b l).lo.1 = c.lo.1) ∧ (∃ c ∈ b :: l, (hullOn b l).hi.1 = c.hi.1) := by
  refine snoc_ind ?_ ?_
  · simp [hullOn]
  · intro l d ⟨h1, ⟨c, hc, h2⟩, ⟨e, he, h3⟩⟩
    rw [hullOn_snoc]
    have hm : ∀ c, c ∈ b :: (l ++ [d]) ↔ c ∈ b :: l ∨ c = d := by intro c; simp [or_assoc]
    show (∀ c ∈ b :: (l ++ [d]), min (hullOn b l).lo.1 d.lo.1 ≤ c.lo.1 ∧ c.hi.1 ≤ max (hullOn b l).hi.1 d.hi.1) ∧ (∃ c ∈ b :: (l ++ [d]), min (hullOn b l).lo.1 d.lo.1 = c.lo.1) ∧ (∃ c ∈ b :: (l ++ [d]), max (hullOn b l).hi.1 d.hi.1 = c.hi.1)
    refine ⟨fun c hc => ?_, ?_, ?_⟩
    · rcases (hm c).1 hc with h | rfl
      · have := h1 c h; omega
      · omega
    · rcases Int.le_total (hullOn b l).lo.1 d.lo.1 with h | h
      · exact ⟨c, (hm c).2 (.inl hc), by omega⟩
      · exact ⟨d, (hm d).2 (.inr rfl), by omega⟩
    · rcases Int.le_total (hullOn b l).hi.1 d.hi.1 with h | h
      · exact ⟨d, (hm d).2 (.inr rfl), by omega⟩
      · exact ⟨e, (hm e).2 (.inl he), by omega⟩
theorem legs_side (a : Int) : ∀ (l : List Pt) (p q : Pt), (legsOfPts (p :: q :: l)).any (overX a) = false → (∀ u ∈ p :: q :: l, u.1 < a) ∨ (∀ u ∈ p :: q :: l, a < u.1) := by
  have hone : ∀ p q : Pt, overX a (legBox p q) = false → (p.1 < a ∧ q.1 < a) ∨ (a < p.1 ∧ a < q.1) := by
    intro p q h
    have h : ¬ (min p.1 q.1 ≤ a) ∨ ¬ (a ≤ max p.1 q.1) := by
      rw [← decide_eq_false_iff_not, ← decide_eq_false_iff_not, ← Bool.and_eq_false_iff]
      exact h
    omega
  intro l
  induction l with
  | nil =>
    intro p q h
    simp only [legsOfPts, List.any_cons, List.any_nil, Bool.or_false] at h
    have := hone p q h
    simp only [List.mem_cons, List.not_mem_nil, or_false, forall_eq_or_imp, forall_eq]
    omega
  | cons r l ih =>
    intro p q h
    rw [legsOfPts, List.any_cons, Bool.or_eq_false_iff] at h
    have h1 := hone p q h.1
    rcases ih q r h.2 with h2 | h2
    · have h3 := h2 q (by simp)
      refine .inl fun u hu => ?_
      rcases List.mem_cons.1 hu with rfl | hu
      · omega
      · exact h2 u hu
    · have h3 := h2 q (by simp)
      refine .inr fun u hu => ?_
      rcases List.mem_cons.1 hu with rfl | hu
      · omega
      · exact h2 u hu
theorem leg_ends (a : Int) : ∀ l : List Pt, (legsOfPts l).any (overX a) = true → (∃ u ∈ l, u.1 ≤ a) ∧ (∃ v ∈ l, a ≤ v.1) := by
  intro l
  induction l with
  | nil => intro h; simp [legsOfPts] at h
  | cons p l ih =>
    intro h
    cases l with
    | nil => simp [legsOfPts] at h
    | cons q l =>
      rw [legsOfPts, List.any_cons, Bool.or_eq_true] at h
      rcases h with h | h
      · have h : min p.1 q.1 ≤ a ∧ a ≤ max p.1 q.1 := by
          rw [← decide_eq_true_eq (p := min p.1 q.1 ≤ a), ← decide_eq_true_eq (p := a ≤ max p.1 q.1), ← Bool.and_eq_true]
          exact h
        constructor
        · rcases Int.le_total p.1 q.1 with h9 | h9
          · exact ⟨p, by simp, by omega⟩
          · exact ⟨q, by simp, by omega⟩
        · rcases Int.le_total p.1 q.1 with h9 | h9
          · exact ⟨q, by simp, by omega⟩
          · exact ⟨p, by simp, by omega⟩
      · obtain ⟨⟨u, hu, h1⟩, v, hv, h2⟩ := ih h
        exact ⟨⟨u, List.mem_cons_of_mem _ hu, h1⟩, v, List.mem_cons_of_mem _ hv, h2⟩
def hullOver (a : Int) (b : BoxD) : Bool := decide (b.lo.1 ≤ a) && decide (a ≤ b.hi.1)
theorem hull_over (a : Int) {l : List Pt} (h : 2 ≤ l.length) : hullOver a (hullOf (l.map ptBox)) = (legsOfPts l).any (overX a) := by
  match l, h with
  | p :: q :: l, _ =>
    obtain ⟨h1, ⟨c, hc, h2⟩, e, he, h3⟩ := hull_x (ptBox p) (ptBox p :: ptBox q :: l.map ptBox)
    have hh : hullOf ((p :: q :: l).map ptBox) = hullOn (ptBox p) (ptBox p :: ptBox q :: l.map ptBox) := rfl
    have hin : ∀ c ∈ ptBox p :: ptBox p :: ptBox q :: l.map ptBox, ∃ u ∈ p :: q :: l, c = ptBox u := by
      intro c hc
      simp only [List.mem_cons, List.mem_map] at hc
      rcases hc with h | h | h | ⟨u, hu, h⟩
      · exact ⟨p, by simp, h⟩
      · exact ⟨p, by simp, h⟩
      · exact ⟨q, by simp, h⟩
      · exact ⟨u, by simp [hu], h.symm⟩
    have hback : ∀ u ∈ p :: q :: l, ptBox u ∈ ptBox p :: ptBox p :: ptBox q :: l.map ptBox := by
      intro u hu
      simp only [List.mem_cons] at hu
      rcases hu with rfl | rfl | hu
      · simp
      · simp
      · simp only [List.mem_cons, List.mem_map]
        exact .inr (.inr (.inr ⟨u, hu, rfl⟩))
    rw [hh]
    cases ht : (legsOfPts (p :: q :: l)).any (overX a)
    · obtain ⟨u, hu, rfl⟩ := hin c hc
      obtain ⟨v, hv, rfl⟩ := hin e he
      simp only [hullOver, Bool.and_eq_false_iff, decide_eq_false_iff_not, h2, h3]
      rcases legs_side a l p q ht with h9 | h9
      · have := h9 v hv
        simp only [ptBox]
        omega
      · have := h9 u hu
        simp only [ptBox]
        omega
    · obtain ⟨⟨u, hu, h8⟩, v, hv, h9⟩ := leg_ends a _ ht
      have hu' : (hullOn (ptBox p) (ptBox p :: ptBox q :: l.map ptBox)).lo.1 ≤ u.1 := (h1 _ (hback u hu)).1
      have hv' : v.1 ≤ (hullOn (ptBox p) (ptBox p :: ptBox q :: l.map ptBox)).hi.1 := (h1 _ (hback v hv)).2
      generalize hullOn (ptBox p) (ptBox p :: ptBox q :: l.map ptBox) = H at *
      simp only [hullOver, Bool.and_eq_true, decide_eq_true_eq]
      omega
theorem legs_one {x : BarD} (h : barOk x = true) : 2 ≤ (pathOf x).length := by
  have hd : dimsE x.code = 0 := by
    simp only [barOk, Bool.and_eq_true, decide_eq_true_eq] at h
    exact h.1.1.1.1.1.1
  have h1 : 1 ≤ (legsOf x.code).length := by
    cases h0 : legsOf x.code with
    | nil =>
      unfold dimsE dimsN at hd
      rw [h0] at hd
      simp at hd
    | cons y l => simp
  rw [pathOf_len]
  omega
theorem laid_two {bars : List BarD} {runs : List RunD} (hok : laidOk bars runs = true) {i : Nat} {l : LaidD} (hl : (laidAll bars runs)[i]? = some l) : 2 ≤ l.pts.length := by
  have hm := mem_of_get hl
  have hb := legs_one ((laidOk_mem hok).1 l.bar (laid_bar hok hl))
  simp only [laidAll, List.mem_flatMap] at hm
  obtain ⟨u, hu, hm⟩ := hm
  obtain ⟨j, y, hj, hy, hyb, _⟩ := runOk_bar ((laidOk_mem hok).2.2 u hu)
  rw [laidRun_of hyb] at hm
  simp only [laidTo, List.mem_map] at hm
  obtain ⟨q, _, rfl⟩ := hm
  simp only at hb ⊢
  rw [ptsOf_eq, List.length_map]
  exact hb
end Go.Proofs.YtmcjpdlkkpnhfaaGreat
