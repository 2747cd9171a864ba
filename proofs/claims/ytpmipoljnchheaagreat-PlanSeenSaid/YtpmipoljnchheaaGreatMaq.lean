/- The cell of a point. Searches: a string in a list of strings, a run in a list of runs. The marks in a cell. -/
import Derived.Test.YtpmipoljnchheaaGreatMap
import Derived.BigQuiet
namespace Go.Proofs.YtpmipoljnchheaaGreat
open Go.RowKit

def cellTuple (g : GridD) (p : Pt) : Array Value := if InGrid g p then #[.int .i64 (cellRow g p), .int .i64 (cellCol g p), .int .i64 0] else #[.int .i64 0, .int .i64 0, .int .i64 12]
theorem end_range {n s : Int} (hs : 1 ≤ s ∧ s ≤ 1048576) (hn : 1 ≤ n) (h : ∀ k, 0 ≤ k → k < n → 0 ≤ k * s ∧ k * s ≤ 8388608) : 0 ≤ n * s ∧ n * s ≤ 9437184 := by
  have h1 := h (n - 1) (by omega) (by omega)
  rw [Int.sub_mul, Int.one_mul] at h1
  omega
set_option maxHeartbeats 4000000 in
set_option maxRecDepth 100000 in
theorem planCell_ok (x : DetD) (s : DetS) (sc : Int) (p : Pt) (w : World) {B : Nat} (h : DetAt w B x s) (hB : B ≤ w.heap.size) (hf : DetFit x s) (he : planErr x sc = 0) :
    Calls Tryz.prog 15 #[detV x s, .int .i64 sc, .agg #[.int .i64 p.1, .int .i64 p.2.1, .int .i64 p.2.2]] w fun e w' => e = .returned (.tuple (cellTuple (gridOf x sc) p)) ∧ Below w.heap.size w w' := by
  have hpf := plan_facts he
  have hM := fun (W : World) (hz : Below w.heap.size w W) => made_any x s sc W (h.carry (hz.mono hB) (Nat.le_refl _)) (Nat.le_trans hB hz.size) hf
  rw [plan_ok he, he] at hM
  have HM := hide hM
  obtain ⟨p1, p2, p3⟩ := p
  have Hi := hide (show (Tryz.prog.info? 34).map (·.size) = some 19 by kernel_rfl)
  have K0 := hide ((Blk.new w 34 (detCells x.mem x.rule s)).alloc (.cells #[.int .i64 p1, .int .i64 p2, .int .i64 p3] 44))
  have KP := hide (Blk.new1 w (.cells (detCells x.mem x.rule s) 34) 44 #[.int .i64 p1, .int .i64 p2, .int .i64 p3])
  have HW := hide ((below_new w (.cells (detCells x.mem x.rule s) 34)).alloc (by simp) (.cells #[.int .i64 p1, .int .i64 p2, .int .i64 p3] 44))
  have hr := end_range hpf.sc hpf.rows.1 hpf.row
  have hc := end_range hpf.sc hpf.cols.1 hpf.col
  have hlo := nearBy_iff.1 hpf.lo
  obtain ⟨hs0, hs1⟩ := hpf.sc
  have Hres := hide (show cellTuple (gridOf x sc) (p1, p2, p3) = if (((gridOf x sc).lo.1 ≤ p1 ∧ p1 < (gridOf x sc).lo.1 + (gridOf x sc).cols * sc) ∧ ((gridOf x sc).lo.2.1 ≤ p2 ∧ p2 < (gridOf x sc).lo.2.1 + (gridOf x sc).rows * sc)) then #[.int .i64 ((p2 - (gridOf x sc).lo.2.1) / sc), .int .i64 ((p1 - (gridOf x sc).lo.1) / sc), .int .i64 0] else #[.int .i64 0, .int .i64 0, .int .i64 12] from rfl)
  obtain ⟨res, hres⟩ : ∃ r, r = cellTuple (gridOf x sc) (p1, p2, p3) := ⟨_, rfl⟩
  rw [← hres] at Hres ⊢
  clear hres hpf hM he
  generalize gridOf x sc = g at *
  obtain ⟨⟨g1, g2, g3⟩, g4, g5, g6⟩ := g
  simp only at hr hc hlo Hres
  obtain ⟨mem, bars, runs, laps, dems, rule⟩ := x
  obtain ⟨a1, n1, c1, a2, n2, c2, a3, n3, c3, a4, n4, c4, a5, n5, c5, a6, n6, c6⟩ := s
  obtain ⟨name, boxes, holes, cover, agg, poker⟩ := mem
  obtain ⟨r1, r2, r3, r4, r5, r6, r7, r8, r9⟩ := rule
  simp only [detCells] at K0 KP HW
  clear h hf
  have z1 : IntKind.i64.wrap (g6 * sc) = g6 * sc := IntWalk.i64_in _ (by omega)
  have z2 : IntKind.i64.wrap (g5 * sc) = g5 * sc := IntWalk.i64_in _ (by omega)
  obtain ⟨q6, hq6⟩ : ∃ q, q = g6 * sc := ⟨_, rfl⟩
  obtain ⟨q5, hq5⟩ : ∃ q, q = g5 * sc := ⟨_, rfl⟩
  rw [← hq6] at z1 hc Hres
  rw [← hq5] at z2 hr Hres
  have Hq6 := hide hq6.symm
  have Hq5 := hide hq5.symm
  have z3 : IntKind.i64.wrap (g1 + q6) = g1 + q6 := IntWalk.i64_in _ (by omega)
  have z4 : IntKind.i64.wrap (g2 + q5) = g2 + q5 := IntWalk.i64_in _ (by omega)
  have m6 : g6 * sc = q6 := Hq6.out
  have m5 : g5 * sc = q5 := Hq5.out
  clear hq5 hq6
  have hways : decide (p1 < g1) = true ∨ (decide (p1 < g1) = false ∧ decide (g1 + q6 ≤ p1) = true) ∨ (decide (p1 < g1) = false ∧ decide (g1 + q6 ≤ p1) = false ∧ decide (p2 < g2) = true) ∨ (decide (p1 < g1) = false ∧ decide (g1 + q6 ≤ p1) = false ∧ decide (p2 < g2) = false ∧ decide (g2 + q5 ≤ p2) = true) ∨ (decide (p1 < g1) = false ∧ decide (g1 + q6 ≤ p1) = false ∧ decide (p2 < g2) = false ∧ decide (g2 + q5 ≤ p2) = false) := by
    cases decide (p1 < g1) <;> cases decide (g1 + q6 ≤ p1) <;> cases decide (p2 < g2) <;> cases decide (g2 + q5 ≤ p2) <;> simp
  show Calls Tryz.prog 15 #[.agg #[.string name, .slice a1 n1 c1, .slice a2 n2 c2, .int .i64 cover, .int .i64 agg, .int .i64 poker, .slice a3 n3 c3, .slice a4 n4 c4, .slice a5 n5 c5, .slice a6 n6 c6, .int .i64 r1, .int .i64 r2, .int .i64 r3, .int .i64 r4, .int .i64 r5, .int .i64 r6, .int .i64 r7, .int .i64 r8, .int .i64 r9], .int .i64 sc, .agg #[.int .i64 p1, .int .i64 p2, .int .i64 p3]] w _
  go_enter Tryz.func15, Tryz.ntmps15
  go_wp2_with (refine wpList_load_row rfl 34 (.tmp 3) rfl w.heap.size rfl 34 _ (0, 0) _ K0.out Tryz.underlying34 rfl Hi.out ?_)
  refine (HM.out _ HW.out).mono ?_
  rintro e w2 ⟨rfl, hb2⟩
  have KP := hide (KP.out.keep hb2)
  have HW2 := hide (below_step HW.out hb2 (Nat.le_refl _))
  have KG := hide (Blk.new w2 84 #[.int .i64 g1, .int .i64 g2, .int .i64 g3, .int .i64 g4, .int .i64 g5, .int .i64 g6])
  have KP := hide (KP.out.alloc (.cells #[.int .i64 g1, .int .i64 g2, .int .i64 g3, .int .i64 g4, .int .i64 g5, .int .i64 g6] 84))
  have HW3 := hide (HW2.out.alloc HW2.out.size (.cells #[.int .i64 g1, .int .i64 g2, .int .i64 g3, .int .i64 g4, .int .i64 g5, .int .i64 g6] 84))
  have k0 := KG.out.cell 0
  have k1 := KG.out.cell 1
  have k4 := KG.out.cell 4
  have k5 := KG.out.cell 5
  have e0 := KP.out.cell 0
  have e1 := KP.out.cell 1
  simp at k0 k1 k4 k5 e0 e1
  have lg := KG.out.lt
  have lp := KP.out.lt
  clear hb2 HM K0 HW HW2 Hi
  rcases hways with q0 | ⟨q0, q1⟩ | ⟨q0, q1, q2⟩ | ⟨q0, q1, q2, q3⟩ | ⟨q0, q1, q2, q3⟩
  · have Hr := hide (show res = #[.int .i64 0, .int .i64 0, .int .i64 12] by rw [Hres.out, if_neg (by simp only [decide_eq_true_eq] at q0; omega)])
    clear Hres
    go_wp2_with fail
    go_ret3
    refine ⟨?_, HW3.out⟩
    rw [Hr.out]
    rfl
  · have Hr := hide (show res = #[.int .i64 0, .int .i64 0, .int .i64 12] by rw [Hres.out, if_neg (by simp only [decide_eq_true_eq] at q1; omega)])
    clear Hres
    go_wp2_with fail
    go_ret3
    refine ⟨?_, HW3.out⟩
    rw [Hr.out]
    rfl
  · have Hr := hide (show res = #[.int .i64 0, .int .i64 0, .int .i64 12] by rw [Hres.out, if_neg (by simp only [decide_eq_true_eq] at q2; omega)])
    clear Hres
    go_wp2_with fail
    go_ret3
    refine ⟨?_, HW3.out⟩
    rw [Hr.out]
    rfl
  · have Hr := hide (show res = #[.int .i64 0, .int .i64 0, .int .i64 12] by rw [Hres.out, if_neg (by simp only [decide_eq_true_eq] at q3; omega)])
    clear Hres
    go_wp2_with fail
    go_ret3
    refine ⟨?_, HW3.out⟩
    rw [Hr.out]
    rfl
  · have o0 : g1 ≤ p1 := by simp only [decide_eq_false_iff_not] at q0; omega
    have o1 : p1 < g1 + q6 := by simp only [decide_eq_false_iff_not] at q1; omega
    have o2 : g2 ≤ p2 := by simp only [decide_eq_false_iff_not] at q2; omega
    have o3 : p2 < g2 + q5 := by simp only [decide_eq_false_iff_not] at q3; omega
    have Hr := hide (show res = #[.int .i64 ((p2 - g2) / sc), .int .i64 ((p1 - g1) / sc), .int .i64 0] by rw [Hres.out, if_pos ⟨⟨o0, o1⟩, o2, o3⟩])
    have y1 : IntKind.i64.wrap (p1 - g1) = p1 - g1 := IntWalk.i64_in _ (by omega)
    have y2 : IntKind.i64.wrap (p2 - g2) = p2 - g2 := IntWalk.i64_in _ (by omega)
    have u1 : 0 ≤ p1 - g1 ∧ p1 - g1 ≤ 9437184 := by omega
    have u2 : 0 ≤ p2 - g2 ∧ p2 - g2 ≤ 9437184 := by omega
    clear Hres o0 o1 o2 o3
    go_wp2_with fail
    go_quiet (fail)
    go_wp2_with fail
    go_ret3
    refine ⟨?_, below_drewN' HW3.out _⟩
    rw [Hr.out]
    rfl
end Go.Proofs.YtpmipoljnchheaaGreat
namespace Go.Proofs.YtpmipoljnchheaaGreat
open Go.RowKit

def strIs (m x : ByteArray) : Bool := m.toList == x.toList
theorem strIs_mem {m : ByteArray} {l : List ByteArray} : l.any (strIs m) = true ↔ m ∈ l := by
  rw [List.any_eq_true]
  constructor
  · rintro ⟨x, hx, h⟩
    rw [toList_inj h]
    exact hx
  · intro h
    exact ⟨m, h, beq_self_eq_true _⟩
set_option maxHeartbeats 400000 in
theorem indexStr_any (A : Option Addr) (l : List ByteArray) (n c : Nat) (m : ByteArray) (w : World) {B : Nat} (h : StrsAt w B A l) (hn : n = l.length) (hm : n ≤ 300000) :
    Calls Tryz.prog 48 #[.slice A n c, .string m] w fun e w' => e = .returned (.int .i64 (idx (strIs m) l)) ∧ w = w' := by
  have hn' := hide hn; clear hn
  go_enter Tryz.func48, Tryz.ntmps48
  go_wp2
  go_loop [5, 8] (fun _ i => ∃ k : Nat, k ≤ n ∧ i = .int .i64 k ∧ NoneTo (strIs m) l k) (fun _ i => n - (intOf i).toNat)
  case atStart => exact ⟨0, Nat.zero_le _, rfl, NoneTo.zero _ _⟩
  case round =>
    obtain ⟨k, hk, rfl, hw⟩ := hrel
    by_cases hlt : k < n
    · obtain ⟨b, off, y, rfl, hb, hy, hc⟩ := h.get (k := k) (by rw [← hn'.out]; exact hlt)
      have Hy := hide hy
      clear hy hb h
      obtain ⟨t, ht⟩ : ∃ t, t = (m.toList == y.toList) := ⟨_, rfl⟩
      have Ht := hide (show strIs m y = t from ht.symm)
      go_wp2_with fail
      · go_ret
        exact ⟨ret_int (hw.hit Hy.out (by assumption)).symm, rfl⟩
      · go_round
        case rel => exact ⟨k + 1, by omega, by go_num, hw.succ Hy.out (by assumption)⟩
        case measure => simp [intOf]; omega
    · obtain rfl : k = n := by omega
      go_wp2_with fail
      go_ret
      exact ⟨ret_int (NoneTo.miss (by rw [← hn'.out]; exact hw)).symm, rfl⟩
set_option maxHeartbeats 400000 in
theorem containsStr_any (A : Option Addr) (l : List ByteArray) (n c : Nat) (m : ByteArray) (w : World) {B : Nat} (h : StrsAt w B A l) (hn : n = l.length) (hm : n ≤ 300000) :
    Calls Tryz.prog 22 #[.slice A n c, .string m] w fun e w' => e = .returned (.bool (l.any (strIs m))) ∧ w = w' := by
  have hn' := hide hn; clear hn
  go_enter Tryz.func22, Tryz.ntmps22
  go_wp2_with (go_at_call 48; refine (indexStr_any A l n c m _ h hn'.out hm).mono ?_; rintro e w' ⟨rfl, rfl⟩)
  go_ret
  refine ⟨ret_bool ?_, rfl⟩
  rw [idx_any]

set_option maxHeartbeats 1000000 in
theorem indexFuncRun_any (A : Option Addr) (l : List RunD) (n c : Nat) (fid : FuncId) (caps : Array Value) (p : RunD → Bool) (w : World) {B : Nat} (h : RunsAt w B A l) (hB : B ≤ w.heap.size) (hn : n = l.length) (hm : n ≤ 300000)
    (hc : ∀ args w, (callFunc fid args).run Tryz.prog w = .ok (.enter fid args) w)
    (hf : ∀ x (W : World), x ∈ l → Below w.heap.size w W → Calls Tryz.prog fid (#[runV x] ++ caps) W fun e W' => e = .returned (.bool (p x)) ∧ Below W.heap.size W W') :
    Calls Tryz.prog 56 #[.slice A n c, .func (.func fid) #[] caps] w fun e w' => e = .returned (.int .i64 (idx p l)) ∧ Below w.heap.size w w' := by
  have Hf := hide hf
  have hn' := hide hn
  have Hs := hide h
  clear hf hn h
  go_enter Tryz.func56, Tryz.ntmps56
  go_wp2_with fail
  go_loopw [8] (fun i wr => ∃ k : Nat, k ≤ n ∧ i = .int .i64 k ∧ NoneTo p l k ∧ Below w.heap.size w wr) (fun i _ => n - (intOf i).toNat)
  case atStart => exact ⟨0, Nat.zero_le _, rfl, NoneTo.zero _ _, Below.refl _ _⟩
  case round =>
    obtain ⟨k, hk, rfl, hw, hb⟩ := hrel
    by_cases hlt : k < n
    · obtain ⟨b, off, x, rfl, hbl, hx, hcs⟩ := RunsAt.get (k := k) (SlOf.carry (Flat.carried _) Hs.out (hb.mono hB) (Nat.le_refl _)) (by rw [← hn'.out]; exact hlt)
      have Hx := hide hx
      have HF := hide (fun (W : World) (hz : Below w.heap.size w W) => Hf.out x W (mem_of_get hx) hz)
      obtain ⟨mark, tx, ty, ⟨a1, a2, a3⟩, ⟨s1, s2, s3⟩, cnt⟩ := x
      have h0 := hcs 0 _ rfl
      have h1 := hcs 1 _ rfl
      have h2 := hcs 2 _ rfl
      have h3 := hcs 3 _ rfl
      have h4 := hcs 4 _ rfl
      have h5 := hcs 5 _ rfl
      have h6 := hcs 6 _ rfl
      have h7 := hcs 7 _ rfl
      have h8 := hcs 8 _ rfl
      have h9 := hcs 9 _ rfl
      simp only [Nat.add_zero] at h0 h1 h2 h3 h4 h5 h6 h7 h8 h9
      obtain ⟨pv, hpv⟩ : ∃ v, v = p ⟨mark, tx, ty, (a1, a2, a3), (s1, s2, s3), cnt⟩ := ⟨_, rfl⟩
      rw [← hpv] at HF
      have Hpv := hide hpv.symm
      clear hx hbl hcs hpv
      go_wp2_with fail
      refine (HF.out _ hb).mono ?_
      rintro e w1 ⟨rfl, hb1⟩
      clear h0 h1 h2 h3 h4 h5 h6 h7 h8 h9 HF
      have hb2 := below_step hb hb1 (Nat.le_refl _)
      cases pv
      · go_wp2_with fail
        go_roundw
        case rel => exact ⟨k + 1, by omega, by go_num, hw.succ Hx.out Hpv.out, hb2⟩
        case measure => simp [intOf]; omega
      · go_wp2_with fail
        go_ret
        exact ⟨ret_int (hw.hit Hx.out Hpv.out).symm, hb2⟩
    · obtain rfl : k = n := by omega
      go_wp2_with fail
      go_ret
      exact ⟨ret_int (NoneTo.miss (by rw [← hn'.out]; exact hw)).symm, hb⟩
set_option maxHeartbeats 400000 in
theorem containsFuncRun_any (A : Option Addr) (l : List RunD) (n c : Nat) (fid : FuncId) (caps : Array Value) (p : RunD → Bool) (w : World) {B : Nat} (h : RunsAt w B A l) (hB : B ≤ w.heap.size) (hn : n = l.length) (hm : n ≤ 300000)
    (hc : ∀ args w, (callFunc fid args).run Tryz.prog w = .ok (.enter fid args) w)
    (hf : ∀ x (W : World), x ∈ l → Below w.heap.size w W → Calls Tryz.prog fid (#[runV x] ++ caps) W fun e W' => e = .returned (.bool (p x)) ∧ Below W.heap.size W W') :
    Calls Tryz.prog 28 #[.slice A n c, .func (.func fid) #[] caps] w fun e w' => e = .returned (.bool (l.any p)) ∧ Below w.heap.size w w' := by
  have Hf := hide hf
  have hn' := hide hn
  have Hc := hide hc
  clear hf hn hc
  go_enter Tryz.func28, Tryz.ntmps28
  go_wp2_with fail
  refine (indexFuncRun_any A l n c fid caps p w h hB hn'.out hm Hc.out Hf.out).mono ?_
  rintro e w1 ⟨rfl, hb⟩
  go_wp2_with fail
  go_ret
  exact ⟨ret_bool (by rw [idx_any]), hb⟩
set_option maxHeartbeats 400000 in
theorem seen1_any (x : RunD) (m : ByteArray) (g : Nat) (w : World) (h0 : w.cell? ⟨g, 0, none⟩ = some (.string m)) :
    Calls Tryz.prog 29 #[runV x, .pointer (some ⟨g, 0, none⟩)] w fun e w' => e = .returned (.bool (runIs m x)) ∧ Below w.heap.size w w' := by
  have hg : g < w.heap.size := World.block_lt_of_cell? w _ h0
  have h1 := fun o => (World.cell?_alloc_lt w o ⟨g, 0, none⟩ hg).trans h0
  go_enter Tryz.func29, Tryz.ntmps29
  go_wp2_with fail
  go_ret
  exact ⟨ret_bool (by rfl), below_new _ _⟩
end Go.Proofs.YtpmipoljnchheaaGreat
namespace Go.Proofs.YtpmipoljnchheaaGreat
open Go.RowKit

theorem seenAt_mem {x : DetD} {s row col k : Int} (h : k ∈ seenAt x s row col) : 0 ≤ k ∧ k < (x.bars.length : Nat) := (mem_seenOf.1 h).1
theorem seenAt_len (x : DetD) (s row col : Int) : (seenAt x s row col).length ≤ x.bars.length := by
  unfold seenAt seenOf
  refine Nat.le_trans (List.length_filter_le _ _) ?_
  rw [List.length_map, List.length_range]
  exact Nat.le_refl _
set_option maxHeartbeats 4000000 in
set_option maxRecDepth 100000 in
theorem planAt_ok (x : DetD) (s : DetS) (sc row col : Int) (w : World) {B : Nat} (h : DetAt w B x s) (hB : B ≤ w.heap.size) (hf : DetFit x s) (he : planErr x sc = 0) (hr : 0 ≤ row ∧ row < (gridOf x sc).rows) (hc : 0 ≤ col ∧ col < (gridOf x sc).cols) :
    Calls Tryz.prog 21 #[detV x s, .int .i64 sc, .int .i64 row, .int .i64 col] w fun e w' => ∃ A c, e = .returned (.tuple #[.slice A (marksAt x sc row col).length c, .int .i64 0]) ∧ StrsAt w' w'.heap.size A (marksAt x sc row col) ∧ Below w.heap.size w w' := by
  have hpf := plan_facts he
  have hM := fun (W : World) (hz : Below w.heap.size w W) => made_any x s sc W (h.carry (hz.mono hB) (Nat.le_refl _)) (Nat.le_trans hB hz.size) hf
  rw [plan_ok he, he] at hM
  have HM := hide hM
  have HR := hide (fun (W : World) (hz : Below w.heap.size w W) => rods_ok x s W (h.carry (hz.mono hB) (Nat.le_refl _)) (Nat.le_trans hB hz.size) hf hpf.laid)
  have hrl : (rodsOf x.bars x.runs).length ≤ 20000 := by have := rodsOf_len hpf.laid; omega
  have hrow := hpf.row row hr.1 hr.2
  have hcol := hpf.col col hc.1 hc.2
  have HS := hide (fun (W : World) (A : Option Addr) (c : Nat) (hA : RodsAt W W.heap.size A (rodsOf x.bars x.runs)) => seen_ok x.bars.length (gridOf x sc) A (rodsOf x.bars x.runs) (rodsOf x.bars x.runs).length c row col W hA (Nat.le_refl _) rfl hrl hpf.lo ⟨show 0 ≤ sc by have := hpf.sc; omega, hpf.sc.2⟩ (show 0 ≤ row * sc ∧ row * sc ≤ 1099511627776 by omega) (show 0 ≤ col * sc ∧ col * sc ≤ 1099511627776 by omega) (rods_lines hpf.laid))
  have Hi := hide (show (Tryz.prog.info? 34).map (·.size) = some 19 by kernel_rfl)
  have K0 := hide (Blk.new w 34 (detCells x.mem x.rule s))
  have HW := hide (below_new w (.cells (detCells x.mem x.rule s) 34))
  have H3 := hide h.h3
  have L3 := hide hf.l3
  have m3 := hf.m3
  have Hsm := hide (fun (k : Int) (hk : k ∈ seenAt x sc row col) => seenAt_mem hk)
  have Hsl := hide (seenAt_len x sc row col)
  have Hms := hide (show marksAt x sc row col = (seenAt x sc row col).map (barMark x.bars) from rfl)
  obtain ⟨hr0, hr1⟩ := hr
  obtain ⟨hc0, hc1⟩ := hc
  obtain ⟨SE, hSE⟩ : ∃ SE, SE = seenAt x sc row col := ⟨_, rfl⟩
  obtain ⟨MS, hMS⟩ : ∃ MS, MS = marksAt x sc row col := ⟨_, rfl⟩
  have HSb := hide (fun (W : World) (A : Option Addr) (c : Nat) (hA : RodsAt W W.heap.size A (rodsOf x.bars x.runs)) => (show Calls Tryz.prog 34 #[.agg (gridCells (gridOf x sc)), .slice A (rodsOf x.bars x.runs).length c, .int .i64 row, .int .i64 col] W fun e w' => ∃ A' c', e = .returned (.slice A' SE.length c') ∧ Ints w' w'.heap.size A' SE ∧ Below W.heap.size W w' by rw [hSE]; exact HS.out W A c hA))
  rw [← hSE] at Hsm Hsl Hms
  rw [← hMS] at Hms ⊢
  generalize rodsOf x.bars x.runs = RO at *
  generalize gridOf x sc = g at *
  obtain ⟨⟨g1, g2, g3⟩, g4, g5, g6⟩ := g
  simp only at hr1 hc1 HSb
  have d1 : decide (row < 0) = false := by simp; omega
  have d2 : decide (g5 ≤ row) = false := by simp; omega
  have d3 : decide (col < 0) = false := by simp; omega
  have d4 : decide (g6 ≤ col) = false := by simp; omega
  obtain ⟨mem, bars, runs, laps, dems, rule⟩ := x
  obtain ⟨a1, n1, c1, a2, n2, c2, a3, n3, c3, a4, n4, c4, a5, n5, c5, a6, n6, c6⟩ := s
  obtain ⟨name, boxes, holes, cover, agg, poker⟩ := mem
  obtain ⟨r1, r2, r3, r4, r5, r6, r7, r8, r9⟩ := rule
  simp only [detCells] at K0 HW
  simp only at H3 L3 m3 Hsm Hsl Hms
  clear h hf he hM hpf hrl hrow hcol HS hSE hMS hr0 hr1 hc0 hc1
  show Calls Tryz.prog 21 #[.agg #[.string name, .slice a1 n1 c1, .slice a2 n2 c2, .int .i64 cover, .int .i64 agg, .int .i64 poker, .slice a3 n3 c3, .slice a4 n4 c4, .slice a5 n5 c5, .slice a6 n6 c6, .int .i64 r1, .int .i64 r2, .int .i64 r3, .int .i64 r4, .int .i64 r5, .int .i64 r6, .int .i64 r7, .int .i64 r8, .int .i64 r9], .int .i64 sc, .int .i64 row, .int .i64 col] w _
  go_enter Tryz.func21, Tryz.ntmps21
  go_wp2_with (refine wpList_load_row rfl 34 (.tmp 4) rfl w.heap.size rfl 34 _ (0, 0) _ K0.out Tryz.underlying34 rfl Hi.out ?_)
  refine (HM.out _ HW.out).mono ?_
  rintro e w2 ⟨rfl, hb2⟩
  have K0 := hide (K0.out.keep hb2)
  have HW2 := hide (below_step HW.out hb2 (Nat.le_refl _))
  have KG := hide (Blk.new w2 84 #[.int .i64 g1, .int .i64 g2, .int .i64 g3, .int .i64 g4, .int .i64 g5, .int .i64 g6])
  have K1 := hide (K0.out.alloc (.cells #[.int .i64 g1, .int .i64 g2, .int .i64 g3, .int .i64 g4, .int .i64 g5, .int .i64 g6] 84))
  have HW3 := hide (HW2.out.alloc HW2.out.size (.cells #[.int .i64 g1, .int .i64 g2, .int .i64 g3, .int .i64 g4, .int .i64 g5, .int .i64 g6] 84))
  clear hb2 HM K0 HW
  go_wp2_with (refine wpList_load_row rfl 34 (.tmp 4) rfl w.heap.size rfl 34 _ (0, 0) _ K1.out Tryz.underlying34 rfl Hi.out ?_)
  refine (HR.out _ HW3.out).mono ?_
  rintro e w4 ⟨A4, c4', rfl, hro, hb4⟩
  have K1 := hide (K1.out.keep hb4)
  have KG := hide (KG.out.keep hb4)
  have HW4 := hide (below_step HW3.out hb4 (Nat.le_refl _))
  have HSs := hide (HSb.out w4 A4 c4' hro)
  have k0 := KG.out.cell 0
  have k1 := KG.out.cell 1
  have k2 := KG.out.cell 2
  have k3 := KG.out.cell 3
  have k4 := KG.out.cell 4
  have k5 := KG.out.cell 5
  simp at k0 k1 k2 k3 k4 k5
  have lg := KG.out.lt
  clear hb4 hro HR HW2 HW3 HSb Hi
  go_wp2_with fail
  refine HSs.out.mono ?_
  rintro e w5 ⟨A5, c5', rfl, hse, hb5⟩
  have K1 := hide (K1.out.keep hb5)
  have HW5 := hide (below_step HW4.out hb5 (Nat.le_refl _))
  have Hse := hide hse
  clear hb5 hse HSs KG k0 k1 k2 k3 k4 k5 lg HW4
  have hsl6 : SE.length ≤ 60000 := by
    have := Hsl.out
    have := L3.out
    omega
  go_wp2_with fail
  go_loopw [13, 59] (fun v iv wr => ∃ k : Nat, k ≤ SE.length ∧ iv = .int .i64 k ∧ (∃ acc : List ByteArray, Row wr w5.heap.size 9 1 encSt v acc ∧ Hid (acc = (SE.take k).map (barMark bars))) ∧ Below w5.heap.size w5 wr) (fun _ iv _ => SE.length - (intOf iv).toNat)
  case atStart => exact ⟨0, Nat.zero_le _, rfl, ⟨[], Row.nil _ _ _ _ _, hide rfl⟩, Below.refl _ _⟩
  case round =>
    obtain ⟨k, hk, rfl, ⟨acc, hrow, hacc⟩, hbr⟩ := hrel
    obtain ⟨A0, c0, rfl⟩ := hrow.val
    have hal : acc.length ≤ 1000000 := by
      have h9 := Hsl.out
      have h8 := L3.out
      rw [hacc.out, List.length_map, List.length_take]
      omega
    have Hrow := hide hrow
    by_cases hlt : k < SE.length
    · obtain ⟨b, off, q, rfl, hbl, hx, e0⟩ := Ints.get (k := k) (Hse.out.carry hbr hbr.size) hlt
      have hq := Hsm.out q (mem_of_get hx)
      obtain ⟨q0, hq1⟩ := hq
      obtain ⟨j, rfl⟩ := Int.eq_ofNat_of_zero_le q0
      have HWr := hide (below_step HW5.out hbr (Nat.le_refl _))
      obtain ⟨b3, off3, y, A', c', rfl, hbl3, hy, _, f0, f1, f2, f3, f4⟩ := BarsAt.get (k := j) (H3.out.carry (HWr.out.mono hB) (Nat.le_refl _)) (by omega)
      have Hn := hide (show (SE.take (k + 1)).map (barMark bars) = acc ++ [y.mark] by
        rw [take_snoc' hx, List.map_append, hacc.out, List.map_singleton]
        simp [barMark, hy])
      have hbw : b3 < wr.heap.size := by have := HWr.out.size; omega
      have kk := K1.out.below hbr K1.out.lt
      have e6 := kk.cell 6
      simp at e6
      have lk := kk.lt
      have hjn : j < n3 := by have := L3.out; omega
      have hs5 := hbr.size
      have Hbr := hide hbr
      have i0 : (0 : Int) ≤ (j : Int) := by omega
      clear hx hbl hbl3 hy q0 hq1 kk hrow hbr f1 f2 f3 f4
      go_wp2_with (at_builtin; refine wpList_append1 rfl (.tmp 63) (.tmp 70) 56 rfl w5.heap.size 9 (.string .empty) 1 16 encSt Tryz.underlying56 (by kernel_rfl) rfl (by omega) encSt_len encSt_one _ acc y.mark rfl (Hrow.out.alloc _) _ rfl (Blk.new wr _ _) hal (by omega) (le_alloc hs5 _) ?_; intro A9 c9 w9 hrow9 hb9 hkeep9)
      go_roundw
      case rel => exact ⟨k + 1, by omega, by go_num, ⟨acc ++ [y.mark], by simpa using hrow9, hide Hn.out.symm⟩, (Hbr.out.alloc hs5 _).trans hb9⟩
      case measure => simp [intOf]; omega
    · obtain rfl : k = SE.length := by omega
      have hf : acc = MS := by rw [hacc.out, List.take_length, Hms.out]
      have hlen := hide (show MS.length = acc.length by rw [hf])
      have Hr := hide (show StrsAt wr wr.heap.size A0 MS by rw [← hf]; exact Row.read Hrow.out encSt_len (by omega))
      have Hb := hide (below_step HW5.out hbr (Nat.le_refl _))
      clear hf hacc hrow Hrow hbr
      generalize acc.length = m at *
      go_wp2_with fail
      go_ret2
      exact ⟨A0, c0, by rw [hlen.out]; rfl, Hr.out, Hb.out⟩
end Go.Proofs.YtpmipoljnchheaaGreat
