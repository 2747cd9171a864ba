/- Boxes: coordinates, ends, whether a box is valid; solids and members. Solids and members: whether they are valid; the hull of boxes. Step functions and demands: whether they are valid. Turns: directions of axes, the images of points. -/
import Derived.Test.YtpmipoljnchheaaGreatMab
import Derived.Test.YtpmipoljnchheaaGreatMaa
import Derived.Deep.QuietTactic
import Derived.IntWalk
import Derived.Deep.RegionWith
namespace Go.Proofs.YtpmipoljnchheaaGreat
open Go.RowKit

abbrev bx (b : BoxD) : Value := .agg #[.int .i64 b.lo.1, .int .i64 b.lo.2.1, .int .i64 b.lo.2.2, .int .i64 b.hi.1, .int .i64 b.hi.2.1, .int .i64 b.hi.2.2]
theorem at3_0 (a b c : Value) (w : World) : (Instr.index 234 (.agg #[a, b, c]) (.int .i64 0)).run Tryz.prog w = .ok a w := by kernel_rfl
theorem at3_1 (a b c : Value) (w : World) : (Instr.index 234 (.agg #[a, b, c]) (.int .i64 1)).run Tryz.prog w = .ok b w := by kernel_rfl
theorem at3_2 (a b c : Value) (w : World) : (Instr.index 234 (.agg #[a, b, c]) (.int .i64 2)).run Tryz.prog w = .ok c w := by kernel_rfl
set_option maxHeartbeats 400000 in
theorem coords_any (x y z : Int) (w : World) :
    Calls Tryz.prog 184 #[.agg #[.int .i64 x, .int .i64 y, .int .i64 z]] w fun e w' => e = .returned (.agg #[.int .i64 x, .int .i64 y, .int .i64 z]) ∧ Below w.heap.size w w' := by
  go_enter Tryz.func184, Tryz.ntmps184
  go_wp2_with fail
  refine bodyPost_ret (results_c rfl rfl (Blk.new1 w _ _ _) Tryz.underlying234 rfl (by kernel_rfl)) rfl ?_
  exact ⟨rfl, below_new2 w _ _⟩

set_option maxHeartbeats 1000000 in
theorem ends0_any (b : BoxD) (w : World) :
    Calls Tryz.prog 158 #[bx b, .int .i64 0] w fun e w' => e = .returned (.tuple #[.int .i64 b.lo.1, .int .i64 b.hi.1]) ∧ Below w.heap.size w w' := by
  obtain ⟨⟨x, y, z⟩, ⟨x2, y2, z2⟩⟩ := b
  have i0 := fun (a b c : Value) (w : World) => at3_0 a b c w
  go_enter Tryz.func158, Tryz.ntmps158
  go_wp2_with fail
  obtain ⟨w1, hw1⟩ : ∃ w1, w1 = w.alloc (.cells #[.int .i64 x, .int .i64 y, .int .i64 z, .int .i64 x2, .int .i64 y2, .int .i64 z2] 73) := ⟨_, rfl⟩
  have hb := Blk.new w 73 #[.int .i64 x, .int .i64 y, .int .i64 z, .int .i64 x2, .int .i64 y2, .int .i64 z2]
  have hw := hide (below_new w (.cells #[.int .i64 x, .int .i64 y, .int .i64 z, .int .i64 x2, .int .i64 y2, .int .i64 z2] 73))
  rw [← hw1] at hb hw ⊢
  have c0 := cell_regrown (hb.cell 0)
  have c1 := cell_regrown (hb.cell 1)
  have c2 := cell_regrown (hb.cell 2)
  have c3 := cell_regrown (hb.cell 3)
  have c4 := cell_regrown (hb.cell 4)
  have c5 := cell_regrown (hb.cell 5)
  clear hb hw1
  refine wp_region_quiet_below (by kernel_rfl) (by kernel_rfl) ?_
  repeat (go_big_quiet_step (first
    | (go_at_call 184; exact Calls.regrown_of (coords_any _ _ _ _))))
  refine wpQuiet_nil ?_
  intro w2 hw'
  have hbq := hide (show Below _ _ w2 by obtain ⟨p, rfl⟩ := hw'; exact below_regrown _ _ _)
  clear hw' c0 c1 c2 c3 c4 c5
  go_wp2_with fail
  go_ret2
  exact ⟨rfl, below_step hw.out hbq.out (Nat.le_refl _)⟩
set_option maxHeartbeats 1000000 in
theorem ends1_any (b : BoxD) (w : World) :
    Calls Tryz.prog 158 #[bx b, .int .i64 1] w fun e w' => e = .returned (.tuple #[.int .i64 b.lo.2.1, .int .i64 b.hi.2.1]) ∧ Below w.heap.size w w' := by
  obtain ⟨⟨x, y, z⟩, ⟨x2, y2, z2⟩⟩ := b
  have i0 := fun (a b c : Value) (w : World) => at3_1 a b c w
  go_enter Tryz.func158, Tryz.ntmps158
  go_wp2_with fail
  obtain ⟨w1, hw1⟩ : ∃ w1, w1 = w.alloc (.cells #[.int .i64 x, .int .i64 y, .int .i64 z, .int .i64 x2, .int .i64 y2, .int .i64 z2] 73) := ⟨_, rfl⟩
  have hb := Blk.new w 73 #[.int .i64 x, .int .i64 y, .int .i64 z, .int .i64 x2, .int .i64 y2, .int .i64 z2]
  have hw := hide (below_new w (.cells #[.int .i64 x, .int .i64 y, .int .i64 z, .int .i64 x2, .int .i64 y2, .int .i64 z2] 73))
  rw [← hw1] at hb hw ⊢
  have c0 := cell_regrown (hb.cell 0)
  have c1 := cell_regrown (hb.cell 1)
  have c2 := cell_regrown (hb.cell 2)
  have c3 := cell_regrown (hb.cell 3)
  have c4 := cell_regrown (hb.cell 4)
  have c5 := cell_regrown (hb.cell 5)
  clear hb hw1
  refine wp_region_quiet_below (by kernel_rfl) (by kernel_rfl) ?_
  repeat (go_big_quiet_step (first
    | (go_at_call 184; exact Calls.regrown_of (coords_any _ _ _ _))))
  refine wpQuiet_nil ?_
  intro w2 hw'
  have hbq := hide (show Below _ _ w2 by obtain ⟨p, rfl⟩ := hw'; exact below_regrown _ _ _)
  clear hw' c0 c1 c2 c3 c4 c5
  go_wp2_with fail
  go_ret2
  exact ⟨rfl, below_step hw.out hbq.out (Nat.le_refl _)⟩
set_option maxHeartbeats 1000000 in
theorem ends2_any (b : BoxD) (w : World) :
    Calls Tryz.prog 158 #[bx b, .int .i64 2] w fun e w' => e = .returned (.tuple #[.int .i64 b.lo.2.2, .int .i64 b.hi.2.2]) ∧ Below w.heap.size w w' := by
  obtain ⟨⟨x, y, z⟩, ⟨x2, y2, z2⟩⟩ := b
  have i0 := fun (a b c : Value) (w : World) => at3_2 a b c w
  go_enter Tryz.func158, Tryz.ntmps158
  go_wp2_with fail
  obtain ⟨w1, hw1⟩ : ∃ w1, w1 = w.alloc (.cells #[.int .i64 x, .int .i64 y, .int .i64 z, .int .i64 x2, .int .i64 y2, .int .i64 z2] 73) := ⟨_, rfl⟩
  have hb := Blk.new w 73 #[.int .i64 x, .int .i64 y, .int .i64 z, .int .i64 x2, .int .i64 y2, .int .i64 z2]
  have hw := hide (below_new w (.cells #[.int .i64 x, .int .i64 y, .int .i64 z, .int .i64 x2, .int .i64 y2, .int .i64 z2] 73))
  rw [← hw1] at hb hw ⊢
  have c0 := cell_regrown (hb.cell 0)
  have c1 := cell_regrown (hb.cell 1)
  have c2 := cell_regrown (hb.cell 2)
  have c3 := cell_regrown (hb.cell 3)
  have c4 := cell_regrown (hb.cell 4)
  have c5 := cell_regrown (hb.cell 5)
  clear hb hw1
  refine wp_region_quiet_below (by kernel_rfl) (by kernel_rfl) ?_
  repeat (go_big_quiet_step (first
    | (go_at_call 184; exact Calls.regrown_of (coords_any _ _ _ _))))
  refine wpQuiet_nil ?_
  intro w2 hw'
  have hbq := hide (show Below _ _ w2 by obtain ⟨p, rfl⟩ := hw'; exact below_regrown _ _ _)
  clear hw' c0 c1 c2 c3 c4 c5
  go_wp2_with fail
  go_ret2
  exact ⟨rfl, below_step hw.out hbq.out (Nat.le_refl _)⟩
theorem ends_any (b : BoxD) (k : Nat) (p : Int × Int) (h : (axes b)[k]? = some p) (w : World) :
    Calls Tryz.prog 158 #[bx b, .int .i64 k] w fun e w' => e = .returned (.tuple #[.int .i64 p.1, .int .i64 p.2]) ∧ Below w.heap.size w w' := by
  rcases k with _ | _ | _ | k
  · simp [axes] at h; subst h; exact ends0_any b w
  · simp [axes] at h; subst h; exact ends1_any b w
  · simp [axes] at h; subst h; exact ends2_any b w
  · simp [axes] at h
set_option maxHeartbeats 1000000 in
theorem boxValid_any (b : BoxD) (w : World) :
    Calls Tryz.prog 119 #[bx b] w fun e w' => e = .returned (.bool (boxOk b)) ∧ Below w.heap.size w w' := by
  have HE := hide (fun (k : Nat) (p : Int × Int) (h : (axes b)[k]? = some p) (w : World) => ends_any b k p h w)
  have HL := hide (show (axes b).length = 3 from rfl)
  have Hok := hide (show boxOk b = ((axes b).drop 0).all axisFine from rfl)
  obtain ⟨⟨x, y, z⟩, ⟨x2, y2, z2⟩⟩ := b
  obtain ⟨ax, hax⟩ : ∃ ax, ax = axes ⟨(x, y, z), (x2, y2, z2)⟩ := ⟨_, rfl⟩
  obtain ⟨rb, hrb⟩ : ∃ rb, rb = boxOk ⟨(x, y, z), (x2, y2, z2)⟩ := ⟨_, rfl⟩
  rw [← hax] at HE HL Hok
  rw [← hrb] at Hok ⊢
  clear hax hrb
  go_enter Tryz.func119, Tryz.ntmps119
  go_wp2_with fail
  obtain ⟨w1, hw1⟩ : ∃ w1, w1 = w.alloc (.cells #[.int .i64 x, .int .i64 y, .int .i64 z, .int .i64 x2, .int .i64 y2, .int .i64 z2] 73) := ⟨_, rfl⟩
  have hb := hide (Blk.new w 73 #[.int .i64 x, .int .i64 y, .int .i64 z, .int .i64 x2, .int .i64 y2, .int .i64 z2])
  have hw := hide (below_new w (.cells #[.int .i64 x, .int .i64 y, .int .i64 z, .int .i64 x2, .int .i64 y2, .int .i64 z2] 73))
  rw [← hw1] at hb hw ⊢
  clear hw1
  go_loopw [6] (fun i wr => ∃ k : Nat, k ≤ 3 ∧ i = .int .i64 k ∧ Hid (rb = (ax.drop k).all axisFine) ∧ Below w1.heap.size w1 wr) (fun i _ => 3 - (intOf i).toNat)
  case atStart => exact ⟨0, Nat.zero_le _, rfl, Hok, Below.refl _ _⟩
  case round =>
    obtain ⟨k, hk, rfl, hq, hbr⟩ := hrel
    by_cases hlt : k < 3
    · obtain ⟨p, hp⟩ : ∃ p, ax[k]? = some p := ⟨_, List.getElem?_eq_getElem (by rw [HL.out]; exact hlt)⟩
      have hbk := hb.out.below hbr hb.out.lt
      have c0 := hbk.cell 0
      have c1 := hbk.cell 1
      have c2 := hbk.cell 2
      have c3 := hbk.cell 3
      have c4 := hbk.cell 4
      have c5 := hbk.cell 5
      simp at c0 c1 c2 c3 c4 c5
      have He := hide (HE.out k p hp wr)
      have Hn := hide (hq.out.trans (by rw [drop_at' hp, List.all_cons]))
      clear hbk hp hq
      obtain ⟨lo, hi⟩ := p
      simp only at He Hn
      cases ha : axisOk lo hi
      · have hres := hide (show rb = false by rw [Hn.out, axisFine, ha]; rfl)
        have hcase : decide (hi < lo) = true ∨ (decide (hi < lo) = false ∧ decide (lo < -1048576) = true) ∨ (decide (hi < lo) = false ∧ decide (lo < -1048576) = false ∧ decide (1048576 < hi) = true) := by
          simp only [axisOk, Bool.and_eq_false_iff, decide_eq_false_iff_not] at ha
          simp only [decide_eq_true_eq, decide_eq_false_iff_not]
          omega
        clear ha Hn
        rcases hcase with q0 | ⟨q0, q1⟩ | ⟨q0, q1, q2⟩
        all_goals
          go_wp2_with (go_at_call 158; refine He.out.mono ?_; rintro e w2 ⟨rfl, hb2⟩)
          go_ret
          exact ⟨ret_bool hres.out.symm, below_step hw.out (hbr.trans (hb2.mono hbr.size)) (Nat.le_refl _)⟩
      · have Hn2 := hide (Hn.out.trans (by rw [axisFine, ha, Bool.true_and]))
        have q0 : decide (hi < lo) = false := by simp [axisOk] at ha; simp; omega
        have q1 : decide (lo < -1048576) = false := by simp [axisOk] at ha; simp; omega
        have q2 : decide (1048576 < hi) = false := by simp [axisOk] at ha; simp; omega
        clear ha Hn
        go_wp2_with (go_at_call 158; refine He.out.mono ?_; rintro e w2 ⟨rfl, hb2⟩)
        have hb3 := hide (hbr.trans (hb2.mono hbr.size))
        clear hb2
        go_roundw
        case rel => exact ⟨k + 1, by omega, by go_num, Hn2, hb3.out⟩
        case measure => simp [intOf]; omega
    · obtain rfl : k = 3 := by omega
      have hfull := hide (show rb = true by rw [hq.out, ← HL.out, List.drop_length]; rfl)
      go_wp2_with fail
      go_ret
      exact ⟨ret_bool hfull.out.symm, below_step hw.out hbr (Nat.le_refl _)⟩
end Go.Proofs.YtpmipoljnchheaaGreat
namespace Go.Proofs.YtpmipoljnchheaaGreat
open Go.RowKit

def someOf {α : Type} (p : α → Bool) (l : List α) : Bool := l.any p
set_option maxHeartbeats 1000000 in
theorem indexFuncBox_any (A : Option Addr) (l : List BoxD) (n c : Nat) (fid : FuncId) (p : BoxD → Bool) (w : World) {B : Nat} (h : BoxesAt w B A l) (hB : B ≤ w.heap.size) (hn : n = l.length) (hm : n ≤ 300000)
    (hc : ∀ args w, (callFunc fid args).run Tryz.prog w = .ok (.enter fid args) w)
    (hf : ∀ x (W : World), x ∈ l → Calls Tryz.prog fid #[bx x] W fun e W' => e = .returned (.bool (p x)) ∧ Below W.heap.size W W') :
    Calls Tryz.prog 157 #[.slice A n c, .func (.func fid) #[] #[]] w fun e w' => e = .returned (.int .i64 (idx p l)) ∧ Below w.heap.size w w' := by
  have Hf := hide hf
  have hn' := hide hn
  have Hs := hide h
  clear hf hn h
  go_enter Tryz.func157, Tryz.ntmps157
  go_wp2_with fail
  go_loopw [8] (fun i wr => ∃ k : Nat, k ≤ n ∧ i = .int .i64 k ∧ NoneTo p l k ∧ Below w.heap.size w wr) (fun i _ => n - (intOf i).toNat)
  case atStart => exact ⟨0, Nat.zero_le _, rfl, NoneTo.zero _ _, Below.refl _ _⟩
  case round =>
    obtain ⟨k, hk, rfl, hw, hb⟩ := hrel
    by_cases hlt : k < n
    · obtain ⟨b, off, x, rfl, hbl, hx, h0, h1, h2, h3, h4, h5⟩ := BoxesAt.get (k := k) (SlOf.carry (Flat.carried _) Hs.out (hb.mono hB) (Nat.le_refl _)) (by rw [← hn'.out]; exact hlt)
      have Hx := hide hx
      clear hx hbl
      go_wp2_with fail
      refine (Hf.out x _ (mem_of_get Hx.out)).mono ?_
      rintro e w1 ⟨rfl, hb1⟩
      clear h0 h1 h2 h3 h4 h5
      have hb2 := below_step hb hb1 (Nat.le_refl _)
      cases hp : p x
      · have Hp := hide hp
        clear hp
        go_wp2_with fail
        go_roundw
        case rel => exact ⟨k + 1, by omega, by go_num, hw.succ Hx.out Hp.out, hb2⟩
        case measure => simp [intOf]; omega
      · have Hp := hide hp
        clear hp
        go_wp2_with fail
        go_ret
        exact ⟨ret_int (hw.hit Hx.out Hp.out).symm, hb2⟩
    · obtain rfl : k = n := by omega
      go_wp2_with fail
      go_ret
      exact ⟨ret_int (NoneTo.miss (by rw [← hn'.out]; exact hw)).symm, hb⟩
set_option maxHeartbeats 400000 in
theorem containsFuncBox_any (A : Option Addr) (l : List BoxD) (n c : Nat) (fid : FuncId) (p : BoxD → Bool) (w : World) {B : Nat} (h : BoxesAt w B A l) (hB : B ≤ w.heap.size) (hn : n = l.length) (hm : n ≤ 300000)
    (hc : ∀ args w, (callFunc fid args).run Tryz.prog w = .ok (.enter fid args) w)
    (hf : ∀ x (W : World), x ∈ l → Calls Tryz.prog fid #[bx x] W fun e W' => e = .returned (.bool (p x)) ∧ Below W.heap.size W W') :
    Calls Tryz.prog 117 #[.slice A n c, .func (.func fid) #[] #[]] w fun e w' => e = .returned (.bool (someOf p l)) ∧ Below w.heap.size w w' := by
  have Hf := hide hf
  have hn' := hide hn
  have Hc := hide hc
  clear hf hn hc
  go_enter Tryz.func117, Tryz.ntmps117
  go_wp2_with fail
  refine (indexFuncBox_any A l n c fid p w h hB hn'.out hm Hc.out Hf.out).mono ?_
  rintro e w1 ⟨rfl, hb⟩
  go_wp2_with fail
  go_ret
  exact ⟨ret_bool (by rw [idx_any]; rfl), hb⟩

set_option maxHeartbeats 1000000 in
theorem thick_any (b : BoxD) (w : World) :
    Calls Tryz.prog 126 #[bx b] w fun e w' => e = .returned (.bool (thickOk b)) ∧ Below w.heap.size w w' := by
  have Hv := hide (fun (w : World) => boxValid_any b w)
  cases hv : boxOk b
  · have hr := hide (show thickOk b = false by simp [thickOk, hv])
    rw [hv] at Hv
    clear hv
    obtain ⟨⟨x, y, z⟩, ⟨x2, y2, z2⟩⟩ := b
    go_enter Tryz.func126, Tryz.ntmps126
    go_wp2_with (go_at_call 119; refine (Hv.out _).mono ?_; rintro e w2 ⟨rfl, hb2⟩)
    go_ret
    exact ⟨ret_bool hr.out.symm, below_step (below_new w _) hb2 (Nat.le_refl _)⟩
  · have hr : thickOk b = (decide (b.lo.1 < b.hi.1) && decide (b.lo.2.1 < b.hi.2.1) && decide (b.lo.2.2 < b.hi.2.2)) := by simp [thickOk, hv]
    rw [hv] at Hv
    clear hv
    obtain ⟨⟨x, y, z⟩, ⟨x2, y2, z2⟩⟩ := b
    simp only at hr
    have hcase : (decide (x < x2) = false ∧ thickOk ⟨(x, y, z), (x2, y2, z2)⟩ = false) ∨ (decide (x < x2) = true ∧ decide (y < y2) = false ∧ thickOk ⟨(x, y, z), (x2, y2, z2)⟩ = false) ∨ (decide (x < x2) = true ∧ decide (y < y2) = true ∧ decide (z < z2) = false ∧ thickOk ⟨(x, y, z), (x2, y2, z2)⟩ = false) ∨ (decide (x < x2) = true ∧ decide (y < y2) = true ∧ decide (z < z2) = true ∧ thickOk ⟨(x, y, z), (x2, y2, z2)⟩ = true) := by
      rw [hr]
      cases decide (x < x2) <;> cases decide (y < y2) <;> cases decide (z < z2) <;> simp
    clear hr
    rcases hcase with ⟨q0, hR⟩ | ⟨q0, q1, hR⟩ | ⟨q0, q1, q2, hR⟩ | ⟨q0, q1, q2, hR⟩
    all_goals
      have HR := hide hR
      have Hb := hide (Blk.new w 73 #[.int .i64 x, .int .i64 y, .int .i64 z, .int .i64 x2, .int .i64 y2, .int .i64 z2])
      clear hR
      go_enter Tryz.func126, Tryz.ntmps126
      go_wp2_with (go_at_call 119; refine (Hv.out _).mono ?_; rintro e w2 ⟨rfl, hb2⟩; have hb3 := Hb.out.keep hb2; have c0 := hb3.cell 0; have c1 := hb3.cell 1; have c2 := hb3.cell 2; have c3 := hb3.cell 3; have c4 := hb3.cell 4; have c5 := hb3.cell 5; simp at c0 c1 c2 c3 c4 c5; clear hb3)
      go_ret
      exact ⟨ret_bool HR.out.symm, below_step (below_new w _) hb2 (Nat.le_refl _)⟩
def thin (b : BoxD) : Bool := !thickOk b
set_option maxHeartbeats 400000 in
theorem thin_any (b : BoxD) (w : World) :
    Calls Tryz.prog 125 #[bx b] w fun e w' => e = .returned (.bool (thin b)) ∧ Below w.heap.size w w' := by
  have Hv := hide (fun (w : World) => thick_any b w)
  obtain ⟨t, ht⟩ : ∃ t, t = thickOk b := ⟨_, rfl⟩
  have Hr := hide (show thin b = !t by rw [thin, ht])
  rw [← ht] at Hv
  clear ht
  obtain ⟨⟨x, y, z⟩, ⟨x2, y2, z2⟩⟩ := b
  go_enter Tryz.func125, Tryz.ntmps125
  go_wp2_with (go_at_call 126; refine (Hv.out _).mono ?_; rintro e w2 ⟨rfl, hb2⟩)
  go_ret
  exact ⟨ret_bool Hr.out.symm, below_step (below_new w _) hb2 (Nat.le_refl _)⟩
def badBox (b : BoxD) : Bool := !boxOk b
set_option maxHeartbeats 400000 in
theorem badBox_any (b : BoxD) (w : World) :
    Calls Tryz.prog 118 #[bx b] w fun e w' => e = .returned (.bool (badBox b)) ∧ Below w.heap.size w w' := by
  have Hv := hide (fun (w : World) => boxValid_any b w)
  obtain ⟨t, ht⟩ : ∃ t, t = boxOk b := ⟨_, rfl⟩
  have Hr := hide (show badBox b = !t by rw [badBox, ht])
  rw [← ht] at Hv
  clear ht
  obtain ⟨⟨x, y, z⟩, ⟨x2, y2, z2⟩⟩ := b
  go_enter Tryz.func118, Tryz.ntmps118
  go_wp2_with (go_at_call 119; refine (Hv.out _).mono ?_; rintro e w2 ⟨rfl, hb2⟩)
  go_ret
  exact ⟨ret_bool Hr.out.symm, below_step (below_new w _) hb2 (Nat.le_refl _)⟩

theorem all_some {α : Type} (p : α → Bool) (l : List α) : l.all p = !someOf (fun x => !p x) l := by
  induction l with
  | nil => rfl
  | cons x r ih => simp only [List.all_cons, someOf, List.any_cons, ih, Bool.not_or, Bool.not_not]
/-- A solid's value: its two lists. -/
abbrev sol (A1 : Option Addr) (n1 c1 : Nat) (A2 : Option Addr) (n2 c2 : Nat) : Value := .agg #[.slice A1 n1 c1, .slice A2 n2 c2]
set_option maxHeartbeats 1000000 in
theorem solidValid_any (bs hs : List BoxD) (A1 A2 : Option Addr) (n1 n2 c1 c2 : Nat) (w : World) {B : Nat} (h1 : BoxesAt w B A1 bs) (h2 : BoxesAt w B A2 hs) (hB : B ≤ w.heap.size) (hn1 : n1 = bs.length) (hn2 : n2 = hs.length) :
    Calls Tryz.prog 90 #[sol A1 n1 c1 A2 n2 c2] w fun e w' => e = .returned (.bool (solidOk bs hs)) ∧ Below w.heap.size w w' := by
  have Hn1 := hide hn1
  have Hn2 := hide hn2
  have H1 := hide h1
  have H2 := hide h2
  have hr : solidOk bs hs = (decide (1 ≤ n1) && decide (n1 ≤ 20) && decide (n2 ≤ 20) && !someOf thin bs && !someOf thin hs) := by
    rw [solidOk, all_some, all_some, hn1, hn2]
    rfl
  have Hr := hide hr
  clear hn1 hn2 h1 h2 hr
  by_cases a1 : n1 < 1
  · have d0 : decide (1 ≤ (n1 : Int)) = false := by simp; omega
    have hres := hide (show solidOk bs hs = false by rw [Hr.out]; simp; omega)
    clear a1
    go_enter Tryz.func90, Tryz.ntmps90
    go_wp2_with fail
    go_ret
    exact ⟨ret_bool hres.out.symm, below_new w _⟩
  have d0 : decide (1 ≤ (n1 : Int)) = true := by simp; omega
  by_cases a2 : 20 < n1
  · have d1 : decide ((n1 : Int) ≤ 20) = false := by simp; omega
    have hres := hide (show solidOk bs hs = false by rw [Hr.out]; simp; omega)
    clear a1 a2
    go_enter Tryz.func90, Tryz.ntmps90
    go_wp2_with fail
    go_ret
    exact ⟨ret_bool hres.out.symm, below_new w _⟩
  have d1 : decide ((n1 : Int) ≤ 20) = true := by simp; omega
  by_cases a3 : 20 < n2
  · have d2 : decide ((n2 : Int) ≤ 20) = false := by simp; omega
    have hres := hide (show solidOk bs hs = false by rw [Hr.out]; simp; omega)
    clear a1 a2 a3
    go_enter Tryz.func90, Tryz.ntmps90
    go_wp2_with fail
    go_ret
    exact ⟨ret_bool hres.out.symm, below_new w _⟩
  have d2 : decide ((n2 : Int) ≤ 20) = true := by simp; omega
  have hr2 : solidOk bs hs = (!someOf thin bs && !someOf thin hs) := by
    rw [Hr.out, show decide (1 ≤ n1) = true by simp; omega, show decide (n1 ≤ 20) = true by simp; omega, show decide (n2 ≤ 20) = true by simp; omega]
    rfl
  have g1 : n1 ≤ 300000 := by omega
  have g2 : n2 ≤ 300000 := by omega
  have HF1 := hide (fun (wz : World) (hz : Below w.heap.size w wz) => containsFuncBox_any A1 bs n1 c1 125 thin wz (H1.out.carry (Flat.carried _) (hz.mono hB) (Nat.le_refl B)) (Nat.le_trans hB hz.size) Hn1.out g1 Tryz.call125 (fun x W _ => thin_any x W))
  have HF2 := hide (fun (wz : World) (hz : Below w.heap.size w wz) => containsFuncBox_any A2 hs n2 c2 125 thin wz (H2.out.carry (Flat.carried _) (hz.mono hB) (Nat.le_refl B)) (Nat.le_trans hB hz.size) Hn2.out g2 Tryz.call125 (fun x W _ => thin_any x W))
  obtain ⟨t1, ht1⟩ : ∃ t, t = someOf thin bs := ⟨_, rfl⟩
  obtain ⟨t2, ht2⟩ : ∃ t, t = someOf thin hs := ⟨_, rfl⟩
  rw [← ht1, ← ht2] at hr2
  rw [← ht1] at HF1
  rw [← ht2] at HF2
  have Hres := hide hr2
  have Hb := hide (Blk.new w 24 #[.slice A1 n1 c1, .slice A2 n2 c2])
  have Hw := hide (below_new w (.cells #[.slice A1 n1 c1, .slice A2 n2 c2] 24))
  clear a1 a2 a3 ht1 ht2 hr2
  cases t1
  · go_enter Tryz.func90, Tryz.ntmps90
    go_wp2_with fail
    refine (HF1.out _ Hw.out).mono ?_
    rintro e w2 ⟨rfl, hb2⟩
    have hb := Hb.out.keep hb2
    have k0 := hb.cell 0
    have k1 := hb.cell 1
    simp at k0 k1
    have Hw2 := hide (below_step Hw.out hb2 (Nat.le_refl _))
    clear hb hb2
    go_wp2_with fail
    refine (HF2.out _ Hw2.out).mono ?_
    rintro e w3 ⟨rfl, hb3⟩
    have Hw3 := hide (below_step Hw2.out hb3 (Nat.le_refl _))
    clear hb3 k0 k1
    go_wp2_with fail
    go_ret
    exact ⟨ret_bool (by rw [Hres.out]; simp), Hw3.out⟩
  · go_enter Tryz.func90, Tryz.ntmps90
    go_wp2_with fail
    refine (HF1.out _ Hw.out).mono ?_
    rintro e w2 ⟨rfl, hb2⟩
    have Hw2 := hide (below_step Hw.out hb2 (Nat.le_refl _))
    clear hb2
    go_wp2_with fail
    go_ret
    exact ⟨ret_bool (by rw [Hres.out]; simp), Hw2.out⟩
set_option maxHeartbeats 400000 in
theorem within_any (n lo hi : Int) (w : World) :
    Calls Tryz.prog 138 #[.int .i64 n, .int .i64 lo, .int .i64 hi] w fun e w' => e = .returned (.bool (within n lo hi)) ∧ w = w' := by
  cases h0 : decide (lo ≤ n) <;> cases h1 : decide (n ≤ hi)
  all_goals
    have hr := hide (show within n lo hi = _ by rw [within, h0, h1])
    go_enter Tryz.func138, Tryz.ntmps138
    go_wp2_with fail
    go_ret
    exact ⟨ret_bool (by rw [hr.out]; rfl), rfl⟩

/-- A member's value. -/
abbrev memV (m : MemD) (A1 : Option Addr) (n1 c1 : Nat) (A2 : Option Addr) (n2 c2 : Nat) : Value := .agg #[.string m.name, .slice A1 n1 c1, .slice A2 n2 c2, .int .i64 m.cover, .int .i64 m.aggregate, .int .i64 m.poker]
set_option maxHeartbeats 2000000 in
theorem member_any (m : MemD) (A1 A2 : Option Addr) (n1 n2 c1 c2 : Nat) (w : World) {B : Nat} (h1 : BoxesAt w B A1 m.boxes) (h2 : BoxesAt w B A2 m.holes) (hB : B ≤ w.heap.size) (hn1 : n1 = m.boxes.length) (hn2 : n2 = m.holes.length) (hm : m.name.size ≤ maxLen) :
    Calls Tryz.prog 94 #[memV m A1 n1 c1 A2 n2 c2] w fun e w' => e = .returned (.bool (memOk m)) ∧ Below w.heap.size w w' := by
  have HV := hide (fun (wz : World) (hz : Below w.heap.size w wz) => solidValid_any m.boxes m.holes A1 A2 n1 n2 c1 c2 wz (h1.carry (Flat.carried _) (hz.mono hB) (Nat.le_refl B)) (h2.carry (Flat.carried _) (hz.mono hB) (Nat.le_refl B)) (Nat.le_trans hB hz.size) hn1 hn2)
  have HN := hide (fun (wz : World) => isName_any m.name wz hm)
  obtain ⟨tn, htn⟩ : ∃ t, t = isName m.name := ⟨_, rfl⟩
  obtain ⟨tv, htv⟩ : ∃ t, t = solidOk m.boxes m.holes := ⟨_, rfl⟩
  obtain ⟨ta, hta⟩ : ∃ t, t = within m.cover 0 200 := ⟨_, rfl⟩
  obtain ⟨tb, htb⟩ : ∃ t, t = within m.aggregate 1 100 := ⟨_, rfl⟩
  obtain ⟨tc, htc⟩ : ∃ t, t = within m.poker 1 200 := ⟨_, rfl⟩
  have Hr := hide (show memOk m = (tn && tv && ta && tb && tc) by rw [memOk, htn, htv, hta, htb, htc])
  have HA := hide (fun (wz : World) => within_any m.cover 0 200 wz)
  have HB := hide (fun (wz : World) => within_any m.aggregate 1 100 wz)
  have HC := hide (fun (wz : World) => within_any m.poker 1 200 wz)
  rw [← htn] at HN
  rw [← htv] at HV
  rw [← hta] at HA
  rw [← htb] at HB
  rw [← htc] at HC
  clear h1 h2 hn1 hn2 htn htv hta htb htc
  obtain ⟨name, boxes, holes, cover, agg, poker⟩ := m
  simp only at HN HV HA HB HC
  have Hb := hide (Blk.new w 26 #[.string name, .slice A1 n1 c1, .slice A2 n2 c2, .int .i64 cover, .int .i64 agg, .int .i64 poker])
  have Hw := hide (below_new w (.cells #[.string name, .slice A1 n1 c1, .slice A2 n2 c2, .int .i64 cover, .int .i64 agg, .int .i64 poker] 26))
  cases tn
  · go_enter Tryz.func94, Tryz.ntmps94
    go_wp2_with (go_at_call 139; refine (HN.out _).mono ?_; rintro e w2 ⟨rfl, rfl⟩)
    go_ret
    exact ⟨ret_bool Hr.out.symm, Hw.out⟩
  cases tv
  · go_enter Tryz.func94, Tryz.ntmps94
    go_wp2_with (first
      | (go_at_call 139; refine (HN.out _).mono ?_; rintro e w2 ⟨rfl, rfl⟩)
      | (go_at_call 90; refine (HV.out _ Hw.out).mono ?_; rintro e w2 ⟨rfl, hb2⟩))
    go_ret
    exact ⟨ret_bool Hr.out.symm, below_step Hw.out hb2 (Nat.le_refl _)⟩
  cases ta <;> cases tb <;> cases tc
  all_goals
    go_enter Tryz.func94, Tryz.ntmps94
    go_wp2_with (first
      | (go_at_call 139; refine (HN.out _).mono ?_; rintro e w2 ⟨rfl, rfl⟩)
      | (go_at_call 90; refine (HV.out _ Hw.out).mono ?_; rintro e w2 ⟨rfl, hb2⟩; have hb3 := Hb.out.keep hb2; have c3 := hb3.cell 3; have c4 := hb3.cell 4; have c5 := hb3.cell 5; simp at c3 c4 c5; clear hb3)
      | (go_at_call 138; (first | (with_reducible refine (HA.out _).mono ?_) | (with_reducible refine (HB.out _).mono ?_) | (with_reducible refine (HC.out _).mono ?_)); rintro e w3 ⟨rfl, rfl⟩))
    go_ret
    exact ⟨ret_bool Hr.out.symm, below_step Hw.out hb2 (Nat.le_refl _)⟩

end Go.Proofs.YtpmipoljnchheaaGreat
namespace Go.Proofs.YtpmipoljnchheaaGreat
open Go.RowKit

theorem SlOf.take {α : Type} {w : World} {B size : Nat} {R : World → Nat → List Value → α → Prop} {A : Option Addr} {l : List α} (h : SlOf w B size R A l) (k : Nat) : SlOf w B size R A (l.take k) := by
  intro hl
  obtain ⟨b, off, hA, hb, hc⟩ := h (by rw [List.length_take] at hl; omega)
  refine ⟨b, off, hA, hb, fun j x hx => ?_⟩
  rw [List.getElem?_take] at hx
  split at hx
  · exact hc j x hx
  · cases hx
/-- A contract that leaves the world alone, met in a quiet region. -/
theorem quiet_eq {P : Program} {f : FuncId} {args : Array Value} {w : World} {n : Nat} {v : Value} (h : Calls P f args (w.drewN n) fun e w' => e = .returned v ∧ w.drewN n = w') :
    Calls P f args (w.drewN n) fun e w'' => e = .returned v ∧ ∃ m, w'' = w.drewN m := h.mono fun _ _ ⟨he, hm⟩ => ⟨he, n, hm.symm⟩
theorem below_drewN' {B : Nat} {a w : World} (h : Below B a w) (n : Nat) : Below B a (w.drewN n) := ⟨h.os, h.tape, h.output, h.size, h.block⟩
set_option maxHeartbeats 400000 in
theorem place_any (n : Int) (w : World) : Calls Tryz.prog 189 #[.int .i64 n] w fun e w' => e = .returned (.bool (coordOk n)) ∧ w = w' := by
  go_enter Tryz.func189, Tryz.ntmps189
  go_wp2
  all_goals
    go_ret
    exact ⟨ret_bool (by rw [Bool.eq_iff_iff]; simp [coordOk]; try omega), rfl⟩
def lastOf (l : List (Int × Int)) (k : Nat) : Option Int := if k = 0 then none else (l[k - 1]?).map (·.1)
theorem stepsFrom_at {l : List (Int × Int)} {k : Nat} {s : Int × Int} (h : l[k]? = some s) (last : Option Int) :
    stepsFrom last (l.drop k) = (coordOk s.1 && within s.2 0 1099511627776 && (match last with | none => true | some p => decide (p < s.1)) && stepsFrom (some s.1) (l.drop (k + 1))) := by
  rw [drop_at' h]
  rfl
set_option maxHeartbeats 4000000 in
set_option maxRecDepth 100000 in
theorem stepsValid_any (A : Option Addr) (l : List (Int × Int)) (n c : Nat) (w : World) {B : Nat} (h : StpsAt w B A l) (hB : B ≤ w.heap.size) (hn : n = l.length) (hm : (n : Int) ≤ 9223372036854775807) :
    Calls Tryz.prog 172 #[.slice A n c] w fun e w' => e = .returned (.bool (stepsOk l)) ∧ Below w.heap.size w w' := by
  have hn' := hide hn
  have Hs := hide h
  by_cases h200 : 200 < n
  · have hr := hide (show stepsOk l = false by simp [stepsOk]; omega)
    have d0 : decide (200 < (n : Int)) = true := by simp; omega
    clear hn h h200
    go_enter Tryz.func172, Tryz.ntmps172
    go_wp2_with fail
    go_ret
    exact ⟨ret_bool hr.out.symm, Below.refl _ _⟩
  have hr := hide (show stepsOk l = stepsFrom (lastOf l 0) (l.drop 0) by simp [stepsOk, lastOf]; omega)
  have d0 : decide (200 < (n : Int)) = false := by simp; omega
  have hn2 : n ≤ 200 := by omega
  clear hn h h200 hm
  go_enter Tryz.func172, Tryz.ntmps172
  go_wp2_with fail
  go_loopw [10] (fun i wr => ∃ k : Nat, k ≤ n ∧ i = .int .i64 k ∧ Hid (stepsOk l = stepsFrom (lastOf l k) (l.drop k)) ∧ Below w.heap.size w wr) (fun i _ => n - (intOf i).toNat)
  case atStart => exact ⟨0, Nat.zero_le _, rfl, hr, Below.refl _ _⟩
  case round =>
    obtain ⟨k, hk, rfl, hq, hbr⟩ := hrel
    by_cases hlt : k < n
    · obtain ⟨b, off, x, hA, hbl, hx, c0, c1⟩ := StpsAt.get (k := k) (Hs.out.carry (Flat.carried _) (hbr.mono hB) (Nat.le_refl B)) (by rw [← hn'.out]; exact hlt)
      subst hA
      have hbw : b < wr.heap.size := by have := hbr.size; omega
      have hs1 := hide (hq.out.trans (stepsFrom_at hx _))
      have Hx := hide hx
      have Hnext := hide (show lastOf l (k + 1) = some x.1 by rw [lastOf, if_neg (by omega), Nat.add_sub_cancel, hx]; rfl)
      have hprev : k = 0 ∨ (0 < k ∧ ∃ p : Int, Hid (lastOf l k = some p) ∧ wr.cell? ⟨b, off + (k - 1) * 2, none⟩ = some (.int .i64 p)) := by
        rcases Nat.eq_zero_or_pos k with h0 | h0
        · exact .inl h0
        · obtain ⟨b', off', y, hA', _, hy, e0, _⟩ := StpsAt.get (k := k - 1) (Hs.out.carry (Flat.carried _) (hbr.mono hB) (Nat.le_refl B)) (by rw [← hn'.out]; omega)
          injection hA' with hA'
          injection hA' with h1 h2
          subst h1; subst h2
          exact .inr ⟨h0, y.1, hide (by rw [lastOf, if_neg (by omega), hy]; rfl), e0⟩
      clear hx hq hbl
      obtain ⟨f, v⟩ := x
      simp only at c0 c1 hs1 Hnext
      have fin : ∀ r : Bool, stepsOk l = r → Hid (r = stepsOk l) := fun r h => hide h.symm
      -- the ways
      have hways : (coordOk f = false ∧ Hid (false = stepsOk l)) ∨
          (coordOk f = true ∧ decide (v < 0) = true ∧ Hid (false = stepsOk l)) ∨
          (coordOk f = true ∧ decide (v < 0) = false ∧ decide (1099511627776 < v) = true ∧ Hid (false = stepsOk l)) ∨
          (coordOk f = true ∧ decide (v < 0) = false ∧ decide (1099511627776 < v) = false) := by
        cases h1 : coordOk f
        · exact .inl ⟨rfl, fin _ (by rw [hs1.out, h1]; rfl)⟩
        · right
          by_cases h2 : v < 0
          · exact .inl ⟨rfl, by simpa using h2, fin _ (by rw [hs1.out, h1, within, show decide (0 ≤ v) = false by simpa using h2]; rfl)⟩
          · right
            by_cases h3 : 1099511627776 < v
            · exact .inl ⟨rfl, by simpa using h2, by simpa using h3, fin _ (by rw [hs1.out, h1, within, show decide (v ≤ 1099511627776) = false by simpa using h3]; simp)⟩
            · exact .inr ⟨rfl, by simpa using h2, by simpa using h3⟩
      rcases hways with ⟨p0, hres⟩ | ⟨p0, q1, hres⟩ | ⟨p0, q1, q2, hres⟩ | ⟨p0, q1, q2⟩
      rotate_right 1
      · have HP := hide (fun (W : World) => place_any f W)
        rw [p0] at HP
        have hw1 := show within v 0 1099511627776 = true by simp [within] at *; omega
        have hs2 := hide (hs1.out.trans (by rw [p0, hw1, Bool.true_and, Bool.true_and]))
        clear p0 hw1 hs1 fin
        rcases hprev with h0 | ⟨h0, p, hp, e0⟩
        · have hs3 := hide (show stepsOk l = stepsFrom (lastOf l (k + 1)) (l.drop (k + 1)) by rw [hs2.out, Hnext.out, lastOf, if_pos h0]; rfl)
          have q3 : decide (0 < k) = false := by simp; omega
          clear h0
          go_wp2_with fail
          obtain ⟨w1, hw1⟩ : ∃ w1, w1 = wr.alloc (.cells #[.int .i64 f, .int .i64 v] 179) := ⟨_, rfl⟩
          have hb1 := Blk.new wr 179 #[.int .i64 f, .int .i64 v]
          have Hw1 := hide (hbr.alloc hbr.size (.cells #[.int .i64 f, .int .i64 v] 179))
          rw [← hw1] at hb1 Hw1 ⊢
          have g0 := hb1.cell 0
          have g1 := hb1.cell 1
          simp at g0 g1
          clear hb1
          clear hw1 c0 c1
          go_quiet ((go_at_call 189; exact quiet_eq (HP.out _)))
          go_wp2_with fail
          go_roundw
          case rel => exact ⟨k + 1, by omega, by go_num, hs3, below_drewN' Hw1.out _⟩
          case measure => simp [intOf]; omega
        · have hs3 := hide (hs2.out.trans (by rw [hp.out]))
          have q3 : decide (0 < (k : Int)) = true := by simp; omega
          by_cases hle : f ≤ p
          · have q4 : decide (f ≤ p) = true := by simpa using hle
            have hres := hide (show false = stepsOk l by rw [hs3.out]; simp; omega)
            go_wp2_with fail
            obtain ⟨w1, hw1⟩ : ∃ w1, w1 = wr.alloc (.cells #[.int .i64 f, .int .i64 v] 179) := ⟨_, rfl⟩
            have hb1 := Blk.new wr 179 #[.int .i64 f, .int .i64 v]
            have Hw1 := hide (hbr.alloc hbr.size (.cells #[.int .i64 f, .int .i64 v] 179))
            rw [← hw1] at hb1 Hw1 ⊢
            have g0 := hb1.cell 0
            have g1 := hb1.cell 1
            simp at g0 g1
            clear hb1
            have e1 : w1.cell? ⟨b, off + (k - 1) * 2, none⟩ = some (.int .i64 p) := by rw [hw1]; exact (World.cell?_alloc_lt _ _ _ hbw).trans e0
            clear hw1 c0 c1 e0 hle
            go_quiet ((go_at_call 189; exact quiet_eq (HP.out _)))
            go_wp2_with fail
            go_ret
            exact ⟨ret_bool hres.out, below_drewN' Hw1.out _⟩
          · have q4 : decide (f ≤ p) = false := by simpa using hle
            have hs4 := hide (show stepsOk l = stepsFrom (lastOf l (k + 1)) (l.drop (k + 1)) by rw [hs3.out, Hnext.out]; simp; omega)
            go_wp2_with fail
            obtain ⟨w1, hw1⟩ : ∃ w1, w1 = wr.alloc (.cells #[.int .i64 f, .int .i64 v] 179) := ⟨_, rfl⟩
            have hb1 := Blk.new wr 179 #[.int .i64 f, .int .i64 v]
            have Hw1 := hide (hbr.alloc hbr.size (.cells #[.int .i64 f, .int .i64 v] 179))
            rw [← hw1] at hb1 Hw1 ⊢
            have g0 := hb1.cell 0
            have g1 := hb1.cell 1
            simp at g0 g1
            clear hb1
            have e1 : w1.cell? ⟨b, off + (k - 1) * 2, none⟩ = some (.int .i64 p) := by rw [hw1]; exact (World.cell?_alloc_lt _ _ _ hbw).trans e0
            clear hw1 c0 c1 e0 hle
            go_quiet ((go_at_call 189; exact quiet_eq (HP.out _)))
            go_wp2_with fail
            go_roundw
            case rel => exact ⟨k + 1, by omega, by go_num, hs4, below_drewN' Hw1.out _⟩
            case measure => simp [intOf]; omega
      all_goals
        have HP := hide (fun (W : World) => place_any f W)
        rw [p0] at HP
        clear p0 hprev fin
        go_wp2_with fail
        obtain ⟨w1, hw1⟩ : ∃ w1, w1 = wr.alloc (.cells #[.int .i64 f, .int .i64 v] 179) := ⟨_, rfl⟩
        have hb1 := Blk.new wr 179 #[.int .i64 f, .int .i64 v]
        have Hw1 := hide (hbr.alloc hbr.size (.cells #[.int .i64 f, .int .i64 v] 179))
        rw [← hw1] at hb1 Hw1 ⊢
        have g0 := hb1.cell 0
        have g1 := hb1.cell 1
        simp at g0 g1
        clear hb1
        clear hw1 c0 c1
        go_quiet ((go_at_call 189; exact quiet_eq (HP.out _)))
        go_wp2_with fail
        go_ret
        exact ⟨ret_bool hres.out, below_drewN' Hw1.out _⟩
    · obtain rfl : k = n := by omega
      have hfull := hide (show stepsOk l = true by rw [hq.out, hn'.out, List.drop_length]; rfl)
      go_wp2_with fail
      go_ret
      exact ⟨ret_bool hfull.out.symm, hbr⟩
end Go.Proofs.YtpmipoljnchheaaGreat
namespace Go.Proofs.YtpmipoljnchheaaGreat
open Go.RowKit

set_option maxHeartbeats 400000 in
theorem axis_any (n : Int) (w : World) : Calls Tryz.prog 163 #[.int .i64 n] w fun e w' => e = .returned (.bool (axisN n)) ∧ w = w' := by
  have hways : (decide (n = 0) = true ∧ Hid (false = axisN n)) ∨ (decide (n = 0) = false ∧ decide (-3 ≤ n) = false ∧ Hid (false = axisN n)) ∨ (decide (n = 0) = false ∧ decide (-3 ≤ n) = true ∧ decide (n ≤ 3) = false ∧ Hid (false = axisN n)) ∨ (decide (n = 0) = false ∧ decide (-3 ≤ n) = true ∧ decide (n ≤ 3) = true ∧ Hid (true = axisN n)) := by
    have key : ∀ r, (!decide (n = 0) && decide (-3 ≤ n) && decide (n ≤ 3)) = r → Hid (r = axisN n) := fun r hr => hide (by rw [axisN, hr])
    revert key
    generalize axisN n = R
    cases decide (n = 0) <;> cases decide (-3 ≤ n) <;> cases decide (n ≤ 3) <;> intro key <;> simp <;> first | exact hide (key false rfl).out.symm | exact hide (key true rfl).out.symm
  rcases hways with ⟨q0, hres⟩ | ⟨q0, q1, hres⟩ | ⟨q0, q1, q2, hres⟩ | ⟨q0, q1, q2, hres⟩
  all_goals
    have q9 : (n != 0) = !decide (n = 0) := by rw [Bool.eq_iff_iff]; simp
    rw [q0] at q9
    clear q0
    go_enter Tryz.func163, Tryz.ntmps163
    go_wp2_with fail
    go_ret
    exact ⟨ret_bool hres.out, rfl⟩
def axis6 (n : Int) : Prop := n = 1 ∨ n = 2 ∨ n = 3 ∨ n = -1 ∨ n = -2 ∨ n = -3
theorem axis6_of {n : Int} (h : axisN n = true) : axis6 n := by
  simp only [axisN, Bool.and_eq_true, Bool.not_eq_true', decide_eq_false_iff_not, decide_eq_true_eq] at h
  unfold axis6
  omega
abbrev ptV (p : Pt) : Value := .agg #[.int .i64 p.1, .int .i64 p.2.1, .int .i64 p.2.2]
set_option maxHeartbeats 2000000 in
theorem unit_any (n : Int) (w : World) (h : axis6 n) : Calls Tryz.prog 194 #[.int .i64 n] w fun e w' => e = .returned (ptV (unitV n)) ∧ Below w.heap.size w w' := by
  have B1 := hide (Blk.new w 234 #[.int .i64 0, .int .i64 0, .int .i64 0])
  rcases h with rfl | rfl | rfl | rfl | rfl | rfl
  all_goals
    go_enter Tryz.func194, Tryz.ntmps194
    go_wp2_with fail
    refine bodyPost_ret (results_c rfl rfl ((Blk.new w _ _).alloc _) Tryz.underlying234 rfl (by kernel_rfl)) rfl ?_
    exact ⟨rfl, below_new2 w _ _⟩
theorem mul1_bound {a b : Int} (ha : -1 ≤ a ∧ a ≤ 1) (hb : -1 ≤ b ∧ b ≤ 1) : -1 ≤ a * b ∧ a * b ≤ 1 := by
  have h1 : a = -1 ∨ a = 0 ∨ a = 1 := by omega
  rcases h1 with rfl | rfl | rfl <;> omega
theorem mulM_bound {a b m : Int} (ha : -1 ≤ a ∧ a ≤ 1) (hb : -m ≤ b ∧ b ≤ m) (hm : 0 ≤ m) : -m ≤ a * b ∧ a * b ≤ m := by
  have h1 : a = -1 ∨ a = 0 ∨ a = 1 := by omega
  rcases h1 with rfl | rfl | rfl <;> omega
def unitish (p : Pt) : Prop := (-1 ≤ p.1 ∧ p.1 ≤ 1) ∧ (-1 ≤ p.2.1 ∧ p.2.1 ≤ 1) ∧ (-1 ≤ p.2.2 ∧ p.2.2 ≤ 1)
theorem unitish_of {n : Int} (h : axis6 n) : unitish (unitV n) := by
  unfold unitish
  rcases h with rfl | rfl | rfl | rfl | rfl | rfl <;> decide
theorem cross_unit {x y : Int} (h : turnOk x y = true) : unitish (crossV (unitV x) (unitV y)) := by
  simp only [turnOk, Bool.and_eq_true, Bool.not_eq_true', decide_eq_false_iff_not] at h
  have hx := axis6_of h.1.1.1
  have hy := axis6_of h.1.1.2
  have h1 := h.1.2
  have h2 := h.2
  clear h
  unfold unitish
  rcases hx with rfl | rfl | rfl | rfl | rfl | rfl <;> rcases hy with rfl | rfl | rfl | rfl | rfl | rfl <;> first | (exfalso; omega) | decide
set_option maxHeartbeats 4000000 in
set_option maxRecDepth 100000 in
theorem cross_any (a b : Pt) (w : World) (ha : unitish a) (hb : unitish b) :
    Calls Tryz.prog 195 #[ptV a, ptV b] w fun e w' => e = .returned (ptV (crossV a b)) ∧ Below w.heap.size w w' := by
  obtain ⟨a1, a2, a3⟩ := a
  obtain ⟨b1, b2, b3⟩ := b
  obtain ⟨x1, x2, x3⟩ := ha
  obtain ⟨y1, y2, y3⟩ := hb
  simp only at x1 x2 x3 y1 y2 y3
  have m1 := mul1_bound x2 y3
  have m2 := mul1_bound x3 y2
  have m3 := mul1_bound x3 y1
  have m4 := mul1_bound x1 y3
  have m5 := mul1_bound x1 y2
  have m6 := mul1_bound x2 y1
  go_enter Tryz.func195, Tryz.ntmps195
  go_wp2_with fail
  refine bodyPost_ret (results_c rfl rfl (Blk.new2 w _ _ _ _) Tryz.underlying234 rfl (by kernel_rfl)) rfl ?_
  exact ⟨rfl, (below_new2 w _ _).alloc (by simp; omega) _⟩
end Go.Proofs.YtpmipoljnchheaaGreat
