/- Solids and members: whether they are valid; the hull of boxes. -/
import Derived.Test.YtkmpddaobncheaaGreatDoorQaf
namespace Go.Proofs.YtkmpddaobncheaaGreatDoor
open Go.RowKit

def someOf {α : Type} (p : α → Bool) (l : List α) : Bool := l.any p
set_option maxHeartbeats 1000000 in
theorem indexFuncBox_any (A : Option Addr) (l : List BoxD) (n c : Nat) (fid : FuncId) (p : BoxD → Bool) (w : World) {B : Nat} (h : BoxesAt w B A l) (hB : B ≤ w.heap.size) (hn : n = l.length) (hm : n ≤ 300000)
    (hc : ∀ args w, (callFunc fid args).run Tryz.prog w = .ok (.enter fid args) w)
    (hf : ∀ x (W : World), x ∈ l → Calls Tryz.prog fid #[bx x] W fun e W' => e = .returned (.bool (p x)) ∧ Below W.heap.size W W') :
    Calls Tryz.prog 233 #[.slice A n c, .func (.func fid) #[] #[]] w fun e w' => e = .returned (.int .i64 (idx p l)) ∧ Below w.heap.size w w' := by
  have Hf := hide hf
  have hn' := hide hn
  have Hs := hide h
  clear hf hn h
  go_enter Tryz.func233, Tryz.ntmps233
  go_wp2_with fail
  go_loopw [8] (fun i wr => ∃ k : Nat, k ≤ n ∧ i = .int .i64 k ∧ NoneTo p l k ∧ Below w.heap.size w wr) (fun i _ => n - (intOf i).toNat)
  case atStart => exact ⟨0, Nat.zero_le _, rfl, NoneTo.zero _ _, Below.refl _ _⟩
  case round =>
    obtain ⟨k, hk, rfl, hw, hb⟩ := hrel
    by_cases hlt : k < n
    · obtain ⟨b, off, x, rfl, hbl, hx, h0, h1, h2, h3, h4, h5⟩ := BoxesAt.get (k := k) (SlOf.carry (Flat.carried _) Hs.out (hb.mono hB) (Nat.le_refl _)) (by rw [← hn'.out]; exact hlt)
      have Hx := hide hx
      clear hx hbl
      go_wp2_with fail
      refine (Hf.out x _ (mem_of_get Hx.out)).mono ?_
      rintro e w1 ⟨rfl, hb1⟩
      clear h0 h1 h2 h3 h4 h5
      have hb2 := below_step hb hb1 (Nat.le_refl _)
      cases hp : p x
      · have Hp := hide hp
        clear hp
        go_wp2_with fail
        go_roundw
        case rel => exact ⟨k + 1, by omega, by go_num, hw.succ Hx.out Hp.out, hb2⟩
        case measure => simp [intOf]; omega
      · have Hp := hide hp
        clear hp
        go_wp2_with fail
        go_ret
        exact ⟨ret_int (hw.hit Hx.out Hp.out).symm, hb2⟩
    · obtain rfl : k = n := by omega
      go_wp2_with fail
      go_ret
      exact ⟨ret_int (NoneTo.miss (by rw [← hn'.out]; exact hw)).symm, hb⟩
set_option maxHeartbeats 400000 in
theorem containsFuncBox_any (A : Option Addr) (l : List BoxD) (n c : Nat) (fid : FuncId) (p : BoxD → Bool) (w : World) {B : Nat} (h : BoxesAt w B A l) (hB : B ≤ w.heap.size) (hn : n = l.length) (hm : n ≤ 300000)
    (hc : ∀ args w, (callFunc fid args).run Tryz.prog w = .ok (.enter fid args) w)
    (hf : ∀ x (W : World), x ∈ l → Calls Tryz.prog fid #[bx x] W fun e W' => e = .returned (.bool (p x)) ∧ Below W.heap.size W W') :
    Calls Tryz.prog 172 #[.slice A n c, .func (.func fid) #[] #[]] w fun e w' => e = .returned (.bool (someOf p l)) ∧ Below w.heap.size w w' := by
  have Hf := hide hf
  have hn' := hide hn
  have Hc := hide hc
  clear hf hn hc
  go_enter Tryz.func172, Tryz.ntmps172
  go_wp2_with fail
  refine (indexFuncBox_any A l n c fid p w h hB hn'.out hm Hc.out Hf.out).mono ?_
  rintro e w1 ⟨rfl, hb⟩
  go_wp2_with fail
  go_ret
  exact ⟨ret_bool (by rw [idx_any]; rfl), hb⟩

set_option maxHeartbeats 1000000 in
theorem thick_any (b : BoxD) (w : World) :
    Calls Tryz.prog 171 #[bx b] w fun e w' => e = .returned (.bool (thickOk b)) ∧ Below w.heap.size w w' := by
  have Hv := hide (fun (w : World) => boxValid_any b w)
  cases hv : boxOk b
  · have hr := hide (show thickOk b = false by simp [thickOk, hv])
    rw [hv] at Hv
    clear hv
    obtain ⟨⟨x, y, z⟩, ⟨x2, y2, z2⟩⟩ := b
    go_enter Tryz.func171, Tryz.ntmps171
    go_wp2_with (go_at_call 178; refine (Hv.out _).mono ?_; rintro e w2 ⟨rfl, hb2⟩)
    go_ret
    exact ⟨ret_bool hr.out.symm, below_step (below_new w _) hb2 (Nat.le_refl _)⟩
  · have hr : thickOk b = (decide (b.lo.1 < b.hi.1) && decide (b.lo.2.1 < b.hi.2.1) && decide (b.lo.2.2 < b.hi.2.2)) := by simp [thickOk, hv]
    rw [hv] at Hv
    clear hv
    obtain ⟨⟨x, y, z⟩, ⟨x2, y2, z2⟩⟩ := b
    simp only at hr
    have hcase : (decide (x < x2) = false ∧ thickOk ⟨(x, y, z), (x2, y2, z2)⟩ = false) ∨ (decide (x < x2) = true ∧ decide (y < y2) = false ∧ thickOk ⟨(x, y, z), (x2, y2, z2)⟩ = false) ∨ (decide (x < x2) = true ∧ decide (y < y2) = true ∧ decide (z < z2) = false ∧ thickOk ⟨(x, y, z), (x2, y2, z2)⟩ = false) ∨ (decide (x < x2) = true ∧ decide (y < y2) = true ∧ decide (z < z2) = true ∧ thickOk ⟨(x, y, z), (x2, y2, z2)⟩ = true) := by
      rw [hr]
      cases decide (x < x2) <;> cases decide (y < y2) <;> cases decide (z < z2) <;> simp
    clear hr
    rcases hcase with ⟨q0, hR⟩ | ⟨q0, q1, hR⟩ | ⟨q0, q1, q2, hR⟩ | ⟨q0, q1, q2, hR⟩
    all_goals
      have HR := hide hR
      have Hb := hide (Blk.new w 51 #[.int .i64 x, .int .i64 y, .int .i64 z, .int .i64 x2, .int .i64 y2, .int .i64 z2])
      clear hR
      go_enter Tryz.func171, Tryz.ntmps171
      go_wp2_with (go_at_call 178; refine (Hv.out _).mono ?_; rintro e w2 ⟨rfl, hb2⟩; have hb3 := Hb.out.keep hb2; have c0 := hb3.cell 0; have c1 := hb3.cell 1; have c2 := hb3.cell 2; have c3 := hb3.cell 3; have c4 := hb3.cell 4; have c5 := hb3.cell 5; simp at c0 c1 c2 c3 c4 c5; clear hb3)
      go_ret
      exact ⟨ret_bool HR.out.symm, below_step (below_new w _) hb2 (Nat.le_refl _)⟩
def thin (b : BoxD) : Bool := !thickOk b
set_option maxHeartbeats 400000 in
theorem thin_any (b : BoxD) (w : World) :
    Calls Tryz.prog 170 #[bx b] w fun e w' => e = .returned (.bool (thin b)) ∧ Below w.heap.size w w' := by
  have Hv := hide (fun (w : World) => thick_any b w)
  obtain ⟨t, ht⟩ : ∃ t, t = thickOk b := ⟨_, rfl⟩
  have Hr := hide (show thin b = !t by rw [thin, ht])
  rw [← ht] at Hv
  clear ht
  obtain ⟨⟨x, y, z⟩, ⟨x2, y2, z2⟩⟩ := b
  go_enter Tryz.func170, Tryz.ntmps170
  go_wp2_with (go_at_call 171; refine (Hv.out _).mono ?_; rintro e w2 ⟨rfl, hb2⟩)
  go_ret
  exact ⟨ret_bool Hr.out.symm, below_step (below_new w _) hb2 (Nat.le_refl _)⟩
def badBox (b : BoxD) : Bool := !boxOk b
set_option maxHeartbeats 400000 in
theorem badBox_any (b : BoxD) (w : World) :
    Calls Tryz.prog 319 #[bx b] w fun e w' => e = .returned (.bool (badBox b)) ∧ Below w.heap.size w w' := by
  have Hv := hide (fun (w : World) => boxValid_any b w)
  obtain ⟨t, ht⟩ : ∃ t, t = boxOk b := ⟨_, rfl⟩
  have Hr := hide (show badBox b = !t by rw [badBox, ht])
  rw [← ht] at Hv
  clear ht
  obtain ⟨⟨x, y, z⟩, ⟨x2, y2, z2⟩⟩ := b
  go_enter Tryz.func319, Tryz.ntmps319
  go_wp2_with (go_at_call 178; refine (Hv.out _).mono ?_; rintro e w2 ⟨rfl, hb2⟩)
  go_ret
  exact ⟨ret_bool Hr.out.symm, below_step (below_new w _) hb2 (Nat.le_refl _)⟩

theorem all_some {α : Type} (p : α → Bool) (l : List α) : l.all p = !someOf (fun x => !p x) l := by
  induction l with
  | nil => rfl
  | cons x r ih => simp only [List.all_cons, someOf, List.any_cons, ih, Bool.not_or, Bool.not_not]
/-- A solid's value: its two lists. -/
abbrev sol (A1 : Option Addr) (n1 c1 : Nat) (A2 : Option Addr) (n2 c2 : Nat) : Value := .agg #[.slice A1 n1 c1, .slice A2 n2 c2]
set_option maxHeartbeats 1000000 in
theorem solidValid_any (bs hs : List BoxD) (A1 A2 : Option Addr) (n1 n2 c1 c2 : Nat) (w : World) {B : Nat} (h1 : BoxesAt w B A1 bs) (h2 : BoxesAt w B A2 hs) (hB : B ≤ w.heap.size) (hn1 : n1 = bs.length) (hn2 : n2 = hs.length) :
    Calls Tryz.prog 122 #[sol A1 n1 c1 A2 n2 c2] w fun e w' => e = .returned (.bool (solidOk bs hs)) ∧ Below w.heap.size w w' := by
  have Hn1 := hide hn1
  have Hn2 := hide hn2
  have H1 := hide h1
  have H2 := hide h2
  have hr : solidOk bs hs = (decide (1 ≤ n1) && decide (n1 ≤ 20) && decide (n2 ≤ 20) && !someOf thin bs && !someOf thin hs) := by
    rw [solidOk, all_some, all_some, hn1, hn2]
    rfl
  have Hr := hide hr
  clear hn1 hn2 h1 h2 hr
  by_cases a1 : n1 < 1
  · have d0 : decide (1 ≤ (n1 : Int)) = false := by simp; omega
    have hres := hide (show solidOk bs hs = false by rw [Hr.out]; simp; omega)
    clear a1
    go_enter Tryz.func122, Tryz.ntmps122
    go_wp2_with fail
    go_ret
    exact ⟨ret_bool hres.out.symm, below_new w _⟩
  have d0 : decide (1 ≤ (n1 : Int)) = true := by simp; omega
  by_cases a2 : 20 < n1
  · have d1 : decide ((n1 : Int) ≤ 20) = false := by simp; omega
    have hres := hide (show solidOk bs hs = false by rw [Hr.out]; simp; omega)
    clear a1 a2
    go_enter Tryz.func122, Tryz.ntmps122
    go_wp2_with fail
    go_ret
    exact ⟨ret_bool hres.out.symm, below_new w _⟩
  have d1 : decide ((n1 : Int) ≤ 20) = true := by simp; omega
  by_cases a3 : 20 < n2
  · have d2 : decide ((n2 : Int) ≤ 20) = false := by simp; omega
    have hres := hide (show solidOk bs hs = false by rw [Hr.out]; simp; omega)
    clear a1 a2 a3
    go_enter Tryz.func122, Tryz.ntmps122
    go_wp2_with fail
    go_ret
    exact ⟨ret_bool hres.out.symm, below_new w _⟩
  have d2 : decide ((n2 : Int) ≤ 20) = true := by simp; omega
  have hr2 : solidOk bs hs = (!someOf thin bs && !someOf thin hs) := by
    rw [Hr.out, show decide (1 ≤ n1) = true by simp; omega, show decide (n1 ≤ 20) = true by simp; omega, show decide (n2 ≤ 20) = true by simp; omega]
    rfl
  have g1 : n1 ≤ 300000 := by omega
  have g2 : n2 ≤ 300000 := by omega
  have HF1 := hide (fun (wz : World) (hz : Below w.heap.size w wz) => containsFuncBox_any A1 bs n1 c1 170 thin wz (H1.out.carry (Flat.carried _) (hz.mono hB) (Nat.le_refl B)) (Nat.le_trans hB hz.size) Hn1.out g1 Tryz.call170 (fun x W _ => thin_any x W))
  have HF2 := hide (fun (wz : World) (hz : Below w.heap.size w wz) => containsFuncBox_any A2 hs n2 c2 170 thin wz (H2.out.carry (Flat.carried _) (hz.mono hB) (Nat.le_refl B)) (Nat.le_trans hB hz.size) Hn2.out g2 Tryz.call170 (fun x W _ => thin_any x W))
  obtain ⟨t1, ht1⟩ : ∃ t, t = someOf thin bs := ⟨_, rfl⟩
  obtain ⟨t2, ht2⟩ : ∃ t, t = someOf thin hs := ⟨_, rfl⟩
  rw [← ht1, ← ht2] at hr2
  rw [← ht1] at HF1
  rw [← ht2] at HF2
  have Hres := hide hr2
  have Hb := hide (Blk.new w 24 #[.slice A1 n1 c1, .slice A2 n2 c2])
  have Hw := hide (below_new w (.cells #[.slice A1 n1 c1, .slice A2 n2 c2] 24))
  clear a1 a2 a3 ht1 ht2 hr2
  cases t1
  · go_enter Tryz.func122, Tryz.ntmps122
    go_wp2_with fail
    refine (HF1.out _ Hw.out).mono ?_
    rintro e w2 ⟨rfl, hb2⟩
    have hb := Hb.out.keep hb2
    have k0 := hb.cell 0
    have k1 := hb.cell 1
    simp at k0 k1
    have Hw2 := hide (below_step Hw.out hb2 (Nat.le_refl _))
    clear hb hb2
    go_wp2_with fail
    refine (HF2.out _ Hw2.out).mono ?_
    rintro e w3 ⟨rfl, hb3⟩
    have Hw3 := hide (below_step Hw2.out hb3 (Nat.le_refl _))
    clear hb3 k0 k1
    go_wp2_with fail
    go_ret
    exact ⟨ret_bool (by rw [Hres.out]; simp), Hw3.out⟩
  · go_enter Tryz.func122, Tryz.ntmps122
    go_wp2_with fail
    refine (HF1.out _ Hw.out).mono ?_
    rintro e w2 ⟨rfl, hb2⟩
    have Hw2 := hide (below_step Hw.out hb2 (Nat.le_refl _))
    clear hb2
    go_wp2_with fail
    go_ret
    exact ⟨ret_bool (by rw [Hres.out]; simp), Hw2.out⟩
set_option maxHeartbeats 400000 in
theorem within_any (n lo hi : Int) (w : World) :
    Calls Tryz.prog 121 #[.int .i64 n, .int .i64 lo, .int .i64 hi] w fun e w' => e = .returned (.bool (within n lo hi)) ∧ w = w' := by
  cases h0 : decide (lo ≤ n) <;> cases h1 : decide (n ≤ hi)
  all_goals
    have hr := hide (show within n lo hi = _ by rw [within, h0, h1])
    go_enter Tryz.func121, Tryz.ntmps121
    go_wp2_with fail
    go_ret
    exact ⟨ret_bool (by rw [hr.out]; rfl), rfl⟩

/-- A member's value. -/
abbrev memV (m : MemD) (A1 : Option Addr) (n1 c1 : Nat) (A2 : Option Addr) (n2 c2 : Nat) : Value := .agg #[.string m.name, .slice A1 n1 c1, .slice A2 n2 c2, .int .i64 m.cover, .int .i64 m.aggregate, .int .i64 m.poker]
set_option maxHeartbeats 2000000 in
theorem member_any (m : MemD) (A1 A2 : Option Addr) (n1 n2 c1 c2 : Nat) (w : World) {B : Nat} (h1 : BoxesAt w B A1 m.boxes) (h2 : BoxesAt w B A2 m.holes) (hB : B ≤ w.heap.size) (hn1 : n1 = m.boxes.length) (hn2 : n2 = m.holes.length) (hm : m.name.size ≤ maxLen) :
    Calls Tryz.prog 76 #[memV m A1 n1 c1 A2 n2 c2] w fun e w' => e = .returned (.bool (memOk m)) ∧ Below w.heap.size w w' := by
  have HV := hide (fun (wz : World) (hz : Below w.heap.size w wz) => solidValid_any m.boxes m.holes A1 A2 n1 n2 c1 c2 wz (h1.carry (Flat.carried _) (hz.mono hB) (Nat.le_refl B)) (h2.carry (Flat.carried _) (hz.mono hB) (Nat.le_refl B)) (Nat.le_trans hB hz.size) hn1 hn2)
  have HN := hide (fun (wz : World) => isName_any m.name wz hm)
  obtain ⟨tn, htn⟩ : ∃ t, t = isName m.name := ⟨_, rfl⟩
  obtain ⟨tv, htv⟩ : ∃ t, t = solidOk m.boxes m.holes := ⟨_, rfl⟩
  obtain ⟨ta, hta⟩ : ∃ t, t = within m.cover 0 200 := ⟨_, rfl⟩
  obtain ⟨tb, htb⟩ : ∃ t, t = within m.aggregate 1 100 := ⟨_, rfl⟩
  obtain ⟨tc, htc⟩ : ∃ t, t = within m.poker 1 200 := ⟨_, rfl⟩
  have Hr := hide (show memOk m = (tn && tv && ta && tb && tc) by rw [memOk, htn, htv, hta, htb, htc])
  have HA := hide (fun (wz : World) => within_any m.cover 0 200 wz)
  have HB := hide (fun (wz : World) => within_any m.aggregate 1 100 wz)
  have HC := hide (fun (wz : World) => within_any m.poker 1 200 wz)
  rw [← htn] at HN
  rw [← htv] at HV
  rw [← hta] at HA
  rw [← htb] at HB
  rw [← htc] at HC
  clear h1 h2 hn1 hn2 htn htv hta htb htc
  obtain ⟨name, boxes, holes, cover, agg, poker⟩ := m
  simp only at HN HV HA HB HC
  have Hb := hide (Blk.new w 26 #[.string name, .slice A1 n1 c1, .slice A2 n2 c2, .int .i64 cover, .int .i64 agg, .int .i64 poker])
  have Hw := hide (below_new w (.cells #[.string name, .slice A1 n1 c1, .slice A2 n2 c2, .int .i64 cover, .int .i64 agg, .int .i64 poker] 26))
  cases tn
  · go_enter Tryz.func76, Tryz.ntmps76
    go_wp2_with (go_at_call 46; refine (HN.out _).mono ?_; rintro e w2 ⟨rfl, rfl⟩)
    go_ret
    exact ⟨ret_bool Hr.out.symm, Hw.out⟩
  cases tv
  · go_enter Tryz.func76, Tryz.ntmps76
    go_wp2_with (first
      | (go_at_call 46; refine (HN.out _).mono ?_; rintro e w2 ⟨rfl, rfl⟩)
      | (go_at_call 122; refine (HV.out _ Hw.out).mono ?_; rintro e w2 ⟨rfl, hb2⟩))
    go_ret
    exact ⟨ret_bool Hr.out.symm, below_step Hw.out hb2 (Nat.le_refl _)⟩
  cases ta <;> cases tb <;> cases tc
  all_goals
    go_enter Tryz.func76, Tryz.ntmps76
    go_wp2_with (first
      | (go_at_call 46; refine (HN.out _).mono ?_; rintro e w2 ⟨rfl, rfl⟩)
      | (go_at_call 122; refine (HV.out _ Hw.out).mono ?_; rintro e w2 ⟨rfl, hb2⟩; have hb3 := Hb.out.keep hb2; have c3 := hb3.cell 3; have c4 := hb3.cell 4; have c5 := hb3.cell 5; simp at c3 c4 c5; clear hb3)
      | (go_at_call 121; (first | (with_reducible refine (HA.out _).mono ?_) | (with_reducible refine (HB.out _).mono ?_) | (with_reducible refine (HC.out _).mono ?_)); rintro e w3 ⟨rfl, rfl⟩))
    go_ret
    exact ⟨ret_bool Hr.out.symm, below_step Hw.out hb2 (Nat.le_refl _)⟩

end Go.Proofs.YtkmpddaobncheaaGreatDoor
