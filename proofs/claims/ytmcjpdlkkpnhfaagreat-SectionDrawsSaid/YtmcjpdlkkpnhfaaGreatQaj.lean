/- Turns: directions of axes, the images of points. Demands: whether they are valid. -/
import Derived.Test.YtmcjpdlkkpnhfaaGreatQag
import Derived.Test.YtmcjpdlkkpnhfaaGreatQaf
import Derived.IntWalk
import Derived.Deep.RegionWith
import Derived.Test.YtmcjpdlkkpnhfaaGreatQaa
namespace Go.Proofs.YtmcjpdlkkpnhfaaGreat
open Go.RowKit

set_option maxHeartbeats 400000 in
theorem axis_any (n : Int) (w : World) : Calls Tryz.prog 154 #[.int .i64 n] w fun e w' => e = .returned (.bool (axisN n)) ∧ w = w' := by
  have hways : (decide (n = 0) = true ∧ Hid (false = axisN n)) ∨ (decide (n = 0) = false ∧ decide (-3 ≤ n) = false ∧ Hid (false = axisN n)) ∨ (decide (n = 0) = false ∧ decide (-3 ≤ n) = true ∧ decide (n ≤ 3) = false ∧ Hid (false = axisN n)) ∨ (decide (n = 0) = false ∧ decide (-3 ≤ n) = true ∧ decide (n ≤ 3) = true ∧ Hid (true = axisN n)) := by
    have key : ∀ r, (!decide (n = 0) && decide (-3 ≤ n) && decide (n ≤ 3)) = r → Hid (r = axisN n) := fun r hr => hide (by rw [axisN, hr])
    revert key
    generalize axisN n = R
    cases decide (n = 0) <;> cases decide (-3 ≤ n) <;> cases decide (n ≤ 3) <;> intro key <;> simp <;> first | exact hide (key false rfl).out.symm | exact hide (key true rfl).out.symm
  rcases hways with ⟨q0, hres⟩ | ⟨q0, q1, hres⟩ | ⟨q0, q1, q2, hres⟩ | ⟨q0, q1, q2, hres⟩
  all_goals
    have q9 : (n != 0) = !decide (n = 0) := by rw [Bool.eq_iff_iff]; simp
    rw [q0] at q9
    clear q0
    go_enter Tryz.func154, Tryz.ntmps154
    go_wp2_with fail
    go_ret
    exact ⟨ret_bool hres.out, rfl⟩
def axis6 (n : Int) : Prop := n = 1 ∨ n = 2 ∨ n = 3 ∨ n = -1 ∨ n = -2 ∨ n = -3
theorem axis6_of {n : Int} (h : axisN n = true) : axis6 n := by
  simp only [axisN, Bool.and_eq_true, Bool.not_eq_true', decide_eq_false_iff_not, decide_eq_true_eq] at h
  unfold axis6
  omega
abbrev ptV (p : Pt) : Value := .agg #[.int .i64 p.1, .int .i64 p.2.1, .int .i64 p.2.2]
set_option maxHeartbeats 2000000 in
theorem unit_any (n : Int) (w : World) (h : axis6 n) : Calls Tryz.prog 202 #[.int .i64 n] w fun e w' => e = .returned (ptV (unitV n)) ∧ Below w.heap.size w w' := by
  have B1 := hide (Blk.new w 198 #[.int .i64 0, .int .i64 0, .int .i64 0])
  rcases h with rfl | rfl | rfl | rfl | rfl | rfl
  all_goals
    go_enter Tryz.func202, Tryz.ntmps202
    go_wp2_with fail
    refine bodyPost_ret (results_c rfl rfl ((Blk.new w _ _).alloc _) Tryz.underlying198 rfl (by kernel_rfl)) rfl ?_
    exact ⟨rfl, below_new2 w _ _⟩
theorem mul1_bound {a b : Int} (ha : -1 ≤ a ∧ a ≤ 1) (hb : -1 ≤ b ∧ b ≤ 1) : -1 ≤ a * b ∧ a * b ≤ 1 := by
  have h1 : a = -1 ∨ a = 0 ∨ a = 1 := by omega
  rcases h1 with rfl | rfl | rfl <;> omega
theorem mulM_bound {a b m : Int} (ha : -1 ≤ a ∧ a ≤ 1) (hb : -m ≤ b ∧ b ≤ m) (hm : 0 ≤ m) : -m ≤ a * b ∧ a * b ≤ m := by
  have h1 : a = -1 ∨ a = 0 ∨ a = 1 := by omega
  rcases h1 with rfl | rfl | rfl <;> omega
def unitish (p : Pt) : Prop := (-1 ≤ p.1 ∧ p.1 ≤ 1) ∧ (-1 ≤ p.2.1 ∧ p.2.1 ≤ 1) ∧ (-1 ≤ p.2.2 ∧ p.2.2 ≤ 1)
theorem unitish_of {n : Int} (h : axis6 n) : unitish (unitV n) := by
  unfold unitish
  rcases h with rfl | rfl | rfl | rfl | rfl | rfl <;> decide
theorem cross_unit {x y : Int} (h : turnOk x y = true) : unitish (crossV (unitV x) (unitV y)) := by
  simp only [turnOk, Bool.and_eq_true, Bool.not_eq_true', decide_eq_false_iff_not] at h
  have hx := axis6_of h.1.1.1
  have hy := axis6_of h.1.1.2
  have h1 := h.1.2
  have h2 := h.2
  clear h
  unfold unitish
  rcases hx with rfl | rfl | rfl | rfl | rfl | rfl <;> rcases hy with rfl | rfl | rfl | rfl | rfl | rfl <;> first | (exfalso; omega) | decide
set_option maxHeartbeats 4000000 in
set_option maxRecDepth 100000 in
theorem cross_any (a b : Pt) (w : World) (ha : unitish a) (hb : unitish b) :
    Calls Tryz.prog 203 #[ptV a, ptV b] w fun e w' => e = .returned (ptV (crossV a b)) ∧ Below w.heap.size w w' := by
  obtain ⟨a1, a2, a3⟩ := a
  obtain ⟨b1, b2, b3⟩ := b
  obtain ⟨x1, x2, x3⟩ := ha
  obtain ⟨y1, y2, y3⟩ := hb
  simp only at x1 x2 x3 y1 y2 y3
  have m1 := mul1_bound x2 y3
  have m2 := mul1_bound x3 y2
  have m3 := mul1_bound x3 y1
  have m4 := mul1_bound x1 y3
  have m5 := mul1_bound x1 y2
  have m6 := mul1_bound x2 y1
  go_enter Tryz.func203, Tryz.ntmps203
  go_wp2_with fail
  refine bodyPost_ret (results_c rfl rfl (Blk.new2 w _ _ _ _) Tryz.underlying198 rfl (by kernel_rfl)) rfl ?_
  exact ⟨rfl, (below_new2 w _ _).alloc (by simp; omega) _⟩
end Go.Proofs.YtmcjpdlkkpnhfaaGreat
namespace Go.Proofs.YtmcjpdlkkpnhfaaGreat
open Go.RowKit

abbrev dmV (d : DemD) (A : Option Addr) (n c : Nat) : Value := .agg #[.string d.name, .int .i64 d.zone.lo.1, .int .i64 d.zone.lo.2.1, .int .i64 d.zone.lo.2.2, .int .i64 d.zone.hi.1, .int .i64 d.zone.hi.2.1, .int .i64 d.zone.hi.2.2, .slice A n c]
abbrev dmC (d : DemD) (A : Option Addr) (n c : Nat) : Array Value := #[.string d.name, .int .i64 d.zone.lo.1, .int .i64 d.zone.lo.2.1, .int .i64 d.zone.lo.2.2, .int .i64 d.zone.hi.1, .int .i64 d.zone.hi.2.1, .int .i64 d.zone.hi.2.2, .slice A n c]
/-- Names are no longer than a machine's string, lists of steps than a machine's list. -/
def DemTame (l : List DemD) : Prop := ∀ d ∈ l, d.name.size ≤ maxLen ∧ (d.steps.length : Int) ≤ 9223372036854775807
set_option maxHeartbeats 2000000 in
theorem demandRight_any (d : DemD) (A : Option Addr) (c : Nat) (w : World) {B : Nat} (h : StpsAt w B A d.steps) (hB : B ≤ w.heap.size) (hm : d.name.size ≤ maxLen) (hl : (d.steps.length : Int) ≤ 9223372036854775807) :
    Calls Tryz.prog 126 #[dmV d A d.steps.length c] w fun e w' => e = .returned (.bool (demOk d)) ∧ Below w.heap.size w w' := by
  have HN := hide (fun (wz : World) => isName_any d.name wz hm)
  have HX := hide (fun (wz : World) => boxValid_any d.zone wz)
  have HS := hide (fun (wz : World) (hz : Below w.heap.size w wz) => stepsValid_any A d.steps d.steps.length c wz (h.carry (Flat.carried _) (hz.mono hB) (Nat.le_refl B)) (Nat.le_trans hB hz.size) rfl hl)
  obtain ⟨tn, htn⟩ : ∃ t, t = isName d.name := ⟨_, rfl⟩
  obtain ⟨tx, htx⟩ : ∃ t, t = boxOk d.zone := ⟨_, rfl⟩
  obtain ⟨ts, hts⟩ : ∃ t, t = stepsOk d.steps := ⟨_, rfl⟩
  have Hr := hide (show demOk d = (tn && tx && ts) by rw [demOk, htn, htx, hts])
  rw [← htn] at HN
  rw [← htx] at HX
  rw [← hts] at HS
  clear htn htx hts h
  have Hb := hide (Blk.new w 123 (dmC d A d.steps.length c))
  have Hw := hide (below_new w (.cells (dmC d A d.steps.length c) 123))
  obtain ⟨name, ⟨⟨x, y, z⟩, ⟨x2, y2, z2⟩⟩, steps⟩ := d
  simp only [dmC] at HN HX HS Hb Hw
  obtain ⟨n, hn⟩ : ∃ n, n = steps.length := ⟨_, rfl⟩
  simp only [dmV]
  rw [← hn] at HS Hb Hw ⊢
  clear hn
  cases tn
  · go_enter Tryz.func126, Tryz.ntmps126
    go_wp2_with (go_at_call 125; refine (HN.out _).mono ?_; rintro e w2 ⟨rfl, rfl⟩)
    go_ret
    exact ⟨ret_bool Hr.out.symm, Hw.out⟩
  cases tx
  · go_enter Tryz.func126, Tryz.ntmps126
    go_wp2_with (first
      | (go_at_call 125; refine (HN.out _).mono ?_; rintro e w2 ⟨rfl, rfl⟩)
      | (go_at_call 72; refine (HX.out _).mono ?_; rintro e w2 ⟨rfl, hb2⟩))
    go_ret
    exact ⟨ret_bool Hr.out.symm, below_step Hw.out hb2 (Nat.le_refl _)⟩
  · go_enter Tryz.func126, Tryz.ntmps126
    go_wp2_with (first
      | (go_at_call 125; refine (HN.out _).mono ?_; rintro e w2 ⟨rfl, rfl⟩)
      | (go_at_call 72; refine (HX.out _).mono ?_; rintro e w2 ⟨rfl, hb2⟩; have c7 := (Hb.out.keep hb2).cell 7; simp at c7)
      | (go_at_call 161; refine (HS.out _ (below_step Hw.out hb2 (Nat.le_refl _))).mono ?_; rintro e w3 ⟨rfl, hb3⟩))
    go_ret
    exact ⟨ret_bool Hr.out.symm, below_step (below_step Hw.out hb2 (Nat.le_refl _)) hb3 (Nat.le_refl _)⟩
set_option maxHeartbeats 1000000 in
theorem indexFuncDem_any (A : Option Addr) (l : List DemD) (n c : Nat) (fid : FuncId) (caps : Array Value) (p : DemD → Bool) (w : World) {B : Nat} (h : DemsAt w B A l) (hB : B ≤ w.heap.size) (hn : n = l.length) (hm : n ≤ 60000)
    (hc : ∀ args w, (callFunc fid args).run Tryz.prog w = .ok (.enter fid args) w)
    (hf : ∀ x A' c' (W : World), x ∈ l → Below w.heap.size w W → Calls Tryz.prog fid (#[dmV x A' x.steps.length c'] ++ caps) W fun e W' => e = .returned (.bool (p x)) ∧ Below W.heap.size W W') :
    Calls Tryz.prog 162 #[.slice A n c, .func (.func fid) #[] caps] w fun e w' => e = .returned (.int .i64 (idx p l)) ∧ Below w.heap.size w w' := by
  have Hf := hide hf
  have hn' := hide hn
  have Hs := hide h
  clear hf hn h
  go_enter Tryz.func162, Tryz.ntmps162
  go_wp2_with fail
  go_loopw [8] (fun i wr => ∃ k : Nat, k ≤ n ∧ i = .int .i64 k ∧ NoneTo p l k ∧ Below w.heap.size w wr) (fun i _ => n - (intOf i).toNat)
  case atStart => exact ⟨0, Nat.zero_le _, rfl, NoneTo.zero _ _, Below.refl _ _⟩
  case round =>
    obtain ⟨k, hk, rfl, hw, hb⟩ := hrel
    by_cases hlt : k < n
    · obtain ⟨b, off, x, A', c', rfl, hbl, hx, hi, hcells⟩ := DemsAt.get (k := k) (Hs.out.carry demR_carried (hb.mono hB) (Nat.le_refl _)) (by rw [← hn'.out]; exact hlt)
      have h0 := hcells 0 _ rfl
      have h1 := hcells 1 _ rfl
      have h2 := hcells 2 _ rfl
      have h3 := hcells 3 _ rfl
      have h4 := hcells 4 _ rfl
      have h5 := hcells 5 _ rfl
      have h6 := hcells 6 _ rfl
      have h7 := hcells 7 _ rfl
      rw [Nat.add_zero] at h0
      have Hx := hide hx
      have HF := hide (fun (W : World) (hW : Below w.heap.size w W) => Hf.out x A' c' W (mem_of_get hx) hW)
      clear hx hi hcells hbl
      go_wp2_with fail
      refine (HF.out _ hb).mono ?_
      rintro e w1 ⟨rfl, hb1⟩
      clear h0 h1 h2 h3 h4 h5 h6 h7
      have hb2 := below_step hb hb1 (Nat.le_refl _)
      cases hp : p x
      · have Hp := hide hp
        clear hp
        go_wp2_with fail
        go_roundw
        case rel => exact ⟨k + 1, by omega, by go_num, hw.succ Hx.out Hp.out, hb2⟩
        case measure => simp [intOf]; omega
      · have Hp := hide hp
        clear hp
        go_wp2_with fail
        go_ret
        exact ⟨ret_int (hw.hit Hx.out Hp.out).symm, hb2⟩
    · obtain rfl : k = n := by omega
      go_wp2_with fail
      go_ret
      exact ⟨ret_int (NoneTo.miss (by rw [← hn'.out]; exact hw)).symm, hb⟩
set_option maxHeartbeats 400000 in
theorem containsFuncDem_any (A : Option Addr) (l : List DemD) (n c : Nat) (fid : FuncId) (caps : Array Value) (p : DemD → Bool) (w : World) {B : Nat} (h : DemsAt w B A l) (hB : B ≤ w.heap.size) (hn : n = l.length) (hm : n ≤ 60000)
    (hc : ∀ args w, (callFunc fid args).run Tryz.prog w = .ok (.enter fid args) w)
    (hf : ∀ x A' c' (W : World), x ∈ l → Below w.heap.size w W → Calls Tryz.prog fid (#[dmV x A' x.steps.length c'] ++ caps) W fun e W' => e = .returned (.bool (p x)) ∧ Below W.heap.size W W') :
    Calls Tryz.prog 127 #[.slice A n c, .func (.func fid) #[] caps] w fun e w' => e = .returned (.bool (someOf p l)) ∧ Below w.heap.size w w' := by
  have Hf := hide hf
  have hn' := hide hn
  have Hc := hide hc
  clear hf hn hc
  go_enter Tryz.func127, Tryz.ntmps127
  go_wp2_with fail
  refine (indexFuncDem_any A l n c fid caps p w h hB hn'.out hm Hc.out Hf.out).mono ?_
  rintro e w1 ⟨rfl, hb⟩
  go_wp2_with fail
  go_ret
  exact ⟨ret_bool (by rw [idx_any]; rfl), hb⟩
set_option maxHeartbeats 1000000 in
theorem demand1_any (x : DemD) (A : Option Addr) (c : Nat) (m : ByteArray) (g : Nat) (w : World) (h0 : w.cell? ⟨g, 0, none⟩ = some (.string m)) :
    Calls Tryz.prog 128 #[dmV x A x.steps.length c, .pointer (some ⟨g, 0, none⟩)] w fun e w' => e = .returned (.bool (nameIs m x)) ∧ Below w.heap.size w w' := by
  have hg : g < w.heap.size := World.block_lt_of_cell? w _ h0
  have h1 := fun o => (World.cell?_alloc_lt w o ⟨g, 0, none⟩ hg).trans h0
  obtain ⟨name, ⟨⟨x, y, z⟩, ⟨x2, y2, z2⟩⟩, steps⟩ := x
  go_enter Tryz.func128, Tryz.ntmps128
  go_wp2_with fail
  go_ret
  exact ⟨ret_bool (by rfl), below_new _ _⟩
theorem demsFrom_at {l : List DemD} {k : Nat} {d : DemD} (h : l[k]? = some d) : demsFrom (l.take k) (l.drop k) = (demOk d && !someOf (nameIs d.name) (l.take k) && demsFrom (l.take (k + 1)) (l.drop (k + 1))) := by
  rw [drop_at' h, take_snoc' h]
  rfl
set_option maxHeartbeats 4000000 in
set_option maxRecDepth 100000 in
theorem demandValid_any (A : Option Addr) (l : List DemD) (n c : Nat) (w : World) {B : Nat} (h : DemsAt w B A l) (hB : B ≤ w.heap.size) (hn : n = l.length) (hm : (n : Int) ≤ 9223372036854775807) (hcap : n ≤ c) (ht : DemTame l) :
    Calls Tryz.prog 88 #[.slice A n c] w fun e w' => e = .returned (.bool (demsOk l)) ∧ Below w.heap.size w w' := by
  have hn' := hide hn
  have Hs := hide h
  have Ht := hide ht
  by_cases h20 : 20 < n
  · have hr := hide (show demsOk l = false by simp [demsOk]; omega)
    have d0 : decide (20 < (n : Int)) = true := by simp; omega
    clear hn h h20 ht
    go_enter Tryz.func88, Tryz.ntmps88
    go_wp2_with fail
    go_ret
    exact ⟨ret_bool hr.out.symm, Below.refl _ _⟩
  have hr := hide (show demsOk l = demsFrom (l.take 0) (l.drop 0) by simp [demsOk]; omega)
  have d0 : decide (20 < (n : Int)) = false := by simp; omega
  have hn2 : n ≤ 20 := by omega
  clear hn h h20 ht hm
  go_enter Tryz.func88, Tryz.ntmps88
  go_wp2_with fail
  go_loopw [10] (fun i wr => ∃ k : Nat, k ≤ n ∧ i = .int .i64 k ∧ Hid (demsOk l = demsFrom (l.take k) (l.drop k)) ∧ Below w.heap.size w wr) (fun i _ => n - (intOf i).toNat)
  case atStart => exact ⟨0, Nat.zero_le _, rfl, hr, Below.refl _ _⟩
  case round =>
    obtain ⟨k, hk, rfl, hq, hbr⟩ := hrel
    by_cases hlt : k < n
    · have HR := hide (Hs.out.carry demR_carried (hbr.mono hB) (Nat.le_refl B))
      have hBr := Nat.le_trans hB hbr.size
      obtain ⟨b, off, x, A', c', hA, hbl, hx, hi, hcells⟩ := DemsAt.get (k := k) HR.out (by rw [← hn'.out]; exact hlt)
      have h0 := hcells 0 _ rfl
      have h1 := hcells 1 _ rfl
      have h2 := hcells 2 _ rfl
      have h3 := hcells 3 _ rfl
      have h4 := hcells 4 _ rfl
      have h5 := hcells 5 _ rfl
      have h6 := hcells 6 _ rfl
      have h7 := hcells 7 _ rfl
      rw [Nat.add_zero] at h0
      have hs1 := hide (hq.out.trans (demsFrom_at hx))
      have hxt := Ht.out x (mem_of_get hx)
      have hlk : (l.take k).length = k := by rw [List.length_take, ← hn'.out]; omega
      have HRt := hide (fun (W : World) (hW : Below wr.heap.size wr W) => demandRight_any x A' c' W (hi.carry (Flat.carried _) (hW.mono hBr) (Nat.le_refl B)) (Nat.le_trans hBr hW.size) hxt.1 hxt.2)
      have HC := hide (fun (W : World) (hW : Below wr.heap.size wr W) (caps : Array Value) (hf : ∀ y A2 c2 (W2 : World), y ∈ l.take k → Below W.heap.size W W2 → Calls Tryz.prog 128 (#[dmV y A2 y.steps.length c2] ++ caps) W2 fun e W' => e = .returned (.bool (nameIs x.name y)) ∧ Below W2.heap.size W2 W') (c3 : Nat) =>
        containsFuncDem_any A (l.take k) k c3 128 caps (nameIs x.name) W (SlOf.take (HR.out.carry demR_carried (hW.mono hBr) (Nat.le_refl B)) k) (Nat.le_trans hBr hW.size) hlk.symm (by omega) Tryz.call128 hf)
      obtain ⟨tr, htr⟩ : ∃ t, t = demOk x := ⟨_, rfl⟩
      obtain ⟨ts, hts⟩ : ∃ t, t = someOf (nameIs x.name) (l.take k) := ⟨_, rfl⟩
      rw [← htr, ← hts] at hs1
      rw [← htr] at HRt
      rw [← hts] at HC
      have Hb := hide (Blk.new wr 123 (dmC x A' x.steps.length c'))
      have Hw := hide (below_new wr (.cells (dmC x A' x.steps.length c') 123))
      subst hA
      clear hx hi hcells hbl htr hts hq hlk hxt
      obtain ⟨name, ⟨⟨x, y, z⟩, ⟨x2, y2, z2⟩⟩, steps⟩ := x
      simp only [dmC] at h0 h1 h2 h3 h4 h5 h6 h7 HRt HC Hb Hw
      cases tr
      · have hres := hide (show false = demsOk l by rw [hs1.out]; rfl)
        go_wp2_with (go_at_call 126; refine (HRt.out _ Hw.out).mono ?_; rintro e w2 ⟨rfl, hb2⟩)
        go_ret
        exact ⟨ret_bool hres.out, hbr.trans ((below_step Hw.out hb2 (Nat.le_refl _)).mono hbr.size)⟩
      · go_wp2_with fail
        refine (HRt.out _ Hw.out).mono ?_
        rintro e w2 ⟨rfl, hb2⟩
        have Hb2 := hide (Hb.out.keep hb2)
        have Hw2 := hide (below_step Hw.out hb2 (Nat.le_refl _))
        have c0 := Hb2.out.cell 0
        simp at c0
        clear hb2
        go_wp2_with fail
        refine (HC.out _ Hw2.out #[.pointer (some ⟨wr.heap.size, 0, none⟩)] (fun y A2 c2 W2 _ hW => demand1_any y A2 c2 name wr.heap.size W2 (by have h9 := (Hb2.out.keep hW).cell 0; simpa using h9)) _).mono ?_
        rintro e w3 ⟨rfl, hb3⟩
        have Hw3 := hide (hbr.trans ((below_step Hw2.out hb3 (Nat.le_refl _)).mono hbr.size))
        clear hb3
        cases ts
        · have hnext := hide (show demsOk l = demsFrom (l.take (k + 1)) (l.drop (k + 1)) by rw [hs1.out]; rfl)
          go_wp2_with fail
          go_roundw
          case rel => exact ⟨k + 1, by omega, by go_num, hnext, Hw3.out⟩
          case measure => simp [intOf]; omega
        · have hres := hide (show false = demsOk l by rw [hs1.out]; rfl)
          go_wp2_with fail
          go_ret
          exact ⟨ret_bool hres.out, Hw3.out⟩
    · obtain rfl : k = n := by omega
      have hfull := hide (show demsOk l = true by rw [hq.out, hn'.out, List.drop_length]; rfl)
      go_wp2_with fail
      go_ret
      exact ⟨ret_bool hfull.out.symm, hbr⟩
end Go.Proofs.YtmcjpdlkkpnhfaaGreat
