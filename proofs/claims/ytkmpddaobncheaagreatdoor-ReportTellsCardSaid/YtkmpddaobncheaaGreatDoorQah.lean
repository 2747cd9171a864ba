/- Step functions and demands: whether they are valid. Demands: whether they are valid. Turns: directions of axes, the images of points. The hull of boxes. The hull of a solid. -/
import Derived.Test.YtkmpddaobncheaaGreatDoorQag
import Derived.Deep.QuietTactic
import Derived.IntWalk
import Derived.Deep.RegionWith
namespace Go.Proofs.YtkmpddaobncheaaGreatDoor
open Go.RowKit

theorem SlOf.take {α : Type} {w : World} {B size : Nat} {R : World → Nat → List Value → α → Prop} {A : Option Addr} {l : List α} (h : SlOf w B size R A l) (k : Nat) : SlOf w B size R A (l.take k) := by
  intro hl
  obtain ⟨b, off, hA, hb, hc⟩ := h (by rw [List.length_take] at hl; omega)
  refine ⟨b, off, hA, hb, fun j x hx => ?_⟩
  rw [List.getElem?_take] at hx
  split at hx
  · exact hc j x hx
  · cases hx
/-- A contract that leaves the world alone, met in a quiet region. -/
theorem quiet_eq {P : Program} {f : FuncId} {args : Array Value} {w : World} {n : Nat} {v : Value} (h : Calls P f args (w.drewN n) fun e w' => e = .returned v ∧ w.drewN n = w') :
    Calls P f args (w.drewN n) fun e w'' => e = .returned v ∧ ∃ m, w'' = w.drewN m := h.mono fun _ _ ⟨he, hm⟩ => ⟨he, n, hm.symm⟩
theorem below_drewN' {B : Nat} {a w : World} (h : Below B a w) (n : Nat) : Below B a (w.drewN n) := ⟨h.os, h.tape, h.output, h.size, h.block⟩
set_option maxHeartbeats 400000 in
theorem place_any (n : Int) (w : World) : Calls Tryz.prog 200 #[.int .i64 n] w fun e w' => e = .returned (.bool (coordOk n)) ∧ w = w' := by
  go_enter Tryz.func200, Tryz.ntmps200
  go_wp2
  all_goals
    go_ret
    exact ⟨ret_bool (by rw [Bool.eq_iff_iff]; simp [coordOk]; try omega), rfl⟩
def lastOf (l : List (Int × Int)) (k : Nat) : Option Int := if k = 0 then none else (l[k - 1]?).map (·.1)
theorem stepsFrom_at {l : List (Int × Int)} {k : Nat} {s : Int × Int} (h : l[k]? = some s) (last : Option Int) :
    stepsFrom last (l.drop k) = (coordOk s.1 && within s.2 0 1099511627776 && (match last with | none => true | some p => decide (p < s.1)) && stepsFrom (some s.1) (l.drop (k + 1))) := by
  rw [drop_at' h]
  rfl
set_option maxHeartbeats 4000000 in
set_option maxRecDepth 100000 in
theorem stepsValid_any (A : Option Addr) (l : List (Int × Int)) (n c : Nat) (w : World) {B : Nat} (h : StpsAt w B A l) (hB : B ≤ w.heap.size) (hn : n = l.length) (hm : (n : Int) ≤ 9223372036854775807) :
    Calls Tryz.prog 137 #[.slice A n c] w fun e w' => e = .returned (.bool (stepsOk l)) ∧ Below w.heap.size w w' := by
  have hn' := hide hn
  have Hs := hide h
  by_cases h200 : 200 < n
  · have hr := hide (show stepsOk l = false by simp [stepsOk]; omega)
    have d0 : decide (200 < (n : Int)) = true := by simp; omega
    clear hn h h200
    go_enter Tryz.func137, Tryz.ntmps137
    go_wp2_with fail
    go_ret
    exact ⟨ret_bool hr.out.symm, Below.refl _ _⟩
  have hr := hide (show stepsOk l = stepsFrom (lastOf l 0) (l.drop 0) by simp [stepsOk, lastOf]; omega)
  have d0 : decide (200 < (n : Int)) = false := by simp; omega
  have hn2 : n ≤ 200 := by omega
  clear hn h h200 hm
  go_enter Tryz.func137, Tryz.ntmps137
  go_wp2_with fail
  go_loopw [10] (fun i wr => ∃ k : Nat, k ≤ n ∧ i = .int .i64 k ∧ Hid (stepsOk l = stepsFrom (lastOf l k) (l.drop k)) ∧ Below w.heap.size w wr) (fun i _ => n - (intOf i).toNat)
  case atStart => exact ⟨0, Nat.zero_le _, rfl, hr, Below.refl _ _⟩
  case round =>
    obtain ⟨k, hk, rfl, hq, hbr⟩ := hrel
    by_cases hlt : k < n
    · obtain ⟨b, off, x, hA, hbl, hx, c0, c1⟩ := StpsAt.get (k := k) (Hs.out.carry (Flat.carried _) (hbr.mono hB) (Nat.le_refl B)) (by rw [← hn'.out]; exact hlt)
      subst hA
      have hbw : b < wr.heap.size := by have := hbr.size; omega
      have hs1 := hide (hq.out.trans (stepsFrom_at hx _))
      have Hx := hide hx
      have Hnext := hide (show lastOf l (k + 1) = some x.1 by rw [lastOf, if_neg (by omega), Nat.add_sub_cancel, hx]; rfl)
      have hprev : k = 0 ∨ (0 < k ∧ ∃ p : Int, Hid (lastOf l k = some p) ∧ wr.cell? ⟨b, off + (k - 1) * 2, none⟩ = some (.int .i64 p)) := by
        rcases Nat.eq_zero_or_pos k with h0 | h0
        · exact .inl h0
        · obtain ⟨b', off', y, hA', _, hy, e0, _⟩ := StpsAt.get (k := k - 1) (Hs.out.carry (Flat.carried _) (hbr.mono hB) (Nat.le_refl B)) (by rw [← hn'.out]; omega)
          injection hA' with hA'
          injection hA' with h1 h2
          subst h1; subst h2
          exact .inr ⟨h0, y.1, hide (by rw [lastOf, if_neg (by omega), hy]; rfl), e0⟩
      clear hx hq hbl
      obtain ⟨f, v⟩ := x
      simp only at c0 c1 hs1 Hnext
      have fin : ∀ r : Bool, stepsOk l = r → Hid (r = stepsOk l) := fun r h => hide h.symm
      -- the ways
      have hways : (coordOk f = false ∧ Hid (false = stepsOk l)) ∨
          (coordOk f = true ∧ decide (v < 0) = true ∧ Hid (false = stepsOk l)) ∨
          (coordOk f = true ∧ decide (v < 0) = false ∧ decide (1099511627776 < v) = true ∧ Hid (false = stepsOk l)) ∨
          (coordOk f = true ∧ decide (v < 0) = false ∧ decide (1099511627776 < v) = false) := by
        cases h1 : coordOk f
        · exact .inl ⟨rfl, fin _ (by rw [hs1.out, h1]; rfl)⟩
        · right
          by_cases h2 : v < 0
          · exact .inl ⟨rfl, by simpa using h2, fin _ (by rw [hs1.out, h1, within, show decide (0 ≤ v) = false by simpa using h2]; rfl)⟩
          · right
            by_cases h3 : 1099511627776 < v
            · exact .inl ⟨rfl, by simpa using h2, by simpa using h3, fin _ (by rw [hs1.out, h1, within, show decide (v ≤ 1099511627776) = false by simpa using h3]; simp)⟩
            · exact .inr ⟨rfl, by simpa using h2, by simpa using h3⟩
      rcases hways with ⟨p0, hres⟩ | ⟨p0, q1, hres⟩ | ⟨p0, q1, q2, hres⟩ | ⟨p0, q1, q2⟩
      rotate_right 1
      · have HP := hide (fun (W : World) => place_any f W)
        rw [p0] at HP
        have hw1 := show within v 0 1099511627776 = true by simp [within] at *; omega
        have hs2 := hide (hs1.out.trans (by rw [p0, hw1, Bool.true_and, Bool.true_and]))
        clear p0 hw1 hs1 fin
        rcases hprev with h0 | ⟨h0, p, hp, e0⟩
        · have hs3 := hide (show stepsOk l = stepsFrom (lastOf l (k + 1)) (l.drop (k + 1)) by rw [hs2.out, Hnext.out, lastOf, if_pos h0]; rfl)
          have q3 : decide (0 < k) = false := by simp; omega
          clear h0
          go_wp2_with fail
          obtain ⟨w1, hw1⟩ : ∃ w1, w1 = wr.alloc (.cells #[.int .i64 f, .int .i64 v] 112) := ⟨_, rfl⟩
          have hb1 := Blk.new wr 112 #[.int .i64 f, .int .i64 v]
          have Hw1 := hide (hbr.alloc hbr.size (.cells #[.int .i64 f, .int .i64 v] 112))
          rw [← hw1] at hb1 Hw1 ⊢
          have g0 := hb1.cell 0
          have g1 := hb1.cell 1
          simp at g0 g1
          clear hb1
          clear hw1 c0 c1
          go_quiet ((go_at_call 200; exact quiet_eq (HP.out _)))
          go_wp2_with fail
          go_roundw
          case rel => exact ⟨k + 1, by omega, by go_num, hs3, below_drewN' Hw1.out _⟩
          case measure => simp [intOf]; omega
        · have hs3 := hide (hs2.out.trans (by rw [hp.out]))
          have q3 : decide (0 < (k : Int)) = true := by simp; omega
          by_cases hle : f ≤ p
          · have q4 : decide (f ≤ p) = true := by simpa using hle
            have hres := hide (show false = stepsOk l by rw [hs3.out]; simp; omega)
            go_wp2_with fail
            obtain ⟨w1, hw1⟩ : ∃ w1, w1 = wr.alloc (.cells #[.int .i64 f, .int .i64 v] 112) := ⟨_, rfl⟩
            have hb1 := Blk.new wr 112 #[.int .i64 f, .int .i64 v]
            have Hw1 := hide (hbr.alloc hbr.size (.cells #[.int .i64 f, .int .i64 v] 112))
            rw [← hw1] at hb1 Hw1 ⊢
            have g0 := hb1.cell 0
            have g1 := hb1.cell 1
            simp at g0 g1
            clear hb1
            have e1 : w1.cell? ⟨b, off + (k - 1) * 2, none⟩ = some (.int .i64 p) := by rw [hw1]; exact (World.cell?_alloc_lt _ _ _ hbw).trans e0
            clear hw1 c0 c1 e0 hle
            go_quiet ((go_at_call 200; exact quiet_eq (HP.out _)))
            go_wp2_with fail
            go_ret
            exact ⟨ret_bool hres.out, below_drewN' Hw1.out _⟩
          · have q4 : decide (f ≤ p) = false := by simpa using hle
            have hs4 := hide (show stepsOk l = stepsFrom (lastOf l (k + 1)) (l.drop (k + 1)) by rw [hs3.out, Hnext.out]; simp; omega)
            go_wp2_with fail
            obtain ⟨w1, hw1⟩ : ∃ w1, w1 = wr.alloc (.cells #[.int .i64 f, .int .i64 v] 112) := ⟨_, rfl⟩
            have hb1 := Blk.new wr 112 #[.int .i64 f, .int .i64 v]
            have Hw1 := hide (hbr.alloc hbr.size (.cells #[.int .i64 f, .int .i64 v] 112))
            rw [← hw1] at hb1 Hw1 ⊢
            have g0 := hb1.cell 0
            have g1 := hb1.cell 1
            simp at g0 g1
            clear hb1
            have e1 : w1.cell? ⟨b, off + (k - 1) * 2, none⟩ = some (.int .i64 p) := by rw [hw1]; exact (World.cell?_alloc_lt _ _ _ hbw).trans e0
            clear hw1 c0 c1 e0 hle
            go_quiet ((go_at_call 200; exact quiet_eq (HP.out _)))
            go_wp2_with fail
            go_roundw
            case rel => exact ⟨k + 1, by omega, by go_num, hs4, below_drewN' Hw1.out _⟩
            case measure => simp [intOf]; omega
      all_goals
        have HP := hide (fun (W : World) => place_any f W)
        rw [p0] at HP
        clear p0 hprev fin
        go_wp2_with fail
        obtain ⟨w1, hw1⟩ : ∃ w1, w1 = wr.alloc (.cells #[.int .i64 f, .int .i64 v] 112) := ⟨_, rfl⟩
        have hb1 := Blk.new wr 112 #[.int .i64 f, .int .i64 v]
        have Hw1 := hide (hbr.alloc hbr.size (.cells #[.int .i64 f, .int .i64 v] 112))
        rw [← hw1] at hb1 Hw1 ⊢
        have g0 := hb1.cell 0
        have g1 := hb1.cell 1
        simp at g0 g1
        clear hb1
        clear hw1 c0 c1
        go_quiet ((go_at_call 200; exact quiet_eq (HP.out _)))
        go_wp2_with fail
        go_ret
        exact ⟨ret_bool hres.out, below_drewN' Hw1.out _⟩
    · obtain rfl : k = n := by omega
      have hfull := hide (show stepsOk l = true by rw [hq.out, hn'.out, List.drop_length]; rfl)
      go_wp2_with fail
      go_ret
      exact ⟨ret_bool hfull.out.symm, hbr⟩
end Go.Proofs.YtkmpddaobncheaaGreatDoor
namespace Go.Proofs.YtkmpddaobncheaaGreatDoor
open Go.RowKit

abbrev dmV (d : DemD) (A : Option Addr) (n c : Nat) : Value := .agg #[.string d.name, .int .i64 d.zone.lo.1, .int .i64 d.zone.lo.2.1, .int .i64 d.zone.lo.2.2, .int .i64 d.zone.hi.1, .int .i64 d.zone.hi.2.1, .int .i64 d.zone.hi.2.2, .slice A n c]
abbrev dmC (d : DemD) (A : Option Addr) (n c : Nat) : Array Value := #[.string d.name, .int .i64 d.zone.lo.1, .int .i64 d.zone.lo.2.1, .int .i64 d.zone.lo.2.2, .int .i64 d.zone.hi.1, .int .i64 d.zone.hi.2.1, .int .i64 d.zone.hi.2.2, .slice A n c]
/-- Names are no longer than a machine's string, lists of steps than a machine's list. -/
def DemTame (l : List DemD) : Prop := ∀ d ∈ l, d.name.size ≤ maxLen ∧ (d.steps.length : Int) ≤ 9223372036854775807
set_option maxHeartbeats 2000000 in
theorem demandRight_any (d : DemD) (A : Option Addr) (c : Nat) (w : World) {B : Nat} (h : StpsAt w B A d.steps) (hB : B ≤ w.heap.size) (hm : d.name.size ≤ maxLen) (hl : (d.steps.length : Int) ≤ 9223372036854775807) :
    Calls Tryz.prog 124 #[dmV d A d.steps.length c] w fun e w' => e = .returned (.bool (demOk d)) ∧ Below w.heap.size w w' := by
  have HN := hide (fun (wz : World) => isName_any d.name wz hm)
  have HX := hide (fun (wz : World) => boxValid_any d.zone wz)
  have HS := hide (fun (wz : World) (hz : Below w.heap.size w wz) => stepsValid_any A d.steps d.steps.length c wz (h.carry (Flat.carried _) (hz.mono hB) (Nat.le_refl B)) (Nat.le_trans hB hz.size) rfl hl)
  obtain ⟨tn, htn⟩ : ∃ t, t = isName d.name := ⟨_, rfl⟩
  obtain ⟨tx, htx⟩ : ∃ t, t = boxOk d.zone := ⟨_, rfl⟩
  obtain ⟨ts, hts⟩ : ∃ t, t = stepsOk d.steps := ⟨_, rfl⟩
  have Hr := hide (show demOk d = (tn && tx && ts) by rw [demOk, htn, htx, hts])
  rw [← htn] at HN
  rw [← htx] at HX
  rw [← hts] at HS
  clear htn htx hts h
  have Hb := hide (Blk.new w 54 (dmC d A d.steps.length c))
  have Hw := hide (below_new w (.cells (dmC d A d.steps.length c) 54))
  obtain ⟨name, ⟨⟨x, y, z⟩, ⟨x2, y2, z2⟩⟩, steps⟩ := d
  simp only [dmC] at HN HX HS Hb Hw
  obtain ⟨n, hn⟩ : ∃ n, n = steps.length := ⟨_, rfl⟩
  simp only [dmV]
  rw [← hn] at HS Hb Hw ⊢
  clear hn
  cases tn
  · go_enter Tryz.func124, Tryz.ntmps124
    go_wp2_with (go_at_call 46; refine (HN.out _).mono ?_; rintro e w2 ⟨rfl, rfl⟩)
    go_ret
    exact ⟨ret_bool Hr.out.symm, Hw.out⟩
  cases tx
  · go_enter Tryz.func124, Tryz.ntmps124
    go_wp2_with (first
      | (go_at_call 46; refine (HN.out _).mono ?_; rintro e w2 ⟨rfl, rfl⟩)
      | (go_at_call 178; refine (HX.out _).mono ?_; rintro e w2 ⟨rfl, hb2⟩))
    go_ret
    exact ⟨ret_bool Hr.out.symm, below_step Hw.out hb2 (Nat.le_refl _)⟩
  · go_enter Tryz.func124, Tryz.ntmps124
    go_wp2_with (first
      | (go_at_call 46; refine (HN.out _).mono ?_; rintro e w2 ⟨rfl, rfl⟩)
      | (go_at_call 178; refine (HX.out _).mono ?_; rintro e w2 ⟨rfl, hb2⟩; have c7 := (Hb.out.keep hb2).cell 7; simp at c7)
      | (go_at_call 137; refine (HS.out _ (below_step Hw.out hb2 (Nat.le_refl _))).mono ?_; rintro e w3 ⟨rfl, hb3⟩))
    go_ret
    exact ⟨ret_bool Hr.out.symm, below_step (below_step Hw.out hb2 (Nat.le_refl _)) hb3 (Nat.le_refl _)⟩
set_option maxHeartbeats 1000000 in
theorem indexFuncDem_any (A : Option Addr) (l : List DemD) (n c : Nat) (fid : FuncId) (caps : Array Value) (p : DemD → Bool) (w : World) {B : Nat} (h : DemsAt w B A l) (hB : B ≤ w.heap.size) (hn : n = l.length) (hm : n ≤ 60000)
    (hc : ∀ args w, (callFunc fid args).run Tryz.prog w = .ok (.enter fid args) w)
    (hf : ∀ x A' c' (W : World), x ∈ l → Below w.heap.size w W → Calls Tryz.prog fid (#[dmV x A' x.steps.length c'] ++ caps) W fun e W' => e = .returned (.bool (p x)) ∧ Below W.heap.size W W') :
    Calls Tryz.prog 179 #[.slice A n c, .func (.func fid) #[] caps] w fun e w' => e = .returned (.int .i64 (idx p l)) ∧ Below w.heap.size w w' := by
  have Hf := hide hf
  have hn' := hide hn
  have Hs := hide h
  clear hf hn h
  go_enter Tryz.func179, Tryz.ntmps179
  go_wp2_with fail
  go_loopw [8] (fun i wr => ∃ k : Nat, k ≤ n ∧ i = .int .i64 k ∧ NoneTo p l k ∧ Below w.heap.size w wr) (fun i _ => n - (intOf i).toNat)
  case atStart => exact ⟨0, Nat.zero_le _, rfl, NoneTo.zero _ _, Below.refl _ _⟩
  case round =>
    obtain ⟨k, hk, rfl, hw, hb⟩ := hrel
    by_cases hlt : k < n
    · obtain ⟨b, off, x, A', c', rfl, hbl, hx, hi, hcells⟩ := DemsAt.get (k := k) (Hs.out.carry demR_carried (hb.mono hB) (Nat.le_refl _)) (by rw [← hn'.out]; exact hlt)
      have h0 := hcells 0 _ rfl
      have h1 := hcells 1 _ rfl
      have h2 := hcells 2 _ rfl
      have h3 := hcells 3 _ rfl
      have h4 := hcells 4 _ rfl
      have h5 := hcells 5 _ rfl
      have h6 := hcells 6 _ rfl
      have h7 := hcells 7 _ rfl
      rw [Nat.add_zero] at h0
      have Hx := hide hx
      have HF := hide (fun (W : World) (hW : Below w.heap.size w W) => Hf.out x A' c' W (mem_of_get hx) hW)
      clear hx hi hcells hbl
      go_wp2_with fail
      refine (HF.out _ hb).mono ?_
      rintro e w1 ⟨rfl, hb1⟩
      clear h0 h1 h2 h3 h4 h5 h6 h7
      have hb2 := below_step hb hb1 (Nat.le_refl _)
      cases hp : p x
      · have Hp := hide hp
        clear hp
        go_wp2_with fail
        go_roundw
        case rel => exact ⟨k + 1, by omega, by go_num, hw.succ Hx.out Hp.out, hb2⟩
        case measure => simp [intOf]; omega
      · have Hp := hide hp
        clear hp
        go_wp2_with fail
        go_ret
        exact ⟨ret_int (hw.hit Hx.out Hp.out).symm, hb2⟩
    · obtain rfl : k = n := by omega
      go_wp2_with fail
      go_ret
      exact ⟨ret_int (NoneTo.miss (by rw [← hn'.out]; exact hw)).symm, hb⟩
set_option maxHeartbeats 400000 in
theorem containsFuncDem_any (A : Option Addr) (l : List DemD) (n c : Nat) (fid : FuncId) (caps : Array Value) (p : DemD → Bool) (w : World) {B : Nat} (h : DemsAt w B A l) (hB : B ≤ w.heap.size) (hn : n = l.length) (hm : n ≤ 60000)
    (hc : ∀ args w, (callFunc fid args).run Tryz.prog w = .ok (.enter fid args) w)
    (hf : ∀ x A' c' (W : World), x ∈ l → Below w.heap.size w W → Calls Tryz.prog fid (#[dmV x A' x.steps.length c'] ++ caps) W fun e W' => e = .returned (.bool (p x)) ∧ Below W.heap.size W W') :
    Calls Tryz.prog 125 #[.slice A n c, .func (.func fid) #[] caps] w fun e w' => e = .returned (.bool (someOf p l)) ∧ Below w.heap.size w w' := by
  have Hf := hide hf
  have hn' := hide hn
  have Hc := hide hc
  clear hf hn hc
  go_enter Tryz.func125, Tryz.ntmps125
  go_wp2_with fail
  refine (indexFuncDem_any A l n c fid caps p w h hB hn'.out hm Hc.out Hf.out).mono ?_
  rintro e w1 ⟨rfl, hb⟩
  go_wp2_with fail
  go_ret
  exact ⟨ret_bool (by rw [idx_any]; rfl), hb⟩
set_option maxHeartbeats 1000000 in
theorem demand1_any (x : DemD) (A : Option Addr) (c : Nat) (m : ByteArray) (g : Nat) (w : World) (h0 : w.cell? ⟨g, 0, none⟩ = some (.string m)) :
    Calls Tryz.prog 126 #[dmV x A x.steps.length c, .pointer (some ⟨g, 0, none⟩)] w fun e w' => e = .returned (.bool (nameIs m x)) ∧ Below w.heap.size w w' := by
  have hg : g < w.heap.size := World.block_lt_of_cell? w _ h0
  have h1 := fun o => (World.cell?_alloc_lt w o ⟨g, 0, none⟩ hg).trans h0
  obtain ⟨name, ⟨⟨x, y, z⟩, ⟨x2, y2, z2⟩⟩, steps⟩ := x
  go_enter Tryz.func126, Tryz.ntmps126
  go_wp2_with fail
  go_ret
  exact ⟨ret_bool (by rfl), below_new _ _⟩
theorem demsFrom_at {l : List DemD} {k : Nat} {d : DemD} (h : l[k]? = some d) : demsFrom (l.take k) (l.drop k) = (demOk d && !someOf (nameIs d.name) (l.take k) && demsFrom (l.take (k + 1)) (l.drop (k + 1))) := by
  rw [drop_at' h, take_snoc' h]
  rfl
set_option maxHeartbeats 4000000 in
set_option maxRecDepth 100000 in
theorem demandValid_any (A : Option Addr) (l : List DemD) (n c : Nat) (w : World) {B : Nat} (h : DemsAt w B A l) (hB : B ≤ w.heap.size) (hn : n = l.length) (hm : (n : Int) ≤ 9223372036854775807) (hcap : n ≤ c) (ht : DemTame l) :
    Calls Tryz.prog 78 #[.slice A n c] w fun e w' => e = .returned (.bool (demsOk l)) ∧ Below w.heap.size w w' := by
  have hn' := hide hn
  have Hs := hide h
  have Ht := hide ht
  by_cases h20 : 20 < n
  · have hr := hide (show demsOk l = false by simp [demsOk]; omega)
    have d0 : decide (20 < (n : Int)) = true := by simp; omega
    clear hn h h20 ht
    go_enter Tryz.func78, Tryz.ntmps78
    go_wp2_with fail
    go_ret
    exact ⟨ret_bool hr.out.symm, Below.refl _ _⟩
  have hr := hide (show demsOk l = demsFrom (l.take 0) (l.drop 0) by simp [demsOk]; omega)
  have d0 : decide (20 < (n : Int)) = false := by simp; omega
  have hn2 : n ≤ 20 := by omega
  clear hn h h20 ht hm
  go_enter Tryz.func78, Tryz.ntmps78
  go_wp2_with fail
  go_loopw [10] (fun i wr => ∃ k : Nat, k ≤ n ∧ i = .int .i64 k ∧ Hid (demsOk l = demsFrom (l.take k) (l.drop k)) ∧ Below w.heap.size w wr) (fun i _ => n - (intOf i).toNat)
  case atStart => exact ⟨0, Nat.zero_le _, rfl, hr, Below.refl _ _⟩
  case round =>
    obtain ⟨k, hk, rfl, hq, hbr⟩ := hrel
    by_cases hlt : k < n
    · have HR := hide (Hs.out.carry demR_carried (hbr.mono hB) (Nat.le_refl B))
      have hBr := Nat.le_trans hB hbr.size
      obtain ⟨b, off, x, A', c', hA, hbl, hx, hi, hcells⟩ := DemsAt.get (k := k) HR.out (by rw [← hn'.out]; exact hlt)
      have h0 := hcells 0 _ rfl
      have h1 := hcells 1 _ rfl
      have h2 := hcells 2 _ rfl
      have h3 := hcells 3 _ rfl
      have h4 := hcells 4 _ rfl
      have h5 := hcells 5 _ rfl
      have h6 := hcells 6 _ rfl
      have h7 := hcells 7 _ rfl
      rw [Nat.add_zero] at h0
      have hs1 := hide (hq.out.trans (demsFrom_at hx))
      have hxt := Ht.out x (mem_of_get hx)
      have hlk : (l.take k).length = k := by rw [List.length_take, ← hn'.out]; omega
      have HRt := hide (fun (W : World) (hW : Below wr.heap.size wr W) => demandRight_any x A' c' W (hi.carry (Flat.carried _) (hW.mono hBr) (Nat.le_refl B)) (Nat.le_trans hBr hW.size) hxt.1 hxt.2)
      have HC := hide (fun (W : World) (hW : Below wr.heap.size wr W) (caps : Array Value) (hf : ∀ y A2 c2 (W2 : World), y ∈ l.take k → Below W.heap.size W W2 → Calls Tryz.prog 126 (#[dmV y A2 y.steps.length c2] ++ caps) W2 fun e W' => e = .returned (.bool (nameIs x.name y)) ∧ Below W2.heap.size W2 W') (c3 : Nat) =>
        containsFuncDem_any A (l.take k) k c3 126 caps (nameIs x.name) W (SlOf.take (HR.out.carry demR_carried (hW.mono hBr) (Nat.le_refl B)) k) (Nat.le_trans hBr hW.size) hlk.symm (by omega) Tryz.call126 hf)
      obtain ⟨tr, htr⟩ : ∃ t, t = demOk x := ⟨_, rfl⟩
      obtain ⟨ts, hts⟩ : ∃ t, t = someOf (nameIs x.name) (l.take k) := ⟨_, rfl⟩
      rw [← htr, ← hts] at hs1
      rw [← htr] at HRt
      rw [← hts] at HC
      have Hb := hide (Blk.new wr 54 (dmC x A' x.steps.length c'))
      have Hw := hide (below_new wr (.cells (dmC x A' x.steps.length c') 54))
      subst hA
      clear hx hi hcells hbl htr hts hq hlk hxt
      obtain ⟨name, ⟨⟨x, y, z⟩, ⟨x2, y2, z2⟩⟩, steps⟩ := x
      simp only [dmC] at h0 h1 h2 h3 h4 h5 h6 h7 HRt HC Hb Hw
      cases tr
      · have hres := hide (show false = demsOk l by rw [hs1.out]; rfl)
        go_wp2_with (go_at_call 124; refine (HRt.out _ Hw.out).mono ?_; rintro e w2 ⟨rfl, hb2⟩)
        go_ret
        exact ⟨ret_bool hres.out, hbr.trans ((below_step Hw.out hb2 (Nat.le_refl _)).mono hbr.size)⟩
      · go_wp2_with fail
        refine (HRt.out _ Hw.out).mono ?_
        rintro e w2 ⟨rfl, hb2⟩
        have Hb2 := hide (Hb.out.keep hb2)
        have Hw2 := hide (below_step Hw.out hb2 (Nat.le_refl _))
        have c0 := Hb2.out.cell 0
        simp at c0
        clear hb2
        go_wp2_with fail
        refine (HC.out _ Hw2.out #[.pointer (some ⟨wr.heap.size, 0, none⟩)] (fun y A2 c2 W2 _ hW => demand1_any y A2 c2 name wr.heap.size W2 (by have h9 := (Hb2.out.keep hW).cell 0; simpa using h9)) _).mono ?_
        rintro e w3 ⟨rfl, hb3⟩
        have Hw3 := hide (hbr.trans ((below_step Hw2.out hb3 (Nat.le_refl _)).mono hbr.size))
        clear hb3
        cases ts
        · have hnext := hide (show demsOk l = demsFrom (l.take (k + 1)) (l.drop (k + 1)) by rw [hs1.out]; rfl)
          go_wp2_with fail
          go_roundw
          case rel => exact ⟨k + 1, by omega, by go_num, hnext, Hw3.out⟩
          case measure => simp [intOf]; omega
        · have hres := hide (show false = demsOk l by rw [hs1.out]; rfl)
          go_wp2_with fail
          go_ret
          exact ⟨ret_bool hres.out, Hw3.out⟩
    · obtain rfl : k = n := by omega
      have hfull := hide (show demsOk l = true by rw [hq.out, hn'.out, List.drop_length]; rfl)
      go_wp2_with fail
      go_ret
      exact ⟨ret_bool hfull.out.symm, hbr⟩
end Go.Proofs.YtkmpddaobncheaaGreatDoor
namespace Go.Proofs.YtkmpddaobncheaaGreatDoor
open Go.RowKit

set_option maxHeartbeats 400000 in
theorem axis_any (n : Int) (w : World) : Calls Tryz.prog 235 #[.int .i64 n] w fun e w' => e = .returned (.bool (axisN n)) ∧ w = w' := by
  have hways : (decide (n = 0) = true ∧ Hid (false = axisN n)) ∨ (decide (n = 0) = false ∧ decide (-3 ≤ n) = false ∧ Hid (false = axisN n)) ∨ (decide (n = 0) = false ∧ decide (-3 ≤ n) = true ∧ decide (n ≤ 3) = false ∧ Hid (false = axisN n)) ∨ (decide (n = 0) = false ∧ decide (-3 ≤ n) = true ∧ decide (n ≤ 3) = true ∧ Hid (true = axisN n)) := by
    have key : ∀ r, (!decide (n = 0) && decide (-3 ≤ n) && decide (n ≤ 3)) = r → Hid (r = axisN n) := fun r hr => hide (by rw [axisN, hr])
    revert key
    generalize axisN n = R
    cases decide (n = 0) <;> cases decide (-3 ≤ n) <;> cases decide (n ≤ 3) <;> intro key <;> simp <;> first | exact hide (key false rfl).out.symm | exact hide (key true rfl).out.symm
  rcases hways with ⟨q0, hres⟩ | ⟨q0, q1, hres⟩ | ⟨q0, q1, q2, hres⟩ | ⟨q0, q1, q2, hres⟩
  all_goals
    have q9 : (n != 0) = !decide (n = 0) := by rw [Bool.eq_iff_iff]; simp
    rw [q0] at q9
    clear q0
    go_enter Tryz.func235, Tryz.ntmps235
    go_wp2_with fail
    go_ret
    exact ⟨ret_bool hres.out, rfl⟩
def axis6 (n : Int) : Prop := n = 1 ∨ n = 2 ∨ n = 3 ∨ n = -1 ∨ n = -2 ∨ n = -3
theorem axis6_of {n : Int} (h : axisN n = true) : axis6 n := by
  simp only [axisN, Bool.and_eq_true, Bool.not_eq_true', decide_eq_false_iff_not, decide_eq_true_eq] at h
  unfold axis6
  omega
abbrev ptV (p : Pt) : Value := .agg #[.int .i64 p.1, .int .i64 p.2.1, .int .i64 p.2.2]
set_option maxHeartbeats 2000000 in
theorem unit_any (n : Int) (w : World) (h : axis6 n) : Calls Tryz.prog 300 #[.int .i64 n] w fun e w' => e = .returned (ptV (unitV n)) ∧ Below w.heap.size w w' := by
  have B1 := hide (Blk.new w 297 #[.int .i64 0, .int .i64 0, .int .i64 0])
  rcases h with rfl | rfl | rfl | rfl | rfl | rfl
  all_goals
    go_enter Tryz.func300, Tryz.ntmps300
    go_wp2_with fail
    refine bodyPost_ret (results_c rfl rfl ((Blk.new w _ _).alloc _) Tryz.underlying297 rfl (by kernel_rfl)) rfl ?_
    exact ⟨rfl, below_new2 w _ _⟩
theorem mul1_bound {a b : Int} (ha : -1 ≤ a ∧ a ≤ 1) (hb : -1 ≤ b ∧ b ≤ 1) : -1 ≤ a * b ∧ a * b ≤ 1 := by
  have h1 : a = -1 ∨ a = 0 ∨ a = 1 := by omega
  rcases h1 with rfl | rfl | rfl <;> omega
theorem mulM_bound {a b m : Int} (ha : -1 ≤ a ∧ a ≤ 1) (hb : -m ≤ b ∧ b ≤ m) (hm : 0 ≤ m) : -m ≤ a * b ∧ a * b ≤ m := by
  have h1 : a = -1 ∨ a = 0 ∨ a = 1 := by omega
  rcases h1 with rfl | rfl | rfl <;> omega
def unitish (p : Pt) : Prop := (-1 ≤ p.1 ∧ p.1 ≤ 1) ∧ (-1 ≤ p.2.1 ∧ p.2.1 ≤ 1) ∧ (-1 ≤ p.2.2 ∧ p.2.2 ≤ 1)
theorem unitish_of {n : Int} (h : axis6 n) : unitish (unitV n) := by
  unfold unitish
  rcases h with rfl | rfl | rfl | rfl | rfl | rfl <;> decide
theorem cross_unit {x y : Int} (h : turnOk x y = true) : unitish (crossV (unitV x) (unitV y)) := by
  simp only [turnOk, Bool.and_eq_true, Bool.not_eq_true', decide_eq_false_iff_not] at h
  have hx := axis6_of h.1.1.1
  have hy := axis6_of h.1.1.2
  have h1 := h.1.2
  have h2 := h.2
  clear h
  unfold unitish
  rcases hx with rfl | rfl | rfl | rfl | rfl | rfl <;> rcases hy with rfl | rfl | rfl | rfl | rfl | rfl <;> first | (exfalso; omega) | decide
set_option maxHeartbeats 4000000 in
set_option maxRecDepth 100000 in
theorem cross_any (a b : Pt) (w : World) (ha : unitish a) (hb : unitish b) :
    Calls Tryz.prog 301 #[ptV a, ptV b] w fun e w' => e = .returned (ptV (crossV a b)) ∧ Below w.heap.size w w' := by
  obtain ⟨a1, a2, a3⟩ := a
  obtain ⟨b1, b2, b3⟩ := b
  obtain ⟨x1, x2, x3⟩ := ha
  obtain ⟨y1, y2, y3⟩ := hb
  simp only at x1 x2 x3 y1 y2 y3
  have m1 := mul1_bound x2 y3
  have m2 := mul1_bound x3 y2
  have m3 := mul1_bound x3 y1
  have m4 := mul1_bound x1 y3
  have m5 := mul1_bound x1 y2
  have m6 := mul1_bound x2 y1
  go_enter Tryz.func301, Tryz.ntmps301
  go_wp2_with fail
  refine bodyPost_ret (results_c rfl rfl (Blk.new2 w _ _ _ _) Tryz.underlying297 rfl (by kernel_rfl)) rfl ?_
  exact ⟨rfl, (below_new2 w _ _).alloc (by simp; omega) _⟩
end Go.Proofs.YtkmpddaobncheaaGreatDoor
namespace Go.Proofs.YtkmpddaobncheaaGreatDoor
open Go.RowKit

/-- The hull of boxes, one given ahead. -/
def hullOn (a : BoxD) (l : List BoxD) : BoxD := l.foldl (fun a b => ⟨minP a.lo b.lo, maxP a.hi b.hi⟩) a
theorem hullOn_snoc (a : BoxD) (l : List BoxD) (b : BoxD) : hullOn a (l ++ [b]) = ⟨minP (hullOn a l).lo b.lo, maxP (hullOn a l).hi b.hi⟩ := by simp [hullOn, List.foldl_append]
def hullOf (l : List BoxD) : BoxD := match l with
  | [] => ⟨(0, 0, 0), (0, 0, 0)⟩
  | b :: _ => hullOn b l
set_option maxHeartbeats 400000 in
theorem boxAll_any (A : Option Addr) (l : List BoxD) (n c : Nat) (w : World) {B : Nat} (h : BoxesAt w B A l) (hB : B ≤ w.heap.size) (hn : n = l.length) (hm : n ≤ 300000) :
    Calls Tryz.prog 315 #[.slice A n c] w fun e w' => e = .returned (.bool (l.all boxOk)) ∧ Below w.heap.size w w' := by
  have HF := hide (containsFuncBox_any A l n c 319 badBox w h hB hn hm Tryz.call319 (fun x W _ => badBox_any x W))
  have Hr := hide (show l.all boxOk = !someOf badBox l by rw [all_some]; rfl)
  clear h hn
  go_enter Tryz.func315, Tryz.ntmps315
  go_wp2_with fail
  refine HF.out.mono ?_
  rintro e w2 ⟨rfl, hb2⟩
  go_wp2_with fail
  go_ret
  exact ⟨ret_bool Hr.out.symm, hb2⟩
set_option maxHeartbeats 4000000 in
set_option maxRecDepth 100000 in
theorem boxHull_ok (A : Option Addr) (l : List BoxD) (n c : Nat) (w : World) {B : Nat} (h : BoxesAt w B A l) (hB : B ≤ w.heap.size) (hn : n = l.length) (hm : n ≤ 300000) (hne : 1 ≤ n) (hok : l.all boxOk = true) :
    Calls Tryz.prog 303 #[.slice A n c] w fun e w' => e = .returned (.tuple #[bx (hullOf l), .int .i64 0]) ∧ Below w.heap.size w w' := by
  have HA := hide (fun (wz : World) (hz : Below w.heap.size w wz) => boxAll_any A l n c wz (h.carry (Flat.carried _) (hz.mono hB) (Nat.le_refl B)) (Nat.le_trans hB hz.size) hn hm)
  rw [hok] at HA
  have Hs := hide h
  have hn' := hide hn
  clear hok h hn
  obtain ⟨b0, h0⟩ : ∃ b, l[0]? = some b := ⟨_, List.getElem?_eq_getElem (by rw [← hn'.out]; omega)⟩
  have Hh := hide (show hullOf l = hullOn b0 l by
    cases l with
    | nil => simp at h0
    | cons b r => simp at h0; subst h0; rfl)
  have H0 := hide h0
  clear h0
  go_enter Tryz.func303, Tryz.ntmps303
  go_wp2_with fail
  have Hw := hide (below_new w (.cells #[.int .i64 0, .int .i64 0, .int .i64 0, .int .i64 0, .int .i64 0, .int .i64 0] 51))
  have Hb := hide (Blk.new w 51 #[.int .i64 0, .int .i64 0, .int .i64 0, .int .i64 0, .int .i64 0, .int .i64 0])
  refine (HA.out _ Hw.out).mono ?_
  rintro e w2 ⟨rfl, hb2⟩
  have Hw2 := hide (below_step Hw.out hb2 (Nat.le_refl _))
  have Hb2 := hide (Hb.out.keep hb2)
  have q0 : ((n : Int) == 0) = false := by simp; omega
  obtain ⟨b, off, x, hA, hbl, hx, k0, k1, k2, k3, k4, k5⟩ := BoxesAt.get (k := 0) (Hs.out.carry (Flat.carried _) (Hw2.out.mono hB) (Nat.le_refl B)) (by rw [← hn'.out]; omega)
  rw [H0.out] at hx
  injection hx with hx
  subst hx
  subst hA
  simp only [Nat.zero_mul, Nat.add_zero] at k0 k1 k2 k3 k4 k5
  have hpos : 0 < n := by omega
  clear hb2 hbl
  go_wp2_with fail
  obtain ⟨w3, hw3⟩ : ∃ w3, w3 = w2.alloc (.cells #[.int .i64 b0.lo.1, .int .i64 b0.lo.2.1, .int .i64 b0.lo.2.2, .int .i64 b0.hi.1, .int .i64 b0.hi.2.1, .int .i64 b0.hi.2.2] 51) := ⟨_, rfl⟩
  have Ho := hide (Blk.new w2 51 #[.int .i64 b0.lo.1, .int .i64 b0.lo.2.1, .int .i64 b0.lo.2.2, .int .i64 b0.hi.1, .int .i64 b0.hi.2.1, .int .i64 b0.hi.2.2])
  have Hw3 := hide (below_new w2 (.cells #[.int .i64 b0.lo.1, .int .i64 b0.lo.2.1, .int .i64 b0.lo.2.2, .int .i64 b0.hi.1, .int .i64 b0.hi.2.1, .int .i64 b0.hi.2.2] 51))
  have Hsz := hide (show w3.heap.size = w2.heap.size + 1 by rw [hw3]; simp)
  rw [← hw3] at Ho Hw3 ⊢
  clear hw3
  go_loopw [22] (fun i wr => ∃ k : Nat, k ≤ n ∧ i = .int .i64 k ∧ (∃ a1 a2 a3 b1 b2 b3 : Int, Blk wr w2.heap.size 51 #[.int .i64 a1, .int .i64 a2, .int .i64 a3, .int .i64 b1, .int .i64 b2, .int .i64 b3] ∧ Hid (hullOn b0 (l.take k) = ⟨(a1, a2, a3), (b1, b2, b3)⟩)) ∧ Below w2.heap.size w2 wr) (fun i _ => n - (intOf i).toNat)
  case atStart => exact ⟨0, Nat.zero_le _, rfl, ⟨_, _, _, _, _, _, Ho.out, hide rfl⟩, Hw3.out⟩
  case round =>
    obtain ⟨k, hk, rfl, ⟨a1, a2, a3, b1, b2, b3, hbo, hho⟩, hbr⟩ := hrel
    have Hbo := hide hbo
    clear hbo
    by_cases hlt : k < n
    · obtain ⟨b', off', y, hA, hbl, hy, e0, e1, e2, e3, e4, e5⟩ := BoxesAt.get (k := k) (Hs.out.carry (Flat.carried _) ((Hw2.out.trans (hbr.mono Hw2.out.size)).mono hB) (Nat.le_refl B)) (by rw [← hn'.out]; exact hlt)
      injection hA with hA
      injection hA with hA1 hA2
      subst hA1
      subst hA2
      obtain ⟨⟨y1, y2, y3⟩, ⟨z1, z2, z3⟩⟩ := y
      simp only at e0 e1 e2 e3 e4 e5
      have Hn := hide (show hullOn b0 (l.take (k + 1)) = ⟨(min a1 y1, min a2 y2, min a3 y3), (max b1 z1, max b2 z2, max b3 z3)⟩ by rw [take_snoc' hy, hullOn_snoc, hho.out]; rfl)
      have hbl2 : b < wr.heap.size := by have := (Hw2.out.trans (hbr.mono Hw2.out.size)).size; omega
      have g0 := Hbo.out.cell 0
      have g1 := Hbo.out.cell 1
      have g2 := Hbo.out.cell 2
      have g3 := Hbo.out.cell 3
      have g4 := Hbo.out.cell 4
      have g5 := Hbo.out.cell 5
      simp at g0 g1 g2 g3 g4 g5
      have f0 := Hbo.out.frozen 0
      have f1 := Hbo.out.frozen 1
      have f2 := Hbo.out.frozen 2
      have f3 := Hbo.out.frozen 3
      have f4 := Hbo.out.frozen 4
      have f5 := Hbo.out.frozen 5
      have hgl := Hbo.out.lt
      clear hy hho hbl
      go_wp2_with fail
      go_roundw
      case rel =>
        refine ⟨k + 1, by omega, by go_num, ⟨_, _, _, _, _, _, ((((((Hbo.out.set_ 0 _).set_ 1 _).set_ 2 _).set_ 3 _).set_ 4 _).set_ 5 _).alloc _, hide ?_⟩, ?_⟩
        · rw [Hn.out]
          simp only [if_min, if_max]
        · exact ((((((hbr.setCell (Nat.le_refl _) _).setCell (Nat.le_refl _) _).setCell (Nat.le_refl _) _).setCell (Nat.le_refl _) _).setCell (Nat.le_refl _) _).setCell (Nat.le_refl _) _).alloc (by simpa [World.setCell] using hbr.size) _
      case measure => simp [intOf]; omega
    · obtain rfl : k = n := by omega
      have hfull : hullOf l = ⟨(a1, a2, a3), (b1, b2, b3)⟩ := by rw [Hh.out, ← hho.out, hn'.out, List.take_length]
      have Hfull := hide hfull
      have Hr := hide (Hb2.out.below hbr (by have := Hb2.out.lt; omega))
      have g0 := Hbo.out.cell 0
      have g1 := Hbo.out.cell 1
      have g2 := Hbo.out.cell 2
      have g3 := Hbo.out.cell 3
      have g4 := Hbo.out.cell 4
      have g5 := Hbo.out.cell 5
      simp at g0 g1 g2 g3 g4 g5
      have m0 := Hr.out.cell 0
      have m1 := Hr.out.cell 1
      have m2 := Hr.out.cell 2
      have m3 := Hr.out.cell 3
      have m4 := Hr.out.cell 4
      have m5 := Hr.out.cell 5
      simp at m0 m1 m2 m3 m4 m5
      have f0 := Hr.out.frozen 0
      have f1 := Hr.out.frozen 1
      have f2 := Hr.out.frozen 2
      have f3 := Hr.out.frozen 3
      have f4 := Hr.out.frozen 4
      have f5 := Hr.out.frozen 5
      have hgl := Hr.out.lt
      have Hw9 := hide (Hw2.out.trans (hbr.mono Hw2.out.size))
      clear hho hfull
      go_wp2_with fail
      refine bodyPost_ret (results_ct rfl rfl ((((((Hr.out.set_ 0 _).set_ 1 _).set_ 2 _).set_ 3 _).set_ 4 _).set_ 5 _) Tryz.underlying51 rfl (by kernel_rfl)) rfl ?_
      refine ⟨by rw [Hfull.out]; rfl, ?_⟩
      exact (((((Hw9.out.setCell (Nat.le_refl _) _).setCell (Nat.le_refl _) _).setCell (Nat.le_refl _) _).setCell (Nat.le_refl _) _).setCell (Nat.le_refl _) _).setCell (Nat.le_refl _) _
end Go.Proofs.YtkmpddaobncheaaGreatDoor
namespace Go.Proofs.YtkmpddaobncheaaGreatDoor
open Go.RowKit

theorem thick_box {b : BoxD} (h : thickOk b = true) : boxOk b = true := by
  simp only [thickOk, Bool.and_eq_true] at h
  exact h.1.1.1
theorem solid_boxes {bs hs : List BoxD} (h : solidOk bs hs = true) : 1 ≤ bs.length ∧ bs.length ≤ 20 ∧ bs.all boxOk = true := by
  simp only [solidOk, Bool.and_eq_true, decide_eq_true_eq] at h
  exact ⟨h.1.1.1.1, h.1.1.1.2, List.all_eq_true.2 fun x hx => thick_box (List.all_eq_true.1 h.1.2 x hx)⟩
set_option maxHeartbeats 2000000 in
set_option maxRecDepth 100000 in
theorem solidHull_ok (bs hs : List BoxD) (A1 A2 : Option Addr) (n1 n2 c1 c2 : Nat) (w : World) {B : Nat} (h1 : BoxesAt w B A1 bs) (h2 : BoxesAt w B A2 hs) (hB : B ≤ w.heap.size) (hn1 : n1 = bs.length) (hn2 : n2 = hs.length) (hok : solidOk bs hs = true) :
    Calls Tryz.prog 306 #[sol A1 n1 c1 A2 n2 c2] w fun e w' => e = .returned (.tuple #[bx (hullOf bs), .int .i64 0]) ∧ Below w.heap.size w w' := by
  obtain ⟨b1, b2, b3⟩ := solid_boxes hok
  have HV := fun (W : World) (hz : Below w.heap.size w W) => solidValid_any bs hs A1 A2 n1 n2 c1 c2 W (h1.carry (Flat.carried _) (hz.mono hB) (Nat.le_refl _)) (h2.carry (Flat.carried _) (hz.mono hB) (Nat.le_refl _)) (Nat.le_trans hB hz.size) hn1 hn2
  rw [hok] at HV
  have HV := hide HV
  have HH := hide (fun (W : World) (hz : Below w.heap.size w W) => boxHull_ok A1 bs n1 c1 W (h1.carry (Flat.carried _) (hz.mono hB) (Nat.le_refl _)) (Nat.le_trans hB hz.size) hn1 (by omega) (by omega) b3)
  generalize hullOf bs = hb at *
  obtain ⟨⟨x1, x2, x3⟩, x4, x5, x6⟩ := hb
  have k0 := (Blk.new w 24 #[.slice A1 n1 c1, .slice A2 n2 c2]).alloc (.cells #[.int .i64 0, .int .i64 0, .int .i64 0, .int .i64 0, .int .i64 0, .int .i64 0] 51)
  have k1 := Blk.new1 w (.cells #[.slice A1 n1 c1, .slice A2 n2 c2] 24) 51 #[.int .i64 0, .int .i64 0, .int .i64 0, .int .i64 0, .int .i64 0, .int .i64 0]
  have K0 := hide k0
  have K1 := hide k1
  have HW := hide (below_new2 w (.cells #[.slice A1 n1 c1, .slice A2 n2 c2] 24) (.cells #[.int .i64 0, .int .i64 0, .int .i64 0, .int .i64 0, .int .i64 0, .int .i64 0] 51))
  clear h1 h2 hB hn1 hn2 hok b1 b2 b3 k0 k1
  go_enter Tryz.func306, Tryz.ntmps306
  go_wp2_with fail
  refine (HV.out _ HW.out).mono ?_
  rintro e w2 ⟨rfl, hb2⟩
  have k0 := K0.out.keep hb2
  have HW2 := hide (below_step HW.out hb2 (Nat.le_refl _))
  have K1 := hide (K1.out.keep hb2)
  have e0 := k0.cell 0
  simp at e0
  clear hb2 k0 K0 HV
  go_wp2_with fail
  refine (HH.out _ HW2.out).mono ?_
  rintro e w3 ⟨rfl, hb3⟩
  have k1 := K1.out.keep hb3
  have HW3 := hide (below_step HW2.out hb3 (Nat.le_refl _))
  have e0 := k1.cell 0
  have e1 := k1.cell 1
  have e2 := k1.cell 2
  have e3 := k1.cell 3
  have e4 := k1.cell 4
  have e5 := k1.cell 5
  have f0 := k1.frozen 0
  have f1 := k1.frozen 1
  have f2 := k1.frozen 2
  have f3 := k1.frozen 3
  have f4 := k1.frozen 4
  have f5 := k1.frozen 5
  simp at e0 e1 e2 e3 e4 e5
  have K1 := hide k1
  clear hb3 k1 HH
  go_wp2_with fail
  refine bodyPost_ret (results_ct rfl rfl ((((((K1.out.set_ 0 _).set_ 1 _).set_ 2 _).set_ 3 _).set_ 4 _).set_ 5 _) Tryz.underlying51 rfl (by kernel_rfl)) rfl ?_
  refine ⟨?_, (((((HW3.out.setCell (p := ⟨w.heap.size + 1, 0, none⟩) (Nat.le_succ _) _).setCell (p := ⟨w.heap.size + 1, 1, none⟩) (Nat.le_succ _) _).setCell (p := ⟨w.heap.size + 1, 2, none⟩) (Nat.le_succ _) _).setCell (p := ⟨w.heap.size + 1, 3, none⟩) (Nat.le_succ _) _).setCell (p := ⟨w.heap.size + 1, 4, none⟩) (Nat.le_succ _) _).setCell (p := ⟨w.heap.size + 1, 5, none⟩) (Nat.le_succ _) _⟩
  simp only [List.setIfInBounds_toArray, List.set_cons_zero, List.set_cons_succ]
  rfl
end Go.Proofs.YtkmpddaobncheaaGreatDoor
