/- The reference of layer 14: the place of a mark, whether a schedule is valid, the sum of its counts, and whether it is small. Step functions and demands: whether they are valid. The reference of layer 12: the moves of a valid bar. The hull of a solid. A search in a list of boxes by a function value that has captured variables. -/
import Derived.Test.YtmcjpdlkkpnhfaaGreatQae
import Derived.Test.YtmcjpdlkkpnhfaaGreatQag
import Derived.Deep.QuietTactic
import Derived.Test.YtmcjpdlkkpnhfaaGreatQah
import Derived.Test.YtmcjpdlkkpnhfaaGreatQai
namespace Go.Proofs.YtmcjpdlkkpnhfaaGreat
open Go.RowKit

set_option maxHeartbeats 400000 in
theorem refFind_any (A : Option Addr) (l : List BarD) (n c : Nat) (m : ByteArray) (w : World) {B : Nat} (h : BarsAt w B A l) (hn : n = l.length) (hm : n ≤ 60000) :
    Calls Tryz.prog 85 #[.slice A n c, .string m] w fun e w' => e = .returned (.int .i64 (idx (markIs m) l)) ∧ w = w' := by
  have hn' := hide hn
  have Hs := hide h
  clear hn h
  go_enter Tryz.func85, Tryz.ntmps85
  go_wp2_with fail
  go_loop [5] (fun i => ∃ k : Nat, k ≤ n ∧ i = .int .i64 k ∧ NoneTo (markIs m) l k) (fun i => n - (intOf i).toNat)
  case atStart => exact ⟨0, Nat.zero_le _, rfl, NoneTo.zero _ _⟩
  case round =>
    obtain ⟨k, hk, rfl, hw⟩ := hrel
    by_cases hlt : k < n
    · obtain ⟨b, off, x, A', c', hA, hbl, hx, hi, h0, h1, h2, h3, h4⟩ := BarsAt.get (k := k) Hs.out (by rw [← hn'.out]; exact hlt)
      subst hA
      have Hx := hide hx
      clear hx hi hbl h1 h2 h3 h4
      cases hp : markIs m x
      · have Hp := hide hp
        have hq : (x.mark.toList == m.toList) = false := hp
        clear hp
        go_wp2_with fail
        go_round
        case rel => exact ⟨k + 1, by omega, by go_num, hw.succ Hx.out Hp.out⟩
        case measure => simp [intOf]; omega
      · have Hp := hide hp
        have hq : (x.mark.toList == m.toList) = true := hp
        clear hp
        go_wp2_with fail
        go_ret
        exact ⟨ret_int (hw.hit Hx.out Hp.out).symm, rfl⟩
    · obtain rfl : k = n := by omega
      go_wp2_with fail
      go_ret
      exact ⟨ret_int (NoneTo.miss (by rw [← hn'.out]; exact hw)).symm, rfl⟩

set_option maxHeartbeats 1000000 in
theorem refSchedValid_any (A : Option Addr) (l : List BarD) (n c : Nat) (w : World) {B : Nat} (h : BarsAt w B A l) (hB : B ≤ w.heap.size) (hn : n = l.length) (hg : Tame l) (hm : n ≤ 60000) :
    Calls Tryz.prog 96 #[.slice A n c] w fun e w' => e = .returned (.bool (schedOk l)) ∧ Below w.heap.size w w' := by
  have hn' := hide hn
  have Hg := hide hg
  by_cases h60 : n ≤ 60
  · have hs : schedOk l = schedFrom l 0 l := by simp [schedOk, ← hn, h60]
    rw [hs]
    clear hs hn hg hm
    go_enter Tryz.func96, Tryz.ntmps96
    go_wp2_with fail
    go_loopw [3] (fun i wr => ∃ k : Nat, k ≤ n ∧ i = .int .i64 k ∧ Hid (schedFrom l 0 l = schedFrom l k (l.drop k)) ∧ Below w.heap.size w wr) (fun i _ => n - (intOf i).toNat)
    case atStart => exact ⟨0, Nat.zero_le _, rfl, hide rfl, Below.refl _ _⟩
    case round =>
      obtain ⟨k, hk, rfl, hw, hb⟩ := hrel
      by_cases hlt : k < n
      · have HR := hide (h.carry (hb.mono hB) (Nat.le_refl _))
        have hBr := Nat.le_trans hB hb.size
        obtain ⟨b, off, x, A', c', hA, hbl, hx, hi, h0, h1, h2, h3, h4⟩ := BarsAt.get (k := k) HR.out (by rw [← hn'.out]; exact hlt)
        have HA := hide hA
        subst hA
        have Hx := hide hx
        have hgx := Hg.out x (mem_of_get hx)
        have Hw := hide (hw.out.trans (by rw [drop_at' hx, schedFrom]))
        have Hi := hide hi
        clear hx hi h hw
        go_wp2_with fail
        refine (refBarValid_any x A' c' _ Hi.out hBr hgx.1 hgx.2).mono ?_
        rintro e w1 ⟨rfl, hb1⟩
        have c0 := (hb1.cell (p := ⟨b, off + k * 5, none⟩) (Nat.lt_of_lt_of_le hbl hBr)).trans h0
        have hbw1 := hide (below_step hb hb1 (Nat.le_refl _))
        have hB1 := hide (HR.out.carry (hb1.mono hBr) (Nat.le_refl _))
        clear h0 h1 h2 h3 h4 hb1 HR Hi
        cases hp : barOk x
        · have Hp := hide hp
          clear hp
          go_wp2_with fail
          go_ret
          exact ⟨ret_bool (by rw [Hw.out, Hp.out]; rfl), hbw1.out⟩
        · have Hp := hide hp
          clear hp
          go_wp2_with fail
          refine (refFind_any _ l n c x.mark _ hB1.out hn'.out (by omega)).mono ?_
          rintro e w2 ⟨rfl, rfl⟩
          clear c0
          cases hq : decide (idx (markIs x.mark) l = k)
          · have Hq := hide hq
            have hq' : (idx (markIs x.mark) l != (k : Int)) = true := by simpa using hq
            clear hq
            go_wp2_with fail
            go_ret
            exact ⟨ret_bool (by rw [Hw.out, Hp.out, Hq.out]; rfl), hbw1.out⟩
          · have Hq := hide hq
            have hq' : (idx (markIs x.mark) l != (k : Int)) = false := by simpa using hq
            clear hq
            go_wp2_with fail
            go_roundw
            case rel => exact ⟨k + 1, by omega, by go_num, hide (by rw [Hw.out, Hp.out, Hq.out]; rfl), hbw1.out⟩
            case measure => simp [intOf]; omega
      · obtain rfl : k = n := by omega
        go_wp2_with fail
        go_ret
        exact ⟨ret_bool (by rw [hw.out, List.drop_of_length_le (by rw [← hn'.out]; exact Nat.le_refl _)]; rfl), hb⟩
  · have hs : schedOk l = false := by simp [schedOk, ← hn, h60]
    rw [hs]
    clear hs hn hg
    go_enter Tryz.func96, Tryz.ntmps96
    go_wp2_with fail
    go_ret
    exact ⟨rfl, Below.refl _ _⟩
end Go.Proofs.YtmcjpdlkkpnhfaaGreat
namespace Go.Proofs.YtmcjpdlkkpnhfaaGreat
open Go.RowKit

theorem SlOf.take {α : Type} {w : World} {B size : Nat} {R : World → Nat → List Value → α → Prop} {A : Option Addr} {l : List α} (h : SlOf w B size R A l) (k : Nat) : SlOf w B size R A (l.take k) := by
  intro hl
  obtain ⟨b, off, hA, hb, hc⟩ := h (by rw [List.length_take] at hl; omega)
  refine ⟨b, off, hA, hb, fun j x hx => ?_⟩
  rw [List.getElem?_take] at hx
  split at hx
  · exact hc j x hx
  · cases hx
/-- A contract that leaves the world alone, met in a quiet region. -/
theorem quiet_eq {P : Program} {f : FuncId} {args : Array Value} {w : World} {n : Nat} {v : Value} (h : Calls P f args (w.drewN n) fun e w' => e = .returned v ∧ w.drewN n = w') :
    Calls P f args (w.drewN n) fun e w'' => e = .returned v ∧ ∃ m, w'' = w.drewN m := h.mono fun _ _ ⟨he, hm⟩ => ⟨he, n, hm.symm⟩
theorem below_drewN' {B : Nat} {a w : World} (h : Below B a w) (n : Nat) : Below B a (w.drewN n) := ⟨h.os, h.tape, h.output, h.size, h.block⟩
set_option maxHeartbeats 400000 in
theorem place_any (n : Int) (w : World) : Calls Tryz.prog 182 #[.int .i64 n] w fun e w' => e = .returned (.bool (coordOk n)) ∧ w = w' := by
  go_enter Tryz.func182, Tryz.ntmps182
  go_wp2
  all_goals
    go_ret
    exact ⟨ret_bool (by rw [Bool.eq_iff_iff]; simp [coordOk]; try omega), rfl⟩
def lastOf (l : List (Int × Int)) (k : Nat) : Option Int := if k = 0 then none else (l[k - 1]?).map (·.1)
theorem stepsFrom_at {l : List (Int × Int)} {k : Nat} {s : Int × Int} (h : l[k]? = some s) (last : Option Int) :
    stepsFrom last (l.drop k) = (coordOk s.1 && within s.2 0 1099511627776 && (match last with | none => true | some p => decide (p < s.1)) && stepsFrom (some s.1) (l.drop (k + 1))) := by
  rw [drop_at' h]
  rfl
set_option maxHeartbeats 4000000 in
set_option maxRecDepth 100000 in
theorem stepsValid_any (A : Option Addr) (l : List (Int × Int)) (n c : Nat) (w : World) {B : Nat} (h : StpsAt w B A l) (hB : B ≤ w.heap.size) (hn : n = l.length) (hm : (n : Int) ≤ 9223372036854775807) :
    Calls Tryz.prog 161 #[.slice A n c] w fun e w' => e = .returned (.bool (stepsOk l)) ∧ Below w.heap.size w w' := by
  have hn' := hide hn
  have Hs := hide h
  by_cases h200 : 200 < n
  · have hr := hide (show stepsOk l = false by simp [stepsOk]; omega)
    have d0 : decide (200 < (n : Int)) = true := by simp; omega
    clear hn h h200
    go_enter Tryz.func161, Tryz.ntmps161
    go_wp2_with fail
    go_ret
    exact ⟨ret_bool hr.out.symm, Below.refl _ _⟩
  have hr := hide (show stepsOk l = stepsFrom (lastOf l 0) (l.drop 0) by simp [stepsOk, lastOf]; omega)
  have d0 : decide (200 < (n : Int)) = false := by simp; omega
  have hn2 : n ≤ 200 := by omega
  clear hn h h200 hm
  go_enter Tryz.func161, Tryz.ntmps161
  go_wp2_with fail
  go_loopw [10] (fun i wr => ∃ k : Nat, k ≤ n ∧ i = .int .i64 k ∧ Hid (stepsOk l = stepsFrom (lastOf l k) (l.drop k)) ∧ Below w.heap.size w wr) (fun i _ => n - (intOf i).toNat)
  case atStart => exact ⟨0, Nat.zero_le _, rfl, hr, Below.refl _ _⟩
  case round =>
    obtain ⟨k, hk, rfl, hq, hbr⟩ := hrel
    by_cases hlt : k < n
    · obtain ⟨b, off, x, hA, hbl, hx, c0, c1⟩ := StpsAt.get (k := k) (Hs.out.carry (Flat.carried _) (hbr.mono hB) (Nat.le_refl B)) (by rw [← hn'.out]; exact hlt)
      subst hA
      have hbw : b < wr.heap.size := by have := hbr.size; omega
      have hs1 := hide (hq.out.trans (stepsFrom_at hx _))
      have Hx := hide hx
      have Hnext := hide (show lastOf l (k + 1) = some x.1 by rw [lastOf, if_neg (by omega), Nat.add_sub_cancel, hx]; rfl)
      have hprev : k = 0 ∨ (0 < k ∧ ∃ p : Int, Hid (lastOf l k = some p) ∧ wr.cell? ⟨b, off + (k - 1) * 2, none⟩ = some (.int .i64 p)) := by
        rcases Nat.eq_zero_or_pos k with h0 | h0
        · exact .inl h0
        · obtain ⟨b', off', y, hA', _, hy, e0, _⟩ := StpsAt.get (k := k - 1) (Hs.out.carry (Flat.carried _) (hbr.mono hB) (Nat.le_refl B)) (by rw [← hn'.out]; omega)
          injection hA' with hA'
          injection hA' with h1 h2
          subst h1; subst h2
          exact .inr ⟨h0, y.1, hide (by rw [lastOf, if_neg (by omega), hy]; rfl), e0⟩
      clear hx hq hbl
      obtain ⟨f, v⟩ := x
      simp only at c0 c1 hs1 Hnext
      have fin : ∀ r : Bool, stepsOk l = r → Hid (r = stepsOk l) := fun r h => hide h.symm
      -- the ways
      have hways : (coordOk f = false ∧ Hid (false = stepsOk l)) ∨
          (coordOk f = true ∧ decide (v < 0) = true ∧ Hid (false = stepsOk l)) ∨
          (coordOk f = true ∧ decide (v < 0) = false ∧ decide (1099511627776 < v) = true ∧ Hid (false = stepsOk l)) ∨
          (coordOk f = true ∧ decide (v < 0) = false ∧ decide (1099511627776 < v) = false) := by
        cases h1 : coordOk f
        · exact .inl ⟨rfl, fin _ (by rw [hs1.out, h1]; rfl)⟩
        · right
          by_cases h2 : v < 0
          · exact .inl ⟨rfl, by simpa using h2, fin _ (by rw [hs1.out, h1, within, show decide (0 ≤ v) = false by simpa using h2]; rfl)⟩
          · right
            by_cases h3 : 1099511627776 < v
            · exact .inl ⟨rfl, by simpa using h2, by simpa using h3, fin _ (by rw [hs1.out, h1, within, show decide (v ≤ 1099511627776) = false by simpa using h3]; simp)⟩
            · exact .inr ⟨rfl, by simpa using h2, by simpa using h3⟩
      rcases hways with ⟨p0, hres⟩ | ⟨p0, q1, hres⟩ | ⟨p0, q1, q2, hres⟩ | ⟨p0, q1, q2⟩
      rotate_right 1
      · have HP := hide (fun (W : World) => place_any f W)
        rw [p0] at HP
        have hw1 := show within v 0 1099511627776 = true by simp [within] at *; omega
        have hs2 := hide (hs1.out.trans (by rw [p0, hw1, Bool.true_and, Bool.true_and]))
        clear p0 hw1 hs1 fin
        rcases hprev with h0 | ⟨h0, p, hp, e0⟩
        · have hs3 := hide (show stepsOk l = stepsFrom (lastOf l (k + 1)) (l.drop (k + 1)) by rw [hs2.out, Hnext.out, lastOf, if_pos h0]; rfl)
          have q3 : decide (0 < k) = false := by simp; omega
          clear h0
          go_wp2_with fail
          obtain ⟨w1, hw1⟩ : ∃ w1, w1 = wr.alloc (.cells #[.int .i64 f, .int .i64 v] 196) := ⟨_, rfl⟩
          have hb1 := Blk.new wr 196 #[.int .i64 f, .int .i64 v]
          have Hw1 := hide (hbr.alloc hbr.size (.cells #[.int .i64 f, .int .i64 v] 196))
          rw [← hw1] at hb1 Hw1 ⊢
          have g0 := hb1.cell 0
          have g1 := hb1.cell 1
          simp at g0 g1
          clear hb1
          clear hw1 c0 c1
          go_quiet ((go_at_call 182; exact quiet_eq (HP.out _)))
          go_wp2_with fail
          go_roundw
          case rel => exact ⟨k + 1, by omega, by go_num, hs3, below_drewN' Hw1.out _⟩
          case measure => simp [intOf]; omega
        · have hs3 := hide (hs2.out.trans (by rw [hp.out]))
          have q3 : decide (0 < (k : Int)) = true := by simp; omega
          by_cases hle : f ≤ p
          · have q4 : decide (f ≤ p) = true := by simpa using hle
            have hres := hide (show false = stepsOk l by rw [hs3.out]; simp; omega)
            go_wp2_with fail
            obtain ⟨w1, hw1⟩ : ∃ w1, w1 = wr.alloc (.cells #[.int .i64 f, .int .i64 v] 196) := ⟨_, rfl⟩
            have hb1 := Blk.new wr 196 #[.int .i64 f, .int .i64 v]
            have Hw1 := hide (hbr.alloc hbr.size (.cells #[.int .i64 f, .int .i64 v] 196))
            rw [← hw1] at hb1 Hw1 ⊢
            have g0 := hb1.cell 0
            have g1 := hb1.cell 1
            simp at g0 g1
            clear hb1
            have e1 : w1.cell? ⟨b, off + (k - 1) * 2, none⟩ = some (.int .i64 p) := by rw [hw1]; exact (World.cell?_alloc_lt _ _ _ hbw).trans e0
            clear hw1 c0 c1 e0 hle
            go_quiet ((go_at_call 182; exact quiet_eq (HP.out _)))
            go_wp2_with fail
            go_ret
            exact ⟨ret_bool hres.out, below_drewN' Hw1.out _⟩
          · have q4 : decide (f ≤ p) = false := by simpa using hle
            have hs4 := hide (show stepsOk l = stepsFrom (lastOf l (k + 1)) (l.drop (k + 1)) by rw [hs3.out, Hnext.out]; simp; omega)
            go_wp2_with fail
            obtain ⟨w1, hw1⟩ : ∃ w1, w1 = wr.alloc (.cells #[.int .i64 f, .int .i64 v] 196) := ⟨_, rfl⟩
            have hb1 := Blk.new wr 196 #[.int .i64 f, .int .i64 v]
            have Hw1 := hide (hbr.alloc hbr.size (.cells #[.int .i64 f, .int .i64 v] 196))
            rw [← hw1] at hb1 Hw1 ⊢
            have g0 := hb1.cell 0
            have g1 := hb1.cell 1
            simp at g0 g1
            clear hb1
            have e1 : w1.cell? ⟨b, off + (k - 1) * 2, none⟩ = some (.int .i64 p) := by rw [hw1]; exact (World.cell?_alloc_lt _ _ _ hbw).trans e0
            clear hw1 c0 c1 e0 hle
            go_quiet ((go_at_call 182; exact quiet_eq (HP.out _)))
            go_wp2_with fail
            go_roundw
            case rel => exact ⟨k + 1, by omega, by go_num, hs4, below_drewN' Hw1.out _⟩
            case measure => simp [intOf]; omega
      all_goals
        have HP := hide (fun (W : World) => place_any f W)
        rw [p0] at HP
        clear p0 hprev fin
        go_wp2_with fail
        obtain ⟨w1, hw1⟩ : ∃ w1, w1 = wr.alloc (.cells #[.int .i64 f, .int .i64 v] 196) := ⟨_, rfl⟩
        have hb1 := Blk.new wr 196 #[.int .i64 f, .int .i64 v]
        have Hw1 := hide (hbr.alloc hbr.size (.cells #[.int .i64 f, .int .i64 v] 196))
        rw [← hw1] at hb1 Hw1 ⊢
        have g0 := hb1.cell 0
        have g1 := hb1.cell 1
        simp at g0 g1
        clear hb1
        clear hw1 c0 c1
        go_quiet ((go_at_call 182; exact quiet_eq (HP.out _)))
        go_wp2_with fail
        go_ret
        exact ⟨ret_bool hres.out, below_drewN' Hw1.out _⟩
    · obtain rfl : k = n := by omega
      have hfull := hide (show stepsOk l = true by rw [hq.out, hn'.out, List.drop_length]; rfl)
      go_wp2_with fail
      go_ret
      exact ⟨ret_bool hfull.out.symm, hbr⟩
end Go.Proofs.YtmcjpdlkkpnhfaaGreat
namespace Go.Proofs.YtmcjpdlkkpnhfaaGreat
open Go.RowKit

theorem len1 {l : List Int} (h : l.length = 1) : ∃ a, l = [a] := by
  rcases l with _ | ⟨a, _ | ⟨b, r⟩⟩ <;> simp at h
  exact ⟨a, rfl⟩
theorem len2 {l : List Int} (h : l.length = 2) : ∃ a b, l = [a, b] := by
  rcases l with _ | ⟨a, r⟩
  · simp at h
  · obtain ⟨b, rfl⟩ := len1 (l := r) (by simpa using h)
    exact ⟨a, b, rfl⟩
theorem len3 {l : List Int} (h : l.length = 3) : ∃ a b c, l = [a, b, c] := by
  rcases l with _ | ⟨a, r⟩
  · simp at h
  · obtain ⟨b, c, rfl⟩ := len2 (l := r) (by simpa using h)
    exact ⟨a, b, c, rfl⟩
theorem len5 {l : List Int} (h : l.length = 5) : ∃ a b c d e, l = [a, b, c, d, e] := by
  rcases l with _ | ⟨a, _ | ⟨b, r⟩⟩
  · simp at h
  · simp at h
  · obtain ⟨c, d, e, rfl⟩ := len3 (l := r) (by simpa using h)
    exact ⟨a, b, c, d, e, rfl⟩

theorem refMoves_ok (x : BarD) (A : Option Addr) (c : Nat) (w : World) {B : Nat} (hA : Ints w B A x.dims) (hB : B ≤ w.heap.size) (hok : barOk x = true) :
    Calls Tryz.prog 177 #[.agg #[.string x.mark, .int .i64 x.size, .int .i64 x.count, .int .i64 x.code, .slice A x.dims.length c]] w fun e w' =>
      ∃ A', e = .returned (.slice A' (legsLen x.code) (legsLen x.code)) ∧ PtsAt w' w'.heap.size A' (movesOf x) ∧ Below w.heap.size w w' := by
  have hg := barGood_of hok
  have hc : legsOf x.code ≠ [] := by
    intro he
    exact hg.legs (by simp [legLens, he])
  rw [barOk_pre] at hok
  simp only [Bool.and_eq_true, barPre, decide_eq_true_eq] at hok
  obtain ⟨⟨_, h5⟩, h6⟩ := hok
  obtain ⟨mark, size, count, code, dims⟩ := x
  simp only at h5 h6 hc hA ⊢
  clear hg
  have hb := fits_mem h6
  clear h6
  rcases code_cases hc with rfl | rfl | rfl | rfl | rfl | rfl | rfl | rfl
  · obtain ⟨d0, rfl⟩ := len1 (l := dims) (by have h : (dims.length : Int) = 1 := h5; omega)
    have h := refMoves0 mark size count d0 A c w hA hB (hb _ (by simp))
    exact h
  · obtain ⟨d0, d1, rfl⟩ := len2 (l := dims) (by have h : (dims.length : Int) = 2 := h5; omega)
    have h := refMoves11 mark size count d0 d1 A c w hA hB (hb _ (by simp)) (hb _ (by simp))
    exact h
  · obtain ⟨d0, d1, d2, rfl⟩ := len3 (l := dims) (by have h : (dims.length : Int) = 3 := h5; omega)
    have h := refMoves21 mark size count d0 d1 d2 A c w hA hB (hb _ (by simp)) (hb _ (by simp)) (hb _ (by simp))
    exact h
  · obtain ⟨d0, d1, d2, rfl⟩ := len3 (l := dims) (by have h : (dims.length : Int) = 3 := h5; omega)
    have h := refMoves26 mark size count d0 d1 d2 A c w hA hB (hb _ (by simp)) (hb _ (by simp)) (hb _ (by simp))
    exact h
  · obtain ⟨d0, d1, d2, rfl⟩ := len3 (l := dims) (by have h : (dims.length : Int) = 3 := h5; omega)
    have h := refMoves31 mark size count d0 d1 d2 A c w hA hB (hb _ (by simp)) (hb _ (by simp)) (hb _ (by simp))
    exact h
  · obtain ⟨d0, d1, d2, d3, d4, rfl⟩ := len5 (l := dims) (by have h : (dims.length : Int) = 5 := h5; omega)
    have h := refMoves41 mark size count d0 d1 d2 d3 d4 A c w hA hB (hb _ (by simp)) (hb _ (by simp)) (hb _ (by simp)) (hb _ (by simp)) (hb _ (by simp))
    exact h
  · obtain ⟨d0, d1, d2, rfl⟩ := len3 (l := dims) (by have h : (dims.length : Int) = 3 := h5; omega)
    have h := refMoves51 mark size count d0 d1 d2 A c w hA hB (hb _ (by simp)) (hb _ (by simp)) (hb _ (by simp))
    exact h
  · obtain ⟨d0, d1, d2, rfl⟩ := len3 (l := dims) (by have h : (dims.length : Int) = 3 := h5; omega)
    have h := refMoves98 mark size count d0 d1 d2 A c w hA hB (hb _ (by simp)) (hb _ (by simp)) (hb _ (by simp))
    exact h
end Go.Proofs.YtmcjpdlkkpnhfaaGreat
namespace Go.Proofs.YtmcjpdlkkpnhfaaGreat
open Go.RowKit

theorem thick_box {b : BoxD} (h : thickOk b = true) : boxOk b = true := by
  simp only [thickOk, Bool.and_eq_true] at h
  exact h.1.1.1
theorem solid_boxes {bs hs : List BoxD} (h : solidOk bs hs = true) : 1 ≤ bs.length ∧ bs.length ≤ 20 ∧ bs.all boxOk = true := by
  simp only [solidOk, Bool.and_eq_true, decide_eq_true_eq] at h
  exact ⟨h.1.1.1.1, h.1.1.1.2, List.all_eq_true.2 fun x hx => thick_box (List.all_eq_true.1 h.1.2 x hx)⟩
set_option maxHeartbeats 2000000 in
set_option maxRecDepth 100000 in
theorem solidHull_ok (bs hs : List BoxD) (A1 A2 : Option Addr) (n1 n2 c1 c2 : Nat) (w : World) {B : Nat} (h1 : BoxesAt w B A1 bs) (h2 : BoxesAt w B A2 hs) (hB : B ≤ w.heap.size) (hn1 : n1 = bs.length) (hn2 : n2 = hs.length) (hok : solidOk bs hs = true) :
    Calls Tryz.prog 40 #[sol A1 n1 c1 A2 n2 c2] w fun e w' => e = .returned (.tuple #[bx (hullOf bs), .int .i64 0]) ∧ Below w.heap.size w w' := by
  obtain ⟨b1, b2, b3⟩ := solid_boxes hok
  have HV := fun (W : World) (hz : Below w.heap.size w W) => solidValid_any bs hs A1 A2 n1 n2 c1 c2 W (h1.carry (Flat.carried _) (hz.mono hB) (Nat.le_refl _)) (h2.carry (Flat.carried _) (hz.mono hB) (Nat.le_refl _)) (Nat.le_trans hB hz.size) hn1 hn2
  rw [hok] at HV
  have HV := hide HV
  have HH := hide (fun (W : World) (hz : Below w.heap.size w W) => boxHull_ok A1 bs n1 c1 W (h1.carry (Flat.carried _) (hz.mono hB) (Nat.le_refl _)) (Nat.le_trans hB hz.size) hn1 (by omega) (by omega) b3)
  generalize hullOf bs = hb at *
  obtain ⟨⟨x1, x2, x3⟩, x4, x5, x6⟩ := hb
  have k0 := (Blk.new w 24 #[.slice A1 n1 c1, .slice A2 n2 c2]).alloc (.cells #[.int .i64 0, .int .i64 0, .int .i64 0, .int .i64 0, .int .i64 0, .int .i64 0] 63)
  have k1 := Blk.new1 w (.cells #[.slice A1 n1 c1, .slice A2 n2 c2] 24) 63 #[.int .i64 0, .int .i64 0, .int .i64 0, .int .i64 0, .int .i64 0, .int .i64 0]
  have K0 := hide k0
  have K1 := hide k1
  have HW := hide (below_new2 w (.cells #[.slice A1 n1 c1, .slice A2 n2 c2] 24) (.cells #[.int .i64 0, .int .i64 0, .int .i64 0, .int .i64 0, .int .i64 0, .int .i64 0] 63))
  clear h1 h2 hB hn1 hn2 hok b1 b2 b3 k0 k1
  go_enter Tryz.func40, Tryz.ntmps40
  go_wp2_with fail
  refine (HV.out _ HW.out).mono ?_
  rintro e w2 ⟨rfl, hb2⟩
  have k0 := K0.out.keep hb2
  have HW2 := hide (below_step HW.out hb2 (Nat.le_refl _))
  have K1 := hide (K1.out.keep hb2)
  have e0 := k0.cell 0
  simp at e0
  clear hb2 k0 K0 HV
  go_wp2_with fail
  refine (HH.out _ HW2.out).mono ?_
  rintro e w3 ⟨rfl, hb3⟩
  have k1 := K1.out.keep hb3
  have HW3 := hide (below_step HW2.out hb3 (Nat.le_refl _))
  have e0 := k1.cell 0
  have e1 := k1.cell 1
  have e2 := k1.cell 2
  have e3 := k1.cell 3
  have e4 := k1.cell 4
  have e5 := k1.cell 5
  have f0 := k1.frozen 0
  have f1 := k1.frozen 1
  have f2 := k1.frozen 2
  have f3 := k1.frozen 3
  have f4 := k1.frozen 4
  have f5 := k1.frozen 5
  simp at e0 e1 e2 e3 e4 e5
  have K1 := hide k1
  clear hb3 k1 HH
  go_wp2_with fail
  refine bodyPost_ret (results_ct rfl rfl ((((((K1.out.set_ 0 _).set_ 1 _).set_ 2 _).set_ 3 _).set_ 4 _).set_ 5 _) Tryz.underlying63 rfl (by kernel_rfl)) rfl ?_
  refine ⟨?_, (((((HW3.out.setCell (p := ⟨w.heap.size + 1, 0, none⟩) (Nat.le_succ _) _).setCell (p := ⟨w.heap.size + 1, 1, none⟩) (Nat.le_succ _) _).setCell (p := ⟨w.heap.size + 1, 2, none⟩) (Nat.le_succ _) _).setCell (p := ⟨w.heap.size + 1, 3, none⟩) (Nat.le_succ _) _).setCell (p := ⟨w.heap.size + 1, 4, none⟩) (Nat.le_succ _) _).setCell (p := ⟨w.heap.size + 1, 5, none⟩) (Nat.le_succ _) _⟩
  simp only [List.setIfInBounds_toArray, List.set_cons_zero, List.set_cons_succ]
  rfl
end Go.Proofs.YtmcjpdlkkpnhfaaGreat
namespace Go.Proofs.YtmcjpdlkkpnhfaaGreat
open Go.RowKit

set_option maxHeartbeats 1000000 in
theorem indexFuncBoxC_any (A : Option Addr) (l : List BoxD) (n c : Nat) (fid : FuncId) (caps : Array Value) (p : BoxD → Bool) (w : World) {B : Nat} (h : BoxesAt w B A l) (hB : B ≤ w.heap.size) (hn : n = l.length) (hm : n ≤ 300000)
    (hc : ∀ args w, (callFunc fid args).run Tryz.prog w = .ok (.enter fid args) w)
    (hf : ∀ x (W : World), x ∈ l → Below w.heap.size w W → Calls Tryz.prog fid (#[bx x] ++ caps) W fun e W' => e = .returned (.bool (p x)) ∧ Below W.heap.size W W') :
    Calls Tryz.prog 60 #[.slice A n c, .func (.func fid) #[] caps] w fun e w' => e = .returned (.int .i64 (idx p l)) ∧ Below w.heap.size w w' := by
  have Hf := hide hf
  have hn' := hide hn
  have Hs := hide h
  clear hf hn h
  go_enter Tryz.func60, Tryz.ntmps60
  go_wp2_with fail
  go_loopw [8] (fun i wr => ∃ k : Nat, k ≤ n ∧ i = .int .i64 k ∧ NoneTo p l k ∧ Below w.heap.size w wr) (fun i _ => n - (intOf i).toNat)
  case atStart => exact ⟨0, Nat.zero_le _, rfl, NoneTo.zero _ _, Below.refl _ _⟩
  case round =>
    obtain ⟨k, hk, rfl, hw, hb⟩ := hrel
    by_cases hlt : k < n
    · obtain ⟨b, off, x, rfl, hbl, hx, h0, h1, h2, h3, h4, h5⟩ := BoxesAt.get (k := k) (SlOf.carry (Flat.carried _) Hs.out (hb.mono hB) (Nat.le_refl _)) (by rw [← hn'.out]; exact hlt)
      have Hx := hide hx
      have HF := hide (fun (W : World) (hW : Below w.heap.size w W) => Hf.out x W (mem_of_get hx) hW)
      clear hx hbl
      go_wp2_with fail
      refine (HF.out _ hb).mono ?_
      rintro e w1 ⟨rfl, hb1⟩
      clear h0 h1 h2 h3 h4 h5
      have hb2 := below_step hb hb1 (Nat.le_refl _)
      cases hp : p x
      · have Hp := hide hp
        clear hp
        go_wp2_with fail
        go_roundw
        case rel => exact ⟨k + 1, by omega, by go_num, hw.succ Hx.out Hp.out, hb2⟩
        case measure => simp [intOf]; omega
      · have Hp := hide hp
        clear hp
        go_wp2_with fail
        go_ret
        exact ⟨ret_int (hw.hit Hx.out Hp.out).symm, hb2⟩
    · obtain rfl : k = n := by omega
      go_wp2_with fail
      go_ret
      exact ⟨ret_int (NoneTo.miss (by rw [← hn'.out]; exact hw)).symm, hb⟩
set_option maxHeartbeats 400000 in
theorem containsFuncBoxC_any (A : Option Addr) (l : List BoxD) (n c : Nat) (fid : FuncId) (caps : Array Value) (p : BoxD → Bool) (w : World) {B : Nat} (h : BoxesAt w B A l) (hB : B ≤ w.heap.size) (hn : n = l.length) (hm : n ≤ 300000)
    (hc : ∀ args w, (callFunc fid args).run Tryz.prog w = .ok (.enter fid args) w)
    (hf : ∀ x (W : World), x ∈ l → Below w.heap.size w W → Calls Tryz.prog fid (#[bx x] ++ caps) W fun e W' => e = .returned (.bool (p x)) ∧ Below W.heap.size W W') :
    Calls Tryz.prog 31 #[.slice A n c, .func (.func fid) #[] caps] w fun e w' => e = .returned (.bool (someOf p l)) ∧ Below w.heap.size w w' := by
  have Hf := hide hf
  have hn' := hide hn
  have Hc := hide hc
  clear hf hn hc
  go_enter Tryz.func31, Tryz.ntmps31
  go_wp2_with fail
  refine (indexFuncBoxC_any A l n c fid caps p w h hB hn'.out hm Hc.out Hf.out).mono ?_
  rintro e w1 ⟨rfl, hb⟩
  go_wp2_with fail
  go_ret
  exact ⟨ret_bool (by rw [idx_any]; rfl), hb⟩
end Go.Proofs.YtmcjpdlkkpnhfaaGreat
