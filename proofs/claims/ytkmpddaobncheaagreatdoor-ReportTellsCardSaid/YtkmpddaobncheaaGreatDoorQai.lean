/- Rules: whether they are valid. -/
import Derived.Test.YtkmpddaobncheaaGreatDoorQag
namespace Go.Proofs.YtkmpddaobncheaaGreatDoor
open Go.RowKit

set_option maxHeartbeats 1000000 in
theorem indexFuncInt_any (A : Option Addr) (l : List Int) (n c : Nat) (fid : FuncId) (p : Int → Bool) (w : World) {B : Nat} (h : Ints w B A l) (_hB : B ≤ w.heap.size) (hn : n = l.length) (hm : n ≤ 300000)
    (hc : ∀ args w, (callFunc fid args).run Tryz.prog w = .ok (.enter fid args) w)
    (hf : ∀ x (W : World), x ∈ l → Calls Tryz.prog fid #[.int .i64 x] W fun e W' => e = .returned (.bool (p x)) ∧ W = W') :
    Calls Tryz.prog 237 #[.slice A n c, .func (.func fid) #[] #[]] w fun e w' => e = .returned (.int .i64 (idx p l)) ∧ w = w' := by
  have Hf := hide hf
  have hn' := hide hn
  have Hs := hide h
  clear hf hn h
  go_enter Tryz.func237, Tryz.ntmps237
  go_wp2_with fail
  go_loop [8] (fun i => ∃ k : Nat, k ≤ n ∧ i = .int .i64 k ∧ NoneTo p l k) (fun i => n - (intOf i).toNat)
  case atStart => exact ⟨0, Nat.zero_le _, rfl, NoneTo.zero _ _⟩
  case round =>
    obtain ⟨k, hk, rfl, hw⟩ := hrel
    by_cases hlt : k < n
    · obtain ⟨b, off, x, rfl, hbl, hx, h0⟩ := Ints.get (k := k) Hs.out (by rw [← hn'.out]; exact hlt)
      have Hx := hide hx
      clear hx hbl
      go_wp2_with fail
      refine (Hf.out x _ (mem_of_get Hx.out)).mono ?_
      rintro e w1 ⟨rfl, rfl⟩
      cases hp : p x
      · have Hp := hide hp
        clear hp
        go_wp2_with fail
        go_round
        case rel => exact ⟨k + 1, by omega, by go_num, hw.succ Hx.out Hp.out⟩
        case measure => simp [intOf]; omega
      · have Hp := hide hp
        clear hp
        go_wp2_with fail
        go_ret
        exact ⟨ret_int (hw.hit Hx.out Hp.out).symm, rfl⟩
    · obtain rfl : k = n := by omega
      go_wp2_with fail
      go_ret
      exact ⟨ret_int (NoneTo.miss (by rw [← hn'.out]; exact hw)).symm, rfl⟩
def badRat (n : Int) : Bool := !ratOk n
set_option maxHeartbeats 400000 in
theorem badRat_any (n : Int) (w : World) : Calls Tryz.prog 181 #[.int .i64 n] w fun e w' => e = .returned (.bool (badRat n)) ∧ w = w' := by
  go_enter Tryz.func181, Tryz.ntmps181
  go_wp2
  all_goals
    go_ret
    exact ⟨ret_bool (by rw [Bool.eq_iff_iff]; simp [badRat, ratOk, within]; try omega), rfl⟩
set_option maxHeartbeats 1000000 in
theorem anchorWithin_any (A : Option Addr) (l : List Int) (n c : Nat) (w : World) {B : Nat} (h : Ints w B A l) (hB : B ≤ w.heap.size) (hn : n = l.length) (hm : n ≤ 300000) :
    Calls Tryz.prog 127 #[.slice A n c] w fun e w' => e = .returned (.bool (l.all ratOk)) ∧ w = w' := by
  have HF := hide (indexFuncInt_any A l n c 181 badRat w h hB hn hm Tryz.call181 (fun x W _ => badRat_any x W))
  have Hr := hide (show l.all ratOk = !decide (0 ≤ idx badRat l) by rw [all_some, idx_any]; rfl)
  clear h hn
  go_enter Tryz.func127, Tryz.ntmps127
  go_wp2_with fail
  have key : Calls Tryz.prog 180 #[.slice A n c, .func (.func 181) #[] #[]] w fun e w' => e = .returned (.bool (decide (0 ≤ idx badRat l))) ∧ w = w' := by
    go_enter Tryz.func180, Tryz.ntmps180
    go_wp2_with fail
    refine HF.out.mono ?_
    rintro e w1 ⟨rfl, rfl⟩
    go_wp2_with fail
    go_ret
    exact ⟨rfl, rfl⟩
  have Key := hide key
  clear key
  refine Key.out.mono ?_
  rintro e w2 ⟨rfl, rfl⟩
  go_wp2_with fail
  go_ret
  exact ⟨ret_bool Hr.out.symm, rfl⟩
abbrev rlV (r : RuleD) : Value := .agg #[.int .i64 r.num, .int .i64 r.den, .int .i64 r.poorNum, .int .i64 r.poorDen, .int .i64 r.bendNum, .int .i64 r.bendDen, .int .i64 r.lapNum, .int .i64 r.lapDen, .int .i64 r.least]
set_option maxHeartbeats 4000000 in
theorem anchorValid_any (r : RuleD) (w : World) :
    Calls Tryz.prog 79 #[rlV r] w fun e w' => e = .returned (.bool (ruleOk r)) ∧ Below w.heap.size w w' := by
  obtain ⟨a, b, c, d, e, f, g, h, i⟩ := r
  simp only [rlV]
  obtain ⟨ta, hta⟩ : ∃ t, t = [a, b, c, d, e, f, g, h].all ratOk := ⟨_, rfl⟩
  have Hr := hide (show ruleOk ⟨a, b, c, d, e, f, g, h, i⟩ = (ta && decide (d ≤ c) && decide (h ≤ g) && decide (e ≤ f) && (decide (0 ≤ i) && decide (i ≤ 1000))) by rw [hta]; rfl)
  have HA := hide (fun (W : World) (B : Nat) (A : Option Addr) (hA : Ints W B A [a, b, c, d, e, f, g, h]) (hB : B ≤ W.heap.size) => anchorWithin_any A [a, b, c, d, e, f, g, h] 8 8 W hA hB rfl (by omega))
  rw [← hta] at HA
  clear hta
  have hways : (ta = false ∧ Hid (false = ruleOk ⟨a, b, c, d, e, f, g, h, i⟩)) ∨ (ta = true ∧ decide (d ≤ c) = false ∧ Hid (false = ruleOk ⟨a, b, c, d, e, f, g, h, i⟩)) ∨ (ta = true ∧ decide (d ≤ c) = true ∧ decide (h ≤ g) = false ∧ Hid (false = ruleOk ⟨a, b, c, d, e, f, g, h, i⟩)) ∨
      (ta = true ∧ decide (d ≤ c) = true ∧ decide (h ≤ g) = true ∧ decide (e ≤ f) = false ∧ Hid (false = ruleOk ⟨a, b, c, d, e, f, g, h, i⟩)) ∨ (ta = true ∧ decide (d ≤ c) = true ∧ decide (h ≤ g) = true ∧ decide (e ≤ f) = true ∧ decide (0 ≤ i) = false ∧ Hid (false = ruleOk ⟨a, b, c, d, e, f, g, h, i⟩)) ∨
      (ta = true ∧ decide (d ≤ c) = true ∧ decide (h ≤ g) = true ∧ decide (e ≤ f) = true ∧ decide (0 ≤ i) = true ∧ decide (i ≤ 1000) = false ∧ Hid (false = ruleOk ⟨a, b, c, d, e, f, g, h, i⟩)) ∨
      (ta = true ∧ decide (d ≤ c) = true ∧ decide (h ≤ g) = true ∧ decide (e ≤ f) = true ∧ decide (0 ≤ i) = true ∧ decide (i ≤ 1000) = true ∧ Hid (true = ruleOk ⟨a, b, c, d, e, f, g, h, i⟩)) := by
    have key : ∀ r, (ta && decide (d ≤ c) && decide (h ≤ g) && decide (e ≤ f) && (decide (0 ≤ i) && decide (i ≤ 1000))) = r → Hid (r = ruleOk ⟨a, b, c, d, e, f, g, h, i⟩) := fun r hr => hide (by rw [Hr.out, hr])
    revert key
    generalize ruleOk ⟨a, b, c, d, e, f, g, h, i⟩ = R
    cases ta <;> cases decide (d ≤ c) <;> cases decide (h ≤ g) <;> cases decide (e ≤ f) <;> cases decide (0 ≤ i) <;> cases decide (i ≤ 1000) <;> intro key <;> simp <;> first | exact hide (key false rfl).out.symm | exact hide (key true rfl).out.symm
  clear Hr
  rcases hways with ⟨rfl, hres⟩ | ⟨rfl, q1, hres⟩ | ⟨rfl, q1, q2, hres⟩ | ⟨rfl, q1, q2, q3, hres⟩ | ⟨rfl, q1, q2, q3, q4, hres⟩ | ⟨rfl, q1, q2, q3, q4, q5, hres⟩ | ⟨rfl, q1, q2, q3, q4, q5, hres⟩
  all_goals
    go_enter Tryz.func79, Tryz.ntmps79
    go_wp2_with (go_at_call 127; refine (HA.out _ _ _ (Ints.of_blk (l := [a, b, c, d, e, f, g, h]) (Blk.new1 w _ 3 _) (B := w.heap.size + 2) (by omega)) (by simp)).mono ?_; rintro e w2 ⟨rfl, rfl⟩)
    go_ret
    exact ⟨ret_bool hres.out, below_new2 w _ _⟩
end Go.Proofs.YtkmpddaobncheaaGreatDoor
