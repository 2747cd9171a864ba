/- What a small detail is: only the bounds that a true answer gives. -/
import Derived.Test.YtmcjpdlkkpnhfaaGreatQaw
namespace Go.Proofs.YtmcjpdlkkpnhfaaGreat
open Go.RowKit

/-- A true or a false; the true one tells something. -/
def RetB (e : Ending) (p : Prop) : Prop := ∃ t : Bool, e = .returned (.bool t) ∧ (t = true → p)
set_option maxHeartbeats 1000000 in
theorem short_any (m : ByteArray) (a b d : Int) (A : Option Addr) (n c : Nat) (w : World) :
    Calls Tryz.prog 62 #[.agg #[.string m, .int .i64 a, .int .i64 b, .int .i64 d, .slice A n c]] w fun e w' => RetB e (n ≤ 8 ∧ m.size ≤ 60) ∧ Below w.heap.size w w' := by
  have kB := hide (Blk.new w 57 #[.string m, .int .i64 a, .int .i64 b, .int .i64 d, .slice A n c])
  have hW := hide (below_new w (.cells #[.string m, .int .i64 a, .int .i64 b, .int .i64 d, .slice A n c] 57))
  have d1 : decide ((n : Int) ≤ 8) = decide (n ≤ 8) := by congr 1; simp; omega
  have d2 : decide ((m.size : Int) ≤ 60) = decide (m.size ≤ 60) := by congr 1; simp; omega
  go_enter Tryz.func62, Tryz.ntmps62
  go_wp2_with fail
  all_goals go_ret
  all_goals exact ⟨⟨_, rfl, fun h => by simp at h <;> omega⟩, hW.out⟩
set_option maxHeartbeats 1000000 in
theorem small17_any (A1 A2 : Option Addr) (n1 c1 n2 c2 : Nat) (w : World) :
    Calls Tryz.prog 36 #[.agg #[.slice A1 n1 c1, .slice A2 n2 c2], .int .i64 4] w fun e w' => RetB e True ∧ Below w.heap.size w w' := by
  have kB := hide (Blk.new w 24 #[.slice A1 n1 c1, .slice A2 n2 c2])
  have hW := hide (below_new w (.cells #[.slice A1 n1 c1, .slice A2 n2 c2] 24))
  go_enter Tryz.func36, Tryz.ntmps36
  go_wp2_with fail
  go_region
  all_goals (go_wp2_with fail)
  all_goals go_ret
  all_goals exact ⟨⟨_, rfl, fun _ => trivial⟩, hW.out.drew⟩
set_option maxHeartbeats 4000000 in
theorem count16_any (A : Option Addr) (l : List RunD) (n c : Nat) (w : World) {B : Nat} (h : RunsAt w B A l) (hB : B ≤ w.heap.size) (hn : n = l.length) (hm : n ≤ 60) (hok : ∀ r ∈ l, 1 ≤ r.count ∧ r.count ≤ 1000) :
    Calls Tryz.prog 55 #[.slice A n c] w fun e w' => e = .returned (.int .i64 (countRuns l)) ∧ Below w.heap.size w w' := by
  have H2 := hide h
  have hn2' := hide hn
  have Hc := hide hok
  have Hrg := hide (fun (k : Nat) => countRuns_range (l.take k) (fun r hr => hok r (List.mem_of_mem_take hr)))
  clear h hok hn
  go_enter Tryz.func55, Tryz.ntmps55
  go_wp2_with fail
  go_loopw [3, 4] (fun v i wr => ∃ k : Nat, k ≤ n ∧ i = .int .i64 k ∧ (∃ t : Int, v = .int .i64 t ∧ Hid (t = countRuns (l.take k))) ∧ Below w.heap.size w wr) (fun _ i _ => n - (intOf i).toNat)
  case atStart => exact ⟨0, Nat.zero_le _, rfl, ⟨0, rfl, hide rfl⟩, Below.refl _ _⟩
  case round =>
    obtain ⟨k, hk, rfl, ⟨t, rfl, ht⟩, hbr⟩ := hrel
    have hrg := Hrg.out k
    rw [← ht.out, List.length_take] at hrg
    by_cases hlt : k < n
    · obtain ⟨b, off, r, rfl, hbl, hx, hc⟩ := RunsAt.get (k := k) (H2.out.carry (Flat.carried _) (hbr.mono hB) (Nat.le_refl _)) (by rw [← hn2'.out]; exact hlt)
      obtain ⟨hc0, hc1⟩ := Hc.out r (mem_of_get hx)
      have Hn := hide (show countRuns (l.take (k + 1)) = t + r.count by rw [take_snoc' hx, countRuns_snoc, ht.out])
      obtain ⟨mark, tx, ty, ⟨a1, a2, a3⟩, ⟨s1, s2, s3⟩, cnt⟩ := r
      have p9 := hc 9 _ rfl
      simp only at p9 hc0 hc1 Hn
      clear hx hbl hc
      go_wp2_with fail
      go_roundw
      case rel => exact ⟨k + 1, by omega, by go_num, ⟨t + cnt, rfl, hide Hn.out.symm⟩, hbr⟩
      case measure => simp [intOf]; omega
    · obtain rfl : k = n := by omega
      have hf := hide (show t = countRuns l by rw [ht.out, hn2'.out, List.take_length])
      go_wp2_with fail
      go_ret
      exact ⟨by rw [← hf.out]; rfl, hbr⟩
set_option maxHeartbeats 4000000 in
theorem small23_any (A : Option Addr) (l : List DemD) (n c : Nat) (w : World) {B : Nat} (h : DemsAt w B A l) (hB : B ≤ w.heap.size) (hn : n = l.length) :
    Calls Tryz.prog 38 #[.slice A n c, .int .i64 4] w fun e w' => RetB e (n ≤ 25 ∧ ∀ d ∈ l, d.name.size ≤ 60 ∧ d.steps.length ≤ 205) ∧ Below w.heap.size w w' := by
  have hn' := hide hn
  have Hs := hide h
  clear hn h
  by_cases hcut : n ≤ 4 ∨ (20 < n ∧ n ≤ 25)
  case neg =>
    have d1 : (decide (4 < (n : Int)) && decide ((n : Int) ≤ 20) || decide (25 < (n : Int))) = true := by
      simp only [Bool.or_eq_true, Bool.and_eq_true, decide_eq_true_eq]; omega
    go_enter Tryz.func38, Tryz.ntmps38
    go_wp2_with fail
    all_goals go_ret
    all_goals exact ⟨⟨_, rfl, fun h => by simp at h <;> omega⟩, Below.refl _ _⟩
  case pos =>
    have hn25 : n ≤ 25 := by omega
    clear hcut
    go_enter Tryz.func38, Tryz.ntmps38
    go_wp2_with fail
    any_goals (
      go_loopw [5] (fun i wr => ∃ k : Nat, k ≤ n ∧ i = .int .i64 k ∧ Hid (∀ d ∈ l.take k, d.name.size ≤ 60 ∧ d.steps.length ≤ 205) ∧ Below w.heap.size w wr) (fun i _ => n - (intOf i).toNat)
      case atStart => exact ⟨0, Nat.zero_le _, rfl, hide (by simp), Below.refl _ _⟩
      case round =>
        obtain ⟨k, hk, rfl, hq, hbr⟩ := hrel
        by_cases hlt : k < n
        · have HR := hide (Hs.out.carry demR_carried (hbr.mono hB) (Nat.le_refl B))
          obtain ⟨b, off, x, A', c', rfl, hbl, hx, hi, hcells⟩ := DemsAt.get (k := k) HR.out (by rw [← hn'.out]; exact hlt)
          have h0 := hcells 0 _ rfl
          have h7 := hcells 7 _ rfl
          rw [Nat.add_zero] at h0
          have Hnext := fun (hx1 : x.name.size ≤ 60) (hx2 : x.steps.length ≤ 205) => (show ∀ d ∈ l.take (k + 1), d.name.size ≤ 60 ∧ d.steps.length ≤ 205 by
            rw [take_snoc' hx]
            intro d hd
            rcases List.mem_append.1 hd with h | h
            · exact hq.out d h
            · obtain rfl := List.mem_singleton.1 h; exact ⟨hx1, hx2⟩)
          have Hnext := hide Hnext
          clear hx hi hcells hbl hq
          obtain ⟨name, zone, steps⟩ := x
          simp only [] at h0 h7 Hnext
          generalize steps.length = sl at *
          go_wp2_with fail
          all_goals first
            | (go_roundw
               case rel => exact ⟨k + 1, by omega, by go_num, hide (Hnext.out (by omega) (by omega)), hbr⟩
               case measure => simp [intOf]; omega)
            | (go_ret
               exact ⟨⟨false, rfl, fun h => by cases h⟩, hbr⟩)
        · obtain rfl : k = n := by omega
          have hfull := hide (show ∀ d ∈ l, d.name.size ≤ 60 ∧ d.steps.length ≤ 205 by have := hq.out; rwa [hn'.out, List.take_length] at this)
          go_wp2_with fail
          go_ret
          first
            | exact ⟨⟨true, rfl, fun _ => hfull.out⟩, hbr⟩
            | exact ⟨⟨true, rfl, fun _ => ⟨by omega, hfull.out⟩⟩, hbr⟩)
    all_goals go_ret
    all_goals exact ⟨⟨false, rfl, fun h => by cases h⟩, Below.refl _ _⟩
end Go.Proofs.YtmcjpdlkkpnhfaaGreat
