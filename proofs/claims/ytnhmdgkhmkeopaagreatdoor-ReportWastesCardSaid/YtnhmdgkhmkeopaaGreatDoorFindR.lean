/- What the law of findings asks of its input, and the reference's text of findings. -/
import Derived.Test.YtnhmdgkhmkeopaaGreatDoorFind
import Derived.Test.YtnhmdgkhmkeopaaGreatDoorRefN
namespace Go.Proofs.YtnhmdgkhmkeopaaGreatDoor
open Go.RowKit

def longName (x : FinD) : Bool := decide (60 < x.name.size)
set_option maxHeartbeats 400000 in
theorem few1_any (x : FinD) (w : World) :
    Calls Tryz.prog 36 #[.agg #[.int .i64 x.kind, .string x.name]] w fun e w' => e = .returned (.bool (longName x)) ∧ Below w.heap.size w w' := by
  obtain ⟨kind, name⟩ := x
  have h0 := hide (show decide (60 < (name.size : Int)) = longName ⟨kind, name⟩ by simp [longName]; omega)
  go_enter Tryz.func36, Tryz.ntmps36
  go_wp2_with fail
  go_ret
  exact ⟨ret_bool h0.out, below_new _ _⟩

def fewLen (n : Nat) : Bool := decide (n ≤ 60) || (decide (1000 < n) && decide (n ≤ 1010))
def fewOk (l : List FinD) : Bool := fewLen l.length && !anyOf longName l
set_option maxHeartbeats 1000000 in
theorem few_any (A : Option Addr) (l : List FinD) (n c : Nat) (w : World) {B : Nat} (h : FinsAt w B A l) (hB : B ≤ w.heap.size) (hn : n = l.length) :
    Calls Tryz.prog 14 #[.slice A n c] w fun e w' => e = .returned (.bool (fewOk l)) ∧ Below w.heap.size w w' := by
  have hn' := hide hn
  have Hs := hide h
  cases hl : fewLen n
  · have hr := hide (show fewOk l = false by rw [fewOk, ← hn, hl]; rfl)
    simp only [fewLen, Bool.or_eq_false_iff, decide_eq_false_iff_not, Bool.and_eq_false_iff] at hl
    have d0 : decide ((n : Int) ≤ 60) = false := by simp; omega
    by_cases h1 : 1000 < n
    · have d1 : decide (1000 < (n : Int)) = true := by simp; omega
      have d2 : decide ((n : Int) ≤ 1010) = false := by simp; omega
      clear hl hn h h1
      go_enter Tryz.func14, Tryz.ntmps14
      go_wp2_with fail
      go_ret
      exact ⟨ret_bool hr.out.symm, Below.refl _ _⟩
    · have d1 : decide (1000 < (n : Int)) = false := by simp; omega
      clear hl hn h h1
      go_enter Tryz.func14, Tryz.ntmps14
      go_wp2_with fail
      go_ret
      exact ⟨ret_bool hr.out.symm, Below.refl _ _⟩
  · have hr := hide (show fewOk l = !anyOf longName l by rw [fewOk, ← hn, hl]; rfl)
    have hm : n ≤ 60000 := by simp only [fewLen, Bool.or_eq_true, Bool.and_eq_true, decide_eq_true_eq] at hl; omega
    simp only [fewLen, Bool.or_eq_true, Bool.and_eq_true, decide_eq_true_eq] at hl
    by_cases h0 : n ≤ 60
    · have d0 : decide ((n : Int) ≤ 60) = true := by simp; omega
      clear hl hn h h0
      go_enter Tryz.func14, Tryz.ntmps14
      go_wp2_with (go_at_call 35; refine (containsFuncFin_any A l n c 36 longName _ Hs.out hB hn'.out (by omega) Tryz.call36 (fun x W _ => few1_any x W)).mono ?_; rintro e w' ⟨rfl, hb⟩)
      go_ret
      exact ⟨ret_bool hr.out.symm, hb⟩
    · have d0 : decide ((n : Int) ≤ 60) = false := by simp; omega
      have d1 : decide (1000 < (n : Int)) = true := by simp; omega
      have d2 : decide ((n : Int) ≤ 1010) = true := by simp; omega
      clear hl hn h h0
      go_enter Tryz.func14, Tryz.ntmps14
      go_wp2_with (go_at_call 35; refine (containsFuncFin_any A l n c 36 longName _ Hs.out hB hn'.out (by omega) Tryz.call36 (fun x W _ => few1_any x W)).mono ?_; rintro e w' ⟨rfl, hb⟩)
      go_ret
      exact ⟨ret_bool hr.out.symm, hb⟩

def sizeOk (n : Nat) : Bool := decide (n ≤ 2000) || (decide (262144 < n) && decide (n ≤ 262154))
set_option maxHeartbeats 400000 in
set_option maxRecDepth 100000 in
theorem sizeOk_any (s : ByteArray) (w : World) :
    Calls Tryz.prog 15 #[.string s] w fun e w' => e = .returned (.bool (sizeOk s.size)) ∧ w = w' := by
  have hr := hide (show (decide (s.size ≤ 2000) || (decide (262144 < s.size) && decide (s.size ≤ 262154))) = sizeOk s.size from rfl)
  generalize hz : s.size = z at hr ⊢
  have d0 : decide ((z : Int) ≤ 2000) = decide (z ≤ 2000) := by rw [Bool.eq_iff_iff]; simp; omega
  have d1 : decide (262144 < (z : Int)) = decide (262144 < z) := by rw [Bool.eq_iff_iff]; simp; omega
  have d2 : decide ((z : Int) ≤ 262154) = decide (z ≤ 262154) := by rw [Bool.eq_iff_iff]; simp; omega
  cases h0 : decide (z ≤ 2000) <;> cases h1 : decide (262144 < z) <;> cases h2 : decide (z ≤ 262154)
  all_goals
    rw [h0] at d0
    rw [h1] at d1
    rw [h2] at d2
    rw [h0, h1, h2] at hr
    clear h0 h1 h2
    go_enter Tryz.func15, Tryz.ntmps15
    go_wp2_with fail
    go_ret
    exact ⟨ret_bool hr.out, rfl⟩
end Go.Proofs.YtnhmdgkhmkeopaaGreatDoor
