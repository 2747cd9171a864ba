/- Whether a lap is right by itself. -/
import Derived.Test.YtkmpddaobncheaaGreatDoorQaf
import Derived.Test.YtkmpddaobncheaaGreatDoorQar
import Derived.BigRegion
namespace Go.Proofs.YtkmpddaobncheaaGreatDoor
open Go.RowKit

set_option maxHeartbeats 4000000 in
set_option maxRecDepth 100000 in
theorem joint_any (A : Option Addr) (l : List MainD) (n c : Nat) (j : JoinD) (w : World) {B : Nat} (h : MainsAt w B A l) (hB : B ≤ w.heap.size) (hn : n = l.length) (_hm : n ≤ 60000) :
    Calls Tryz.prog 81 #[.slice A n c, .agg #[.int .i64 j.first, .int .i64 j.second]] w fun e w' => e = .returned (.bool (jointOk l j)) ∧ Below w.heap.size w w' := by
  obtain ⟨f, s⟩ := j
  by_cases hout : f < 0 ∨ (l.length : Int) ≤ f ∨ s < 0 ∨ (l.length : Int) ≤ s
  · have hres := hide (jointOk_out (l := l) (j := ⟨f, s⟩) hout)
    have hways : decide (f < 0) = true ∨ (decide (f < 0) = false ∧ decide ((n : Int) ≤ f) = true) ∨ (decide (f < 0) = false ∧ decide ((n : Int) ≤ f) = false ∧ decide (s < 0) = true) ∨ (decide (f < 0) = false ∧ decide ((n : Int) ≤ f) = false ∧ decide (s < 0) = false ∧ decide ((n : Int) ≤ s) = true) := by
      simp only [decide_eq_true_eq, decide_eq_false_iff_not]
      omega
    generalize jointOk l ⟨f, s⟩ = res at *
    clear h hB hn hout
    rcases hways with q0 | ⟨q0, q1⟩ | ⟨q0, q1, q2⟩ | ⟨q0, q1, q2, q3⟩
    all_goals
      go_enter Tryz.func81, Tryz.ntmps81
      go_wp2_with fail
      go_ret
      exact ⟨ret_bool hres.out.symm, below_new w _⟩
  · have hf0 : 0 ≤ f := by omega
    have hs0 : 0 ≤ s := by omega
    obtain ⟨p, rfl⟩ := Int.eq_ofNat_of_zero_le hf0
    obtain ⟨q, rfl⟩ := Int.eq_ofNat_of_zero_le hs0
    have hp : p < n := by omega
    have hq : q < n := by omega
    obtain ⟨b, off, x, hA, hbl, hx, hcx⟩ := MainsAt.get (k := p) h (by omega)
    obtain ⟨b2, off2, y, hA2, hbl2, hy, hcy⟩ := MainsAt.get (k := q) h (by omega)
    rw [hA] at hA2
    injection hA2 with hA2
    injection hA2 with hA3 hA4
    subst hA3
    subst hA4
    subst hA
    have hres := hide (jointOk_in hx hy)
    generalize jointOk l ⟨p, q⟩ = res at *
    obtain ⟨⟨⟨x1, x2, x3⟩, x4, x5, x6⟩, xh, xs, xm⟩ := x
    obtain ⟨⟨⟨y1, y2, y3⟩, y4, y5, y6⟩, yh, ys, ym⟩ := y
    have hbw : b < w.heap.size := by omega
    have u0 := hcx 0 _ rfl
    have u1 := hcx 1 _ rfl
    have u2 := hcx 2 _ rfl
    have u3 := hcx 3 _ rfl
    have u4 := hcx 4 _ rfl
    have u5 := hcx 5 _ rfl
    have u6 := hcx 6 _ rfl
    have u7 := hcx 7 _ rfl
    have u8 := hcx 8 _ rfl
    have v0 := hcy 0 _ rfl
    have v1 := hcy 1 _ rfl
    have v2 := hcy 2 _ rfl
    have v3 := hcy 3 _ rfl
    have v4 := hcy 4 _ rfl
    have v5 := hcy 5 _ rfl
    have v6 := hcy 6 _ rfl
    have v7 := hcy 7 _ rfl
    have v8 := hcy 8 _ rfl
    simp only [Nat.add_zero] at u0 u1 u2 u3 u4 u5 u6 u7 u8 v0 v1 v2 v3 v4 v5 v6 v7 v8 hres
    clear h hx hy hcx hcy hout hbl hbl2 hn
    go_enter Tryz.func81, Tryz.ntmps81
    have hbw1 : b < w.heap.size + 1 := by omega
    have hbw2 : b < w.heap.size + 1 + 1 := by omega
    have hbw3 : b < w.heap.size + 1 + 1 + 1 := by omega
    have hways : (xh = false ∧ Hid (res = false)) ∨ (xh = true ∧ yh = false ∧ Hid (res = false)) ∨ (xh = true ∧ yh = true ∧ decide (x1 < y1) = false ∧ Hid (res = false)) ∨ (xh = true ∧ yh = true ∧ decide (x1 < y1) = true ∧ decide (x4 < y4) = false ∧ Hid (res = false)) ∨ (xh = true ∧ yh = true ∧ decide (x1 < y1) = true ∧ decide (x4 < y4) = true ∧ Hid (res = decide (y1 ≤ x4))) := by
      have h9 := hres.out
      cases xh
      · exact .inl ⟨rfl, hide (by rw [h9]; rfl)⟩
      right
      cases yh
      · exact .inl ⟨rfl, rfl, hide (by rw [h9]; rfl)⟩
      right
      cases e1 : decide (x1 < y1)
      · exact .inl ⟨rfl, rfl, rfl, hide (by rw [h9, e1]; rfl)⟩
      right
      cases e2 : decide (x4 < y4)
      · exact .inl ⟨rfl, rfl, rfl, rfl, hide (by rw [h9, e1, e2]; rfl)⟩
      · exact .inr ⟨rfl, rfl, rfl, rfl, hide (by rw [h9, e1, e2]; rfl)⟩
    clear hres
    go_wp2_with fail
    go_region
    all_goals
      clear u0 u1 u2 u3 u4 u5 u6 u7 u8 v0 v1 v2 v3 v4 v5 v6 v7 v8
      rcases hways with ⟨rfl, hr⟩ | ⟨rfl, rfl, hr⟩ | ⟨rfl, rfl, q1, hr⟩ | ⟨rfl, rfl, q1, q2, hr⟩ | ⟨rfl, rfl, q1, q2, hr⟩
      all_goals
        go_wp2_with fail
        go_ret
        exact ⟨ret_bool hr.out.symm, (((below_new w _).alloc (by simp) _).alloc (by simp; omega) _).drew⟩
end Go.Proofs.YtkmpddaobncheaaGreatDoor
