/- The reference of layer 14: whether a schedule is small. (The same text stands in XRefC; one seat imports only one of the two.) -/
import Derived.Test.YtnhmdgkhmkeopaaGreatDoorSched
namespace Go.Proofs.YtnhmdgkhmkeopaaGreatDoor
open Go.RowKit

def smallBar (x : BarD) : Bool := decide (x.mark.size ≤ 60) && decide (x.dims.length ≤ 12)
def smallOk (l : List BarD) (most : Int) : Bool := decide ((l.length : Int) ≤ most) && l.all smallBar
set_option maxHeartbeats 400000 in
theorem refSmall_any (A : Option Addr) (l : List BarD) (n c : Nat) (most : Int) (w : World) {B : Nat} (h : BarsAt w B A l) (hn : n = l.length) (hm : (n : Int) ≤ 9223372036854775807) :
    Calls Tryz.prog 8 #[.slice A n c, .int .i64 most] w fun e w' => e = .returned (.bool (smallOk l most)) ∧ w = w' := by
  have hn' := hide hn
  by_cases hmo : (n : Int) ≤ most
  · have Hs := hide h
    have hs : smallOk l most = l.all smallBar := by simp [smallOk, ← hn, hmo]
    rw [hs]
    clear hn h hs
    go_enter Tryz.func8, Tryz.ntmps8
    go_wp2_with fail
    go_loop [5] (fun i => ∃ k : Nat, k ≤ n ∧ i = .int .i64 k ∧ Hid (l.all smallBar = (l.drop k).all smallBar)) (fun i => n - (intOf i).toNat)
    case atStart => exact ⟨0, Nat.zero_le _, rfl, hide rfl⟩
    case round =>
      obtain ⟨k, hk, rfl, hw⟩ := hrel
      by_cases hlt : k < n
      · obtain ⟨b, off, x, A', c', hA, hbl, hx, hi, h0, h1, h2, h3, h4⟩ := BarsAt.get (k := k) Hs.out (by rw [← hn'.out]; exact hlt)
        subst hA
        have Hw := hide (hw.out.trans (by rw [drop_at' hx, List.all_cons]))
        clear hx hi hbl h1 h2 h3 hw
        by_cases hp : 60 < x.mark.size
        · have Hp := hide (show smallBar x = false by simp [smallBar]; omega)
          have hq : decide (60 < (x.mark.size : Int)) = true := by simp; omega
          clear hp
          go_wp2_with fail
          go_ret
          exact ⟨ret_bool (by rw [Hw.out, Hp.out]; rfl), rfl⟩
        · have hq : decide (60 < (x.mark.size : Int)) = false := by simp; omega
          by_cases hp2 : 12 < x.dims.length
          · have Hp := hide (show smallBar x = false by simp [smallBar]; omega)
            have hq2 : decide (12 < (x.dims.length : Int)) = true := by simp; omega
            clear hp hp2
            go_wp2_with fail
            go_ret
            exact ⟨ret_bool (by rw [Hw.out, Hp.out]; rfl), rfl⟩
          · have Hp := hide (show smallBar x = true by simp [smallBar]; omega)
            have hq2 : decide (12 < (x.dims.length : Int)) = false := by simp; omega
            clear hp hp2
            go_wp2_with fail
            go_round
            case rel => exact ⟨k + 1, by omega, by go_num, hide (by rw [Hw.out, Hp.out]; rfl)⟩
            case measure => simp [intOf]; omega
      · obtain rfl : k = n := by omega
        go_wp2_with fail
        go_ret
        exact ⟨ret_bool (by rw [hw.out, List.drop_of_length_le (by rw [← hn'.out]; exact Nat.le_refl _)]; rfl), rfl⟩
  · have hs : smallOk l most = false := by simp [smallOk, ← hn, hmo]
    rw [hs]
    clear hs hn
    go_enter Tryz.func8, Tryz.ntmps8
    go_wp2_with fail
    go_ret
    exact ⟨rfl, rfl⟩

theorem small_tame' {l : List BarD} (h : smallOk l 70 = true) : l.length ≤ 70 ∧ Tame l := by
  simp only [smallOk, Bool.and_eq_true, decide_eq_true_eq, List.all_eq_true] at h
  refine ⟨by omega, fun x hx => ?_⟩
  have h2 := h.2 x hx
  simp only [smallBar, Bool.and_eq_true, decide_eq_true_eq] at h2
  unfold maxLen
  omega
end Go.Proofs.YtnhmdgkhmkeopaaGreatDoor
