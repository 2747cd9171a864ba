/- Points that are near. -/
import Derived.Test.YtkmpddaobncheaaGreatDoorQaj
import Derived.Test.YtkmpddaobncheaaGreatDoorQaf
namespace Go.Proofs.YtkmpddaobncheaaGreatDoor
open Go.RowKit

def inR (v : Int) : Bool := within v (-1048576) 1048576
theorem inR_no {v : Int} (h : inR v = false) : decide (v < -1048576) = true ∨ (decide (v < -1048576) = false ∧ decide (1048576 < v) = true) := by
  simp only [inR, within, Bool.and_eq_false_iff, decide_eq_false_iff_not] at h
  simp only [decide_eq_true_eq, decide_eq_false_iff_not]
  omega
theorem inR_yes {v : Int} (h : inR v = true) : decide (v < -1048576) = false ∧ decide (1048576 < v) = false := by
  simp only [inR, within, Bool.and_eq_true, decide_eq_true_eq] at h
  simp only [decide_eq_false_iff_not]
  omega
theorem near_list (x y z : Int) : nearBy 1048576 (x, y, z) = [x, y, z].all inR := by
  simp [nearBy, inR, Bool.and_assoc]
set_option maxHeartbeats 1000000 in
theorem near_any (A : Option Addr) (l : List Pt) (n c : Nat) (w : World) {B : Nat} (h : PtsAt w B A l) (hB : B ≤ w.heap.size) (hn : n = l.length) (hm : n ≤ 300000) :
    Calls Tryz.prog 183 #[.slice A n c] w fun e w' => e = .returned (.bool (l.all (nearBy 1048576))) ∧ Below w.heap.size w w' := by
  have Hs := hide h
  have hn' := hide hn
  have Hok := hide (show l.all (nearBy 1048576) = (l.drop 0).all (nearBy 1048576) from rfl)
  obtain ⟨rb, hrb⟩ : ∃ rb, rb = l.all (nearBy 1048576) := ⟨_, rfl⟩
  rw [← hrb] at Hok ⊢
  clear h hn hrb
  go_enter Tryz.func183, Tryz.ntmps183
  go_wp2_with fail
  go_loopw [9] (fun i wr => ∃ k : Nat, k ≤ n ∧ i = .int .i64 k ∧ Hid (rb = (l.drop k).all (nearBy 1048576)) ∧ Below w.heap.size w wr) (fun i _ => n - (intOf i).toNat)
  case atStart => exact ⟨0, Nat.zero_le _, rfl, Hok, Below.refl _ _⟩
  case round =>
    obtain ⟨k, hk, rfl, hq, hbr⟩ := hrel
    by_cases hlt : k < n
    · obtain ⟨b, off, x, hA, hbl, hx, k0, k1, k2⟩ := PtsAt.get (k := k) (Hs.out.carry (Flat.carried _) (hbr.mono hB) (Nat.le_refl B)) (by rw [← hn'.out]; exact hlt)
      obtain ⟨x1, x2, x3⟩ := x
      have Hq := hide (hq.out.trans (by rw [drop_at' hx, List.all_cons, near_list]))
      obtain ⟨rest, hrest⟩ : ∃ r, r = (l.drop (k + 1)).all (nearBy 1048576) := ⟨_, rfl⟩
      rw [← hrest] at Hq
      have Hrest := hide hrest
      clear hrest
      simp only at k0 k1 k2
      subst hA
      clear hx hq hbl
      have i0 := at3_0
      have i1 := at3_1
      have i2 := at3_2
      go_wp2_with fail
      go_loopw [20] (fun i wr' => ∃ j : Nat, j ≤ 3 ∧ i = .int .i64 j ∧ Hid (rb = ((([x1, x2, x3] : List Int).drop j).all inR && rest)) ∧ Below w.heap.size w wr') (fun i _ => 3 - (intOf i).toNat)
      case atStart => exact ⟨0, Nat.zero_le _, rfl, Hq, hbr.alloc hbr.size _⟩
      case round =>
        obtain ⟨j, hj, rfl, hjq, hbj⟩ := hrel
        rcases j with _ | _ | _ | _ | j
        · cases hv : inR x1
          · have hres := hide (show rb = false by rw [hjq.out]; simp [List.all_cons, hv])
            have hcase := inR_no hv
            clear hv hjq
            rcases hcase with q0 | ⟨q0, q1⟩
            all_goals
              go_wp2_with fail
              go_ret
              exact ⟨ret_bool hres.out.symm, hbj⟩
          · have hn2 := hide (show rb = ((([x1, x2, x3] : List Int).drop 1).all inR && rest) by rw [hjq.out]; simp [List.all_cons, hv])
            obtain ⟨q0, q1⟩ := inR_yes hv
            clear hv hjq
            go_wp2_with fail
            go_roundw
            case rel => exact ⟨1, by omega, by go_num, hn2, hbj⟩
            case measure => simp [intOf]
        · cases hv : inR x2
          · have hres := hide (show rb = false by rw [hjq.out]; simp [List.all_cons, hv])
            have hcase := inR_no hv
            clear hv hjq
            rcases hcase with q0 | ⟨q0, q1⟩
            all_goals
              go_wp2_with fail
              go_ret
              exact ⟨ret_bool hres.out.symm, hbj⟩
          · have hn2 := hide (show rb = ((([x1, x2, x3] : List Int).drop 2).all inR && rest) by rw [hjq.out]; simp [List.all_cons, hv])
            obtain ⟨q0, q1⟩ := inR_yes hv
            clear hv hjq
            go_wp2_with fail
            go_roundw
            case rel => exact ⟨2, by omega, by go_num, hn2, hbj⟩
            case measure => simp [intOf]
        · cases hv : inR x3
          · have hres := hide (show rb = false by rw [hjq.out]; simp [List.all_cons, hv])
            have hcase := inR_no hv
            clear hv hjq
            rcases hcase with q0 | ⟨q0, q1⟩
            all_goals
              go_wp2_with fail
              go_ret
              exact ⟨ret_bool hres.out.symm, hbj⟩
          · have hn2 := hide (show rb = ((([x1, x2, x3] : List Int).drop 3).all inR && rest) by rw [hjq.out]; simp [List.all_cons, hv])
            obtain ⟨q0, q1⟩ := inR_yes hv
            clear hv hjq
            go_wp2_with fail
            go_roundw
            case rel => exact ⟨3, by omega, by go_num, hn2, hbj⟩
            case measure => simp [intOf]
        · have hend := hide (show rb = rest by rw [hjq.out]; rfl)
          go_wp2_with fail
          go_roundw
          case rel => exact ⟨k + 1, by omega, by go_num, hide (hend.out.trans Hrest.out), hbj⟩
          case measure => simp [intOf]; omega
        · omega
    · obtain rfl : k = n := by omega
      have hfull := hide (show rb = true by rw [hq.out, hn'.out, List.drop_length]; rfl)
      go_wp2_with fail
      go_ret
      exact ⟨ret_bool hfull.out.symm, hbr⟩
end Go.Proofs.YtkmpddaobncheaaGreatDoor
