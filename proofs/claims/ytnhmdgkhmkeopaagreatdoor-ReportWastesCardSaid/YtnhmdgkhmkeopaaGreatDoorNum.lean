/- The reference of layer 14: numbers in decimal, read from a word. -/
import Derived.Test.YtnhmdgkhmkeopaaGreatDoorRefN
namespace Go.Proofs.YtnhmdgkhmkeopaaGreatDoor
open Go.RowKit

def numVal (l : List UInt8) : Int := l.foldl (fun n c => 10 * n + ((c.toNat : Int) - 48)) 0
theorem numVal_snoc (l : List UInt8) (c : UInt8) : numVal (l ++ [c]) = 10 * numVal l + ((c.toNat : Int) - 48) := by simp [numVal, List.foldl_append]
def numForm (l : List UInt8) : Bool := decide (1 ≤ l.length) && decide (l.length ≤ 10) && !(decide (1 < l.length) && (l.head? == some 48))
def allDigits (l : List UInt8) : Bool := l.all fun c => isDigit c.toNat
def numGood (l : List UInt8) : Bool := numForm l && allDigits l
def numRes (l : List UInt8) : Int := if numGood l then numVal l else 0
theorem numVal_range : ∀ (l : List UInt8), allDigits l = true → 0 ≤ numVal l ∧ numVal l < (10 : Int) ^ l.length := by
  intro l h
  have key : ∀ (r : List UInt8), allDigits r.reverse = true → 0 ≤ numVal r.reverse ∧ numVal r.reverse < (10 : Int) ^ r.length := by
    intro r
    induction r with
    | nil => intro _; simp [numVal]
    | cons c r ih =>
      intro h
      rw [List.reverse_cons] at h ⊢
      simp only [allDigits, List.all_append, List.all_cons, List.all_nil, Bool.and_true, Bool.and_eq_true] at h
      have h1 := ih h.1
      have h2 := h.2
      simp only [isDigit, Bool.and_eq_true, decide_eq_true_eq] at h2
      rw [numVal_snoc, List.length_cons, Int.pow_succ]
      omega
  have := key l.reverse (by rw [List.reverse_reverse]; exact h)
  rwa [List.reverse_reverse, List.length_reverse] at this

set_option maxHeartbeats 1000000 in
theorem refNumber_any (s : ByteArray) (w : World) :
    Calls Tryz.prog 78 #[.string s] w fun e w' => e = .returned (.tuple #[.int .i64 (numRes s.data.toList), .bool (numGood s.data.toList)]) ∧ w = w' := by
  have hsz : s.data.toList.length = s.size := by simp
  by_cases h0 : s.size < 1
  · have hg := hide (show numGood s.data.toList = false by simp [numGood, numForm, hsz]; omega)
    have hr := hide (show numRes s.data.toList = 0 by rw [numRes, hg.out]; rfl)
    have d0 : decide ((s.size : Int) < 1) = true := by simp; omega
    clear hsz h0
    go_enter Tryz.func78, Tryz.ntmps78
    go_wp2_with fail
    go_ret2
    exact ⟨by rw [hr.out, hg.out]; rfl, rfl⟩
  by_cases h1 : 10 < s.size
  · have hg := hide (show numGood s.data.toList = false by simp [numGood, numForm, hsz]; omega)
    have hr := hide (show numRes s.data.toList = 0 by rw [numRes, hg.out]; rfl)
    have d0 : decide ((s.size : Int) < 1) = false := by simp; omega
    have d1 : decide (10 < (s.size : Int)) = true := by simp; omega
    clear hsz h0 h1
    go_enter Tryz.func78, Tryz.ntmps78
    go_wp2_with fail
    go_ret2
    exact ⟨by rw [hr.out, hg.out]; rfl, rfl⟩
  have hp : 0 < s.size := by omega
  have hhead : s.data.toList.head? = some (s[0]'hp) := by
    rw [List.head?_eq_getElem?]
    exact List.getElem?_eq_getElem (by simp; omega)
  have d0 : decide ((s.size : Int) < 1) = false := by simp; omega
  have d1 : decide (10 < (s.size : Int)) = false := by simp; omega
  by_cases h2 : 1 < s.size ∧ s[0]'hp = 48
  · have hg := hide (show numGood s.data.toList = false by simp [numGood, numForm, hsz, hhead, h2.1, h2.2])
    have hr := hide (show numRes s.data.toList = 0 by rw [numRes, hg.out]; rfl)
    have d2 : decide (1 < (s.size : Int)) = true := by simp; omega
    have d3 : (((s[0]'hp).toNat : Int) == 48) = true := by rw [h2.2]; rfl
    clear hsz h0 h1 h2 hhead
    go_enter Tryz.func78, Tryz.ntmps78
    go_wp2_with fail
    go_ret2
    exact ⟨by rw [hr.out, hg.out]; rfl, rfl⟩
  have hform : numForm s.data.toList = true := by
    simp only [numForm, hsz, hhead, Bool.and_eq_true, decide_eq_true_eq, Bool.not_eq_true', Bool.and_eq_false_iff, decide_eq_false_iff_not]
    refine ⟨⟨by omega, by omega⟩, ?_⟩
    by_cases h3 : 1 < s.size
    · right
      simp only [beq_eq_false_iff_ne, ne_eq, Option.some.injEq]
      exact fun h => h2 ⟨h3, h⟩
    · left; exact h3
  have hg := hide (show numGood s.data.toList = allDigits s.data.toList by rw [numGood, hform]; rfl)
  have hlen : s.size ≤ 10 := by omega
  have hd23 : decide (1 < (s.size : Int)) = false ∨ (decide (1 < (s.size : Int)) = true ∧ (((s[0]'hp).toNat : Int) == 48) = false) := by
    by_cases h3 : 1 < s.size
    · right
      refine ⟨by simp; omega, ?_⟩
      simp only [beq_eq_false_iff_ne, ne_eq]
      intro h
      refine h2 ⟨h3, ?_⟩
      apply UInt8.toNat_inj.1
      exact_mod_cast h
    · left; simp; omega
  have Hsz := hide hsz
  clear hsz h0 h1 h2 hhead hform
  rcases hd23 with d2 | ⟨d2, d3⟩
  all_goals
    go_enter Tryz.func78, Tryz.ntmps78
    go_wp2_with fail
    go_loop [4, 5] (fun n i => ∃ k : Nat, k ≤ s.size ∧ i = .int .i64 k ∧ ∃ t : Int, n = .int .i64 t ∧ Hid (t = numVal (s.data.toList.take k)) ∧ Hid (allDigits (s.data.toList.take k) = true)) (fun _ i => s.size - (intOf i).toNat)
    case atStart => exact ⟨0, Nat.zero_le _, rfl, 0, rfl, hide rfl, hide rfl⟩
    case round =>
      obtain ⟨k, hk, rfl, t, rfl, ht, hd⟩ := hrel
      have hb := numVal_range _ hd.out
      rw [← ht.out, List.length_take, Hsz.out] at hb
      have hpw : (10 : Int) ^ (min k s.size) ≤ 10 ^ 10 := by
        exact_mod_cast Nat.pow_le_pow_right (by omega) (by omega)
      have ht0 : 0 ≤ t := hb.1
      have ht1 : t < 10000000000 := by omega
      clear hb hpw
      by_cases hlt : k < s.size
      · have hx : s.data.toList[k]? = some (s[k]'hlt) := List.getElem?_eq_getElem (by simp; omega)
        have Hx := hide hx
        clear hx
        go_wp2_with (go_at_call 104; refine (refDigit_any _ _).mono ?_; rintro e w' ⟨rfl, rfl⟩)
        · have hq : (!isDigit ((s[k]'hlt).toNat : Int)) = true := by assumption
          have hall := hide (show allDigits s.data.toList = false by
            rw [allDigits, List.all_eq_false]
            exact ⟨_, mem_of_get Hx.out, by simpa using hq⟩)
          have hr := hide (show numRes s.data.toList = 0 by rw [numRes, hg.out, hall.out]; rfl)
          go_ret2
          exact ⟨by rw [hr.out, hg.out, hall.out]; rfl, rfl⟩
        · have hq : (!isDigit ((s[k]'hlt).toNat : Int)) = false := by assumption
          have hdg : isDigit ((s[k]'hlt).toNat : Int) = true := by simpa using hq
          have hdr := hdg
          simp only [isDigit, Bool.and_eq_true, decide_eq_true_eq] at hdr
          have hmod : (((s[k]'hlt).toNat : Int) - 48) % 256 = ((s[k]'hlt).toNat : Int) - 48 := by omega
          go_round
          case rel =>
            refine ⟨k + 1, by omega, by go_num, _, rfl, hide ?_, hide ?_⟩
            · rw [take_snoc' Hx.out, numVal_snoc, ← ht.out, hmod]
            · rw [take_snoc' Hx.out, allDigits, List.all_append, ← allDigits, hd.out]
              simpa using hdg
          case measure => simp [intOf]; omega
      · obtain rfl : k = s.size := by omega
        have hfull : s.data.toList.take s.size = s.data.toList := List.take_of_length_le (by rw [Hsz.out]; exact Nat.le_refl _)
        have hall := hide (show allDigits s.data.toList = true by rw [← hfull]; exact hd.out)
        have hr := hide (show numRes s.data.toList = t by rw [numRes, hg.out, hall.out, ht.out, hfull]; rfl)
        have hg2 := hide (hg.out.trans hall.out)
        clear ht hd hall
        go_wp2_with fail
        go_ret2
        exact ⟨by rw [hr.out, hg2.out]; rfl, rfl⟩
end Go.Proofs.YtnhmdgkhmkeopaaGreatDoor
