/- The reference of layer 14: the words of a line. -/
import Derived.Test.YtnhmdgkhmkeopaaGreatDoorDec
namespace Go.Proofs.YtnhmdgkhmkeopaaGreatDoor
open Go.RowKit

def wordEnd (s : ByteArray) (k : Nat) : Bool := decide (k = s.size) || (s.data.toList[k]? == some 32)
/-- The words from place 'from' on, k being the place that is looked at, m how many places are left. -/
def wordsFrom (s : ByteArray) : Nat → Nat → Nat → List ByteArray
  | 0, _, _ => []
  | m + 1, a, k => if wordEnd s k then s.extract a k :: wordsFrom s m (k + 1) (k + 1) else wordsFrom s m a (k + 1)
def wordsB (s : ByteArray) : List ByteArray := wordsFrom s (s.size + 1) 0 0
def encStr (x : ByteArray) : List Value := [.string x]
theorem encStr_len (x : ByteArray) : (encStr x).length = 1 := rfl
theorem encStr_one (x : ByteArray) : ∀ u ∈ encStr x, u.oneCell' = true := by
  intro u hu
  simp [encStr] at hu
  subst hu
  rfl
abbrev StrsAt (w : World) (B : Nat) (A : Option Addr) (l : List ByteArray) : Prop := SlOf w B 1 (Flat encStr) A l

set_option maxHeartbeats 2000000 in
theorem refWords_any (s : ByteArray) (w : World) (hs : s.size ≤ 300000) :
    Calls Tryz.prog 77 #[.string s] w fun e w' => ∃ A c, e = .returned (.slice A (wordsB s).length c) ∧ StrsAt w' w'.heap.size A (wordsB s) ∧ Below w.heap.size w w' := by
  go_enter Tryz.func77, Tryz.ntmps77
  go_wp2_with fail
  go_loopw [3, 4, 5] (fun v f i wr => ∃ k a : Nat, k ≤ s.size + 1 ∧ i = .int .i64 k ∧ f = .int .i64 a ∧ a ≤ k ∧ (∃ acc, acc.length ≤ k ∧ Row wr w.heap.size 9 1 encStr v acc ∧ Hid (wordsB s = acc ++ wordsFrom s (s.size + 1 - k) a k)) ∧ Below w.heap.size w wr) (fun _ _ i _ => s.size + 1 - (intOf i).toNat)
  case atStart => exact ⟨0, 0, Nat.zero_le _, rfl, rfl, Nat.le_refl _, ⟨[], Nat.le_refl _, Row.nil _ _ _ _ _, hide rfl⟩, Below.refl _ _⟩
  case round =>
    obtain ⟨k, a, hk, rfl, rfl, hak, ⟨acc, hal, hrow, hacc⟩, hbr⟩ := hrel
    obtain ⟨A0, c0, rfl⟩ := hrow.val
    have Hrow := hide hrow
    clear hrow
    by_cases hlt : k ≤ s.size
    · have hstep := hacc.out
      rw [show s.size + 1 - k = (s.size - k) + 1 by omega, wordsFrom] at hstep
      cases he : wordEnd s k
      · rw [he, if_neg (by simp)] at hstep
        have Hstep := hide hstep
        have hks : k < s.size := by
          have : k ≠ s.size := by rintro rfl; simp [wordEnd] at he
          omega
        have hne : ((k : Int) == (s.size : Int)) = false := by simp; omega
        have hx : s.data.toList[k]? = some (s[k]'hks) := List.getElem?_eq_getElem (by simp; omega)
        have h32 : (((s[k]'hks).toNat : Int) == 32) = false := by
          simp only [wordEnd, hx, Bool.or_eq_false_iff] at he
          have h2 := he.2
          simp only [beq_eq_false_iff_ne, ne_eq, Option.some.injEq] at h2 ⊢
          intro h
          apply h2
          apply UInt8.toNat_inj.1
          exact_mod_cast h
        clear he hstep hx hacc
        go_wp2_with fail
        go_roundw
        case rel => exact ⟨k + 1, a, by omega, by go_num, rfl, by omega, ⟨acc, by omega, Hrow.out, hide (by rw [Hstep.out, show s.size + 1 - (k + 1) = s.size - k by omega])⟩, hbr⟩
        case measure => simp [intOf]; omega
      · rw [he, if_pos rfl] at hstep
        have Hstep := hide hstep
        have hbs := hide (le_alloc hbr.size (.cells #[.string (s.extract a k)] 9))
        have hcase : ((k : Int) == (s.size : Int)) = true ∨ (((k : Int) == (s.size : Int)) = false ∧ ∃ hks : k < s.size, (((s[k]'hks).toNat : Int) == 32) = true) := by
          by_cases h1 : k = s.size
          · left; simp [h1]
          · right
            have hks : k < s.size := by omega
            have hx : s.data.toList[k]? = some (s[k]'hks) := List.getElem?_eq_getElem (by simp; omega)
            refine ⟨by simp; omega, hks, ?_⟩
            simp [wordEnd, hx, h1] at he
            rw [he]
            rfl
        clear he hstep hacc
        rcases hcase with h1 | ⟨h1, hks, h32⟩
        all_goals
          go_wp2_with (at_builtin; refine wpList_append1 rfl (.tmp 22) (.tmp 27) 30 rfl w.heap.size 9 (.string .empty) 1 16 encStr Tryz.underlying30 (by kernel_rfl) rfl (by omega) encStr_len encStr_one _ acc (s.extract a k) rfl (Hrow.out.alloc _) _ rfl (Blk.new wr _ _) (by omega) (by omega) hbs.out ?_; intro A1 c1 w3 hrow3 hb3 _)
          go_roundw
          case rel => exact ⟨k + 1, k + 1, by omega, by go_num, by go_num, Nat.le_refl _, ⟨acc ++ [s.extract a k], by simp; omega, by simpa using hrow3, hide (by rw [Hstep.out, show s.size + 1 - (k + 1) = s.size - k by omega]; simp)⟩, (hbr.alloc hbr.size _).trans hb3⟩
          case measure => simp [intOf]; omega
    · obtain rfl : k = s.size + 1 := by omega
      have hacc' : acc = wordsB s := by
        rw [hacc.out, show s.size + 1 - (s.size + 1) = 0 by omega, wordsFrom, List.append_nil]
      subst hacc'
      go_wp2_with fail
      go_ret
      exact ⟨_, _, rfl, Row.read Hrow.out encStr_len (by omega), hbr⟩
end Go.Proofs.YtnhmdgkhmkeopaaGreatDoor
