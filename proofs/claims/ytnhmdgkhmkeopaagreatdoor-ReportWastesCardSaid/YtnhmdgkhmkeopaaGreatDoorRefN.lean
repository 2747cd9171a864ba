/- The reference of layer 1: names, and numbers in decimal. -/
import Derived.Test.YtnhmdgkhmkeopaaGreatDoorDec
import Derived.Test.YtnhmdgkhmkeopaaGreatDoorLine
namespace Go.Proofs.YtnhmdgkhmkeopaaGreatDoor
open Go.RowKit

set_option maxHeartbeats 400000 in
theorem refLetter_any (c : Int) (w : World) :
    Calls Tryz.prog 72 #[.int .u8 c] w fun e w' => e = .returned (.bool (isLetter c)) ∧ w = w' := by
  go_enter Tryz.func72, Tryz.ntmps72
  go_wp2
  all_goals
    go_ret
    exact ⟨ret_bool (by rw [Bool.eq_iff_iff]; simp [isLetter]; omega), rfl⟩

set_option maxHeartbeats 400000 in
theorem refDigit_any (c : Int) (w : World) :
    Calls Tryz.prog 104 #[.int .u8 c] w fun e w' => e = .returned (.bool (isDigit c)) ∧ w = w' := by
  go_enter Tryz.func104, Tryz.ntmps104
  go_wp2
  all_goals
    go_ret
    exact ⟨ret_bool (by rw [Bool.eq_iff_iff]; simp [isDigit]; try omega), rfl⟩

set_option maxHeartbeats 400000 in
theorem refWord_any (s : ByteArray) (i : Nat) (w : World) (hs : s.size ≤ maxLen) (hi : i ≤ s.size) :
    Calls Tryz.prog 73 #[.string s, .int .i64 i] w fun e w' => e = .returned (.int .i64 (i + wordLen (s.data.toList.drop i) : Nat)) ∧ w = w' := by
  unfold maxLen at hs
  go_enter Tryz.func73, Tryz.ntmps73
  go_wp2
  go_loop [1] (fun j => ∃ k : Nat, k ≤ s.size ∧ j = .int .i64 k ∧ Hid (k + wordLen (s.data.toList.drop k) = i + wordLen (s.data.toList.drop i))) (fun j => s.size - (intOf j).toNat)
  case atStart => exact ⟨i, hi, rfl, hide rfl⟩
  case round =>
    obtain ⟨k, hk, rfl, hw⟩ := hrel
    by_cases hlt : k < s.size
    · have hd := hide (drop_at s k hlt)
      go_wp2_with (first | (go_at_call 72; refine (refLetter_any _ _).mono ?_; rintro e w' ⟨rfl, rfl⟩) | (go_at_call 104; refine (refDigit_any _ _).mono ?_; rintro e w' ⟨rfl, rfl⟩))
      all_goals first
        | (go_ret
           exact ⟨ret_int (by have h1 := hw.out; rw [hd.out, wordLen_cons, if_neg (by simp_all [isWord])] at h1; omega), rfl⟩)
        | (go_round
           case rel => exact ⟨k + 1, by omega, by go_num, hide (by have h1 := hw.out; rw [hd.out, wordLen_cons, if_pos (by simp_all [isWord])] at h1; omega)⟩
           case measure => simp [intOf]; omega)
    · go_wp2
      go_ret
      exact ⟨ret_int (by have h1 := hw.out; rw [List.drop_eq_nil_of_le (by simp; omega)] at h1; simp [wordLen] at h1 ⊢; omega), rfl⟩

theorem refWord0_any (s : ByteArray) (w : World) (hs : s.size ≤ maxLen) :
    Calls Tryz.prog 73 #[.string s, .int .i64 0] w fun e w' => e = .returned (.int .i64 (wordLen s.data.toList)) ∧ w = w' := by
  have h := refWord_any s 0 w hs (Nat.zero_le _)
  simpa using h

set_option maxHeartbeats 400000 in
theorem refIsName_any (s : ByteArray) (w : World) (hs : s.size ≤ maxLen) :
    Calls Tryz.prog 39 #[.string s] w fun e w' => e = .returned (.bool (isName s)) ∧ w = w' := by
  by_cases h0 : s.size = 0
  · have hn := hide (show isName s = false by simp [isName, h0])
    have he : ((s.size : Int) == 0) = true := by simp [h0]
    clear hs h0
    go_enter Tryz.func39, Tryz.ntmps39
    go_wp2_with fail
    go_ret
    exact ⟨ret_bool (by rw [hn.out]), rfl⟩
  · obtain ⟨c, r, hl⟩ : ∃ c r, s.data.toList = c :: r := by
      cases h : s.data.toList with
      | nil => exfalso; have : s.data.toList.length = s.size := by simp
               rw [h] at this; simp at this; omega
      | cons c r => exact ⟨c, r, rfl⟩
    have hn := hide (isName_cons hl)
    have hp : 0 < s.size := by omega
    have hc : s[0]'hp = c := by
      have : s.data.toList[0]? = some c := by rw [hl]; rfl
      have h2 : s.data.toList[0]? = some (s[0]'hp) := List.getElem?_eq_getElem (by simp; omega)
      rw [h2] at this; injection this
    have he : ((s.size : Int) == 0) = false := beq_eq_false_iff_ne.2 (by omega)
    have HC := hide hc
    have HL := hide hl
    clear h0 hc hl
    go_enter Tryz.func39, Tryz.ntmps39
    go_wp2_with (first | (go_at_call 72; refine (refLetter_any _ _).mono ?_; rintro e w' ⟨rfl, rfl⟩) | (go_at_call 73; refine (refWord0_any s _ hs).mono ?_; rintro e w' ⟨rfl, rfl⟩))
    all_goals
      go_ret
      refine ⟨ret_bool ?_, rfl⟩
      rw [hn.out, ← HL.out, ← HC.out, Bool.eq_iff_iff]
      simp_all
      all_goals first
        | omega
        | (intro h1 h2
           exfalso
           have h3 : 20 < (s.size : Int) ∨ isLetter (s[0].toNat : Int) = false := by assumption
           rcases h3 with h3 | h3
           · omega
           · rw [h2] at h3; cases h3)

/-- One byte as a string. -/
theorem byteStr (w : World) (n : Int) (d : UInt8) (h : (d.toNat : Int) = n) :
    (convert 72 9 (.slice (some ⟨w.heap.size, 0, none⟩) 1 1)).run Tryz.prog (w.alloc (.cells #[.int .u8 n] 5)) = .ok (.string ⟨#[d]⟩) (w.alloc (.cells #[.int .u8 n] 5)) := by
  subst h
  exact run_convert_bytes_back _ _ _ 5 ⟨w.heap.size, 0, none⟩ 1 [d] Tryz.underlying72 Tryz.underlying5 Tryz.underlying9 (fun j hj => by
    obtain rfl : j = 0 := by simp at hj; omega
    exact (Blk.new w 5 #[.int .u8 d.toNat]).cell 0)
def emptyN (v : Value) : Nat := match v with | .string b => if b.size = 0 then 1 else 0 | _ => 0
set_option maxHeartbeats 1000000 in
set_option maxRecDepth 100000 in
theorem refDigits_any (n : Nat) (w : World) (hn : n ≤ 1000000000000000) :
    Calls Tryz.prog 105 #[.int .i64 n, .int .i64 1] w fun e w' => e = .returned (.string ⟨(Lib.decDigits n).toArray⟩) ∧ Below w.heap.size w w' := by
  go_enter Tryz.func105, Tryz.ntmps105
  go_wp2_with fail
  go_loopw [0, 5] (fun m s wr => ∃ (k : Nat) (out : List UInt8), k ≤ n ∧ m = .int .i64 k ∧ s = .string ⟨out.toArray⟩ ∧ Hid (Lib.decDigits n = (if k = 0 ∧ out ≠ [] then [] else Lib.decDigits k) ++ out) ∧ Below w.heap.size w wr) (fun m s _ => 2 * (intOf m).toNat + emptyN s)
  case atStart => exact ⟨n, [], Nat.le_refl _, rfl, rfl, hide (by simp), Below.refl _ _⟩
  case round =>
    obtain ⟨k, out, hk, rfl, rfl, hd, hb⟩ := hrel
    have hol : out.length ≤ 21 := by
      have h1 := Lib.itoa_length_le (n : Int) (by omega) (by omega)
      rw [Lib.itoa_nonneg, hd.out, List.length_append] at h1
      omega
    by_cases hk0 : k = 0
    · subst hk0
      by_cases ho : out = []
      · subst ho
        have hcv := byteStr wr 48 48 rfl
        go_wp2_with fail
        go_roundw
        case rel => exact ⟨0, [48], Nat.zero_le _, rfl, rfl, hide (by rw [hd.out]; simp [Lib.decDigits]), hb.alloc hb.size _⟩
        case measure => simp [intOf, emptyN, ByteArray.size]
      · have hol1 : 1 ≤ out.length := by cases out with
          | nil => exact absurd rfl ho
          | cons _ _ => simp
        have Hd := hide (show Lib.decDigits n = out by rw [hd.out, if_pos ⟨rfl, ho⟩]; rfl)
        clear ho hd
        go_wp2_with fail
        go_ret
        exact ⟨by rw [Hd.out]; rfl, hb⟩
    · have hkp : 0 < k := by omega
      have hd8 : ((UInt8.ofNat (48 + k % 10)).toNat : Int) = 48 + (k : Int) % 10 := by
        rw [UInt8.toNat_ofNat', Nat.mod_eq_of_lt (by omega)]; omega
      have hcv := byteStr wr (48 + (k : Int) % 10) (UInt8.ofNat (48 + k % 10)) hd8
      have hdiv : ((k : Int) / 10) = ((k / 10 : Nat) : Int) := by omega
      have Hdiv := hide hdiv
      have Hd := hide (show Lib.decDigits n = (if k / 10 = 0 then [] else Lib.decDigits (k / 10)) ++ UInt8.ofNat (48 + k % 10) :: out by
        rw [hd.out, if_neg (by omega)]
        by_cases h10 : k < 10
        · rw [Lib.decDigits_one h10, if_pos (by omega), Nat.mod_eq_of_lt h10]; rfl
        · rw [if_neg (by omega)]; conv => lhs; rw [Lib.decDigits]
          simp [h10])
      clear hd8 hdiv hd hk0
      generalize UInt8.ofNat (48 + k % 10) = d at Hd hcv
      go_wp2_with fail
      go_roundw
      case rel => exact ⟨k / 10, d :: out, by omega, by rw [Hdiv.out], by rw [ByteArray.mk_append_mk]; simp, hide (by rw [Hd.out]; simp), hb.alloc hb.size _⟩
      case measure =>
        have : emptyN (Value.string ({ data := #[d] } ++ { data := out.toArray })) = 0 := by
          rw [ByteArray.mk_append_mk]; simp [emptyN, ByteArray.size]
        rw [this]
        simp only [intOf]
        omega
/-- integer(n), for numbers from 0 on. -/
theorem refFormat_any (n : Nat) (w : World) (hn : n ≤ 1000000000000000) :
    Calls Tryz.prog 74 #[.int .i64 n, .int .i64 0] w fun e w' => e = .returned (.string ⟨(Lib.itoa n).toArray⟩) ∧ Below w.heap.size w w' := by
  have hl : (Lib.decDigits n).length ≤ 21 := by
    have h1 := Lib.itoa_length_le (n : Int) (by omega) (by omega)
    rwa [Lib.itoa_nonneg] at h1
  rw [Lib.itoa_nonneg]
  obtain ⟨ds, hds⟩ : ∃ ds, Lib.decDigits n = ds := ⟨_, rfl⟩
  have Hds := hide hds
  rw [hds] at hl ⊢
  clear hds
  go_enter Tryz.func74, Tryz.ntmps74
  go_wp2_with fail
  refine (refDigits_any n _ hn).mono ?_
  rintro e w1 ⟨rfl, hb1⟩
  rw [Hds.out]
  go_wp2_with fail
  go_ret
  exact ⟨ret_str (by rw [ByteArray.mk_append_mk]; simp), hb1⟩

end Go.Proofs.YtnhmdgkhmkeopaaGreatDoor
