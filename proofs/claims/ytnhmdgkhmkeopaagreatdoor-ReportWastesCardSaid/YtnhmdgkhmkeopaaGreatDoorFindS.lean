/- The reference's text of findings. -/
import Derived.Test.YtnhmdgkhmkeopaaGreatDoorFindR
namespace Go.Proofs.YtnhmdgkhmkeopaaGreatDoor
open Go.RowKit

def numB (n : Int) : ByteArray := ⟨(Lib.itoa n).toArray⟩
theorem numB_len {n : Int} (h0 : 0 ≤ n) (h1 : n ≤ 1000000000000000) : (numB n).size ≤ 30 := by
  have := Lib.itoa_length_le n (by omega) (by omega)
  simp [numB, ByteArray.size]
  omega
theorem refInt_any (n : Int) (w : World) (h0 : 0 ≤ n) (h1 : n ≤ 1000000000000000) :
    Calls Tryz.prog 40 #[.int .i64 n] w fun e w' => e = .returned (.string (numB n)) ∧ Below w.heap.size w w' := by
  obtain ⟨k, rfl⟩ := Int.eq_ofNat_of_zero_le h0
  go_enter Tryz.func40, Tryz.ntmps40
  go_wp2_with fail
  refine (refFormat_any k _ (by omega)).mono ?_
  rintro e w1 ⟨rfl, hb⟩
  go_wp2_with fail
  go_ret
  exact ⟨rfl, hb⟩

def finStr (l : List FinD) : ByteArray := if 1000 < l.length then .empty else if anyOf finBad l then .empty else ⟨(finLines l).toArray⟩
def finErr (l : List FinD) : Int := if 1000 < l.length then 4 else if anyOf finBad l then 1 else 0
theorem finLine_eq (x : FinD) (s : List UInt8) :
    (⟨s.toArray⟩ : ByteArray) ++ numB x.kind ++ ⟨#[32]⟩ ++ x.name ++ ⟨#[10]⟩ = ⟨(s ++ lineBytes (finWords x)).toArray⟩ := by
  obtain ⟨kind, name⟩ := x
  obtain ⟨arr⟩ := name
  obtain ⟨nl⟩ := arr
  simp only [numB, ByteArray.mk_append_mk]
  congr 1
  simp [lineBytes, finWords, spaced, Word.bytes]

set_option maxHeartbeats 4000000 in
set_option maxRecDepth 100000 in
theorem refFindings_any (A : Option Addr) (l : List FinD) (n c : Nat) (w : World) {B : Nat} (h : FinsAt w B A l) (hB : B ≤ w.heap.size) (hn : n = l.length) (hm : ∀ x ∈ l, x.name.size ≤ maxLen) :
    Calls Tryz.prog 17 #[.slice A n c] w fun e w' => e = .returned (.tuple #[.string (finStr l), .int .i64 (finErr l)]) ∧ Below w.heap.size w w' := by
  have hn' := hide hn
  have Hs := hide h
  have Hmx := hide hm
  by_cases h1000 : 1000 < n
  · have hs := hide (show finStr l = .empty by rw [finStr, ← hn, if_pos h1000])
    have he := hide (show finErr l = 4 by rw [finErr, ← hn, if_pos h1000])
    have d0 : decide (1000 < (n : Int)) = true := by simp; omega
    clear hn h hm h1000
    go_enter Tryz.func17, Tryz.ntmps17
    go_wp2_with fail
    go_ret2
    exact ⟨by rw [hs.out, he.out]; rfl, Below.refl _ _⟩
  have hs := hide (show finStr l = if anyOf finBad l then .empty else ⟨(finLines l).toArray⟩ by rw [finStr, ← hn, if_neg h1000])
  have he := hide (show finErr l = if anyOf finBad l then 1 else 0 by rw [finErr, ← hn, if_neg h1000])
  have hh : decide (0 ≤ idx finBad l) = anyOf finBad l := by rw [idx_any]; rfl
  have HH := hide hh
  have hn1 : n ≤ 1000 := by omega
  have d0 : decide (1000 < (n : Int)) = false := by simp; omega
  clear hn h hm h1000 hh
  go_enter Tryz.func17, Tryz.ntmps17
  go_wp2_with fail
  go_loopw [4, 5] (fun s i wr => ∃ k : Nat, k ≤ n ∧ i = .int .i64 k ∧ NoneTo finBad l k ∧ (∃ st : ByteArray, s = .string st ∧ st.size ≤ 100 * k ∧ Hid (st = ⟨(finLines (l.take k)).toArray⟩)) ∧ Below w.heap.size w wr) (fun _ i _ => n - (intOf i).toNat)
  case atStart => exact ⟨0, Nat.zero_le _, rfl, NoneTo.zero _ _, ⟨.empty, rfl, by simp, hide rfl⟩, Below.refl _ _⟩
  case round =>
    obtain ⟨k, hk, rfl, hno, ⟨st, rfl, hst, hse⟩, hb⟩ := hrel
    by_cases hlt : k < n
    · obtain ⟨b, off, x, hA, hbl, hx, c0, c1⟩ := FinsAt.get (k := k) (SlOf.carry (Flat.carried _) Hs.out (hb.mono hB) (Nat.le_refl B)) (by rw [← hn'.out]; exact hlt)
      subst hA
      have Hx := hide hx
      have hmx := Hmx.out x (mem_of_get hx)
      clear hx
      cases hbad : finBad x
      · have Hbad := hide hbad
        obtain ⟨⟨hk0, hk1⟩, hnm⟩ := finGood hbad
        have hnamed : isName x.name = true := by
          simp only [finBad, Bool.or_eq_false_iff, Bool.not_eq_false'] at hbad
          exact hbad.2
        have Hnm := hide hnamed
        have q0 : decide (x.kind < 0) = false := by simp; omega
        have q1 : decide (1000000 < x.kind) = false := by simp; omega
        have e0 := cell_regrown c0
        have e1 := cell_regrown c1
        have hbl' : b < wr.heap.size := Nat.lt_of_lt_of_le hbl (Nat.le_trans hB hb.size)
        have z0 := numB_len hk0 (by omega)
        have i0 := fun W => hide (refInt_any x.kind W hk0 (by omega))
        have hfin := hide (finLine_eq x (finLines (l.take k)))
        clear hbad hnamed hbl hk0 hk1
        go_wp2_with (go_at_call 39; refine (refIsName_any _ _ hmx).mono ?_; rintro e w' ⟨rfl, rfl⟩; rw [Hnm.out])
        refine wp_region_quiet_below (by kernel_rfl) (by kernel_rfl) ?_
        repeat (go_big_quiet_step (first
          | (go_at_call 40; exact Calls.regrown_of (i0 _).out)))
        refine wpQuiet_nil ?_
        intro w2 hw'
        have hbq := hide (show Below _ _ w2 by obtain ⟨p, rfl⟩ := hw'; exact below_regrown _ _ _)
        clear hw'
        have hb2 := hide (below_step hb hbq.out (Nat.le_refl _))
        clear c0 c1 e0 e1 hbq i0
        go_wp2_with fail
        go_roundw
        case rel =>
          refine ⟨k + 1, by omega, by go_num, hno.succ Hx.out Hbad.out, ⟨_, rfl, ?_, hide ?_⟩, hb2.out⟩
          · have l1 : (⟨#[32]⟩ : ByteArray).size = 1 := rfl
            have l2 : (⟨#[10]⟩ : ByteArray).size = 1 := rfl
            simp only [ByteArray.size_append, l1, l2]
            omega
          · rw [take_snoc' Hx.out, finLines_snoc, ← hfin.out, hse.out]
        case measure => simp [intOf]; omega
      · have hany := hide (show anyOf finBad l = true by rw [← HH.out, hno.hit Hx.out hbad]; simp)
        have hs2 := hide (hs.out.trans (by rw [hany.out, if_pos rfl]))
        have he2 := hide (he.out.trans (by rw [hany.out, if_pos rfl]))
        have hcase : decide (x.kind < 0) = true ∨ (decide (x.kind < 0) = false ∧ decide (1000000 < x.kind) = true) ∨ (decide (x.kind < 0) = false ∧ decide (1000000 < x.kind) = false ∧ isName x.name = false) := by
          simp only [finBad, Bool.or_eq_true, Bool.not_eq_true'] at hbad
          cases h0 : decide (x.kind < 0) <;> cases h1 : decide (1000000 < x.kind) <;> simp_all
        clear hbad hany
        rcases hcase with q0 | ⟨q0, q1⟩ | ⟨q0, q1, q2⟩
        · go_wp2_with fail
          go_ret2
          exact ⟨by rw [hs2.out, he2.out]; rfl, hb⟩
        · go_wp2_with fail
          go_ret2
          exact ⟨by rw [hs2.out, he2.out]; rfl, hb⟩
        · have Hq2 := hide q2
          clear q2
          go_wp2_with (go_at_call 39; refine (refIsName_any _ _ hmx).mono ?_; rintro e w' ⟨rfl, rfl⟩; rw [Hq2.out])
          go_ret2
          exact ⟨by rw [hs2.out, he2.out]; rfl, hb⟩
    · obtain rfl : k = n := by omega
      have hany := hide (show anyOf finBad l = false by rw [← HH.out, NoneTo.miss (by rw [← hn'.out]; exact hno)]; rfl)
      have hs2 := hide (show finStr l = st by rw [hs.out, hany.out, hse.out, hn'.out, List.take_length, if_neg (by simp)])
      have he2 := hide (show finErr l = 0 by rw [he.out, hany.out, if_neg (by simp)])
      clear hany hno
      go_wp2_with fail
      go_ret2
      exact ⟨by rw [hs2.out, he2.out]; rfl, hb⟩
end Go.Proofs.YtnhmdgkhmkeopaaGreatDoor
