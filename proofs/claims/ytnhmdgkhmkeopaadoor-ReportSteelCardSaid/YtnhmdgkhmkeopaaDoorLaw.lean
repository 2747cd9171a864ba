/- The law: the report of a schedule is the reference's, or ErrArg. -/
import Derived.Test.YtnhmdgkhmkeopaaDoorAwake
import Derived.Test.YtnhmdgkhmkeopaaDoorTextR
namespace Go.Proofs.YtnhmdgkhmkeopaaDoor
open Go.RowKit

theorem small_tame {l : List BarD} (h : smallOk l 70 = true) : l.length ≤ 70 ∧ Tame l := by
  simp only [smallOk, Bool.and_eq_true, decide_eq_true_eq, List.all_eq_true] at h
  refine ⟨by omega, fun x hx => ?_⟩
  have h2 := h.2 x hx
  simp only [smallBar, Bool.and_eq_true, decide_eq_true_eq] at h2
  unfold maxLen
  omega

set_option maxHeartbeats 4000000 in
set_option maxRecDepth 100000 in
theorem law_any (A : Option Addr) (l : List BarD) (n c : Nat) (w : World) {B : Nat} (h : BarsAt w B A l) (hB : B ≤ w.heap.size) (hn : n = l.length) (hm : (n : Int) ≤ 9223372036854775807) {Bt : Nat} (hBt : Bt ≤ w.heap.size) (ht : TB Bt w) :
    Calls Tryd.prog 3 #[.slice A n c] w fun e w' => e = .returned (.bool true) ∧ Below w.heap.size w w' := by
  have hn' := hide hn
  have Hs := hide h
  have Ht := hide ht
  clear hn h ht
  go_enter Tryd.func3, Tryd.ntmps3
  go_wp2_with fail
  refine (awake_any w hBt Ht.out).mono ?_
  rintro e w1 ⟨rfl, hb1⟩
  have Hw1 := hide hb1
  have H1 := hide (Hs.out.carry (hb1.mono hB) (Nat.le_refl B))
  have hB1 := Nat.le_trans hB hb1.size
  clear hb1
  go_wp2_with fail
  refine (refSmall_any A l n c 70 _ H1.out hn'.out hm).mono ?_
  rintro e w2 ⟨rfl, rfl⟩
  cases hsm : smallOk l 70
  · clear hsm
    go_wp2_with fail
    go_ret
    exact ⟨rfl, Hw1.out⟩
  · obtain ⟨hl70, htame⟩ := small_tame hsm
    have Htame := hide htame
    have hn70 : n ≤ 70 := by rw [hn'.out]; exact hl70
    clear htame hsm hm
    cases hok : schedOk l
    · have Hok := hide hok
      clear hok
      go_wp2_with fail
      refine (repSteel_bad A l n c _ H1.out hB1 hn'.out Htame.out (by omega) Hok.out).mono ?_
      rintro e w3 ⟨rfl, hb3⟩
      have Hw3 := hide (below_step Hw1.out hb3 (Nat.le_refl _))
      have H3 := hide (H1.out.carry (hb3.mono hB1) (Nat.le_refl B))
      have hB3 := Nat.le_trans hB1 hb3.size
      clear hb3
      go_wp2_with fail
      refine (refSchedValid_any A l n c _ H3.out hB3 hn'.out Htame.out (by omega)).mono ?_
      rintro e w4 ⟨rfl, hb4⟩
      rw [Hok.out]
      have Hw4 := hide (below_step Hw3.out hb4 (Nat.le_refl _))
      clear hb4
      go_wp2_with fail
      go_ret
      exact ⟨rfl, Hw4.out⟩
    · have Hok := hide hok
      clear hok
      go_wp2_with fail
      refine (repSteel_ok A l n c _ (B := max B Bt) (Hs.out.carry ((Hw1.out.mono (Nat.max_le.2 ⟨hB, hBt⟩)).mono (Nat.le_max_left _ _)) (Nat.le_max_left _ _)) (Nat.le_trans (Nat.max_le.2 ⟨hB, hBt⟩) Hw1.out.size) hn'.out Htame.out Hok.out ((Ht.out.carry (Hw1.out.mono hBt)).raise (Nat.le_max_right _ _))).mono ?_
      rintro e w3 ⟨rfl, hb3⟩
      have Hw3 := hide (below_step Hw1.out hb3 (Nat.le_refl _))
      have H3 := hide (H1.out.carry (hb3.mono hB1) (Nat.le_refl B))
      have hB3 := Nat.le_trans hB1 hb3.size
      clear hb3
      obtain ⟨st, hst⟩ : ∃ st : ByteArray, st = ⟨(steelText l).toArray⟩ := ⟨_, rfl⟩
      rw [← hst]
      have Hst := hide hst
      clear hst
      go_wp2_with fail
      refine (refSchedValid_any A l n c _ H3.out hB3 hn'.out Htame.out (by omega)).mono ?_
      rintro e w4 ⟨rfl, hb4⟩
      rw [Hok.out]
      have Hw4 := hide (below_step Hw3.out hb4 (Nat.le_refl _))
      have H4 := hide (H3.out.carry (hb4.mono hB3) (Nat.le_refl B))
      have hB4 := Nat.le_trans hB3 hb4.size
      clear hb4
      go_wp2_with fail
      refine (refSteel_ok A l n c _ H4.out hB4 hn'.out Hok.out).mono ?_
      rintro e w5 ⟨rfl, hb5⟩
      rw [← Hst.out]
      have Hw5 := hide (below_step Hw4.out hb5 (Nat.le_refl _))
      clear hb5
      go_wp2_with fail
      go_ret
      exact ⟨rfl, Hw5.out⟩
end Go.Proofs.YtnhmdgkhmkeopaaDoor
