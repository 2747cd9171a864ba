/- The finding of a line, by the program. -/
import Derived.Test.YtnhmdgkhmkeopaaGreatDoorCutW
import Derived.Test.YtnhmdgkhmkeopaaGreatDoorTrimT
namespace Go.Proofs.YtnhmdgkhmkeopaaGreatDoor
open Go.RowKit

/-- The library's MaxLen holds some number. -/
def MX (B : Nat) (w : World) : Prop := 2 < B ∧ ∃ m : Int, w.cell? ⟨2, 0, none⟩ = some (.int .i64 m)
theorem MX.carry {B : Nat} {w w' : World} (h : MX B w) (hb : Below B w w') : MX B w' := by
  obtain ⟨h1, m, h2⟩ := h
  exact ⟨h1, m, (hb.cell (p := ⟨2, 0, none⟩) h1).trans h2⟩
theorem MX.raise {B B' : Nat} {w : World} (h : MX B w) (hB : B ≤ B') : MX B' w := ⟨Nat.lt_of_lt_of_le h.1 hB, h.2⟩

theorem below_drewN {B : Nat} {a w : World} (h : Below B a w) (n : Nat) : Below B a (w.drewN n) := by
  exact ⟨h.os, h.tape, h.output, h.size, h.block⟩
def cutFst (c : UInt8) (s : ByteArray) : ByteArray := ⟨(Lib.cut s.data.toList [c]).1.toArray⟩
def cutSnd (c : UInt8) (s : ByteArray) : ByteArray := ⟨(Lib.cut s.data.toList [c]).2.1.toArray⟩
def cutIs (c : UInt8) (s : ByteArray) : Bool := (Lib.cut s.data.toList [c]).2.2
theorem cut_any (c : UInt8) (s : ByteArray) (w : World) (hs : s.size ≤ 300000) {B : Nat} (hm : MX B w) :
    Calls Tryz.prog 41 #[.string s, .string ⟨#[c]⟩] w fun e w' => e = .returned (.tuple #[.string (cutFst c s), .string (cutSnd c s), .bool (cutIs c s)]) ∧ Below w.heap.size w w' := by
  obtain ⟨_, m, hm⟩ := hm
  refine (Tryz.strings_Cut s ⟨#[c]⟩ m w (by omega) hm).mono ?_
  rintro e w' ⟨he, n, rfl⟩
  exact ⟨he, below_drewN (Below.refl _ _) n⟩
theorem cut_hit {c : UInt8} {s : ByteArray} {i : Nat} (h : Lib.indexB s ⟨#[c]⟩ = i) : cutFst c s = s.extract 0 i ∧ cutSnd c s = s.extract (i + 1) s.size ∧ cutIs c s = true := Lib.cutB_hit s ⟨#[c]⟩ i h
theorem cut_miss {c : UInt8} {s : ByteArray} (h : Lib.indexB s ⟨#[c]⟩ = -1) : cutFst c s = s ∧ cutSnd c s = .empty ∧ cutIs c s = false := Lib.cutB_miss s ⟨#[c]⟩ h

theorem atoi_any (s : ByteArray) (w : World) (hs : s.size ≤ 18) (hn : s.data.toList ≠ []) (hd : allDigits s.data.toList = true) :
    Calls Tryz.prog 34 #[.string s] w fun e w' => e = .returned (.tuple #[.int .i64 (numVal s.data.toList), .nilIface]) ∧ Below w.heap.size w w' := by
  refine (Tryz.strconv_Atoi s _ hs (atoi_digits hn hd) w).mono ?_
  rintro e w' ⟨he, t, rfl⟩
  exact ⟨he, Lib.bytesWorld_below w _ t⟩

def pfKind (s : ByteArray) : Int := if rfOk s then rfKind s else 0
def pfName (s : ByteArray) : ByteArray := if rfOk s then rfName s else .empty
theorem rfOk_hit {s : ByteArray} {i : Nat} (h : Lib.indexB s ⟨#[32]⟩ = i) : rfOk s = (isName (cutSnd 32 s) && decide ((cutFst 32 s).size ≤ 7) && numGood (cutFst 32 s).data.toList) := by
  obtain ⟨c1, c2, _⟩ := cut_hit h
  rw [rfOk, rfForm_hit h, c1, c2]
  cases hn : isName (s.extract (i + 1) s.size)
  · simp
  · rw [(rfWords_hit h hn).1]
theorem pf_good {s : ByteArray} (hc : cutIs 32 s = true) (hn : isName (cutSnd 32 s) = true) (h7 : (cutFst 32 s).size ≤ 7) (hg : numGood (cutFst 32 s).data.toList = true) :
    rfOk s = true ∧ pfKind s = numVal (cutFst 32 s).data.toList ∧ pfName s = cutSnd 32 s := by
  rcases Lib.indexB_cases s ⟨#[32]⟩ with h | ⟨i, h, _⟩
  · rw [(cut_miss h).2.2] at hc; cases hc
  · have ho : rfOk s = true := by rw [rfOk_hit h, hn, hg]; simpa using h7
    have hf : rfForm s = true := by rw [rfOk, Bool.and_eq_true] at ho; exact ho.1
    obtain ⟨c1, c2, _⟩ := cut_hit h
    rw [c2] at hn
    obtain ⟨w0, w1⟩ := rfWords_hit h hn
    refine ⟨ho, ?_, ?_⟩
    · rw [pfKind, ho, if_pos rfl, rfKind, hf, if_pos rfl, w0, c1, numRes, ← c1, hg, if_pos rfl]
    · rw [pfName, ho, if_pos rfl, rfName, hf, if_pos rfl, w1, c2]
theorem pf_bad {s : ByteArray} (h : ¬ (cutIs 32 s = true ∧ isName (cutSnd 32 s) = true ∧ (cutFst 32 s).size ≤ 7 ∧ numGood (cutFst 32 s).data.toList = true)) :
    rfOk s = false ∧ pfKind s = 0 ∧ pfName s = .empty := by
  have ho : rfOk s = false := by
    rcases Lib.indexB_cases s ⟨#[32]⟩ with h1 | ⟨i, h1, _⟩
    · rw [rfOk, rfForm_miss h1]; rfl
    · rw [rfOk_hit h1]
      rw [(cut_hit h1).2.2] at h
      rw [Bool.eq_false_iff]
      intro h2
      simp only [Bool.and_eq_true, decide_eq_true_eq] at h2
      exact h ⟨rfl, h2.1.1, h2.1.2, h2.2⟩
  exact ⟨ho, by rw [pfKind, ho]; rfl, by rw [pfName, ho]; rfl⟩
theorem cutFst_le (c : UInt8) (s : ByteArray) : (cutFst c s).size ≤ s.size := by
  rcases Lib.indexB_cases s ⟨#[c]⟩ with h | ⟨i, h, _⟩
  · rw [(cut_miss h).1]; exact Nat.le_refl _
  · rw [(cut_hit h).1]; simp [ByteArray.size_extract]
    try omega
theorem cutSnd_le (c : UInt8) (s : ByteArray) : (cutSnd c s).size ≤ s.size := by
  rcases Lib.indexB_cases s ⟨#[c]⟩ with h | ⟨i, h, _⟩
  · rw [(cut_miss h).2.1]; simp
  · rw [(cut_hit h).2.1]; simp [ByteArray.size_extract]
    try omega

theorem noBytes_no {r : ByteArray} (h : noBytes r = false) : (r.toList == ([] : List UInt8)) = false := by
  rw [noBytes, decide_eq_false_iff_not] at h
  rw [beq_eq_false_iff_ne, ByteArray.toList_eq]
  intro h2
  apply h
  have : r.data.toList.length = r.size := by simp
  rw [h2] at this
  simpa using this.symm
theorem noBytes_yes {r : ByteArray} (h : noBytes r = true) : (r.toList == ([] : List UInt8)) = true := by
  rw [noBytes, decide_eq_true_eq] at h
  rw [beq_iff_eq, ByteArray.toList_eq]
  exact List.eq_nil_of_length_eq_zero (by simpa using h)

set_option maxHeartbeats 4000000 in
set_option maxRecDepth 100000 in
theorem finding_any (s : ByteArray) (w : World) (hs : s.size ≤ 262144) {B : Nat} (hB : B ≤ w.heap.size) (hm : MX B w) :
    Calls Tryz.prog 42 #[.string s] w fun e w' => e = .returned (.tuple #[.agg #[.int .i64 (pfKind s), .string (pfName s)], .bool (rfOk s)]) ∧ Below w.heap.size w w' := by
  have Hm := hide hm
  have hc1 := cutFst_le 32 s
  have hc2 := cutSnd_le 32 s
  clear hm
  go_enter Tryz.func42, Tryz.ntmps42
  go_wp2_with fail
  refine (cut_any 32 s _ (by omega) (Hm.out.carry ((Below.refl B w).alloc hB _))).mono ?_
  rintro e w1 ⟨rfl, hb1⟩
  have B1 := hide ((Blk.new w 49 #[.int .i64 0, .string .empty]).keep hb1)
  have hb2 := hide (below_step (below_new w _) hb1 (Nat.le_refl _))
  have k0 := B1.out.cell 0
  have k1 := B1.out.cell 1
  have f0 := B1.out.frozen 0
  have f1 := B1.out.frozen 1
  simp at k0 k1
  clear hb1
  obtain ⟨K, hK⟩ : ∃ K, K = cutFst 32 s := ⟨_, rfl⟩
  obtain ⟨N, hN⟩ : ∃ N, N = cutSnd 32 s := ⟨_, rfl⟩
  have HK := hide hK
  have HN := hide hN
  rw [← hK, ← hN]
  rw [← hK] at hc1
  rw [← hN] at hc2
  clear hK hN
  cases hci : cutIs 32 s
  · have hbad := pf_bad (s := s) (by rw [hci]; rintro ⟨h, _⟩; cases h)
    have hk := hide hbad.2.1
    have hn := hide hbad.2.2
    have ho := hide hbad.1
    clear hbad
    clear hci
    go_wp2_with fail
    refine bodyPost_ret (results_ct rfl rfl ((B1.out.set_ 0 _).set_ 1 _) Tryz.underlying49 rfl (by kernel_rfl)) rfl ?_
    exact ⟨by rw [hk.out, hn.out, ho.out]; rfl, (hb2.out.setCell (by simp) _).setCell (by simp) _⟩
  cases hnm : isName N
  · have hbad := pf_bad (s := s) (by rw [← HN.out, hnm]; rintro ⟨_, h, _⟩; cases h)
    have hk := hide hbad.2.1
    have hn := hide hbad.2.2
    have ho := hide hbad.1
    clear hbad
    have Hnm := hide hnm
    clear hci hnm
    go_wp2_with (go_at_call 38; refine (isName_any _ _ (by unfold maxLen; omega)).mono ?_; rintro e w' ⟨rfl, rfl⟩; rw [Hnm.out])
    refine bodyPost_ret (results_ct rfl rfl ((B1.out.set_ 0 _).set_ 1 _) Tryz.underlying49 rfl (by kernel_rfl)) rfl ?_
    exact ⟨by rw [hk.out, hn.out, ho.out]; rfl, (hb2.out.setCell (by simp) _).setCell (by simp) _⟩
  have Hnm := hide hnm
  have Hci := hide hci
  by_cases h0 : K.size = 0
  · have hnil : K.data.toList = [] := List.eq_nil_of_length_eq_zero (by simpa using h0)
    have hbad := pf_bad (s := s) (by rw [← HK.out, hnil]; rintro ⟨_, _, _, h⟩; cases h)
    have hk := hide hbad.2.1
    have hn := hide hbad.2.2
    have ho := hide hbad.1
    clear hbad
    have q0 : (K.toList == ([] : List UInt8)) = true := by
      rw [beq_iff_eq, ByteArray.toList_eq]; exact hnil
    clear hci hnm h0 hnil
    go_wp2_with (go_at_call 38; refine (isName_any _ _ (by unfold maxLen; omega)).mono ?_; rintro e w' ⟨rfl, rfl⟩; rw [Hnm.out])
    refine bodyPost_ret (results_ct rfl rfl ((B1.out.set_ 0 _).set_ 1 _) Tryz.underlying49 rfl (by kernel_rfl)) rfl ?_
    exact ⟨by rw [hk.out, hn.out, ho.out]; rfl, (hb2.out.setCell (by simp) _).setCell (by simp) _⟩
  have hnil : K.data.toList ≠ [] := by intro h; apply h0; have : K.data.toList.length = K.size := by simp
                                       rw [h] at this; simpa using this.symm
  have q0 : (K.toList == ([] : List UInt8)) = false := by
    rw [beq_eq_false_iff_ne, ByteArray.toList_eq]; exact hnil
  by_cases h7 : 7 < K.size
  · have hbad := pf_bad (s := s) (by rw [← HK.out]; rintro ⟨_, _, h, _⟩; omega)
    have hk := hide hbad.2.1
    have hn := hide hbad.2.2
    have ho := hide hbad.1
    clear hbad
    have d7 : decide (7 < (K.size : Int)) = true := by simp; omega
    clear hci hnm h0 hnil
    go_wp2_with (go_at_call 38; refine (isName_any _ _ (by unfold maxLen; omega)).mono ?_; rintro e w' ⟨rfl, rfl⟩; rw [Hnm.out])
    refine bodyPost_ret (results_ct rfl rfl ((B1.out.set_ 0 _).set_ 1 _) Tryz.underlying49 rfl (by kernel_rfl)) rfl ?_
    exact ⟨by rw [hk.out, hn.out, ho.out]; rfl, (hb2.out.setCell (by simp) _).setCell (by simp) _⟩
  have d7 : decide (7 < (K.size : Int)) = false := by simp; omega
  have hh0 : 0 < K.size := by omega
  have hget : K.data.toList.head? = some (K[0]'hh0) := by
    rw [List.head?_eq_getElem?]
    exact List.getElem?_eq_getElem (by simpa using hh0)
  cases hall : allDigits K.data.toList
  · have hbad := pf_bad (s := s) (by rw [← HK.out, numGood, hall, Bool.and_false]; rintro ⟨_, _, _, h⟩; cases h)
    have hk := hide hbad.2.1
    have hn := hide hbad.2.2
    have ho := hide hbad.1
    clear hbad
    have Hall := hide hall
    clear hci hnm h0 hnil hget hall
    go_wp2_with (first
      | (go_at_call 38; refine (isName_any _ _ (by unfold maxLen; omega)).mono ?_; rintro e w' ⟨rfl, rfl⟩; rw [Hnm.out])
      | (go_at_call 76; refine (trim_ten K _ (by omega) q0).mono ?_; rintro e w3 ⟨r, rfl, hr, hb3⟩; have q9 := noBytes_no (hr.out.trans Hall.out); have B2 := hide (B1.out.keep hb3); have hb4 := hide (below_step hb2.out hb3 (Nat.le_refl _)); have l0 := B2.out.cell 0; have l1 := B2.out.cell 1; have g0 := B2.out.frozen 0; have g1 := B2.out.frozen 1; simp at l0 l1; clear hb3 k0 k1 f0 f1))
    refine bodyPost_ret (results_ct rfl rfl ((B2.out.set_ 0 _).set_ 1 _) Tryz.underlying49 rfl (by kernel_rfl)) rfl ?_
    exact ⟨by rw [hk.out, hn.out, ho.out]; rfl, (hb4.out.setCell (by simp) _).setCell (by simp) _⟩
  have Hall := hide hall
  by_cases hz : 1 < K.size ∧ K[0]'hh0 = 48
  · have hform : numGood K.data.toList = false := by
      have hl : K.data.toList.length = K.size := by simp
      simp [numGood, numForm, hl, hget, hz.1, hz.2]
    have hbad := pf_bad (s := s) (by rw [← HK.out, hform]; rintro ⟨_, _, _, h⟩; cases h)
    have hk := hide hbad.2.1
    have hn := hide hbad.2.2
    have ho := hide hbad.1
    clear hbad
    have d1 : decide (1 < (K.size : Int)) = true := by simp; omega
    have d3 : (((K[0]'hh0).toNat : Int) == 48) = true := by rw [hz.2]; rfl
    clear hci hnm h0 hnil hget hall hform hz
    go_wp2_with (first
      | (go_at_call 38; refine (isName_any _ _ (by unfold maxLen; omega)).mono ?_; rintro e w' ⟨rfl, rfl⟩; rw [Hnm.out])
      | (go_at_call 76; refine (trim_ten K _ (by omega) q0).mono ?_; rintro e w3 ⟨r, rfl, hr, hb3⟩; have q9 := noBytes_yes (hr.out.trans Hall.out); have B2 := hide (B1.out.keep hb3); have hb4 := hide (below_step hb2.out hb3 (Nat.le_refl _)); have l0 := B2.out.cell 0; have l1 := B2.out.cell 1; have g0 := B2.out.frozen 0; have g1 := B2.out.frozen 1; simp at l0 l1; clear hb3 k0 k1 f0 f1))
    refine bodyPost_ret (results_ct rfl rfl ((B2.out.set_ 0 _).set_ 1 _) Tryz.underlying49 rfl (by kernel_rfl)) rfl ?_
    exact ⟨by rw [hk.out, hn.out, ho.out]; rfl, (hb4.out.setCell (by simp) _).setCell (by simp) _⟩
  have hgood : numGood K.data.toList = true := by
    have hl : K.data.toList.length = K.size := by simp
    rw [numGood, hall, Bool.and_true]
    simp only [numForm, hl, hget, Bool.and_eq_true, decide_eq_true_eq, Bool.not_eq_true', Bool.and_eq_false_iff, decide_eq_false_iff_not]
    refine ⟨⟨by omega, by omega⟩, ?_⟩
    by_cases h3 : 1 < K.size
    · right
      simp only [beq_eq_false_iff_ne, ne_eq, Option.some.injEq]
      exact fun h => hz ⟨h3, h⟩
    · left; exact h3
  have hd23 : decide (1 < (K.size : Int)) = false ∨ (decide (1 < (K.size : Int)) = true ∧ (((K[0]'hh0).toNat : Int) == 48) = false) := by
    by_cases h3 : 1 < K.size
    · right
      refine ⟨by simp; omega, ?_⟩
      simp only [beq_eq_false_iff_ne, ne_eq]
      intro h
      refine hz ⟨h3, ?_⟩
      apply UInt8.toNat_inj.1
      exact_mod_cast h
    · left; simp; omega
  have hpf := pf_good (s := s) hci (by rw [← HN.out]; exact hnm) (by rw [← HK.out]; omega) (by rw [← HK.out]; exact hgood)
  have ho := hide hpf.1
  have hk := hide (hpf.2.1.trans (by rw [← HK.out]))
  have hn := hide (hpf.2.2.trans (HN.out.symm))
  have Hnil := hide hnil
  have hk7 : K.size ≤ 18 := by omega
  clear hci hnm h0 hnil hget hall hz hgood hpf
  rcases hd23 with d1 | ⟨d1, d3⟩
  all_goals
    go_wp2_with (first
      | (go_at_call 38; refine (isName_any _ _ (by unfold maxLen; omega)).mono ?_; rintro e w' ⟨rfl, rfl⟩; rw [Hnm.out])
      | (go_at_call 76; refine (trim_ten K _ (by omega) q0).mono ?_; rintro e w3 ⟨r, rfl, hr, hb3⟩; have q9 := noBytes_yes (hr.out.trans Hall.out); have B2 := hide (B1.out.keep hb3); have hb4 := hide (below_step hb2.out hb3 (Nat.le_refl _)); clear hb3 k0 k1 f0 f1)
      | (go_at_call 34; refine (atoi_any K _ hk7 Hnil.out Hall.out).mono ?_; rintro e w5 ⟨rfl, hb5⟩; have B4 := hide (B2.out.keep hb5); have hb6 := hide (below_step hb4.out hb5 (Nat.le_refl _)); have l0 := B4.out.cell 0; have l1 := B4.out.cell 1; have g0 := B4.out.frozen 0; have g1 := B4.out.frozen 1; simp at l0 l1; clear hb5))
    go_region
    all_goals
      go_wp2_with fail
      refine bodyPost_ret (results_ct rfl rfl ((B4.out.set_ 0 _).set_ 1 _) Tryz.underlying49 rfl (by kernel_rfl)) rfl ?_
      exact ⟨by rw [hk.out, hn.out, ho.out]; rfl, ((hb6.out.setCell (by simp) _).setCell (by simp) _).drew⟩
end Go.Proofs.YtnhmdgkhmkeopaaGreatDoor
