/- The law: findings are read from their text, and a text that is read is the text of its findings. -/
import Derived.Test.YtnhmdgkhmkeopaaGreatDoorLawF
import Derived.Test.YtnhmdgkhmkeopaaGreatDoorBackP
namespace Go.Proofs.YtnhmdgkhmkeopaaGreatDoor
open Go.RowKit

theorem pOut_names (s : ByteArray) : ∀ x ∈ pOut s, x.name.size ≤ maxLen := by
  intro x hx
  rw [pOut] at hx
  by_cases h : pErr s = 0
  · have h9 := (finErr_zero (read_text h).1).2.1
    have ho : pOut s = fins s := by rw [pOut, h, if_pos rfl]
    rw [if_pos h] at hx
    rw [ho, anyOf, List.any_eq_false] at h9
    have := (finGood (x := x) (by simpa using h9 x hx)).2
    unfold maxLen
    omega
  · rw [if_neg h] at hx; cases hx
theorem parse_back {l : List FinD} (hf : fewOk l = true) (h : finErr l = 0) (w : World) {B : Nat} (hB : B ≤ w.heap.size) (hm : MX B w) :
    Calls Tryz.prog 18 #[.string (finStr l)] w fun e w' => ∃ A c, e = .returned (.tuple #[.slice A l.length c, .agg #[.int .i64 0, .int .i64 0], .int .i64 0]) ∧ FinsAt w' w'.heap.size A l ∧ Below w.heap.size w w' := by
  obtain ⟨h1, h2, h3, h4⟩ := text_read hf h
  have := repParse_any (finStr l) w hB hm
  rw [h1, h2, h3, h4] at this
  exact this

set_option maxHeartbeats 4000000 in
set_option maxRecDepth 100000 in
theorem lawB_any (A : Option Addr) (l : List FinD) (n c : Nat) (s : ByteArray) (w : World) {B : Nat} (h : FinsAt w B A l) (hB : B ≤ w.heap.size) (hn : n = l.length) (ht : TB w.heap.size w) (hm : MX w.heap.size w) :
    Calls Tryz.prog 5 #[.slice A n c, .string s] w fun e w' => e = .returned (.bool true) ∧ Below w.heap.size w w' := by
  have hn' := hide hn
  have Hs := hide h
  have Ht := hide ht
  have Hm := hide hm
  clear hn h ht hm
  go_enter Tryz.func5, Tryz.ntmps5
  go_wp2_with fail
  refine (awake_any w (Nat.le_refl _) Ht.out).mono ?_
  rintro e w1 ⟨rfl, hb1⟩
  have Hw1 := hide hb1
  have H1 := hide (Hs.out.carry (Flat.carried _) (hb1.mono hB) (Nat.le_refl B))
  clear hb1
  go_wp2_with fail
  refine (few_any A l n c _ H1.out (Nat.le_trans hB Hw1.out.size) hn'.out).mono ?_
  rintro e w2 ⟨rfl, hb2⟩
  have Hw2 := hide (below_step Hw1.out hb2 (Nat.le_refl _))
  clear hb2
  cases hfew : fewOk l
  · clear hfew
    go_wp2_with fail
    go_ret
    exact ⟨rfl, Hw2.out⟩
  by_cases hlen : 2000 < s.size
  · have d0 : decide (2000 < (s.size : Int)) = true := by simp; omega
    clear hfew hlen
    go_wp2_with fail
    go_ret
    exact ⟨rfl, Hw2.out⟩
  have d0 : decide (2000 < (s.size : Int)) = false := by simp; omega
  have Hfew := hide hfew
  have Hnames := hide (few_names hfew)
  have H2 := hide (Hs.out.carry (Flat.carried _) (Hw2.out.mono hB) (Nat.le_refl B))
  have Ht2 := hide (Ht.out.carry Hw2.out)
  have hpo := pOut_len s (by omega)
  have hn10 : n ≤ 300000 := by
    simp only [fewOk, fewLen, Bool.and_eq_true, Bool.or_eq_true, decide_eq_true_eq] at hfew
    have := hn'.out
    omega
  clear hfew hlen
  obtain ⟨st, hst⟩ : ∃ st, st = finStr l := ⟨_, rfl⟩
  have Hst := hide hst
  clear hst
  obtain ⟨er, her⟩ : ∃ er, er = finErr l := ⟨_, rfl⟩
  have Her := hide her
  clear her
  obtain ⟨pe, hpe⟩ : ∃ pe, pe = pErr s := ⟨_, rfl⟩
  obtain ⟨pl, hpl⟩ : ∃ pl, pl = pLine s := ⟨_, rfl⟩
  obtain ⟨pc, hpc⟩ : ∃ pc, pc = pCol s := ⟨_, rfl⟩
  have Hpe := hide hpe
  have Hpl := hide hpl
  have Hpc := hide hpc
  clear hpe hpl hpc
  have key : ∀ wz, Below w.heap.size w wz → Calls Tryz.prog 18 #[.string s] wz fun e w' => ∃ A5 c5, e = .returned (.tuple #[.slice A5 (pOut s).length c5, .agg #[.int .i64 pl, .int .i64 pc], .int .i64 pe]) ∧ FinsAt w' w'.heap.size A5 (pOut s) ∧ Below wz.heap.size wz w' := by
    intro wz hz
    have := repParse_any s wz (B := w.heap.size) hz.size (Hm.out.carry hz)
    rw [← Hpe.out, ← Hpl.out, ← Hpc.out] at this
    exact this
  have Key := hide key
  clear key
  have HW := Hw2
  by_cases e0 : er = 0
  · subst e0
    have Back := hide (fun wz hz hm => by
      have := parse_back Hfew.out Her.out.symm wz (B := w.heap.size) hz hm
      rw [← Hst.out] at this
      exact this : ∀ wz : World, w.heap.size ≤ wz.heap.size → MX w.heap.size wz → Calls Tryz.prog 18 #[.string st] wz fun e w' => ∃ A c, e = .returned (.tuple #[.slice A l.length c, .agg #[.int .i64 0, .int .i64 0], .int .i64 0]) ∧ FinsAt w' w'.heap.size A l ∧ Below wz.heap.size wz w')
    by_cases p0 : pe = 0
    · subst p0
      have Rt := hide (read_text Hpe.out.symm)
      go_wp2_with fail
      refine (repFindings_any A l n c _ (B := w.heap.size) (H2.out.carry (Flat.carried _) (Below.refl _ _) hB) Hw2.out.size hn'.out Hnames.out Ht2.out).mono ?_
      rintro e w3 ⟨rfl, hb3⟩
      rw [← Hst.out, ← Her.out]
      have HW := hide (below_step HW.out hb3 (Nat.le_refl _))
      clear hb3
      go_wp2_with fail
      refine (Back.out _ HW.out.size (Hm.out.carry HW.out)).mono ?_
      rintro e w4 ⟨A4, c4, rfl, hx4, hb4⟩
      rw [← hn'.out]
      have HW := hide ((below_step HW.out hb4 (Nat.le_refl _)).alloc (below_step HW.out hb4 (Nat.le_refl _)).size (.cells #[.int .i64 0, .int .i64 0] 42))
      have Hx4 := hide hx4
      have k0 := (Blk.new w4 42 #[.int .i64 0, .int .i64 0]).cell 0
      have k1 := (Blk.new w4 42 #[.int .i64 0, .int .i64 0]).cell 1
      simp at k0 k1
      clear hb4 hx4
      go_wp2_with fail
      refine (equalFin_any A4 A l n c4 c _ (Hx4.out.carry (Flat.carried _) (below_new w4 _) (Nat.le_refl _)) (Hs.out.carry (Flat.carried _) (HW.out.mono hB) (Nat.le_refl B)) hn'.out hn10).mono ?_
      rintro e w5 ⟨rfl, hb5⟩
      clear k0 k1
      have HW := hide (below_step HW.out hb5 (Nat.le_refl _))
      clear hb5
      go_wp2_with fail
      refine (Key.out _ HW.out).mono ?_
      rintro e w6 ⟨A6, c6, rfl, hx6, hb6⟩
      have HW := hide ((below_step HW.out hb6 (Nat.le_refl _)).alloc (below_step HW.out hb6 (Nat.le_refl _)).size (.cells #[.int .i64 pl, .int .i64 pc] 42))
      have Hx6 := hide hx6
      clear hb6 hx6
      go_wp2_with fail
      refine (repFindings_any A6 (pOut s) _ c6 _ (Hx6.out.carry (Flat.carried _) (below_new w6 _) (by simp)) (Nat.le_refl _) rfl (pOut_names s) ((Ht.out.carry HW.out).raise HW.out.size)).mono ?_
      rintro e w7 ⟨rfl, hb7⟩
      rw [Rt.out.1, Rt.out.2]
      have HW := hide (below_step HW.out hb7 (Nat.le_refl _))
      clear hb7
      go_wp2_with fail
      go_ret
      exact ⟨rfl, HW.out⟩
    · have q0 : (pe != 0) = true := by simpa using p0
      have ho : pOut s = [] := by rw [pOut, if_neg (by rw [← Hpe.out]; exact p0)]
      rw [ho] at Key
      clear p0 hpo
      go_wp2_with fail
      refine (repFindings_any A l n c _ (B := w.heap.size) (H2.out.carry (Flat.carried _) (Below.refl _ _) hB) Hw2.out.size hn'.out Hnames.out Ht2.out).mono ?_
      rintro e w3 ⟨rfl, hb3⟩
      rw [← Hst.out, ← Her.out]
      have HW := hide (below_step HW.out hb3 (Nat.le_refl _))
      clear hb3
      go_wp2_with fail
      refine (Back.out _ HW.out.size (Hm.out.carry HW.out)).mono ?_
      rintro e w4 ⟨A4, c4, rfl, hx4, hb4⟩
      rw [← hn'.out]
      have HW := hide ((below_step HW.out hb4 (Nat.le_refl _)).alloc (below_step HW.out hb4 (Nat.le_refl _)).size (.cells #[.int .i64 0, .int .i64 0] 42))
      have Hx4 := hide hx4
      have k0 := (Blk.new w4 42 #[.int .i64 0, .int .i64 0]).cell 0
      have k1 := (Blk.new w4 42 #[.int .i64 0, .int .i64 0]).cell 1
      simp at k0 k1
      clear hb4 hx4
      go_wp2_with fail
      refine (equalFin_any A4 A l n c4 c _ (Hx4.out.carry (Flat.carried _) (below_new w4 _) (Nat.le_refl _)) (Hs.out.carry (Flat.carried _) (HW.out.mono hB) (Nat.le_refl B)) hn'.out hn10).mono ?_
      rintro e w5 ⟨rfl, hb5⟩
      clear k0 k1
      have HW := hide (below_step HW.out hb5 (Nat.le_refl _))
      clear hb5
      go_wp2_with fail
      refine (Key.out _ HW.out).mono ?_
      rintro e w6 ⟨A6, c6, rfl, hx6, hb6⟩
      have HW := hide ((below_step HW.out hb6 (Nat.le_refl _)).alloc (below_step HW.out hb6 (Nat.le_refl _)).size (.cells #[.int .i64 pl, .int .i64 pc] 42))
      have Hx6 := hide hx6
      clear hb6 hx6
      go_wp2_with fail
      go_ret
      exact ⟨rfl, HW.out⟩
  · have q9 : (er == 0) = false := by simpa using e0
    clear e0
    by_cases p0 : pe = 0
    · subst p0
      have Rt := hide (read_text Hpe.out.symm)
      go_wp2_with fail
      refine (repFindings_any A l n c _ (B := w.heap.size) (H2.out.carry (Flat.carried _) (Below.refl _ _) hB) Hw2.out.size hn'.out Hnames.out Ht2.out).mono ?_
      rintro e w3 ⟨rfl, hb3⟩
      rw [← Hst.out, ← Her.out]
      have HW := hide (below_step HW.out hb3 (Nat.le_refl _))
      clear hb3
      go_wp2_with fail
      refine (Key.out _ HW.out).mono ?_
      rintro e w6 ⟨A6, c6, rfl, hx6, hb6⟩
      have HW := hide ((below_step HW.out hb6 (Nat.le_refl _)).alloc (below_step HW.out hb6 (Nat.le_refl _)).size (.cells #[.int .i64 pl, .int .i64 pc] 42))
      have Hx6 := hide hx6
      clear hb6 hx6
      go_wp2_with fail
      refine (repFindings_any A6 (pOut s) _ c6 _ (Hx6.out.carry (Flat.carried _) (below_new w6 _) (by simp)) (Nat.le_refl _) rfl (pOut_names s) ((Ht.out.carry HW.out).raise HW.out.size)).mono ?_
      rintro e w7 ⟨rfl, hb7⟩
      rw [Rt.out.1, Rt.out.2]
      have HW := hide (below_step HW.out hb7 (Nat.le_refl _))
      clear hb7
      go_wp2_with fail
      go_ret
      exact ⟨rfl, HW.out⟩
    · have q0 : (pe != 0) = true := by simpa using p0
      have ho : pOut s = [] := by rw [pOut, if_neg (by rw [← Hpe.out]; exact p0)]
      rw [ho] at Key
      clear p0 hpo
      go_wp2_with fail
      refine (repFindings_any A l n c _ (B := w.heap.size) (H2.out.carry (Flat.carried _) (Below.refl _ _) hB) Hw2.out.size hn'.out Hnames.out Ht2.out).mono ?_
      rintro e w3 ⟨rfl, hb3⟩
      rw [← Hst.out, ← Her.out]
      have HW := hide (below_step HW.out hb3 (Nat.le_refl _))
      clear hb3
      go_wp2_with fail
      refine (Key.out _ HW.out).mono ?_
      rintro e w6 ⟨A6, c6, rfl, hx6, hb6⟩
      have HW := hide ((below_step HW.out hb6 (Nat.le_refl _)).alloc (below_step HW.out hb6 (Nat.le_refl _)).size (.cells #[.int .i64 pl, .int .i64 pc] 42))
      have Hx6 := hide hx6
      clear hb6 hx6
      go_wp2_with fail
      go_ret
      exact ⟨rfl, HW.out⟩
end Go.Proofs.YtnhmdgkhmkeopaaGreatDoor
