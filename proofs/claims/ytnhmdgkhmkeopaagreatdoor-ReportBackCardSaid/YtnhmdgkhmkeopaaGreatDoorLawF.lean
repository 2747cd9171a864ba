/- The law of findings: Findings and Parse return what the reference returns. -/
import Derived.Test.YtnhmdgkhmkeopaaGreatDoorParP
import Derived.Test.YtnhmdgkhmkeopaaGreatDoorFindT
import Derived.Test.YtnhmdgkhmkeopaaGreatDoorAwake
namespace Go.Proofs.YtnhmdgkhmkeopaaGreatDoor
open Go.RowKit

set_option maxHeartbeats 1000000 in
theorem equalFin_any (A A' : Option Addr) (l : List FinD) (n c c' : Nat) (w : World) {B B' : Nat} (h : FinsAt w B A l) (h' : FinsAt w B' A' l) (hn : n = l.length) (hm : n ≤ 300000) :
    Calls Tryz.prog 20 #[.slice A n c, .slice A' n c'] w fun e w' => e = .returned (.bool true) ∧ Below w.heap.size w w' := by
  have hn' := hide hn
  have H1 := hide h
  have H2 := hide h'
  clear hn h h'
  go_enter Tryz.func20, Tryz.ntmps20
  go_wp2_with fail
  go_loopw [13] (fun i wr => ∃ k : Nat, k ≤ n ∧ i = .int .i64 k ∧ ∃ d : Nat, wr = w.drewN d) (fun i _ => n - (intOf i).toNat)
  case atStart => exact ⟨0, Nat.zero_le _, rfl, 0, rfl⟩
  case round =>
    obtain ⟨k, hk, rfl, d, rfl⟩ := hrel
    by_cases hlt : k < n
    · obtain ⟨b, off, x, hA, _, hx, c0, c1⟩ := FinsAt.get (k := k) H1.out (by rw [← hn'.out]; exact hlt)
      obtain ⟨b2, off2, y, hA2, _, hy, d0, d1⟩ := FinsAt.get (k := k) H2.out (by rw [← hn'.out]; exact hlt)
      rw [hx] at hy
      injection hy with hy
      subst hy
      subst hA
      subst hA2
      clear hx
      have e0 : (w.drewN d).cell? ⟨b, off + k * 2, none⟩ = some (.int .i64 x.kind) := c0
      have e1 : (w.drewN d).cell? ⟨b, off + k * 2 + 1, none⟩ = some (.string x.name) := c1
      have e2 : (w.drewN d).cell? ⟨b2, off2 + k * 2, none⟩ = some (.int .i64 x.kind) := d0
      have e3 : (w.drewN d).cell? ⟨b2, off2 + k * 2 + 1, none⟩ = some (.string x.name) := d1
      go_wp2_with fail
      go_quiet (fail)
      go_wp2_with fail
      go_roundw
      case rel => exact ⟨k + 1, by omega, by go_num, _, rfl⟩
      case measure => simp [intOf]; omega
    · obtain rfl : k = n := by omega
      go_wp2_with fail
      go_ret
      exact ⟨rfl, below_drewN (Below.refl _ _) d⟩

theorem few_names {l : List FinD} (h : fewOk l = true) : ∀ x ∈ l, x.name.size ≤ maxLen := by
  simp only [fewOk, Bool.and_eq_true, Bool.not_eq_true', anyOf, List.any_eq_false] at h
  intro x hx
  have := h.2 x hx
  simp only [longName, decide_eq_true_eq] at this
  unfold maxLen
  omega
theorem pOut_len (s : ByteArray) (h : s.size ≤ 262154) : (pOut s).length ≤ 300000 := by
  rw [pOut]
  split
  · have := linesFrom_len s s.size 0 0
    simp only [fins, linesB, List.length_map]
    omega
  · simp

set_option maxHeartbeats 4000000 in
set_option maxRecDepth 100000 in
theorem lawF_any (A : Option Addr) (l : List FinD) (n c : Nat) (s : ByteArray) (w : World) {B : Nat} (h : FinsAt w B A l) (hB : B ≤ w.heap.size) (hn : n = l.length) (ht : TB w.heap.size w) (hm : MX w.heap.size w) :
    Calls Tryz.prog 4 #[.slice A n c, .string s] w fun e w' => e = .returned (.bool true) ∧ Below w.heap.size w w' := by
  have hn' := hide hn
  have Hs := hide h
  have Ht := hide ht
  have Hm := hide hm
  clear hn h ht hm
  go_enter Tryz.func4, Tryz.ntmps4
  go_wp2_with fail
  refine (awake_any w (Nat.le_refl _) Ht.out).mono ?_
  rintro e w1 ⟨rfl, hb1⟩
  have Hw1 := hide hb1
  have H1 := hide (Hs.out.carry (Flat.carried _) (hb1.mono hB) (Nat.le_refl B))
  clear hb1
  go_wp2_with fail
  refine (few_any A l n c _ H1.out (Nat.le_trans hB Hw1.out.size) hn'.out).mono ?_
  rintro e w2 ⟨rfl, hb2⟩
  have Hw2 := hide (below_step Hw1.out hb2 (Nat.le_refl _))
  clear hb2
  cases hfew : fewOk l
  · clear hfew
    go_wp2_with fail
    go_ret
    exact ⟨rfl, Hw2.out⟩
  have Hnames := hide (few_names hfew)
  clear hfew
  cases hsz : sizeOk s.size
  · have Hsz := hide hsz
    clear hsz
    go_wp2_with (go_at_call 15; refine (sizeOk_any s _).mono ?_; rintro e w3 ⟨rfl, rfl⟩; rw [Hsz.out])
    go_ret
    exact ⟨rfl, Hw2.out⟩
  have hlen : s.size ≤ 262154 := by
    simp only [sizeOk, Bool.or_eq_true, Bool.and_eq_true, decide_eq_true_eq] at hsz
    omega
  have Hsz := hide hsz
  have H2 := hide (Hs.out.carry (Flat.carried _) (Hw2.out.mono hB) (Nat.le_refl B))
  have Ht2 := hide (Ht.out.carry Hw2.out)
  have hB2 := Nat.le_trans hB Hw2.out.size
  clear hsz
  obtain ⟨st, hst⟩ : ∃ st, st = finStr l := ⟨_, rfl⟩
  obtain ⟨er, her⟩ : ∃ er, er = finErr l := ⟨_, rfl⟩
  obtain ⟨pe, hpe⟩ : ∃ pe, pe = pErr s := ⟨_, rfl⟩
  obtain ⟨pl, hpl⟩ : ∃ pl, pl = pLine s := ⟨_, rfl⟩
  obtain ⟨pc, hpc⟩ : ∃ pc, pc = pCol s := ⟨_, rfl⟩
  have Hst := hide hst
  have Her := hide her
  have Hpe := hide hpe
  have Hpl := hide hpl
  have Hpc := hide hpc
  have hpo := pOut_len s hlen
  clear hst her hpe hpl hpc
  go_wp2_with (first
    | (go_at_call 15; refine (sizeOk_any s _).mono ?_; rintro e w3 ⟨rfl, rfl⟩; rw [Hsz.out])
    | (go_at_call 16; refine (repFindings_any A l n c _ (B := w.heap.size) (H2.out.carry (Flat.carried _) (Below.refl _ _) hB) Hw2.out.size hn'.out Hnames.out Ht2.out).mono ?_; rintro e w3 ⟨rfl, hb3⟩; rw [← Hst.out, ← Her.out]; have Hw3 := hide (below_step Hw2.out hb3 (Nat.le_refl _)); clear hb3)
    | (go_at_call 17; refine (refFindings_any A l n c _ (Hs.out.carry (Flat.carried _) (Hw3.out.mono hB) (Nat.le_refl B)) (Nat.le_trans hB Hw3.out.size) hn'.out Hnames.out).mono ?_; rintro e w4 ⟨rfl, hb4⟩; rw [← Hst.out, ← Her.out]; have Hw4 := hide (below_step Hw3.out hb4 (Nat.le_refl _)); clear hb4)
    | (go_at_call 18; refine (repParse_any s _ (B := w.heap.size) Hw4.out.size (Hm.out.carry Hw4.out)).mono ?_; rintro e w5 ⟨A5, c5, rfl, hx5, hb5⟩; rw [← Hpe.out, ← Hpl.out, ← Hpc.out]; have Hw5 := hide (below_step Hw4.out hb5 (Nat.le_refl _)); have Hx5 := hide hx5; have hB5 := hide (Blk.new w5 42 #[.int .i64 pl, .int .i64 pc]); clear hb5 hx5)
    | (go_at_call 19; refine (refParse_any s _).mono ?_; rintro e w6 ⟨A6, c6, rfl, hx6, hb6⟩; rw [← Hpe.out, ← Hpl.out, ← Hpc.out]; have Hw6 := hide (below_step (Hw5.out.alloc Hw5.out.size _) hb6 (Nat.le_refl _)); have Hx6 := hide hx6; have Hq5 := hide ((below_new w5 _).trans (hb6.mono (by simp))); have hB6 := hide (hB5.out.keep hb6); clear hb6 hx6 hB5)
    | (go_at_call 20; refine (equalFin_any A5 A6 (pOut s) _ c5 c6 _ (Hx5.out.carry (Flat.carried _) (Hq5.out.alloc Hq5.out.size _) (Nat.le_refl _)) (Hx6.out.carry (Flat.carried _) (below_new w6 _) (Nat.le_refl _)) rfl hpo).mono ?_; rintro e w7 ⟨rfl, hb7⟩; have Hw7 := hide (below_step (Hw6.out.alloc Hw6.out.size _) hb7 (Nat.le_refl _)); have P5 := (hB6.out.alloc (.cells #[.int .i64 pl, .int .i64 pc] 42)).keep hb7; have P6 := (Blk.new w6 42 #[.int .i64 pl, .int .i64 pc]).keep hb7; have k0 := P5.cell 0; have k1 := P5.cell 1; have j0 := P6.cell 0; have j1 := P6.cell 1; simp at k0 k1 j0 j1; clear hb7 P5 P6))
  go_ret
  exact ⟨rfl, Hw7.out⟩
end Go.Proofs.YtnhmdgkhmkeopaaGreatDoor
