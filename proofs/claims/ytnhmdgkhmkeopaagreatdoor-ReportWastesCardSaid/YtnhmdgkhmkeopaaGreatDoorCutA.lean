/- Patterns: whether they fit; lists of patterns: whether they are a plan. -/
import Derived.Test.YtnhmdgkhmkeopaaGreatDoorCutD
import Derived.Deep.QuietTactic
import Derived.Deep.RegionWith
import Derived.BigQuiet
namespace Go.Proofs.YtnhmdgkhmkeopaaGreatDoor
open Go.RowKit

abbrev patV (x : PatD) (A : Option Addr) (c : Nat) : Value := .agg #[.int .i64 x.stock, .slice A x.pieces.length c, .int .i64 x.times]
def anyPat (p : PatD → Bool) (l : List PatD) : Bool := l.any p
set_option maxHeartbeats 1000000 in
theorem indexFuncPat_any (A : Option Addr) (l : List PatD) (n c : Nat) (fid : FuncId) (caps : Array Value) (p : PatD → Bool) (w : World) {B : Nat} (h : PatsAt w B A l) (hB : B ≤ w.heap.size) (hn : n = l.length) (hm : n ≤ 300000)
    (hc : ∀ args w, (callFunc fid args).run Tryz.prog w = .ok (.enter fid args) w)
    (hf : ∀ x A' c' (W : World), x ∈ l → Below w.heap.size w W → Calls Tryz.prog fid (#[patV x A' c'] ++ caps) W fun e W' => e = .returned (.bool (p x)) ∧ Below W.heap.size W W') :
    Calls Tryz.prog 79 #[.slice A n c, .func (.func fid) #[] caps] w fun e w' => e = .returned (.int .i64 (idx p l)) ∧ Below w.heap.size w w' := by
  have Hf := hide hf
  have hn' := hide hn
  have Hs := hide h
  clear hf hn h
  go_enter Tryz.func79, Tryz.ntmps79
  go_wp2_with fail
  go_loopw [8] (fun i wr => ∃ k : Nat, k ≤ n ∧ i = .int .i64 k ∧ NoneTo p l k ∧ Below w.heap.size w wr) (fun i _ => n - (intOf i).toNat)
  case atStart => exact ⟨0, Nat.zero_le _, rfl, NoneTo.zero _ _, Below.refl _ _⟩
  case round =>
    obtain ⟨k, hk, rfl, hw, hb⟩ := hrel
    by_cases hlt : k < n
    · obtain ⟨b, off, x, A', c', rfl, hbl, hx, hi, h0, h1, h2⟩ := PatsAt.get (k := k) (SlOf.carry patR_carried Hs.out (hb.mono hB) (Nat.le_refl _)) (by rw [← hn'.out]; exact hlt)
      have Hx := hide hx
      clear hx hbl hi
      go_wp2_with fail
      refine (Hf.out x A' c' _ (mem_of_get Hx.out) hb).mono ?_
      rintro e w1 ⟨rfl, hb1⟩
      clear h0 h1 h2
      have hb2 := below_step hb hb1 (Nat.le_refl _)
      cases hp : p x
      · have Hp := hide hp
        clear hp
        go_wp2_with fail
        go_roundw
        case rel => exact ⟨k + 1, by omega, by go_num, hw.succ Hx.out Hp.out, hb2⟩
        case measure => simp [intOf]; omega
      · have Hp := hide hp
        clear hp
        go_wp2_with fail
        go_ret
        exact ⟨ret_int (hw.hit Hx.out Hp.out).symm, hb2⟩
    · obtain rfl : k = n := by omega
      go_wp2_with fail
      go_ret
      exact ⟨ret_int (NoneTo.miss (by rw [← hn'.out]; exact hw)).symm, hb⟩
set_option maxHeartbeats 400000 in
theorem containsFuncPat_any (A : Option Addr) (l : List PatD) (n c : Nat) (fid : FuncId) (caps : Array Value) (p : PatD → Bool) (w : World) {B : Nat} (h : PatsAt w B A l) (hB : B ≤ w.heap.size) (hn : n = l.length) (hm : n ≤ 300000)
    (hc : ∀ args w, (callFunc fid args).run Tryz.prog w = .ok (.enter fid args) w)
    (hf : ∀ x A' c' (W : World), x ∈ l → Below w.heap.size w W → Calls Tryz.prog fid (#[patV x A' c'] ++ caps) W fun e W' => e = .returned (.bool (p x)) ∧ Below W.heap.size W W') :
    Calls Tryz.prog 46 #[.slice A n c, .func (.func fid) #[] caps] w fun e w' => e = .returned (.bool (anyPat p l)) ∧ Below w.heap.size w w' := by
  have Hf := hide hf
  have hn' := hide hn
  have Hc := hide hc
  clear hf hn hc
  go_enter Tryz.func46, Tryz.ntmps46
  go_wp2_with fail
  refine (indexFuncPat_any A l n c fid caps p w h hB hn'.out hm Hc.out Hf.out).mono ?_
  rintro e w1 ⟨rfl, hb⟩
  go_wp2_with fail
  go_ret
  exact ⟨ret_bool (by rw [idx_any]; rfl), hb⟩

set_option maxHeartbeats 1000000 in
theorem planBad_any (x : PatD) (A' : Option Addr) (c' g : Nat) (m cm : Nat) (AS : Option Addr) (w : World) (hg : w.cell? ⟨g, 0, none⟩ = some (.slice AS m cm)) :
    Calls Tryz.prog 84 #[patV x A' c', .pointer (some ⟨g, 0, none⟩)] w fun e w' => e = .returned (.bool (patBad m x)) ∧ Below w.heap.size w w' := by
  have hlt := World.block_lt_of_cell? w _ hg
  obtain ⟨st, ps, ti⟩ := x
  have Hr := hide (show patBad m ⟨st, ps, ti⟩ = (decide (st < 0) || decide ((m : Int) ≤ st) || decide (ti < 1) || decide (1000000 < ti)) from rfl)
  show Calls Tryz.prog 84 #[.agg #[.int .i64 st, .slice A' ps.length c', .int .i64 ti], .pointer (some ⟨g, 0, none⟩)] w _
  generalize patBad m ⟨st, ps, ti⟩ = res at Hr ⊢
  generalize ps.length = q
  have hways : decide (st < 0) = true ∨ (decide (st < 0) = false ∧ decide ((m : Int) ≤ st) = true) ∨ (decide (st < 0) = false ∧ decide ((m : Int) ≤ st) = false ∧ decide (ti < 1) = true) ∨ (decide (st < 0) = false ∧ decide ((m : Int) ≤ st) = false ∧ decide (ti < 1) = false) := by
    cases decide (st < 0) <;> cases decide ((m : Int) ≤ st) <;> cases decide (ti < 1) <;> simp
  rcases hways with q0 | ⟨q0, q1⟩ | ⟨q0, q1, q2⟩ | ⟨q0, q1, q2⟩
  all_goals
    go_enter Tryz.func84, Tryz.ntmps84
    go_wp2_with fail
    go_ret
    exact ⟨ret_bool (by first | (rw [Hr.out, q0, q1, q2]; simp) | (rw [Hr.out, q0, q1]; simp) | (rw [Hr.out, q0]; simp)), below_new w _⟩
set_option maxHeartbeats 1000000 in
set_option maxRecDepth 100000 in
theorem cutPlan_any (AS : Option Addr) (m cm : Nat) (A : Option Addr) (p : List PatD) (n c : Nat) (w : World) {B : Nat} (h : PatsAt w B A p) (hB : B ≤ w.heap.size) (hn : n = p.length) (hm : n ≤ 60000) :
    Calls Tryz.prog 51 #[.slice AS m cm, .slice A n c] w fun e w' => e = .returned (.bool (planOk m p)) ∧ Below w.heap.size w w' := by
  have hn' := hide hn
  have Hs := hide h
  by_cases h10 : 1000 < n
  · have hr := hide (show planOk m p = false by simp [planOk]; omega)
    have d0 : decide ((n : Int) ≤ 1000) = false := by simp; omega
    clear hn h h10
    go_enter Tryz.func51, Tryz.ntmps51
    go_wp2_with fail
    go_ret
    exact ⟨ret_bool hr.out.symm, below_new w _⟩
  have Hr := hide (show planOk m p = !anyPat (patBad m) p by simp [planOk, anyPat]; omega)
  have d0 : decide ((n : Int) ≤ 1000) = true := by simp; omega
  have Hc0 := hide (Blk.new w 51 #[.slice AS m cm])
  have hb0 := below_new w (.cells #[.slice AS m cm] 51)
  have hs1 := Hs.out.carry patR_carried (hb0.mono hB) (Nat.le_refl _)
  have hB1 := le_alloc hB (.cells #[.slice AS m cm] 51)
  obtain ⟨w1, hw1⟩ : ∃ w1, w1 = w.alloc (.cells #[.slice AS m cm] 51) := ⟨_, rfl⟩
  rw [← hw1] at Hc0 hb0 hB1
  have hw1' := hide hw1
  have HC := hide (containsFuncPat_any A p n c 84 #[.pointer (some ⟨w.heap.size, 0, none⟩)] (patBad m) w1 (Hs.out.carry patR_carried (hb0.mono hB) (Nat.le_refl _)) hB1 hn'.out (by omega) Tryz.call84 (fun x A' c' W _ hb => by
    rw [show (#[patV x A' c'] ++ #[.pointer (some ⟨w.heap.size, 0, none⟩)] : Array Value) = #[patV x A' c', .pointer (some ⟨w.heap.size, 0, none⟩)] from rfl]
    exact planBad_any x A' c' w.heap.size m cm AS W ((hb.cell (p := ⟨w.heap.size, 0, none⟩) Hc0.out.lt).trans (by simpa using Hc0.out.cell 0))))
  rw [hw1] at HC
  have Hb0 := hide hb0
  rw [hw1] at Hb0
  clear hn h h10 hs1 hB1 hw1' Hc0 hb0 hw1 w1
  go_enter Tryz.func51, Tryz.ntmps51
  go_wp2_with fail
  refine HC.out.mono ?_
  rintro e w2 ⟨rfl, hb2⟩
  go_wp2_with fail
  go_ret
  exact ⟨ret_bool Hr.out.symm, below_step Hb0.out hb2 (Nat.le_refl _)⟩

set_option maxHeartbeats 1000000 in
theorem given_any (len : Int) (A : Option Addr) (l : List PieD) (n c : Nat) (q : Int) (w : World) {B : Nat} (h : PiesAt w B A l) (hB : B ≤ w.heap.size) (hn : n = l.length) (hok : ordOk l = true) (hl : 1 ≤ len ∧ len ≤ 1048576) :
    Calls Tryz.prog 114 #[.int .i64 len, .slice A n c, .int .i64 q] w fun e w' => e = .returned (.int .i64 (if q = n then 0 else 3)) ∧ Below w.heap.size w w' := by
  have hm : n ≤ 200 := by rw [hn]; exact ordOk_len hok
  have HO := stockOrder_any A l n c w h hB hn (by omega)
  rw [hok] at HO
  have HO := hide HO
  have d0 : decide (len < 1) = false := by simp; omega
  have d1 : decide (1048576 < len) = false := by simp; omega
  clear hn h hok hl
  by_cases hq : q = n
  · have hq' := hide hq
    have d2 : (q == (n : Int)) = true := by simpa using hq
    clear hq
    go_enter Tryz.func114, Tryz.ntmps114
    go_wp2_with fail
    refine HO.out.mono ?_
    rintro e w2 ⟨rfl, hb2⟩
    go_wp2_with fail
    go_ret
    exact ⟨ret_int rfl, hb2⟩
  · have hq' := hide hq
    have d2 : (q == (n : Int)) = false := by simpa using hq
    clear hq
    go_enter Tryz.func114, Tryz.ntmps114
    go_wp2_with fail
    refine HO.out.mono ?_
    rintro e w2 ⟨rfl, hb2⟩
    go_wp2_with fail
    go_ret
    exact ⟨ret_int rfl, hb2⟩
end Go.Proofs.YtnhmdgkhmkeopaaGreatDoor
