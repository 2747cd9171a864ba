/- The reference of layer 48: the masses of a schedule, by size. -/
import Derived.Test.YtnhmdgkhmkeopaaDoorMassR
import Derived.Deep.RegionHeld3
namespace Go.Proofs.YtnhmdgkhmkeopaaDoor
open Go.RowKit

set_option maxHeartbeats 4000000 in
set_option maxRecDepth 100000 in
theorem refMasses_ok (A : Option Addr) (l : List BarD) (n c : Nat) (w : World) {B : Nat} (h : BarsAt w B A l) (hB : B ≤ w.heap.size) (hn : n = l.length) (hok : schedOk l = true) :
    Calls Tryd.prog 17 #[.slice A n c] w fun e w' => ∃ A' c', e = .returned (.slice A' (massSteps l steelSizes).length c') ∧ StepsAt w' w'.heap.size A' (massSteps l steelSizes) ∧ Below w.heap.size w w' := by
  have hn' := hide hn
  have hm : n ≤ 60000 := by have := schedOk_len hok; omega
  have Hok := hide hok
  clear hn hok
  go_enter Tryd.func17, Tryd.ntmps17
  go_wp2_with fail
  refine (refSizes_any _).mono ?_
  rintro e w3 ⟨S, rfl, hS, hb3⟩
  have h3 := hide (h.carry (hb3.mono hB) (Nat.le_refl _))
  have hB3 := Nat.le_trans hB hb3.size
  have hw3 := hide hb3
  have HS := hide hS
  clear hb3 hS h
  go_wp2_with fail
  go_loopw [4, 5] (fun v i wr => ∃ k : Nat, k ≤ 9 ∧ i = .int .i64 k ∧ (∃ acc, acc.length ≤ k ∧ Row wr w3.heap.size 49 2 encStep v acc ∧ Hid (acc = massSteps l (steelSizes.take k))) ∧ Below w3.heap.size w3 wr) (fun _ i _ => 9 - (intOf i).toNat)
  case atStart => exact ⟨0, Nat.zero_le _, rfl, ⟨[], Nat.le_refl _, Row.nil _ _ _ _ _, hide rfl⟩, Below.refl _ _⟩
  case round =>
    obtain ⟨k, hk, rfl, ⟨acc, hal, hrow, hacc⟩, hbr⟩ := hrel
    obtain ⟨A0, c0, rfl⟩ := hrow.val
    by_cases hlt : k < 9
    · obtain ⟨b, off, d, rfl, hbl, hx, hc0⟩ := HS.out.get (k := k) hlt
      rw [← hbr.cell (by exact hbl)] at hc0
      have Hx := hide hx
      have Hrow := hide hrow
      have HR := hide (h3.out.carry (hbr.mono hB3) (Nat.le_refl _))
      have hBr := hide (Nat.le_trans hB3 hbr.size)
      clear hx hrow
      go_wp2_with fail
      refine (refHas_any A l n c d _ HR.out hn'.out hm).mono ?_
      rintro e w4 ⟨rfl, rfl⟩
      cases hh : hasSize l d
      · have Hh := hide hh
        clear hh
        go_wp2_with fail
        go_roundw
        case rel => exact ⟨k + 1, by omega, by go_num, ⟨acc, by omega, Hrow.out, hide (by rw [take_snoc' Hx.out, massSteps_snoc, Hh.out]; exact hacc.out)⟩, hbr⟩
        case measure => simp [intOf]; omega
      · have Hh := hide hh
        clear hh
        go_wp2_with fail
        go_region_held3 (fun W => W.cell? ⟨b, off + k, none⟩ = some (.int .i64 d) ∧ Below w3.heap.size w3 W)
          (first
            | (exact ⟨hc0, hbr.drew⟩)
            | (exact hS')
            | (exact ⟨cell_later (below_new _ _) hS'.1, hS'.2.alloc hS'.2.size _⟩)
            | (exact ⟨by rw [hb5.cell (by exact hbl)]; exact cell_later (below_new _ _) hS'.1, (hS'.2.alloc hS'.2.size _).trans hb5⟩)
            | go_keep)
          (first
            | (go_at_call 38; have hS := ‹_ ∧ Below w3.heap.size w3 _›; refine (refOf_ok A l n c d _ (h3.out.carry (hS.2.mono hB3) (Nat.le_refl _)) (Nat.le_trans hB3 hS.2.size) hn'.out Hok.out).mono ?_; rintro e w' ⟨rfl, hb'⟩
               have hS' := And.intro (cell_later hb' hS.1) (below_step hS.2 hb' (Nat.le_refl _))
               have hrow' := hide (Hrow.out.drew.keep hb'))
            | (refine step_append1 (by rfl) (.tmp 19) (.tmp 31) 37 (by rfl) w3.heap.size 49 (.agg #[.int .i64 0, .int .i64 0]) 2 16 encStep Tryd.underlying37 (by kernel_rfl) rfl (by omega) encStep_len encStep_one _ acc (d, sumOf lineMass l d) (by rfl) (hrow'.out.alloc _) _ (by rfl) (Blk.new _ _ _) (by omega) (by omega) (le_alloc hS'.2.size _) ?_; intro A1 c1 w5 hrow5 hb5 hkeep5))
        have hb53 := hide ((hS'.2.alloc hS'.2.size _).trans hb5)
        clear hkeep5 hb5 hS'
        go_wp2_with fail
        go_roundw
        case rel => exact ⟨k + 1, by omega, by go_num, ⟨acc ++ [(d, sumOf lineMass l d)], by simp; omega, hrow5, hide (by rw [take_snoc' Hx.out, massSteps_snoc, Hh.out, ← hacc.out]; rfl)⟩, hb53.out⟩
        case measure => simp [intOf]; omega
    · obtain rfl : k = 9 := by omega
      have hacc' : acc = massSteps l steelSizes := by rw [hacc.out]; rfl
      subst hacc'
      have Hrow := hide hrow
      clear hrow
      go_wp2_with fail
      go_ret
      exact ⟨_, _, rfl, Row.read Hrow.out encStep_len (by omega), below_step hw3.out hbr (Nat.le_refl _)⟩
end Go.Proofs.YtnhmdgkhmkeopaaDoor
