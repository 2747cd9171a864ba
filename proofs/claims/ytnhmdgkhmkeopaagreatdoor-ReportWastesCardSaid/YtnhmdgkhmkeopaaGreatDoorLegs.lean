/- Legs of valid bars. -/
import Derived.Test.YtnhmdgkhmkeopaaGreatDoorBarP
namespace Go.Proofs.YtnhmdgkhmkeopaaGreatDoor
open Go.RowKit

set_option maxHeartbeats 1000000 in
theorem barLegs_ok (x : BarD) (A : Option Addr) (c : Nat) (w : World) {B : Nat} (hA : Ints w B A x.dims) (hB : B ≤ w.heap.size) (hm : x.mark.size ≤ maxLen) (hd : x.dims.length ≤ 60000) (hok : barOk x = true) :
    Calls Tryz.prog 141 #[.agg #[.string x.mark, .int .i64 x.size, .int .i64 x.count, .int .i64 x.code, .slice A x.dims.length c]] w fun e w' =>
      ∃ A' c', e = .returned (.tuple #[.slice A' (legLens x).length c', .int .i64 0]) ∧ Ints w' w'.heap.size A' (legLens x) ∧ Below w.heap.size w w' := by
  have Hg := hide (barGood_of hok)
  have Hok := hide hok
  have hle := legsLen_le x.code
  have hbo := fun o => hide ((Below.refl B w).alloc hB o)
  clear hok
  go_enter Tryz.func141, Tryz.ntmps141
  go_wp2_with fail
  refine (barValid_any x A c _ (hA.carry (hbo _).out (Nat.le_refl _)) (le_alloc hB _) hm hd).mono ?_
  rintro e w1 ⟨rfl, hb1⟩
  rw [Hok.out]
  have hw1 := hide (below_step (below_new w _) hb1 (Nat.le_refl _))
  have b0 := (Blk.new w 67 #[.string x.mark, .int .i64 x.size, .int .i64 x.count, .int .i64 x.code, .slice A x.dims.length c]).keep hb1
  have c3 := b0.cell 3
  simp at c3
  have hA1 := hide (hA.carry ((hbo _).out.trans (hb1.mono (le_alloc hB _))) (Nat.le_refl _))
  clear hA hb1 hbo
  have B0 := hide b0
  clear b0
  go_wp2_with fail
  refine (legs_any _ _).mono ?_
  rintro e w2 ⟨L, rfl, hL, hb2⟩
  have hw2 := hide (below_step hw1.out hb2 (Nat.le_refl _))
  have B2 := hide (B0.out.keep hb2)
  have hA2 := hide (hA1.out.carry (hb2.mono (Nat.le_trans hB hw1.out.size)) (Nat.le_refl _))
  have hB2 := Nat.le_trans hB hw2.out.size
  have HL := hide hL
  clear hL hb2 B0 hA1 hw1 c3
  go_wp2_with fail
  go_loopw [4, 14] (fun v i wr => ∃ k : Nat, k ≤ legsLen x.code ∧ i = .int .i64 k ∧ (∃ acc, Row wr w2.heap.size 3 1 encInt v acc ∧ Hid (acc = ((legsOf x.code).take k).map (legDim x))) ∧ Below w2.heap.size w2 wr) (fun _ i _ => legsLen x.code - (intOf i).toNat)
  case atStart => exact ⟨0, Nat.zero_le _, rfl, ⟨[], Row.nil _ _ _ _ _, hide rfl⟩, Below.refl _ _⟩
  case round =>
    obtain ⟨k, hk, rfl, ⟨acc, hrow, hacc⟩, hbr⟩ := hrel
    obtain ⟨A0, c0, rfl⟩ := hrow.val
    by_cases hlt : k < legsLen x.code
    · obtain ⟨b, off, d, y, rfl, hbl, hx, hc0, hc1⟩ := HL.out.get (k := k) hlt
      obtain ⟨hd0, hd1, hd2, hd3, hd4⟩ := Hg.out.leg _ (mem_of_get hx)
      obtain ⟨b', off', z, rfl, hbl', hz, hcz⟩ := Ints.get (k := d.toNat) (hA2.out.carry (hbr.mono hB2) (Nat.le_refl _)) hd1
      rw [← hbr.cell (by exact hbl)] at hc0 hc1
      have hz' : z = legDim x (d, y) := by simp only [hd2] at hz; injection hz with hz; exact hz.symm
      have Hx := hide hx
      have Hz := hide hz'
      have c4 := (B2.out.below hbr (B2.out.lt)).cell 4
      simp at c4
      have Hrow := hide hrow
      simp only at hd0 hd1
      have l0 : w.heap.size < wr.heap.size := Nat.lt_of_lt_of_le B2.out.lt hbr.size
      have l1 : b' < wr.heap.size := Nat.lt_of_lt_of_le hbl' (Nat.le_trans hB2 hbr.size)
      clear hx hz hz' hbl hbl' hd2 hd3 hd4 hrow HL hA2
      have hal : acc.length ≤ 1000000 := by rw [hacc.out]; simp; omega
      have hbs := fun o o' => hide (le_alloc (le_alloc hbr.size o) o')
      go_wp2_with (at_builtin; refine wpList_append1 rfl (.tmp 18) (.tmp 25) 32 rfl w2.heap.size 3 (.int .i64 0) 1 8 encInt Tryz.underlying32 (by kernel_rfl) rfl (by omega) encInt_len encInt_one _ acc z rfl ((Hrow.out.alloc _).alloc _) _ rfl (Blk.new1 wr _ _ _) hal (by omega) (hbs _ _).out ?_; intro A1 c1 w3 hrow3 hb3 _)
      go_roundw
      case rel => exact ⟨k + 1, by omega, by go_num, ⟨acc ++ [z], hrow3, hide (by rw [hacc.out, take_snoc' Hx.out, List.map_append, Hz.out]; rfl)⟩, (((hbr.alloc hbr.size _).alloc (le_alloc hbr.size _) _)).trans hb3⟩
      case measure => simp [intOf]; omega
    · obtain rfl : k = legsLen x.code := by omega
      have hacc' : acc = legLens x := by rw [hacc.out, List.take_of_length_le (by simp [legsLen])]; rfl
      subst hacc'
      have Hrow := hide hrow
      clear hrow
      go_wp2_with fail
      go_ret2
      exact ⟨_, _, rfl, Row.read Hrow.out encInt_len (by omega), below_step hw2.out hbr (Nat.le_refl _)⟩
end Go.Proofs.YtnhmdgkhmkeopaaGreatDoor
