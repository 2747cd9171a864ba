/- bytes.Repeat of one point. -/
import Derived.Test.YtmcjpdlkkpnhfaaGreatQaj
import Derived.Test.YtmcjpdlkkpnhfaaGreatShelf
import Derived.Lib.MakeNoZero
import Derived.Laws.CopyOwn
import Derived.Deep.RegionLaw
import Derived.IntWalk
namespace Go.Proofs.YtmcjpdlkkpnhfaaGreat
open Go.RowKit

theorem splice_dots {cur : List Value} {bp m : Nat} (h : ∀ j, j < bp → cur[j]? = some (.int .u8 46)) (hf : bp + m ≤ cur.length) :
    ∀ j, j < bp + m → (splice cur bp (List.replicate m (Value.int .u8 46)))[j]? = some (.int .u8 46) := by
  intro j hj
  unfold splice
  rcases Nat.lt_or_ge j bp with h1 | h1
  · rw [List.getElem?_append_left (by rw [List.length_take]; omega), List.getElem?_take, if_pos h1]
    exact h j h1
  · rw [List.getElem?_append_right (by rw [List.length_take]; omega), List.length_take, Nat.min_eq_left (by omega), List.getElem?_append_left (by rw [List.length_replicate]; omega), List.getElem?_replicate, if_pos (by omega)]
theorem tail_any (g C bp : Nat) (h : bp < C) (W : World) : (Instr.slice 92 (.slice (some ⟨g, 0, none⟩) C C) (some (.int .i64 (bp : Int))) none none).run Tryz.prog W = .ok (.slice (some ⟨g, bp, none⟩) (C - bp) (C - bp)) W := by
  have he : (Tryz.prog).elem 92 = 5 := by simp [Program.elem, Tryz.underlying92]
  have ht : (Tryz.prog).underlying 92 = some (.slice ((Tryz.prog).elem 92)) := by rw [he]; exact Tryz.underlying92
  have hz : (Go.sizeOf 5).run Tryz.prog W = .ok 1 W := by kernel_rfl
  rw [run_slice_l W 92 _ _ _ ht .i64 _ (by omega) (by omega), he, hz]
  have h0 : ¬ C = bp := by omega
  by_cases h1 : bp = 0
  · subst h1
    simp [Result.andThen, sliced, Addr.add, h0]
  · simp [Result.andThen, sliced, Addr.add, h0, h1]
theorem head_any (g C bp : Nat) (h : bp ≤ C) (W : World) : (Instr.slice 92 (.slice (some ⟨g, 0, none⟩) C C) none (some (.int .i64 (bp : Int))) none).run Tryz.prog W = .ok (.slice (some ⟨g, 0, none⟩) bp C) W := by
  have he : (Tryz.prog).elem 92 = 5 := by simp [Program.elem, Tryz.underlying92]
  have ht : (Tryz.prog).underlying 92 = some (.slice ((Tryz.prog).elem 92)) := by rw [he]; exact Tryz.underlying92
  have hz : (Go.sizeOf 5).run Tryz.prog W = .ok 1 W := by kernel_rfl
  rw [run_slice_h W 92 _ _ _ ht .i64 _ (by omega) (by omega), he, hz]
  simp [Result.andThen, sliced, Addr.add]
set_option maxHeartbeats 4000000 in
set_option maxRecDepth 100000 in
theorem repDots_any (g C : Nat) (w : World) (hg : Blk w g 5 #[.int .u8 46]) (hC : 1 ≤ C) (hC2 : C ≤ 200) :
    Calls Tryz.prog 43 #[.slice (some ⟨g, 0, none⟩) 1 1, .int .i64 C] w fun e w' => ∃ b cs, e = .returned (.slice (some ⟨b, 0, none⟩) C C) ∧ w.heap.size ≤ b ∧ Blk w' b 5 cs ∧ Hid (∀ j, j < C → cs[j]? = some (.int .u8 46)) ∧ Below w.heap.size w w' := by
  have hM := Tryz.bits_Mul 1 C (by omega) (by omega)
  rw [Nat.one_mul, Nat.div_eq_of_lt (by omega : C < 18446744073709551616), Nat.mod_eq_of_lt (by omega : C < 18446744073709551616)] at hM
  have HM := hide hM
  obtain ⟨cs0, hrunM, hle, _⟩ := Lib.run_makeNoZero (P := Tryz.prog) w #[3] 92 5 Tryz.underlying92 C (by omega)
  have hcall : (callFunc 71 #[.int .i64 (C : Int)]).run Tryz.prog w = .ok (.value (.slice (some ⟨w.heap.size, 0, none⟩) C cs0.size)) ((w.alloc (.cells cs0 5)).drewN 2) := by
    rw [run_callFunc_extern Tryz.func71 (by kernel_rfl) (by kernel_rfl) (by kernel_rfl) (e := Extern.BytealgMakeNoZero.makeNoZero #[3] #[92]) (by kernel_rfl), hrunM]
    rfl
  obtain ⟨cur, rfl⟩ : ∃ cur : List Value, cs0 = cur.toArray := ⟨cs0.toList, by simp⟩
  simp only [List.size_toArray] at hle hcall
  have hg0 := hg.cell 0
  simp at hg0
  have lg := hg.lt
  have d0 : ((C : Int) == 0) = false := by simp; omega
  have d1 : decide ((C : Int) < 0) = false := by simp
  have i0 : (0 : Int) ≤ (C : Int) := by omega
  have i1 : (C : Int) ≤ (cur.length : Int) := by omega
  have HW1 := hide (below_drewN' (below_new w (.cells cur.toArray 5)) 2)
  have K1 := hide ((Blk.new w 5 cur.toArray).drewN 2)
  have Hg0 := hide hg
  clear hM hrunM hg
  go_enter Tryz.func43, Tryz.ntmps43
  go_wp2_with fail
  refine (HM.out _).mono ?_
  rintro e w1 ⟨rfl, rfl⟩
  have q0 : decide (9223372036854775807 < (C : Int)) = false := by simp; omega
  have q1 : decide (8192 < (C : Int)) = false := by simp; omega
  obtain ⟨gB, hgB⟩ : ∃ gB, gB = w1.heap.size := ⟨_, rfl⟩
  have HgB := hide (show w1.heap.size ≤ gB by omega)
  go_wp2_with (refine wpList_copy_splice rfl (.tmp 58) (.tmp 59) 92 92 rfl 5 Tryz.underlying92 (by kernel_rfl) (some ⟨w1.heap.size, 0, none⟩) (some ⟨g, 0, none⟩) C C 1 1 rfl rfl w1.heap.size 0 cur 5 K1.out [.int .u8 46] ?_ ?_ ?_ ?_ w1.heap.size w1 HW1.out (Nat.le_refl _) ?_)
  · show 1 = Nat.min 1 C
    exact (Nat.min_eq_left hC).symm
  · intro j v hj
    have hj0 : j = 0 := by
      rcases j with _ | j
      · rfl
      · simp at hj
    subst hj0
    have hv : Value.int .u8 46 = v := by simpa using hj
    subst hv
    have := Hg0.out.cell 0
    simpa using this
  · simp; omega
  · intro v hv
    simp at hv
    subst hv
    rfl
  intro w2 HG2 hB2
  have hf2 := hide (show ∀ j, j < 1 → (splice cur 0 [Value.int .u8 46])[j]? = some (.int .u8 46) from fun j hj => splice_dots (bp := 0) (m := 1) (cur := cur) (fun j hj => absurd hj (by omega)) (by omega) j (by omega))
  have hl2 := hide (length_splice cur 0 [Value.int .u8 46] (by simp; omega))
  have HB2 := hide hB2
  have HG2 : Hid (Blk w2 w1.heap.size 5 (splice cur 0 [.int .u8 46]).toArray) := HG2
  generalize splice cur 0 [Value.int .u8 46] = cur2 at *
  clear hB2 K1 HW1 hcall Hg0 HM hg0 lg
  go_wp2_with fail
  go_loopw [10] (fun bv wr => ∃ bp : Nat, 1 ≤ bp ∧ bp ≤ C ∧ bv = .int .i64 bp ∧ (∃ cs : List Value, Hid (Blk wr w1.heap.size 5 cs.toArray) ∧ Hid (∀ j, j < bp → cs[j]? = some (.int .u8 46)) ∧ Hid (cs.length = cur.length)) ∧ Hid (Below w1.heap.size w1 wr)) (fun bv _ => C - (intOf bv).toNat)
  case atStart => exact ⟨1, Nat.le_refl _, hC, rfl, ⟨cur2, HG2, hide (fun j hj => hf2.out j (by omega)), hl2⟩, HB2⟩
  case round =>
    clear HG2 HB2 hf2 hl2
    obtain ⟨bp, hb1, hbC, rfl, ⟨cs, hK, hD, hL⟩, hbr⟩ := hrel
    by_cases hlt : bp < C
    · have t0 : decide ((bp : Int) < (C : Int)) = true := by simp; omega
      have t1 : decide ((C : Int) < (bp : Int)) = false := by simp; omega
      have hcl : C ≤ cs.length := by rw [hL.out]; exact hle
      obtain ⟨m, hm⟩ : ∃ m, m = Nat.min bp (C - bp) := ⟨_, rfl⟩
      have hm1 : 1 ≤ m := by rw [hm]; exact Nat.le_min.2 ⟨hb1, by omega⟩
      have hm4 : m ≤ C - bp := by rw [hm]; exact Nat.min_le_right _ _
      have hm2 : bp + m ≤ C := by omega
      have t2 : min (bp : Int) (C : Int) = (bp : Int) := by omega
      have hm3 : m ≤ bp := by rw [hm]; exact Nat.min_le_left _ _
      have Hm := hide hm
      have Hd2 := hide (splice_dots (bp := bp) (m := m) (cur := cs) hD.out (by omega))
      have Hl2 := hide ((length_splice cs bp (List.replicate m (Value.int .u8 46)) (by rw [List.length_replicate]; omega)).trans hL.out)
      clear hm
      obtain ⟨gw, hgw⟩ : ∃ gw, gw = w1.heap.size := ⟨_, rfl⟩
      have hsl1 : ∀ W, (Instr.slice 92 (.slice (some ⟨w1.heap.size, 0, none⟩) C C) (some (.int .i64 (bp : Int))) none none).run Tryz.prog W = .ok (.slice (some ⟨w1.heap.size, bp, none⟩) (C - bp) (C - bp)) W := tail_any w1.heap.size C bp hlt
      have hsl2 : ∀ W, (Instr.slice 92 (.slice (some ⟨w1.heap.size, 0, none⟩) C C) none (some (.int .i64 (bp : Int))) none).run Tryz.prog W = .ok (.slice (some ⟨w1.heap.size, 0, none⟩) bp C) W := head_any w1.heap.size C bp (Nat.le_of_lt hlt)
      have KD := hide hK.out.drew
      have BD := hide hbr.out.drew
      have Hsrc := hide (fun (j : Nat) (v : Value) (hj : (List.replicate m (Value.int .u8 46))[j]? = some v) => show wr.drew.cell? ((⟨w1.heap.size, 0, none⟩ : Addr).add j) = some v by
        rw [show (⟨w1.heap.size, 0, none⟩ : Addr).add j = ⟨w1.heap.size, j, none⟩ from by unfold Addr.add; split <;> simp_all, KD.out.cell, List.getElem?_toArray]
        rw [List.getElem?_replicate] at hj
        split at hj
        · rw [← hj]
          exact hD.out j (by omega)
        · cases hj)
      have Hfit := hide (show bp + (List.replicate m (Value.int .u8 46)).length ≤ cs.length by rw [List.length_replicate]; omega)
      clear hK hbr hD hL hgw hm3 hm4 t2 hcl
      have t2 : min (bp : Int) (C : Int) = (bp : Int) := Int.min_eq_left (Int.ofNat_le.2 hbC)
      have z1 : IntKind.i64.wrap ((bp : Int) + (m : Int)) = (bp : Int) + (m : Int) := IntWalk.i64_in _ (by omega)
      go_wp2_with fail
      go_region_law (refine step_copy_splice (by rfl) (.tmp 70) (.tmp 73) 92 92 (by rfl) 5 Tryz.underlying92 (by kernel_rfl) (some ⟨w1.heap.size, bp, none⟩) (some ⟨w1.heap.size, 0, none⟩) (C - bp) (C - bp) bp C (by simp [Act.eval, Act.put]) (by simp [Act.eval, Act.put]) w1.heap.size bp cs 5 KD.out (List.replicate m (.int .u8 46)) ?_ ?_ ?_ ?_ w1.heap.size w1 BD.out (Nat.le_refl _) ?_; (rw [List.length_replicate, Hm.out]); (intro _; refine ⟨rfl, _, rfl, fun j v hj => ?_⟩; exact Hsrc.out j v hj); (exact Hfit.out); (intro v hv; rw [List.eq_of_mem_replicate hv]; rfl); intro w4 HG4 hB4)
      have HB4 := hide hB4
      have HG4 : Hid (Blk w4 w1.heap.size 5 (splice cs bp (List.replicate m (Value.int .u8 46))).toArray) := HG4
      generalize splice cs bp (List.replicate m (Value.int .u8 46)) = cs4 at *
      clear hB4 hsl1 hsl2
      go_wp2_with fail
      clear z1 t2 t0 t1
      go_roundw
      case rel => first | exact ⟨bp + m, by omega, hm2, by simp, ⟨cs4, HG4, Hd2, Hl2⟩, HB4⟩ | ((repeat apply Exists.intro); exact ⟨⟨bp + m, by omega, hm2, by simp, ⟨cs4, HG4, Hd2, Hl2⟩, HB4⟩, rfl⟩)
      case measure =>
        simp [intOf, Act.put]
        omega
    · obtain rfl : bp = C := by omega
      have t0 : decide ((bp : Int) < (bp : Int)) = false := by simp
      have hfin := hide (fun (j : Nat) (hj : j < bp) => show (cs.toArray)[j]? = some (Value.int .u8 46) by rw [List.getElem?_toArray]; exact hD.out j hj)
      go_wp2_with fail
      go_ret
      exact ⟨w1.heap.size, cs.toArray, rfl, Nat.le_refl _, hK.out, hfin, hbr.out⟩
end Go.Proofs.YtmcjpdlkkpnhfaaGreat
