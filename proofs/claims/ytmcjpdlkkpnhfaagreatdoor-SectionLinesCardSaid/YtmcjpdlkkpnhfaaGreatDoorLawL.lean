/- The law SectionLines: a drawing has as many lines as rows, each with as many signs as columns; what its signs stand for. -/
import Derived.Test.YtmcjpdlkkpnhfaaGreatDoorQba
import Derived.Test.YtmcjpdlkkpnhfaaGreatDoorQbj
import Derived.Test.YtmcjpdlkkpnhfaaGreatDoorQbk
import Derived.Test.YtmcjpdlkkpnhfaaGreatDoorQbh
import Derived.Test.YtmcjpdlkkpnhfaaGreatDoorLineW
namespace Go.Proofs.YtmcjpdlkkpnhfaaGreatDoor
open Go.RowKit

theorem no_bytes {r : ByteArray} (h : noBytes r = true) : r = ⟨#[]⟩ := by
  rw [noBytes, decide_eq_true_eq] at h
  apply ByteArray.ext
  exact Array.eq_empty_of_size_eq_zero h
set_option maxHeartbeats 16000000 in
set_option maxRecDepth 100000 in
theorem sectionLines_law (x : DetD) (s : DetS) (a sc : Int) (w : World) {B : Nat} (h : DetAt w B x s) (hB : B ≤ w.heap.size) (hl : DetLen x s) (hmx : MX w.heap.size w) :
    Calls Tryz.prog 3 #[detV x s, .int .i64 a, .int .i64 sc] w fun e w' => e = .returned (.bool true) ∧ Below w.heap.size w w' := by
  have HR := hide (fun (W : World) (hz : Below w.heap.size w W) => ready_any x s W (h.carry (hz.mono hB) (Nat.le_refl _)) (Nat.le_trans hB hz.size) hl)
  have HZ := hide (fun (f : Few x s) (q : Int) (he : sizeErr x q = 0) (W : World) (hz : Below w.heap.size w W) => sectSize_ok x s q W (h.carry (hz.mono hB) (Nat.le_refl _)) (Nat.le_trans hB hz.size) (few_fit hl f) he)
  have HD1 := hide (fun (f : Few x s) (he : drawErr x a sc ≠ 0) (W : World) (hz : Below w.heap.size w W) => sectDraw_bad x s a sc W (h.carry (hz.mono hB) (Nat.le_refl _)) (Nat.le_trans hB hz.size) (few_fit hl f) he)
  have HD0 := hide (fun (f : Few x s) (he : drawErr x a sc = 0) (W : World) (hz : Below w.heap.size w W) => sectDraw_ok x s a sc W (h.carry (hz.mono hB) (Nat.le_refl _)) (Nat.le_trans hB hz.size) (few_fit hl f) he)
  have HS0 := hide (fun (f : Few x s) (he : secErr x a = 0) (W : World) (hz : Below w.heap.size w W) => sectSteel_ok x s a W (h.carry (hz.mono hB) (Nat.le_refl _)) (Nat.le_trans hB hz.size) (few_fit hl f) he)
  have HC0 := hide (fun (f : Few x s) (he : secErr x a = 0) (W : World) (hz : Below w.heap.size w W) => sectCut_ok x s a W (h.carry (hz.mono hB) (Nat.le_refl _)) (Nat.le_trans hB hz.size) (few_fit hl f) he)
  have Hi := hide (show (Tryz.prog.info? 34).map (·.size) = some 19 by kernel_rfl)
  have K0 := hide (Blk.new w 34 (detCells x.mem x.rule s))
  have HW := hide (below_new w (.cells (detCells x.mem x.rule s) 34))
  have Hmx := hide hmx
  clear h hB hl hmx
  go_enter Tryz.func3, Tryz.ntmps3
  go_wp2_with fail
  refine (awake_any _).mono ?_
  rintro e w1 ⟨rfl, hb⟩
  replace K0 := hide (K0.out.keep hb)
  replace HW := hide (below_step HW.out hb (Nat.le_refl _))
  clear hb
  go_wp2_with (refine wpList_load_row rfl 34 (.tmp 3) rfl w.heap.size rfl 34 _ (0, 0) _ K0.out Tryz.underlying34 rfl Hi.out ?_)
  refine (HR.out _ HW.out).mono ?_
  rintro e w2 ⟨⟨t, rfl, ht⟩, hb⟩
  have Ht := hide ht
  replace K0 := hide (K0.out.keep hb)
  replace HW := hide (below_step HW.out hb (Nat.le_refl _))
  clear hb
  clear ht HR
  cases t
  · go_wp2_with fail
    go_ret
    exact ⟨rfl, HW.out⟩
  obtain ⟨hf, hdet⟩ := Ht.out rfl
  have hways : (decide (a < -1048576) = true) ∨ (decide (a < -1048576) = false ∧ decide (1048576 < a) = true) ∨ (decide (a < -1048576) = false ∧ decide (1048576 < a) = false ∧ decide (sc < 1) = true) ∨ (decide (a < -1048576) = false ∧ decide (1048576 < a) = false ∧ decide (sc < 1) = false ∧ decide (524288 < sc) = true) ∨ (decide (a < -1048576) = false ∧ decide (1048576 < a) = false ∧ decide (sc < 1) = false ∧ decide (524288 < sc) = false ∧ IntKind.i64.wrap (2 * sc) = 2 * sc ∧ -1048576 ≤ a ∧ a ≤ 1048576 ∧ 1 ≤ sc ∧ sc ≤ 524288) := by
    simp only [decide_eq_true_eq, decide_eq_false_iff_not]
    by_cases g1 : a < -1048576
    · exact .inl g1
    by_cases g2 : 1048576 < a
    · exact .inr (.inl ⟨g1, g2⟩)
    by_cases g3 : sc < 1
    · exact .inr (.inr (.inl ⟨g1, g2, g3⟩))
    by_cases g4 : 524288 < sc
    · exact .inr (.inr (.inr (.inl ⟨g1, g2, g3, g4⟩)))
    · exact .inr (.inr (.inr (.inr ⟨g1, g2, g3, g4, IntWalk.i64_in _ (by omega), by omega, by omega, by omega, by omega⟩)))
  clear Ht
  rcases hways with d1 | ⟨d1, d2⟩ | ⟨d1, d2, d3⟩ | ⟨d1, d2, d3, d4⟩ | ⟨d1, d2, d3, d4, d5, g1, g2, g3, g4⟩
  · go_wp2_with fail
    go_ret
    exact ⟨rfl, HW.out⟩
  · go_wp2_with fail
    go_ret
    exact ⟨rfl, HW.out⟩
  · go_wp2_with fail
    go_ret
    exact ⟨rfl, HW.out⟩
  · go_wp2_with fail
    go_ret
    exact ⟨rfl, HW.out⟩
  have he1 : sizeErr x sc = 0 := by rw [sizeErr, if_neg (by rw [hdet]; decide), if_neg (by omega)]
  have he2 : sizeErr x (2 * sc) = 0 := by rw [sizeErr, if_neg (by rw [hdet]; decide), if_neg (by omega)]
  have he3 : secErr x a = 0 := by rw [secErr, if_neg (by rw [hdet]; decide), if_neg (by omega)]
  have HZ1 := HZ.out hf sc he1
  have HZ2 := HZ.out hf (2 * sc) he2
  have HS := hide (HS0.out hf he3)
  have HC := hide (HC0.out hf he3)
  obtain ⟨C, R, D, T, eC, eR, eD, eT, f1, f2, f3, f4, f5, f6, f7, f8⟩ := twice_size hdet g3
  rw [eC, eR] at HZ1
  rw [eD, eT] at HZ2
  replace HZ1 := hide HZ1
  replace HZ2 := hide HZ2
  have hbig : drawErr x a sc = if 200 < C ∨ 200 < R then 4 else 0 := by
    rw [drawErr, if_neg (by omega), if_neg (by omega), eC, eR]
    by_cases q : 200 < C ∨ 200 < R
    · rw [if_pos q, if_pos (by omega)]
    · rw [if_neg q, if_neg (by omega)]
  have Hbig : Hid ((200 < C ∨ 200 < R) ∧ drawErr x a sc = 4 ∨ ¬(200 < C ∨ 200 < R) ∧ drawErr x a sc = 0) := by
    by_cases q : 200 < C ∨ 200 < R
    · rw [if_pos q] at hbig; exact hide (.inl ⟨q, hbig⟩)
    · rw [if_neg q] at hbig; exact hide (.inr ⟨q, hbig⟩)
  have HDb := hide (fun (he : drawErr x a sc = 4) => HD1.out hf (by omega))
  have HDg := hide (fun (he : drawErr x a sc = 0) => HD0.out hf he)
  have Hst := hide (fun (q : hasB ⟨(sectText x a sc).toArray⟩ 111 = true) => sect_steel hdet q)
  have Hdr := hide (fun (q : (hasB ⟨(sectText x a sc).toArray⟩ 111 || hasB ⟨(sectText x a sc).toArray⟩ 43) = true) => sect_drawn q)
  rw [rest_zero eC eR] at HDg Hst Hdr
  have Hs0 := hide (steel_range (cutsOf x a) (cuts_fine (detOk_parts hdet).2.1 a).2).1
  have Hcl := hide (cuts_fine (detOk_parts hdet).2.1 a).1
  obtain ⟨N, hN⟩ : ∃ N, N = C * R := ⟨_, rfl⟩
  have hN2 : N ≤ 4000000 * 4000000 := by rw [hN]; exact Nat.mul_le_mul f7 f8
  have z1 : IntKind.i64.wrap ((C : Int) * (R : Int)) = (N : Int) := by
    rw [hN, ← Int.natCast_mul]
    exact IntWalk.i64_in _ (by omega)
  have z2 : IntKind.i64.wrap (2 * (D : Int)) = ((2 * D : Nat) : Int) := by rw [IntWalk.i64_in _ (by omega)]; omega
  have z3 : IntKind.i64.wrap (2 * (T : Int)) = ((2 * T : Nat) : Int) := by rw [IntWalk.i64_in _ (by omega)]; omega
  have t1 : decide ((C : Int) < (D : Int)) = false := by simp; omega
  have t2 : decide ((R : Int) < (T : Int)) = false := by simp; omega
  have t3 : decide ((D : Int) < 1) = false := by simp; omega
  have t4 : decide ((T : Int) < 1) = false := by simp; omega
  have t5 : decide (((2 * D : Nat) : Int) < (C : Int)) = false := by simp; omega
  have t6 : decide (((2 * T : Nat) : Int) < (R : Int)) = false := by simp; omega
  have HN := hide hN
  clear HZ HD1 HD0 HS0 HC0 he1 he2 he3 hf hdet hbig hN eC eR eD eT
  go_wp2_with (refine wpList_load_row rfl 34 (.tmp 3) rfl w.heap.size rfl 34 _ (0, 0) _ K0.out Tryz.underlying34 rfl Hi.out ?_)
  refine (HZ1.out _ HW.out).mono ?_
  rintro e w3 ⟨rfl, hb⟩
  replace K0 := hide (K0.out.keep hb)
  replace HW := hide (below_step HW.out hb (Nat.le_refl _))
  clear hb
  clear HZ1
  go_wp2_with (refine wpList_load_row rfl 34 (.tmp 3) rfl w.heap.size rfl 34 _ (0, 0) _ K0.out Tryz.underlying34 rfl Hi.out ?_)
  refine (HZ2.out _ HW.out).mono ?_
  rintro e w4 ⟨rfl, hb⟩
  replace K0 := hide (K0.out.keep hb)
  replace HW := hide (below_step HW.out hb (Nat.le_refl _))
  clear hb
  clear HZ2
  cases h9 : decide (900 < (N : Int))
  rotate_left
  · go_wp2_with fail
    go_ret
    exact ⟨rfl, HW.out⟩
  have hN9 : N ≤ 900 := by simp at h9; omega
  rcases Hbig.out with ⟨q, he⟩ | ⟨q, he⟩
  · have HD := hide (HDb.out he)
    rw [he] at HD
    have p1 : decide (200 < (C : Int)) = true ∨ (decide (200 < (C : Int)) = false ∧ decide (200 < (R : Int)) = true) := by
      simp only [decide_eq_true_eq, decide_eq_false_iff_not]
      omega
    clear HDb HDg HS HC Hst Hdr
    rcases p1 with p1 | ⟨p1, p2⟩
    all_goals
      go_wp2_with (refine wpList_load_row rfl 34 (.tmp 3) rfl w.heap.size rfl 34 _ (0, 0) _ K0.out Tryz.underlying34 rfl Hi.out ?_)
      refine (HD.out _ HW.out).mono ?_
      rintro e w5 ⟨rfl, hb⟩
      replace K0 := hide (K0.out.keep hb)
      replace HW := hide (below_step HW.out hb (Nat.le_refl _))
      clear hb
      go_wp2_with fail
      go_ret
      exact ⟨rfl, HW.out⟩
  have HD := hide (HDg.out he)
  have hC2 : C ≤ 200 := by omega
  have hR2 : R ≤ 200 := by omega
  have hRC : R * (C + 1) ≤ 300000 := by
    have := Nat.mul_le_mul hR2 (show C + 1 ≤ 201 by omega)
    omega
  have Hcut := hide (fun (j : Nat) (hj : j < R) (W : World) (hm : MX w.heap.size W) => cutLine_any (x := x) (a := a) (sc := sc) hj hRC W hm)
  have Htr := hide (fun (j : Nat) (W : World) => trimLine_any (x := x) (a := a) (sc := sc) (C := C) (R := R) (j := j) (by omega) (by omega) W)
  have Hct := hide (fun (W : World) => countLines_any (x := x) (a := a) (sc := sc) (C := C) (R := R) W)
  have Hsz := @rest_size x a sc C R
  have Hls := hide (fun j => (@line_size x a sc C R j).1)
  have Hre := hide (@rest_end x a sc C R)
  clear HDb HDg Hbig he
  generalize cutsOf x a = L at *
  generalize restB x a sc C R = RB at *
  generalize lineOf x a sc C R = LB at *
  generalize hT0 : RB 0 = T0 at *
  obtain ⟨S, hS⟩ : ∃ q, q = steelOf L := ⟨_, rfl⟩
  rw [← hS] at HS Hst Hs0
  clear hS
  obtain ⟨M, hM⟩ : ∃ M, M = R * (C + 1) := ⟨_, rfl⟩
  have z4 : IntKind.i64.wrap ((C : Int) + 1) = ((C + 1 : Nat) : Int) := by rw [IntWalk.i64_in _ (by omega)]; omega
  have z5 : IntKind.i64.wrap ((R : Int) * ((C : Int) + 1)) = (M : Int) := by
    rw [hM, show ((C : Int) + 1) = ((C + 1 : Nat) : Int) by omega, ← Int.natCast_mul]
    exact IntWalk.i64_in _ (by omega)
  have z7 : wrap64 ((R : Int) * ((C : Int) + 1)) = (M : Int) := by
    rw [hM, show ((C : Int) + 1) = ((C + 1 : Nat) : Int) by omega, ← Int.natCast_mul]
    exact IntWalk.wrap64_in _ (by omega)
  have z6 : ((T0.size : Int) != (M : Int)) = false := by simp [Hsz, hM]
  have HM := hide hM
  clear Hsz hM
  go_wp2_with (refine wpList_load_row rfl 34 (.tmp 3) rfl w.heap.size rfl 34 _ (0, 0) _ K0.out Tryz.underlying34 rfl Hi.out ?_)
  refine (HD.out _ HW.out).mono ?_
  rintro e w5 ⟨rfl, hb⟩
  replace K0 := hide (K0.out.keep hb)
  replace HW := hide (below_step HW.out hb (Nat.le_refl _))
  clear hb
  clear HD
  go_wp2_with fail
  refine (Hct.out _).mono ?_
  rintro e w6 ⟨rfl, hb⟩
  replace K0 := hide (K0.out.keep hb)
  replace HW := hide (below_step HW.out hb (Nat.le_refl _))
  clear hb
  clear Hct
  go_wp2_with fail
  go_loopw [15, 135] (fun rv iv wr => ∃ k : Nat, k ≤ R ∧ rv = .string (RB k) ∧ iv = .int .i64 k ∧ Hid (Below w6.heap.size w6 wr)) (fun _ iv _ => R - (intOf iv).toNat)
  case atStart => exact ⟨0, Nat.zero_le _, by rw [hT0], rfl, hide (Below.refl _ _)⟩
  case round =>
    obtain ⟨k, hk, rfl, rfl, hbr⟩ := hrel
    by_cases hlt : k < R
    · have dk : decide ((k : Int) < (R : Int)) = true := by simp; omega
      have Hck := hide (Hcut.out k hlt)
      have Hl := hide (Hls.out k)
      go_wp2_with fail
      refine (Hck.out _ (Hmx.out.carry (below_step HW.out hbr.out (Nat.le_refl _)))).mono ?_
      rintro e wa ⟨rfl, hb⟩
      have hba := hide (below_step hbr.out hb (Nat.le_refl _))
      have hlen : (((LB k).size : Int) != (C : Int)) = false := by rw [Hl.out]; simp
      clear hb Hck hbr
      go_wp2_with fail
      refine (Htr.out k _).mono ?_
      rintro e wb ⟨r, rfl, hr, hb⟩
      have hbb := hide (below_step hba.out hb (Nat.le_refl _))
      obtain rfl : r = ⟨#[]⟩ := no_bytes hr.out
      clear hb hba hlen
      go_wp2_with fail
      go_roundw
      case rel => exact ⟨k + 1, by omega, rfl, by go_num, hbb⟩
      case measure => simp [intOf]; omega
    · obtain rfl : k = R := by omega
      have dk : decide ((k : Int) < (k : Int)) = false := by simp
      rw [Hre.out]
      replace K0 := hide (K0.out.below hbr.out K0.out.lt)
      replace HW := hide (below_step HW.out hbr.out (Nat.le_refl _))
      clear hbr
      go_wp2_with (refine wpList_load_row rfl 34 (.tmp 3) rfl w.heap.size rfl 34 _ (0, 0) _ K0.out Tryz.underlying34 rfl Hi.out ?_)
      refine (HS.out _ HW.out).mono ?_
      rintro e w7 ⟨rfl, hb⟩
      replace K0 := hide (K0.out.keep hb)
      replace HW := hide (below_step HW.out hb (Nat.le_refl _))
      clear hb
      clear HS
      go_wp2_with (refine wpList_load_row rfl 34 (.tmp 3) rfl w.heap.size rfl 34 _ (0, 0) _ K0.out Tryz.underlying34 rfl Hi.out ?_)
      refine (HC.out _ HW.out).mono ?_
      rintro e w8 ⟨A1, c1, A2, c2, rfl, _, _, hb⟩
      replace K0 := hide (K0.out.keep hb)
      replace HW := hide (below_step HW.out hb (Nat.le_refl _))
      clear hb
      clear HC
      obtain ⟨n, hn⟩ : ∃ n, n = L.length := ⟨_, rfl⟩
      rw [← hn] at Hdr Hcl ⊢
      clear hn
      have hcl := Hcl.out
      have hs0 := Hs0.out
      go_wp2_with fail
      refine (hasB_any T0 111 _).mono ?_
      rintro e w9 ⟨rfl, hb⟩
      replace K0 := hide (K0.out.keep hb)
      replace HW := hide (below_step HW.out hb (Nat.le_refl _))
      clear hb
      cases ho : hasB T0 111
      · rw [ho] at Hst Hdr
        have Ho := hide ho
        clear ho
        go_wp2_with fail
        refine (hasB_any T0 43 _).mono ?_
        rintro e wA ⟨rfl, hb⟩
        replace K0 := hide (K0.out.keep hb)
        replace HW := hide (below_step HW.out hb (Nat.le_refl _))
        clear hb
        cases hp : hasB T0 43
        · clear hp
          cases hq : decide (0 < S)
          · go_wp2_with fail
            refine (hasB_any T0 111 _).mono ?_
            rintro e wB ⟨rfl, hb⟩
            replace K0 := hide (K0.out.keep hb)
            replace HW := hide (below_step HW.out hb (Nat.le_refl _))
            clear hb
            rw [Ho.out]
            go_wp2_with fail
            go_ret
            exact ⟨rfl, HW.out⟩
          · go_wp2_with fail
            go_ret
            exact ⟨rfl, HW.out⟩
        · have hn0 := Hdr.out (by rw [hp]; rfl)
          have q1 : decide (0 < (n : Int)) = true := by simp; omega
          clear hp
          cases hq : decide (0 < S)
          · go_wp2_with fail
            refine (hasB_any T0 111 _).mono ?_
            rintro e wB ⟨rfl, hb⟩
            replace K0 := hide (K0.out.keep hb)
            replace HW := hide (below_step HW.out hb (Nat.le_refl _))
            clear hb
            rw [Ho.out]
            go_wp2_with fail
            go_ret
            exact ⟨rfl, HW.out⟩
          · go_wp2_with fail
            go_ret
            exact ⟨rfl, HW.out⟩
      · have hn0 := Hdr.out (by rw [ho]; rfl)
        have hS0 := Hst.out ho
        have q1 : decide (0 < (n : Int)) = true := by simp; omega
        have q2 : decide (0 < S) = true := by simp; omega
        clear ho
        go_wp2_with fail
        go_ret
        exact ⟨rfl, HW.out⟩
end Go.Proofs.YtmcjpdlkkpnhfaaGreatDoor
