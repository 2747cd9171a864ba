/- The references of layers 48 and 50 on numbers: which sizes a schedule has, masses and counts of a size, masses by size, and their sum. -/
import Derived.Test.YtnhmdgkhmkeopaaDoorCutR
import Derived.Test.YtnhmdgkhmkeopaaDoorRefC
import Derived.Test.YtnhmdgkhmkeopaaDoorMasses
namespace Go.Proofs.YtnhmdgkhmkeopaaDoor
open Go.RowKit

set_option maxHeartbeats 400000 in
theorem refHas_any (A : Option Addr) (l : List BarD) (n c : Nat) (d : Int) (w : World) {B : Nat} (h : BarsAt w B A l) (hn : n = l.length) (hm : n ≤ 60000) :
    Calls Tryd.prog 37 #[.slice A n c, .int .i64 d] w fun e w' => e = .returned (.bool (hasSize l d)) ∧ w = w' := by
  have hn' := hide hn
  have Hs := hide h
  have hh : decide (0 ≤ idx (fun x : BarD => x.size == d) l) = hasSize l d := by rw [idx_any]; rfl
  have HH := hide hh
  clear hn h hh
  go_enter Tryd.func37, Tryd.ntmps37
  go_wp2_with fail
  go_loop [5] (fun i => ∃ k : Nat, k ≤ n ∧ i = .int .i64 k ∧ NoneTo (fun x : BarD => x.size == d) l k) (fun i => n - (intOf i).toNat)
  case atStart => exact ⟨0, Nat.zero_le _, rfl, NoneTo.zero _ _⟩
  case round =>
    obtain ⟨k, hk, rfl, hw⟩ := hrel
    by_cases hlt : k < n
    · obtain ⟨b, off, x, A', c', hA, hbl, hx, hi, h0, h1, h2, h3, h4⟩ := BarsAt.get (k := k) Hs.out (by rw [← hn'.out]; exact hlt)
      subst hA
      have Hx := hide hx
      clear hx hi hbl h0 h2 h3 h4
      cases hp : (x.size == d)
      · go_wp2_with fail
        go_round
        case rel => exact ⟨k + 1, by omega, by go_num, hw.succ Hx.out hp⟩
        case measure => simp [intOf]; omega
      · have Hh := hide (show hasSize l d = true by rw [← HH.out, hw.hit Hx.out hp]; simp)
        go_wp2_with fail
        go_ret
        exact ⟨ret_bool Hh.out.symm, rfl⟩
    · obtain rfl : k = n := by omega
      go_wp2_with fail
      go_ret
      exact ⟨ret_bool (by rw [← HH.out, NoneTo.miss (by rw [← hn'.out]; exact hw)]; rfl), rfl⟩

set_option maxHeartbeats 400000 in
theorem refBars_ok (A : Option Addr) (l : List BarD) (n c : Nat) (d : Int) (w : World) {B : Nat} (h : BarsAt w B A l) (hn : n = l.length) (hok : schedOk l = true) :
    Calls Tryd.prog 19 #[.slice A n c, .int .i64 d] w fun e w' => e = .returned (.int .i64 (sumOf BarD.count l d)) ∧ w = w' := by
  have hn' := hide hn
  have hm : n ≤ 60 := by rw [hn]; exact schedOk_len hok
  have Hm := hide (schedOk_mem hok)
  have Hs := hide h
  clear hn hok h
  go_enter Tryd.func19, Tryd.ntmps19
  go_wp2_with fail
  go_loop [5, 6] (fun s i => ∃ k : Nat, k ≤ n ∧ i = .int .i64 k ∧ (∃ t : Int, 0 ≤ t ∧ t ≤ 1000 * k ∧ s = .int .i64 t ∧ Hid (t = sumOf BarD.count (l.take k) d))) (fun _ i => n - (intOf i).toNat)
  case atStart => exact ⟨0, Nat.zero_le _, rfl, 0, by omega, by omega, rfl, hide rfl⟩
  case round =>
    obtain ⟨k, hk, rfl, t, ht0, ht1, rfl, ht⟩ := hrel
    by_cases hlt : k < n
    · obtain ⟨b, off, x, A', c', hA, hbl, hx, hi, e0, e1, e2, e3, e4⟩ := BarsAt.get (k := k) Hs.out (by rw [← hn'.out]; exact hlt)
      obtain ⟨hx0, hx1⟩ := (barGood_of (Hm.out x (mem_of_get hx))).count
      have Hx := hide hx
      subst hA
      clear hx hi hbl e0 e3 e4
      by_cases hd : x.size = d
      · have hd' : (x.size == d) = true := by simpa using hd
        have Hd := hide hd
        clear hd
        go_wp2_with fail
        go_round
        case rel => exact ⟨k + 1, by omega, by go_num, t + x.count, by omega, by omega, rfl, hide (by rw [take_snoc' Hx.out, sumOf_snoc, if_pos Hd.out, ← ht.out])⟩
        case measure => simp [intOf]; omega
      · have hd' : (x.size == d) = false := by simpa using hd
        have Hd := hide hd
        clear hd
        go_wp2_with fail
        go_round
        case rel => exact ⟨k + 1, by omega, by go_num, t, by omega, by omega, rfl, hide (by rw [take_snoc' Hx.out, sumOf_snoc, if_neg Hd.out, ← ht.out])⟩
        case measure => simp [intOf]; omega
    · obtain rfl : k = n := by omega
      have ht' := hide (show t = sumOf BarD.count l d by rw [ht.out, hn'.out, List.take_length])
      clear ht
      go_wp2_with fail
      go_ret
      exact ⟨ret_int ht'.out, rfl⟩

set_option maxHeartbeats 1000000 in
theorem refMassTotal_ok (A : Option Addr) (l : List BarD) (n c : Nat) (w : World) {B : Nat} (h : BarsAt w B A l) (hB : B ≤ w.heap.size) (hn : n = l.length) (hok : schedOk l = true) :
    Calls Tryd.prog 21 #[.slice A n c] w fun e w' => e = .returned (.int .i64 (l.foldl (fun s x => s + lineMass x) 0)) ∧ Below w.heap.size w w' := by
  have hn' := hide hn
  have hm : n ≤ 60 := by rw [hn]; exact schedOk_len hok
  have Hm := hide (schedOk_mem hok)
  have Hs := hide h
  clear hn hok h
  go_enter Tryd.func21, Tryd.ntmps21
  go_wp2_with fail
  go_loopw [3, 4] (fun s i wr => ∃ k : Nat, k ≤ n ∧ i = .int .i64 k ∧ (∃ t : Int, 0 ≤ t ∧ t ≤ 5300000000 * k ∧ s = .int .i64 t ∧ Hid (t = (l.take k).foldl (fun s x => s + lineMass x) 0)) ∧ Below w.heap.size w wr) (fun _ i _ => n - (intOf i).toNat)
  case atStart => exact ⟨0, Nat.zero_le _, rfl, ⟨0, by omega, by omega, rfl, hide rfl⟩, Below.refl _ _⟩
  case round =>
    obtain ⟨k, hk, rfl, ⟨t, ht0, ht1, rfl, ht⟩, hb⟩ := hrel
    by_cases hlt : k < n
    · obtain ⟨b, off, x, A', c', hA, hbl, hx, hi, e0, e1, e2, e3, e4⟩ := BarsAt.get (k := k) (Hs.out.carry (hb.mono hB) (Nat.le_refl _)) (by rw [← hn'.out]; exact hlt)
      subst hA
      have hxm := mem_of_get hx
      have hxo := Hm.out x hxm
      have hr := lineMass_range hxo
      obtain ⟨hr0, hr1⟩ := hr
      have q0 : wrap64 (x.count * oneMass x) = lineMass x := IntWalk.wrap64_in (lineMass x) (by omega)
      have q1 : wrap64 (t + lineMass x) = t + lineMass x := IntWalk.wrap64_in (t + lineMass x) (by omega)
      have Q0 := hide q0
      have Q1 := hide q1
      have Hx := hide hx
      have d0 := cell_regrown e0
      have d1 := cell_regrown e1
      have d2 := cell_regrown e2
      have d3 := cell_regrown e3
      have d4 := cell_regrown e4
      have hBr := Nat.le_trans hB hb.size
      have Ho := fun (W : World) (h : Below wr.heap.size wr W) => hide (refOne_ok x A' c' W (hi.carry (h.mono hBr) (Nat.le_refl B)) (Nat.le_trans hBr h.size) hxo)
      clear hx hi hbl hxm hxo hB hBr q0 q1
      go_wp2_with fail
      refine wp_region_quiet_below (by kernel_rfl) (by kernel_rfl) ?_
      repeat (go_big_quiet_step (first
        | (go_at_call 40; exact Calls.regrown_of (Ho _ (below_regrown _ _ _)).out)))
      refine wpQuiet_nil ?_
      intro w2 hw'
      have hbq := hide (show Below _ _ w2 by obtain ⟨p, rfl⟩ := hw'; exact below_regrown _ _ _)
      clear hw'
      have hb2 := hide (below_step hb hbq.out (Nat.le_refl _))
      clear d0 d1 d2 d3 d4 e0 e1 e2 e3 e4 hbq
      rw [Q0.out, Q1.out]
      go_wp2_with fail
      go_roundw
      case rel => exact ⟨k + 1, by omega, by go_num, ⟨t + lineMass x, by omega, by omega, rfl, hide (by rw [take_snoc' Hx.out, List.foldl_append, ← ht.out]; rfl)⟩, hb2.out⟩
      case measure => simp [intOf]; omega
    · obtain rfl : k = n := by omega
      have ht' := hide (show t = l.foldl (fun s x => s + lineMass x) 0 by rw [ht.out, hn'.out, List.take_length])
      clear ht
      go_wp2_with fail
      go_ret
      exact ⟨ret_int ht'.out, hb⟩

set_option maxHeartbeats 1000000 in
theorem refOf_ok (A : Option Addr) (l : List BarD) (n c : Nat) (d : Int) (w : World) {B : Nat} (h : BarsAt w B A l) (hB : B ≤ w.heap.size) (hn : n = l.length) (hok : schedOk l = true) :
    Calls Tryd.prog 38 #[.slice A n c, .int .i64 d] w fun e w' => e = .returned (.int .i64 (sumOf lineMass l d)) ∧ Below w.heap.size w w' := by
  have hn' := hide hn
  have hm : n ≤ 60 := by rw [hn]; exact schedOk_len hok
  have Hm := hide (schedOk_mem hok)
  have Hs := hide h
  clear hn hok h
  go_enter Tryd.func38, Tryd.ntmps38
  go_wp2_with fail
  go_loopw [5, 6] (fun s i wr => ∃ k : Nat, k ≤ n ∧ i = .int .i64 k ∧ (∃ t : Int, 0 ≤ t ∧ t ≤ 5300000000 * k ∧ s = .int .i64 t ∧ Hid (t = sumOf lineMass (l.take k) d)) ∧ Below w.heap.size w wr) (fun _ i _ => n - (intOf i).toNat)
  case atStart => exact ⟨0, Nat.zero_le _, rfl, ⟨0, by omega, by omega, rfl, hide rfl⟩, Below.refl _ _⟩
  case round =>
    obtain ⟨k, hk, rfl, ⟨t, ht0, ht1, rfl, ht⟩, hb⟩ := hrel
    by_cases hlt : k < n
    · obtain ⟨b, off, x, A', c', hA, hbl, hx, hi, e0, e1, e2, e3, e4⟩ := BarsAt.get (k := k) (Hs.out.carry (hb.mono hB) (Nat.le_refl _)) (by rw [← hn'.out]; exact hlt)
      subst hA
      by_cases hd : x.size = d
      · have hd' : (x.size == d) = true := by simpa using hd
        have Hd := hide hd
        clear hd
        have hxm := mem_of_get hx
        have hxo := Hm.out x hxm
        have hr := lineMass_range hxo
        obtain ⟨hr0, hr1⟩ := hr
        have q0 : wrap64 (x.count * oneMass x) = lineMass x := IntWalk.wrap64_in (lineMass x) (by omega)
        have q1 : wrap64 (t + lineMass x) = t + lineMass x := IntWalk.wrap64_in (t + lineMass x) (by omega)
        have Q0 := hide q0
        have Q1 := hide q1
        have Hx := hide hx
        have d0 := cell_regrown e0
        have d1 := cell_regrown e1
        have d2 := cell_regrown e2
        have d3 := cell_regrown e3
        have d4 := cell_regrown e4
        have hBr := Nat.le_trans hB hb.size
        have Ho := fun (W : World) (h : Below wr.heap.size wr W) => hide (refOne_ok x A' c' W (hi.carry (h.mono hBr) (Nat.le_refl B)) (Nat.le_trans hBr h.size) hxo)
        clear hx hi hbl hxm hxo hB hBr q0 q1
        go_wp2_with fail
        refine wp_region_quiet_below (by kernel_rfl) (by kernel_rfl) ?_
        repeat (go_big_quiet_step (first
          | (go_at_call 40; exact Calls.regrown_of (Ho _ (below_regrown _ _ _)).out)))
        refine wpQuiet_nil ?_
        intro w2 hw'
        have hbq := hide (show Below _ _ w2 by obtain ⟨p, rfl⟩ := hw'; exact below_regrown _ _ _)
        clear hw'
        have hb2 := hide (below_step hb hbq.out (Nat.le_refl _))
        clear d0 d1 d2 d3 d4 e0 e1 e2 e3 e4 hbq
        rw [Q0.out, Q1.out]
        go_wp2_with fail
        go_roundw
        case rel => exact ⟨k + 1, by omega, by go_num, ⟨t + lineMass x, by omega, by omega, rfl, hide (by rw [take_snoc' Hx.out, sumOf_snoc, if_pos Hd.out, ← ht.out])⟩, hb2.out⟩
        case measure => simp [intOf]; omega
      · have hd' : (x.size == d) = false := by simpa using hd
        have Hd := hide hd
        have Hx := hide hx
        clear hd hx hi hbl e0 e2 e3 e4
        go_wp2_with fail
        go_roundw
        case rel => exact ⟨k + 1, by omega, by go_num, ⟨t, by omega, by omega, rfl, hide (by rw [take_snoc' Hx.out, sumOf_snoc, if_neg Hd.out, ← ht.out])⟩, hb⟩
        case measure => simp [intOf]; omega
    · obtain rfl : k = n := by omega
      have ht' := hide (show t = sumOf lineMass l d by rw [ht.out, hn'.out, List.take_length])
      clear ht
      go_wp2_with fail
      go_ret
      exact ⟨ret_int ht'.out, hb⟩
end Go.Proofs.YtnhmdgkhmkeopaaDoor
