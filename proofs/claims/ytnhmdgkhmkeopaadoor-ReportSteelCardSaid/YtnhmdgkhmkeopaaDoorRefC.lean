/- The reference of layer 14: the place of a mark, whether a schedule is valid, the sum of its counts, and whether it is small. -/
import Derived.Test.YtnhmdgkhmkeopaaDoorRefB
import Derived.Test.YtnhmdgkhmkeopaaDoorQuant
namespace Go.Proofs.YtnhmdgkhmkeopaaDoor
open Go.RowKit

set_option maxHeartbeats 400000 in
theorem refFind_any (A : Option Addr) (l : List BarD) (n c : Nat) (m : ByteArray) (w : World) {B : Nat} (h : BarsAt w B A l) (hn : n = l.length) (hm : n ≤ 60000) :
    Calls Tryd.prog 16 #[.slice A n c, .string m] w fun e w' => e = .returned (.int .i64 (idx (markIs m) l)) ∧ w = w' := by
  have hn' := hide hn
  have Hs := hide h
  clear hn h
  go_enter Tryd.func16, Tryd.ntmps16
  go_wp2_with fail
  go_loop [5] (fun i => ∃ k : Nat, k ≤ n ∧ i = .int .i64 k ∧ NoneTo (markIs m) l k) (fun i => n - (intOf i).toNat)
  case atStart => exact ⟨0, Nat.zero_le _, rfl, NoneTo.zero _ _⟩
  case round =>
    obtain ⟨k, hk, rfl, hw⟩ := hrel
    by_cases hlt : k < n
    · obtain ⟨b, off, x, A', c', hA, hbl, hx, hi, h0, h1, h2, h3, h4⟩ := BarsAt.get (k := k) Hs.out (by rw [← hn'.out]; exact hlt)
      subst hA
      have Hx := hide hx
      clear hx hi hbl h1 h2 h3 h4
      cases hp : markIs m x
      · have Hp := hide hp
        have hq : (x.mark.toList == m.toList) = false := hp
        clear hp
        go_wp2_with fail
        go_round
        case rel => exact ⟨k + 1, by omega, by go_num, hw.succ Hx.out Hp.out⟩
        case measure => simp [intOf]; omega
      · have Hp := hide hp
        have hq : (x.mark.toList == m.toList) = true := hp
        clear hp
        go_wp2_with fail
        go_ret
        exact ⟨ret_int (hw.hit Hx.out Hp.out).symm, rfl⟩
    · obtain rfl : k = n := by omega
      go_wp2_with fail
      go_ret
      exact ⟨ret_int (NoneTo.miss (by rw [← hn'.out]; exact hw)).symm, rfl⟩

set_option maxHeartbeats 1000000 in
theorem refSchedValid_any (A : Option Addr) (l : List BarD) (n c : Nat) (w : World) {B : Nat} (h : BarsAt w B A l) (hB : B ≤ w.heap.size) (hn : n = l.length) (hg : Tame l) (hm : n ≤ 60000) :
    Calls Tryd.prog 7 #[.slice A n c] w fun e w' => e = .returned (.bool (schedOk l)) ∧ Below w.heap.size w w' := by
  have hn' := hide hn
  have Hg := hide hg
  by_cases h60 : n ≤ 60
  · have hs : schedOk l = schedFrom l 0 l := by simp [schedOk, ← hn, h60]
    rw [hs]
    clear hs hn hg hm
    go_enter Tryd.func7, Tryd.ntmps7
    go_wp2_with fail
    go_loopw [3] (fun i wr => ∃ k : Nat, k ≤ n ∧ i = .int .i64 k ∧ Hid (schedFrom l 0 l = schedFrom l k (l.drop k)) ∧ Below w.heap.size w wr) (fun i _ => n - (intOf i).toNat)
    case atStart => exact ⟨0, Nat.zero_le _, rfl, hide rfl, Below.refl _ _⟩
    case round =>
      obtain ⟨k, hk, rfl, hw, hb⟩ := hrel
      by_cases hlt : k < n
      · have HR := hide (h.carry (hb.mono hB) (Nat.le_refl _))
        have hBr := Nat.le_trans hB hb.size
        obtain ⟨b, off, x, A', c', hA, hbl, hx, hi, h0, h1, h2, h3, h4⟩ := BarsAt.get (k := k) HR.out (by rw [← hn'.out]; exact hlt)
        have HA := hide hA
        subst hA
        have Hx := hide hx
        have hgx := Hg.out x (mem_of_get hx)
        have Hw := hide (hw.out.trans (by rw [drop_at' hx, schedFrom]))
        have Hi := hide hi
        clear hx hi h hw
        go_wp2_with fail
        refine (refBarValid_any x A' c' _ Hi.out hBr hgx.1 hgx.2).mono ?_
        rintro e w1 ⟨rfl, hb1⟩
        have c0 := (hb1.cell (p := ⟨b, off + k * 5, none⟩) (Nat.lt_of_lt_of_le hbl hBr)).trans h0
        have hbw1 := hide (below_step hb hb1 (Nat.le_refl _))
        have hB1 := hide (HR.out.carry (hb1.mono hBr) (Nat.le_refl _))
        clear h0 h1 h2 h3 h4 hb1 HR Hi
        cases hp : barOk x
        · have Hp := hide hp
          clear hp
          go_wp2_with fail
          go_ret
          exact ⟨ret_bool (by rw [Hw.out, Hp.out]; rfl), hbw1.out⟩
        · have Hp := hide hp
          clear hp
          go_wp2_with fail
          refine (refFind_any _ l n c x.mark _ hB1.out hn'.out (by omega)).mono ?_
          rintro e w2 ⟨rfl, rfl⟩
          clear c0
          cases hq : decide (idx (markIs x.mark) l = k)
          · have Hq := hide hq
            have hq' : (idx (markIs x.mark) l != (k : Int)) = true := by simpa using hq
            clear hq
            go_wp2_with fail
            go_ret
            exact ⟨ret_bool (by rw [Hw.out, Hp.out, Hq.out]; rfl), hbw1.out⟩
          · have Hq := hide hq
            have hq' : (idx (markIs x.mark) l != (k : Int)) = false := by simpa using hq
            clear hq
            go_wp2_with fail
            go_roundw
            case rel => exact ⟨k + 1, by omega, by go_num, hide (by rw [Hw.out, Hp.out, Hq.out]; rfl), hbw1.out⟩
            case measure => simp [intOf]; omega
      · obtain rfl : k = n := by omega
        go_wp2_with fail
        go_ret
        exact ⟨ret_bool (by rw [hw.out, List.drop_of_length_le (by rw [← hn'.out]; exact Nat.le_refl _)]; rfl), hb⟩
  · have hs : schedOk l = false := by simp [schedOk, ← hn, h60]
    rw [hs]
    clear hs hn hg
    go_enter Tryd.func7, Tryd.ntmps7
    go_wp2_with fail
    go_ret
    exact ⟨rfl, Below.refl _ _⟩

set_option maxHeartbeats 400000 in
theorem refTotal_ok (A : Option Addr) (l : List BarD) (n c : Nat) (w : World) {B : Nat} (h : BarsAt w B A l) (hn : n = l.length) (hok : schedOk l = true) :
    Calls Tryd.prog 20 #[.slice A n c] w fun e w' => e = .returned (.int .i64 (sumCount l)) ∧ w = w' := by
  have hn' := hide hn
  have hm : n ≤ 60 := by rw [hn]; exact schedOk_len hok
  have Hm := hide (schedOk_mem hok)
  have Hs := hide h
  clear hn hok h
  go_enter Tryd.func20, Tryd.ntmps20
  go_wp2_with fail
  go_loop [3, 4] (fun s i => ∃ k : Nat, k ≤ n ∧ i = .int .i64 k ∧ (∃ t : Int, 0 ≤ t ∧ t ≤ 1000 * k ∧ s = .int .i64 t ∧ Hid (t = sumCount (l.take k)))) (fun _ i => n - (intOf i).toNat)
  case atStart => exact ⟨0, Nat.zero_le _, rfl, 0, by omega, by omega, rfl, hide rfl⟩
  case round =>
    obtain ⟨k, hk, rfl, t, ht0, ht1, rfl, ht⟩ := hrel
    by_cases hlt : k < n
    · obtain ⟨b, off, x, A', c', hA, hbl, hx, hi, e0, e1, e2, e3, e4⟩ := BarsAt.get (k := k) Hs.out (by rw [← hn'.out]; exact hlt)
      obtain ⟨hx0, hx1⟩ := (barGood_of (Hm.out x (mem_of_get hx))).count
      have Hx := hide hx
      subst hA
      clear hx hi hbl e0 e1 e3 e4
      go_wp2_with fail
      go_round
      case rel => exact ⟨k + 1, by omega, by go_num, t + x.count, by omega, by omega, rfl, hide (by rw [take_snoc' Hx.out, sumCount_snoc, ← ht.out])⟩
      case measure => simp [intOf]; omega
    · obtain rfl : k = n := by omega
      have ht' := hide (show t = sumCount l by rw [ht.out, hn'.out, List.take_length])
      clear ht
      go_wp2_with fail
      go_ret
      exact ⟨ret_int ht'.out, rfl⟩

def smallBar (x : BarD) : Bool := decide (x.mark.size ≤ 60) && decide (x.dims.length ≤ 12)
def smallOk (l : List BarD) (most : Int) : Bool := decide ((l.length : Int) ≤ most) && l.all smallBar
set_option maxHeartbeats 400000 in
theorem refSmall_any (A : Option Addr) (l : List BarD) (n c : Nat) (most : Int) (w : World) {B : Nat} (h : BarsAt w B A l) (hn : n = l.length) (hm : (n : Int) ≤ 9223372036854775807) :
    Calls Tryd.prog 5 #[.slice A n c, .int .i64 most] w fun e w' => e = .returned (.bool (smallOk l most)) ∧ w = w' := by
  have hn' := hide hn
  by_cases hmo : (n : Int) ≤ most
  · have Hs := hide h
    have hs : smallOk l most = l.all smallBar := by simp [smallOk, ← hn, hmo]
    rw [hs]
    clear hn h hs
    go_enter Tryd.func5, Tryd.ntmps5
    go_wp2_with fail
    go_loop [5] (fun i => ∃ k : Nat, k ≤ n ∧ i = .int .i64 k ∧ Hid (l.all smallBar = (l.drop k).all smallBar)) (fun i => n - (intOf i).toNat)
    case atStart => exact ⟨0, Nat.zero_le _, rfl, hide rfl⟩
    case round =>
      obtain ⟨k, hk, rfl, hw⟩ := hrel
      by_cases hlt : k < n
      · obtain ⟨b, off, x, A', c', hA, hbl, hx, hi, h0, h1, h2, h3, h4⟩ := BarsAt.get (k := k) Hs.out (by rw [← hn'.out]; exact hlt)
        subst hA
        have Hw := hide (hw.out.trans (by rw [drop_at' hx, List.all_cons]))
        clear hx hi hbl h1 h2 h3 hw
        by_cases hp : 60 < x.mark.size
        · have Hp := hide (show smallBar x = false by simp [smallBar]; omega)
          have hq : decide (60 < (x.mark.size : Int)) = true := by simp; omega
          clear hp
          go_wp2_with fail
          go_ret
          exact ⟨ret_bool (by rw [Hw.out, Hp.out]; rfl), rfl⟩
        · have hq : decide (60 < (x.mark.size : Int)) = false := by simp; omega
          by_cases hp2 : 12 < x.dims.length
          · have Hp := hide (show smallBar x = false by simp [smallBar]; omega)
            have hq2 : decide (12 < (x.dims.length : Int)) = true := by simp; omega
            clear hp hp2
            go_wp2_with fail
            go_ret
            exact ⟨ret_bool (by rw [Hw.out, Hp.out]; rfl), rfl⟩
          · have Hp := hide (show smallBar x = true by simp [smallBar]; omega)
            have hq2 : decide (12 < (x.dims.length : Int)) = false := by simp; omega
            clear hp hp2
            go_wp2_with fail
            go_round
            case rel => exact ⟨k + 1, by omega, by go_num, hide (by rw [Hw.out, Hp.out]; rfl)⟩
            case measure => simp [intOf]; omega
      · obtain rfl : k = n := by omega
        go_wp2_with fail
        go_ret
        exact ⟨ret_bool (by rw [hw.out, List.drop_of_length_le (by rw [← hn'.out]; exact Nat.le_refl _)]; rfl), rfl⟩
  · have hs : smallOk l most = false := by simp [smallOk, ← hn, hmo]
    rw [hs]
    clear hs hn
    go_enter Tryd.func5, Tryd.ntmps5
    go_wp2_with fail
    go_ret
    exact ⟨rfl, rfl⟩
end Go.Proofs.YtnhmdgkhmkeopaaDoor
