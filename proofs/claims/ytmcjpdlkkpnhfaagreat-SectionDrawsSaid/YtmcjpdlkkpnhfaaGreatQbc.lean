/- Small schedules and runs; small details. -/
import Derived.Test.YtmcjpdlkkpnhfaaGreatQaz
namespace Go.Proofs.YtmcjpdlkkpnhfaaGreat
open Go.RowKit

set_option maxHeartbeats 8000000 in
set_option maxRecDepth 100000 in
theorem small16_any (A : Option Addr) (l : List BarD) (n c : Nat) (A2 : Option Addr) (l2 : List RunD) (n2 c2 : Nat) (w : World) {B : Nat} (h : BarsAt w B A l) (h2 : RunsAt w B A2 l2) (hB : B ≤ w.heap.size) (hn : n = l.length) (hn2 : n2 = l2.length) :
    Calls Tryz.prog 37 #[.slice A n c, .slice A2 n2 c2, .int .i64 6, .int .i64 16] w fun e w' => RetB e (n ≤ 63 ∧ n2 ≤ 63 ∧ Tame l) ∧ Below w.heap.size w w' := by
  have hn' := hide hn
  have hn2' := hide hn2
  have Hs := hide h
  have H2 := hide h2
  clear hn hn2 h h2
  go_enter Tryz.func37, Tryz.ntmps37
  go_upto_region 1 with fail
  go_cut [41] from 12 (fun v W => (∃ t : Bool, v = .bool t ∧ Hid (t = false → n ≤ 63 ∧ n2 ≤ 63)) ∧ Below w.heap.size w W)
  case first =>
    go_wp2_with fail
    all_goals go_meet
    all_goals exact ⟨⟨_, rfl, hide (fun h => by simp at h <;> omega)⟩, Below.refl _ _⟩
  case rest =>
    obtain ⟨⟨t, rfl, ht⟩, hb⟩ := hcut
    cases t
    case true =>
      go_wp2_with fail
      go_ret
      exact ⟨⟨false, rfl, fun h => by cases h⟩, hb⟩
    case false =>
      obtain ⟨h63, h263⟩ := ht.out rfl
      clear ht
      have hb0 := hide hb
      clear hb
      go_wp2_with fail
      go_loopw [9] (fun i wr => ∃ k : Nat, k ≤ n ∧ i = .int .i64 k ∧ Hid (Tame (l.take k)) ∧ Below w.heap.size w wr) (fun i _ => n - (intOf i).toNat)
      case atStart => exact ⟨0, Nat.zero_le _, rfl, hide (by intro x hx; simp at hx), hb0.out⟩
      case round =>
        clear hb0
        obtain ⟨k, hk, rfl, hq, hbr⟩ := hrel
        by_cases hlt : k < n
        · have HR := hide (Hs.out.carry (hbr.mono hB) (Nat.le_refl B))
          obtain ⟨b, off, x, A', c', rfl, hbl, hx, hi, h0, h1, h2, h3, h4⟩ := BarsAt.get (k := k) HR.out (by rw [← hn'.out]; exact hlt)
          have Hnext := hide (fun (hx1 : x.dims.length ≤ 8 ∧ x.mark.size ≤ 60) => (show Tame (l.take (k + 1)) by
            rw [take_snoc' hx]
            intro d hd
            rcases List.mem_append.1 hd with h | h
            · exact hq.out d h
            · obtain rfl := List.mem_singleton.1 h; exact ⟨Nat.le_trans hx1.2 (by decide), by omega⟩))
          clear hx hi hbl hq
          obtain ⟨mark, size, cnt, code, dims⟩ := x
          simp only [] at h0 h1 h2 h3 h4 Hnext
          generalize dims.length = dl at *
          go_wp2_with fail
          refine (short_any mark size cnt code A' dl c' _).mono ?_
          rintro e w2 ⟨⟨t, rfl, ht⟩, hb2⟩
          have Hb2 := hide (hbr.trans (hb2.mono hbr.size))
          clear hb2
          cases t
          · clear ht Hnext
            go_wp2_with fail
            go_ret
            exact ⟨⟨false, rfl, fun h => by cases h⟩, Hb2.out⟩
          · have Hnext := hide (Hnext.out (ht rfl))
            clear ht
            go_wp2_with fail
            go_roundw
            case rel => exact ⟨k + 1, by omega, by go_num, Hnext, Hb2.out⟩
            case measure => simp [intOf]; omega
        · obtain rfl : k = n := by omega
          have HT := hide (show Tame l by have := hq.out; rwa [hn'.out, List.take_length] at this)
          have Hb0 := hide hbr
          clear hq hbr
          rename World => wo
          go_wp2_with fail
          go_loopw [10, 11] (fun v i wr => ∃ j : Nat, j ≤ n2 ∧ i = .int .i64 j ∧ (∃ t : Int, v = .int .i64 t ∧ 0 ≤ t ∧ t ≤ 16 * j) ∧ Below w.heap.size w wr) (fun _ i _ => n2 - (intOf i).toNat)
          case atStart => exact ⟨0, Nat.zero_le _, rfl, ⟨0, rfl, by omega, by omega⟩, Hb0.out⟩
          case round =>
            clear Hb0
            obtain ⟨j, hj, rfl, ⟨t, rfl, ht0, ht1⟩, hbr⟩ := hrel
            by_cases hlt : j < n2
            · obtain ⟨b, off, r, rfl, hbl, hx, hc⟩ := RunsAt.get (k := j) (H2.out.carry (Flat.carried _) (hbr.mono hB) (Nat.le_refl _)) (by rw [← hn2'.out]; exact hlt)
              obtain ⟨mark, tx, ty, ⟨a1, a2, a3⟩, ⟨s1, s2, s3⟩, cnt⟩ := r
              have p0 := hc 0 _ rfl
              have p9 := hc 9 _ rfl
              simp only [Nat.add_zero] at p0 p9
              clear hx hbl hc
              go_wp2_with fail
              all_goals first
                | (go_roundw
                   case rel => exact ⟨j + 1, by omega, by go_num, ⟨_, rfl, by omega, by omega⟩, hbr⟩
                   case measure => simp [intOf]; omega)
                | (go_ret
                   exact ⟨⟨false, rfl, fun h => by cases h⟩, hbr⟩)
            · obtain rfl : j = n2 := by omega
              go_wp2_with fail
              all_goals go_ret
              all_goals first
                | exact ⟨⟨_, rfl, fun _ => HT.out⟩, hbr⟩
                | exact ⟨⟨_, rfl, fun _ => ⟨h63, h263, HT.out⟩⟩, hbr⟩
                | exact ⟨⟨_, rfl, fun _ => ⟨by omega, by omega, HT.out⟩⟩, hbr⟩
end Go.Proofs.YtmcjpdlkkpnhfaaGreat
