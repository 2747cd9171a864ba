/- laid.Hull: the hull of a laid bar. slices.Clone and slices.Compact of rows of numbers. -/
import Derived.Test.YtmcjpdlkkpnhfaaGreatQbf
import Derived.Test.YtmcjpdlkkpnhfaaGreatQbj
import Derived.Test.YtmcjpdlkkpnhfaaGreatShelf
import Derived.Lib.SlicesCompact
import Derived.Lib.RowBridge
import Derived.Sort.OwnSortedInts
import Derived.Lib.OwnBridge
import Derived.Deep.CutRange
namespace Go.Proofs.YtmcjpdlkkpnhfaaGreat
open Go.RowKit

set_option maxHeartbeats 4000000 in
set_option maxRecDepth 100000 in
theorem laidHull_ok (A3 A4 : Option Addr) (bars : List BarD) (runs : List RunD) (n3 c3 n4 c4 i : Nat) (ld : LaidD) (w : World) {B : Nat} (h3 : BarsAt w B A3 bars) (h4 : RunsAt w B A4 runs) (hB : B ≤ w.heap.size) (l3 : n3 = bars.length) (l4 : n4 = runs.length) (m3 : n3 ≤ 60000) (m4 : n4 ≤ 60000) (htame : Tame bars) (hok : laidOk bars runs = true) (hi : (laidAll bars runs)[i]? = some ld) :
    Calls Tryz.prog 33 #[.slice A3 n3 c3, .slice A4 n4 c4, .int .i64 i] w fun e w' => e = .returned (.tuple #[bx (hullOf (ld.pts.map ptBox)), .int .i64 0]) ∧ Below w.heap.size w w' := by
  have HP := hide (laidPath_ok A3 A4 bars runs n3 c3 n4 c4 i ld (w.alloc (.cells #[.int .i64 0, .int .i64 0, .int .i64 0, .int .i64 0, .int .i64 0, .int .i64 0] 63)) (h3.carry ((below_new w _).mono hB) (Nat.le_refl _)) (h4.carry (Flat.carried _) ((below_new w _).mono hB) (Nat.le_refl _)) (le_alloc hB _) l3 l4 m3 m4 htame hok hi)
  have HW := hide (below_new w (.cells #[.int .i64 0, .int .i64 0, .int .i64 0, .int .i64 0, .int .i64 0, .int .i64 0] 63))
  have KR := hide (Blk.new w 63 #[.int .i64 0, .int .i64 0, .int .i64 0, .int .i64 0, .int .i64 0, .int .i64 0])
  obtain ⟨hnear, hl1, hl7⟩ := laid_near runs i ld (laidOk_mem hok).2.2 hi
  have Hall := hide (show (ld.pts.map ptBox).all boxOk = true by
    rw [List.all_eq_true]
    intro b hb
    obtain ⟨p, hp, rfl⟩ := List.mem_map.1 hb
    exact ptBox_ok (hnear p hp))
  obtain ⟨pts, hpts⟩ : ∃ pts, pts = ld.pts := ⟨_, rfl⟩
  rw [← hpts] at HP hl1 hl7 Hall ⊢
  obtain ⟨n, hn⟩ : ∃ n, n = pts.length := ⟨_, rfl⟩
  rw [← hn] at HP hl1 hl7
  have Hn := hide hn
  have HPo := hide (fun (W W1 : World) (A : Option Addr) (c : Nat) (hp : PtsAt W1 W1.heap.size A pts) (hz : Below W1.heap.size W1 W) => points_any A pts n c W (hp.carry (Flat.carried _) hz (Nat.le_refl _)) hz.size Hn.out (by omega))
  have HHu := hide (fun (W : World) (A' : Option Addr) (c' : Nat) (h : BoxesAt W W.heap.size A' (pts.map ptBox)) => boxHull_ok A' (pts.map ptBox) n c' W h (Nat.le_refl _) (by rw [List.length_map]; exact Hn.out) (by omega) (by omega) Hall.out)
  obtain ⟨hu, hhu⟩ : ∃ h, h = hullOf (pts.map ptBox) := ⟨_, rfl⟩
  rw [← hhu] at HHu ⊢
  obtain ⟨⟨x1, x2, x3⟩, x4, x5, x6⟩ := hu
  simp only [bx] at HHu ⊢
  clear h3 h4 hB l3 l4 m3 m4 htame hok hi hnear hpts hn hhu Hall
  go_enter Tryz.func33, Tryz.ntmps33
  go_wp2_with fail
  refine HP.out.mono ?_
  rintro e w1 ⟨A, rfl, hp, hb1⟩
  have HPo1 := hide (fun (W : World) (c : Nat) (hz : Below w1.heap.size w1 W) => HPo.out W w1 A c hp hz)
  have Hb1 := hide (below_step HW.out hb1 (Nat.le_refl _))
  have KR := hide (KR.out.keep hb1)
  clear HP hp hb1 HPo
  go_wp2_with fail
  refine (HPo1.out _ _ (Below.refl _ _)).mono ?_
  rintro e w2 ⟨A6, c6, rfl, hbx, hb2⟩
  have HHu2 := hide (HHu.out w2 A6 c6 hbx)
  have HB2 := hide (below_step Hb1.out hb2 (Nat.le_refl _))
  have KR := hide (KR.out.keep hb2)
  clear hbx hb2 HPo1 HHu Hb1
  go_wp2_with fail
  refine HHu2.out.mono ?_
  rintro e w3 ⟨rfl, hb3⟩
  have HF := hide (below_step HB2.out hb3 (Nat.le_refl _))
  have kr := KR.out.keep hb3
  have e0 := kr.cell 0
  have e1 := kr.cell 1
  have e2 := kr.cell 2
  have e3 := kr.cell 3
  have e4 := kr.cell 4
  have e5 := kr.cell 5
  have g0 := kr.frozen 0
  have g1 := kr.frozen 1
  have g2 := kr.frozen 2
  have g3 := kr.frozen 3
  have g4 := kr.frozen 4
  have g5 := kr.frozen 5
  simp at e0 e1 e2 e3 e4 e5
  have lk := kr.lt
  have Kr := hide kr
  clear kr KR hb3 HHu2 HB2
  go_wp2_with fail
  refine bodyPost_ret (results_ct rfl rfl ((((((Kr.out.set_ 0 _).set_ 1 _).set_ 2 _).set_ 3 _).set_ 4 _).set_ 5 _) Tryz.underlying63 rfl (by kernel_rfl)) rfl ?_
  refine ⟨?_, (((((HF.out.setCell (p := ⟨w.heap.size, 0, none⟩) (Nat.le_refl _) _).setCell (p := ⟨w.heap.size, 1, none⟩) (Nat.le_refl _) _).setCell (p := ⟨w.heap.size, 2, none⟩) (Nat.le_refl _) _).setCell (p := ⟨w.heap.size, 3, none⟩) (Nat.le_refl _) _).setCell (p := ⟨w.heap.size, 4, none⟩) (Nat.le_refl _) _).setCell (p := ⟨w.heap.size, 5, none⟩) (Nat.le_refl _) _⟩
  simp only [List.setIfInBounds_toArray, List.set_cons_zero, List.set_cons_succ]
  rfl
end Go.Proofs.YtmcjpdlkkpnhfaaGreat
namespace Go.Proofs.YtmcjpdlkkpnhfaaGreat
open Go.RowKit Go.Sort

theorem ints_flat (l : List Int) : l.flatMap encInt = l.map (Value.int .i64) := by
  induction l with
  | nil => rfl
  | cons x l ih => rw [List.flatMap_cons, List.map_cons, ih]; rfl
theorem cloneI_any (A : Option Addr) (l : List Int) (n c : Nat) (w : World) {B : Nat} (h : Ints w B A l) (hn : n = l.length) (hm : n ≤ 300000) :
    Calls Tryz.prog 29 #[.slice A n c] w fun e w' => ∃ A' c', e = .returned (.slice A' n c') ∧ Row w' w.heap.size 3 1 encInt (.slice A' n c') l ∧ Below w.heap.size w w' := by
  subst hn
  by_cases h0 : l.length = 0
  · have hl : l = [] := List.length_eq_zero_iff.1 h0
    subst hl
    cases A with
    | none =>
      refine (Tryz.slices_Clone_int_nil 0 c w).mono ?_
      rintro e w' ⟨rfl, rfl⟩
      exact ⟨none, 0, rfl, Row.nil _ _ _ _ _, Below.refl _ _⟩
    | some a =>
      refine (Tryz.slices_Clone_int_zero a c w).mono ?_
      rintro e w' ⟨v', rfl, hown, _, hb⟩
      have hr : Row w' w.heap.size 3 1 encInt v' [] := hown
      obtain ⟨A', c', rfl⟩ := hr.val
      exact ⟨A', c', rfl, hr, hb⟩
  · obtain ⟨b, off, hA, _, hc⟩ := h (by omega)
    subst hA
    refine (Tryz.slices_Clone_int b off l.length c l w (Nat.le_refl _) (by omega) (fun j hj => ?_)).mono ?_
    · obtain ⟨b2, off2, x, hA, _, hx, hcell⟩ := Ints.get (k := j) h hj
      injection hA with hA
      injection hA with h1 h2
      subst h1
      subst h2
      rw [hcell, List.getD_eq_getElem?_getD, hx]
      rfl
    · rintro e w' ⟨v', rfl, hown, _, hb⟩
      rw [List.take_length] at hown
      have hr : Row w' w.heap.size 3 1 encInt v' l := by
        unfold Row
        rw [ints_flat]
        exact hown
      obtain ⟨A', c', rfl⟩ := hr.val
      exact ⟨A', c', rfl, hr, hb⟩
theorem compactI_any (A : Option Addr) (l : List Int) (n c base : Nat) (w : World) (h : Row w base 3 1 encInt (.slice A n c) l) (hm : l.length ≤ 300000) :
    Calls Tryz.prog 28 #[.slice A n c] w fun e w' => ∃ A', e = .returned (.slice A' (Lib.compact l).length c) ∧ Row w' base 3 1 encInt (.slice A' (Lib.compact l).length c) (Lib.compact l) ∧ Below base w w' := by
  obtain ⟨A9, c9, hv⟩ := h.val
  injection hv with h1 h2 h3
  subst h1
  subst h2
  subst h3
  by_cases h0 : l.length = 0
  · have hl : l = [] := List.length_eq_zero_iff.1 h0
    subst hl
    refine (Tryz.slices_Compact_int_empty A c w).mono ?_
    rintro e w' ⟨rfl, rfl⟩
    exact ⟨A, rfl, h, Below.refl _ _⟩
  · have hown : w.ownsRow base 3 1 (.slice A l.length c) l.length (l.map (Value.int .i64)) := by
      have h9 := h
      unfold Row at h9
      rwa [ints_flat] at h9
    obtain ⟨gg, cap, hv, hbg, hgl, hncap, hcm, hlen, hH⟩ := Lib.holds_of_ownsRow hown (by intro h9; injection h9 with _ h9 _; exact h0 h9)
    injection hv with hv1 hv2 hv3
    subst hv1
    subst hv3
    have hle := Lib.compact_length_le l
    refine (Tryz.slices_Compact_int gg 0 c l w hH (by omega) hncap).mono ?_
    rintro e w' ⟨rfl, q, rfl⟩
    have hc := Lib.ownsRow_putRow (q := q) (k := (Lib.compact l).length) (ys := Lib.compact l ++ List.replicate (l.length - (Lib.compact l).length) 0) hown (by simp; omega) (by omega)
    rw [List.take_left] at hc
    refine ⟨some ⟨gg, 0, none⟩, rfl, ?_, Lib.below_putRow (Below.refl _ _) hbg⟩
    unfold Row
    rw [ints_flat]
    exact hc
set_option maxHeartbeats 1000000 in
theorem indexI_any (A : Option Addr) (l : List Int) (n c : Nat) (v : Int) (w : World) {B : Nat} (h : Ints w B A l) (hn : n = l.length) (hm : n ≤ 300000) :
    Calls Tryz.prog 61 #[.slice A n c, .int .i64 v] w fun e w' => e = .returned (.int .i64 (idx (fun z => v == z) l)) ∧ w = w' := by
  have hn' := hide hn
  have Hs := hide h
  clear hn h
  go_enter Tryz.func61, Tryz.ntmps61
  go_wp2_with fail
  go_loopw [8] (fun i wr => ∃ k : Nat, k ≤ n ∧ i = .int .i64 k ∧ NoneTo (fun z => v == z) l k ∧ w = wr) (fun i _ => n - (intOf i).toNat)
  case atStart => exact ⟨0, Nat.zero_le _, rfl, NoneTo.zero _ _, rfl⟩
  case round =>
    obtain ⟨k, hk, rfl, hw, rfl⟩ := hrel
    by_cases hlt : k < n
    · obtain ⟨b, off, x, rfl, hbl, hx, h0⟩ := Ints.get (k := k) Hs.out (by rw [← hn'.out]; exact hlt)
      have Hx := hide hx
      clear hx hbl
      cases hp : (v == x)
      · have Hp := hide hp
        go_wp2_with fail
        go_roundw
        case rel => exact ⟨k + 1, by omega, by go_num, hw.succ Hx.out Hp.out, by first | rfl | trivial⟩
        case measure => simp [intOf]; omega
      · have Hp := hide hp
        go_wp2_with fail
        go_ret
        exact ⟨ret_int (hw.hit Hx.out Hp.out).symm, rfl⟩
    · obtain rfl : k = n := by omega
      go_wp2_with fail
      go_ret
      exact ⟨ret_int (NoneTo.miss (by rw [← hn'.out]; exact hw)).symm, rfl⟩
theorem containsI_any (A : Option Addr) (l : List Int) (n c : Nat) (v : Int) (w : World) {B : Nat} (h : Ints w B A l) (hn : n = l.length) (hm : n ≤ 300000) :
    Calls Tryz.prog 34 #[.slice A n c, .int .i64 v] w fun e w' => e = .returned (.bool (l.any (fun z => v == z))) ∧ w = w' := by
  have HI := hide (indexI_any A l n c v w h hn hm)
  have Hx := hide (idx_any (fun z => v == z) l)
  generalize idx (fun z => v == z) l = ix at *
  generalize l.any (fun z => v == z) = an at *
  clear h hn hm
  go_enter Tryz.func34, Tryz.ntmps34
  go_wp2_with fail
  refine HI.out.mono ?_
  rintro e w1 ⟨rfl, rfl⟩
  go_wp2_with fail
  go_ret
  exact ⟨ret_bool (by rw [← Hx.out]), rfl⟩
theorem isNaN_any (x : Int) (w : World) : Calls Tryz.prog 86 #[.int .i64 x] w fun e w' => e = .returned (.bool false) ∧ w = w' := by
  go_enter Tryz.func86, Tryz.ntmps86
  go_wp2_with fail
  go_ret
  exact ⟨ret_bool (by simp), rfl⟩
theorem less_any (x y : Int) (w : World) : Calls Tryz.prog 59 #[.int .i64 x, .int .i64 y] w fun e w' => e = .returned (.bool (decide (x < y))) ∧ w = w' := by
  go_enter Tryz.func59, Tryz.ntmps59
  go_wp2_with fail
  refine (isNaN_any x _).mono ?_
  rintro e w1 ⟨rfl, rfl⟩
  go_wp2_with fail
  go_ret
  exact ⟨rfl, rfl⟩
set_option maxHeartbeats 2000000 in
theorem isSortedI_ok (A : Option Addr) (l : List Int) (n c : Nat) (w : World) {B : Nat} (h : Ints w B A l) (hB : B ≤ w.heap.size) (hn : n = l.length) (hm : n ≤ 300000) (hs : l.Pairwise (· ≤ ·)) :
    Calls Tryz.prog 30 #[.slice A n c] w fun e w' => e = .returned (.bool true) ∧ Below w.heap.size w w' := by
  have hn' := hide hn
  have Hs := hide h
  have Hle := hide (fun (p m : Nat) (x y : Int) (hpm : p < m) (hx : l[m]? = some x) (hy : l[p]? = some y) => show decide (x < y) = false by
    obtain ⟨h1, h2⟩ := List.getElem?_eq_some_iff.1 hx
    obtain ⟨h3, h4⟩ := List.getElem?_eq_some_iff.1 hy
    have h9 := List.pairwise_iff_getElem.1 hs p m h3 h1 hpm
    rw [h2, h4] at h9
    simpa using h9)
  have z0 : IntKind.i64.wrap ((n : Int) - 1) = (n : Int) - 1 := IntWalk.i64_in _ (by omega)
  clear hn h hs
  go_enter Tryz.func30, Tryz.ntmps30
  go_wp2_with fail
  go_loopw [3] (fun iv wr => ∃ z : Int, iv = .int .i64 z ∧ -1 ≤ z ∧ z < n ∧ Hid (Below w.heap.size w wr)) (fun iv _ => (intOf iv).toNat)
  case atStart => exact ⟨(n : Int) - 1, rfl, by omega, by omega, hide (Below.refl _ _)⟩
  case round =>
    clear z0
    obtain ⟨z, rfl, hz1, hz2, hbr⟩ := hrel
    by_cases hlt : 0 < z
    · obtain ⟨m, rfl⟩ : ∃ m : Nat, z = (m : Int) := ⟨z.toNat, by omega⟩
      obtain ⟨p, hp⟩ : ∃ p : Nat, p = m - 1 := ⟨_, rfl⟩
      have dz : decide (0 < (m : Int)) = true := by simpa using hlt
      have hmn : m < n := by omega
      have hpn : p < n := by omega
      have z1 : IntKind.i64.wrap ((m : Int) - 1) = (p : Int) := (IntWalk.i64_in _ (by omega)).trans (by omega)
      have z2 : (m : Int) - 1 = (p : Int) := by omega
      have z3 : IntKind.i64.wrap (p : Int) = (p : Int) := IntWalk.i64_in _ (by omega)
      have z4 : (p : Int) < (n : Int) := by omega
      have z5 : (m : Int) < (n : Int) := by omega
      have hbs := hbr.out.size
      obtain ⟨b, off, x, rfl, hbl, hx, h0⟩ := Ints.get (k := m) (Hs.out.carry (hbr.out.mono hB) (Nat.le_refl _)) (by rw [← hn'.out]; exact hmn)
      obtain ⟨b2, off2, y, hA, _, hy, h1⟩ := Ints.get (k := p) (Hs.out.carry (hbr.out.mono hB) (Nat.le_refl _)) (by rw [← hn'.out]; exact hpn)
      injection hA with hA
      injection hA with hA1 hA2
      subst hA1
      subst hA2
      have hless := Hle.out p m x y (by omega) hx hy
      have HL := hide (fun (W : World) => show Calls Tryz.prog 59 #[.int .i64 x, .int .i64 y] W fun e w' => e = .returned (.bool false) ∧ W = w' from (less_any x y W).mono (fun e w' hh => by rw [hless] at hh; exact hh))
      have hbw : b < wr.heap.size := by omega
      have HC := hide (fun (W : World) (h : Below wr.heap.size wr W) => show W.cell? ⟨b, off + m, none⟩ = some (.int .i64 x) ∧ W.cell? ⟨b, off + p, none⟩ = some (.int .i64 y) from
        ⟨(h.cell (p := ⟨b, off + m, none⟩) hbw).trans h0, (h.cell (p := ⟨b, off + p, none⟩) hbw).trans h1⟩)
      have hS0 := HC.out _ (Below.drew (Below.refl wr.heap.size wr))
      have hBx := Below.drew (Below.refl wr.heap.size wr)
      clear hx hy hless hp hbl
      go_wp2_with fail
      go_cut [20] from 11 to 20 (fun v wx => v = .bool false ∧ Hid (Below wr.heap.size wr wx))
      case first =>
        go_region_held3 (fun W => W.cell? ⟨b, off + m, none⟩ = some (.int .i64 x) ∧ W.cell? ⟨b, off + p, none⟩ = some (.int .i64 y))
          (first | (with_reducible assumption) | go_keep)
          (first | (go_at_call 59; (with_reducible refine (HL.out _).mono ?_); rintro e wz ⟨rfl, rfl⟩))
        all_goals
          go_wp2_with fail
          go_meet
          exact ⟨rfl, hide hBx⟩
      case rest =>
        obtain ⟨rfl, hbx⟩ := hcut
        have hb9 := hide (hbr.out.trans (hbx.out.mono hbs))
        clear hbx hbr HC hS0 hBx h0 h1 HL
        go_wp2_with fail
        go_roundw
        case rel => exact ⟨(p : Int), by go_num, by omega, by omega, hb9⟩
        case measure => simp [intOf]; omega
    · have dz : decide (0 < z) = false := by simpa using hlt
      go_wp2_with fail
      go_ret
      exact ⟨rfl, hbr.out⟩
end Go.Proofs.YtmcjpdlkkpnhfaaGreat
