/- law47.ready: a true answer tells that a detail is small and valid. -/
import Derived.Test.YtmcjpdlkkpnhfaaGreatDoorQad
import Derived.Test.YtmcjpdlkkpnhfaaGreatDoorQay
import Derived.Test.YtmcjpdlkkpnhfaaGreatDoorQat
import Derived.Test.YtmcjpdlkkpnhfaaGreatDoorQax
import Derived.Test.YtmcjpdlkkpnhfaaGreatDoorQas
import Derived.Test.YtmcjpdlkkpnhfaaGreatDoorQbb
import Derived.Test.YtmcjpdlkkpnhfaaGreatDoorQaz
import Derived.Test.YtmcjpdlkkpnhfaaGreatDoorQbc
import Derived.StillTailTactics
import Derived.BigQuiet
import Derived.Test.YtmcjpdlkkpnhfaaGreatDoorQav
namespace Go.Proofs.YtmcjpdlkkpnhfaaGreatDoor
open Go.RowKit

theorem step_far8 {s : Pt} {k : Int} (h : nearBy 2097152 s = true) (h0 : 0 ≤ k) (h1 : k ≤ 999) : nearBy 4294967296 (mulP k s) = true := by
  obtain ⟨a, b, c⟩ := nearBy_iff.1 h
  have key : ∀ v : Int, -2097152 ≤ v ∧ v ≤ 2097152 → -4294967296 ≤ k * v ∧ k * v ≤ 4294967296 := by
    intro v hv
    obtain ⟨f, g⟩ := mul_between (s := v) h0 h1
    rcases Int.le_total 0 v with hs | hs
    · have := f hs; omega
    · have := g hs; omega
  rw [nearBy_iff, mulP]
  exact ⟨key _ a, key _ b, key _ c⟩
set_option maxHeartbeats 4000000 in
set_option maxRecDepth 100000 in
theorem refPts_ok (A3 A4 : Option Addr) (bars : List BarD) (runs : List RunD) (n3 c3 n4 c4 i : Nat) (ld : LaidD) (w : World) {B : Nat} (h3 : BarsAt w B A3 bars) (h4 : RunsAt w B A4 runs) (hB : B ≤ w.heap.size) (l3 : n3 = bars.length) (l4 : n4 = runs.length) (m3 : n3 ≤ 60000) (hok : laidOk bars runs = true) (hi : (laidAll bars runs)[i]? = some ld) :
    Calls Tryz.prog 150 #[.slice A3 n3 c3, .slice A4 n4 c4, .int .i64 i] w fun e w' => ∃ A c, e = .returned (.slice A ld.pts.length c) ∧ PtsAt w' w'.heap.size A ld.pts ∧ ld.pts.length ≤ c ∧ Below w.heap.size w w' := by
  obtain ⟨hbars, hlen, hruns⟩ := laidOk_mem hok
  have hi9 : i ≤ 100000 := by have := (laidOk_len hok).2; have := lt_of_get hi; omega
  have HP := hide (fun (W : World) (hz : Below w.heap.size w W) => refPlaceL_ok bars A4 runs n4 c4 i ld W (h4.carry (Flat.carried _) (hz.mono hB) (Nat.le_refl _)) l4 (by omega) hruns hi hi9)
  have HBa := hide (fun (W : World) (hz : Below w.heap.size w W) => refBar_ok A3 A4 bars runs n3 c3 n4 c4 i ld W (h3.carry (hz.mono hB) (Nat.le_refl _)) (h4.carry (Flat.carried _) (hz.mono hB) (Nat.le_refl _)) (Nat.le_trans hB hz.size) l3 l4 m3 hok hi)
  have Hbk := hide (fun (k : Nat) (r : RunD) (hk : runs[k]? = some r) (hx : runBar bars r = some ld.bar) => find_bar (hruns r (mem_of_get hk)) hx)
  obtain ⟨bar, pts⟩ := ld
  simp only at HP HBa Hbk ⊢
  have Hro := hide (fun (k : Nat) (r : RunD) (hk : runs[k]? = some r) => hruns r (mem_of_get hk))
  have Hbo := hide hbars
  have H4 := hide h4
  have L4 := hide l4
  have HB := hide hB
  clear h3 h4 l3 l4 hok hi hruns hlen hbars hB
  go_enter Tryz.func150, Tryz.ntmps150
  go_wp2_with fail
  refine (HP.out _ (Below.refl _ _)).mono ?_
  rintro e w1 ⟨k, j, r, rfl, hk, hx, hj, hrb, hpts, rfl⟩
  obtain ⟨q, hq, hy⟩ := Hbk.out k r hx hrb
  have hro := Hro.out k r hx
  have hbo := Hbo.out _ (mem_of_get hy)
  obtain ⟨jj, x', _, _, _, htu⟩ := runOk_bar hro
  have hfar : nearBy 4294967296 (mulP (j : Int) r.step) = true := by
    have h9 := runOk_count hro
    simp only [runOk, runHead, Bool.and_eq_true, Bool.or_eq_true, decide_eq_true_eq] at hro
    rcases hro.1.1.2 with h8 | h8
    · obtain rfl : j = 0 := by omega
      simp [mulP, nearBy_iff]
    · exact step_far8 h8.2 (by omega) (by omega)
  have HPt := hide (fun (A' : Option Addr) (c' : Nat) (W : World) (hdi : Ints W B A' bar.dims) (hz : Below w.heap.size w W) => refPoints_ok bar A' c' r j W hdi (Nat.le_trans HB.out hz.size) hbo htu (runOk_place hro) (by omega) hfar)
  rw [← hpts] at HPt
  obtain ⟨b, off, r', rfl, hbl, hx', hc⟩ := RunsAt.get (k := k) H4.out (by rw [← L4.out]; exact hk)
  rw [hx] at hx'
  injection hx' with hx'
  subst hx'
  have hbw : b < w.heap.size := Nat.lt_of_lt_of_le hbl HB.out
  obtain ⟨mark, tx, ty, ⟨a1, a2, a3⟩, ⟨s1, s2, s3⟩, cnt⟩ := r
  obtain ⟨mk, sz, ct, cd, dims⟩ := bar
  have e0 := hc 0 _ rfl
  have e1 := hc 1 _ rfl
  have e2 := hc 2 _ rfl
  have e3 := hc 3 _ rfl
  have e4 := hc 4 _ rfl
  have e5 := hc 5 _ rfl
  have e6 := hc 6 _ rfl
  have e7 := hc 7 _ rfl
  have e8 := hc 8 _ rfl
  have e9 := hc 9 _ rfl
  simp only [Nat.add_zero] at e0 e1 e2 e3 e4 e5 e6 e7 e8 e9
  simp only [barV] at HBa HPt
  have HC := hide (fun (W : World) (h : Below w.heap.size w W) => show W.cell? ⟨b, off + k * 10, none⟩ = some (.string mark) ∧ W.cell? ⟨b, off + k * 10 + 1, none⟩ = some (.int .i64 tx) ∧ W.cell? ⟨b, off + k * 10 + 2, none⟩ = some (.int .i64 ty) ∧ W.cell? ⟨b, off + k * 10 + 3, none⟩ = some (.int .i64 a1) ∧ W.cell? ⟨b, off + k * 10 + 4, none⟩ = some (.int .i64 a2) ∧ W.cell? ⟨b, off + k * 10 + 5, none⟩ = some (.int .i64 a3) ∧ W.cell? ⟨b, off + k * 10 + 6, none⟩ = some (.int .i64 s1) ∧ W.cell? ⟨b, off + k * 10 + 7, none⟩ = some (.int .i64 s2) ∧ W.cell? ⟨b, off + k * 10 + 8, none⟩ = some (.int .i64 s3) ∧ W.cell? ⟨b, off + k * 10 + 9, none⟩ = some (.int .i64 cnt) from
    ⟨(h.cell (p := ⟨b, off + k * 10, none⟩) hbw).trans e0, (h.cell (p := ⟨b, off + k * 10 + 1, none⟩) hbw).trans e1, (h.cell (p := ⟨b, off + k * 10 + 2, none⟩) hbw).trans e2, (h.cell (p := ⟨b, off + k * 10 + 3, none⟩) hbw).trans e3, (h.cell (p := ⟨b, off + k * 10 + 4, none⟩) hbw).trans e4, (h.cell (p := ⟨b, off + k * 10 + 5, none⟩) hbw).trans e5, (h.cell (p := ⟨b, off + k * 10 + 6, none⟩) hbw).trans e6, (h.cell (p := ⟨b, off + k * 10 + 7, none⟩) hbw).trans e7, (h.cell (p := ⟨b, off + k * 10 + 8, none⟩) hbw).trans e8, (h.cell (p := ⟨b, off + k * 10 + 9, none⟩) hbw).trans e9⟩)
  clear hx hbl hc hq hy hro hbo htu hfar hrb hpts hj HP Hbk Hro Hbo H4 L4
  have hS0 := HC.out _ (Below.drew (Below.refl w.heap.size w))
  have hBx := Below.drew (Below.refl w.heap.size w)
  go_wp2_with fail
  first
    | (go_region_held3 (fun W => W.cell? ⟨b, off + k * 10, none⟩ = some (.string mark) ∧ W.cell? ⟨b, off + k * 10 + 1, none⟩ = some (.int .i64 tx) ∧ W.cell? ⟨b, off + k * 10 + 2, none⟩ = some (.int .i64 ty) ∧ W.cell? ⟨b, off + k * 10 + 3, none⟩ = some (.int .i64 a1) ∧ W.cell? ⟨b, off + k * 10 + 4, none⟩ = some (.int .i64 a2) ∧ W.cell? ⟨b, off + k * 10 + 5, none⟩ = some (.int .i64 a3) ∧ W.cell? ⟨b, off + k * 10 + 6, none⟩ = some (.int .i64 s1) ∧ W.cell? ⟨b, off + k * 10 + 7, none⟩ = some (.int .i64 s2) ∧ W.cell? ⟨b, off + k * 10 + 8, none⟩ = some (.int .i64 s3) ∧ W.cell? ⟨b, off + k * 10 + 9, none⟩ = some (.int .i64 cnt))
        (first | (with_reducible assumption) | go_keep)
        (first
          | (go_at_call 179
             (with_reducible refine (HBa.out _ hBx).mono ?_); rintro e wz ⟨A5, c5, rfl, hdi, hbz⟩
             have hBx := below_step hBx hbz (Nat.le_refl _)
             have hS' := HC.out _ hBx)
          | (go_at_call 110
             (with_reducible refine (HPt.out _ _ _ hdi hBx).mono ?_); rintro e wz ⟨A6, c6, rfl, hp6, hc6, hbz⟩
             have hBx := below_step hBx hbz (Nat.le_refl _)
             have hS' := HC.out _ hBx)))
    | fail
  all_goals
    have Hp6 := hide hp6
    go_wp2_with fail
    go_ret
    exact ⟨A6, c6, rfl, Hp6.out, hc6, hBx⟩
set_option maxHeartbeats 4000000 in
set_option maxRecDepth 100000 in
theorem refLegs_row (A3 A4 : Option Addr) (bars : List BarD) (runs : List RunD) (n3 c3 n4 c4 i : Nat) (ld : LaidD) (w : World) {B : Nat} (h3 : BarsAt w B A3 bars) (h4 : RunsAt w B A4 runs) (hB : B ≤ w.heap.size) (l3 : n3 = bars.length) (l4 : n4 = runs.length) (m3 : n3 ≤ 60000) (hok : laidOk bars runs = true) (hi : (laidAll bars runs)[i]? = some ld) :
    Calls Tryz.prog 115 #[.slice A3 n3 c3, .slice A4 n4 c4, .int .i64 i] w fun e w' => ∃ A c b0, e = .returned (.slice A (legsOfPts ld.pts).length c) ∧ Row w' b0 60 6 encB (.slice A (legsOfPts ld.pts).length c) (legsOfPts ld.pts) ∧ Below w.heap.size w w' := by
  have HP := hide (refPts_ok A3 A4 bars runs n3 c3 n4 c4 i ld w h3 h4 hB l3 l4 m3 hok hi)
  obtain ⟨hnear, hl1, hl7⟩ := laid_near runs i ld (laidOk_mem hok).2.2 hi
  obtain ⟨bar, pts⟩ := ld
  simp only at HP hl1 hl7 ⊢
  obtain ⟨n, hn⟩ : ∃ n, n = pts.length := ⟨_, rfl⟩
  rw [← hn] at HP hl1 hl7
  have Hn := hide hn
  clear h3 h4 hB l3 l4 m3 hok hi hnear hn
  go_enter Tryz.func115, Tryz.ntmps115
  go_wp2_with fail
  refine HP.out.mono ?_
  rintro e w1 ⟨A, c, rfl, hp, hcp, hb1⟩
  have Hp := hide hp
  have Hb1 := hide hb1
  clear HP hp hb1
  go_wp2_with fail
  go_loopw [8, 9] (fun v iv wr => ∃ k : Nat, k + 1 ≤ n ∧ iv = .int .i64 ((k : Int) + 1) ∧ (∃ acc : List BoxD, Row wr w1.heap.size 60 6 encB v acc ∧ Hid (acc = (legsOfPts pts).take k)) ∧ Below w1.heap.size w1 wr) (fun _ iv _ => n - (intOf iv).toNat)
  case atStart => exact ⟨0, hl1, rfl, ⟨[], Row.nil _ _ _ _ _, hide rfl⟩, Below.refl _ _⟩
  case round =>
    obtain ⟨k, hk, rfl, ⟨acc, hrow, hacc⟩, hbr⟩ := hrel
    obtain ⟨A0, c0, rfl⟩ := hrow.val
    have hal : acc.length ≤ 1000 := by rw [hacc.out, List.length_take]; omega
    have Hrow := hide hrow
    clear hrow
    by_cases hlt : k + 1 < n
    · obtain ⟨b, off, p, hA, hbl, hx, e3, e4, e5⟩ := PtsAt.get (k := k) (Hp.out.carry (Flat.carried _) hbr hbr.size) (by rw [← Hn.out]; omega)
      obtain ⟨b', off', q, hA', hbl', hy, e0, e1, e2⟩ := PtsAt.get (k := k + 1) (Hp.out.carry (Flat.carried _) hbr hbr.size) (by rw [← Hn.out]; exact hlt)
      clear hA' hbl' e0 e1 e2 e3 e4 e5
      subst hA
      have hsub : k + 1 + 1 - k = 2 := by omega
      have HHu := hide (fun (W : World) (hz : Below w1.heap.size w1 W) => refHull2_any (some ⟨b, off + k * 3, none⟩) p q (c - k) W (pts_pair (Hp.out.carry (Flat.carried _) hz (Nat.le_refl _)) hx hy) hz.size)
      have Hn2 := hide (show (legsOfPts pts).take (k + 1) = acc ++ [legBox p q] by rw [take_snoc' (legsOfPts_at pts k p q hx hy), hacc.out])
      have z1 : IntKind.i64.wrap ((k : Int) + 1 - 1) = (k : Int) := by rw [Int.add_sub_cancel]; exact IntWalk.i64_in _ (by omega)
      have z2 : IntKind.i64.wrap (k : Int) = (k : Int) := IntWalk.i64_in _ (by omega)
      have z3 : IntKind.i64.wrap ((k : Int) + 1 + 1) = (k : Int) + 1 + 1 := IntWalk.i64_in _ (by omega)
      have HB := hide hbr
      have hkc : k + 1 + 1 ≤ c := by omega
      clear hx hy hbl hbr
      go_wp2_with fail
      refine (HHu.out _ HB.out).mono ?_
      rintro e w3 ⟨rfl, hb3⟩
      have HB3 := hide (below_step HB.out hb3 (Nat.le_refl _))
      have Hrow3 := hide (Hrow.out.keep hb3)
      generalize legBox p q = lb at *
      obtain ⟨⟨x1, x2, x3⟩, x4, x5, x6⟩ := lb
      have hs3 := HB3.out.size
      clear hb3 HHu
      go_wp2_with (at_builtin; refine wpList_append1 rfl (.tmp 20) (.tmp 28) 22 rfl w1.heap.size 60 (.agg #[.int .i64 0, .int .i64 0, .int .i64 0, .int .i64 0, .int .i64 0, .int .i64 0]) 6 48 encB Tryz.underlying22 (by kernel_rfl) rfl (by omega) encB_len encB_one _ acc ⟨(x1, x2, x3), (x4, x5, x6)⟩ rfl (Hrow3.out.alloc _) _ rfl (Blk.new w3 _ _) (by omega) (by omega) (le_alloc hs3 _) ?_; intro A1 c1 w6 hrow6 hb6 _)
      go_roundw
      case rel => exact ⟨k + 1, by omega, by go_num, ⟨acc ++ [⟨(x1, x2, x3), (x4, x5, x6)⟩], by simpa using hrow6, hide Hn2.out.symm⟩, (HB3.out.alloc hs3 _).trans hb6⟩
      case measure => simp [intOf]; omega
    · have hk9 : k + 1 = n := by omega
      have hf : acc = legsOfPts pts := by
        rw [hacc.out]
        exact List.take_of_length_le (by rw [legsOfPts_len, ← Hn.out]; omega)
      have hlen := hide (show (legsOfPts pts).length = acc.length by rw [hf])
      have Hr := hide (show Row wr w1.heap.size 60 6 encB (.slice A0 acc.length c0) (legsOfPts pts) by rw [← hf]; exact Hrow.out)
      have Hb := hide (below_step Hb1.out hbr (Nat.le_refl _))
      clear hf hacc Hrow hbr
      generalize acc.length = m at *
      go_wp2_with fail
      go_ret
      exact ⟨A0, c0, w1.heap.size, by rw [hlen.out]; rfl, by rw [hlen.out]; exact Hr.out, Hb.out⟩
theorem refLegs_ok (A3 A4 : Option Addr) (bars : List BarD) (runs : List RunD) (n3 c3 n4 c4 i : Nat) (ld : LaidD) (w : World) {B : Nat} (h3 : BarsAt w B A3 bars) (h4 : RunsAt w B A4 runs) (hB : B ≤ w.heap.size) (l3 : n3 = bars.length) (l4 : n4 = runs.length) (m3 : n3 ≤ 60000) (hok : laidOk bars runs = true) (hi : (laidAll bars runs)[i]? = some ld) :
    Calls Tryz.prog 115 #[.slice A3 n3 c3, .slice A4 n4 c4, .int .i64 i] w fun e w' => ∃ A c, e = .returned (.slice A (legsOfPts ld.pts).length c) ∧ BoxesAt w' w'.heap.size A (legsOfPts ld.pts) ∧ Below w.heap.size w w' := by
  refine (refLegs_row A3 A4 bars runs n3 c3 n4 c4 i ld w h3 h4 hB l3 l4 m3 hok hi).mono ?_
  rintro e w' ⟨A, c, b0, he, hr, hb⟩
  exact ⟨A, c, he, Row.read hr encB_len (by omega), hb⟩
/-- The main leg as the reference gives it. -/
def mainT (o : Option BoxD) : Array Value := match o with
  | some b => #[bxV b, .bool true]
  | none => #[.agg #[.int .i64 0, .int .i64 0, .int .i64 0, .int .i64 0, .int .i64 0, .int .i64 0], .bool false]
set_option maxHeartbeats 4000000 in
set_option maxRecDepth 100000 in
theorem refMain25_ok (x : DetD) (s : DetS) (i : Nat) (ld : LaidD) (w : World) {B : Nat} (h : DetAt w B x s) (hB : B ≤ w.heap.size) (hf : DetFit x s) (hok : laidOk x.bars x.runs = true) (hi : (laidAll x.bars x.runs)[i]? = some ld) :
    Calls Tryz.prog 74 #[detV x s, .int .i64 i] w fun e w' => e = .returned (.tuple (mainT (mainLeg ld))) ∧ Below w.heap.size w w' := by
  have HL := hide (fun (W : World) (hz : Below w.heap.size w W) => refLegs_ok s.a3 s.a4 x.bars x.runs s.n3 s.c3 s.n4 s.c4 i ld W (h.h3.carry (hz.mono hB) (Nat.le_refl _)) (h.h4.carry (Flat.carried _) (hz.mono hB) (Nat.le_refl _)) (Nat.le_trans hB hz.size) hf.l3 hf.l4 hf.m3 hok hi)
  have hl6 : (legsOfPts ld.pts).length ≤ 60000 := by
    obtain ⟨_, hl1, hl7⟩ := laid_near x.runs i ld (laidOk_mem hok).2.2 hi
    rw [legsOfPts_len]
    omega
  have Hml := hide (show mainLeg ld = (legsOfPts ld.pts).find? isMain from rfl)
  generalize legsOfPts ld.pts = LG at *
  obtain ⟨ml, hml⟩ : ∃ ml, ml = mainLeg ld := ⟨_, rfl⟩
  rw [← hml] at Hml ⊢
  have K0 := hide ((Blk.new w 34 (detCells x.mem x.rule s)).alloc (.cells #[.int .i64 0, .int .i64 0, .int .i64 0, .int .i64 0, .int .i64 0, .int .i64 0] 60))
  have KB := hide (Blk.new1 w (.cells (detCells x.mem x.rule s) 34) 60 #[.int .i64 0, .int .i64 0, .int .i64 0, .int .i64 0, .int .i64 0, .int .i64 0])
  have HW := hide (below_new2 w (.cells (detCells x.mem x.rule s) 34) (.cells #[.int .i64 0, .int .i64 0, .int .i64 0, .int .i64 0, .int .i64 0, .int .i64 0] 60))
  obtain ⟨mem, bars, runs, laps, dems, rule⟩ := x
  obtain ⟨a1, n1, c1, a2, n2, c2, a3, n3, c3, a4, n4, c4, a5, n5, c5, a6, n6, c6⟩ := s
  obtain ⟨name, boxes, holes, cover, agg, poker⟩ := mem
  obtain ⟨r1, r2, r3, r4, r5, r6, r7, r8, r9⟩ := rule
  simp only [detCells] at K0 KB HW
  simp only at HL
  have e6 := K0.out.cell 6
  have e7 := K0.out.cell 7
  simp at e6 e7
  clear h hf hB hok hi hml
  show Calls Tryz.prog 74 #[.agg #[.string name, .slice a1 n1 c1, .slice a2 n2 c2, .int .i64 cover, .int .i64 agg, .int .i64 poker, .slice a3 n3 c3, .slice a4 n4 c4, .slice a5 n5 c5, .slice a6 n6 c6, .int .i64 r1, .int .i64 r2, .int .i64 r3, .int .i64 r4, .int .i64 r5, .int .i64 r6, .int .i64 r7, .int .i64 r8, .int .i64 r9], .int .i64 i] w _
  go_enter Tryz.func74, Tryz.ntmps74
  go_wp2_with fail
  refine (HL.out _ HW.out).mono ?_
  rintro e w1 ⟨A1, c1', rfl, hlg, hb1⟩
  have KB := hide (KB.out.keep hb1)
  have HW1 := hide (below_step HW.out hb1 (Nat.le_refl _))
  have HLG := hide hlg
  have HM := hide (refMainLeg_any A1 LG LG.length c1' w1 hlg (Nat.le_refl _) rfl hl6)
  clear hlg hb1 HL HW K0 e6 e7
  go_wp2_with fail
  refine HM.out.mono ?_
  rintro e w2 ⟨rfl, hb2⟩
  have KB := hide (KB.out.keep hb2)
  have HW2 := hide (below_step HW1.out hb2 (Nat.le_refl _))
  have HLG := hide (HLG.out.carry (Flat.carried _) hb2 hb2.size)
  clear hb2 HM HW1
  have u0 := KB.out.cell 0
  have v0 := KB.out.frozen 0
  have u1 := KB.out.cell 1
  have v1 := KB.out.frozen 1
  have u2 := KB.out.cell 2
  have v2 := KB.out.frozen 2
  have u3 := KB.out.cell 3
  have v3 := KB.out.frozen 3
  have u4 := KB.out.cell 4
  have v4 := KB.out.frozen 4
  have u5 := KB.out.cell 5
  have v5 := KB.out.frozen 5
  simp at u0 u1 u2 u3 u4 u5
  have lk := KB.out.lt
  have hrg := idx_range isMain LG
  by_cases hneg : idx isMain LG < 0
  · have d0 : decide (idx isMain LG < 0) = true := by simpa using hneg
    have Hn := hide (show ml = none by
      rw [Hml.out, List.find?_eq_none]
      intro z hz hm
      have h1 := idx_any isMain LG
      rw [List.any_eq_true.2 ⟨z, hz, hm⟩, decide_eq_true_eq] at h1
      omega)
    generalize idx isMain LG = ix at *
    clear Hml hrg hneg
    go_wp2_with fail
    refine bodyPost_ret (results_ct rfl rfl ((((((KB.out.set_ 0 _).set_ 1 _).set_ 2 _).set_ 3 _).set_ 4 _).set_ 5 _) Tryz.underlying60 rfl (by kernel_rfl)) rfl ?_
    refine ⟨?_, ((((((HW2.out.setCell (p := ⟨w.heap.size + 1, 0, none⟩) (Nat.le_succ _) _).setCell (p := ⟨w.heap.size + 1, 1, none⟩) (Nat.le_succ _) _).setCell (p := ⟨w.heap.size + 1, 2, none⟩) (Nat.le_succ _) _).setCell (p := ⟨w.heap.size + 1, 3, none⟩) (Nat.le_succ _) _).setCell (p := ⟨w.heap.size + 1, 4, none⟩) (Nat.le_succ _) _).setCell (p := ⟨w.heap.size + 1, 5, none⟩) (Nat.le_succ _) _)⟩
    simp only [List.setIfInBounds_toArray, List.set_cons_zero, List.set_cons_succ]
    rw [Hn.out]
    rfl
  · obtain ⟨j, hj⟩ := Int.eq_ofNat_of_zero_le (show 0 ≤ idx isMain LG by omega)
    obtain ⟨y, hy, hp, hno⟩ := idx_spec hj
    have Hn := hide (show ml = some y by rw [Hml.out]; exact NoneTo.find hno hy hp)
    obtain ⟨b, off, y', rfl, hbl, hy', f0, f1, f2, f3, f4, f5⟩ := BoxesAt.get (k := j) HLG.out (lt_of_get hy)
    rw [hy] at hy'
    injection hy' with hy'
    subst hy'
    have d0 : decide ((j : Int) < 0) = false := by simp
    have hjl : j < LG.length := lt_of_get hy
    rw [hj]
    obtain ⟨⟨y1, y2, y3⟩, y4, y5, y6⟩ := y
    simp only at f0 f1 f2 f3 f4 f5
    generalize LG.length = ln at *
    clear Hml hrg hneg hj hy hp hno
    go_wp2_with fail
    refine bodyPost_ret (results_ct rfl rfl ((((((KB.out.set_ 0 _).set_ 1 _).set_ 2 _).set_ 3 _).set_ 4 _).set_ 5 _) Tryz.underlying60 rfl (by kernel_rfl)) rfl ?_
    refine ⟨?_, ((((((HW2.out.setCell (p := ⟨w.heap.size + 1, 0, none⟩) (Nat.le_succ _) _).setCell (p := ⟨w.heap.size + 1, 1, none⟩) (Nat.le_succ _) _).setCell (p := ⟨w.heap.size + 1, 2, none⟩) (Nat.le_succ _) _).setCell (p := ⟨w.heap.size + 1, 3, none⟩) (Nat.le_succ _) _).setCell (p := ⟨w.heap.size + 1, 4, none⟩) (Nat.le_succ _) _).setCell (p := ⟨w.heap.size + 1, 5, none⟩) (Nat.le_succ _) _)⟩
    simp only [List.setIfInBounds_toArray, List.set_cons_zero, List.set_cons_succ]
    rw [Hn.out]
    rfl
end Go.Proofs.YtmcjpdlkkpnhfaaGreatDoor
namespace Go.Proofs.YtmcjpdlkkpnhfaaGreatDoor
open Go.RowKit

theorem runs_at {bars : List BarD} {l : List RunD} {k : Nat} {r : RunD} (h : l[k]? = some r) : (l.drop k).all (runOk bars) = (runOk bars r && (l.drop (k + 1)).all (runOk bars)) := all_at h
set_option maxHeartbeats 4000000 in
theorem refLaid_any (A3 A4 : Option Addr) (bars : List BarD) (runs : List RunD) (n3 c3 n4 c4 : Nat) (w : World) {B : Nat} (h3 : BarsAt w B A3 bars) (h4 : RunsAt w B A4 runs) (hB : B ≤ w.heap.size) (l3 : n3 = bars.length) (l4 : n4 = runs.length) (m3 : n3 ≤ 60000) (htame : Tame bars) :
    Calls Tryz.prog 41 #[.slice A3 n3 c3, .slice A4 n4 c4] w fun e w' => e = .returned (.bool (laidOk bars runs)) ∧ Below w.heap.size w w' := by
  have HV := hide (refSchedValid_any A3 bars n3 c3 w h3 hB l3 htame m3)
  have hr := hide (laidOk_ref bars runs)
  cases hs : schedOk bars
  · rw [hs] at HV hr
    generalize laidOk bars runs = res at *
    clear h3 h4 hB l3 l4 m3 htame hs
    go_enter Tryz.func41, Tryz.ntmps41
    go_wp2_with fail
    refine HV.out.mono ?_
    rintro e w1 ⟨rfl, hb⟩
    have HW := hide hb
    clear hb HV
    go_wp2_with fail
    go_ret
    exact ⟨ret_bool (by rw [hr.out]; rfl), HW.out⟩
  rw [hs] at HV hr
  have hbar := schedOk_bars hs
  by_cases hlen : 60 < n4
  · have d0 : decide (60 < (n4 : Int)) = true := by simp; omega
    have hr := hide (show laidOk bars runs = false by rw [hr.out, decide_eq_false (by omega)]; rfl)
    generalize laidOk bars runs = res at *
    clear h3 h4 hB l3 l4 m3 htame hs hbar hlen
    go_enter Tryz.func41, Tryz.ntmps41
    go_wp2_with fail
    refine HV.out.mono ?_
    rintro e w1 ⟨rfl, hb⟩
    have HW := hide hb
    clear hb HV
    go_wp2_with fail
    go_ret
    exact ⟨ret_bool hr.out.symm, HW.out⟩
  have d0 : decide (60 < (n4 : Int)) = false := by simp; omega
  have hn60 : n4 ≤ 60 := by omega
  have hr := hide (show laidOk bars runs = ((runs.drop 0).all (runOk bars) && decide (countRuns runs ≤ 2000)) by rw [hr.out, decide_eq_true (by omega)]; rfl)
  have HR := hide (fun (r : RunD) (W : World) (hz : Below w.heap.size w W) => refRun_any A3 bars n3 c3 r W (h3.carry (hz.mono hB) (Nat.le_refl _)) (Nat.le_trans hB hz.size) l3 m3 hbar)
  have HC := hide (fun (hok : ∀ r ∈ runs, 1 ≤ r.count ∧ r.count ≤ 1000) (W : World) (hz : Below w.heap.size w W) => count16_any A4 runs n4 c4 W (h4.carry (Flat.carried _) (hz.mono hB) (Nat.le_refl _)) (Nat.le_trans hB hz.size) l4 hn60 hok)
  have H4 := hide h4
  have L4 := hide l4
  have HB := hide hB
  generalize laidOk bars runs = res at *
  clear h3 h4 hB l3 l4 m3 htame hs hbar hlen
  go_enter Tryz.func41, Tryz.ntmps41
  go_wp2_with fail
  refine HV.out.mono ?_
  rintro e w1 ⟨rfl, hb⟩
  have HW := hide hb
  clear hb HV
  go_wp2_with fail
  go_loopw [5] (fun i wr => ∃ k : Nat, k ≤ n4 ∧ i = .int .i64 k ∧ Hid ((runs.drop 0).all (runOk bars) = (runs.drop k).all (runOk bars)) ∧ Hid (∀ r ∈ runs.take k, runOk bars r = true) ∧ Hid (Below w.heap.size w wr)) (fun i _ => n4 - (intOf i).toNat)
  case atStart => exact ⟨0, Nat.zero_le _, rfl, hide rfl, hide (by simp), HW⟩
  case round =>
    clear HW
    obtain ⟨k, hk, rfl, hq, hp, hbr⟩ := hrel
    by_cases hlt : k < n4
    · obtain ⟨b, off, r, rfl, hbl, hx, hc⟩ := RunsAt.get (k := k) (H4.out.carry (Flat.carried _) (hbr.out.mono HB.out) (Nat.le_refl _)) (by rw [← L4.out]; exact hlt)
      have Hq := hide (hq.out.trans (runs_at hx))
      have HT := HR.out r _ hbr.out
      obtain ⟨a, ha⟩ : ∃ a, a = runOk bars r := ⟨_, rfl⟩
      rw [← ha] at HT Hq
      have HT := hide HT
      have Hp := hide (fun (h1 : a = true) => show ∀ r ∈ runs.take (k + 1), runOk bars r = true by
        rw [take_snoc' hx]
        intro z hz
        rcases List.mem_append.1 hz with h | h
        · exact hp.out z h
        · obtain rfl := List.mem_singleton.1 h; rw [← ha]; exact h1)
      obtain ⟨mark, tx, ty, ⟨a1, a2, a3⟩, ⟨s1, s2, s3⟩, cnt⟩ := r
      have e0 := hc 0 _ rfl
      have e1 := hc 1 _ rfl
      have e2 := hc 2 _ rfl
      have e3 := hc 3 _ rfl
      have e4 := hc 4 _ rfl
      have e5 := hc 5 _ rfl
      have e6 := hc 6 _ rfl
      have e7 := hc 7 _ rfl
      have e8 := hc 8 _ rfl
      have e9 := hc 9 _ rfl
      simp only [Nat.add_zero] at e0 e1 e2 e3 e4 e5 e6 e7 e8 e9
      clear hx hbl hc hq hp ha
      go_wp2_with fail
      refine HT.out.mono ?_
      rintro e w2 ⟨rfl, hb⟩
      have Hbr := hide (below_step hbr.out hb (Nat.le_refl _))
      clear hb HT e0 e1 e2 e3 e4 e5 e6 e7 e8 e9
      cases a
      · go_wp2_with fail
        go_ret
        exact ⟨ret_bool (by rw [hr.out, Hq.out]; rfl), Hbr.out⟩
      · go_wp2_with fail
        go_roundw
        case rel => exact ⟨k + 1, by omega, by go_num, hide (by rw [Hq.out]; rfl), hide (Hp.out (by simp)), Hbr⟩
        case measure => simp [intOf]; omega
    · obtain rfl : k = n4 := by omega
      have hall : ∀ r ∈ runs, runOk bars r = true := by have := hp.out; rwa [L4.out, List.take_length] at this
      have HCo := hide (HC.out (fun r hr => runOk_count (hall r hr)) _ hbr.out)
      have Hr := hide (show res = decide (countRuns runs ≤ 2000) by
        rw [hr.out, hq.out, List.drop_of_length_le (by rw [← L4.out]; exact Nat.le_refl _)]; rfl)
      generalize countRuns runs = t at *
      clear hall hq hp hr HC
      go_wp2_with fail
      refine HCo.out.mono ?_
      rintro e w2 ⟨rfl, hb⟩
      have Hbr := hide (below_step hbr.out hb (Nat.le_refl _))
      clear hb HCo
      go_wp2_with fail
      go_ret
      exact ⟨ret_bool Hr.out.symm, Hbr.out⟩
end Go.Proofs.YtmcjpdlkkpnhfaaGreatDoor
namespace Go.Proofs.YtmcjpdlkkpnhfaaGreatDoor
open Go.RowKit

theorem still_load_row {P : Program} {ops : Array Oper} {rest : List Oper} {o : Oper} {a : Act} {w : World} {Q : Act → Prop} (hgd : o.guard = none) (ty : TypeId) (x : Operand) (ho : o.op = .load ty x)
    (g : Nat) (hx : a.eval x = .pointer (some ⟨g, 0, none⟩)) (t : TypeId) (cs : Array Value) (fr : Nat × Nat) (d : TypeDesc) (hg : w.heap[g]? = some (.cells cs t fr))
    (hu : P.underlying ty = some d) (hd : (match d with | .struct _ | .array _ _ => true | _ => false) = true) (hi : (P.info? ty).map (·.size) = some cs.size)
    (h : wpStill P ops w Q rest (a.put o.dst (.agg cs))) : wpStill P ops w Q (o :: rest) a := by
  have hw : Region.wanted o (yielded ops a.tmps) = true := by simp [Region.wanted, hgd]
  show if _ then _ else _
  rw [if_pos hw]
  unfold Oper.still execOp
  simp only [ho, hx, Instr.loadAt, Instr.sureAddr, Sem.run_bind, Sem.run_pure, Result.andThen_ok, run_loadVar_row w g t ty cs fr d hg hu hd hi, Oper.stillUpon]
  exact ⟨trivial, h⟩
def legI (o : Option BoxD) : BoxD := o.getD ⟨(0, 0, 0), (0, 0, 0)⟩
theorem mainT_eq (o : Option BoxD) : mainT o = #[bxV (legI o), .bool o.isSome] := by cases o <;> rfl
def lapLegs (a b : Option BoxD) : Bool := a.isSome && (b.isSome && (decide ((legI a).lo.1 < (legI b).lo.1) && (decide ((legI a).hi.1 < (legI b).hi.1) && decide ((legI b).lo.1 ≤ (legI a).hi.1))))
theorem lapsFit_in {ms : List (Option BoxD)} {j : JoinD} {p q : Nat} (hp : j.first = p) (hq : j.second = q) {a b : Option BoxD} (ha : ms[p]? = some a) (hb : ms[q]? = some b) : lapsFit ms j = lapLegs a b := by
  have h1 := lt_of_get ha
  have h2 := lt_of_get hb
  rw [lapsFit, hp, hq, decide_eq_true (show (0 : Int) ≤ (p : Int) by omega), decide_eq_true (show (0 : Int) ≤ (q : Int) by omega), decide_eq_true (show (p : Int) < (ms.length : Nat) by omega), decide_eq_true (show (q : Int) < (ms.length : Nat) by omega)]
  simp only [Int.toNat_natCast, List.getD_eq_getElem?_getD, ha, hb, Option.getD_some]
  cases a <;> cases b <;> simp [lapLegs, legI, Bool.and_assoc] <;> rfl
theorem lapsFit_out {ms : List (Option BoxD)} {j : JoinD} (h : j.first < 0 ∨ (ms.length : Int) ≤ j.first ∨ j.second < 0 ∨ (ms.length : Int) ≤ j.second) : lapsFit ms j = false := by
  rw [lapsFit]
  rcases h with h | h | h | h
  · rw [decide_eq_false (show ¬ (0 : Int) ≤ j.first by omega)]; simp
  · rw [decide_eq_false (show ¬ j.first < (ms.length : Nat) by omega)]; simp
  · rw [decide_eq_false (show ¬ (0 : Int) ≤ j.second by omega)]; simp
  · rw [decide_eq_false (show ¬ j.second < (ms.length : Nat) by omega)]; simp
set_option maxHeartbeats 4000000 in
theorem refCount25_ok (x : DetD) (s : DetS) (w : World) {B : Nat} (h : DetAt w B x s) (hB : B ≤ w.heap.size) (hf : DetFit x s) (hok : laidOk x.bars x.runs = true) :
    Calls Tryz.prog 73 #[detV x s] w fun e w' => e = .returned (.int .i64 (countRuns x.runs)) ∧ Below w.heap.size w w' := by
  obtain ⟨_, hlen, hruns⟩ := laidOk_mem hok
  have l4 := hf.l4
  have HC := hide (fun (W : World) (hz : Below w.heap.size w W) => count16_any s.a4 x.runs s.n4 s.c4 W (h.h4.carry (Flat.carried _) (hz.mono hB) (Nat.le_refl _)) (Nat.le_trans hB hz.size) hf.l4 (by omega) (fun r hr => runOk_count (hruns r hr)))
  have K0 := hide (Blk.new w 34 (detCells x.mem x.rule s))
  have HW := hide (below_new w (.cells (detCells x.mem x.rule s) 34))
  generalize countRuns x.runs = t at *
  obtain ⟨mem, bars, runs, laps, dems, rule⟩ := x
  obtain ⟨a1, n1, c1, a2, n2, c2, a3, n3, c3, a4, n4, c4, a5, n5, c5, a6, n6, c6⟩ := s
  obtain ⟨name, boxes, holes, cover, agg, poker⟩ := mem
  obtain ⟨r1, r2, r3, r4, r5, r6, r7, r8, r9⟩ := rule
  simp only [detCells] at K0 HW
  simp only at HC
  have e7 := K0.out.cell 7
  simp at e7
  have lk := K0.out.lt
  clear h hf hB hok hruns hlen l4
  show Calls Tryz.prog 73 #[.agg #[.string name, .slice a1 n1 c1, .slice a2 n2 c2, .int .i64 cover, .int .i64 agg, .int .i64 poker, .slice a3 n3 c3, .slice a4 n4 c4, .slice a5 n5 c5, .slice a6 n6 c6, .int .i64 r1, .int .i64 r2, .int .i64 r3, .int .i64 r4, .int .i64 r5, .int .i64 r6, .int .i64 r7, .int .i64 r8, .int .i64 r9]] w _
  go_enter Tryz.func73, Tryz.ntmps73
  go_wp2_with fail
  refine (HC.out _ HW.out).mono ?_
  rintro e w2 ⟨rfl, hb2⟩
  have HW2 := hide (below_step HW.out hb2 (Nat.le_refl _))
  clear hb2 HC HW K0 e7
  go_wp2_with fail
  go_ret
  exact ⟨rfl, HW2.out⟩
set_option maxHeartbeats 8000000 in
set_option maxRecDepth 100000 in
theorem refJoint_any (x : DetD) (s : DetS) (j : JoinD) (w : World) {B : Nat} (h : DetAt w B x s) (hB : B ≤ w.heap.size) (hf : DetFit x s) (hok : laidOk x.bars x.runs = true) :
    Calls Tryz.prog 44 #[detV x s, .agg #[.int .i64 j.first, .int .i64 j.second]] w fun e w' => e = .returned (.bool (lapsFit ((laidAll x.bars x.runs).map mainLeg) j)) ∧ Below w.heap.size w w' := by
  have HC := hide (fun (W : World) (hz : Below w.heap.size w W) => refCount25_ok x s W (h.carry (hz.mono hB) (Nat.le_refl _)) (Nat.le_trans hB hz.size) hf hok)
  have HM := hide (fun (i : Nat) (ld : LaidD) (hi : (laidAll x.bars x.runs)[i]? = some ld) (W : World) (hz : Below w.heap.size w W) => refMain25_ok x s i ld W (h.carry (hz.mono hB) (Nat.le_refl _)) (Nat.le_trans hB hz.size) hf hok hi)
  have hcl := (laidOk_len hok).1
  have hcl2 := (laidOk_len hok).2
  have Hi := hide (show (Tryz.prog.info? 34).map (·.size) = some 19 by kernel_rfl)
  have K0 := hide ((Blk.new w 34 (detCells x.mem x.rule s)).alloc (.cells #[.int .i64 j.first, .int .i64 j.second] 100))
  have KJ := hide (Blk.new1 w (.cells (detCells x.mem x.rule s) 34) 100 #[.int .i64 j.first, .int .i64 j.second])
  have HW := hide (below_new2 w (.cells (detCells x.mem x.rule s) 34) (.cells #[.int .i64 j.first, .int .i64 j.second] 100))
  have Hin := hide (fun (p q : Nat) (la lb : LaidD) (hp : j.first = p) (hq : j.second = q) (ha : (laidAll x.bars x.runs)[p]? = some la) (hb : (laidAll x.bars x.runs)[q]? = some lb) => lapsFit_in (ms := (laidAll x.bars x.runs).map mainLeg) hp hq (a := mainLeg la) (b := mainLeg lb) (by simp [ha]) (by simp [hb]))
  have Hout := hide (fun (hh : j.first < 0 ∨ countRuns x.runs ≤ j.first ∨ j.second < 0 ∨ countRuns x.runs ≤ j.second) => lapsFit_out (ms := (laidAll x.bars x.runs).map mainLeg) (j := j) (by rw [List.length_map, hcl]; exact hh))
  generalize laidAll x.bars x.runs = LA at *
  obtain ⟨res, hres⟩ : ∃ res, res = lapsFit (LA.map mainLeg) j := ⟨_, rfl⟩
  rw [← hres] at Hin Hout ⊢
  generalize countRuns x.runs = t at *
  obtain ⟨f, g⟩ := j
  obtain ⟨mem, bars, runs, laps, dems, rule⟩ := x
  obtain ⟨a1, n1, c1, a2, n2, c2, a3, n3, c3, a4, n4, c4, a5, n5, c5, a6, n6, c6⟩ := s
  obtain ⟨name, boxes, holes, cover, agg, poker⟩ := mem
  obtain ⟨r1, r2, r3, r4, r5, r6, r7, r8, r9⟩ := rule
  simp only [detCells] at K0 KJ HW
  simp only at Hin Hout
  clear h hf hB hok hres
  show Calls Tryz.prog 44 #[.agg #[.string name, .slice a1 n1 c1, .slice a2 n2 c2, .int .i64 cover, .int .i64 agg, .int .i64 poker, .slice a3 n3 c3, .slice a4 n4 c4, .slice a5 n5 c5, .slice a6 n6 c6, .int .i64 r1, .int .i64 r2, .int .i64 r3, .int .i64 r4, .int .i64 r5, .int .i64 r6, .int .i64 r7, .int .i64 r8, .int .i64 r9], .agg #[.int .i64 f, .int .i64 g]] w _
  go_enter Tryz.func44, Tryz.ntmps44
  go_wp2_with (refine wpList_load_row rfl 34 (.tmp 2) rfl w.heap.size rfl 34 _ (0, 0) _ K0.out Tryz.underlying34 rfl Hi.out ?_)
  refine (HC.out _ HW.out).mono ?_
  rintro e w2 ⟨rfl, hb2⟩
  have K2 := hide (K0.out.keep hb2)
  have J2 := hide (KJ.out.keep hb2)
  have HW2 := hide (below_step HW.out hb2 (Nat.le_refl _))
  clear hb2 HC HW K0 KJ
  have e0 := J2.out.cell 0
  have e1 := J2.out.cell 1
  simp at e0 e1
  have lj := J2.out.lt
  have hways : decide (f < 0) = true ∨ (decide (f < 0) = false ∧ decide (t ≤ f) = true) ∨ (decide (f < 0) = false ∧ decide (t ≤ f) = false ∧ decide (g < 0) = true) ∨ (decide (f < 0) = false ∧ decide (t ≤ f) = false ∧ decide (g < 0) = false ∧ decide (t ≤ g) = true) ∨ (decide (f < 0) = false ∧ decide (t ≤ f) = false ∧ decide (g < 0) = false ∧ decide (t ≤ g) = false) := by
    cases decide (f < 0) <;> cases decide (t ≤ f) <;> cases decide (g < 0) <;> cases decide (t ≤ g) <;> simp
  rcases hways with q0 | ⟨q0, q1⟩ | ⟨q0, q1, q2⟩ | ⟨q0, q1, q2, q3⟩ | ⟨q0, q1, q2, q3⟩
  · have Hr := hide (Hout.out (.inl (by simpa using q0)))
    clear Hin Hout HM hcl hcl2
    go_wp2_with fail
    go_ret
    exact ⟨ret_bool Hr.out.symm, HW2.out⟩
  · have Hr := hide (Hout.out (.inr (.inl (by simpa using q1))))
    clear Hin Hout HM hcl hcl2
    go_wp2_with fail
    go_ret
    exact ⟨ret_bool Hr.out.symm, HW2.out⟩
  · have Hr := hide (Hout.out (.inr (.inr (.inl (by simpa using q2)))))
    clear Hin Hout HM hcl hcl2
    go_wp2_with fail
    go_ret
    exact ⟨ret_bool Hr.out.symm, HW2.out⟩
  · have Hr := hide (Hout.out (.inr (.inr (.inr (by simpa using q3)))))
    clear Hin Hout HM hcl hcl2
    go_wp2_with fail
    go_ret
    exact ⟨ret_bool Hr.out.symm, HW2.out⟩
  have f0 : 0 ≤ f := by simpa using q0
  have f1 : f < t := by simpa using q1
  have g0 : 0 ≤ g := by simpa using q2
  have g1 : g < t := by simpa using q3
  obtain ⟨p, rfl⟩ := Int.eq_ofNat_of_zero_le f0
  obtain ⟨q, rfl⟩ := Int.eq_ofNat_of_zero_le g0
  obtain ⟨la, hla⟩ : ∃ la, LA[p]? = some la := ⟨_, List.getElem?_eq_getElem (by omega)⟩
  obtain ⟨lb, hlb⟩ : ∃ lb, LA[q]? = some lb := ⟨_, List.getElem?_eq_getElem (by omega)⟩
  have Hr := Hin.out p q la lb rfl rfl hla hlb
  have HMa := HM.out p la hla
  have HMb := HM.out q lb hlb
  rw [mainT_eq] at HMa HMb
  unfold lapLegs at Hr
  generalize (mainLeg la).isSome = ta at *
  generalize (mainLeg lb).isSome = tb at *
  generalize legI (mainLeg la) = A at *
  generalize legI (mainLeg lb) = C at *
  obtain ⟨⟨A1, A2, A3⟩, A4, A5, A6⟩ := A
  obtain ⟨⟨C1, C2, C3⟩, C4, C5, C6⟩ := C
  simp only [bxV] at HMa HMb Hr
  have Hr := hide Hr
  have HMa := hide HMa
  have HMb := hide HMb
  have K0 := K2
  have KJ := J2
  clear Hin Hout HM hcl hcl2 hla hlb f0 f1 g0 g1 K2 J2
  go_wp2_with (refine wpList_load_row rfl 34 (.tmp 2) rfl w.heap.size rfl 34 _ (0, 0) _ K0.out Tryz.underlying34 rfl Hi.out ?_)
  refine (HMa.out _ HW2.out).mono ?_
  rintro e w3 ⟨rfl, hb3⟩
  have K0 := hide ((K0.out.keep hb3).alloc (.cells #[.int .i64 A1, .int .i64 A2, .int .i64 A3, .int .i64 A4, .int .i64 A5, .int .i64 A6] 60))
  have KJ := hide ((KJ.out.keep hb3).alloc (.cells #[.int .i64 A1, .int .i64 A2, .int .i64 A3, .int .i64 A4, .int .i64 A5, .int .i64 A6] 60))
  have KA := hide (Blk.new w3 60 #[.int .i64 A1, .int .i64 A2, .int .i64 A3, .int .i64 A4, .int .i64 A5, .int .i64 A6])
  have HW3' := below_step HW2.out hb3 (Nat.le_refl _)
  have HW3 := hide (HW3'.alloc HW3'.size (.cells #[.int .i64 A1, .int .i64 A2, .int .i64 A3, .int .i64 A4, .int .i64 A5, .int .i64 A6] 60))
  clear hb3 HMa HW2 HW3' e0 e1 lj
  have e1 := KJ.out.cell 1
  simp at e1
  have lj := KJ.out.lt
  go_wp2_with (refine wpList_load_row rfl 34 (.tmp 2) rfl w.heap.size rfl 34 _ (0, 0) _ K0.out Tryz.underlying34 rfl Hi.out ?_)
  refine (HMb.out _ HW3.out).mono ?_
  rintro e w4 ⟨rfl, hb4⟩
  have KA := hide ((KA.out.keep hb4).alloc (.cells #[.int .i64 C1, .int .i64 C2, .int .i64 C3, .int .i64 C4, .int .i64 C5, .int .i64 C6] 60))
  have KC := hide (Blk.new w4 60 #[.int .i64 C1, .int .i64 C2, .int .i64 C3, .int .i64 C4, .int .i64 C5, .int .i64 C6])
  have HW4' := below_step HW3.out hb4 (Nat.le_refl _)
  have HW4 := hide (HW4'.alloc HW4'.size (.cells #[.int .i64 C1, .int .i64 C2, .int .i64 C3, .int .i64 C4, .int .i64 C5, .int .i64 C6] 60))
  clear hb4 HMb HW3 HW4' e1 lj K0 KJ Hi
  have u0 := KA.out.cell 0
  have u3 := KA.out.cell 3
  have v0 := KC.out.cell 0
  simp at u0 u3 v0
  have v3 := KC.out.cell 3
  simp at v3
  have la' := KA.out.lt
  have lc' := KC.out.lt
  cases ta
  · go_wp2_with fail
    go_ret
    exact ⟨ret_bool (by rw [Hr.out]; rfl), HW4.out⟩
  cases tb
  · go_wp2_with fail
    go_ret
    exact ⟨ret_bool (by rw [Hr.out]; rfl), HW4.out⟩
  cases x0 : decide (A1 < C1)
  · go_wp2_with fail
    go_ret
    exact ⟨ret_bool (by rw [Hr.out, x0]; rfl), HW4.out⟩
  cases x1 : decide (A4 < C4)
  · go_wp2_with fail
    go_ret
    exact ⟨ret_bool (by rw [Hr.out, x0, x1]; rfl), HW4.out⟩
  cases x2 : decide (C1 ≤ A4)
  all_goals
    go_wp2_with fail
    go_ret
    exact ⟨ret_bool (by rw [Hr.out, x0, x1, x2]; rfl), HW4.out⟩
end Go.Proofs.YtmcjpdlkkpnhfaaGreatDoor
namespace Go.Proofs.YtmcjpdlkkpnhfaaGreatDoor
open Go.RowKit

def lapClash (j i : JoinD) : Bool := decide (i.first = j.first) || decide (i.second = j.second)
theorem lapNew_any (done : List JoinD) (j : JoinD) : lapNew done j = !done.any (lapClash j) := rfl
theorem lapsBy_at {ms : List (Option BoxD)} {l : List JoinD} {k : Nat} {j : JoinD} (h : l[k]? = some j) : lapsBy ms (l.take k) (l.drop k) = (lapsFit ms j && (lapNew (l.take k) j && lapsBy ms (l.take (k + 1)) (l.drop (k + 1)))) := by
  rw [drop_at' h, lapsBy, take_snoc' h, Bool.and_assoc]
theorem lapNew_true {l : List JoinD} {j : JoinD} {k : Nat} (h : NoneTo (lapClash j) l k) : lapNew (l.take k) j = true := by
  rw [lapNew_any]
  have : (l.take k).any (lapClash j) = false := by
    rw [List.any_eq_false]
    intro z hz
    obtain ⟨u, hu, rfl⟩ := List.getElem_of_mem hz
    rw [List.length_take] at hu
    rw [h u (l.take k)[u] (by omega) (by rw [List.getElem_take]; exact List.getElem?_eq_getElem (by omega))]
    simp
  rw [this]
  rfl
theorem lapNew_false {l : List JoinD} {i j : JoinD} {k t : Nat} (ht : t < k) (hi : l[t]? = some i) (hc : lapClash j i = true) : lapNew (l.take k) j = false := by
  rw [lapNew_any]
  have : (l.take k).any (lapClash j) = true := by
    rw [List.any_eq_true]
    refine ⟨i, ?_, hc⟩
    have : (l.take k)[t]? = some i := by rw [List.getElem?_take_of_lt ht]; exact hi
    exact mem_of_get this
  rw [this]
  rfl
set_option maxHeartbeats 8000000 in
set_option maxRecDepth 100000 in
theorem refValid25_any (x : DetD) (s : DetS) (w : World) {B : Nat} (h : DetAt w B x s) (hB : B ≤ w.heap.size) (hf : DetFit x s) (hd : ∀ d ∈ x.dems, d.name.size ≤ maxLen ∧ d.steps.length ≤ 60000) :
    Calls Tryz.prog 18 #[detV x s] w fun e w' => e = .returned (.bool (detOk x)) ∧ Below w.heap.size w w' := by
  have H1 := hide (fun (W : World) (hz : Below w.heap.size w W) => refMember_any x.mem s.a1 s.a2 s.n1 s.n2 s.c1 s.c2 W (h.h1.carry (Flat.carried _) (hz.mono hB) (Nat.le_refl _)) (h.h2.carry (Flat.carried _) (hz.mono hB) (Nat.le_refl _)) (Nat.le_trans hB hz.size) hf.l1 hf.l2 hf.name)
  have H2 := hide (fun (W : World) (hz : Below w.heap.size w W) => refLaid_any s.a3 s.a4 x.bars x.runs s.n3 s.c3 s.n4 s.c4 W (h.h3.carry (hz.mono hB) (Nat.le_refl _)) (h.h4.carry (Flat.carried _) (hz.mono hB) (Nat.le_refl _)) (Nat.le_trans hB hz.size) hf.l3 hf.l4 hf.m3 hf.tame)
  have H3 := hide (fun (W : World) (hz : Below w.heap.size w W) => refDems_any s.a6 x.dems s.n6 s.c6 W (SlOf.carry demR_carried h.h6 (hz.mono hB) (Nat.le_refl _)) (Nat.le_trans hB hz.size) hf.l6 hf.m6 hd)
  have H4 := hide (fun (W : World) => refRule_any x.rule W)
  have HJ := fun (hok : laidOk x.bars x.runs = true) (j : JoinD) (W : World) (hz : Below w.heap.size w W) => refJoint_any x s j W (h.carry (hz.mono hB) (Nat.le_refl _)) (Nat.le_trans hB hz.size) hf hok
  have Hr := hide (detOk_ref x)
  have HL := hide h.h5
  have L5 := hide hf.l5
  have HB := hide hB
  have m5 := hf.m5
  have Hi := hide (show (Tryz.prog.info? 34).map (·.size) = some 19 by kernel_rfl)
  have K0 := hide (Blk.new w 34 (detCells x.mem x.rule s))
  have HW := hide (below_new w (.cells (detCells x.mem x.rule s) 34))
  obtain ⟨b1, hb1⟩ : ∃ b, b = memOk x.mem := ⟨_, rfl⟩
  obtain ⟨b2, hb2⟩ : ∃ b, b = laidOk x.bars x.runs := ⟨_, rfl⟩
  obtain ⟨b3, hb3⟩ : ∃ b, b = demsOk x.dems := ⟨_, rfl⟩
  obtain ⟨b4, hb4⟩ : ∃ b, b = ruleOk x.rule := ⟨_, rfl⟩
  rw [← hb1, ← hb2, ← hb3, ← hb4] at Hr
  rw [← hb1] at H1
  rw [← hb2] at H2 HJ
  rw [← hb3] at H3
  rw [← hb4] at H4
  have HJ := hide HJ
  generalize (laidAll x.bars x.runs).map mainLeg = ms at *
  generalize detOk x = res at *
  obtain ⟨mem, bars, runs, laps, dems, rule⟩ := x
  obtain ⟨a1, n1, c1, a2, n2, c2, a3, n3, c3, a4, n4, c4, a5, n5, c5, a6, n6, c6⟩ := s
  obtain ⟨name, boxes, holes, cover, agg, poker⟩ := mem
  obtain ⟨r1, r2, r3, r4, r5, r6, r7, r8, r9⟩ := rule
  simp only [detCells] at K0 HW
  simp only at H1 H2 H3 H4 HL L5 m5 Hr
  clear h hf hd hB hb1 hb2 hb3 hb4
  show Calls Tryz.prog 18 #[.agg #[.string name, .slice a1 n1 c1, .slice a2 n2 c2, .int .i64 cover, .int .i64 agg, .int .i64 poker, .slice a3 n3 c3, .slice a4 n4 c4, .slice a5 n5 c5, .slice a6 n6 c6, .int .i64 r1, .int .i64 r2, .int .i64 r3, .int .i64 r4, .int .i64 r5, .int .i64 r6, .int .i64 r7, .int .i64 r8, .int .i64 r9]] w _
  go_enter Tryz.func18, Tryz.ntmps18
  go_wp2_with fail
  refine (H1.out _ HW.out).mono ?_
  rintro e w2 ⟨rfl, hb2⟩
  have K0 := hide (K0.out.keep hb2)
  have HW := hide (below_step HW.out hb2 (Nat.le_refl _))
  clear hb2
  cases b1
  · go_wp2_with fail
    go_ret
    exact ⟨ret_bool (by rw [Hr.out]; rfl), HW.out⟩
  have e6 := K0.out.cell 6
  have e7 := K0.out.cell 7
  simp at e6 e7
  go_wp2_with fail
  refine (H2.out _ HW.out).mono ?_
  rintro e w2 ⟨rfl, hb2⟩
  have K0 := hide (K0.out.keep hb2)
  have HW := hide (below_step HW.out hb2 (Nat.le_refl _))
  clear hb2
  clear e6 e7
  cases b2
  · go_wp2_with fail
    go_ret
    exact ⟨ret_bool (by rw [Hr.out]; rfl), HW.out⟩
  have HJJ := hide (HJ.out rfl)
  clear HJ
  have e9 := K0.out.cell 9
  simp at e9
  go_wp2_with fail
  refine (H3.out _ HW.out).mono ?_
  rintro e w2 ⟨rfl, hb2⟩
  have K0 := hide (K0.out.keep hb2)
  have HW := hide (below_step HW.out hb2 (Nat.le_refl _))
  clear hb2
  clear e9
  cases b3
  · go_wp2_with fail
    go_ret
    exact ⟨ret_bool (by rw [Hr.out]; rfl), HW.out⟩
  have e10 := K0.out.cell 10
  have e11 := K0.out.cell 11
  have e12 := K0.out.cell 12
  have e13 := K0.out.cell 13
  have e14 := K0.out.cell 14
  have e15 := K0.out.cell 15
  have e16 := K0.out.cell 16
  have e17 := K0.out.cell 17
  have e18 := K0.out.cell 18
  simp at e10 e11 e12 e13 e14 e15 e16 e17 e18
  go_wp2_with fail
  refine (H4.out _).mono ?_
  rintro e w2 ⟨rfl, hb2⟩
  have K0 := hide (K0.out.keep hb2)
  have HW := hide (below_step HW.out hb2 (Nat.le_refl _))
  clear hb2
  clear e10 e11 e12 e13 e14 e15 e16 e17 e18
  cases b4
  · go_wp2_with fail
    go_ret
    exact ⟨ret_bool (by rw [Hr.out]; rfl), HW.out⟩
  have e8 := K0.out.cell 8
  simp at e8
  by_cases hlen : 1000 < n5
  · have d0 : decide (1000 < (n5 : Int)) = true := by simp; omega
    have Hr := hide (show res = false by rw [Hr.out, decide_eq_false (show ¬ laps.length ≤ 1000 by rw [← L5.out]; omega)]; rfl)
    go_wp2_with fail
    go_ret
    exact ⟨ret_bool Hr.out.symm, HW.out⟩
  have d0 : decide (1000 < (n5 : Int)) = false := by simp; omega
  have Hr := hide (show res = lapsBy ms (laps.take 0) (laps.drop 0) by rw [Hr.out, decide_eq_true (show laps.length ≤ 1000 by rw [← L5.out]; omega)] <;> rfl)
  clear hlen H1 H2 H3 H4
  go_wp2_with fail
  clear e8
  go_loopw [3] (fun iv wr => ∃ k : Nat, k ≤ n5 ∧ iv = .int .i64 k ∧ Hid (lapsBy ms (laps.take 0) (laps.drop 0) = lapsBy ms (laps.take k) (laps.drop k)) ∧ Hid (Blk wr w.heap.size 34 #[.string name, .slice a1 n1 c1, .slice a2 n2 c2, .int .i64 cover, .int .i64 agg, .int .i64 poker, .slice a3 n3 c3, .slice a4 n4 c4, .slice a5 n5 c5, .slice a6 n6 c6, .int .i64 r1, .int .i64 r2, .int .i64 r3, .int .i64 r4, .int .i64 r5, .int .i64 r6, .int .i64 r7, .int .i64 r8, .int .i64 r9]) ∧ Hid (Below w.heap.size w wr)) (fun iv _ => n5 - (intOf iv).toNat)
  case atStart => exact ⟨0, Nat.zero_le _, rfl, hide rfl, K0, HW⟩
  case round =>
    clear K0 HW
    rename World => wo
    obtain ⟨k, hk, rfl, hq, hK, hbr⟩ := hrel
    have e8 := hK.out.cell 8
    simp at e8
    have lk := hK.out.lt
    by_cases hlt : k < n5
    · obtain ⟨b, off, j, rfl, hbl, hx, g0, g1⟩ := JoinsAt.get (k := k) (HL.out.carry (Flat.carried _) (hbr.out.mono HB.out) (Nat.le_refl _)) (by rw [← L5.out]; exact hlt)
      have Hx := hide hx
      have Hq := hide (hq.out.trans (lapsBy_at hx))
      have HJj := HJJ.out j
      obtain ⟨a, ha⟩ : ∃ a, a = lapsFit ms j := ⟨_, rfl⟩
      rw [← ha] at HJj Hq
      have HJj := hide HJj
      obtain ⟨f, g⟩ := j
      simp only at g0 g1 HJj
      have hblt := hbl
      clear hx hbl hq ha
      have HQ0 := hide (HL.out.carry (Flat.carried _) (hbr.out.mono HB.out) (Nat.le_refl B))
      have hbw : b < w.heap.size := Nat.lt_of_lt_of_le hblt HB.out
      go_wp2_with fail
      refine wp_region_still_tail 6 (by kernel_rfl) (by kernel_rfl) ?_
      simp only [List.take_succ_cons, List.take_zero, List.drop_succ_cons, List.drop_zero]
      refine still_load_row rfl 34 (.tmp 1) rfl w.heap.size rfl 34 _ (0, 0) _ hK.out Tryz.underlying34 rfl Hi.out ?_
      repeat still_step
      try refine wpStill_nil ?_
      change wpList _ _ _ _ _ (World.drew wo)
      go_wp2_with fail
      refine (HJj.out _ hbr.out.drew).mono ?_
      rintro e w2 ⟨rfl, hb2⟩
      have hK2 := hide ((hK.out.drew).keep hb2)
      have hbr2 := hide (below_step hbr.out.drew hb2 (Nat.le_refl _))
      clear hb2 HJj g0 g1 e8 lk
      cases a
      · have Hr := hide (show res = false by rw [Hr.out, Hq.out]; rfl)
        go_wp2_with fail
        go_ret
        exact ⟨ret_bool Hr.out.symm, hbr2.out⟩
      go_wp2_with fail
      go_loopw [4] (fun iv wr => ∃ t : Nat, t ≤ k ∧ iv = .int .i64 t ∧ NoneTo (lapClash ⟨f, g⟩) laps t ∧ Hid (Blk wr w.heap.size 34 #[.string name, .slice a1 n1 c1, .slice a2 n2 c2, .int .i64 cover, .int .i64 agg, .int .i64 poker, .slice a3 n3 c3, .slice a4 n4 c4, .slice (some ⟨b, off, none⟩) n5 c5, .slice a6 n6 c6, .int .i64 r1, .int .i64 r2, .int .i64 r3, .int .i64 r4, .int .i64 r5, .int .i64 r6, .int .i64 r7, .int .i64 r8, .int .i64 r9]) ∧ Hid (Below w.heap.size w wr)) (fun iv _ => k - (intOf iv).toNat)
      case atStart => exact ⟨0, Nat.zero_le _, rfl, NoneTo.zero _ _, hK2, hbr2⟩
      case round =>
        clear hK hbr hK2 hbr2 HQ0
        rename World => wi
        obtain ⟨t, ht, rfl, hno, hK, hbr⟩ := hrel
        have e8 := hK.out.cell 8
        simp at e8
        have lk := hK.out.lt
        by_cases hlj : t < k
        · have HQ := HL.out.carry (Flat.carried _) (hbr.out.mono HB.out) (Nat.le_refl B)
          obtain ⟨b', off', i, hA', _, hy, f0, f1⟩ := JoinsAt.get (k := t) HQ (by rw [← L5.out]; omega)
          injection hA' with hA'
          injection hA' with z1 z2
          subst z1 z2
          obtain ⟨b', off', i', hA', _, hx', g0, g1⟩ := JoinsAt.get (k := k) HQ (by rw [← L5.out]; omega)
          injection hA' with hA'
          injection hA' with z1 z2
          subst z1 z2
          rw [Hx.out] at hx'
          injection hx' with hx'
          subst hx'
          have Hy := hide hy
          obtain ⟨p, q⟩ := i
          simp only at f0 f1 g0 g1
          clear HQ hy
          cases e1 : (p == f)
          · cases e2 : (q == g)
            · have Hc := hide (show lapClash ⟨f, g⟩ ⟨p, q⟩ = false by
                have h1 : p ≠ f := by simpa using e1
                have h2 : q ≠ g := by simpa using e2
                simp [lapClash, h1, h2])
              have Hno := hide (hno.succ Hy.out Hc.out)
              clear hno
              go_wp2_with fail
              go_quiet (fail)
              go_wp2_with fail
              go_roundw
              case rel => exact ⟨t + 1, by omega, by go_num, Hno.out, hide (hK.out.drewN _), hide (below_drewN' hbr.out _)⟩
              case measure => simp [intOf]; omega
            · have Hr := hide (show res = false by
                rw [Hr.out, Hq.out, lapNew_false hlj Hy.out (by have h2 : q = g := by simpa using e2
                                                                simp [lapClash, h2])]
                rfl)
              clear hno
              go_wp2_with fail
              go_quiet (fail)
              go_wp2_with fail
              go_ret
              exact ⟨ret_bool Hr.out.symm, below_drewN' hbr.out _⟩
          · have Hr := hide (show res = false by
              rw [Hr.out, Hq.out, lapNew_false hlj Hy.out (by have h2 : p = f := by simpa using e1
                                                              simp [lapClash, h2])]
              rfl)
            clear hno
            go_wp2_with fail
            go_quiet (fail)
            go_wp2_with fail
            go_ret
            exact ⟨ret_bool Hr.out.symm, below_drewN' hbr.out _⟩
        · obtain rfl : t = k := by omega
          have Hq2 := hide (show lapsBy ms (laps.take 0) (laps.drop 0) = lapsBy ms (laps.take (t + 1)) (laps.drop (t + 1)) by rw [Hq.out, lapNew_true hno]; rfl)
          clear hno
          go_wp2_with fail
          go_roundw
          case rel => exact ⟨t + 1, by omega, by go_num, Hq2, hK, hbr⟩
          case measure => simp [intOf]; omega
    · obtain rfl : k = n5 := by omega
      have Hr := hide (show res = true by rw [Hr.out, hq.out, List.drop_of_length_le (by rw [← L5.out]; exact Nat.le_refl _)]; rfl)
      go_wp2_with fail
      go_ret
      exact ⟨ret_bool Hr.out.symm, hbr.out⟩
end Go.Proofs.YtmcjpdlkkpnhfaaGreatDoor
namespace Go.Proofs.YtmcjpdlkkpnhfaaGreatDoor
open Go.RowKit

theorem few_dems {x : DetD} {s : DetS} (f : Few x s) : ∀ d ∈ x.dems, d.name.size ≤ maxLen ∧ d.steps.length ≤ 60000 :=
  fun d hd => ⟨Nat.le_trans (f.dems d hd).1 (by decide), by have := (f.dems d hd).2; omega⟩
theorem wpList_load_row_g {P : Program} {ops : Array Oper} {rest : List Oper} {o : Oper} {a : Act} {w : World} {Q : Exit → Act → World → Prop} (hw : Region.wanted o (yielded ops a.tmps) = true) (ty : TypeId) (x : Operand) (ho : o.op = .load ty x)
    (g : Nat) (hx : a.eval x = .pointer (some ⟨g, 0, none⟩)) (t : TypeId) (cs : Array Value) (fr : Nat × Nat) (d : TypeDesc) (hg : w.heap[g]? = some (.cells cs t fr))
    (hu : P.underlying ty = some d) (hd : (match d with | .struct _ | .array _ _ => true | _ => false) = true) (hi : (P.info? ty).map (·.size) = some cs.size)
    (h : wpList P ops Q rest (a.put o.dst (.agg cs)) w) : wpList P ops Q (o :: rest) a w :=
  wpList_step fun K hK => by
    rw [if_pos hw]
    exact wp_load_row ty x ho g hx t cs fr d hg hu hd hi (hK _ _ h)
set_option maxHeartbeats 4000000 in
set_option maxRecDepth 100000 in
theorem ready_any (x : DetD) (s : DetS) (w : World) {B : Nat} (h : DetAt w B x s) (hB : B ≤ w.heap.size) (hl : DetLen x s) :
    Calls Tryz.prog 5 #[detV x s] w fun e w' => RetB e (Few x s ∧ detOk x = true) ∧ Below w.heap.size w w' := by
  have HF := hide (fun (W : World) (hz : Below w.heap.size w W) => small25_any x s W (h.carry (hz.mono hB) (Nat.le_refl _)) (Nat.le_trans hB hz.size) hl)
  have HV := hide (fun (f : Few x s) (W : World) (hz : Below w.heap.size w W) => refValid25_any x s W (h.carry (hz.mono hB) (Nat.le_refl _)) (Nat.le_trans hB hz.size) (few_fit hl f) (few_dems f))
  have Hi := hide (show (Tryz.prog.info? 34).map (·.size) = some 19 by kernel_rfl)
  have K0 := hide (Blk.new w 34 (detCells x.mem x.rule s))
  have HW := hide (below_new w (.cells (detCells x.mem x.rule s) 34))
  clear h hB hl
  go_enter Tryz.func5, Tryz.ntmps5
  go_wp2_with (refine wpList_load_row rfl 34 (.tmp 1) rfl w.heap.size rfl 34 _ (0, 0) _ K0.out Tryz.underlying34 rfl Hi.out ?_)
  refine (HF.out _ HW.out).mono ?_
  rintro e w1 ⟨⟨t, rfl, ht⟩, hb⟩
  have Ht := hide ht
  have K0 := hide (K0.out.keep hb)
  have HW := hide (below_step HW.out hb (Nat.le_refl _))
  clear hb ht HF
  cases t
  · go_wp2_with fail
    go_ret
    exact ⟨⟨false, rfl, fun h => by cases h⟩, HW.out⟩
  have Hf := hide (Ht.out rfl)
  have HVf := hide (HV.out Hf.out)
  clear Ht HV
  go_wp2_with (refine wpList_load_row_g (by rfl) 34 (.tmp 1) rfl w.heap.size rfl 34 _ (0, 0) _ K0.out Tryz.underlying34 rfl Hi.out ?_)
  refine (HVf.out _ HW.out).mono ?_
  rintro e w2 ⟨rfl, hb⟩
  have HW := hide (below_step HW.out hb (Nat.le_refl _))
  obtain ⟨t, ht⟩ : ∃ t, t = detOk x := ⟨_, rfl⟩
  rw [← ht]
  have Ht := hide ht
  clear hb HVf ht
  go_wp2_with fail
  go_ret
  exact ⟨⟨t, rfl, fun h9 => ⟨Hf.out, by rw [← Ht.out, h9]⟩⟩, HW.out⟩
end Go.Proofs.YtmcjpdlkkpnhfaaGreatDoor
