/- The reference of layer 16: the points and the legs of a laid bar; of layer 25: its main leg. The size of a section's drawing, its cells, the steel and the bars that a section cuts. The bars that a section cuts: section.Bars. A drawing in memory: rows of bytes, each in a block of its own. No walk stands here. 'append(out, l...)' onto an own row, l a row of known cells; rows of bytes, and their text. -/
import Derived.Test.YtmcjpdlkkpnhfaaGreatQas
import Derived.Test.YtmcjpdlkkpnhfaaGreatQbd
import Derived.Test.YtmcjpdlkkpnhfaaGreatQau
import Derived.Test.YtmcjpdlkkpnhfaaGreatQbf
import Derived.Test.YtmcjpdlkkpnhfaaGreatQbb
import Derived.Test.YtmcjpdlkkpnhfaaGreatQbg
import Derived.Test.YtmcjpdlkkpnhfaaGreatQbp
import Derived.Laws.IdiomStrings
namespace Go.Proofs.YtmcjpdlkkpnhfaaGreat
open Go.RowKit

theorem step_far8 {s : Pt} {k : Int} (h : nearBy 2097152 s = true) (h0 : 0 ≤ k) (h1 : k ≤ 999) : nearBy 4294967296 (mulP k s) = true := by
  obtain ⟨a, b, c⟩ := nearBy_iff.1 h
  have key : ∀ v : Int, -2097152 ≤ v ∧ v ≤ 2097152 → -4294967296 ≤ k * v ∧ k * v ≤ 4294967296 := by
    intro v hv
    obtain ⟨f, g⟩ := mul_between (s := v) h0 h1
    rcases Int.le_total 0 v with hs | hs
    · have := f hs; omega
    · have := g hs; omega
  rw [nearBy_iff, mulP]
  exact ⟨key _ a, key _ b, key _ c⟩
set_option maxHeartbeats 4000000 in
set_option maxRecDepth 100000 in
theorem refPts_ok (A3 A4 : Option Addr) (bars : List BarD) (runs : List RunD) (n3 c3 n4 c4 i : Nat) (ld : LaidD) (w : World) {B : Nat} (h3 : BarsAt w B A3 bars) (h4 : RunsAt w B A4 runs) (hB : B ≤ w.heap.size) (l3 : n3 = bars.length) (l4 : n4 = runs.length) (m3 : n3 ≤ 60000) (hok : laidOk bars runs = true) (hi : (laidAll bars runs)[i]? = some ld) :
    Calls Tryz.prog 82 #[.slice A3 n3 c3, .slice A4 n4 c4, .int .i64 i] w fun e w' => ∃ A c, e = .returned (.slice A ld.pts.length c) ∧ PtsAt w' w'.heap.size A ld.pts ∧ ld.pts.length ≤ c ∧ Below w.heap.size w w' := by
  obtain ⟨hbars, hlen, hruns⟩ := laidOk_mem hok
  have hi9 : i ≤ 100000 := by have := (laidOk_len hok).2; have := lt_of_get hi; omega
  have HP := hide (fun (W : World) (hz : Below w.heap.size w W) => refPlaceL_ok bars A4 runs n4 c4 i ld W (h4.carry (Flat.carried _) (hz.mono hB) (Nat.le_refl _)) l4 (by omega) hruns hi hi9)
  have HBa := hide (fun (W : World) (hz : Below w.heap.size w W) => refBar_ok A3 A4 bars runs n3 c3 n4 c4 i ld W (h3.carry (hz.mono hB) (Nat.le_refl _)) (h4.carry (Flat.carried _) (hz.mono hB) (Nat.le_refl _)) (Nat.le_trans hB hz.size) l3 l4 m3 hok hi)
  have Hbk := hide (fun (k : Nat) (r : RunD) (hk : runs[k]? = some r) (hx : runBar bars r = some ld.bar) => find_bar (hruns r (mem_of_get hk)) hx)
  obtain ⟨bar, pts⟩ := ld
  simp only at HP HBa Hbk ⊢
  have Hro := hide (fun (k : Nat) (r : RunD) (hk : runs[k]? = some r) => hruns r (mem_of_get hk))
  have Hbo := hide hbars
  have H4 := hide h4
  have L4 := hide l4
  have HB := hide hB
  clear h3 h4 l3 l4 hok hi hruns hlen hbars hB
  go_enter Tryz.func82, Tryz.ntmps82
  go_wp2_with fail
  refine (HP.out _ (Below.refl _ _)).mono ?_
  rintro e w1 ⟨k, j, r, rfl, hk, hx, hj, hrb, hpts, rfl⟩
  obtain ⟨q, hq, hy⟩ := Hbk.out k r hx hrb
  have hro := Hro.out k r hx
  have hbo := Hbo.out _ (mem_of_get hy)
  obtain ⟨jj, x', _, _, _, htu⟩ := runOk_bar hro
  have hfar : nearBy 4294967296 (mulP (j : Int) r.step) = true := by
    have h9 := runOk_count hro
    simp only [runOk, runHead, Bool.and_eq_true, Bool.or_eq_true, decide_eq_true_eq] at hro
    rcases hro.1.1.2 with h8 | h8
    · obtain rfl : j = 0 := by omega
      simp [mulP, nearBy_iff]
    · exact step_far8 h8.2 (by omega) (by omega)
  have HPt := hide (fun (A' : Option Addr) (c' : Nat) (W : World) (hdi : Ints W B A' bar.dims) (hz : Below w.heap.size w W) => refPoints_ok bar A' c' r j W hdi (Nat.le_trans HB.out hz.size) hbo htu (runOk_place hro) (by omega) hfar)
  rw [← hpts] at HPt
  obtain ⟨b, off, r', rfl, hbl, hx', hc⟩ := RunsAt.get (k := k) H4.out (by rw [← L4.out]; exact hk)
  rw [hx] at hx'
  injection hx' with hx'
  subst hx'
  have hbw : b < w.heap.size := Nat.lt_of_lt_of_le hbl HB.out
  obtain ⟨mark, tx, ty, ⟨a1, a2, a3⟩, ⟨s1, s2, s3⟩, cnt⟩ := r
  obtain ⟨mk, sz, ct, cd, dims⟩ := bar
  have e0 := hc 0 _ rfl
  have e1 := hc 1 _ rfl
  have e2 := hc 2 _ rfl
  have e3 := hc 3 _ rfl
  have e4 := hc 4 _ rfl
  have e5 := hc 5 _ rfl
  have e6 := hc 6 _ rfl
  have e7 := hc 7 _ rfl
  have e8 := hc 8 _ rfl
  have e9 := hc 9 _ rfl
  simp only [Nat.add_zero] at e0 e1 e2 e3 e4 e5 e6 e7 e8 e9
  simp only [barV] at HBa HPt
  have HC := hide (fun (W : World) (h : Below w.heap.size w W) => show W.cell? ⟨b, off + k * 10, none⟩ = some (.string mark) ∧ W.cell? ⟨b, off + k * 10 + 1, none⟩ = some (.int .i64 tx) ∧ W.cell? ⟨b, off + k * 10 + 2, none⟩ = some (.int .i64 ty) ∧ W.cell? ⟨b, off + k * 10 + 3, none⟩ = some (.int .i64 a1) ∧ W.cell? ⟨b, off + k * 10 + 4, none⟩ = some (.int .i64 a2) ∧ W.cell? ⟨b, off + k * 10 + 5, none⟩ = some (.int .i64 a3) ∧ W.cell? ⟨b, off + k * 10 + 6, none⟩ = some (.int .i64 s1) ∧ W.cell? ⟨b, off + k * 10 + 7, none⟩ = some (.int .i64 s2) ∧ W.cell? ⟨b, off + k * 10 + 8, none⟩ = some (.int .i64 s3) ∧ W.cell? ⟨b, off + k * 10 + 9, none⟩ = some (.int .i64 cnt) from
    ⟨(h.cell (p := ⟨b, off + k * 10, none⟩) hbw).trans e0, (h.cell (p := ⟨b, off + k * 10 + 1, none⟩) hbw).trans e1, (h.cell (p := ⟨b, off + k * 10 + 2, none⟩) hbw).trans e2, (h.cell (p := ⟨b, off + k * 10 + 3, none⟩) hbw).trans e3, (h.cell (p := ⟨b, off + k * 10 + 4, none⟩) hbw).trans e4, (h.cell (p := ⟨b, off + k * 10 + 5, none⟩) hbw).trans e5, (h.cell (p := ⟨b, off + k * 10 + 6, none⟩) hbw).trans e6, (h.cell (p := ⟨b, off + k * 10 + 7, none⟩) hbw).trans e7, (h.cell (p := ⟨b, off + k * 10 + 8, none⟩) hbw).trans e8, (h.cell (p := ⟨b, off + k * 10 + 9, none⟩) hbw).trans e9⟩)
  clear hx hbl hc hq hy hro hbo htu hfar hrb hpts hj HP Hbk Hro Hbo H4 L4
  have hS0 := HC.out _ (Below.drew (Below.refl w.heap.size w))
  have hBx := Below.drew (Below.refl w.heap.size w)
  go_wp2_with fail
  first
    | (go_region_held3 (fun W => W.cell? ⟨b, off + k * 10, none⟩ = some (.string mark) ∧ W.cell? ⟨b, off + k * 10 + 1, none⟩ = some (.int .i64 tx) ∧ W.cell? ⟨b, off + k * 10 + 2, none⟩ = some (.int .i64 ty) ∧ W.cell? ⟨b, off + k * 10 + 3, none⟩ = some (.int .i64 a1) ∧ W.cell? ⟨b, off + k * 10 + 4, none⟩ = some (.int .i64 a2) ∧ W.cell? ⟨b, off + k * 10 + 5, none⟩ = some (.int .i64 a3) ∧ W.cell? ⟨b, off + k * 10 + 6, none⟩ = some (.int .i64 s1) ∧ W.cell? ⟨b, off + k * 10 + 7, none⟩ = some (.int .i64 s2) ∧ W.cell? ⟨b, off + k * 10 + 8, none⟩ = some (.int .i64 s3) ∧ W.cell? ⟨b, off + k * 10 + 9, none⟩ = some (.int .i64 cnt))
        (first | (with_reducible assumption) | go_keep)
        (first
          | (go_at_call 58
             (with_reducible refine (HBa.out _ hBx).mono ?_); rintro e wz ⟨A5, c5, rfl, hdi, hbz⟩
             have hBx := below_step hBx hbz (Nat.le_refl _)
             have hS' := HC.out _ hBx)
          | (go_at_call 123
             (with_reducible refine (HPt.out _ _ _ hdi hBx).mono ?_); rintro e wz ⟨A6, c6, rfl, hp6, hc6, hbz⟩
             have hBx := below_step hBx hbz (Nat.le_refl _)
             have hS' := HC.out _ hBx)))
    | fail
  all_goals
    have Hp6 := hide hp6
    go_wp2_with fail
    go_ret
    exact ⟨A6, c6, rfl, Hp6.out, hc6, hBx⟩
set_option maxHeartbeats 4000000 in
set_option maxRecDepth 100000 in
theorem refLegs_row (A3 A4 : Option Addr) (bars : List BarD) (runs : List RunD) (n3 c3 n4 c4 i : Nat) (ld : LaidD) (w : World) {B : Nat} (h3 : BarsAt w B A3 bars) (h4 : RunsAt w B A4 runs) (hB : B ≤ w.heap.size) (l3 : n3 = bars.length) (l4 : n4 = runs.length) (m3 : n3 ≤ 60000) (hok : laidOk bars runs = true) (hi : (laidAll bars runs)[i]? = some ld) :
    Calls Tryz.prog 56 #[.slice A3 n3 c3, .slice A4 n4 c4, .int .i64 i] w fun e w' => ∃ A c b0, e = .returned (.slice A (legsOfPts ld.pts).length c) ∧ Row w' b0 63 6 encB (.slice A (legsOfPts ld.pts).length c) (legsOfPts ld.pts) ∧ Below w.heap.size w w' := by
  have HP := hide (refPts_ok A3 A4 bars runs n3 c3 n4 c4 i ld w h3 h4 hB l3 l4 m3 hok hi)
  obtain ⟨hnear, hl1, hl7⟩ := laid_near runs i ld (laidOk_mem hok).2.2 hi
  obtain ⟨bar, pts⟩ := ld
  simp only at HP hl1 hl7 ⊢
  obtain ⟨n, hn⟩ : ∃ n, n = pts.length := ⟨_, rfl⟩
  rw [← hn] at HP hl1 hl7
  have Hn := hide hn
  clear h3 h4 hB l3 l4 m3 hok hi hnear hn
  go_enter Tryz.func56, Tryz.ntmps56
  go_wp2_with fail
  refine HP.out.mono ?_
  rintro e w1 ⟨A, c, rfl, hp, hcp, hb1⟩
  have Hp := hide hp
  have Hb1 := hide hb1
  clear HP hp hb1
  go_wp2_with fail
  go_loopw [8, 9] (fun v iv wr => ∃ k : Nat, k + 1 ≤ n ∧ iv = .int .i64 ((k : Int) + 1) ∧ (∃ acc : List BoxD, Row wr w1.heap.size 63 6 encB v acc ∧ Hid (acc = (legsOfPts pts).take k)) ∧ Below w1.heap.size w1 wr) (fun _ iv _ => n - (intOf iv).toNat)
  case atStart => exact ⟨0, hl1, rfl, ⟨[], Row.nil _ _ _ _ _, hide rfl⟩, Below.refl _ _⟩
  case round =>
    obtain ⟨k, hk, rfl, ⟨acc, hrow, hacc⟩, hbr⟩ := hrel
    obtain ⟨A0, c0, rfl⟩ := hrow.val
    have hal : acc.length ≤ 1000 := by rw [hacc.out, List.length_take]; omega
    have Hrow := hide hrow
    clear hrow
    by_cases hlt : k + 1 < n
    · obtain ⟨b, off, p, hA, hbl, hx, e3, e4, e5⟩ := PtsAt.get (k := k) (Hp.out.carry (Flat.carried _) hbr hbr.size) (by rw [← Hn.out]; omega)
      obtain ⟨b', off', q, hA', hbl', hy, e0, e1, e2⟩ := PtsAt.get (k := k + 1) (Hp.out.carry (Flat.carried _) hbr hbr.size) (by rw [← Hn.out]; exact hlt)
      clear hA' hbl' e0 e1 e2 e3 e4 e5
      subst hA
      have hsub : k + 1 + 1 - k = 2 := by omega
      have HHu := hide (fun (W : World) (hz : Below w1.heap.size w1 W) => refHull2_any (some ⟨b, off + k * 3, none⟩) p q (c - k) W (pts_pair (Hp.out.carry (Flat.carried _) hz (Nat.le_refl _)) hx hy) hz.size)
      have Hn2 := hide (show (legsOfPts pts).take (k + 1) = acc ++ [legBox p q] by rw [take_snoc' (legsOfPts_at pts k p q hx hy), hacc.out])
      have z1 : IntKind.i64.wrap ((k : Int) + 1 - 1) = (k : Int) := by rw [Int.add_sub_cancel]; exact IntWalk.i64_in _ (by omega)
      have z2 : IntKind.i64.wrap (k : Int) = (k : Int) := IntWalk.i64_in _ (by omega)
      have z3 : IntKind.i64.wrap ((k : Int) + 1 + 1) = (k : Int) + 1 + 1 := IntWalk.i64_in _ (by omega)
      have HB := hide hbr
      have hkc : k + 1 + 1 ≤ c := by omega
      clear hx hy hbl hbr
      go_wp2_with fail
      refine (HHu.out _ HB.out).mono ?_
      rintro e w3 ⟨rfl, hb3⟩
      have HB3 := hide (below_step HB.out hb3 (Nat.le_refl _))
      have Hrow3 := hide (Hrow.out.keep hb3)
      generalize legBox p q = lb at *
      obtain ⟨⟨x1, x2, x3⟩, x4, x5, x6⟩ := lb
      have hs3 := HB3.out.size
      clear hb3 HHu
      go_wp2_with (at_builtin; refine wpList_append1 rfl (.tmp 20) (.tmp 28) 22 rfl w1.heap.size 63 (.agg #[.int .i64 0, .int .i64 0, .int .i64 0, .int .i64 0, .int .i64 0, .int .i64 0]) 6 48 encB Tryz.underlying22 (by kernel_rfl) rfl (by omega) encB_len encB_one _ acc ⟨(x1, x2, x3), (x4, x5, x6)⟩ rfl (Hrow3.out.alloc _) _ rfl (Blk.new w3 _ _) (by omega) (by omega) (le_alloc hs3 _) ?_; intro A1 c1 w6 hrow6 hb6 _)
      go_roundw
      case rel => exact ⟨k + 1, by omega, by go_num, ⟨acc ++ [⟨(x1, x2, x3), (x4, x5, x6)⟩], by simpa using hrow6, hide Hn2.out.symm⟩, (HB3.out.alloc hs3 _).trans hb6⟩
      case measure => simp [intOf]; omega
    · have hk9 : k + 1 = n := by omega
      have hf : acc = legsOfPts pts := by
        rw [hacc.out]
        exact List.take_of_length_le (by rw [legsOfPts_len, ← Hn.out]; omega)
      have hlen := hide (show (legsOfPts pts).length = acc.length by rw [hf])
      have Hr := hide (show Row wr w1.heap.size 63 6 encB (.slice A0 acc.length c0) (legsOfPts pts) by rw [← hf]; exact Hrow.out)
      have Hb := hide (below_step Hb1.out hbr (Nat.le_refl _))
      clear hf hacc Hrow hbr
      generalize acc.length = m at *
      go_wp2_with fail
      go_ret
      exact ⟨A0, c0, w1.heap.size, by rw [hlen.out]; rfl, by rw [hlen.out]; exact Hr.out, Hb.out⟩
theorem refLegs_ok (A3 A4 : Option Addr) (bars : List BarD) (runs : List RunD) (n3 c3 n4 c4 i : Nat) (ld : LaidD) (w : World) {B : Nat} (h3 : BarsAt w B A3 bars) (h4 : RunsAt w B A4 runs) (hB : B ≤ w.heap.size) (l3 : n3 = bars.length) (l4 : n4 = runs.length) (m3 : n3 ≤ 60000) (hok : laidOk bars runs = true) (hi : (laidAll bars runs)[i]? = some ld) :
    Calls Tryz.prog 56 #[.slice A3 n3 c3, .slice A4 n4 c4, .int .i64 i] w fun e w' => ∃ A c, e = .returned (.slice A (legsOfPts ld.pts).length c) ∧ BoxesAt w' w'.heap.size A (legsOfPts ld.pts) ∧ Below w.heap.size w w' := by
  refine (refLegs_row A3 A4 bars runs n3 c3 n4 c4 i ld w h3 h4 hB l3 l4 m3 hok hi).mono ?_
  rintro e w' ⟨A, c, b0, he, hr, hb⟩
  exact ⟨A, c, he, Row.read hr encB_len (by omega), hb⟩
/-- The main leg as the reference gives it. -/
def mainT (o : Option BoxD) : Array Value := match o with
  | some b => #[bxV b, .bool true]
  | none => #[.agg #[.int .i64 0, .int .i64 0, .int .i64 0, .int .i64 0, .int .i64 0, .int .i64 0], .bool false]
set_option maxHeartbeats 4000000 in
set_option maxRecDepth 100000 in
theorem refMain25_ok (x : DetD) (s : DetS) (i : Nat) (ld : LaidD) (w : World) {B : Nat} (h : DetAt w B x s) (hB : B ≤ w.heap.size) (hf : DetFit x s) (hok : laidOk x.bars x.runs = true) (hi : (laidAll x.bars x.runs)[i]? = some ld) :
    Calls Tryz.prog 103 #[detV x s, .int .i64 i] w fun e w' => e = .returned (.tuple (mainT (mainLeg ld))) ∧ Below w.heap.size w w' := by
  have HL := hide (fun (W : World) (hz : Below w.heap.size w W) => refLegs_ok s.a3 s.a4 x.bars x.runs s.n3 s.c3 s.n4 s.c4 i ld W (h.h3.carry (hz.mono hB) (Nat.le_refl _)) (h.h4.carry (Flat.carried _) (hz.mono hB) (Nat.le_refl _)) (Nat.le_trans hB hz.size) hf.l3 hf.l4 hf.m3 hok hi)
  have hl6 : (legsOfPts ld.pts).length ≤ 60000 := by
    obtain ⟨_, hl1, hl7⟩ := laid_near x.runs i ld (laidOk_mem hok).2.2 hi
    rw [legsOfPts_len]
    omega
  have Hml := hide (show mainLeg ld = (legsOfPts ld.pts).find? isMain from rfl)
  generalize legsOfPts ld.pts = LG at *
  obtain ⟨ml, hml⟩ : ∃ ml, ml = mainLeg ld := ⟨_, rfl⟩
  rw [← hml] at Hml ⊢
  have K0 := hide ((Blk.new w 34 (detCells x.mem x.rule s)).alloc (.cells #[.int .i64 0, .int .i64 0, .int .i64 0, .int .i64 0, .int .i64 0, .int .i64 0] 63))
  have KB := hide (Blk.new1 w (.cells (detCells x.mem x.rule s) 34) 63 #[.int .i64 0, .int .i64 0, .int .i64 0, .int .i64 0, .int .i64 0, .int .i64 0])
  have HW := hide (below_new2 w (.cells (detCells x.mem x.rule s) 34) (.cells #[.int .i64 0, .int .i64 0, .int .i64 0, .int .i64 0, .int .i64 0, .int .i64 0] 63))
  obtain ⟨mem, bars, runs, laps, dems, rule⟩ := x
  obtain ⟨a1, n1, c1, a2, n2, c2, a3, n3, c3, a4, n4, c4, a5, n5, c5, a6, n6, c6⟩ := s
  obtain ⟨name, boxes, holes, cover, agg, poker⟩ := mem
  obtain ⟨r1, r2, r3, r4, r5, r6, r7, r8, r9⟩ := rule
  simp only [detCells] at K0 KB HW
  simp only at HL
  have e6 := K0.out.cell 6
  have e7 := K0.out.cell 7
  simp at e6 e7
  clear h hf hB hok hi hml
  show Calls Tryz.prog 103 #[.agg #[.string name, .slice a1 n1 c1, .slice a2 n2 c2, .int .i64 cover, .int .i64 agg, .int .i64 poker, .slice a3 n3 c3, .slice a4 n4 c4, .slice a5 n5 c5, .slice a6 n6 c6, .int .i64 r1, .int .i64 r2, .int .i64 r3, .int .i64 r4, .int .i64 r5, .int .i64 r6, .int .i64 r7, .int .i64 r8, .int .i64 r9], .int .i64 i] w _
  go_enter Tryz.func103, Tryz.ntmps103
  go_wp2_with fail
  refine (HL.out _ HW.out).mono ?_
  rintro e w1 ⟨A1, c1', rfl, hlg, hb1⟩
  have KB := hide (KB.out.keep hb1)
  have HW1 := hide (below_step HW.out hb1 (Nat.le_refl _))
  have HLG := hide hlg
  have HM := hide (refMainLeg_any A1 LG LG.length c1' w1 hlg (Nat.le_refl _) rfl hl6)
  clear hlg hb1 HL HW K0 e6 e7
  go_wp2_with fail
  refine HM.out.mono ?_
  rintro e w2 ⟨rfl, hb2⟩
  have KB := hide (KB.out.keep hb2)
  have HW2 := hide (below_step HW1.out hb2 (Nat.le_refl _))
  have HLG := hide (HLG.out.carry (Flat.carried _) hb2 hb2.size)
  clear hb2 HM HW1
  have u0 := KB.out.cell 0
  have v0 := KB.out.frozen 0
  have u1 := KB.out.cell 1
  have v1 := KB.out.frozen 1
  have u2 := KB.out.cell 2
  have v2 := KB.out.frozen 2
  have u3 := KB.out.cell 3
  have v3 := KB.out.frozen 3
  have u4 := KB.out.cell 4
  have v4 := KB.out.frozen 4
  have u5 := KB.out.cell 5
  have v5 := KB.out.frozen 5
  simp at u0 u1 u2 u3 u4 u5
  have lk := KB.out.lt
  have hrg := idx_range isMain LG
  by_cases hneg : idx isMain LG < 0
  · have d0 : decide (idx isMain LG < 0) = true := by simpa using hneg
    have Hn := hide (show ml = none by
      rw [Hml.out, List.find?_eq_none]
      intro z hz hm
      have h1 := idx_any isMain LG
      rw [List.any_eq_true.2 ⟨z, hz, hm⟩, decide_eq_true_eq] at h1
      omega)
    generalize idx isMain LG = ix at *
    clear Hml hrg hneg
    go_wp2_with fail
    refine bodyPost_ret (results_ct rfl rfl ((((((KB.out.set_ 0 _).set_ 1 _).set_ 2 _).set_ 3 _).set_ 4 _).set_ 5 _) Tryz.underlying63 rfl (by kernel_rfl)) rfl ?_
    refine ⟨?_, ((((((HW2.out.setCell (p := ⟨w.heap.size + 1, 0, none⟩) (Nat.le_succ _) _).setCell (p := ⟨w.heap.size + 1, 1, none⟩) (Nat.le_succ _) _).setCell (p := ⟨w.heap.size + 1, 2, none⟩) (Nat.le_succ _) _).setCell (p := ⟨w.heap.size + 1, 3, none⟩) (Nat.le_succ _) _).setCell (p := ⟨w.heap.size + 1, 4, none⟩) (Nat.le_succ _) _).setCell (p := ⟨w.heap.size + 1, 5, none⟩) (Nat.le_succ _) _)⟩
    simp only [List.setIfInBounds_toArray, List.set_cons_zero, List.set_cons_succ]
    rw [Hn.out]
    rfl
  · obtain ⟨j, hj⟩ := Int.eq_ofNat_of_zero_le (show 0 ≤ idx isMain LG by omega)
    obtain ⟨y, hy, hp, hno⟩ := idx_spec hj
    have Hn := hide (show ml = some y by rw [Hml.out]; exact NoneTo.find hno hy hp)
    obtain ⟨b, off, y', rfl, hbl, hy', f0, f1, f2, f3, f4, f5⟩ := BoxesAt.get (k := j) HLG.out (lt_of_get hy)
    rw [hy] at hy'
    injection hy' with hy'
    subst hy'
    have d0 : decide ((j : Int) < 0) = false := by simp
    have hjl : j < LG.length := lt_of_get hy
    rw [hj]
    obtain ⟨⟨y1, y2, y3⟩, y4, y5, y6⟩ := y
    simp only at f0 f1 f2 f3 f4 f5
    generalize LG.length = ln at *
    clear Hml hrg hneg hj hy hp hno
    go_wp2_with fail
    refine bodyPost_ret (results_ct rfl rfl ((((((KB.out.set_ 0 _).set_ 1 _).set_ 2 _).set_ 3 _).set_ 4 _).set_ 5 _) Tryz.underlying63 rfl (by kernel_rfl)) rfl ?_
    refine ⟨?_, ((((((HW2.out.setCell (p := ⟨w.heap.size + 1, 0, none⟩) (Nat.le_succ _) _).setCell (p := ⟨w.heap.size + 1, 1, none⟩) (Nat.le_succ _) _).setCell (p := ⟨w.heap.size + 1, 2, none⟩) (Nat.le_succ _) _).setCell (p := ⟨w.heap.size + 1, 3, none⟩) (Nat.le_succ _) _).setCell (p := ⟨w.heap.size + 1, 4, none⟩) (Nat.le_succ _) _).setCell (p := ⟨w.heap.size + 1, 5, none⟩) (Nat.le_succ _) _)⟩
    simp only [List.setIfInBounds_toArray, List.set_cons_zero, List.set_cons_succ]
    rw [Hn.out]
    rfl
end Go.Proofs.YtmcjpdlkkpnhfaaGreat
namespace Go.Proofs.YtmcjpdlkkpnhfaaGreat
open Go.RowKit

set_option maxHeartbeats 1000000 in
theorem cellIx_any (n f sc : Int) (w : World) (hs : 1 ≤ sc ∧ sc ≤ 1048576) (hn : -4194304 ≤ n ∧ n ≤ 4194304) (hf : -4194304 ≤ f ∧ f ≤ 4194304) :
    Calls Tryz.prog 45 #[.int .i64 n, .int .i64 f, .int .i64 sc] w fun e w' => e = .returned (.int .i64 (cellIx n f sc)) ∧ w' = w := by
  by_cases h : n < f
  · have hr := hide (show cellIx n f sc = -1 by rw [cellIx, if_pos h])
    have d0 : decide (n < f) = true := by simpa using h
    go_enter Tryz.func45, Tryz.ntmps45
    go_wp2_with fail
    go_ret
    exact ⟨ret_int hr.out.symm, rfl⟩
  · have hr := hide (show cellIx n f sc = (n - f) / sc by rw [cellIx, if_neg h])
    have d0 : decide (n < f) = false := by simpa using h
    have z1 : IntKind.i64.wrap (n - f) = n - f := IntWalk.i64_in _ (by omega)
    have z2 : 0 ≤ n - f := by omega
    go_enter Tryz.func45, Tryz.ntmps45
    go_wp2_with fail
    go_ret
    exact ⟨ret_int hr.out.symm, rfl⟩
theorem cuts_fine {x : DetD} (hok : laidOk x.bars x.runs = true) (a : Int) : (cutsOf x a).length ≤ 12000 ∧ (∀ p ∈ cutsOf x a, isSize p.size = true) := by
  constructor
  · refine Nat.le_trans (piecesTo_len _ (fun y hy => ?_)) (by have := (laidOk_len hok).2; omega : 6 * (laidAll x.bars x.runs).length ≤ 12000)
    obtain ⟨j, hj, rfl⟩ := List.getElem_of_mem hy
    exact (laid_near x.runs j _ (laidOk_mem hok).2.2 (List.getElem?_eq_getElem hj)).2.2
  · intro p hp
    simp only [cutsOf, piecesTo, List.mem_flatMap] at hp
    obtain ⟨⟨l, i⟩, hl, hp⟩ := hp
    simp only [legPieces, List.mem_map] at hp
    obtain ⟨b, _, rfl⟩ := hp
    have h1 := List.mk_mem_zipIdx_iff_getElem?.1 hl
    exact bar_size hok (laid_bar hok h1)
theorem area_range {d : Int} (h : isSize d = true) : 0 ≤ areaOf d ∧ areaOf d ≤ 200000 := by
  have hm := isSize_mem h
  simp [steelSizes] at hm
  rcases hm with rfl | rfl | rfl | rfl | rfl | rfl | rfl | rfl | rfl <;> decide
theorem steel_range : ∀ l : List PieceD, (∀ p ∈ l, isSize p.size = true) → 0 ≤ steelOf l ∧ steelOf l ≤ 200000 * (l.length : Int) := by
  refine snoc_ind ?_ ?_
  · intro _; simp [steelOf]
  · intro l p ih h
    have h1 := ih (fun q hq => h q (by simp [hq]))
    have h2 := area_range (h p (by simp))
    rw [steelOf_snoc, List.length_append, List.length_singleton, steelOne]
    push_cast
    split <;> omega
set_option maxHeartbeats 4000000 in
set_option maxRecDepth 100000 in
theorem sectSize_bad (x : DetD) (s : DetS) (sc : Int) (w : World) {B : Nat} (h : DetAt w B x s) (hB : B ≤ w.heap.size) (hf : DetFit x s) (he : sizeErr x sc ≠ 0) :
    Calls Tryz.prog 9 #[detV x s, .int .i64 sc] w fun e w' => e = .returned (.tuple #[.int .i64 0, .int .i64 0, .int .i64 (sizeErr x sc)]) ∧ Below w.heap.size w w' := by
  have HV := hide (fun (W : World) (hz : Below w.heap.size w W) => lapValid_any x s W (h.carry (hz.mono hB) (Nat.le_refl _)) (Nat.le_trans hB hz.size) hf)
  have hw : (detOk x = false ∧ sizeErr x sc = 1) ∨ (detOk x = true ∧ decide (sc < 1) = true ∧ sizeErr x sc = 2) ∨ (detOk x = true ∧ decide (sc < 1) = false ∧ decide (1048576 < sc) = true ∧ sizeErr x sc = 2) := by
    unfold sizeErr at he ⊢
    by_cases h1 : detOk x = false
    · exact .inl ⟨h1, by rw [if_pos h1]⟩
    · rw [if_neg h1] at he ⊢
      by_cases h2 : sc < 1 ∨ 1048576 < sc
      · rw [if_pos h2]
        by_cases h3 : sc < 1
        · exact .inr (.inl ⟨by simpa using h1, by simpa using h3, rfl⟩)
        · exact .inr (.inr ⟨by simpa using h1, by simpa using h3, by simp; omega, rfl⟩)
      · rw [if_neg h2] at he
        exact absurd rfl he
  have Hi := hide (show (Tryz.prog.info? 34).map (·.size) = some 19 by kernel_rfl)
  have K0 := hide (Blk.new w 34 (detCells x.mem x.rule s))
  have HW := hide (below_new w (.cells (detCells x.mem x.rule s) 34))
  generalize detOk x = td at *
  generalize sizeErr x sc = er at *
  clear he h hf
  obtain ⟨mem, bars, runs, laps, dems, rule⟩ := x
  obtain ⟨a1, n1, c1, a2, n2, c2, a3, n3, c3, a4, n4, c4, a5, n5, c5, a6, n6, c6⟩ := s
  obtain ⟨name, boxes, holes, cover, agg, poker⟩ := mem
  obtain ⟨r1, r2, r3, r4, r5, r6, r7, r8, r9⟩ := rule
  simp only [detCells] at K0 HW
  show Calls Tryz.prog 9 #[.agg #[.string name, .slice a1 n1 c1, .slice a2 n2 c2, .int .i64 cover, .int .i64 agg, .int .i64 poker, .slice a3 n3 c3, .slice a4 n4 c4, .slice a5 n5 c5, .slice a6 n6 c6, .int .i64 r1, .int .i64 r2, .int .i64 r3, .int .i64 r4, .int .i64 r5, .int .i64 r6, .int .i64 r7, .int .i64 r8, .int .i64 r9], .int .i64 sc] w _
  rcases hw with ⟨rfl, rfl⟩ | ⟨rfl, q0, rfl⟩ | ⟨rfl, q0, q1, rfl⟩
  all_goals
    go_enter Tryz.func9, Tryz.ntmps9
    go_wp2_with (refine wpList_load_row rfl 34 (.tmp 2) rfl w.heap.size rfl 34 _ (0, 0) _ K0.out Tryz.underlying34 rfl Hi.out ?_)
    refine (HV.out _ HW.out).mono ?_
    rintro e w2 ⟨rfl, hb2⟩
    have HW2 := hide (below_step HW.out hb2 (Nat.le_refl _))
    clear hb2 HV K0 HW Hi
    go_wp2_with fail
    go_ret3
    exact ⟨rfl, HW2.out⟩
set_option maxHeartbeats 4000000 in
set_option maxRecDepth 100000 in
theorem sectSize_ok (x : DetD) (s : DetS) (sc : Int) (w : World) {B : Nat} (h : DetAt w B x s) (hB : B ≤ w.heap.size) (hf : DetFit x s) (he : sizeErr x sc = 0) :
    Calls Tryz.prog 9 #[detV x s, .int .i64 sc] w fun e w' => e = .returned (.tuple #[.int .i64 (colsOf x sc), .int .i64 (rowsS x sc), .int .i64 0]) ∧ Below w.heap.size w w' := by
  obtain ⟨hd, hs⟩ := sizeErr_ok he
  have HV := hide (fun (W : World) (hz : Below w.heap.size w W) => lapValid_any x s W (h.carry (hz.mono hB) (Nat.le_refl _)) (Nat.le_trans hB hz.size) hf)
  have HS := hide (fun (W : World) (hz : Below w.heap.size w W) => solidHull_ok x.mem.boxes x.mem.holes s.a1 s.a2 s.n1 s.n2 s.c1 s.c2 W (h.h1.carry (Flat.carried _) (hz.mono hB) (Nat.le_refl _)) (h.h2.carry (Flat.carried _) (hz.mono hB) (Nat.le_refl _)) (Nat.le_trans hB hz.size) hf.l1 hf.l2 (detOk_parts hd).2.2)
  have hhull := boxOk_iff.1 (detOk_hull hd)
  have Hi := hide (show (Tryz.prog.info? 34).map (·.size) = some 19 by kernel_rfl)
  have K0 := hide (Blk.new w 34 (detCells x.mem x.rule s))
  have HW := hide (below_new w (.cells (detCells x.mem x.rule s) 34))
  rw [hd] at HV
  unfold colsOf rowsS
  generalize hullOf x.mem.boxes = hb at *
  obtain ⟨⟨x1, x2, x3⟩, x4, x5, x6⟩ := hb
  simp only at hhull ⊢
  have q0 : decide (sc < 1) = false := by simp; omega
  have q1 : decide (1048576 < sc) = false := by simp; omega
  have d1 := Int.ediv_nonneg (a := x5 - x2) (b := sc) (by omega) (by omega)
  have d2 := Int.ediv_le_self (a := x5 - x2) sc (by omega)
  have d3 := Int.ediv_nonneg (a := x6 - x3) (b := sc) (by omega) (by omega)
  have d4 := Int.ediv_le_self (a := x6 - x3) sc (by omega)
  have z1 : IntKind.i64.wrap (x5 - x2) = x5 - x2 := IntWalk.i64_in _ (by omega)
  have z2 : IntKind.i64.wrap (x6 - x3) = x6 - x3 := IntWalk.i64_in _ (by omega)
  have z3 : IntKind.i64.wrap ((x5 - x2) / sc) = (x5 - x2) / sc := IntWalk.i64_in _ (by omega)
  have z4 : IntKind.i64.wrap ((x6 - x3) / sc) = (x6 - x3) / sc := IntWalk.i64_in _ (by omega)
  have z5 : IntKind.i64.wrap ((x5 - x2) / sc + 1) = (x5 - x2) / sc + 1 := IntWalk.i64_in _ (by omega)
  have z6 : IntKind.i64.wrap ((x6 - x3) / sc + 1) = (x6 - x3) / sc + 1 := IntWalk.i64_in _ (by omega)
  have y1 : 0 ≤ x5 - x2 := by omega
  have y2 : 0 ≤ x6 - x3 := by omega
  have t1 : (x5 - x2).tdiv sc = (x5 - x2) / sc := Int.tdiv_eq_ediv_of_nonneg y1
  have t2 : (x6 - x3).tdiv sc = (x6 - x3) / sc := Int.tdiv_eq_ediv_of_nonneg y2
  have n0 : (sc == 0) = false := by simp; omega
  clear h hf he hd d1 d2 d3 d4 hhull
  obtain ⟨mem, bars, runs, laps, dems, rule⟩ := x
  obtain ⟨a1, n1, c1, a2, n2, c2, a3, n3, c3, a4, n4, c4, a5, n5, c5, a6, n6, c6⟩ := s
  obtain ⟨name, boxes, holes, cover, agg, poker⟩ := mem
  obtain ⟨r1, r2, r3, r4, r5, r6, r7, r8, r9⟩ := rule
  simp only [detCells] at K0 HW
  have k1 := K0.out.cell 1
  have k2 := K0.out.cell 2
  simp at k1 k2
  show Calls Tryz.prog 9 #[.agg #[.string name, .slice a1 n1 c1, .slice a2 n2 c2, .int .i64 cover, .int .i64 agg, .int .i64 poker, .slice a3 n3 c3, .slice a4 n4 c4, .slice a5 n5 c5, .slice a6 n6 c6, .int .i64 r1, .int .i64 r2, .int .i64 r3, .int .i64 r4, .int .i64 r5, .int .i64 r6, .int .i64 r7, .int .i64 r8, .int .i64 r9], .int .i64 sc] w _
  go_enter Tryz.func9, Tryz.ntmps9
  go_wp2_with (refine wpList_load_row rfl 34 (.tmp 2) rfl w.heap.size rfl 34 _ (0, 0) _ K0.out Tryz.underlying34 rfl Hi.out ?_)
  refine (HV.out _ HW.out).mono ?_
  rintro e w2 ⟨rfl, hb2⟩
  have K0 := hide (K0.out.keep hb2)
  have HW2 := hide (below_step HW.out hb2 (Nat.le_refl _))
  have k1 := K0.out.cell 1
  have k2 := K0.out.cell 2
  simp at k1 k2
  have kl := K0.out.lt
  clear hb2 HV HW
  go_wp2_with fail
  refine (HS.out _ HW2.out).mono ?_
  rintro e w3 ⟨rfl, hb3⟩
  have HW3 := hide (below_step HW2.out hb3 (Nat.le_refl _))
  clear hb3 HS k1 k2 kl K0 HW2 Hi
  go_wp2_with fail
  go_quiet (fail)
  go_wp2_with fail
  go_ret3
  exact ⟨rfl, below_drewN' (HW3.out.alloc HW3.out.size _) _⟩
set_option maxHeartbeats 4000000 in
set_option maxRecDepth 100000 in
theorem sectSteel_bad (x : DetD) (s : DetS) (a : Int) (w : World) {B : Nat} (h : DetAt w B x s) (hB : B ≤ w.heap.size) (hf : DetFit x s) (he : secErr x a ≠ 0) :
    Calls Tryz.prog 15 #[detV x s, .int .i64 a] w fun e w' => e = .returned (.tuple #[.int .i64 0, .int .i64 (secErr x a)]) ∧ Below w.heap.size w w' := by
  have HV := hide (fun (W : World) (hz : Below w.heap.size w W) => pieces_bad x s a W (h.carry (hz.mono hB) (Nat.le_refl _)) (Nat.le_trans hB hz.size) hf he)
  have Hi := hide (show (Tryz.prog.info? 34).map (·.size) = some 19 by kernel_rfl)
  have K0 := hide (Blk.new w 34 (detCells x.mem x.rule s))
  have HW := hide (below_new w (.cells (detCells x.mem x.rule s) 34))
  generalize secErr x a = er at *
  have e1 : (er != 0) = true := by simpa using he
  have e2 : (er == 0) = false := by simpa using he
  clear he h hf
  obtain ⟨mem, bars, runs, laps, dems, rule⟩ := x
  obtain ⟨a1, n1, c1, a2, n2, c2, a3, n3, c3, a4, n4, c4, a5, n5, c5, a6, n6, c6⟩ := s
  obtain ⟨name, boxes, holes, cover, agg, poker⟩ := mem
  obtain ⟨r1, r2, r3, r4, r5, r6, r7, r8, r9⟩ := rule
  simp only [detCells] at K0 HW
  show Calls Tryz.prog 15 #[.agg #[.string name, .slice a1 n1 c1, .slice a2 n2 c2, .int .i64 cover, .int .i64 agg, .int .i64 poker, .slice a3 n3 c3, .slice a4 n4 c4, .slice a5 n5 c5, .slice a6 n6 c6, .int .i64 r1, .int .i64 r2, .int .i64 r3, .int .i64 r4, .int .i64 r5, .int .i64 r6, .int .i64 r7, .int .i64 r8, .int .i64 r9], .int .i64 a] w _
  go_enter Tryz.func15, Tryz.ntmps15
  go_wp2_with (refine wpList_load_row rfl 34 (.tmp 2) rfl w.heap.size rfl 34 _ (0, 0) _ K0.out Tryz.underlying34 rfl Hi.out ?_)
  refine (HV.out _ HW.out).mono ?_
  rintro e w2 ⟨rfl, hb2⟩
  have HW2 := hide (below_step HW.out hb2 (Nat.le_refl _))
  clear hb2 HV K0 HW Hi
  go_wp2_with fail
  go_ret2
  exact ⟨rfl, HW2.out⟩
set_option maxHeartbeats 4000000 in
set_option maxRecDepth 100000 in
theorem sectSteel_ok (x : DetD) (s : DetS) (a : Int) (w : World) {B : Nat} (h : DetAt w B x s) (hB : B ≤ w.heap.size) (hf : DetFit x s) (he : secErr x a = 0) :
    Calls Tryz.prog 15 #[detV x s, .int .i64 a] w fun e w' => e = .returned (.tuple #[.int .i64 (steelOf (cutsOf x a)), .int .i64 0]) ∧ Below w.heap.size w w' := by
  have HV := hide (fun (W : World) (hz : Below w.heap.size w W) => pieces_ok x s a W (h.carry (hz.mono hB) (Nat.le_refl _)) (Nat.le_trans hB hz.size) hf he)
  obtain ⟨hcl, hcs⟩ := cuts_fine (detOk_parts (secErr_ok he).1).2.1 a
  have Hi := hide (show (Tryz.prog.info? 34).map (·.size) = some 19 by kernel_rfl)
  have K0 := hide (Blk.new w 34 (detCells x.mem x.rule s))
  have HW := hide (below_new w (.cells (detCells x.mem x.rule s) 34))
  generalize cutsOf x a = C at *
  obtain ⟨n, hn⟩ : ∃ n, n = C.length := ⟨_, rfl⟩
  have Hn := hide hn
  have hnb : n ≤ 12000 := by omega
  rw [← hn] at HV
  have Hcs := hide hcs
  have Hrg := hide (fun (k : Nat) => steel_range (C.take k) (fun p hp => hcs p (List.mem_of_mem_take hp)))
  clear he h hf hn hcl hcs
  obtain ⟨mem, bars, runs, laps, dems, rule⟩ := x
  obtain ⟨a1, n1, c1, a2, n2, c2, a3, n3, c3, a4, n4, c4, a5, n5, c5, a6, n6, c6⟩ := s
  obtain ⟨name, boxes, holes, cover, agg, poker⟩ := mem
  obtain ⟨r1, r2, r3, r4, r5, r6, r7, r8, r9⟩ := rule
  simp only [detCells] at K0 HW
  show Calls Tryz.prog 15 #[.agg #[.string name, .slice a1 n1 c1, .slice a2 n2 c2, .int .i64 cover, .int .i64 agg, .int .i64 poker, .slice a3 n3 c3, .slice a4 n4 c4, .slice a5 n5 c5, .slice a6 n6 c6, .int .i64 r1, .int .i64 r2, .int .i64 r3, .int .i64 r4, .int .i64 r5, .int .i64 r6, .int .i64 r7, .int .i64 r8, .int .i64 r9], .int .i64 a] w _
  go_enter Tryz.func15, Tryz.ntmps15
  go_wp2_with (refine wpList_load_row rfl 34 (.tmp 2) rfl w.heap.size rfl 34 _ (0, 0) _ K0.out Tryz.underlying34 rfl Hi.out ?_)
  refine (HV.out _ HW.out).mono ?_
  rintro e w2 ⟨A, c, rfl, hp, hb2⟩
  have HW2 := hide (below_step HW.out hb2 (Nat.le_refl _))
  have Hp := hide hp
  clear hb2 HV K0 HW Hi hp
  go_wp2_with fail
  go_loopw [8, 24] (fun v iv wr => ∃ k : Nat, k ≤ n ∧ iv = .int .i64 k ∧ (∃ t : Int, v = .int .i64 t ∧ Hid (t = steelOf (C.take k))) ∧ Below w2.heap.size w2 wr) (fun _ iv _ => n - (intOf iv).toNat)
  case atStart => exact ⟨0, Nat.zero_le _, rfl, ⟨0, rfl, hide rfl⟩, Below.refl _ _⟩
  case round =>
    obtain ⟨k, hk, rfl, ⟨t, rfl, ht⟩, hbr⟩ := hrel
    have hrg := Hrg.out k
    rw [← ht.out, List.length_take] at hrg
    by_cases hlt : k < n
    · obtain ⟨b, off, p, rfl, hbl, hx, hc⟩ := PcsAt.get (k := k) (SlOf.carry (Flat.carried _) Hp.out hbr (Nat.le_refl _)) (by rw [← Hn.out]; exact hlt)
      have hsz := Hcs.out p (mem_of_get hx)
      have har := area_range hsz
      have Hnx := hide (show steelOf (C.take (k + 1)) = t + steelOne p by rw [take_snoc' hx, steelOf_snoc, ht.out])
      have HA := hide (fun W => area_ok p.size W hsz)
      obtain ⟨⟨⟨x1, x2, x3⟩, x4, x5, x6⟩, br, sz, cr⟩ := p
      have p0 := hc 0 _ rfl
      have p1 := hc 1 _ rfl
      have p2 := hc 2 _ rfl
      have p3 := hc 3 _ rfl
      have p4 := hc 4 _ rfl
      have p5 := hc 5 _ rfl
      have p6 := hc 6 _ rfl
      have p7 := hc 7 _ rfl
      have p8 := hc 8 _ rfl
      simp only [Nat.add_zero] at p0 p1 p2 p3 p4 p5 p6 p7 p8 Hnx HA har
      have hrs := hbr.size
      have HB := hide (hbr.alloc hbr.size (.cells #[.int .i64 x1, .int .i64 x2, .int .i64 x3, .int .i64 x4, .int .i64 x5, .int .i64 x6, .int .i64 br, .int .i64 sz, .bool cr] 98))
      have Hst := hide (show steelOne ⟨⟨(x1, x2, x3), x4, x5, x6⟩, br, sz, true⟩ = areaOf sz from rfl)
      generalize areaOf sz = ar at *
      clear hx hbl hc hsz hbr ht
      cases cr
      · have Hnx := hide (show steelOf (C.take (k + 1)) = t by rw [Hnx.out]; simp [steelOne])
        go_wp2_with fail
        go_roundw
        case rel => exact ⟨k + 1, by omega, by go_num, ⟨t, rfl, hide Hnx.out.symm⟩, HB.out⟩
        case measure => simp [intOf]; omega
      · go_wp2_with fail
        refine (HA.out _).mono ?_
        rintro e w5 ⟨rfl, hb5⟩
        have HB := hide (below_step HB.out hb5 (Nat.le_refl _))
        clear hb5 HA p0 p1 p2 p3 p4 p5 p6 p7 p8
        go_wp2_with fail
        go_roundw
        case rel => exact ⟨k + 1, by omega, by go_num, ⟨_, rfl, hide (by rw [Hnx.out, Hst.out])⟩, HB.out⟩
        case measure => simp [intOf]; omega
    · obtain rfl : k = n := by omega
      have Hfin := hide (show steelOf C = t by rw [ht.out, Hn.out, List.take_length])
      have HB := hide (below_step HW2.out hbr (Nat.le_refl _))
      clear hbr ht hrg
      go_wp2_with fail
      go_ret2
      exact ⟨by rw [Hfin.out]; rfl, HB.out⟩
end Go.Proofs.YtmcjpdlkkpnhfaaGreat
namespace Go.Proofs.YtmcjpdlkkpnhfaaGreat
open Go.RowKit

theorem Row.drewN {α : Type} {w : World} {base size : Nat} {e : TypeId} {enc : α → List Value} {v : Value} {l : List α} (h : Row w base e size enc v l) (n : Nat) : Row (w.drewN n) base e size enc v l := h
theorem Blk.new1d (w : World) (o : Obj) (n : Nat) (t : TypeId) (cs : Array Value) : Blk (((w.alloc o).drewN n).alloc (.cells cs t)) (w.heap.size + 1) t cs := by
  have := heap_alloc_new ((w.alloc o).drewN n) (.cells cs t)
  simpa [Blk] using this
set_option maxHeartbeats 4000000 in
set_option maxRecDepth 100000 in
theorem sectBars_bad (x : DetD) (s : DetS) (a : Int) (w : World) {B : Nat} (h : DetAt w B x s) (hB : B ≤ w.heap.size) (hf : DetFit x s) (he : secErr x a ≠ 0) :
    Calls Tryz.prog 22 #[detV x s, .int .i64 a] w fun e w' => e = .returned (.tuple #[.slice none 0 0, .int .i64 (secErr x a)]) ∧ Below w.heap.size w w' := by
  have HV := hide (fun (W : World) (hz : Below w.heap.size w W) => pieces_bad x s a W (h.carry (hz.mono hB) (Nat.le_refl _)) (Nat.le_trans hB hz.size) hf he)
  have Hi := hide (show (Tryz.prog.info? 34).map (·.size) = some 19 by kernel_rfl)
  have K0 := hide (Blk.new w 34 (detCells x.mem x.rule s))
  have HW := hide (below_new w (.cells (detCells x.mem x.rule s) 34))
  generalize secErr x a = er at *
  have e1 : (er != 0) = true := by simpa using he
  have e2 : (er == 0) = false := by simpa using he
  clear he h hf
  obtain ⟨mem, bars, runs, laps, dems, rule⟩ := x
  obtain ⟨a1, n1, c1, a2, n2, c2, a3, n3, c3, a4, n4, c4, a5, n5, c5, a6, n6, c6⟩ := s
  obtain ⟨name, boxes, holes, cover, agg, poker⟩ := mem
  obtain ⟨r1, r2, r3, r4, r5, r6, r7, r8, r9⟩ := rule
  simp only [detCells] at K0 HW
  show Calls Tryz.prog 22 #[.agg #[.string name, .slice a1 n1 c1, .slice a2 n2 c2, .int .i64 cover, .int .i64 agg, .int .i64 poker, .slice a3 n3 c3, .slice a4 n4 c4, .slice a5 n5 c5, .slice a6 n6 c6, .int .i64 r1, .int .i64 r2, .int .i64 r3, .int .i64 r4, .int .i64 r5, .int .i64 r6, .int .i64 r7, .int .i64 r8, .int .i64 r9], .int .i64 a] w _
  go_enter Tryz.func22, Tryz.ntmps22
  go_wp2_with (refine wpList_load_row rfl 34 (.tmp 2) rfl w.heap.size rfl 34 _ (0, 0) _ K0.out Tryz.underlying34 rfl Hi.out ?_)
  refine (HV.out _ HW.out).mono ?_
  rintro e w2 ⟨rfl, hb2⟩
  have HW2 := hide (below_step HW.out hb2 (Nat.le_refl _))
  clear hb2 HV K0 HW Hi
  go_wp2_with fail
  go_ret2
  exact ⟨rfl, HW2.out⟩
set_option maxHeartbeats 4000000 in
set_option maxRecDepth 100000 in
theorem sectBars_ok (x : DetD) (s : DetS) (a : Int) (w : World) {B : Nat} (h : DetAt w B x s) (hB : B ≤ w.heap.size) (hf : DetFit x s) (he : secErr x a = 0) :
    Calls Tryz.prog 22 #[detV x s, .int .i64 a] w fun e w' => ∃ A c, e = .returned (.tuple #[.slice A (barsOf (cutsOf x a)).length c, .int .i64 0]) ∧ (∃ b0, Row w' b0 3 1 encInt (.slice A (barsOf (cutsOf x a)).length c) (barsOf (cutsOf x a))) ∧ Below w.heap.size w w' := by
  have HV := hide (fun (W : World) (hz : Below w.heap.size w W) => pieces_ok x s a W (h.carry (hz.mono hB) (Nat.le_refl _)) (Nat.le_trans hB hz.size) hf he)
  obtain ⟨hcl, _⟩ := cuts_fine (detOk_parts (secErr_ok he).1).2.1 a
  have Hi := hide (show (Tryz.prog.info? 34).map (·.size) = some 19 by kernel_rfl)
  have K0 := hide (Blk.new w 34 (detCells x.mem x.rule s))
  have HW := hide (below_new w (.cells (detCells x.mem x.rule s) 34))
  generalize cutsOf x a = C at *
  obtain ⟨BC, hBC⟩ : ∃ BC, BC = barsOf C := ⟨_, rfl⟩
  rw [← hBC]
  have HBC := hide hBC
  clear hBC
  obtain ⟨n, hn⟩ : ∃ n, n = C.length := ⟨_, rfl⟩
  have Hn := hide hn
  have hnb : n ≤ 12000 := by omega
  rw [← hn] at HV
  clear he h hf hn hcl
  obtain ⟨mem, bars, runs, laps, dems, rule⟩ := x
  obtain ⟨a1, n1, c1, a2, n2, c2, a3, n3, c3, a4, n4, c4, a5, n5, c5, a6, n6, c6⟩ := s
  obtain ⟨name, boxes, holes, cover, agg, poker⟩ := mem
  obtain ⟨r1, r2, r3, r4, r5, r6, r7, r8, r9⟩ := rule
  simp only [detCells] at K0 HW
  show Calls Tryz.prog 22 #[.agg #[.string name, .slice a1 n1 c1, .slice a2 n2 c2, .int .i64 cover, .int .i64 agg, .int .i64 poker, .slice a3 n3 c3, .slice a4 n4 c4, .slice a5 n5 c5, .slice a6 n6 c6, .int .i64 r1, .int .i64 r2, .int .i64 r3, .int .i64 r4, .int .i64 r5, .int .i64 r6, .int .i64 r7, .int .i64 r8, .int .i64 r9], .int .i64 a] w _
  go_enter Tryz.func22, Tryz.ntmps22
  go_wp2_with (refine wpList_load_row rfl 34 (.tmp 2) rfl w.heap.size rfl 34 _ (0, 0) _ K0.out Tryz.underlying34 rfl Hi.out ?_)
  refine (HV.out _ HW.out).mono ?_
  rintro e w2 ⟨A, c, rfl, hp, hb2⟩
  have hs2 : w.heap.size ≤ w2.heap.size := (below_step HW.out hb2 (Nat.le_refl _)).size
  have HW2 := hide (below_step HW.out hb2 (Nat.le_refl _))
  have Hp := hide hp
  clear hb2 HV K0 HW Hi hp
  go_wp2_with fail
  go_loopw [8, 23] (fun v iv wr => ∃ k : Nat, k ≤ n ∧ iv = .int .i64 k ∧ (∃ acc : List Int, Hid (Row wr w2.heap.size 3 1 encInt v acc) ∧ Hid (acc = barsOf (C.take k))) ∧ Below w2.heap.size w2 wr) (fun _ iv _ => n - (intOf iv).toNat)
  case atStart => exact ⟨0, Nat.zero_le _, rfl, ⟨[], hide (Row.nil _ _ _ _ _), hide rfl⟩, Below.refl _ _⟩
  case round =>
    obtain ⟨k, hk, rfl, ⟨acc, hrow, hacc⟩, hbr⟩ := hrel
    obtain ⟨A0, c0, rfl⟩ := hrow.out.val
    have hal : acc.length ≤ 12000 := by
      rw [hacc.out]
      refine Nat.le_trans (barsOf_len _) ?_
      rw [List.length_take]
      omega
    by_cases hlt : k < n
    · obtain ⟨b, off, p, rfl, hbl, hx, hc⟩ := PcsAt.get (k := k) (SlOf.carry (Flat.carried _) Hp.out hbr (Nat.le_refl _)) (by rw [← Hn.out]; exact hlt)
      have Hnx := hide (show barsOf (C.take (k + 1)) = if acc.getLast? = some p.bar then acc else acc ++ [p.bar] by rw [take_snoc' hx, barsOf_snoc, hacc.out]; rfl)
      obtain ⟨⟨⟨x1, x2, x3⟩, x4, x5, x6⟩, br, sz, cr⟩ := p
      have p0 := hc 0 _ rfl
      have p1 := hc 1 _ rfl
      have p2 := hc 2 _ rfl
      have p3 := hc 3 _ rfl
      have p4 := hc 4 _ rfl
      have p5 := hc 5 _ rfl
      have p6 := hc 6 _ rfl
      have p7 := hc 7 _ rfl
      have p8 := hc 8 _ rfl
      simp only [Nat.add_zero] at p0 p1 p2 p3 p4 p5 p6 p7 p8 Hnx
      have hrs := hbr.size
      have HB := hide (hbr.alloc hbr.size (.cells #[.int .i64 x1, .int .i64 x2, .int .i64 x3, .int .i64 x4, .int .i64 x5, .int .i64 x6, .int .i64 br, .int .i64 sz, .bool cr] 98))
      have KP := hide (Blk.new wr 98 #[.int .i64 x1, .int .i64 x2, .int .i64 x3, .int .i64 x4, .int .i64 x5, .int .i64 x6, .int .i64 br, .int .i64 sz, .bool cr])
      have Hrow := hide (hrow.out.alloc (.cells #[.int .i64 x1, .int .i64 x2, .int .i64 x3, .int .i64 x4, .int .i64 x5, .int .i64 x6, .int .i64 br, .int .i64 sz, .bool cr] 98))
      clear hx hbl hc hbr
      have hway : (acc = [] ∧ acc.getLast? = none) ∨ (∃ (m : Nat) (z : Int), acc.length = m + 1 ∧ acc[m]? = some z ∧ acc.getLast? = some z) := by
        rcases List.eq_nil_or_concat acc with h | ⟨l, z, h⟩
        · exact .inl ⟨h, by rw [h]; rfl⟩
        · refine .inr ⟨l.length, z, ?_, ?_, ?_⟩ <;> rw [h] <;> simp
      rcases hway with ⟨h0, hl⟩ | ⟨m, z, hm, hz, hl⟩
      · have hnew := hide (show barsOf (C.take (k + 1)) = acc ++ [br] by rw [Hnx.out, hl, h0]; rfl)
        have d0 : ((acc.length : Int) == 0) = true := by rw [h0]; rfl
        clear hl Hnx hacc hrow h0
        go_wp2_with fail
        go_quiet (fail)
        go_wp2_with (at_builtin; refine wpList_append1 rfl (.tmp 41) (.tmp 44) 55 rfl w2.heap.size 3 (.int .i64 0) 1 8 encInt Tryz.underlying55 (by kernel_rfl) rfl (by omega) encInt_len encInt_one _ acc br rfl (Row.alloc (Row.drewN Hrow.out _) _) _ rfl (Blk.new1d wr _ _ _ _) (by omega) (by omega) (le_alloc (le_alloc hrs _) _) ?_; intro A9 c9 w9 hrow9 hb9 _)
        go_roundw
        case rel => exact ⟨k + 1, by omega, by go_num, ⟨acc ++ [br], hide (by simpa using hrow9), hide hnew.out.symm⟩, ((below_drewN' HB.out _).alloc (le_alloc hrs _) _).trans hb9⟩
        case measure => simp [intOf]; omega
      · obtain ⟨b', off', z', hA', hbl', hz', e0⟩ := Ints.get (k := m) (Row.read Hrow.out encInt_len (by omega)) (by omega)
        rw [hz] at hz'
        injection hz' with hz'
        subst hz'
        subst hA'
        have hlb := hbl'
        have d0 : ((acc.length : Int) == 0) = false := by rw [hm]; simp; omega
        have z1 : IntKind.i64.wrap ((acc.length : Int) - 1) = (m : Int) := by rw [hm, Int.natCast_add]; exact (IntWalk.i64_in _ (by omega)).trans (by omega)
        have z3 : (acc.length : Int) - 1 = (m : Int) := by omega
        have z2 : IntKind.i64.wrap (m : Int) = (m : Int) := IntWalk.i64_in _ (by omega)
        have z4 : m < acc.length := by omega
        have Hacc := hide hacc.out
        have Hl := hide hl
        clear hm hz hacc hbl' hrow hl
        by_cases hzb : z = br
        · subst hzb
          have hnew := hide (show barsOf (C.take (k + 1)) = acc by rw [Hnx.out, if_pos Hl.out])
          have t0 : (z != z) = false := by simp
          clear Hl Hnx
          go_wp2_with fail
          go_quiet (fail)
          go_wp2_with fail
          go_roundw
          case rel => exact ⟨k + 1, by omega, by go_num, ⟨acc, hide (Row.drewN Hrow.out _), hide hnew.out.symm⟩, below_drewN' HB.out _⟩
          case measure => simp [intOf]; omega
        · have hnew := hide (show barsOf (C.take (k + 1)) = acc ++ [br] by rw [Hnx.out, if_neg (by rw [Hl.out]; simpa using hzb)])
          have t0 : (z != br) = true := by simpa using hzb
          clear Hl Hnx hzb
          go_wp2_with fail
          go_quiet (fail)
          go_wp2_with (at_builtin; refine wpList_append1 rfl (.tmp 41) (.tmp 44) 55 rfl w2.heap.size 3 (.int .i64 0) 1 8 encInt Tryz.underlying55 (by kernel_rfl) rfl (by omega) encInt_len encInt_one _ acc br rfl (Row.alloc (Row.drewN Hrow.out _) _) _ rfl (Blk.new1d wr _ _ _ _) (by omega) (by omega) (le_alloc (le_alloc hrs _) _) ?_; intro A9 c9 w9 hrow9 hb9 _)
          go_roundw
          case rel => exact ⟨k + 1, by omega, by go_num, ⟨acc ++ [br], hide (by simpa using hrow9), hide hnew.out.symm⟩, ((below_drewN' HB.out _).alloc (le_alloc hrs _) _).trans hb9⟩
          case measure => simp [intOf]; omega
    · obtain rfl : k = n := by omega
      have Hfin : acc = BC := by rw [hacc.out, Hn.out, List.take_length, HBC.out]
      subst Hfin
      have HB := hide (below_step HW2.out hbr (Nat.le_refl _))
      clear hbr hacc
      go_wp2_with fail
      go_ret2
      exact ⟨A0, c0, rfl, ⟨w2.heap.size, hrow.out⟩, HB.out⟩
end Go.Proofs.YtmcjpdlkkpnhfaaGreat
namespace Go.Proofs.YtmcjpdlkkpnhfaaGreat
open Go.RowKit

def byteV (b : UInt8) : Value := .int .u8 (b.toNat : Int)
/-- The header's block g, and the first rows of the drawing. -/
def GridAt (w : World) (base g rows cols done : Nat) (G : Nat → Nat → UInt8) : Prop :=
  ∃ (hdr : Array Value) (ad : Nat → Nat), Blk w g 92 hdr ∧ hdr.size = rows ∧
    (∀ k, k < done → hdr[k]? = some (.slice (some ⟨ad k, 0, none⟩) cols cols) ∧ base ≤ ad k ∧ ∃ cs : Array Value, Blk w (ad k) 5 cs ∧ ∀ c, c < cols → cs[c]? = some (byteV (G k c))) ∧
    (∀ i j, i < done → j < done → ad i = ad j → i = j)
section
variable {w w' : World} {base g rows cols done : Nat} {G G' : Nat → Nat → UInt8}
theorem GridAt.start {hdr : Array Value} (h : Blk w g 92 hdr) (hs : hdr.size = rows) : GridAt w base g rows cols 0 G :=
  ⟨hdr, fun _ => 0, h, hs, fun k hk => absurd hk (by omega), fun i j hi => absurd hi (by omega)⟩
theorem GridAt.keep (h : GridAt w base g rows cols done G) (hb : Below w.heap.size w w') : GridAt w' base g rows cols done G := by
  obtain ⟨hdr, ad, h1, h2, h3, h4⟩ := h
  refine ⟨hdr, ad, h1.keep hb, h2, fun k hk => ?_, h4⟩
  obtain ⟨a, b, cs, c, d⟩ := h3 k hk
  exact ⟨a, b, cs, c.keep hb, d⟩
theorem GridAt.congr (h : GridAt w base g rows cols done G) (hg : ∀ k c, k < done → c < cols → G k c = G' k c) : GridAt w base g rows cols done G' := by
  obtain ⟨hdr, ad, h1, h2, h3, h4⟩ := h
  refine ⟨hdr, ad, h1, h2, fun k hk => ?_, h4⟩
  obtain ⟨a, b, cs, c, d⟩ := h3 k hk
  exact ⟨a, b, cs, c, fun q hq => by rw [← hg k q hk hq]; exact d q hq⟩
theorem GridAt.head (h : GridAt w base g rows cols done G) : g < w.heap.size := by
  obtain ⟨hdr, ad, h1, _⟩ := h
  exact h1.lt
/-- A row: its slice, its block, its cells. -/
theorem GridAt.row (h : GridAt w base g rows cols done G) {k : Nat} (hk : k < done) :
    ∃ a, w.cell? ⟨g, k, none⟩ = some (.slice (some ⟨a, 0, none⟩) cols cols) ∧ base ≤ a ∧ a < w.heap.size ∧ ∃ cs : Array Value, Blk w a 5 cs ∧ ∀ c, c < cols → cs[c]? = some (byteV (G k c)) := by
  obtain ⟨hdr, ad, h1, _, h3, _⟩ := h
  obtain ⟨a, b, cs, c, d⟩ := h3 k hk
  exact ⟨ad k, by rw [h1.cell]; exact a, b, c.lt, cs, c, d⟩
theorem blk_type {w : World} {g : Nat} {t t' : TypeId} {cs cs' : Array Value} (h : Blk w g t cs) (h' : Blk w g t' cs') : t = t' := by
  unfold Blk at h h'
  rw [h] at h'
  injection h' with h'
  injection h'
/-- One more row, in a block that has just been made. -/
theorem GridAt.more (h : GridAt w base g rows cols done G) (hb : Below w.heap.size w w') {b : Nat} {cs : Array Value} (hbb : w.heap.size ≤ b) (hbase : base ≤ w.heap.size) (hbk : Blk w' b 5 cs) (hd : done < rows) {r : Nat → UInt8} (hc : ∀ c, c < cols → cs[c]? = some (byteV (r c))) :
    GridAt (w'.setCell ⟨g, done, none⟩ (.slice (some ⟨b, 0, none⟩) cols cols)) base g rows cols (done + 1) (fun k c => if k = done then r c else G k c) := by
  obtain ⟨hdr, ad, h1, h2, h3, h4⟩ := h
  have hgw := h1.lt
  have hne : ∀ k, k < done → ad k ≠ g := fun k hk he => by
    obtain ⟨_, _, cs, c, _⟩ := h3 k hk
    rw [he] at c
    exact absurd (blk_type c h1) (by decide)
  refine ⟨hdr.setIfInBounds done (.slice (some ⟨b, 0, none⟩) cols cols), fun k => if k = done then b else ad k, (h1.keep hb).set_ _ _, by simpa using h2, fun k hk => ?_, fun i j hi hj he => ?_⟩
  · by_cases hkd : k = done
    · subst hkd
      dsimp only
      rw [if_pos rfl]
      refine ⟨by rw [Array.getElem?_setIfInBounds_self, if_pos (by omega)], by omega, cs, hbk.far (p := ⟨g, k, none⟩) (by simp; omega) _, fun c hc' => ?_⟩
      rw [if_pos rfl]
      exact hc c hc'
    · dsimp only
      rw [if_neg hkd]
      obtain ⟨a, b', cs', c, d⟩ := h3 k (by omega)
      refine ⟨by rw [Array.getElem?_setIfInBounds_ne (Ne.symm hkd)]; exact a, b', cs', (c.keep hb).far (p := ⟨g, done, none⟩) (hne k (by omega)) _, fun q hq => ?_⟩
      rw [if_neg hkd]
      exact d q hq
  · by_cases h5 : i = done
    · by_cases h6 : j = done
      · omega
      · simp only [h5, if_pos, if_neg h6] at he
        obtain ⟨_, _, _, c, _⟩ := h3 j (by omega)
        have := c.lt
        omega
    · by_cases h6 : j = done
      · simp only [h6, if_pos, if_neg h5] at he
        obtain ⟨_, _, _, c, _⟩ := h3 i (by omega)
        have := c.lt
        omega
      · simp only [if_neg h5, if_neg h6] at he
        exact h4 i j (by omega) (by omega) he
/-- Another sign in a cell. -/
theorem GridAt.put (h : GridAt w base g rows cols done G) {k c a : Nat} (hk : k < done) (hc : c < cols) (ha : w.cell? ⟨g, k, none⟩ = some (.slice (some ⟨a, 0, none⟩) cols cols)) (b : UInt8) :
    GridAt (w.setCell ⟨a, c, none⟩ (byteV b)) base g rows cols done (setG k c b G) := by
  obtain ⟨hdr, ad, h1, h2, h3, h4⟩ := h
  have hak : a = ad k := by
    obtain ⟨h5, _⟩ := h3 k hk
    rw [h1.cell, h5] at ha
    injection ha with ha
    injection ha with ha
    injection ha with ha
    injection ha with ha
    exact ha.symm
  subst hak
  have hg : g ≠ ad k := fun he => by
    obtain ⟨_, _, cs, c, _⟩ := h3 k hk
    rw [← he] at c
    exact absurd (blk_type c h1) (by decide)
  refine ⟨hdr, ad, h1.far (p := ⟨ad k, c, none⟩) hg _, h2, fun q hq => ?_, h4⟩
  obtain ⟨e1, e2, cs, e3, e4⟩ := h3 q hq
  by_cases hqk : q = k
  · subst hqk
    refine ⟨e1, e2, cs.setIfInBounds c (byteV b), e3.set_ _ _, fun d hd => ?_⟩
    have hsz : c < cs.size := by
      have := e4 c hc
      rcases Nat.lt_or_ge c cs.size with h9 | h9
      · exact h9
      · rw [Array.getElem?_eq_none h9] at this; cases this
    unfold setG
    by_cases hdc : d = c
    · subst hdc
      rw [Array.getElem?_setIfInBounds_self, if_pos hsz, if_pos ⟨rfl, rfl⟩]
    · rw [Array.getElem?_setIfInBounds_ne (Ne.symm hdc), if_neg (fun h9 => hdc h9.2)]
      exact e4 d hd
  · refine ⟨e1, e2, cs, e3.far (p := ⟨ad k, c, none⟩) (fun he => hqk (h4 q k hq hk he)) _, fun d hd => ?_⟩
    unfold setG
    rw [if_neg (fun h9 => hqk h9.1)]
    exact e4 d hd
end
end Go.Proofs.YtmcjpdlkkpnhfaaGreat
namespace Go.Proofs.YtmcjpdlkkpnhfaaGreat
open Go.RowKit

theorem wp_appendL {α : Type} {P : Program} {w : World} {o : Oper} {a : Act} {K : Act → World → Prop} {Q : Exit → Act → World → Prop} (s x : Operand) (t : TypeId)
    (ho : o.op = .call { callee := .builtin .append, args := #[s, x], argTypes := #[t, t] }) (base : Nat) (e : TypeId) (z : Value) (size bytes : Nat) (enc : α → List Value)
    (ht : P.underlying t = some (.slice e)) (hi : (P.info? e).map (fun i => (i.zero, i.size, i.bytes)) = some (some z, size, bytes)) (hzs : z.cells.size = size) (hsz : 0 < size) (he : ∀ x, (enc x).length = size) (h1 : ∀ x, ∀ u ∈ enc x, u.oneCell' = true)
    (v : Value) (l ys : List α) (hs : a.eval s = v) (hown : Row w base e size enc v l) (g m c : Nat) (hx : a.eval x = .slice (some ⟨g, 0, none⟩) m c) (hm : m = ys.length) (hcs : ∀ j u, (ys.flatMap enc)[j]? = some u → w.cell? ⟨g, j, none⟩ = some u)
    (hn : l.length ≤ 1000000) (hy : ys.length ≤ 1000000) (hby : bytes ≤ 1000) (hbase : base ≤ w.heap.size)
    (h : ∀ A c w', Row w' base e size enc (.slice A (l.length + m) c) (l ++ ys) → Below base w w' → (∀ g' t' cs', t' ≠ e → Blk w g' t' cs' → Blk w' g' t' cs') → K (a.put o.dst (.slice A (l.length + m) c)) w') : o.wp P a w K Q := by
  obtain ⟨i, hi0, hz, h2, h3⟩ := info_parts hi
  have hmm : (l.length + m) * bytes ≤ 2000000 * 1000 := Nat.mul_le_mul (by omega) hby
  refine wp_append_own w s x t ho base e i z size bytes ht hi0 hz h2 h3 hzs hsz v l.length (l.flatMap enc) hs hown ⟨g, 0, none⟩ m c (ys.flatMap enc) hx (by rw [flatMap_len he, hm]) ?_ ?_ (by unfold maxLen; omega) (by omega) hbase ?_
  · intro j u hu
    have hadd : (⟨g, 0, none⟩ : Addr).add j = ⟨g, j, none⟩ := by unfold Addr.add; split <;> simp_all
    rw [hadd]
    exact hcs j u hu
  · intro u hu
    obtain ⟨y, _, hy⟩ := List.mem_flatMap.1 hu
    exact h1 y u hy
  · intro v' w' hown' hg _
    have hR : Row w' base e size enc v' (l ++ ys) := by
      unfold Row
      rw [List.flatMap_append, List.length_append, ← hm]
      exact hown'
    obtain ⟨A, c, hv⟩ := hR.val
    rw [List.length_append, ← hm] at hv
    subst hv
    refine h A c w' hR ((Below.refl base w).grown hg hbase (fun k hk => (hown.lt k hk).1)) (fun g' t' cs' hne hb' => hb'.grown hg ?_)
    intro he'
    rcases hown.2 with ⟨hv, _⟩ | ⟨g2, cap, cur, hv, _, hh, _⟩
    · rw [hv] at he'; simp [Value.ownBlock] at he'
    · rw [hv] at he'
      simp [Value.ownBlock] at he'
      subst he'
      unfold Blk at hb'
      rw [hh] at hb'
      injection hb' with hb'
      injection hb' with _ ht'
      exact hne ht'.symm
theorem wpList_appendL {α : Type} {P : Program} {w : World} {ops : Array Oper} {rest : List Oper} {o : Oper} {a : Act} {Q : Exit → Act → World → Prop} (hgd : o.guard = none) (s x : Operand) (t : TypeId)
    (ho : o.op = .call { callee := .builtin .append, args := #[s, x], argTypes := #[t, t] }) (base : Nat) (e : TypeId) (z : Value) (size bytes : Nat) (enc : α → List Value)
    (ht : P.underlying t = some (.slice e)) (hi : (P.info? e).map (fun i => (i.zero, i.size, i.bytes)) = some (some z, size, bytes)) (hzs : z.cells.size = size) (hsz : 0 < size) (he : ∀ x, (enc x).length = size) (h1 : ∀ x, ∀ u ∈ enc x, u.oneCell' = true)
    (v : Value) (l ys : List α) (hs : a.eval s = v) (hown : Row w base e size enc v l) (g m c : Nat) (hx : a.eval x = .slice (some ⟨g, 0, none⟩) m c) (hm : m = ys.length) (hcs : ∀ j u, (ys.flatMap enc)[j]? = some u → w.cell? ⟨g, j, none⟩ = some u)
    (hn : l.length ≤ 1000000) (hy : ys.length ≤ 1000000) (hby : bytes ≤ 1000) (hbase : base ≤ w.heap.size)
    (h : ∀ A c w', Row w' base e size enc (.slice A (l.length + m) c) (l ++ ys) → Below base w w' → (∀ g' t' cs', t' ≠ e → Blk w g' t' cs' → Blk w' g' t' cs') → wpList P ops Q rest (a.put o.dst (.slice A (l.length + m) c)) w') : wpList P ops Q (o :: rest) a w :=
  wpList_plain hgd fun _ hK => wp_appendL s x t ho base e z size bytes enc ht hi hzs hsz he h1 v l ys hs hown g m c hx hm hcs hn hy hby hbase fun A c w' h2 h3 h4 => hK _ _ (h A c w' h2 h3 h4)
theorem step_appendL {α : Type} {P : Program} {w : World} {ops : Array Oper} {o : Oper} {a : Act} {K : Act → World → Prop} {Q : Exit → Act → World → Prop} {E : Prop} (hgd : o.guard = none) (s x : Operand) (t : TypeId)
    (ho : o.op = .call { callee := .builtin .append, args := #[s, x], argTypes := #[t, t] }) (base : Nat) (e : TypeId) (z : Value) (size bytes : Nat) (enc : α → List Value)
    (ht : P.underlying t = some (.slice e)) (hi : (P.info? e).map (fun i => (i.zero, i.size, i.bytes)) = some (some z, size, bytes)) (hzs : z.cells.size = size) (hsz : 0 < size) (he : ∀ x, (enc x).length = size) (h1 : ∀ x, ∀ u ∈ enc x, u.oneCell' = true)
    (v : Value) (l ys : List α) (hs : a.eval s = v) (hown : Row w base e size enc v l) (g m c : Nat) (hx : a.eval x = .slice (some ⟨g, 0, none⟩) m c) (hm : m = ys.length) (hcs : ∀ j u, (ys.flatMap enc)[j]? = some u → w.cell? ⟨g, j, none⟩ = some u)
    (hn : l.length ≤ 1000000) (hy : ys.length ≤ 1000000) (hby : bytes ≤ 1000) (hbase : base ≤ w.heap.size)
    (h : ∀ A c w', Row w' base e size enc (.slice A (l.length + m) c) (l ++ ys) → Below base w w' → (∀ g' t' cs', t' ≠ e → Blk w g' t' cs' → Blk w' g' t' cs') → K (a.put o.dst (.slice A (l.length + m) c)) w') : if Region.wanted o (yielded ops a.tmps) = true then Oper.wp P o a w K Q else E := by
  have hw : Region.wanted o (yielded ops a.tmps) = true := by simp [Region.wanted, hgd]
  rw [if_pos hw]
  exact wp_appendL s x t ho base e z size bytes enc ht hi hzs hsz he h1 v l ys hs hown g m c hx hm hcs hn hy hby hbase h
/-- Bytes, as elements. -/
def encU8 (b : UInt8) : List Value := [byteV b]
theorem encU8_len (b : UInt8) : (encU8 b).length = 1 := rfl
theorem encU8_one (b : UInt8) : ∀ u ∈ encU8 b, u.oneCell' = true := by
  intro u hu
  simp [encU8, byteV] at hu
  subst hu
  rfl
theorem encU8_flat (l : List UInt8) : l.flatMap encU8 = l.map byteV := by
  induction l with
  | nil => rfl
  | cons x l ih => rw [List.flatMap_cons, List.map_cons, ih]; rfl
/-- The text of a row of bytes. -/
theorem run_row_text {w : World} {base n c : Nat} {A : Option Addr} {l : List UInt8} (h : Row w base 5 1 encU8 (.slice A n c) l) (hn : 0 < l.length) :
    (convert 92 9 (.slice A l.length c)).run Tryz.prog w = .ok (.string ⟨l.toArray⟩) w := by
  obtain ⟨b, off, rfl, _, hc⟩ := Row.read h encU8_len (by omega) hn
  refine run_convert_bytes_back w 92 9 5 ⟨b, off, none⟩ c l Tryz.underlying92 Tryz.underlying5 Tryz.underlying9 (fun j hj => ?_)
  obtain ⟨vs, _, hr, hcell⟩ := hc j l[j] (List.getElem?_eq_getElem hj)
  have hr' : vs = encU8 l[j] := hr
  subst hr'
  have h9 := hcell 0 (byteV l[j]) rfl
  have hadd : (⟨b, off, none⟩ : Addr).add j = ⟨b, off + j, none⟩ := by unfold Addr.add; split <;> simp_all
  rw [hadd]
  simpa [byteV] using h9
theorem row_cells {G : Nat → UInt8} {C : Nat} {cs : Array Value} (h : ∀ c, c < C → cs[c]? = some (byteV (G c))) : ∀ (j : Nat) (u : Value), (((List.range C).map G).flatMap encU8)[j]? = some u → cs[j]? = some u := by
  intro j u hu
  rw [encU8_flat, List.map_map, List.getElem?_map] at hu
  by_cases hj : j < C
  · rw [List.getElem?_range hj] at hu
    rw [h j hj]
    simpa using hu
  · rw [List.getElem?_eq_none (by simpa using hj)] at hu
    cases hu
end Go.Proofs.YtmcjpdlkkpnhfaaGreat
