/- The law PlanCoarser: a cell of twice the scale has the marks of the four cells in its place. The law's argument: bars as they came in. Arguments opened: a slice of elements, for any kind of element. -/
import Derived.Test.YtpmipoljnchheaaGreatMaq
import Derived.Test.YtpmipoljnchheaaGreatMat
import Derived.Test.YtpmipoljnchheaaGreatMar
import Derived.Test.YtpmipoljnchheaaGreatMas
import Derived.BigQuiet
import Derived.Test.YtpmipoljnchheaaGreatMab
import Derived.Deep.Slices
import Derived.Deep.Fields
import Derived.ChangeSame
import Derived.ChangeSlices
namespace Go.Proofs.YtpmipoljnchheaaGreat
open Go.RowKit Go.Maps

theorem rem_range' {i : Int} {n : Int} (h0 : 0 ≤ i) (hn : 1 ≤ n) : ∃ k : Nat, i % n = (k : Int) ∧ Int.tmod i n = (k : Int) ∧ (k : Int) < n := by
  have h1 := Int.emod_nonneg i (show n ≠ 0 by omega)
  have h2 := Int.emod_lt_of_pos i (show (0 : Int) < n by omega)
  obtain ⟨k, hk⟩ := Int.eq_ofNat_of_zero_le h1
  exact ⟨k, hk, by rw [Int.tmod_eq_emod_of_nonneg h0, hk], by omega⟩
/-- What the cells visited so far have given. -/
def Visited (F : Int → Int → List ByteArray) (wh : Bool) (acc : List ByteArray) (q p r c : Nat) : Prop :=
  wh = true → ∀ i j : Nat, 2 * q ≤ i → i < 2 * q + 2 → 2 * p ≤ j → j < 2 * p + 2 → (i < r ∨ (i = r ∧ j < c)) → ∀ m ∈ F i j, m ∈ acc
theorem Visited.row {F : Int → Int → List ByteArray} {wh : Bool} {acc : List ByteArray} {q p r : Nat} (h : Visited F wh acc q p r (2 * p + 2)) : Visited F wh acc q p (r + 1) (2 * p) := by
  intro hw i j h1 h2 h3 h4 h5 m hm
  refine h hw i j h1 h2 h3 h4 ?_ m hm
  rcases h5 with h5 | ⟨h5, h6⟩
  · by_cases he : i = r
    · exact .inr ⟨he, h4⟩
    · exact .inl (by omega)
  · omega
theorem Visited.no {F : Int → Int → List ByteArray} {acc : List ByteArray} {q p r c : Nat} : Visited F false acc q p r c := fun h => by cases h
theorem Visited.cell {F : Int → Int → List ByteArray} {wh : Bool} {acc acc2 : List ByteArray} {q p r c : Nat} (h : Visited F wh acc q p r c) (hs : ∀ m ∈ acc, m ∈ acc2) (hn : ∀ m ∈ F r c, m ∈ acc2) : Visited F wh acc2 q p r (c + 1) := by
  intro hw i j h1 h2 h3 h4 h5 m hm
  by_cases he : i = r ∧ j = c
  · obtain ⟨rfl, rfl⟩ := he
    exact hn m hm
  · exact hs m (h hw i j h1 h2 h3 h4 (by omega) m hm)
theorem Visited.start {F : Int → Int → List ByteArray} {wh : Bool} {acc : List ByteArray} {q p : Nat} : Visited F wh acc q p (2 * q) (2 * p) := by
  intro _ i j h1 h2 h3 h4 h5
  omega
set_option maxHeartbeats 8000000 in
set_option maxRecDepth 100000 in
theorem coarser_any (x : DetD) (s : DetS) (sc i k : Int) (w : World) {B : Nat} (h : DetAt w B x s) (hB : B ≤ w.heap.size) (hl : DetLen x s) (hi : 0 ≤ i ∧ i < 65536) (hk : 0 ≤ k ∧ k < 65536) (hsc : -9223372036854775808 ≤ sc) :
    Calls Tryz.prog 5 #[detV x s, .int .i64 sc, .int .u16 i, .int .u16 k] w fun e w' => e = .returned (.bool true) ∧ Below w.heap.size w w' := by
  have HF := hide (fun (W : World) (hz : Below w.heap.size w W) => few_any x s W (h.carry (hz.mono hB) (Nat.le_refl _)) (Nat.le_trans hB hz.size) hl)
  have HS := hide (fun (hf : DetFit x s) (u : Int) (W : World) (hz : Below w.heap.size w W) => planSize_any x s u W (h.carry (hz.mono hB) (Nat.le_refl _)) (Nat.le_trans hB hz.size) hf)
  have HP := hide (fun (hf : DetFit x s) (u : Int) (he : planErr x u = 0) (W : World) (hz : Below w.heap.size w W) (row col : Int) (hr : 0 ≤ row ∧ row < (gridOf x u).rows) (hc : 0 ≤ col ∧ col < (gridOf x u).cols) => planAt_ok x s u row col W (h.carry (hz.mono hB) (Nat.le_refl _)) (Nat.le_trans hB hz.size) hf he hr hc)
  have Hfit := hide (fun (hf : Few x s) => few_fit hl hf)
  have Hl3 := hide hl.l3
  have Hi := hide (show (Tryz.prog.info? 34).map (·.size) = some 19 by kernel_rfl)
  have K0 := hide (Blk.new w 34 (detCells x.mem x.rule s))
  have HW := hide (below_new w (.cells (detCells x.mem x.rule s) 34))
  have hmm := @run_makeMap Tryz.prog
  clear h hl
  go_enter Tryz.func5, Tryz.ntmps5
  go_wp2_with fail
  refine (awake_any _).mono ?_
  rintro e w1 ⟨rfl, hb⟩
  have K0 := hide (K0.out.keep hb)
  have HW := hide (below_step HW.out hb (Nat.le_refl _))
  clear hb
  go_wp2_with (refine wpList_load_row rfl 34 (.tmp 4) rfl w.heap.size rfl 34 _ (0, 0) _ K0.out Tryz.underlying34 rfl Hi.out ?_)
  refine (HF.out _ HW.out).mono ?_
  rintro e w2 ⟨⟨t, rfl, ht⟩, hb⟩
  have K0 := hide (K0.out.keep hb)
  have HW := hide (below_step HW.out hb (Nat.le_refl _))
  have Ht := hide ht
  clear hb ht HF
  cases t
  · go_wp2_with fail
    go_ret
    exact ⟨rfl, HW.out⟩
  have Hfew := hide (Ht.out rfl)
  have hfit := Hfit.out Hfew.out
  have HS := hide (HS.out hfit)
  have HP := hide (HP.out hfit)
  clear Ht Hfit hfit
  by_cases hbig : 524288 < sc
  · have d0 : decide (524288 < sc) = true := by simpa using hbig
    clear hbig
    go_wp2_with fail
    go_ret
    exact ⟨rfl, HW.out⟩
  have d0 : decide (524288 < sc) = false := by simpa using hbig
  -- twice the scale, as the machine reckons it
  obtain ⟨sc2, hsc2⟩ : ∃ u, u = IntKind.i64.wrap (2 * sc) := ⟨_, rfl⟩
  have Hs2 := hide (fun (h1 : 1 ≤ sc) => show sc2 = 2 * sc by rw [hsc2]; exact IntWalk.i64_in _ (by omega))
  have y2 := hsc2.symm
  clear hsc2
  go_wp2_with (refine wpList_load_row rfl 34 (.tmp 4) rfl w.heap.size rfl 34 _ (0, 0) _ K0.out Tryz.underlying34 rfl Hi.out ?_)
  refine (HS.out sc2 _ HW.out).mono ?_
  rintro e w3 ⟨rfl, hb⟩
  have K0 := hide (K0.out.keep hb)
  have HW := hide (below_step HW.out hb (Nat.le_refl _))
  clear hb
  go_wp2_with (refine wpList_load_row rfl 34 (.tmp 4) rfl w.heap.size rfl 34 _ (0, 0) _ K0.out Tryz.underlying34 rfl Hi.out ?_)
  refine (HS.out sc _ HW.out).mono ?_
  rintro e w4 ⟨rfl, hb⟩
  have K0 := hide (K0.out.keep hb)
  have HW := hide (below_step HW.out hb (Nat.le_refl _))
  clear hb HS
  by_cases he2 : planErr x sc2 = 0
  case neg =>
    have he' := hide he2
    generalize planGrid x sc2 = g2 at *
    generalize planErr x sc2 = er2 at *
    have d1 : (er2 == 0) = false := by simpa using he'.out
    clear he2
    go_wp2_with fail
    go_ret
    refine ⟨?_, HW.out⟩
    first | rfl | (show Ending.returned (.bool (er2 != 0)) = _; rw [show (er2 != 0) = true by rw [bne, d1]; rfl])
  by_cases he1 : planErr x sc = 0
  case neg =>
    rw [plan_ok he2, he2]
    have he' := hide he1
    generalize planGrid x sc = g1 at *
    generalize planErr x sc = er1 at *
    have d1 : (er1 == 0) = false := by simpa using he'.out
    clear he1 he2
    go_wp2_with fail
    go_ret
    refine ⟨?_, HW.out⟩
    first | rfl | (show Ending.returned (.bool (er1 != 0)) = _; rw [show (er1 != 0) = true by rw [bne, d1]; rfl])
  rw [plan_ok he2, he2, plan_ok he1, he1]
  have hp2 := plan_facts he2
  have hp1 := plan_facts he1
  obtain rfl : sc2 = 2 * sc := Hs2.out hp1.sc.1
  have HP1 := hide (HP.out sc he1)
  have HP2 := hide (HP.out (2 * sc) he2)
  have Hfc := hide (fun (row col r c : Int) (hr : r = 2 * row ∨ r = 2 * row + 1) (hc : c = 2 * col ∨ c = 2 * col + 1) (m : ByteArray) (hm : m ∈ marksAt x sc r c) => fine_coarse hp1.sc.1 hr hc hm)
  have Hcf := hide (fun (row col : Int) (m : ByteArray) (hm : m ∈ marksAt x (2 * sc) row col) => coarse_fine hp1.sc.1 hm)
  have Hnd := hide (fun (row col : Int) => marks_nodup (s := 2 * sc) (row := row) (col := col) hp1.laid)
  have Hms := hide (fun (r c : Int) (m : ByteArray) (hm : m ∈ marksAt x sc r c) => marks_size Hfew.out.tame hm)
  have Hml := hide (fun (u r c : Int) => marks_len x u r c)
  obtain ⟨v1, v2⟩ := hp2.rows
  obtain ⟨v3, v4⟩ := hp2.cols
  obtain ⟨v5, v6⟩ := hp1.rows
  obtain ⟨v7, v8⟩ := hp1.cols
  obtain ⟨q, hq1, hq2, hqn⟩ := rem_range' (n := (gridOf x (2 * sc)).rows) hi.1 v1
  obtain ⟨p, hp1', hp2', hpn⟩ := rem_range' (n := (gridOf x (2 * sc)).cols) hk.1 v3
  have d1 : decide ((gridOf x (2 * sc)).rows < 1) = false := by simp; omega
  have d2 : decide ((gridOf x (2 * sc)).cols < 1) = false := by simp; omega
  have z1 : IntKind.i64.wrap i = i := IntWalk.i64_in _ (by omega)
  have z2 : IntKind.i64.wrap k = k := IntWalk.i64_in _ (by omega)
  have z3 : IntKind.i64.wrap (q : Int) = (q : Int) := IntWalk.i64_in _ (by omega)
  have z4 : IntKind.i64.wrap (p : Int) = (p : Int) := IntWalk.i64_in _ (by omega)
  have z5 : IntKind.i64.wrap (2 * (q : Int)) = 2 * (q : Int) := IntWalk.i64_in _ (by omega)
  have z6 : IntKind.i64.wrap (2 * (p : Int)) = 2 * (p : Int) := IntWalk.i64_in _ (by omega)
  clear hp1 hp2 he1 he2 HP Hs2
  go_wp2_with fail
  go_quiet (fail)
  obtain ⟨w5, hw5⟩ : ∃ w5, w5 = w4.drewN nq := ⟨_, rfl⟩
  have hb : Below w4.heap.size w4 w5 := by rw [hw5]; exact below_drewN' (Below.refl _ _) _
  rw [← hw5]
  have K0 := hide (K0.out.keep hb)
  have HW := hide (below_step HW.out hb (Nat.le_refl _))
  clear hb hw5
  have Hqn := hide hqn
  have Hpn := hide hpn
  go_wp2_with (refine wpList_load_row rfl 34 (.tmp 4) rfl w.heap.size rfl 34 _ (0, 0) _ K0.out Tryz.underlying34 rfl Hi.out ?_)
  refine (HP2.out _ HW.out (q : Int) (p : Int) ⟨by omega, Hqn.out⟩ ⟨by omega, Hpn.out⟩).mono ?_
  rintro e w6 ⟨AL, cL, rfl, hL, hb⟩
  have K0 := hide (K0.out.keep hb)
  have HW := hide (below_step HW.out hb (Nat.le_refl _))
  have HL := hide hL
  clear hb hL HP2 hq1 hq2 hp1' hp2' z1 z2
  have Hfc := hide (fun (r c : Nat) (hr : 2 * q ≤ r ∧ r < 2 * q + 2) (hc : 2 * p ≤ c ∧ c < 2 * p + 2) (m : ByteArray) (hm : m ∈ marksAt x sc r c) => Hfc.out q p r c (by omega) (by omega) m hm)
  have Hcf := hide (fun (m : ByteArray) (hm : m ∈ marksAt x (2 * sc) q p) => Hcf.out q p m hm)
  have Hnd := hide (Hnd.out q p)
  have hml := Hml.out (2 * sc) q p
  obtain ⟨L, hLL⟩ : ∃ L, L = marksAt x (2 * sc) (q : Int) (p : Int) := ⟨_, rfl⟩
  rw [← hLL] at HL Hfc Hcf Hnd hml ⊢
  have hl63 : L.length ≤ 63 := by
    have h2 := Hfew.out.bars
    rw [← Hl3.out] at hml
    omega
  obtain ⟨ln, hln⟩ : ∃ ln, ln = L.length := ⟨_, rfl⟩
  rw [← hln] at hl63 ⊢
  have Hln := hide hln
  have z7 : IntKind.i64.wrap (2 * (q : Int) + 2) = 2 * (q : Int) + 2 := IntWalk.i64_in _ (by omega)
  have z8 : IntKind.i64.wrap (2 * (p : Int) + 2) = 2 * (p : Int) + 2 := IntWalk.i64_in _ (by omega)
  have hq20 : q ≤ 20000 := by omega
  have hp20 : p ≤ 20000 := by omega
  clear hLL hln hml Hqn Hpn hqn hpn
  go_wp2_with fail
  go_loopw [20, 21] (fun wv rv wr => ∃ (r : Nat) (wh : Bool) (acc : List ByteArray) (n : Nat), (2 * q ≤ r ∧ r ≤ 2 * q + 2) ∧ rv = .int .i64 r ∧ wv = .bool wh ∧ Hid (SSet wr w6.heap.size n acc) ∧ Hid (n ≤ 200 * (r - 2 * q)) ∧ Hid (∀ m ∈ acc, m ∈ L) ∧ Hid (Visited (marksAt x sc) wh acc q p r (2 * p)) ∧ Hid (Blk wr w.heap.size 34 (detCells x.mem x.rule s)) ∧ Hid (Below w.heap.size w wr) ∧ Below w6.heap.size w6 wr) (fun _ rv _ => 2 * q + 2 - (intOf rv).toNat)
  case atStart => exact ⟨2 * q, true, [], 0, by omega, by simp, rfl, hide (SSet.new w6), hide (by omega), hide (by simp), hide Visited.start, hide (K0.out.alloc _), hide (HW.out.alloc HW.out.size _), below_new _ _⟩
  case round =>
    rename World => wo
    obtain ⟨r, wh, acc, n, ⟨hr0, hr1⟩, rfl, rfl, hS, hn, hacc, hv, hK, hB0, hB6⟩ := hrel
    by_cases hlt : r < 2 * q + 2
    · have dr : decide ((r : Int) < 2 * (q : Int) + 2) = true := by simp; omega
      have HB6 := hide hB6
      clear hB6
      go_wp2_with fail
      go_loopw [20, 22] (fun wv cv wi => ∃ (c : Nat) (wh : Bool) (acc : List ByteArray) (m : Nat), (2 * p ≤ c ∧ c ≤ 2 * p + 2) ∧ cv = .int .i64 c ∧ wv = .bool wh ∧ Hid (SSet wi w6.heap.size m acc) ∧ Hid (m ≤ 200 * (r - 2 * q) + 100 * (c - 2 * p)) ∧ Hid (∀ s ∈ acc, s ∈ L) ∧ Hid (Visited (marksAt x sc) wh acc q p r c) ∧ Hid (Blk wi w.heap.size 34 (detCells x.mem x.rule s)) ∧ Hid (Below w.heap.size w wi) ∧ Below w6.heap.size w6 wi) (fun _ cv _ => 2 * p + 2 - (intOf cv).toNat)
      case atStart => exact ⟨2 * p, wh, acc, n, by omega, by simp, rfl, hS, hide (by have := hn.out; omega), hacc, hv, hK, hB0, HB6.out⟩
      case round =>
        clear hS hn hacc hv hK hB0 HB6
        rename World => wi
        obtain ⟨c, wh, acc, n, ⟨hc0, hc1⟩, rfl, rfl, hS, hn, hacc, hv, hK, hB0, hB6⟩ := hrel
        have HB6 := hide hB6
        clear hB6
        by_cases hlc : c < 2 * p + 2
        · have dc : decide ((c : Int) < 2 * (p : Int) + 2) = true := by simp; omega
          by_cases hm1 : (gridOf x sc).rows ≤ (r : Int)
          · have d3 : decide ((gridOf x sc).rows ≤ (r : Int)) = true := by simpa using hm1
            clear hm1
            go_wp2_with fail
            go_roundw
            case rel => exact ⟨c + 1, false, acc, n, by omega, by go_num, rfl, hS, hide (by have := hn.out; omega), hacc, hide Visited.no, hK, hB0, HB6.out⟩
            case measure => simp [intOf]; omega
          have d3 : decide ((gridOf x sc).rows ≤ (r : Int)) = false := by simpa using hm1
          by_cases hm2 : (gridOf x sc).cols ≤ (c : Int)
          · have d4 : decide ((gridOf x sc).cols ≤ (c : Int)) = true := by simpa using hm2
            clear hm1 hm2
            go_wp2_with fail
            go_roundw
            case rel => exact ⟨c + 1, false, acc, n, by omega, by go_num, rfl, hS, hide (by have := hn.out; omega), hacc, hide Visited.no, hK, hB0, HB6.out⟩
            case measure => simp [intOf]; omega
          have d4 : decide ((gridOf x sc).cols ≤ (c : Int)) = false := by simpa using hm2
          have HPk := hide (HP1.out _ hB0.out (r : Int) (c : Int) ⟨by omega, by omega⟩ ⟨by omega, by omega⟩)
          have Hf := hide (fun s hs => Hfc.out r c ⟨hr0, hlt⟩ ⟨hc0, hlc⟩ s hs)
          have Hsz := hide (fun s hs => Hms.out r c s hs)
          have hml := Hml.out sc r c
          have hml2 := Hfew.out.bars
          rw [Hl3.out] at hml2
          clear hm1 hm2
          go_wp2_with (refine wpList_load_row rfl 34 (.tmp 4) rfl w.heap.size rfl 34 _ (0, 0) _ hK.out Tryz.underlying34 rfl Hi.out ?_)
          refine HPk.out.mono ?_
          rintro e w7 ⟨AM, cM, rfl, hms, hb⟩
          have hS := hide (hS.out.keep (Below.mono hb (by omega)))
          have hK := hide (hK.out.keep hb)
          have hB0 := hide (below_step hB0.out hb (Nat.le_refl _))
          have HB6 := hide (HB6.out.trans (hb.mono HB6.out.size))
          have HM := hide hms
          generalize hMS : marksAt x sc (r : Int) (c : Int) = ms at *
          have HMS := hide hMS
          clear hb hms HPk hMS
          have hml3 : ms.length ≤ 63 := by omega
          obtain ⟨mn, hmn⟩ : ∃ mn, mn = ms.length := ⟨_, rfl⟩
          rw [← hmn] at hml3 ⊢
          have Hmn := hide hmn
          have hnb : n ≤ 600 := by have := hn.out; omega
          clear hmn hml hml2
          go_wp2_with fail
          go_loopw [130] (fun tv wj => ∃ t : Nat, t ≤ mn ∧ tv = .int .i64 t ∧ Hid (SSet wj w6.heap.size (n + t) (acc ++ ms.take t)) ∧ Hid (w7.grownBy wj (some w6.heap.size))) (fun tv _ => mn - (intOf tv).toNat)
          case atStart => exact ⟨0, Nat.zero_le _, rfl, hide (by simpa using hS.out), hide ⟨rfl, rfl, rfl, Nat.le_refl _, fun _ _ _ => rfl⟩⟩
          case round =>
            obtain ⟨t, ht, rfl, hS3, hg3⟩ := hrel
            by_cases hlj : t < mn
            · obtain ⟨b, off, s0, rfl, hbl, hx, e0⟩ := StrsAt.get (k := t) HM.out (by rw [← Hmn.out]; exact hlj)
              have hne := hS.out.ne e0
              have e1 := (World.cell?_of_block (w := w7) (hg3.out.block b hbl (by simpa using hne))).trans e0
              have hsz := Hsz.out s0 (mem_of_get hx)
              have Htk := hide (show acc ++ ms.take (t + 1) = (acc ++ ms.take t) ++ [s0] by rw [take_snoc' hx, List.append_assoc])
              generalize acc ++ ms.take t = ac at *
              clear hx e0 hne
              go_wp2_with (at_mapUpdate; refine wpList_store_sset rfl (.tmp 134) (.tmp 135) (.const (.bool true)) rfl w6.heap.size (n + t) _ rfl hS3.out (by omega) s0 rfl rfl hsz ?_; intro w8 hS8 hg8)
              go_roundw
              case rel => exact ⟨t + 1, by omega, by go_num, hide (by rw [Htk.out]; exact hS8), hide (hg3.out.trans hg8)⟩
              case measure => simp [intOf]; omega
            · obtain rfl : t = mn := by omega
              have hS9 := hide (show SSet wr w6.heap.size (n + t) (acc ++ ms) by have h9 := hS3.out; rw [Hmn.out, List.take_length, ← Hmn.out] at h9; exact h9)
              have hw6 : w.heap.size < w6.heap.size := K0.out.lt
              have hK9 := hide (show Blk wr w.heap.size 34 (detCells x.mem x.rule s) from (hg3.out.block w.heap.size hK.out.lt (by simp; omega)).trans hK.out)
              have hB9 := hide (below_grown hB0.out hg3.out hB0.out.size (by omega))
              have hB69 := hide (below_grown HB6.out hg3.out HB6.out.size (Nat.le_refl _))
              have hacc9 := hide (show ∀ s ∈ acc ++ ms, s ∈ L by
                intro s hs
                rcases List.mem_append.1 hs with h | h
                · exact hacc.out s h
                · exact Hf.out s h)
              have hv9 := hide (hv.out.cell (acc2 := acc ++ ms) (fun s hs => List.mem_append_left _ hs) (fun s hs => List.mem_append_right _ (by rw [← HMS.out]; exact hs)))
              have hn9 := hide (show n + t ≤ 200 * (r - 2 * q) + 100 * (c + 1 - 2 * p) by have := hn.out; omega)
              go_wp2_with fail
              go_roundw
              case rel => exact ⟨c + 1, wh, acc ++ ms, n + t, by omega, by go_num, rfl, hS9, hn9, hacc9, hv9, hK9, hB9, hB69.out⟩
              case measure => simp [intOf]; omega
        · obtain rfl : c = 2 * p + 2 := by omega
          have dc : decide (((2 * p + 2 : Nat) : Int) < 2 * (p : Int) + 2) = false := by simp
          go_wp2_with fail
          go_roundw
          case rel => exact ⟨r + 1, wh, acc, n, by omega, by go_num, rfl, hS, hide (by have := hn.out; omega), hacc, hide hv.out.row, hK, hB0, HB6.out⟩
          case measure => simp [intOf]; omega
    · obtain rfl : r = 2 * q + 2 := by omega
      have dr : decide (((2 * q + 2 : Nat) : Int) < 2 * (q : Int) + 2) = false := by simp
      have HB6 := hide hB6
      have Hall := hide (fun (hw : wh = true) => show Maps.size (setOf tt (sKeys acc)) = ln by
        rw [Hln.out]
        refine size_sKeys Hnd.out fun m => ⟨hacc.out m, fun hm => ?_⟩
        obtain ⟨r', c', hr', hc', hm'⟩ := Hcf.out m hm
        rcases hr' with rfl | rfl <;> rcases hc' with rfl | rfl
        · exact hv.out hw (2 * q) (2 * p) (by omega) (by omega) (by omega) (by omega) (by omega) m (by simpa using hm')
        · exact hv.out hw (2 * q) (2 * p + 1) (by omega) (by omega) (by omega) (by omega) (by omega) m (by simpa using hm')
        · exact hv.out hw (2 * q + 1) (2 * p) (by omega) (by omega) (by omega) (by omega) (by omega) m (by simpa using hm')
        · exact hv.out hw (2 * q + 1) (2 * p + 1) (by omega) (by omega) (by omega) (by omega) (by omega) m (by simpa using hm'))
      clear hB6 hv hn Hfc Hcf Hnd
      go_wp2_with (at_range; refine wpList_range_sset rfl (.tmp 137) rfl w6.heap.size n acc rfl hS.out ?_; intro w7 cnt7 hrg7 hg7)
      go_frame
      have hsz7 := hg7.size
      have hs6 := HB6.out.size
      go_loopw [27] (fun _ wk => ∃ cnt : Nat, Hid (SRange wk w6.heap.size wo.heap.size n acc cnt) ∧ Hid (Below w.heap.size w wk) ∧ Below w6.heap.size w6 wk) (fun _ wk => wk.rangeLeft w6.heap.size wo.heap.size)
      case atStart => exact ⟨cnt7, hide hrg7, hide (below_grown hB0.out (hg7.but (some wo.heap.size)) hB0.out.size hB0.out.size), below_grown HB6.out (hg7.but (some wo.heap.size)) hs6 hs6⟩
      case round =>
        obtain ⟨cnt, hrg, hbk0, hbk6⟩ := hrel
        have HBk6 := hide hbk6
        clear hbk6
        cases wh
        · go_wp2_with (at_next; refine wpList_next_sset rfl (.tmp 138) rfl w6.heap.size wo.heap.size n cnt acc rfl hrg.out ?_ ?_)
          · intro z hz
            go_wp2_with fail
            go_ret
            exact ⟨rfl, hbk0.out⟩
          · intro s0 c0 w8 cnt8 hmem hrg8 hlt8 hg8 hen
            have HB9 := hide (below_grown HBk6.out hg8 HBk6.out.size hs6)
            have HB0 := hide (below_grown hbk0.out hg8 hbk0.out.size (Nat.le_trans hB0.out.size (Nat.le_refl _)))
            have HCo := hide (containsStr_any AL L ln cL s0 w8 (HL.out.carry (Flat.carried _) HB9.out HB9.out.size) Hln.out (by omega))
            rw [strIs_mem.2 (hacc.out s0 hmem)] at HCo
            have Hrg8 := hide hrg8
            have hm9 : w8.rangeLeft w6.heap.size wo.heap.size < wr.rangeLeft w6.heap.size wo.heap.size := by rw [hrg8.left_eq, hrg.out.left_eq]; exact hlt8
            have Hm9 := hide hm9
            clear hrg8 hmem hlt8 hm9 hg8
            go_wp2_with fail
            refine HCo.out.mono ?_
            rintro e w9 ⟨rfl, rfl⟩
            go_wp2_with fail
            go_roundw
            case rel => exact ⟨_, _, _, _, _, _, _, _, _, _, ⟨cnt8, Hrg8, HB0, HB9.out⟩, rfl⟩
            case measure => exact Hm9.out
        · have hall := Hall.out rfl
          go_wp2_with (at_next; refine wpList_next_sset rfl (.tmp 138) rfl w6.heap.size wo.heap.size n cnt acc rfl hrg.out ?_ ?_)
          · intro z hz
            have hle := World.ownsMap.len hrg.out.owns Tryz.underlying59 3
            rw [hall] at hle
            go_wp2_with fail
            go_ret
            exact ⟨rfl, hbk0.out⟩
          · intro s0 c0 w8 cnt8 hmem hrg8 hlt8 hg8 hen
            have HB9 := hide (below_grown HBk6.out hg8 HBk6.out.size hs6)
            have HB0 := hide (below_grown hbk0.out hg8 hbk0.out.size (Nat.le_trans hB0.out.size (Nat.le_refl _)))
            have HCo := hide (containsStr_any AL L ln cL s0 w8 (HL.out.carry (Flat.carried _) HB9.out HB9.out.size) Hln.out (by omega))
            rw [strIs_mem.2 (hacc.out s0 hmem)] at HCo
            have Hrg8 := hide hrg8
            have hm9 : w8.rangeLeft w6.heap.size wo.heap.size < wr.rangeLeft w6.heap.size wo.heap.size := by rw [hrg8.left_eq, hrg.out.left_eq]; exact hlt8
            have Hm9 := hide hm9
            clear hrg8 hmem hlt8 hm9 hg8
            go_wp2_with fail
            refine HCo.out.mono ?_
            rintro e w9 ⟨rfl, rfl⟩
            go_wp2_with fail
            go_roundw
            case rel => exact ⟨_, _, _, _, _, _, _, _, _, _, ⟨cnt8, Hrg8, HB0, HB9.out⟩, rfl⟩
            case measure => exact Hm9.out
end Go.Proofs.YtpmipoljnchheaaGreat
namespace Go.Proofs.YtpmipoljnchheaaGreat
open Go.RowKit Go.ChangeShapes Go.WideShapes Go.Deep

theorem add_at (b off i : Nat) : (⟨b, off, none⟩ : Addr).add i = ⟨b, off + i, none⟩ := by
  unfold Addr.add
  split <;> simp_all
section
variable {H : Type} {enc : TypeId × Value → H} {w : World} {base : Nat} {held : Bool}
theorem ints_open {n : Nat} {cs : List Value} {x : DataW H × List MemPlace} (h : DataW.trod enc Tryz.prog w base (fun _ => true) held n 62 cs = some x) :
    ∃ (A : Option Addr) (l : List Int) (c : Nat), cs = [.slice A l.length c] ∧ Ints w w.heap.size A l := by
  rcases open_ints Tryz.underlying62 Tryz.underlying3 (by kernel_rfl) h with ⟨rfl, _⟩ | ⟨a, len, cap, zs, rfl, _, hl, hm, hz, _, hcell, _⟩
  · exact ⟨none, [], 0, rfl, SlOf.nil _ _ _ _ _⟩
  · have hz' : zs.length = cap := by simpa using hz
    refine ⟨some a, zs.take len, cap, by simp [hz', Nat.min_eq_left hl], ?_⟩
    intro h0
    rw [List.length_take] at h0
    obtain ⟨b, off, spot⟩ := a
    have hc := hcell 0 (by omega)
    have hspot : spot = none := by simpa [Addr.add] using World.cell?_spot hc
    subst hspot
    refine ⟨b, off, rfl, World.block_lt_of_cell? w _ (by simpa [Addr.add] using hc), fun k y hy => ?_⟩
    have hk : k < len := by
      have := lt_of_get hy
      rw [List.length_take] at this
      omega
    have hy' : zs[k]? = some y := by rw [List.getElem?_take, if_pos hk] at hy; exact hy
    have hck := hcell k (by omega)
    rw [List.getD_eq_getElem?_getD, hy'] at hck
    refine ⟨encInt y, rfl, rfl, fun j v hj => ?_⟩
    cases j with
    | zero =>
      simp [encInt] at hj
      subst hj
      simpa [add_at] using hck
    | succ j => simp [encInt] at hj

theorem len5v {l : List Value} (h : l.length = 5) : ∃ a b c d e, l = [a, b, c, d, e] := by
  rcases l with _ | ⟨a, _ | ⟨b, _ | ⟨c, _ | ⟨d, _ | ⟨e, _ | ⟨f, r⟩⟩⟩⟩⟩⟩ <;> simp at h
  exact ⟨a, b, c, d, e, rfl⟩
theorem some_of_lt {α : Type} {l : List α} {j : Nat} (h : j < l.length) : ∃ y, l[j]? = some y := ⟨_, List.getElem?_eq_getElem h⟩

theorem bar_open {n : Nat} {cs : List Value} {x : DataW H × List MemPlace} (h : DataW.trod enc Tryz.prog w base (fun _ => true) held n 65 cs = some x) :
    ∃ b : BarD, barR w w.heap.size cs b := by
  obtain ⟨xs, m, _, _, hl, hxl, hf⟩ := DataW.trod_struct Tryz.underlying65 h
  have hx5 : xs.length = 5 := hxl
  rw [show (Tryz.prog).cellsOf 65 = 5 by kernel_rfl] at hl
  obtain ⟨v0, v1, v2, v3, v4, rfl⟩ := len5v hl
  have c9 : (Tryz.prog).cellsOf 9 = 1 := by kernel_rfl
  have c3 : (Tryz.prog).cellsOf 3 = 1 := by kernel_rfl
  have c30 : (Tryz.prog).cellsOf 62 = 1 := by kernel_rfl
  have h0 : DataW.trod enc Tryz.prog w base (fun _ => true) held m 9 (([v0, v1, v2, v3, v4].drop 0).take ((Tryz.prog).cellsOf 9)) = xs[0]? := hf 0 _ rfl
  have h1 : DataW.trod enc Tryz.prog w base (fun _ => true) held m 3 (([v0, v1, v2, v3, v4].drop 1).take ((Tryz.prog).cellsOf 3)) = xs[1]? := hf 1 _ rfl
  have h2 : DataW.trod enc Tryz.prog w base (fun _ => true) held m 3 (([v0, v1, v2, v3, v4].drop 2).take ((Tryz.prog).cellsOf 3)) = xs[2]? := hf 2 _ rfl
  have h3 : DataW.trod enc Tryz.prog w base (fun _ => true) held m 3 (([v0, v1, v2, v3, v4].drop 3).take ((Tryz.prog).cellsOf 3)) = xs[3]? := hf 3 _ rfl
  have h4 : DataW.trod enc Tryz.prog w base (fun _ => true) held m 62 (([v0, v1, v2, v3, v4].drop 4).take ((Tryz.prog).cellsOf 62)) = xs[4]? := hf 4 _ rfl
  obtain ⟨y0, e0⟩ := some_of_lt (l := xs) (j := 0) (by omega)
  obtain ⟨y1, e1⟩ := some_of_lt (l := xs) (j := 1) (by omega)
  obtain ⟨y2, e2⟩ := some_of_lt (l := xs) (j := 2) (by omega)
  obtain ⟨y3, e3⟩ := some_of_lt (l := xs) (j := 3) (by omega)
  obtain ⟨y4, e4⟩ := some_of_lt (l := xs) (j := 4) (by omega)
  rw [c9, e0] at h0
  rw [c3, e1] at h1
  rw [c3, e2] at h2
  rw [c3, e3] at h3
  rw [c30, e4] at h4
  obtain ⟨s, hs, _, _⟩ := DataW.trod_string Tryz.underlying9 h0
  obtain ⟨n1, hn1, _, _⟩ := DataW.trod_int Tryz.underlying3 h1
  obtain ⟨n2, hn2, _, _⟩ := DataW.trod_int Tryz.underlying3 h2
  obtain ⟨n3, hn3, _, _⟩ := DataW.trod_int Tryz.underlying3 h3
  obtain ⟨A, l, c, hA, hi⟩ := ints_open h4
  simp at hs hn1 hn2 hn3 hA
  exact ⟨⟨s, n1, n2, n3, l⟩, A, c, by rw [hs, hn1, hn2, hn3, hA], hi⟩

theorem bars_open {n : Nat} {cs : List Value} {x : DataW H × List MemPlace} (h : DataW.trod enc Tryz.prog w base (fun _ => true) held n 27 cs = some x) :
    ∃ (A : Option Addr) (l : List BarD) (c : Nat), cs = [.slice A l.length c] ∧ BarsAt w w.heap.size A l ∧ l.length ≤ maxLen := by
  rcases open_slice Tryz.underlying27 h with ⟨rfl, _⟩ | ⟨a, len, cap, m, n', D, Pl, rfl, _, hl, hm, hmm, _, hi⟩
  · exact ⟨none, [], 0, rfl, SlOf.nil _ _ _ _ _, by simp⟩
  · have hmm' : m = cap := by simpa using hmm
    have key : ∀ i, i < len → ∃ b : BarD, ∃ vs : List Value, vs.length = 5 ∧ barR w w.heap.size vs b ∧ ∀ j v, vs[j]? = some v → w.cell? (a.add (i * 5 + j)) = some v := by
      intro i hlt
      obtain ⟨cs', hc, ht⟩ := hi i (by omega)
      obtain ⟨b, hb⟩ := bar_open ht
      rw [show (Tryz.prog).cellsOf 65 = 5 by kernel_rfl] at hc
      obtain ⟨_, hcl, hat⟩ := World.cells?_some hc
      refine ⟨b, cs', hcl, hb, fun j v hj => ?_⟩
      have := hat j (by have := lt_of_get hj; omega)
      rw [Go.Deep.add_add, hj] at this
      exact this
    obtain ⟨f, hf⟩ : ∃ f : Nat → BarD, ∀ i, i < len → ∃ vs : List Value, vs.length = 5 ∧ barR w w.heap.size vs (f i) ∧ ∀ j v, vs[j]? = some v → w.cell? (a.add (i * 5 + j)) = some v := by
      refine ⟨fun i => if h : i < len then (key i h).choose else ⟨.empty, 0, 0, 0, []⟩, fun i hi => ?_⟩
      simp only [dif_pos hi]
      exact (key i hi).choose_spec
    refine ⟨some a, (List.range len).map f, cap, by simp, ?_, by simp; omega⟩
    intro h0
    have h0' : 0 < len := by simpa using h0
    obtain ⟨b, off, spot⟩ := a
    obtain ⟨vs0, hvl, _, hc0⟩ := hf 0 h0'
    obtain ⟨u, hu⟩ := some_of_lt (l := vs0) (j := 0) (by omega)
    have hcell := hc0 0 u hu
    have hspot : spot = none := by simpa [Addr.add] using World.cell?_spot hcell
    subst hspot
    refine ⟨b, off, rfl, World.block_lt_of_cell? w _ (by simpa [Addr.add] using hcell), fun k y hy => ?_⟩
    simp only [List.getElem?_map, Option.map_eq_some_iff] at hy
    obtain ⟨k', hk', rfl⟩ := hy
    have hkl : k < len := by
      have := lt_of_get hk'
      simpa using this
    obtain rfl : k' = k := by
      rw [List.getElem?_range hkl] at hk'
      injection hk' with hk'
      exact hk'.symm
    obtain ⟨vs, h1, h2, h3⟩ := hf k' hkl
    exact ⟨vs, h1, h2, fun j v hj => by have := h3 j v hj; simpa [add_at, Nat.add_assoc] using this⟩
end
end Go.Proofs.YtpmipoljnchheaaGreat
namespace Go.Proofs.YtpmipoljnchheaaGreat
open Go.RowKit Go.ChangeShapes Go.WideShapes Go.Deep

theorem len2v' {l : List Value} (h : l.length = 2) : ∃ a b, l = [a, b] := by
  rcases l with _ | ⟨a, _ | ⟨b, _ | ⟨c, r⟩⟩⟩ <;> simp at h
  exact ⟨a, b, rfl⟩
theorem len3v' {l : List Value} (h : l.length = 3) : ∃ a b c, l = [a, b, c] := by
  rcases l with _ | ⟨a, _ | ⟨b, _ | ⟨c, _ | ⟨d, r⟩⟩⟩⟩ <;> simp at h
  exact ⟨a, b, c, rfl⟩
section
variable {H : Type} {enc : TypeId × Value → H} {w : World} {base : Nat} {held : Bool}
set_option maxRecDepth 100000 in
theorem slice_open {α : Type} [Inhabited α] {ts t : TypeId} {size : Nat} {R : World → Nat → List Value → α → Prop} (hu : (Tryz.prog).underlying ts = some (.slice t)) (hsz : (Tryz.prog).cellsOf t = size) (h0s : 0 < size)
    (helem : ∀ (n : Nat) (cs : List Value) (x : DataW H × List MemPlace), DataW.trod enc Tryz.prog w base (fun _ => true) held n t cs = some x → ∃ b : α, R w w.heap.size cs b)
    {n : Nat} {cs : List Value} {x : DataW H × List MemPlace} (h : DataW.trod enc Tryz.prog w base (fun _ => true) held n ts cs = some x) :
    ∃ (A : Option Addr) (l : List α) (c : Nat), cs = [.slice A l.length c] ∧ SlOf w w.heap.size size R A l ∧ l.length ≤ maxLen ∧ l.length ≤ c := by
  rcases open_slice hu h with ⟨rfl, _⟩ | ⟨a, len, cap, m, n', D, Pl, rfl, _, hl, hm, hmm, _, hi⟩
  · exact ⟨none, [], 0, rfl, SlOf.nil _ _ _ _ _, by simp, by simp⟩
  · have hmm' : m = cap := by simpa using hmm
    have key : ∀ i, i < len → ∃ b : α, ∃ vs : List Value, vs.length = size ∧ R w w.heap.size vs b ∧ ∀ j v, vs[j]? = some v → w.cell? (a.add (i * size + j)) = some v := by
      intro i hlt
      obtain ⟨cs', hc, ht⟩ := hi i (by omega)
      obtain ⟨b, hb⟩ := helem _ _ _ ht
      rw [hsz] at hc
      obtain ⟨_, hcl, hat⟩ := World.cells?_some hc
      refine ⟨b, cs', hcl, hb, fun j v hj => ?_⟩
      have := hat j (by have := lt_of_get hj; omega)
      rw [Go.Deep.add_add, hj] at this
      exact this
    obtain ⟨f, hf⟩ : ∃ f : Nat → α, ∀ i, i < len → ∃ vs : List Value, vs.length = size ∧ R w w.heap.size vs (f i) ∧ ∀ j v, vs[j]? = some v → w.cell? (a.add (i * size + j)) = some v := by
      refine ⟨fun i => if h : i < len then (key i h).choose else default, fun i hi => ?_⟩
      simp only [dif_pos hi]
      exact (key i hi).choose_spec
    refine ⟨some a, (List.range len).map f, cap, by simp, ?_, by simp; omega, by simp; omega⟩
    intro h0
    have h0' : 0 < len := by simpa using h0
    obtain ⟨b, off, spot⟩ := a
    obtain ⟨vs0, hvl, _, hc0⟩ := hf 0 h0'
    obtain ⟨u, hu⟩ := some_of_lt (l := vs0) (j := 0) (by omega)
    have hcell := hc0 0 u hu
    have hspot : spot = none := by simpa [Addr.add] using World.cell?_spot hcell
    subst hspot
    refine ⟨b, off, rfl, World.block_lt_of_cell? w _ (by simpa [Addr.add] using hcell), fun k y hy => ?_⟩
    simp only [List.getElem?_map, Option.map_eq_some_iff] at hy
    obtain ⟨k', hk', rfl⟩ := hy
    have hkl : k < len := by
      have := lt_of_get hk'
      simpa using this
    obtain rfl : k' = k := by
      rw [List.getElem?_range hkl] at hk'
      injection hk' with hk'
      exact hk'.symm
    obtain ⟨vs, h1, h2, h3⟩ := hf k' hkl
    exact ⟨vs, h1, h2, fun j v hj => by have := h3 j v hj; simpa [add_at, Nat.add_assoc] using this⟩
end
end Go.Proofs.YtpmipoljnchheaaGreat
