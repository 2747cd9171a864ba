/- All legs of a detail, with their lines of the schedule. The lines of the schedule that are seen in a cell. -/
import Derived.Test.YtpmipoljnchheaaGreatMao
import Derived.Test.YtpmipoljnchheaaGreatMaq
import Derived.Lib.SlicesCompact
import Derived.Lib.RowBridge
import Derived.Sort.OwnSortedInts
import Derived.Lib.OwnBridge
namespace Go.Proofs.YtpmipoljnchheaaGreat
open Go.RowKit

theorem rods_len {bars : List BarD} : ∀ (l : List LaidD), (∀ x ∈ l, x.pts.length ≤ 7) → (l.flatMap (rodsOfBar bars)).length ≤ 6 * l.length := by
  intro l
  induction l with
  | nil => intro _; simp
  | cons x l ih =>
    intro h
    have h1 := ih (fun y hy => h y (List.mem_cons_of_mem _ hy))
    have h2 := h x (by simp)
    rw [List.flatMap_cons, List.length_append, List.length_cons]
    have h3 : (rodsOfBar bars x).length ≤ 6 := by
      rw [rodsOfBar, List.length_map, legsOfPts_len]
      omega
    omega
def legRods (line : Int) (l : List BoxD) : List RodD := l.map fun b => ⟨b, line⟩
set_option maxHeartbeats 400000 in
theorem rods1_any (x : BarD) (A : Option Addr) (c : Nat) (m : ByteArray) (g : Nat) (w : World) (h0 : w.cell? ⟨g, 0, none⟩ = some (.string m)) :
    Calls Tryz.prog 65 #[.agg #[.string x.mark, .int .i64 x.size, .int .i64 x.count, .int .i64 x.code, .slice A x.dims.length c], .pointer (some ⟨g, 0, none⟩)] w fun e w' => e = .returned (.bool (markIs m x)) ∧ Below w.heap.size w w' := by
  have hg : g < w.heap.size := World.block_lt_of_cell? w _ h0
  have h1 := fun o => (World.cell?_alloc_lt w o ⟨g, 0, none⟩ hg).trans h0
  go_enter Tryz.func65, Tryz.ntmps65
  go_wp2_with fail
  go_ret
  exact ⟨ret_bool (by rfl), below_new _ _⟩
set_option maxHeartbeats 4000000 in
set_option maxRecDepth 100000 in
theorem rods_ok (x : DetD) (s : DetS) (w : World) {B : Nat} (h : DetAt w B x s) (hB : B ≤ w.heap.size) (hf : DetFit x s) (hok : laidOk x.bars x.runs = true) :
    Calls Tryz.prog 33 #[detV x s] w fun e w' => ∃ A c, e = .returned (.tuple #[.slice A (rodsOf x.bars x.runs).length c, .int .i64 0]) ∧ RodsAt w' w'.heap.size A (rodsOf x.bars x.runs) ∧ Below w.heap.size w w' := by
  have HC := hide (fun (W : World) (hz : Below w.heap.size w W) => laidCount_ok s.a3 x.bars s.n3 s.c3 s.a4 x.runs s.n4 s.c4 W (h.h3.carry (hz.mono hB) (Nat.le_refl _)) (h.h4.carry (Flat.carried _) (hz.mono hB) (Nat.le_refl _)) (Nat.le_trans hB hz.size) hf.l3 hf.l4 hf.m3 hf.m4 hf.tame hok)
  have HM := hide (fun (W : World) (hz : Below w.heap.size w W) (i : Nat) (l : LaidD) (hl : (laidAll x.bars x.runs)[i]? = some l) => laidMark_ok s.a3 x.bars s.n3 s.c3 s.a4 x.runs s.n4 s.c4 W (h.h3.carry (hz.mono hB) (Nat.le_refl _)) (h.h4.carry (Flat.carried _) (hz.mono hB) (Nat.le_refl _)) (Nat.le_trans hB hz.size) hf.l3 hf.l4 hf.m3 hf.m4 hf.tame hok (i : Int) l.bar.mark (by omega) (by have := lt_of_get hl; have := (laidOk_len hok).2; omega) (laidAll_mark x.runs i l (laidOk_mem hok).2.2 hl))
  have HL := hide (fun (W : World) (hz : Below w.heap.size w W) (i : Nat) (l : LaidD) (hl : (laidAll x.bars x.runs)[i]? = some l) => laidLegs_row s.a3 s.a4 x.bars x.runs s.n3 s.c3 s.n4 s.c4 i l W (h.h3.carry (hz.mono hB) (Nat.le_refl _)) (h.h4.carry (Flat.carried _) (hz.mono hB) (Nat.le_refl _)) (Nat.le_trans hB hz.size) hf.l3 hf.l4 hf.m3 hf.m4 hf.tame hok hl)
  have HI := hide (fun (W : World) (hz : Below w.heap.size w W) (g : Nat) (m : ByteArray) (h0 : ∀ W', Below W.heap.size W W' → W'.cell? ⟨g, 0, none⟩ = some (.string m)) => indexFuncBar_any s.a3 x.bars s.n3 s.c3 65 #[.pointer (some ⟨g, 0, none⟩)] (markIs m) W (h.h3.carry (hz.mono hB) (Nat.le_refl _)) (Nat.le_trans hB hz.size) hf.l3 hf.m3 Tryz.call65 (fun y A' c' W' _ hb _ => rods1_any y A' c' m g W' (h0 W' hb)))
  obtain ⟨N, hN⟩ : ∃ N, N = (laidAll x.bars x.runs).length := ⟨_, rfl⟩
  have hcn : countRuns x.runs = (N : Int) := by rw [hN]; exact (laidOk_len hok).1.symm
  rw [hcn] at HC
  have HN := hide hN
  have hN2 : N ≤ 2000 := by rw [hN]; exact (laidOk_len hok).2
  have Hl7 := hide (fun (i : Nat) (l : LaidD) (hl : (laidAll x.bars x.runs)[i]? = some l) => (laid_near x.runs i l (laidOk_mem hok).2.2 hl).2)
  have Hro := hide (show rodsOf x.bars x.runs = (laidAll x.bars x.runs).flatMap (rodsOfBar x.bars) from rfl)
  have Hrb := hide (fun (l : LaidD) => show rodsOfBar x.bars l = legRods (idx (markIs l.bar.mark) x.bars) (legsOfPts l.pts) from rfl)
  obtain ⟨mem, bars, runs, laps, dems, rule⟩ := x
  obtain ⟨a1, n1, c1, a2, n2, c2, a3, n3, c3, a4, n4, c4, a5, n5, c5, a6, n6, c6⟩ := s
  obtain ⟨name, boxes, holes, cover, agg, poker⟩ := mem
  obtain ⟨r1, r2, r3, r4, r5, r6, r7, r8, r9⟩ := rule
  simp only at HC HM HL HI HN Hl7 Hro Hrb
  have K0 := hide (Blk.new w 34 #[.string name, .slice a1 n1 c1, .slice a2 n2 c2, .int .i64 cover, .int .i64 agg, .int .i64 poker, .slice a3 n3 c3, .slice a4 n4 c4, .slice a5 n5 c5, .slice a6 n6 c6, .int .i64 r1, .int .i64 r2, .int .i64 r3, .int .i64 r4, .int .i64 r5, .int .i64 r6, .int .i64 r7, .int .i64 r8, .int .i64 r9])
  have HW := hide (below_new w (.cells #[.string name, .slice a1 n1 c1, .slice a2 n2 c2, .int .i64 cover, .int .i64 agg, .int .i64 poker, .slice a3 n3 c3, .slice a4 n4 c4, .slice a5 n5 c5, .slice a6 n6 c6, .int .i64 r1, .int .i64 r2, .int .i64 r3, .int .i64 r4, .int .i64 r5, .int .i64 r6, .int .i64 r7, .int .i64 r8, .int .i64 r9] 34))
  clear h hf hok hN hcn
  show Calls Tryz.prog 33 #[.agg #[.string name, .slice a1 n1 c1, .slice a2 n2 c2, .int .i64 cover, .int .i64 agg, .int .i64 poker, .slice a3 n3 c3, .slice a4 n4 c4, .slice a5 n5 c5, .slice a6 n6 c6, .int .i64 r1, .int .i64 r2, .int .i64 r3, .int .i64 r4, .int .i64 r5, .int .i64 r6, .int .i64 r7, .int .i64 r8, .int .i64 r9]] w _
  go_enter Tryz.func33, Tryz.ntmps33
  go_wp2_with fail
  refine (HC.out _ HW.out).mono ?_
  rintro e w1 ⟨rfl, hb1⟩
  have K0 := hide (K0.out.keep hb1)
  have HW1 := hide (below_step HW.out hb1 (Nat.le_refl _))
  clear hb1 HC HW
  go_wp2_with fail
  go_loopw [6, 26] (fun v iv wr => ∃ k : Nat, k ≤ N ∧ iv = .int .i64 k ∧ (∃ acc : List RodD, Row wr w1.heap.size 133 7 encRod v acc ∧ Hid (acc = ((laidAll bars runs).take k).flatMap (rodsOfBar bars))) ∧ Below w1.heap.size w1 wr) (fun _ iv _ => N - (intOf iv).toNat)
  case atStart => exact ⟨0, Nat.zero_le _, rfl, ⟨[], Row.nil _ _ _ _ _, hide rfl⟩, Below.refl _ _⟩
  case round =>
    rename World => wo
    obtain ⟨k, hk, rfl, ⟨acc, hrow, hacc⟩, hbr⟩ := hrel
    obtain ⟨A0, c0, rfl⟩ := hrow.val
    by_cases hlt : k < N
    · obtain ⟨ld, hld⟩ : ∃ ld, (laidAll bars runs)[k]? = some ld := ⟨_, List.getElem?_eq_getElem (by rw [← HN.out]; exact hlt)⟩
      have hal : acc.length ≤ 6 * k := by
        rw [hacc.out]
        refine Nat.le_trans (rods_len _ (fun y hy => ?_)) (by rw [List.length_take]; omega)
        obtain ⟨j, hj, rfl⟩ := List.getElem_of_mem hy
        rw [List.length_take] at hj
        exact (Hl7.out j _ (by rw [List.getElem_take]; exact List.getElem?_eq_getElem (by omega))).2
      have Hn := hide (show ((laidAll bars runs).take (k + 1)).flatMap (rodsOfBar bars) = acc ++ legRods (idx (markIs ld.bar.mark) bars) (legsOfPts ld.pts) by rw [take_snoc' hld, List.flatMap_append, hacc.out, ← Hrb.out]; simp)
      have hl7 := (Hl7.out k ld hld).2
      have HMk := hide (fun (W : World) (hz : Below w.heap.size w W) => HM.out W hz k ld hld)
      have HLk := hide (fun (W : World) (hz : Below w.heap.size w W) => HL.out W hz k ld hld)
      obtain ⟨mark, hmark⟩ : ∃ m, m = ld.bar.mark := ⟨_, rfl⟩
      obtain ⟨legs, hlegs⟩ : ∃ l, l = legsOfPts ld.pts := ⟨_, rfl⟩
      obtain ⟨line, hline⟩ : ∃ j, j = idx (markIs mark) bars := ⟨_, rfl⟩
      have hll : legs.length ≤ 6 := by rw [hlegs, legsOfPts_len]; omega
      have HIk := HI.out
      rw [← hmark] at HMk
      rw [← hlegs] at HLk
      rw [← hmark, ← hlegs, ← hline] at Hn
      have HIk := hide (fun (W : World) (hz : Below w.heap.size w W) (g : Nat) (h0 : ∀ W', Below W.heap.size W W' → W'.cell? ⟨g, 0, none⟩ = some (.string mark)) => HI.out W hz g mark h0)
      rw [← hline] at HIk
      have hWo := hide (below_step HW1.out hbr (Nat.le_refl _))
      have kk := K0.out.below hbr K0.out.lt
      have KK := hide kk
      have e6 := kk.cell 6
      have e7 := kk.cell 7
      simp at e6 e7
      have lk := kk.lt
      have Hrow := hide hrow
      have HBo := hide hbr
      have Hal := hide hal
      clear hld hmark hlegs hline kk hrow hbr hal hl7
      go_wp2_with fail
      refine (HMk.out _ hWo.out).mono ?_
      rintro e w2 ⟨rfl, hb2⟩
      have KK := hide (KK.out.keep hb2)
      have HB2 := hide (below_step HBo.out hb2 (Nat.le_refl _))
      have hW2 := hide (below_step hWo.out hb2 (Nat.le_refl _))
      have Hrow := hide (Hrow.out.keep hb2)
      have e6 := KK.out.cell 6
      have e7 := KK.out.cell 7
      simp at e6 e7
      have lk := KK.out.lt
      clear hb2 HMk
      have KMk := hide (Blk.new w2 9 #[.string mark])
      have KK := hide (KK.out.alloc (.cells #[.string mark] 9))
      have HB2 := hide (HB2.out.alloc HB2.out.size (.cells #[.string mark] 9))
      have hW2 := hide (hW2.out.alloc hW2.out.size (.cells #[.string mark] 9))
      have Hrow := hide (Hrow.out.alloc (.cells #[.string mark] 9))
      go_wp2_with fail
      refine (HLk.out _ hW2.out).mono ?_
      rintro e w3 ⟨A6, c6', rfl, hlg, hb3⟩
      have KMk := hide (KMk.out.keep hb3)
      have KK := hide (KK.out.keep hb3)
      have HB3 := hide (below_step HB2.out hb3 (Nat.le_refl _))
      have hW3 := hide (below_step hW2.out hb3 (Nat.le_refl _))
      have Hrow := hide (Hrow.out.keep hb3)
      have Hlg := hide hlg
      have e6 := KK.out.cell 6
      simp at e6
      have lk := KK.out.lt
      clear hb3 hlg HLk e7
      go_wp2_with fail
      refine (HIk.out _ hW3.out w2.heap.size (fun W' hb => by have h9 := (KMk.out.keep hb).cell 0; simpa using h9)).mono ?_
      rintro e w4 ⟨rfl, hb4⟩
      have HB4 := hide (below_step HB3.out hb4 (Nat.le_refl _))
      have Hrow := hide (Hrow.out.keep hb4)
      have hlg4 := Hlg.out.keep hb4
      have Hlg4 := hide hlg4
      generalize hln : legs.length = ln at *
      have Hln := hide hln
      clear hb4 hln Hlg HIk KMk KK e6 hlg4
      go_wp2_with fail
      go_loopw [6, 59] (fun v iv wi => ∃ q : Nat, q ≤ ln ∧ iv = .int .i64 q ∧ (∃ acc2 : List RodD, Row wi w1.heap.size 133 7 encRod v acc2 ∧ Hid (acc2 = acc ++ legRods line (legs.take q))) ∧ (0 < ln → ∃ g cs, A6 = some ⟨g, 0, none⟩ ∧ Blk wi g 73 cs ∧ Hid (∀ (j : Nat) (u : Value), (legs.flatMap encB)[j]? = some u → cs[j]? = some u)) ∧ Below w1.heap.size w1 wi) (fun _ iv _ => ln - (intOf iv).toNat)
      case atStart =>
        refine ⟨0, Nat.zero_le _, rfl, ⟨acc, Hrow.out, hide (by simp [legRods])⟩, fun h0 => ?_, HB4.out⟩
        obtain ⟨g, cs, hA, _, hb, hc⟩ := row_blk Hlg4.out (by rw [Hln.out]; exact h0)
        exact ⟨g, cs, hA, hb, hide hc⟩
      case round =>
        obtain ⟨q, hq, rfl, ⟨acc2, hrow2, hacc2⟩, hblk, hbi⟩ := hrel
        obtain ⟨A2, c2', rfl⟩ := hrow2.val
        have hal2 : acc2.length ≤ 1000000 := by
          have := Hal.out
          rw [hacc2.out, List.length_append, legRods, List.length_map, List.length_take]
          omega
        have Hrow2 := hide hrow2
        by_cases hql : q < ln
        · obtain ⟨g, cs, rfl, kb, hcs⟩ := hblk (by omega)
          obtain ⟨lb, hlb⟩ : ∃ lb, legs[q]? = some lb := ⟨_, List.getElem?_eq_getElem (by rw [Hln.out]; exact hql)⟩
          obtain ⟨_, _, lb', hA9, _, hlb', b0, b1, b2, b3, b4, b5⟩ := BoxesAt.get (k := q) (blk_sl (B := g + 1) encB_len kb hcs.out (by omega)) (by rw [Hln.out]; exact hql)
          injection hA9 with hA9
          injection hA9 with hA7 hA8
          subst hA7
          subst hA8
          rw [hlb] at hlb'
          injection hlb' with hlb'
          subst hlb'
          have Hn2 := hide (show legRods line (legs.take (q + 1)) = legRods line (legs.take q) ++ [⟨lb, line⟩] by rw [take_snoc' hlb, legRods, List.map_append]; rfl)
          obtain ⟨⟨x1, x2, x3⟩, x4, x5, x6⟩ := lb
          simp only [Nat.zero_add] at b0 b1 b2 b3 b4 b5
          have lg := kb.lt
          have Hkb := hide kb
          have Hbi := hide hbi
          have hbs := hbi.size
          clear hrow2 hlb kb hbi hblk
          go_wp2_with (at_builtin; refine wpList_append1 rfl (.tmp 63) (.tmp 67) 87 rfl w1.heap.size 133 (.agg #[.int .i64 0, .int .i64 0, .int .i64 0, .int .i64 0, .int .i64 0, .int .i64 0, .int .i64 0]) 7 56 encRod Tryz.underlying87 (by kernel_rfl) rfl (by omega) encRod_len encRod_one _ acc2 ⟨⟨(x1, x2, x3), (x4, x5, x6)⟩, line⟩ rfl ((Hrow2.out.alloc _).alloc _) _ rfl (Blk.new1 wr _ _ _) hal2 (by omega) (le_alloc (le_alloc hbs _) _) ?_; intro A9 c9 w9 hrow9 hb9 hkeep9)
          go_roundw
          case rel => exact ⟨q + 1, by omega, by go_num, ⟨acc2 ++ [⟨⟨(x1, x2, x3), (x4, x5, x6)⟩, line⟩], by simpa using hrow9, hide (by rw [hacc2.out, Hn2.out, List.append_assoc])⟩, fun _ => ⟨g, cs, rfl, hkeep9 _ _ _ (by decide) ((Hkb.out.alloc _).alloc _), hcs⟩, ((Hbi.out.alloc hbs _).alloc (le_alloc hbs _) _).trans hb9⟩
          case measure => simp [intOf]; omega
        · obtain rfl : q = ln := by omega
          have hfin := hide (show acc2 = ((laidAll bars runs).take (k + 1)).flatMap (rodsOfBar bars) by rw [hacc2.out, Hn.out, ← Hln.out, List.take_length])
          have Hbi := hide hbi
          clear hrow2 hbi hblk
          go_wp2_with fail
          go_roundw
          case rel => exact ⟨k + 1, by omega, by go_num, ⟨acc2, Hrow2.out, hfin⟩, Hbi.out⟩
          case measure => simp [intOf]; omega
    · obtain rfl : k = N := by omega
      have hf : acc = rodsOf bars runs := by rw [hacc.out, HN.out, List.take_length, ← Hro.out]
      have hlen := hide (show (rodsOf bars runs).length = acc.length by rw [hf])
      have Hr := hide (show RodsAt wo wo.heap.size A0 (rodsOf bars runs) by rw [← hf]; exact Row.read hrow encRod_len (by omega))
      have Hb := hide (below_step HW1.out hbr (Nat.le_refl _))
      clear hf hacc hrow hbr
      generalize acc.length = m at *
      go_wp2_with fail
      go_ret2
      exact ⟨A0, c0, by rw [hlen.out]; rfl, Hr.out, Hb.out⟩
end Go.Proofs.YtpmipoljnchheaaGreat
namespace Go.Proofs.YtpmipoljnchheaaGreat
open Go.RowKit Go.Sort

/-! Ascending, each once: what slices.Sort and slices.Compact leave. -/
theorem compact_asc {zs : List Int} (h : zs.Pairwise (· ≤ ·)) : ∀ m, m ≤ zs.length → (Lib.compactUpTo zs.toArray m).Pairwise (· < ·) ∧ ∀ x, x ∈ Lib.compactUpTo zs.toArray m ↔ x ∈ zs.take m := by
  have hle : ∀ i j (hi : i < zs.length) (hj : j < zs.length), i ≤ j → zs[i] ≤ zs[j] := by
    intro i j hi hj hij
    rcases Nat.lt_or_ge i j with h9 | h9
    · exact List.pairwise_iff_getElem.1 h i j hi hj h9
    · have : i = j := by omega
      subst this
      omega
  have hget : ∀ i (hi : i < zs.length), (zs.toArray)[i]! = zs[i] := by
    intro i hi
    rw [getElem!_pos _ i (by simpa using hi)]
    simp
  intro m
  induction m with
  | zero => intro _; simp [Lib.compactUpTo]
  | succ m ih =>
    intro hm
    obtain ⟨ha, hb⟩ := ih (by omega)
    have hml : m < zs.length := by omega
    rw [Lib.compactUpTo_succ, List.take_succ_eq_append_getElem hml]
    by_cases hk : Lib.keeps zs.toArray m = true
    · rw [if_pos hk, hget m hml]
      refine ⟨?_, fun x => by simp only [List.mem_append, List.mem_singleton]; rw [hb]⟩
      rw [List.pairwise_append]
      refine ⟨ha, by simp, fun x hx y hy => ?_⟩
      simp only [List.mem_singleton] at hy
      subst hy
      obtain ⟨j, hj, rfl⟩ := List.getElem_of_mem ((hb x).1 hx)
      rw [List.length_take] at hj
      rw [List.getElem_take]
      simp only [Lib.keeps, decide_eq_true_eq] at hk
      rcases hk with hk | hk
      · omega
      · rw [hget m hml, hget (m - 1) (by omega)] at hk
        have h1 := hle j (m - 1) (by omega) (by omega) (by omega)
        have h2 := hle (m - 1) m (by omega) hml (by omega)
        omega
    · rw [if_neg hk, List.append_nil]
      refine ⟨ha, fun x => ?_⟩
      rw [hb]
      simp only [Lib.keeps, decide_eq_true_eq, not_or, Decidable.not_not] at hk
      obtain ⟨hk0, hk1⟩ := hk
      rw [hget m hml, hget (m - 1) (by omega)] at hk1
      simp only [List.mem_append, List.mem_singleton]
      refine ⟨fun h => .inl h, fun h => ?_⟩
      rcases h with h | h
      · exact h
      · rw [h, hk1]
        rw [List.mem_iff_getElem]
        exact ⟨m - 1, by rw [List.length_take]; omega, by rw [List.getElem_take]⟩
theorem compact_sorted (l : List Int) : (Lib.compact (l.mergeSort fun x y => decide (x ≤ y))).Pairwise (· < ·) ∧ ∀ x, x ∈ Lib.compact (l.mergeSort fun x y => decide (x ≤ y)) ↔ x ∈ l := by
  have hs : (l.mergeSort fun x y => decide (x ≤ y)).Pairwise (· ≤ ·) := by
    have h := List.pairwise_mergeSort (le := fun (x y : Int) => decide (x ≤ y)) (fun a b c h1 h2 => by simp at *; omega) (fun a b => by simp; omega) l
    exact h.imp (fun h => by simpa using h)
  obtain ⟨h1, h2⟩ := compact_asc hs _ (Nat.le_refl _)
  refine ⟨h1, fun x => ?_⟩
  have := h2 x
  rw [List.take_length] at this
  unfold Lib.compact
  rw [this]
  exact List.mem_mergeSort
theorem seenOf_eq {n : Nat} {g : GridD} {l : List RodD} {row col : Int} (hl : ∀ r ∈ l, 0 ≤ r.line ∧ r.line < n) : Lib.compact ((hitLines g l row col).mergeSort fun x y => decide (x ≤ y)) = seenOf n g l row col :=
  seen_of hl _ (compact_sorted _).1 (compact_sorted _).2
theorem flat_ints (l : List Int) : l.flatMap encInt = l.map (Value.int .i64) := by
  induction l with
  | nil => rfl
  | cons x l ih => rw [List.flatMap_cons, List.map_cons, ih]; rfl
/-- What is sorted and compacted in its own row. -/
theorem sorted_left {w0 w1 : World} {g cap n q : Nat} {os : Array Obj} {zs : List Int} (hown : w1.ownsRow w0.heap.size 3 1 (.slice (some ⟨g, 0, none⟩) zs.length cap) zs.length (zs.map (Value.int .i64))) (hbel : Below w0.heap.size w0 w1) (hbg : w0.heap.size ≤ g) :
    Row (putRow (Value.int .i64) (Sort.ahead (grow (putRow (Value.int .i64) (Sort.ahead w1 n) g 0 (zs.mergeSort fun x y => decide (x ≤ y)).toArray) os) q) g 0 (Lib.compact (zs.mergeSort fun x y => decide (x ≤ y)) ++ List.replicate (zs.length - (Lib.compact (zs.mergeSort fun x y => decide (x ≤ y))).length) 0).toArray) w0.heap.size 3 1 encInt
        (.slice (some ⟨g, 0, none⟩) (Lib.compact (zs.mergeSort fun x y => decide (x ≤ y))).length cap) (Lib.compact (zs.mergeSort fun x y => decide (x ≤ y))) ∧
      Below w0.heap.size w0 (putRow (Value.int .i64) (Sort.ahead (grow (putRow (Value.int .i64) (Sort.ahead w1 n) g 0 (zs.mergeSort fun x y => decide (x ≤ y)).toArray) os) q) g 0 (Lib.compact (zs.mergeSort fun x y => decide (x ≤ y)) ++ List.replicate (zs.length - (Lib.compact (zs.mergeSort fun x y => decide (x ≤ y))).length) 0).toArray) := by
  have hl2 : (zs.mergeSort fun x y => decide (x ≤ y)).length = zs.length := List.length_mergeSort zs
  have hle := Lib.compact_length_le (zs.mergeSort fun x y => decide (x ≤ y))
  rcases hown.2 with ⟨h0, _⟩ | ⟨g', cap', cur, hv, hbase, hb, h1, h2, h3, h4⟩
  · cases h0
  cases hv
  have hs := ownsRow_sortedI (n := n) (os := os) (ts := zs.mergeSort fun x y => decide (x ≤ y)) hl2 hbase hb h1 h2 h3
  have hc := Lib.ownsRow_putRow (q := q) (k := (Lib.compact (zs.mergeSort fun x y => decide (x ≤ y))).length) (ys := Lib.compact (zs.mergeSort fun x y => decide (x ≤ y)) ++ List.replicate (zs.length - (Lib.compact (zs.mergeSort fun x y => decide (x ≤ y))).length) 0) hs (by simp; omega) (by omega)
  rw [List.take_left] at hc
  refine ⟨?_, Lib.below_putRow (hbel.grown (grownBy_sortedI _) hbel.size (fun j hj => by cases hj; exact hbase)) hbg⟩
  unfold Row
  rw [flat_ints]
  exact hc
end Go.Proofs.YtpmipoljnchheaaGreat
