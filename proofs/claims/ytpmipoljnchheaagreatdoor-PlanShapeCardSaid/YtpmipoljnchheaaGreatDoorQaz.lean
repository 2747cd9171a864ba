/- All legs of a detail, with their lines of the schedule. The lines of the schedule that are seen in a cell. The reference of layer 25: whether a detail is valid. -/
import Derived.Test.YtpmipoljnchheaaGreatDoorQat
import Derived.Test.YtpmipoljnchheaaGreatDoorQba
import Derived.Lib.SlicesCompact
import Derived.Lib.RowBridge
import Derived.Sort.OwnSortedInts
import Derived.Lib.OwnBridge
import Derived.BigQuiet
namespace Go.Proofs.YtpmipoljnchheaaGreatDoor
open Go.RowKit

theorem rods_len {bars : List BarD} : ∀ (l : List LaidD), (∀ x ∈ l, x.pts.length ≤ 7) → (l.flatMap (rodsOfBar bars)).length ≤ 6 * l.length := by
  intro l
  induction l with
  | nil => intro _; simp
  | cons x l ih =>
    intro h
    have h1 := ih (fun y hy => h y (List.mem_cons_of_mem _ hy))
    have h2 := h x (by simp)
    rw [List.flatMap_cons, List.length_append, List.length_cons]
    have h3 : (rodsOfBar bars x).length ≤ 6 := by
      rw [rodsOfBar, List.length_map, legsOfPts_len]
      omega
    omega
def legRods (line : Int) (l : List BoxD) : List RodD := l.map fun b => ⟨b, line⟩
set_option maxHeartbeats 400000 in
theorem rods1_any (x : BarD) (A : Option Addr) (c : Nat) (m : ByteArray) (g : Nat) (w : World) (h0 : w.cell? ⟨g, 0, none⟩ = some (.string m)) :
    Calls Tryz.prog 47 #[.agg #[.string x.mark, .int .i64 x.size, .int .i64 x.count, .int .i64 x.code, .slice A x.dims.length c], .pointer (some ⟨g, 0, none⟩)] w fun e w' => e = .returned (.bool (markIs m x)) ∧ Below w.heap.size w w' := by
  have hg : g < w.heap.size := World.block_lt_of_cell? w _ h0
  have h1 := fun o => (World.cell?_alloc_lt w o ⟨g, 0, none⟩ hg).trans h0
  go_enter Tryz.func47, Tryz.ntmps47
  go_wp2_with fail
  go_ret
  exact ⟨ret_bool (by rfl), below_new _ _⟩
set_option maxHeartbeats 4000000 in
set_option maxRecDepth 100000 in
theorem rods_ok (x : DetD) (s : DetS) (w : World) {B : Nat} (h : DetAt w B x s) (hB : B ≤ w.heap.size) (hf : DetFit x s) (hok : laidOk x.bars x.runs = true) :
    Calls Tryz.prog 22 #[detV x s] w fun e w' => ∃ A c, e = .returned (.tuple #[.slice A (rodsOf x.bars x.runs).length c, .int .i64 0]) ∧ RodsAt w' w'.heap.size A (rodsOf x.bars x.runs) ∧ Below w.heap.size w w' := by
  have HC := hide (fun (W : World) (hz : Below w.heap.size w W) => laidCount_ok s.a3 x.bars s.n3 s.c3 s.a4 x.runs s.n4 s.c4 W (h.h3.carry (hz.mono hB) (Nat.le_refl _)) (h.h4.carry (Flat.carried _) (hz.mono hB) (Nat.le_refl _)) (Nat.le_trans hB hz.size) hf.l3 hf.l4 hf.m3 hf.m4 hf.tame hok)
  have HM := hide (fun (W : World) (hz : Below w.heap.size w W) (i : Nat) (l : LaidD) (hl : (laidAll x.bars x.runs)[i]? = some l) => laidMark_ok s.a3 x.bars s.n3 s.c3 s.a4 x.runs s.n4 s.c4 W (h.h3.carry (hz.mono hB) (Nat.le_refl _)) (h.h4.carry (Flat.carried _) (hz.mono hB) (Nat.le_refl _)) (Nat.le_trans hB hz.size) hf.l3 hf.l4 hf.m3 hf.m4 hf.tame hok (i : Int) l.bar.mark (by omega) (by have := lt_of_get hl; have := (laidOk_len hok).2; omega) (laidAll_mark x.runs i l (laidOk_mem hok).2.2 hl))
  have HL := hide (fun (W : World) (hz : Below w.heap.size w W) (i : Nat) (l : LaidD) (hl : (laidAll x.bars x.runs)[i]? = some l) => laidLegs_row s.a3 s.a4 x.bars x.runs s.n3 s.c3 s.n4 s.c4 i l W (h.h3.carry (hz.mono hB) (Nat.le_refl _)) (h.h4.carry (Flat.carried _) (hz.mono hB) (Nat.le_refl _)) (Nat.le_trans hB hz.size) hf.l3 hf.l4 hf.m3 hf.m4 hf.tame hok hl)
  have HI := hide (fun (W : World) (hz : Below w.heap.size w W) (g : Nat) (m : ByteArray) (h0 : ∀ W', Below W.heap.size W W' → W'.cell? ⟨g, 0, none⟩ = some (.string m)) => indexFuncBar_any s.a3 x.bars s.n3 s.c3 47 #[.pointer (some ⟨g, 0, none⟩)] (markIs m) W (h.h3.carry (hz.mono hB) (Nat.le_refl _)) (Nat.le_trans hB hz.size) hf.l3 hf.m3 Tryz.call47 (fun y A' c' W' _ hb _ => rods1_any y A' c' m g W' (h0 W' hb)))
  obtain ⟨N, hN⟩ : ∃ N, N = (laidAll x.bars x.runs).length := ⟨_, rfl⟩
  have hcn : countRuns x.runs = (N : Int) := by rw [hN]; exact (laidOk_len hok).1.symm
  rw [hcn] at HC
  have HN := hide hN
  have hN2 : N ≤ 2000 := by rw [hN]; exact (laidOk_len hok).2
  have Hl7 := hide (fun (i : Nat) (l : LaidD) (hl : (laidAll x.bars x.runs)[i]? = some l) => (laid_near x.runs i l (laidOk_mem hok).2.2 hl).2)
  have Hro := hide (show rodsOf x.bars x.runs = (laidAll x.bars x.runs).flatMap (rodsOfBar x.bars) from rfl)
  have Hrb := hide (fun (l : LaidD) => show rodsOfBar x.bars l = legRods (idx (markIs l.bar.mark) x.bars) (legsOfPts l.pts) from rfl)
  obtain ⟨mem, bars, runs, laps, dems, rule⟩ := x
  obtain ⟨a1, n1, c1, a2, n2, c2, a3, n3, c3, a4, n4, c4, a5, n5, c5, a6, n6, c6⟩ := s
  obtain ⟨name, boxes, holes, cover, agg, poker⟩ := mem
  obtain ⟨r1, r2, r3, r4, r5, r6, r7, r8, r9⟩ := rule
  simp only at HC HM HL HI HN Hl7 Hro Hrb
  have K0 := hide (Blk.new w 34 #[.string name, .slice a1 n1 c1, .slice a2 n2 c2, .int .i64 cover, .int .i64 agg, .int .i64 poker, .slice a3 n3 c3, .slice a4 n4 c4, .slice a5 n5 c5, .slice a6 n6 c6, .int .i64 r1, .int .i64 r2, .int .i64 r3, .int .i64 r4, .int .i64 r5, .int .i64 r6, .int .i64 r7, .int .i64 r8, .int .i64 r9])
  have HW := hide (below_new w (.cells #[.string name, .slice a1 n1 c1, .slice a2 n2 c2, .int .i64 cover, .int .i64 agg, .int .i64 poker, .slice a3 n3 c3, .slice a4 n4 c4, .slice a5 n5 c5, .slice a6 n6 c6, .int .i64 r1, .int .i64 r2, .int .i64 r3, .int .i64 r4, .int .i64 r5, .int .i64 r6, .int .i64 r7, .int .i64 r8, .int .i64 r9] 34))
  clear h hf hok hN hcn
  show Calls Tryz.prog 22 #[.agg #[.string name, .slice a1 n1 c1, .slice a2 n2 c2, .int .i64 cover, .int .i64 agg, .int .i64 poker, .slice a3 n3 c3, .slice a4 n4 c4, .slice a5 n5 c5, .slice a6 n6 c6, .int .i64 r1, .int .i64 r2, .int .i64 r3, .int .i64 r4, .int .i64 r5, .int .i64 r6, .int .i64 r7, .int .i64 r8, .int .i64 r9]] w _
  go_enter Tryz.func22, Tryz.ntmps22
  go_wp2_with fail
  refine (HC.out _ HW.out).mono ?_
  rintro e w1 ⟨rfl, hb1⟩
  have K0 := hide (K0.out.keep hb1)
  have HW1 := hide (below_step HW.out hb1 (Nat.le_refl _))
  clear hb1 HC HW
  go_wp2_with fail
  go_loopw [6, 26] (fun v iv wr => ∃ k : Nat, k ≤ N ∧ iv = .int .i64 k ∧ (∃ acc : List RodD, Row wr w1.heap.size 112 7 encRod v acc ∧ Hid (acc = ((laidAll bars runs).take k).flatMap (rodsOfBar bars))) ∧ Below w1.heap.size w1 wr) (fun _ iv _ => N - (intOf iv).toNat)
  case atStart => exact ⟨0, Nat.zero_le _, rfl, ⟨[], Row.nil _ _ _ _ _, hide rfl⟩, Below.refl _ _⟩
  case round =>
    rename World => wo
    obtain ⟨k, hk, rfl, ⟨acc, hrow, hacc⟩, hbr⟩ := hrel
    obtain ⟨A0, c0, rfl⟩ := hrow.val
    by_cases hlt : k < N
    · obtain ⟨ld, hld⟩ : ∃ ld, (laidAll bars runs)[k]? = some ld := ⟨_, List.getElem?_eq_getElem (by rw [← HN.out]; exact hlt)⟩
      have hal : acc.length ≤ 6 * k := by
        rw [hacc.out]
        refine Nat.le_trans (rods_len _ (fun y hy => ?_)) (by rw [List.length_take]; omega)
        obtain ⟨j, hj, rfl⟩ := List.getElem_of_mem hy
        rw [List.length_take] at hj
        exact (Hl7.out j _ (by rw [List.getElem_take]; exact List.getElem?_eq_getElem (by omega))).2
      have Hn := hide (show ((laidAll bars runs).take (k + 1)).flatMap (rodsOfBar bars) = acc ++ legRods (idx (markIs ld.bar.mark) bars) (legsOfPts ld.pts) by rw [take_snoc' hld, List.flatMap_append, hacc.out, ← Hrb.out]; simp)
      have hl7 := (Hl7.out k ld hld).2
      have HMk := hide (fun (W : World) (hz : Below w.heap.size w W) => HM.out W hz k ld hld)
      have HLk := hide (fun (W : World) (hz : Below w.heap.size w W) => HL.out W hz k ld hld)
      obtain ⟨mark, hmark⟩ : ∃ m, m = ld.bar.mark := ⟨_, rfl⟩
      obtain ⟨legs, hlegs⟩ : ∃ l, l = legsOfPts ld.pts := ⟨_, rfl⟩
      obtain ⟨line, hline⟩ : ∃ j, j = idx (markIs mark) bars := ⟨_, rfl⟩
      have hll : legs.length ≤ 6 := by rw [hlegs, legsOfPts_len]; omega
      have HIk := HI.out
      rw [← hmark] at HMk
      rw [← hlegs] at HLk
      rw [← hmark, ← hlegs, ← hline] at Hn
      have HIk := hide (fun (W : World) (hz : Below w.heap.size w W) (g : Nat) (h0 : ∀ W', Below W.heap.size W W' → W'.cell? ⟨g, 0, none⟩ = some (.string mark)) => HI.out W hz g mark h0)
      rw [← hline] at HIk
      have hWo := hide (below_step HW1.out hbr (Nat.le_refl _))
      have kk := K0.out.below hbr K0.out.lt
      have KK := hide kk
      have e6 := kk.cell 6
      have e7 := kk.cell 7
      simp at e6 e7
      have lk := kk.lt
      have Hrow := hide hrow
      have HBo := hide hbr
      have Hal := hide hal
      clear hld hmark hlegs hline kk hrow hbr hal hl7
      go_wp2_with fail
      refine (HMk.out _ hWo.out).mono ?_
      rintro e w2 ⟨rfl, hb2⟩
      have KK := hide (KK.out.keep hb2)
      have HB2 := hide (below_step HBo.out hb2 (Nat.le_refl _))
      have hW2 := hide (below_step hWo.out hb2 (Nat.le_refl _))
      have Hrow := hide (Hrow.out.keep hb2)
      have e6 := KK.out.cell 6
      have e7 := KK.out.cell 7
      simp at e6 e7
      have lk := KK.out.lt
      clear hb2 HMk
      have KMk := hide (Blk.new w2 9 #[.string mark])
      have KK := hide (KK.out.alloc (.cells #[.string mark] 9))
      have HB2 := hide (HB2.out.alloc HB2.out.size (.cells #[.string mark] 9))
      have hW2 := hide (hW2.out.alloc hW2.out.size (.cells #[.string mark] 9))
      have Hrow := hide (Hrow.out.alloc (.cells #[.string mark] 9))
      go_wp2_with fail
      refine (HLk.out _ hW2.out).mono ?_
      rintro e w3 ⟨A6, c6', rfl, hlg, hb3⟩
      have KMk := hide (KMk.out.keep hb3)
      have KK := hide (KK.out.keep hb3)
      have HB3 := hide (below_step HB2.out hb3 (Nat.le_refl _))
      have hW3 := hide (below_step hW2.out hb3 (Nat.le_refl _))
      have Hrow := hide (Hrow.out.keep hb3)
      have Hlg := hide hlg
      have e6 := KK.out.cell 6
      simp at e6
      have lk := KK.out.lt
      clear hb3 hlg HLk e7
      go_wp2_with fail
      refine (HIk.out _ hW3.out w2.heap.size (fun W' hb => by have h9 := (KMk.out.keep hb).cell 0; simpa using h9)).mono ?_
      rintro e w4 ⟨rfl, hb4⟩
      have HB4 := hide (below_step HB3.out hb4 (Nat.le_refl _))
      have Hrow := hide (Hrow.out.keep hb4)
      have hlg4 := Hlg.out.keep hb4
      have Hlg4 := hide hlg4
      generalize hln : legs.length = ln at *
      have Hln := hide hln
      clear hb4 hln Hlg HIk KMk KK e6 hlg4
      go_wp2_with fail
      go_loopw [6, 59] (fun v iv wi => ∃ q : Nat, q ≤ ln ∧ iv = .int .i64 q ∧ (∃ acc2 : List RodD, Row wi w1.heap.size 112 7 encRod v acc2 ∧ Hid (acc2 = acc ++ legRods line (legs.take q))) ∧ (0 < ln → ∃ g cs, A6 = some ⟨g, 0, none⟩ ∧ Blk wi g 93 cs ∧ Hid (∀ (j : Nat) (u : Value), (legs.flatMap encB)[j]? = some u → cs[j]? = some u)) ∧ Below w1.heap.size w1 wi) (fun _ iv _ => ln - (intOf iv).toNat)
      case atStart =>
        refine ⟨0, Nat.zero_le _, rfl, ⟨acc, Hrow.out, hide (by simp [legRods])⟩, fun h0 => ?_, HB4.out⟩
        obtain ⟨g, cs, hA, _, hb, hc⟩ := row_blk Hlg4.out (by rw [Hln.out]; exact h0)
        exact ⟨g, cs, hA, hb, hide hc⟩
      case round =>
        obtain ⟨q, hq, rfl, ⟨acc2, hrow2, hacc2⟩, hblk, hbi⟩ := hrel
        obtain ⟨A2, c2', rfl⟩ := hrow2.val
        have hal2 : acc2.length ≤ 1000000 := by
          have := Hal.out
          rw [hacc2.out, List.length_append, legRods, List.length_map, List.length_take]
          omega
        have Hrow2 := hide hrow2
        by_cases hql : q < ln
        · obtain ⟨g, cs, rfl, kb, hcs⟩ := hblk (by omega)
          obtain ⟨lb, hlb⟩ : ∃ lb, legs[q]? = some lb := ⟨_, List.getElem?_eq_getElem (by rw [Hln.out]; exact hql)⟩
          obtain ⟨_, _, lb', hA9, _, hlb', b0, b1, b2, b3, b4, b5⟩ := BoxesAt.get (k := q) (blk_sl (B := g + 1) encB_len kb hcs.out (by omega)) (by rw [Hln.out]; exact hql)
          injection hA9 with hA9
          injection hA9 with hA7 hA8
          subst hA7
          subst hA8
          rw [hlb] at hlb'
          injection hlb' with hlb'
          subst hlb'
          have Hn2 := hide (show legRods line (legs.take (q + 1)) = legRods line (legs.take q) ++ [⟨lb, line⟩] by rw [take_snoc' hlb, legRods, List.map_append]; rfl)
          obtain ⟨⟨x1, x2, x3⟩, x4, x5, x6⟩ := lb
          simp only [Nat.zero_add] at b0 b1 b2 b3 b4 b5
          have lg := kb.lt
          have Hkb := hide kb
          have Hbi := hide hbi
          have hbs := hbi.size
          clear hrow2 hlb kb hbi hblk
          go_wp2_with (at_builtin; refine wpList_append1 rfl (.tmp 63) (.tmp 67) 68 rfl w1.heap.size 112 (.agg #[.int .i64 0, .int .i64 0, .int .i64 0, .int .i64 0, .int .i64 0, .int .i64 0, .int .i64 0]) 7 56 encRod Tryz.underlying68 (by kernel_rfl) rfl (by omega) encRod_len encRod_one _ acc2 ⟨⟨(x1, x2, x3), (x4, x5, x6)⟩, line⟩ rfl ((Hrow2.out.alloc _).alloc _) _ rfl (Blk.new1 wr _ _ _) hal2 (by omega) (le_alloc (le_alloc hbs _) _) ?_; intro A9 c9 w9 hrow9 hb9 hkeep9)
          go_roundw
          case rel => exact ⟨q + 1, by omega, by go_num, ⟨acc2 ++ [⟨⟨(x1, x2, x3), (x4, x5, x6)⟩, line⟩], by simpa using hrow9, hide (by rw [hacc2.out, Hn2.out, List.append_assoc])⟩, fun _ => ⟨g, cs, rfl, hkeep9 _ _ _ (by decide) ((Hkb.out.alloc _).alloc _), hcs⟩, ((Hbi.out.alloc hbs _).alloc (le_alloc hbs _) _).trans hb9⟩
          case measure => simp [intOf]; omega
        · obtain rfl : q = ln := by omega
          have hfin := hide (show acc2 = ((laidAll bars runs).take (k + 1)).flatMap (rodsOfBar bars) by rw [hacc2.out, Hn.out, ← Hln.out, List.take_length])
          have Hbi := hide hbi
          clear hrow2 hbi hblk
          go_wp2_with fail
          go_roundw
          case rel => exact ⟨k + 1, by omega, by go_num, ⟨acc2, Hrow2.out, hfin⟩, Hbi.out⟩
          case measure => simp [intOf]; omega
    · obtain rfl : k = N := by omega
      have hf : acc = rodsOf bars runs := by rw [hacc.out, HN.out, List.take_length, ← Hro.out]
      have hlen := hide (show (rodsOf bars runs).length = acc.length by rw [hf])
      have Hr := hide (show RodsAt wo wo.heap.size A0 (rodsOf bars runs) by rw [← hf]; exact Row.read hrow encRod_len (by omega))
      have Hb := hide (below_step HW1.out hbr (Nat.le_refl _))
      clear hf hacc hrow hbr
      generalize acc.length = m at *
      go_wp2_with fail
      go_ret2
      exact ⟨A0, c0, by rw [hlen.out]; rfl, Hr.out, Hb.out⟩
end Go.Proofs.YtpmipoljnchheaaGreatDoor
namespace Go.Proofs.YtpmipoljnchheaaGreatDoor
open Go.RowKit Go.Sort

/-! Ascending, each once: what slices.Sort and slices.Compact leave. -/
theorem compact_asc {zs : List Int} (h : zs.Pairwise (· ≤ ·)) : ∀ m, m ≤ zs.length → (Lib.compactUpTo zs.toArray m).Pairwise (· < ·) ∧ ∀ x, x ∈ Lib.compactUpTo zs.toArray m ↔ x ∈ zs.take m := by
  have hle : ∀ i j (hi : i < zs.length) (hj : j < zs.length), i ≤ j → zs[i] ≤ zs[j] := by
    intro i j hi hj hij
    rcases Nat.lt_or_ge i j with h9 | h9
    · exact List.pairwise_iff_getElem.1 h i j hi hj h9
    · have : i = j := by omega
      subst this
      omega
  have hget : ∀ i (hi : i < zs.length), (zs.toArray)[i]! = zs[i] := by
    intro i hi
    rw [getElem!_pos _ i (by simpa using hi)]
    simp
  intro m
  induction m with
  | zero => intro _; simp [Lib.compactUpTo]
  | succ m ih =>
    intro hm
    obtain ⟨ha, hb⟩ := ih (by omega)
    have hml : m < zs.length := by omega
    rw [Lib.compactUpTo_succ, List.take_succ_eq_append_getElem hml]
    by_cases hk : Lib.keeps zs.toArray m = true
    · rw [if_pos hk, hget m hml]
      refine ⟨?_, fun x => by simp only [List.mem_append, List.mem_singleton]; rw [hb]⟩
      rw [List.pairwise_append]
      refine ⟨ha, by simp, fun x hx y hy => ?_⟩
      simp only [List.mem_singleton] at hy
      subst hy
      obtain ⟨j, hj, rfl⟩ := List.getElem_of_mem ((hb x).1 hx)
      rw [List.length_take] at hj
      rw [List.getElem_take]
      simp only [Lib.keeps, decide_eq_true_eq] at hk
      rcases hk with hk | hk
      · omega
      · rw [hget m hml, hget (m - 1) (by omega)] at hk
        have h1 := hle j (m - 1) (by omega) (by omega) (by omega)
        have h2 := hle (m - 1) m (by omega) hml (by omega)
        omega
    · rw [if_neg hk, List.append_nil]
      refine ⟨ha, fun x => ?_⟩
      rw [hb]
      simp only [Lib.keeps, decide_eq_true_eq, not_or, Decidable.not_not] at hk
      obtain ⟨hk0, hk1⟩ := hk
      rw [hget m hml, hget (m - 1) (by omega)] at hk1
      simp only [List.mem_append, List.mem_singleton]
      refine ⟨fun h => .inl h, fun h => ?_⟩
      rcases h with h | h
      · exact h
      · rw [h, hk1]
        rw [List.mem_iff_getElem]
        exact ⟨m - 1, by rw [List.length_take]; omega, by rw [List.getElem_take]⟩
theorem compact_sorted (l : List Int) : (Lib.compact (l.mergeSort fun x y => decide (x ≤ y))).Pairwise (· < ·) ∧ ∀ x, x ∈ Lib.compact (l.mergeSort fun x y => decide (x ≤ y)) ↔ x ∈ l := by
  have hs : (l.mergeSort fun x y => decide (x ≤ y)).Pairwise (· ≤ ·) := by
    have h := List.pairwise_mergeSort (le := fun (x y : Int) => decide (x ≤ y)) (fun a b c h1 h2 => by simp at *; omega) (fun a b => by simp; omega) l
    exact h.imp (fun h => by simpa using h)
  obtain ⟨h1, h2⟩ := compact_asc hs _ (Nat.le_refl _)
  refine ⟨h1, fun x => ?_⟩
  have := h2 x
  rw [List.take_length] at this
  unfold Lib.compact
  rw [this]
  exact List.mem_mergeSort
theorem seenOf_eq {n : Nat} {g : GridD} {l : List RodD} {row col : Int} (hl : ∀ r ∈ l, 0 ≤ r.line ∧ r.line < n) : Lib.compact ((hitLines g l row col).mergeSort fun x y => decide (x ≤ y)) = seenOf n g l row col :=
  seen_of hl _ (compact_sorted _).1 (compact_sorted _).2
theorem flat_ints (l : List Int) : l.flatMap encInt = l.map (Value.int .i64) := by
  induction l with
  | nil => rfl
  | cons x l ih => rw [List.flatMap_cons, List.map_cons, ih]; rfl
/-- What is sorted and compacted in its own row. -/
theorem sorted_left {w0 w1 : World} {g cap n q : Nat} {os : Array Obj} {zs : List Int} (hown : w1.ownsRow w0.heap.size 3 1 (.slice (some ⟨g, 0, none⟩) zs.length cap) zs.length (zs.map (Value.int .i64))) (hbel : Below w0.heap.size w0 w1) (hbg : w0.heap.size ≤ g) :
    Row (putRow (Value.int .i64) (Sort.ahead (grow (putRow (Value.int .i64) (Sort.ahead w1 n) g 0 (zs.mergeSort fun x y => decide (x ≤ y)).toArray) os) q) g 0 (Lib.compact (zs.mergeSort fun x y => decide (x ≤ y)) ++ List.replicate (zs.length - (Lib.compact (zs.mergeSort fun x y => decide (x ≤ y))).length) 0).toArray) w0.heap.size 3 1 encInt
        (.slice (some ⟨g, 0, none⟩) (Lib.compact (zs.mergeSort fun x y => decide (x ≤ y))).length cap) (Lib.compact (zs.mergeSort fun x y => decide (x ≤ y))) ∧
      Below w0.heap.size w0 (putRow (Value.int .i64) (Sort.ahead (grow (putRow (Value.int .i64) (Sort.ahead w1 n) g 0 (zs.mergeSort fun x y => decide (x ≤ y)).toArray) os) q) g 0 (Lib.compact (zs.mergeSort fun x y => decide (x ≤ y)) ++ List.replicate (zs.length - (Lib.compact (zs.mergeSort fun x y => decide (x ≤ y))).length) 0).toArray) := by
  have hl2 : (zs.mergeSort fun x y => decide (x ≤ y)).length = zs.length := List.length_mergeSort zs
  have hle := Lib.compact_length_le (zs.mergeSort fun x y => decide (x ≤ y))
  rcases hown.2 with ⟨h0, _⟩ | ⟨g', cap', cur, hv, hbase, hb, h1, h2, h3, h4⟩
  · cases h0
  cases hv
  have hs := ownsRow_sortedI (n := n) (os := os) (ts := zs.mergeSort fun x y => decide (x ≤ y)) hl2 hbase hb h1 h2 h3
  have hc := Lib.ownsRow_putRow (q := q) (k := (Lib.compact (zs.mergeSort fun x y => decide (x ≤ y))).length) (ys := Lib.compact (zs.mergeSort fun x y => decide (x ≤ y)) ++ List.replicate (zs.length - (Lib.compact (zs.mergeSort fun x y => decide (x ≤ y))).length) 0) hs (by simp; omega) (by omega)
  rw [List.take_left] at hc
  refine ⟨?_, Lib.below_putRow (hbel.grown (grownBy_sortedI _) hbel.size (fun j hj => by cases hj; exact hbase)) hbg⟩
  unfold Row
  rw [flat_ints]
  exact hc
end Go.Proofs.YtpmipoljnchheaaGreatDoor
namespace Go.Proofs.YtpmipoljnchheaaGreatDoor
open Go.RowKit

def lapClash (j i : JoinD) : Bool := decide (i.first = j.first) || decide (i.second = j.second)
theorem lapNew_any (done : List JoinD) (j : JoinD) : lapNew done j = !done.any (lapClash j) := rfl
theorem lapsBy_at {ms : List (Option BoxD)} {l : List JoinD} {k : Nat} {j : JoinD} (h : l[k]? = some j) : lapsBy ms (l.take k) (l.drop k) = (lapsFit ms j && (lapNew (l.take k) j && lapsBy ms (l.take (k + 1)) (l.drop (k + 1)))) := by
  rw [drop_at' h, lapsBy, take_snoc' h, Bool.and_assoc]
theorem lapNew_true {l : List JoinD} {j : JoinD} {k : Nat} (h : NoneTo (lapClash j) l k) : lapNew (l.take k) j = true := by
  rw [lapNew_any]
  have : (l.take k).any (lapClash j) = false := by
    rw [List.any_eq_false]
    intro z hz
    obtain ⟨u, hu, rfl⟩ := List.getElem_of_mem hz
    rw [List.length_take] at hu
    rw [h u (l.take k)[u] (by omega) (by rw [List.getElem_take]; exact List.getElem?_eq_getElem (by omega))]
    simp
  rw [this]
  rfl
theorem lapNew_false {l : List JoinD} {i j : JoinD} {k t : Nat} (ht : t < k) (hi : l[t]? = some i) (hc : lapClash j i = true) : lapNew (l.take k) j = false := by
  rw [lapNew_any]
  have : (l.take k).any (lapClash j) = true := by
    rw [List.any_eq_true]
    refine ⟨i, ?_, hc⟩
    have : (l.take k)[t]? = some i := by rw [List.getElem?_take_of_lt ht]; exact hi
    exact mem_of_get this
  rw [this]
  rfl
set_option maxHeartbeats 8000000 in
set_option maxRecDepth 100000 in
theorem refValid25_any (x : DetD) (s : DetS) (w : World) {B : Nat} (h : DetAt w B x s) (hB : B ≤ w.heap.size) (hf : DetFit x s) (hd : ∀ d ∈ x.dems, d.name.size ≤ maxLen ∧ d.steps.length ≤ 60000) :
    Calls Tryz.prog 39 #[detV x s] w fun e w' => e = .returned (.bool (detOk x)) ∧ Below w.heap.size w w' := by
  have H1 := hide (fun (W : World) (hz : Below w.heap.size w W) => refMember_any x.mem s.a1 s.a2 s.n1 s.n2 s.c1 s.c2 W (h.h1.carry (Flat.carried _) (hz.mono hB) (Nat.le_refl _)) (h.h2.carry (Flat.carried _) (hz.mono hB) (Nat.le_refl _)) (Nat.le_trans hB hz.size) hf.l1 hf.l2 hf.name)
  have H2 := hide (fun (W : World) (hz : Below w.heap.size w W) => refLaid_any s.a3 s.a4 x.bars x.runs s.n3 s.c3 s.n4 s.c4 W (h.h3.carry (hz.mono hB) (Nat.le_refl _)) (h.h4.carry (Flat.carried _) (hz.mono hB) (Nat.le_refl _)) (Nat.le_trans hB hz.size) hf.l3 hf.l4 hf.m3 hf.tame)
  have H3 := hide (fun (W : World) (hz : Below w.heap.size w W) => refDems_any s.a6 x.dems s.n6 s.c6 W (SlOf.carry demR_carried h.h6 (hz.mono hB) (Nat.le_refl _)) (Nat.le_trans hB hz.size) hf.l6 hf.m6 hd)
  have H4 := hide (fun (W : World) => refRule_any x.rule W)
  have HJ := fun (hok : laidOk x.bars x.runs = true) (j : JoinD) (W : World) (hz : Below w.heap.size w W) => refJoint_any x s j W (h.carry (hz.mono hB) (Nat.le_refl _)) (Nat.le_trans hB hz.size) hf hok
  have Hr := hide (detOk_ref x)
  have HL := hide h.h5
  have L5 := hide hf.l5
  have HB := hide hB
  have m5 := hf.m5
  have Hi := hide (show (Tryz.prog.info? 34).map (·.size) = some 19 by kernel_rfl)
  have K0 := hide (Blk.new w 34 (detCells x.mem x.rule s))
  have HW := hide (below_new w (.cells (detCells x.mem x.rule s) 34))
  obtain ⟨b1, hb1⟩ : ∃ b, b = memOk x.mem := ⟨_, rfl⟩
  obtain ⟨b2, hb2⟩ : ∃ b, b = laidOk x.bars x.runs := ⟨_, rfl⟩
  obtain ⟨b3, hb3⟩ : ∃ b, b = demsOk x.dems := ⟨_, rfl⟩
  obtain ⟨b4, hb4⟩ : ∃ b, b = ruleOk x.rule := ⟨_, rfl⟩
  rw [← hb1, ← hb2, ← hb3, ← hb4] at Hr
  rw [← hb1] at H1
  rw [← hb2] at H2 HJ
  rw [← hb3] at H3
  rw [← hb4] at H4
  have HJ := hide HJ
  generalize (laidAll x.bars x.runs).map mainLeg = ms at *
  generalize detOk x = res at *
  obtain ⟨mem, bars, runs, laps, dems, rule⟩ := x
  obtain ⟨a1, n1, c1, a2, n2, c2, a3, n3, c3, a4, n4, c4, a5, n5, c5, a6, n6, c6⟩ := s
  obtain ⟨name, boxes, holes, cover, agg, poker⟩ := mem
  obtain ⟨r1, r2, r3, r4, r5, r6, r7, r8, r9⟩ := rule
  simp only [detCells] at K0 HW
  simp only at H1 H2 H3 H4 HL L5 m5 Hr
  clear h hf hd hB hb1 hb2 hb3 hb4
  show Calls Tryz.prog 39 #[.agg #[.string name, .slice a1 n1 c1, .slice a2 n2 c2, .int .i64 cover, .int .i64 agg, .int .i64 poker, .slice a3 n3 c3, .slice a4 n4 c4, .slice a5 n5 c5, .slice a6 n6 c6, .int .i64 r1, .int .i64 r2, .int .i64 r3, .int .i64 r4, .int .i64 r5, .int .i64 r6, .int .i64 r7, .int .i64 r8, .int .i64 r9]] w _
  go_enter Tryz.func39, Tryz.ntmps39
  go_wp2_with fail
  refine (H1.out _ HW.out).mono ?_
  rintro e w2 ⟨rfl, hb2⟩
  have K0 := hide (K0.out.keep hb2)
  have HW := hide (below_step HW.out hb2 (Nat.le_refl _))
  clear hb2
  cases b1
  · go_wp2_with fail
    go_ret
    exact ⟨ret_bool (by rw [Hr.out]; rfl), HW.out⟩
  have e6 := K0.out.cell 6
  have e7 := K0.out.cell 7
  simp at e6 e7
  go_wp2_with fail
  refine (H2.out _ HW.out).mono ?_
  rintro e w2 ⟨rfl, hb2⟩
  have K0 := hide (K0.out.keep hb2)
  have HW := hide (below_step HW.out hb2 (Nat.le_refl _))
  clear hb2
  clear e6 e7
  cases b2
  · go_wp2_with fail
    go_ret
    exact ⟨ret_bool (by rw [Hr.out]; rfl), HW.out⟩
  have HJJ := hide (HJ.out rfl)
  clear HJ
  have e9 := K0.out.cell 9
  simp at e9
  go_wp2_with fail
  refine (H3.out _ HW.out).mono ?_
  rintro e w2 ⟨rfl, hb2⟩
  have K0 := hide (K0.out.keep hb2)
  have HW := hide (below_step HW.out hb2 (Nat.le_refl _))
  clear hb2
  clear e9
  cases b3
  · go_wp2_with fail
    go_ret
    exact ⟨ret_bool (by rw [Hr.out]; rfl), HW.out⟩
  have e10 := K0.out.cell 10
  have e11 := K0.out.cell 11
  have e12 := K0.out.cell 12
  have e13 := K0.out.cell 13
  have e14 := K0.out.cell 14
  have e15 := K0.out.cell 15
  have e16 := K0.out.cell 16
  have e17 := K0.out.cell 17
  have e18 := K0.out.cell 18
  simp at e10 e11 e12 e13 e14 e15 e16 e17 e18
  go_wp2_with fail
  refine (H4.out _).mono ?_
  rintro e w2 ⟨rfl, hb2⟩
  have K0 := hide (K0.out.keep hb2)
  have HW := hide (below_step HW.out hb2 (Nat.le_refl _))
  clear hb2
  clear e10 e11 e12 e13 e14 e15 e16 e17 e18
  cases b4
  · go_wp2_with fail
    go_ret
    exact ⟨ret_bool (by rw [Hr.out]; rfl), HW.out⟩
  have e8 := K0.out.cell 8
  simp at e8
  by_cases hlen : 1000 < n5
  · have d0 : decide (1000 < (n5 : Int)) = true := by simp; omega
    have Hr := hide (show res = false by rw [Hr.out, decide_eq_false (show ¬ laps.length ≤ 1000 by rw [← L5.out]; omega)]; rfl)
    go_wp2_with fail
    go_ret
    exact ⟨ret_bool Hr.out.symm, HW.out⟩
  have d0 : decide (1000 < (n5 : Int)) = false := by simp; omega
  have Hr := hide (show res = lapsBy ms (laps.take 0) (laps.drop 0) by rw [Hr.out, decide_eq_true (show laps.length ≤ 1000 by rw [← L5.out]; omega)] <;> rfl)
  clear hlen H1 H2 H3 H4
  go_wp2_with fail
  clear e8
  go_loopw [3] (fun iv wr => ∃ k : Nat, k ≤ n5 ∧ iv = .int .i64 k ∧ Hid (lapsBy ms (laps.take 0) (laps.drop 0) = lapsBy ms (laps.take k) (laps.drop k)) ∧ Hid (Blk wr w.heap.size 34 #[.string name, .slice a1 n1 c1, .slice a2 n2 c2, .int .i64 cover, .int .i64 agg, .int .i64 poker, .slice a3 n3 c3, .slice a4 n4 c4, .slice a5 n5 c5, .slice a6 n6 c6, .int .i64 r1, .int .i64 r2, .int .i64 r3, .int .i64 r4, .int .i64 r5, .int .i64 r6, .int .i64 r7, .int .i64 r8, .int .i64 r9]) ∧ Hid (Below w.heap.size w wr)) (fun iv _ => n5 - (intOf iv).toNat)
  case atStart => exact ⟨0, Nat.zero_le _, rfl, hide rfl, K0, HW⟩
  case round =>
    clear K0 HW
    rename World => wo
    obtain ⟨k, hk, rfl, hq, hK, hbr⟩ := hrel
    have e8 := hK.out.cell 8
    simp at e8
    have lk := hK.out.lt
    by_cases hlt : k < n5
    · obtain ⟨b, off, j, rfl, hbl, hx, g0, g1⟩ := JoinsAt.get (k := k) (HL.out.carry (Flat.carried _) (hbr.out.mono HB.out) (Nat.le_refl _)) (by rw [← L5.out]; exact hlt)
      have Hx := hide hx
      have Hq := hide (hq.out.trans (lapsBy_at hx))
      have HJj := HJJ.out j
      obtain ⟨a, ha⟩ : ∃ a, a = lapsFit ms j := ⟨_, rfl⟩
      rw [← ha] at HJj Hq
      have HJj := hide HJj
      obtain ⟨f, g⟩ := j
      simp only at g0 g1 HJj
      have hblt := hbl
      clear hx hbl hq ha
      have HQ0 := hide (HL.out.carry (Flat.carried _) (hbr.out.mono HB.out) (Nat.le_refl B))
      have hbw : b < w.heap.size := Nat.lt_of_lt_of_le hblt HB.out
      go_wp2_with fail
      refine wp_region_still_tail 6 (by kernel_rfl) (by kernel_rfl) ?_
      simp only [List.take_succ_cons, List.take_zero, List.drop_succ_cons, List.drop_zero]
      refine still_load_row rfl 34 (.tmp 1) rfl w.heap.size rfl 34 _ (0, 0) _ hK.out Tryz.underlying34 rfl Hi.out ?_
      repeat still_step
      try refine wpStill_nil ?_
      change wpList _ _ _ _ _ (World.drew wo)
      go_wp2_with fail
      refine (HJj.out _ hbr.out.drew).mono ?_
      rintro e w2 ⟨rfl, hb2⟩
      have hK2 := hide ((hK.out.drew).keep hb2)
      have hbr2 := hide (below_step hbr.out.drew hb2 (Nat.le_refl _))
      clear hb2 HJj g0 g1 e8 lk
      cases a
      · have Hr := hide (show res = false by rw [Hr.out, Hq.out]; rfl)
        go_wp2_with fail
        go_ret
        exact ⟨ret_bool Hr.out.symm, hbr2.out⟩
      go_wp2_with fail
      go_loopw [4] (fun iv wr => ∃ t : Nat, t ≤ k ∧ iv = .int .i64 t ∧ NoneTo (lapClash ⟨f, g⟩) laps t ∧ Hid (Blk wr w.heap.size 34 #[.string name, .slice a1 n1 c1, .slice a2 n2 c2, .int .i64 cover, .int .i64 agg, .int .i64 poker, .slice a3 n3 c3, .slice a4 n4 c4, .slice (some ⟨b, off, none⟩) n5 c5, .slice a6 n6 c6, .int .i64 r1, .int .i64 r2, .int .i64 r3, .int .i64 r4, .int .i64 r5, .int .i64 r6, .int .i64 r7, .int .i64 r8, .int .i64 r9]) ∧ Hid (Below w.heap.size w wr)) (fun iv _ => k - (intOf iv).toNat)
      case atStart => exact ⟨0, Nat.zero_le _, rfl, NoneTo.zero _ _, hK2, hbr2⟩
      case round =>
        clear hK hbr hK2 hbr2 HQ0
        rename World => wi
        obtain ⟨t, ht, rfl, hno, hK, hbr⟩ := hrel
        have e8 := hK.out.cell 8
        simp at e8
        have lk := hK.out.lt
        by_cases hlj : t < k
        · have HQ := HL.out.carry (Flat.carried _) (hbr.out.mono HB.out) (Nat.le_refl B)
          obtain ⟨b', off', i, hA', _, hy, f0, f1⟩ := JoinsAt.get (k := t) HQ (by rw [← L5.out]; omega)
          injection hA' with hA'
          injection hA' with z1 z2
          subst z1 z2
          obtain ⟨b', off', i', hA', _, hx', g0, g1⟩ := JoinsAt.get (k := k) HQ (by rw [← L5.out]; omega)
          injection hA' with hA'
          injection hA' with z1 z2
          subst z1 z2
          rw [Hx.out] at hx'
          injection hx' with hx'
          subst hx'
          have Hy := hide hy
          obtain ⟨p, q⟩ := i
          simp only at f0 f1 g0 g1
          clear HQ hy
          cases e1 : (p == f)
          · cases e2 : (q == g)
            · have Hc := hide (show lapClash ⟨f, g⟩ ⟨p, q⟩ = false by
                have h1 : p ≠ f := by simpa using e1
                have h2 : q ≠ g := by simpa using e2
                simp [lapClash, h1, h2])
              have Hno := hide (hno.succ Hy.out Hc.out)
              clear hno
              go_wp2_with fail
              go_quiet (fail)
              go_wp2_with fail
              go_roundw
              case rel => exact ⟨t + 1, by omega, by go_num, Hno.out, hide (hK.out.drewN _), hide (below_drewN' hbr.out _)⟩
              case measure => simp [intOf]; omega
            · have Hr := hide (show res = false by
                rw [Hr.out, Hq.out, lapNew_false hlj Hy.out (by have h2 : q = g := by simpa using e2
                                                                simp [lapClash, h2])]
                rfl)
              clear hno
              go_wp2_with fail
              go_quiet (fail)
              go_wp2_with fail
              go_ret
              exact ⟨ret_bool Hr.out.symm, below_drewN' hbr.out _⟩
          · have Hr := hide (show res = false by
              rw [Hr.out, Hq.out, lapNew_false hlj Hy.out (by have h2 : p = f := by simpa using e1
                                                              simp [lapClash, h2])]
              rfl)
            clear hno
            go_wp2_with fail
            go_quiet (fail)
            go_wp2_with fail
            go_ret
            exact ⟨ret_bool Hr.out.symm, below_drewN' hbr.out _⟩
        · obtain rfl : t = k := by omega
          have Hq2 := hide (show lapsBy ms (laps.take 0) (laps.drop 0) = lapsBy ms (laps.take (t + 1)) (laps.drop (t + 1)) by rw [Hq.out, lapNew_true hno]; rfl)
          clear hno
          go_wp2_with fail
          go_roundw
          case rel => exact ⟨t + 1, by omega, by go_num, Hq2, hK, hbr⟩
          case measure => simp [intOf]; omega
    · obtain rfl : k = n5 := by omega
      have Hr := hide (show res = true by rw [Hr.out, hq.out, List.drop_of_length_le (by rw [← L5.out]; exact Nat.le_refl _)]; rfl)
      go_wp2_with fail
      go_ret
      exact ⟨ret_bool Hr.out.symm, hbr.out⟩
end Go.Proofs.YtpmipoljnchheaaGreatDoor
