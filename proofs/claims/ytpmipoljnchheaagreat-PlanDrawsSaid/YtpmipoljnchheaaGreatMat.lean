/- The marks in a cell. strings.Builder, whatever struct it lies in first: its methods at a builder that the call itself has made. (After the guide's own walks, turned to a block of any type T.) The drawing of a plan. The legend of a plan. -/
import Derived.Test.YtpmipoljnchheaaGreatMas
import Derived.Test.YtpmipoljnchheaaGreatMaa
import Derived.Lib.Builder
import Derived.Lib.AppendStr
import Derived.Lib.UnsafeStr
import Derived.Laws.Externs
import Derived.RegionTactic
import Derived.BigRegion
import Derived.StillTailTactics
namespace Go.Proofs.YtpmipoljnchheaaGreat
open Go.RowKit

theorem seenAt_mem {x : DetD} {s row col k : Int} (h : k ∈ seenAt x s row col) : 0 ≤ k ∧ k < (x.bars.length : Nat) := (mem_seenOf.1 h).1
theorem seenAt_len (x : DetD) (s row col : Int) : (seenAt x s row col).length ≤ x.bars.length := by
  unfold seenAt seenOf
  refine Nat.le_trans (List.length_filter_le _ _) ?_
  rw [List.length_map, List.length_range]
  exact Nat.le_refl _
set_option maxHeartbeats 4000000 in
set_option maxRecDepth 100000 in
theorem planAt_ok (x : DetD) (s : DetS) (sc row col : Int) (w : World) {B : Nat} (h : DetAt w B x s) (hB : B ≤ w.heap.size) (hf : DetFit x s) (he : planErr x sc = 0) (hr : 0 ≤ row ∧ row < (gridOf x sc).rows) (hc : 0 ≤ col ∧ col < (gridOf x sc).cols) :
    Calls Tryz.prog 21 #[detV x s, .int .i64 sc, .int .i64 row, .int .i64 col] w fun e w' => ∃ A c, e = .returned (.tuple #[.slice A (marksAt x sc row col).length c, .int .i64 0]) ∧ StrsAt w' w'.heap.size A (marksAt x sc row col) ∧ Below w.heap.size w w' := by
  have hpf := plan_facts he
  have hM := fun (W : World) (hz : Below w.heap.size w W) => made_any x s sc W (h.carry (hz.mono hB) (Nat.le_refl _)) (Nat.le_trans hB hz.size) hf
  rw [plan_ok he, he] at hM
  have HM := hide hM
  have HR := hide (fun (W : World) (hz : Below w.heap.size w W) => rods_ok x s W (h.carry (hz.mono hB) (Nat.le_refl _)) (Nat.le_trans hB hz.size) hf hpf.laid)
  have hrl : (rodsOf x.bars x.runs).length ≤ 20000 := by have := rodsOf_len hpf.laid; omega
  have hrow := hpf.row row hr.1 hr.2
  have hcol := hpf.col col hc.1 hc.2
  have HS := hide (fun (W : World) (A : Option Addr) (c : Nat) (hA : RodsAt W W.heap.size A (rodsOf x.bars x.runs)) => seen_ok x.bars.length (gridOf x sc) A (rodsOf x.bars x.runs) (rodsOf x.bars x.runs).length c row col W hA (Nat.le_refl _) rfl hrl hpf.lo ⟨show 0 ≤ sc by have := hpf.sc; omega, hpf.sc.2⟩ (show 0 ≤ row * sc ∧ row * sc ≤ 1099511627776 by omega) (show 0 ≤ col * sc ∧ col * sc ≤ 1099511627776 by omega) (rods_lines hpf.laid))
  have Hi := hide (show (Tryz.prog.info? 34).map (·.size) = some 19 by kernel_rfl)
  have K0 := hide (Blk.new w 34 (detCells x.mem x.rule s))
  have HW := hide (below_new w (.cells (detCells x.mem x.rule s) 34))
  have H3 := hide h.h3
  have L3 := hide hf.l3
  have m3 := hf.m3
  have Hsm := hide (fun (k : Int) (hk : k ∈ seenAt x sc row col) => seenAt_mem hk)
  have Hsl := hide (seenAt_len x sc row col)
  have Hms := hide (show marksAt x sc row col = (seenAt x sc row col).map (barMark x.bars) from rfl)
  obtain ⟨hr0, hr1⟩ := hr
  obtain ⟨hc0, hc1⟩ := hc
  obtain ⟨SE, hSE⟩ : ∃ SE, SE = seenAt x sc row col := ⟨_, rfl⟩
  obtain ⟨MS, hMS⟩ : ∃ MS, MS = marksAt x sc row col := ⟨_, rfl⟩
  have HSb := hide (fun (W : World) (A : Option Addr) (c : Nat) (hA : RodsAt W W.heap.size A (rodsOf x.bars x.runs)) => (show Calls Tryz.prog 34 #[.agg (gridCells (gridOf x sc)), .slice A (rodsOf x.bars x.runs).length c, .int .i64 row, .int .i64 col] W fun e w' => ∃ A' c', e = .returned (.slice A' SE.length c') ∧ Ints w' w'.heap.size A' SE ∧ Below W.heap.size W w' by rw [hSE]; exact HS.out W A c hA))
  rw [← hSE] at Hsm Hsl Hms
  rw [← hMS] at Hms ⊢
  generalize rodsOf x.bars x.runs = RO at *
  generalize gridOf x sc = g at *
  obtain ⟨⟨g1, g2, g3⟩, g4, g5, g6⟩ := g
  simp only at hr1 hc1 HSb
  have d1 : decide (row < 0) = false := by simp; omega
  have d2 : decide (g5 ≤ row) = false := by simp; omega
  have d3 : decide (col < 0) = false := by simp; omega
  have d4 : decide (g6 ≤ col) = false := by simp; omega
  obtain ⟨mem, bars, runs, laps, dems, rule⟩ := x
  obtain ⟨a1, n1, c1, a2, n2, c2, a3, n3, c3, a4, n4, c4, a5, n5, c5, a6, n6, c6⟩ := s
  obtain ⟨name, boxes, holes, cover, agg, poker⟩ := mem
  obtain ⟨r1, r2, r3, r4, r5, r6, r7, r8, r9⟩ := rule
  simp only [detCells] at K0 HW
  simp only at H3 L3 m3 Hsm Hsl Hms
  clear h hf he hM hpf hrl hrow hcol HS hSE hMS hr0 hr1 hc0 hc1
  show Calls Tryz.prog 21 #[.agg #[.string name, .slice a1 n1 c1, .slice a2 n2 c2, .int .i64 cover, .int .i64 agg, .int .i64 poker, .slice a3 n3 c3, .slice a4 n4 c4, .slice a5 n5 c5, .slice a6 n6 c6, .int .i64 r1, .int .i64 r2, .int .i64 r3, .int .i64 r4, .int .i64 r5, .int .i64 r6, .int .i64 r7, .int .i64 r8, .int .i64 r9], .int .i64 sc, .int .i64 row, .int .i64 col] w _
  go_enter Tryz.func21, Tryz.ntmps21
  go_wp2_with (refine wpList_load_row rfl 34 (.tmp 4) rfl w.heap.size rfl 34 _ (0, 0) _ K0.out Tryz.underlying34 rfl Hi.out ?_)
  refine (HM.out _ HW.out).mono ?_
  rintro e w2 ⟨rfl, hb2⟩
  have K0 := hide (K0.out.keep hb2)
  have HW2 := hide (below_step HW.out hb2 (Nat.le_refl _))
  have KG := hide (Blk.new w2 84 #[.int .i64 g1, .int .i64 g2, .int .i64 g3, .int .i64 g4, .int .i64 g5, .int .i64 g6])
  have K1 := hide (K0.out.alloc (.cells #[.int .i64 g1, .int .i64 g2, .int .i64 g3, .int .i64 g4, .int .i64 g5, .int .i64 g6] 84))
  have HW3 := hide (HW2.out.alloc HW2.out.size (.cells #[.int .i64 g1, .int .i64 g2, .int .i64 g3, .int .i64 g4, .int .i64 g5, .int .i64 g6] 84))
  clear hb2 HM K0 HW
  go_wp2_with (refine wpList_load_row rfl 34 (.tmp 4) rfl w.heap.size rfl 34 _ (0, 0) _ K1.out Tryz.underlying34 rfl Hi.out ?_)
  refine (HR.out _ HW3.out).mono ?_
  rintro e w4 ⟨A4, c4', rfl, hro, hb4⟩
  have K1 := hide (K1.out.keep hb4)
  have KG := hide (KG.out.keep hb4)
  have HW4 := hide (below_step HW3.out hb4 (Nat.le_refl _))
  have HSs := hide (HSb.out w4 A4 c4' hro)
  have k0 := KG.out.cell 0
  have k1 := KG.out.cell 1
  have k2 := KG.out.cell 2
  have k3 := KG.out.cell 3
  have k4 := KG.out.cell 4
  have k5 := KG.out.cell 5
  simp at k0 k1 k2 k3 k4 k5
  have lg := KG.out.lt
  clear hb4 hro HR HW2 HW3 HSb Hi
  go_wp2_with fail
  refine HSs.out.mono ?_
  rintro e w5 ⟨A5, c5', rfl, hse, hb5⟩
  have K1 := hide (K1.out.keep hb5)
  have HW5 := hide (below_step HW4.out hb5 (Nat.le_refl _))
  have Hse := hide hse
  clear hb5 hse HSs KG k0 k1 k2 k3 k4 k5 lg HW4
  have hsl6 : SE.length ≤ 60000 := by
    have := Hsl.out
    have := L3.out
    omega
  go_wp2_with fail
  go_loopw [13, 59] (fun v iv wr => ∃ k : Nat, k ≤ SE.length ∧ iv = .int .i64 k ∧ (∃ acc : List ByteArray, Row wr w5.heap.size 9 1 encSt v acc ∧ Hid (acc = (SE.take k).map (barMark bars))) ∧ Below w5.heap.size w5 wr) (fun _ iv _ => SE.length - (intOf iv).toNat)
  case atStart => exact ⟨0, Nat.zero_le _, rfl, ⟨[], Row.nil _ _ _ _ _, hide rfl⟩, Below.refl _ _⟩
  case round =>
    obtain ⟨k, hk, rfl, ⟨acc, hrow, hacc⟩, hbr⟩ := hrel
    obtain ⟨A0, c0, rfl⟩ := hrow.val
    have hal : acc.length ≤ 1000000 := by
      have h9 := Hsl.out
      have h8 := L3.out
      rw [hacc.out, List.length_map, List.length_take]
      omega
    have Hrow := hide hrow
    by_cases hlt : k < SE.length
    · obtain ⟨b, off, q, rfl, hbl, hx, e0⟩ := Ints.get (k := k) (Hse.out.carry hbr hbr.size) hlt
      have hq := Hsm.out q (mem_of_get hx)
      obtain ⟨q0, hq1⟩ := hq
      obtain ⟨j, rfl⟩ := Int.eq_ofNat_of_zero_le q0
      have HWr := hide (below_step HW5.out hbr (Nat.le_refl _))
      obtain ⟨b3, off3, y, A', c', rfl, hbl3, hy, _, f0, f1, f2, f3, f4⟩ := BarsAt.get (k := j) (H3.out.carry (HWr.out.mono hB) (Nat.le_refl _)) (by omega)
      have Hn := hide (show (SE.take (k + 1)).map (barMark bars) = acc ++ [y.mark] by
        rw [take_snoc' hx, List.map_append, hacc.out, List.map_singleton]
        simp [barMark, hy])
      have hbw : b3 < wr.heap.size := by have := HWr.out.size; omega
      have kk := K1.out.below hbr K1.out.lt
      have e6 := kk.cell 6
      simp at e6
      have lk := kk.lt
      have hjn : j < n3 := by have := L3.out; omega
      have hs5 := hbr.size
      have Hbr := hide hbr
      have i0 : (0 : Int) ≤ (j : Int) := by omega
      clear hx hbl hbl3 hy q0 hq1 kk hrow hbr f1 f2 f3 f4
      go_wp2_with (at_builtin; refine wpList_append1 rfl (.tmp 63) (.tmp 70) 56 rfl w5.heap.size 9 (.string .empty) 1 16 encSt Tryz.underlying56 (by kernel_rfl) rfl (by omega) encSt_len encSt_one _ acc y.mark rfl (Hrow.out.alloc _) _ rfl (Blk.new wr _ _) hal (by omega) (le_alloc hs5 _) ?_; intro A9 c9 w9 hrow9 hb9 hkeep9)
      go_roundw
      case rel => exact ⟨k + 1, by omega, by go_num, ⟨acc ++ [y.mark], by simpa using hrow9, hide Hn.out.symm⟩, (Hbr.out.alloc hs5 _).trans hb9⟩
      case measure => simp [intOf]; omega
    · obtain rfl : k = SE.length := by omega
      have hf : acc = MS := by rw [hacc.out, List.take_length, Hms.out]
      have hlen := hide (show MS.length = acc.length by rw [hf])
      have Hr := hide (show StrsAt wr wr.heap.size A0 MS by rw [← hf]; exact Row.read Hrow.out encSt_len (by omega))
      have Hb := hide (below_step HW5.out hbr (Nat.le_refl _))
      clear hf hacc hrow Hrow hbr
      generalize acc.length = m at *
      go_wp2_with fail
      go_ret2
      exact ⟨A0, c0, by rw [hlen.out]; rfl, Hr.out, Hb.out⟩
end Go.Proofs.YtpmipoljnchheaaGreat
namespace Go.Proofs.YtpmipoljnchheaaGreat
open Go.RowKit

theorem IsBuilder.keep {T e B b : Nat} {bs : List Value} {w w' : World} (h : Lib.IsBuilder T e B b bs w) (hb : Below w.heap.size w w') : Lib.IsBuilder T e B b bs w' := by
  rcases h with ⟨h1, v, hbk, hown, hne⟩ | ⟨h1, v, hbk, hown, hne⟩
  · exact .inl ⟨h1, v, (hb.block b (Blk.lt (cs := _) hbk)).trans hbk, hown.kept (row := none) ⟨hb.os, hb.tape, hb.output, hb.size, fun k hk _ => hb.block k hk⟩ (by cases v.ownBlock <;> simp), hne⟩
  · exact .inr ⟨h1, v, (hb.block b (Blk.lt (cs := _) hbk)).trans hbk, hown.kept (row := none) ⟨hb.os, hb.tape, hb.output, hb.size, fun k hk _ => hb.block k hk⟩ (by cases v.ownBlock <;> simp), hne⟩
theorem IsBuilder.lt {T e B b : Nat} {bs : List Value} {w : World} (h : Lib.IsBuilder T e B b bs w) : b < w.heap.size := by
  rcases h with h | h <;> exact h.lt
/-- The builder of block b, of type T, with the bytes l. -/
abbrev Bld (w : World) (T B b : Nat) (l : List UInt8) : Prop := Lib.IsBuilder T 5 B b (Lib.byteCells l) w
/-- Whatever is no byte row and not block b is as it was. -/
def Spares (b : Nat) (w w' : World) : Prop := ∀ g t cs, g ≠ b → t ≠ 5 → Blk w g t cs → Blk w' g t cs
theorem Spares.refl (b : Nat) (w : World) : Spares b w w := fun _ _ _ _ _ h => h
theorem Spares.trans {b : Nat} {u v w : World} (h : Spares b u v) (k : Spares b v w) : Spares b u w := fun g t cs h1 h2 h3 => k g t cs h1 h2 (h g t cs h1 h2 h3)
theorem Spares.set {b : Nat} {u w : World} (h : Spares b u w) (i : Nat) (v : Value) : Spares b u (w.setCell ⟨b, i, none⟩ v) := fun g t cs h1 h2 h3 => (h g t cs h1 h2 h3).far (p := ⟨b, i, none⟩) h1 v
theorem Spares.keep {b : Nat} {u w w' : World} (h : Spares b u w) (hb : Below w.heap.size w w') : Spares b u w' := fun g t cs h1 h2 h3 => (h g t cs h1 h2 h3).keep hb
theorem Spares.grown {b : Nat} {u w w' : World} {v : Value} {B n : Nat} {xs : List Value} (h : Spares b u w) (hown : w.ownsRow B 5 1 v n xs) (hg : w.grownBy w' v.ownBlock) : Spares b u w' :=
  fun g t cs h1 h2 h3 => (h g t cs h1 h2 h3).grown hg (fun he => Lib.ownBlock_ne hown (h g t cs h1 h2 h3) h2 he.symm)
/-- What is asked of the type of the block in which a builder lies first. -/
structure BldType (T : Nat) : Prop where
  lies : liesAt Tryz.prog (Tryz.prog).depth T (2 / (Tryz.prog).cellsOf T) 0 93 1 = true
  ne : T ≠ 5
theorem builderType : BldType 93 := ⟨by kernel_rfl, by decide⟩
theorem Tryz.sizeBuilder : ((Tryz.prog).info? 93).map (·.size) = some 2 := by kernel_rfl
theorem Tryz.infoByte : ((Tryz.prog).info? 5).map (fun i => (i.zero, i.size, i.bytes)) = some (some (.int .u8 0), 1, 1) := by kernel_rfl

set_option maxHeartbeats 1000000 in
set_option maxRecDepth 100000 in
theorem copyCheck_used (b : Nat) (w : World) (h0 : w.cell? ⟨b, 0, none⟩ = some (.pointer (some ⟨b, 0, none⟩))) :
    Calls Tryz.prog 68 #[.pointer (some ⟨b, 0, none⟩)] w fun e w' => e = .returned (.tuple #[]) ∧ w' = w := by
  obtain ⟨j, hj, _⟩ := Option.map_eq_some_iff.1 Tryz.sizeBuilder
  go_enter Tryz.func68, Tryz.ntmps68
  go_wp2
  rw [Lib.run_neq_ptr_same w _ Tryz.underlying90 hj]
  go_wp2
  go_end0
  exact ⟨rfl, rfl⟩

set_option maxHeartbeats 1000000 in
set_option maxRecDepth 100000 in
theorem copyCheck_fresh (T : Nat) (hT : BldType T) (b : Nat) (w : World) (h0 : w.cell? ⟨b, 0, none⟩ = some (.pointer none)) (hsh : w.shape? b = some (T, 2)) (hfz : w.frozen? ⟨b, 0, none⟩ = false) :
    Calls Tryz.prog 68 #[.pointer (some ⟨b, 0, none⟩)] w fun e w' => e = .returned (.tuple #[]) ∧ w' = w.setCell ⟨b, 0, none⟩ (.pointer (some ⟨b, 0, none⟩)) := by
  obtain ⟨j, hj, hjs⟩ := Option.map_eq_some_iff.1 Tryz.sizeBuilder
  go_enter Tryz.func68, Tryz.ntmps68
  go_wp2
  rw [Lib.run_to_unsafe w ⟨b, 0, none⟩ Tryz.underlying90 Tryz.underlying166 hj (by rw [hjs]; decide) hsh (Nat.zero_lt_succ 1)]
  simp only [Result.andThen]
  rw [Oper.upon_value]
  go_wp2
  rw [run_callFunc_extern Tryz.func93 (by kernel_rfl) (by kernel_rfl) (by kernel_rfl) (e := Extern.AbiNoEscape.same) (by kernel_rfl)]
  rw [Lib.run_noEscape]
  simp only [Result.andThen]
  rw [Oper.upon_value]
  go_wp2
  rw [Lib.run_from_unsafe w ⟨b, 0, none⟩ Tryz.underlying166 Tryz.underlying90 hj hsh hT.lies]
  simp only [Result.andThen]
  rw [Oper.upon_value]
  go_wp2
  go_end0
  exact ⟨rfl, rfl⟩
theorem copyCheck_any (T : Nat) (hT : BldType T) (B b : Nat) (bs : List Value) (w : World) (h : Lib.IsBuilder T 5 B b bs w) :
    Calls Tryz.prog 68 #[.pointer (some ⟨b, 0, none⟩)] w fun e w' => e = .returned (.tuple #[]) ∧ (Lib.BuilderAt T 5 B b (.pointer (some ⟨b, 0, none⟩)) bs w' ∧ Below B w w' ∧ Spares b w w') := by
  rcases h with h | h
  · refine (copyCheck_fresh T hT b w h.cell0 h.shape h.frozen0).mono ?_
    rintro e w' ⟨rfl, rfl⟩
    exact ⟨rfl, h.used _, (Below.refl B w).setCell (p := ⟨b, 0, none⟩) h.1 _, (Spares.refl b w).set _ _⟩
  · refine (copyCheck_used b w h.cell0).mono ?_
    rintro e w' ⟨rfl, rfl⟩
    exact ⟨rfl, h, Below.refl B _, Spares.refl b _⟩

set_option maxHeartbeats 2000000 in
set_option maxRecDepth 100000 in
theorem writeByte_any (T : Nat) (hT : BldType T) (B b : Nat) (l : List UInt8) (c : UInt8) (cn : Int) (w : World) (hcn : (c.toNat : Int) = cn) (h : Bld w T B b l) (hlen : l.length ≤ 100000000000) (hBw : B ≤ w.heap.size) :
    Calls Tryz.prog 35 #[.pointer (some ⟨b, 0, none⟩), .int .u8 cn] w fun e w' => e = .returned .nilIface ∧ Bld w' T B b (l ++ [c]) ∧ Below B w w' ∧ Spares b w w' := by
  subst hcn
  obtain ⟨i0, hi, hz0, hz1, hz2⟩ := info_parts Tryz.infoByte
  have hbl := Lib.byteCells_length l
  go_enter Tryz.func35, Tryz.ntmps35
  go_wp2_with (go_at_call 68; refine (copyCheck_any T hT B b _ _ h).mono ?_)
  rintro e w1 ⟨rfl, h1, hb1, hsp1⟩
  have Hsp := hide hsp1
  clear hsp1
  obtain ⟨hB, v, hbk, hown, hne⟩ := h1
  have c0 : w1.cell? ⟨b, 0, none⟩ = some (.pointer (some ⟨b, 0, none⟩)) := by rw [Lib.cell_of_heap hbk]; rfl
  have c1 : w1.cell? ⟨b, 1, none⟩ = some v := by rw [Lib.cell_of_heap hbk]; rfl
  go_wp2_with (at_builtin; refine wpList_append_own _ rfl _ _ 91 rfl B 5 i0 (.int .u8 0) 1 1 Tryz.underlying91 hi hz0 hz1 hz2 rfl (by decide) _ _ _ rfl (hown.alloc _) ⟨w1.heap.size, 0, none⟩ 1 1 [.int .u8 c.toNat] rfl rfl ?c1 ?c2 ?c3 ?c4 ?c5 ?_)
  case c1 =>
    intro j u hj
    match j, hj with
    | 0, hj => simp at hj; subst hj; simp [Addr.add]
  case c2 => intro u hu; simp at hu; subst hu; rfl
  case c3 => unfold maxLen; omega
  case c4 => omega
  case c5 => have := hb1.size; simp; omega
  intro v' w2 hown' hgrow _
  have hlt : b < w1.heap.size := Blk.lt (cs := _) hbk
  have hb2 : w2.heap[b]? = some (.cells #[.pointer (some ⟨b, 0, none⟩), v] T (0, 0)) := by
    rw [hgrow.block b (by simp; omega) (fun e => hne e.symm), Lib.alloc_old w1 _ b hlt]
    exact hbk
  have d0 : w2.cell? ⟨b, 0, none⟩ = some (.pointer (some ⟨b, 0, none⟩)) := by rw [Lib.cell_of_heap hb2]; rfl
  have d1 : w2.cell? ⟨b, 1, none⟩ = some v := by rw [Lib.cell_of_heap hb2]; rfl
  have f1 : w2.frozen? ⟨b, 1, none⟩ = false := Lib.frozen_of_heap hb2 1
  obtain ⟨g, cap, rfl⟩ : ∃ g cap, v' = .slice (some ⟨g, 0, none⟩) (l.length + 1) cap := by
    rcases hown'.2 with ⟨_, h0⟩ | ⟨g, cap, cur, hv, _⟩
    · omega
    · exact ⟨g, cap, hv⟩
  go_wp2
  go_ret
  refine ⟨rfl, .inr ?_, ?_, ?_⟩
  · exact Lib.BuilderAt.put (T := T) (e := 5) hB hb2 (bs' := Lib.byteCells (l ++ [c])) (by simpa [Lib.byteCells] using hown') hT.ne
  · exact ((hb1.alloc (by have := hb1.size; omega) _).grown hgrow (by have := hb1.size; simp; omega) (fun k hk => (hown.lt k hk).1)).setCell (p := ⟨b, 1, none⟩) hB _
  · exact ((Hsp.out.keep (below_new _ _)).grown (hown.alloc _) hgrow).set _ _

set_option maxHeartbeats 2000000 in
set_option maxRecDepth 100000 in
theorem writeString_any (T : Nat) (hT : BldType T) (B b : Nat) (l : List UInt8) (s : ByteArray) (w : World) (h : Bld w T B b l) (hlen : l.length ≤ 100000000000) (hs : s.size ≤ 10000000000) (hBw : B ≤ w.heap.size) :
    Calls Tryz.prog 40 #[.pointer (some ⟨b, 0, none⟩), .string s] w fun e w' => e = .returned (.tuple #[.int .i64 s.size, .nilIface]) ∧ Bld w' T B b (l ++ s.data.toList) ∧ Below B w w' ∧ Spares b w w' := by
  obtain ⟨i0, hi, hz0, hz1, hz2⟩ := info_parts Tryz.infoByte
  have hbl := Lib.byteCells_length l
  go_enter Tryz.func40, Tryz.ntmps40
  go_wp2_with (go_at_call 68; refine (copyCheck_any T hT B b _ _ h).mono ?_)
  rintro e w1 ⟨rfl, h1, hb1, hsp1⟩
  have Hsp := hide hsp1
  clear hsp1
  obtain ⟨hB, v, hbk, hown, hne⟩ := h1
  have c0 : w1.cell? ⟨b, 0, none⟩ = some (.pointer (some ⟨b, 0, none⟩)) := by rw [Lib.cell_of_heap hbk]; rfl
  have c1 : w1.cell? ⟨b, 1, none⟩ = some v := by rw [Lib.cell_of_heap hbk]; rfl
  go_wp2_with (at_builtin; refine Lib.wpList_append_own_string _ rfl _ _ 91 9 rfl B 5 i0 Tryz.underlying91 Tryz.underlying9 hi hz0 hz1 hz2 _ _ _ rfl hown s rfl ?c3 ?c4 ?c5 ?_)
  case c3 => unfold maxLen; omega
  case c4 => omega
  case c5 => have := hb1.size; omega
  intro v' w2 hown' hgrow _
  have hlt : b < w1.heap.size := Blk.lt (cs := _) hbk
  have hb2 : w2.heap[b]? = some (.cells #[.pointer (some ⟨b, 0, none⟩), v] T (0, 0)) := by
    rw [hgrow.block b hlt (fun e => hne e.symm)]
    exact hbk
  have d0 : w2.cell? ⟨b, 0, none⟩ = some (.pointer (some ⟨b, 0, none⟩)) := by rw [Lib.cell_of_heap hb2]; rfl
  have d1 : w2.cell? ⟨b, 1, none⟩ = some v := by rw [Lib.cell_of_heap hb2]; rfl
  have f1 : w2.frozen? ⟨b, 1, none⟩ = false := Lib.frozen_of_heap hb2 1
  obtain ⟨ao, n', cap, rfl⟩ : ∃ ao n' cap, v' = .slice ao n' cap := by
    rcases hown'.2 with ⟨hv, _⟩ | ⟨g, cap, cur, hv, _⟩
    · exact ⟨_, _, _, hv⟩
    · exact ⟨_, _, _, hv⟩
  go_wp2
  go_ret2
  refine ⟨rfl, .inr ?_, ?_, ?_⟩
  · exact Lib.BuilderAt.put (T := T) (e := 5) hB hb2 (bs' := Lib.byteCells (l ++ s.data.toList)) (by simpa [Lib.byteCells, Lib.strCells, Lib.strCells_length] using hown') hT.ne
  · exact (hb1.grown hgrow (by have := hb1.size; omega) (fun k hk => (hown.lt k hk).1)).setCell (p := ⟨b, 1, none⟩) hB _
  · exact (Hsp.out.grown hown hgrow).set _ _

set_option maxHeartbeats 2000000 in
set_option maxRecDepth 100000 in
theorem builderString_some (T : Nat) (B b : Nat) (l : List UInt8) (w : World) (h : Bld w T B b l) (h0 : l ≠ []) :
    Calls Tryz.prog 37 #[.pointer (some ⟨b, 0, none⟩)] w fun e w' => e = .returned (.string ⟨l.toArray⟩) ∧ Below B w w' := by
  obtain ⟨p, hB, v, hbk, hown, hne⟩ : ∃ p, Lib.BuilderAt T 5 B b p (Lib.byteCells l) w := by
    rcases h with h | h
    · exact ⟨_, h⟩
    · exact ⟨_, h⟩
  have hl0 : l.length ≠ 0 := by simpa using h0
  rw [Lib.byteCells_length] at hown
  obtain ⟨g, cap, cur, rfl, hbg, hg, hnc, hcm, hcs, htake⟩ : ∃ g cap cur, v = .slice (some ⟨g, 0, none⟩) l.length cap ∧ B ≤ g ∧ w.heap[g]? = some (.cells cur 5 (0, 0)) ∧ l.length ≤ cap ∧ cap ≤ maxLen ∧ cur.size = cap * 1 ∧ cur.toList.take (l.length * 1) = Lib.byteCells l := by
    rcases hown.2 with ⟨_, hz⟩ | ⟨g, cap, cur, hv, r⟩
    · exact absurd hz hl0
    · exact ⟨g, cap, cur, hv, r⟩
  have c1 : w.drew.cell? ⟨b, 1, none⟩ = some (.slice (some ⟨g, 0, none⟩) l.length cap) := by
    have : w.drew.heap[b]? = some (.cells #[p, .slice (some ⟨g, 0, none⟩) l.length cap] T (0, 0)) := hbk
    rw [Lib.cell_of_heap this]; rfl
  have hSD : (Builtin.unsafeSliceData_ #[91] 136 #[.slice (some ⟨g, 0, none⟩) l.length cap]).run Tryz.prog w.drew = .ok (.pointer (some ⟨g, 0, none⟩)) w.drew :=
    Lib.run_unsafeSliceData_row _ _ _ _ _ _ (by omega)
  have hUS : (Builtin.unsafeString_ #[136, 3] 9 #[.pointer (some ⟨g, 0, none⟩), .int .i64 l.length]).run Tryz.prog w.drew = .ok (.string ⟨l.toArray⟩) (w.drew.freeze ⟨g, 0, none⟩ l.length) := by
    refine Lib.run_unsafeString_row w.drew 136 3 9 5 Tryz.underlying136 (by kernel_rfl) g cur.size (by have hg' : w.drew.heap[g]? = some (.cells cur 5 (0, 0)) := hg; simp [World.shape?, hg']) l h0 (by omega) (by unfold maxLen at hcm; omega) ?_
    intro j x hx
    have := hown.cells (g := g) rfl j (.int .u8 x.toNat) (by simp [Lib.byteCells, hx])
    exact this
  go_enter Tryz.func37, Tryz.ntmps37
  go_wp2
  go_region
  all_goals (go_wp2; go_ret; exact ⟨rfl, Lib.below_freeze (Below.drew (Below.refl B w)) (p := ⟨g, 0, none⟩) hbg _⟩)
end Go.Proofs.YtpmipoljnchheaaGreat
namespace Go.Proofs.YtpmipoljnchheaaGreat
open Go.RowKit

def letterOf (k : Int) : UInt8 := UInt8.ofNat (97 + (k % 26).toNat)
theorem letterOf_nat (k : Int) : ((letterOf k).toNat : Int) = 97 + k % 26 := by
  have h0 := Int.emod_nonneg k (show (26 : Int) ≠ 0 by decide)
  have h1 := Int.emod_lt_of_pos k (show (0 : Int) < 26 by decide)
  unfold letterOf
  rw [UInt8.toNat_ofNat']
  omega
set_option maxHeartbeats 400000 in
theorem planLetter_any (k : Int) (w : World) (hk : 0 ≤ k ∧ k ≤ 1000000) : Calls Tryz.prog 36 #[.int .i64 k] w fun e w' => e = .returned (.int .u8 ((letterOf k).toNat : Int)) ∧ w' = w := by
  have h0 := Int.emod_nonneg k (show (26 : Int) ≠ 0 by decide)
  have h1 := Int.emod_lt_of_pos k (show (0 : Int) < 26 by decide)
  have Hl := hide (letterOf_nat k)
  go_enter Tryz.func36, Tryz.ntmps36
  go_wp2_with fail
  go_ret
  refine ⟨?_, rfl⟩
  rw [Hl.out]
  congr 2
def cellByte : List Int → UInt8
  | [] => 46
  | [k] => letterOf k
  | _ => 43
def drawRow (f : Int → Int → List Int) (r c : Nat) : List UInt8 := (List.range c).map fun (k : Nat) => cellByte (f r k)
def drawTo (f : Int → Int → List Int) (C r : Nat) : List UInt8 := (List.range r).flatMap fun (q : Nat) => drawRow f q C ++ [10]
def drawText (x : DetD) (s : Int) : List UInt8 := drawTo (seenAt x s) (gridOf x s).cols.toNat (gridOf x s).rows.toNat
theorem drawRow_succ (f : Int → Int → List Int) (r c : Nat) : drawRow f r (c + 1) = drawRow f r c ++ [cellByte (f r c)] := by simp [drawRow, List.range_succ]
theorem drawRow_len (f : Int → Int → List Int) (r c : Nat) : (drawRow f r c).length = c := by simp [drawRow]
theorem drawTo_succ (f : Int → Int → List Int) (C r : Nat) : drawTo f C (r + 1) = drawTo f C r ++ (drawRow f r C ++ [10]) := by simp [drawTo, List.range_succ]
theorem drawTo_len (f : Int → Int → List Int) (C r : Nat) : (drawTo f C r).length = r * (C + 1) := by
  induction r with
  | zero => simp [drawTo]
  | succ r ih => rw [drawTo_succ, List.length_append, ih, List.length_append, drawRow_len, List.length_singleton, Nat.add_mul]; omega
def drawOut (x : DetD) (s : Int) : ByteArray := if planErr x s = 0 then ⟨(drawText x s).toArray⟩ else ByteArray.empty
set_option maxHeartbeats 4000000 in
set_option maxRecDepth 100000 in
theorem planDraw_ok (x : DetD) (s : DetS) (sc : Int) (w : World) {B : Nat} (h : DetAt w B x s) (hB : B ≤ w.heap.size) (hf : DetFit x s) (he : planErr x sc = 0) :
    Calls Tryz.prog 11 #[detV x s, .int .i64 sc] w fun e w' => e = .returned (.tuple #[.string ⟨(drawText x sc).toArray⟩, .int .i64 0]) ∧ Below w.heap.size w w' := by
  have hpf := plan_facts he
  have hM := fun (W : World) (hz : Below w.heap.size w W) => made_any x s sc W (h.carry (hz.mono hB) (Nat.le_refl _)) (Nat.le_trans hB hz.size) hf
  rw [plan_ok he, he] at hM
  have HM := hide hM
  have HR := hide (fun (W : World) (hz : Below w.heap.size w W) => rods_ok x s W (h.carry (hz.mono hB) (Nat.le_refl _)) (Nat.le_trans hB hz.size) hf hpf.laid)
  have hrl : (rodsOf x.bars x.runs).length ≤ 20000 := by have := rodsOf_len hpf.laid; omega
  obtain ⟨SE, hSE⟩ : ∃ SE : Int → Int → List Int, SE = seenAt x sc := ⟨_, rfl⟩
  have HSb := hide (fun (W : World) (A : Option Addr) (c : Nat) (row col : Int) (hr : 0 ≤ row ∧ row < (gridOf x sc).rows) (hc : 0 ≤ col ∧ col < (gridOf x sc).cols) (hA : RodsAt W W.heap.size A (rodsOf x.bars x.runs)) =>
    (show Calls Tryz.prog 34 #[.agg (gridCells (gridOf x sc)), .slice A (rodsOf x.bars x.runs).length c, .int .i64 row, .int .i64 col] W fun e w' => ∃ A' c', e = .returned (.slice A' (SE row col).length c') ∧ Ints w' w'.heap.size A' (SE row col) ∧ Below W.heap.size W w' by
      rw [hSE]
      have hrow := hpf.row row hr.1 hr.2
      have hcol := hpf.col col hc.1 hc.2
      exact seen_ok x.bars.length (gridOf x sc) A (rodsOf x.bars x.runs) (rodsOf x.bars x.runs).length c row col W hA (Nat.le_refl _) rfl hrl hpf.lo ⟨show 0 ≤ sc by have := hpf.sc; omega, hpf.sc.2⟩ (show 0 ≤ row * sc ∧ row * sc ≤ 1099511627776 by omega) (show 0 ≤ col * sc ∧ col * sc ≤ 1099511627776 by omega) (rods_lines hpf.laid)))
  have Hi := hide (show (Tryz.prog.info? 34).map (·.size) = some 19 by kernel_rfl)
  have K0 := hide (Blk.new w 34 (detCells x.mem x.rule s))
  have HW := hide (below_new w (.cells (detCells x.mem x.rule s) 34))
  have Hsm := hide (fun (row col k : Int) (hk : k ∈ SE row col) => show 0 ≤ k ∧ k ≤ 1000000 by
    rw [hSE] at hk
    have h1 := seenAt_mem hk
    have h2 := hf.l3
    have h3 := hf.m3
    omega)
  obtain ⟨R, hR⟩ : ∃ R : Nat, (gridOf x sc).rows = (R : Int) := Int.eq_ofNat_of_zero_le (by have := hpf.rows; omega)
  obtain ⟨C, hC⟩ : ∃ C : Nat, (gridOf x sc).cols = (C : Int) := Int.eq_ofNat_of_zero_le (by have := hpf.cols; omega)
  have hR2 : R ≤ 20000 := by have := hpf.rows; omega
  have hC2 : C ≤ 20000 := by have := hpf.cols; omega
  have hRC : R * C ≤ 20000 := by
    have h9 := (plan_detOk he).2.2
    rw [hR, hC] at h9
    exact_mod_cast h9
  have hlen : ∀ r, r ≤ R → r * (C + 1) ≤ 40000 := by
    intro r hr
    have h8 := Nat.mul_le_mul_right C hr
    rw [Nat.mul_add]
    omega
  obtain ⟨DT, hDT⟩ : ∃ DT : Nat → List UInt8, DT = drawTo SE C := ⟨_, rfl⟩
  obtain ⟨DR, hDR⟩ : ∃ DR : Nat → Nat → List UInt8, DR = drawRow SE := ⟨_, rfl⟩
  have Htext := hide (show drawText x sc = DT R by rw [hDT, drawText, ← hSE, hR, hC]; rfl)
  have HD0 := hide (show DT 0 = [] by rw [hDT]; rfl)
  have HDn := hide (fun (r : Nat) => show DT (r + 1) = DT r ++ (DR r C ++ [10]) by rw [hDT, hDR]; exact drawTo_succ SE C r)
  have HDs := hide (fun (r c : Nat) => show DR r (c + 1) = DR r c ++ [cellByte (SE r c)] by rw [hDR]; exact drawRow_succ SE r c)
  have HR0 := hide (fun (r : Nat) => show DR r 0 = [] by rw [hDR]; rfl)
  have HDl := hide (fun (r c : Nat) (hr : r ≤ R) (hc : c ≤ C) => show (DT r ++ DR r c).length ≤ 100000 by
    rw [hDT, hDR, List.length_append, drawTo_len, drawRow_len]
    have := hlen r hr
    omega)
  generalize drawText x sc = TX at *
  generalize rodsOf x.bars x.runs = RO at *
  generalize gridOf x sc = g at *
  obtain ⟨⟨g1, g2, g3⟩, g4, g5, g6⟩ := g
  simp only at hR hC
  subst hR
  subst hC
  obtain ⟨mem, bars, runs, laps, dems, rule⟩ := x
  obtain ⟨a1, n1, c1, a2, n2, c2, a3, n3, c3, a4, n4, c4, a5, n5, c5, a6, n6, c6⟩ := s
  obtain ⟨name, boxes, holes, cover, agg, poker⟩ := mem
  obtain ⟨r1, r2, r3, r4, r5, r6, r7, r8, r9⟩ := rule
  simp only [detCells] at K0 HW
  simp only at HSb
  clear h hf he hM hpf hrl hSE hlen hRC hDT hDR
  show Calls Tryz.prog 11 #[.agg #[.string name, .slice a1 n1 c1, .slice a2 n2 c2, .int .i64 cover, .int .i64 agg, .int .i64 poker, .slice a3 n3 c3, .slice a4 n4 c4, .slice a5 n5 c5, .slice a6 n6 c6, .int .i64 r1, .int .i64 r2, .int .i64 r3, .int .i64 r4, .int .i64 r5, .int .i64 r6, .int .i64 r7, .int .i64 r8, .int .i64 r9], .int .i64 sc] w _
  go_enter Tryz.func11, Tryz.ntmps11
  go_wp2_with (refine wpList_load_row rfl 34 (.tmp 2) rfl w.heap.size rfl 34 _ (0, 0) _ K0.out Tryz.underlying34 rfl Hi.out ?_)
  refine (HM.out _ HW.out).mono ?_
  rintro e w2 ⟨rfl, hb2⟩
  have K0 := hide (K0.out.keep hb2)
  have HW2 := hide (below_step HW.out hb2 (Nat.le_refl _))
  have KG := hide (Blk.new w2 84 #[.int .i64 g1, .int .i64 g2, .int .i64 g3, .int .i64 g4, .int .i64 R, .int .i64 C])
  have K1 := hide (K0.out.alloc (.cells #[.int .i64 g1, .int .i64 g2, .int .i64 g3, .int .i64 g4, .int .i64 R, .int .i64 C] 84))
  have HW3 := hide (HW2.out.alloc HW2.out.size (.cells #[.int .i64 g1, .int .i64 g2, .int .i64 g3, .int .i64 g4, .int .i64 R, .int .i64 C] 84))
  clear hb2 HM K0 HW
  go_wp2_with (refine wpList_load_row rfl 34 (.tmp 2) rfl w.heap.size rfl 34 _ (0, 0) _ K1.out Tryz.underlying34 rfl Hi.out ?_)
  refine (HR.out _ HW3.out).mono ?_
  rintro e w4 ⟨A4, c4', rfl, hro, hb4⟩
  have KG := hide (KG.out.keep hb4)
  have HW4 := hide (below_step HW3.out hb4 (Nat.le_refl _))
  have Hro := hide hro
  have k4 := (KG.out.alloc (.cells #[.pointer none, .slice none 0 0] 93)).cell 4
  simp at k4
  have lg := KG.out.lt
  have HF := hide (Lib.fresh_isBuilder 93 5 w4)
  have HFb := hide (below_new w4 (.cells #[.pointer none, .slice none 0 0] 93))
  have e4 := KG.out.cell 4
  simp at e4
  clear hb4 hro HR HW2 HW3 Hi K1
  go_wp2_with fail
  go_loopw [32] (fun iv wr => ∃ r : Nat, r ≤ R ∧ iv = .int .i64 r ∧ Bld wr 93 w4.heap.size w4.heap.size (DT r) ∧ Below w4.heap.size w4 wr) (fun iv _ => R - (intOf iv).toNat)
  case atStart => exact ⟨0, Nat.zero_le _, rfl, by rw [HD0.out]; exact HF.out, HFb.out⟩
  case round =>
    rename World => wo
    clear HF HFb k4
    obtain ⟨r, hr, rfl, hbd, hbr⟩ := hrel
    have Hbd := hide hbd
    have Hbr := hide hbr
    by_cases hrl : r < R
    · have kk := KG.out.below hbr KG.out.lt
      have e5 := kk.cell 5
      simp at e5
      have lk := kk.lt
      clear kk hbd hbr
      go_wp2_with fail
      go_loopw [37] (fun iv wr => ∃ c : Nat, c ≤ C ∧ iv = .int .i64 c ∧ Bld wr 93 w4.heap.size w4.heap.size (DT r ++ DR r c) ∧ Below w4.heap.size w4 wr) (fun iv _ => C - (intOf iv).toNat)
      case atStart => exact ⟨0, Nat.zero_le _, rfl, by rw [HR0.out, List.append_nil]; exact Hbd.out, Hbr.out⟩
      case round =>
        clear e5 lk
        obtain ⟨c, hc, rfl, hbd, hbr⟩ := hrel
        have Hbd := hide hbd
        have hbrs := hbr.size
        have hlt := HDl.out r c hr hc
        by_cases hcl : c < C
        · have kk := KG.out.below hbr KG.out.lt
          have e0 := kk.cell 0
          have e1 := kk.cell 1
          have e2 := kk.cell 2
          have e3 := kk.cell 3
          have e4' := kk.cell 4
          have e5 := kk.cell 5
          simp at e0 e1 e2 e3 e4' e5
          have lk := kk.lt
          have HSs := hide (HSb.out wr A4 c4' (r : Int) (c : Int) ⟨by omega, by omega⟩ ⟨by omega, by omega⟩ (Hro.out.carry (Flat.carried _) hbr hbr.size))
          have Hbr := hide hbr
          clear kk hbd hbr
          go_wp2_with fail
          refine HSs.out.mono ?_
          rintro e w6 ⟨A5, c5', rfl, hse, hb6⟩
          have hbr7 := hide (Hbr.out.trans (hb6.mono hbrs))
          have Hbd7 := hide (IsBuilder.keep Hbd.out hb6)
          have hbrs7 := hbr7.out.size
          have Hsk := hide (fun (k : Int) (hk : k ∈ SE r c) => Hsm.out r c k hk)
          clear hb6 HSs e0 e1 e2 e3 e4' e5 lk
          generalize hsl : SE (r : Int) (c : Int) = sl at *
          rcases sl with _ | ⟨k, _ | ⟨k2, t⟩⟩
          · have Hsl := hide hsl
            have HDs := hide (fun (r' c' : Nat) => HDs.out r' c')
            clear hsl hse
            go_wp2_with fail
            refine (writeByte_any _ builderType w4.heap.size w4.heap.size _ (cellByte (SE r c)) 46 _ (by rw [Hsl.out]; rfl) Hbd7.out (by omega) hbrs7).mono ?_
            rintro e w8 ⟨rfl, hb8, hbe8, hs8⟩
            have Hb8 := hide (show Bld w8 93 w4.heap.size w4.heap.size (DT r ++ DR r (c + 1)) by rw [HDs.out r c, ← List.append_assoc]; exact hb8)
            have hbr8 := hide (hbr7.out.trans hbe8)
            clear hb8 hbe8 hs8
            go_wp2_with fail
            go_roundw
            case rel => exact ⟨c + 1, by omega, by go_num, Hb8.out, hbr8.out⟩
            case measure => simp [intOf]; omega
          · obtain ⟨b, off, q, rfl, hbl, hx, e0⟩ := Ints.get (k := 0) hse (by simp)
            simp at hx
            subst hx
            simp only [Nat.add_zero] at e0
            obtain ⟨hk0, hk1⟩ := Hsk.out k (by simp)
            have Hsl := hide hsl
            clear hsl hse hbl
            go_wp2_with (go_at_call 36; refine (planLetter_any k _ ⟨hk0, hk1⟩).mono ?_; rintro e w7 ⟨rfl, rfl⟩)
            refine (writeByte_any _ builderType w4.heap.size w4.heap.size _ (cellByte (SE r c)) _ _ (by rw [Hsl.out]; rfl) Hbd7.out (by omega) hbrs7).mono ?_
            rintro e w8 ⟨rfl, hb8, hbe8, hs8⟩
            have Hb8 := hide (show Bld w8 93 w4.heap.size w4.heap.size (DT r ++ DR r (c + 1)) by rw [HDs.out r c, ← List.append_assoc]; exact hb8)
            have hbr8 := hide (hbr7.out.trans hbe8)
            clear hb8 hbe8 hs8
            go_wp2_with fail
            go_roundw
            case rel => exact ⟨c + 1, by omega, by go_num, Hb8.out, hbr8.out⟩
            case measure => simp [intOf]; omega
          · have Hsl := hide hsl
            obtain ⟨m, hm⟩ : ∃ m, m = (k :: k2 :: t).length := ⟨_, rfl⟩
            have hm2 : 2 ≤ m := by rw [hm]; simp
            have m0 : ((m : Int) == 0) = false := by simp; omega
            have m1 : ((m : Int) == 1) = false := by simp; omega
            have m2 : (m == 0) = false := by simp; omega
            have m3 : (m == 1) = false := by simp; omega
            have m4 : ¬ m = 0 := by omega
            have m5 : ¬ m = 1 := by omega
            rw [← hm]
            clear hsl hse hm
            go_wp2_with fail
            refine (writeByte_any _ builderType w4.heap.size w4.heap.size _ (cellByte (SE r c)) 43 _ (by rw [Hsl.out]; rfl) Hbd7.out (by omega) hbrs7).mono ?_
            rintro e w8 ⟨rfl, hb8, hbe8, hs8⟩
            have Hb8 := hide (show Bld w8 93 w4.heap.size w4.heap.size (DT r ++ DR r (c + 1)) by rw [HDs.out r c, ← List.append_assoc]; exact hb8)
            have hbr8 := hide (hbr7.out.trans hbe8)
            clear hb8 hbe8 hs8
            go_wp2_with fail
            go_roundw
            case rel => exact ⟨c + 1, by omega, by go_num, Hb8.out, hbr8.out⟩
            case measure => simp [intOf]; omega
        · obtain rfl : c = C := by omega
          have Hbr := hide hbr
          clear hbd hbr
          go_wp2_with fail
          refine (writeByte_any _ builderType w4.heap.size w4.heap.size _ 10 10 _ rfl Hbd.out (by omega) hbrs).mono ?_
          rintro e w8 ⟨rfl, hb8, hbe8, hs8⟩
          have Hb8 := hide (show Bld w8 93 w4.heap.size w4.heap.size (DT (r + 1)) by rw [HDn.out r, ← List.append_assoc]; exact hb8)
          have hbr8 := hide (Hbr.out.trans hbe8)
          clear hb8 hbe8 hs8
          go_wp2_with fail
          go_roundw
          case rel => exact ⟨r + 1, by omega, by go_num, Hb8.out, hbr8.out⟩
          case measure => simp [intOf]; omega
    · obtain rfl : r = R := by omega
      have Hs := hide (Tryz.Builder_String_any w4.heap.size w4.heap.size (DT r) wo hbd hbr.size)
      clear hbd hbr
      go_wp2_with fail
      refine Hs.out.mono ?_
      rintro e w9 ⟨rfl, hb9⟩
      have Hfin := hide (below_step HW4.out (Hbr.out.trans hb9) (Nat.le_refl _))
      clear Hs hb9
      go_wp2_with fail
      go_ret2
      exact ⟨by rw [Htext.out]; rfl, Hfin.out⟩
end Go.Proofs.YtpmipoljnchheaaGreat
namespace Go.Proofs.YtpmipoljnchheaaGreat
open Go.RowKit

theorem name_size {m : ByteArray} (h : isName m = true) : m.size ≤ 20 := by
  simp only [isName, Bool.and_eq_true, decide_eq_true_eq] at h
  omega
theorem mark_size {x : BarD} (h : barOk x = true) : x.mark.size ≤ 20 := by
  simp only [barOk, Bool.and_eq_true] at h
  exact name_size h.1.1.1.1.1.2
theorem enc_ascii (c : UInt8) (h : c.toNat < 128) : Utf8.encode (c.toNat : Int) = ⟨#[c]⟩ := by
  have hv : Utf8.valid (c.toNat : Int) = true := by
    simp [Utf8.valid]
    omega
  unfold Utf8.encode
  simp [hv, h]
def legendLine (i : Nat) (m : ByteArray) : List UInt8 := letterOf i :: 32 :: (m.data.toList ++ [10])
def legendTo (bars : List BarD) (k : Nat) : List UInt8 := (List.range k).flatMap fun i => legendLine i (barMark bars i)
theorem legendTo_succ (bars : List BarD) (k : Nat) : legendTo bars (k + 1) = legendTo bars k ++ legendLine k (barMark bars k) := by simp [legendTo, List.range_succ]
def legendText (bars : List BarD) : List UInt8 := legendTo bars bars.length
set_option maxHeartbeats 4000000 in
set_option maxRecDepth 100000 in
theorem planLegend_ok (x : DetD) (s : DetS) (w : World) {B : Nat} (h : DetAt w B x s) (hB : B ≤ w.heap.size) (hf : DetFit x s) (hd : detOk x = true) :
    Calls Tryz.prog 16 #[detV x s] w fun e w' => e = .returned (.tuple #[.string ⟨(legendText x.bars).toArray⟩, .int .i64 0]) ∧ Below w.heap.size w w' := by
  have hV := fun (W : World) (hz : Below w.heap.size w W) => lapValid_any x s W (h.carry (hz.mono hB) (Nat.le_refl _)) (Nat.le_trans hB hz.size) hf
  rw [hd] at hV
  have HV := hide hV
  have Hi := hide (show (Tryz.prog.info? 34).map (·.size) = some 19 by kernel_rfl)
  have K0 := hide (Blk.new w 34 (detCells x.mem x.rule s))
  have HW := hide (below_new w (.cells (detCells x.mem x.rule s) 34))
  have H3 := hide h.h3
  have L3 := hide hf.l3
  have hok := (detOk_parts hd).2.1
  have hbars := (laidOk_mem hok).1
  have Hmk := hide (fun (y : BarD) (hy : y ∈ x.bars) => show y.mark.size ≤ 20 from mark_size (hbars y hy))
  have hn3 : s.n3 ≤ 60000 := hf.m3
  obtain ⟨LT, hLT⟩ : ∃ LT : Nat → List UInt8, LT = legendTo x.bars := ⟨_, rfl⟩
  have HL0 := hide (show LT 0 = [] by rw [hLT]; rfl)
  have HLn := hide (fun (k : Nat) (y : BarD) (hy : x.bars[k]? = some y) => show LT (k + 1) = LT k ++ legendLine k y.mark by rw [hLT, legendTo_succ]; simp [barMark, hy])
  have HLt := hide (show legendText x.bars = LT s.n3 by rw [hLT, hf.l3]; rfl)
  obtain ⟨mem, bars, runs, laps, dems, rule⟩ := x
  obtain ⟨a1, n1, c1, a2, n2, c2, a3, n3, c3, a4, n4, c4, a5, n5, c5, a6, n6, c6⟩ := s
  obtain ⟨name, boxes, holes, cover, agg, poker⟩ := mem
  obtain ⟨r1, r2, r3, r4, r5, r6, r7, r8, r9⟩ := rule
  simp only [detCells] at K0 HW
  simp only at H3 L3 Hmk hn3 HLn HLt
  clear h hf hd hV hok hbars hLT
  show Calls Tryz.prog 16 #[.agg #[.string name, .slice a1 n1 c1, .slice a2 n2 c2, .int .i64 cover, .int .i64 agg, .int .i64 poker, .slice a3 n3 c3, .slice a4 n4 c4, .slice a5 n5 c5, .slice a6 n6 c6, .int .i64 r1, .int .i64 r2, .int .i64 r3, .int .i64 r4, .int .i64 r5, .int .i64 r6, .int .i64 r7, .int .i64 r8, .int .i64 r9]] w _
  go_enter Tryz.func16, Tryz.ntmps16
  go_wp2_with (refine wpList_load_row rfl 34 (.tmp 1) rfl w.heap.size rfl 34 _ (0, 0) _ K0.out Tryz.underlying34 rfl Hi.out ?_)
  refine (HV.out _ HW.out).mono ?_
  rintro e w2 ⟨rfl, hb2⟩
  have K0 := hide (K0.out.keep hb2)
  have HW2 := hide (below_step HW.out hb2 (Nat.le_refl _))
  have e6 := K0.out.cell 6
  simp at e6
  have lk := K0.out.lt
  have HF := hide (Lib.fresh_isBuilder 93 5 w2)
  have HFb := hide (below_new w2 (.cells #[.pointer none, .slice none 0 0] 93))
  clear hb2 HV HW Hi
  go_wp2_with fail
  go_loopw [13] (fun iv wr => ∃ k : Nat, k ≤ n3 ∧ iv = .int .i64 k ∧ Bld wr 93 w2.heap.size w2.heap.size (LT k) ∧ Hid ((LT k).length ≤ 23 * k) ∧ Below w2.heap.size w2 wr) (fun iv _ => n3 - (intOf iv).toNat)
  case atStart => exact ⟨0, Nat.zero_le _, rfl, by rw [HL0.out]; exact HF.out, hide (by rw [HL0.out]; simp), HFb.out⟩
  case round =>
    clear HF HFb e6 lk K0
    obtain ⟨k, hk, rfl, hbd, hln, hbr⟩ := hrel
    have Hbd := hide hbd
    have Hbr := hide hbr
    have hbrs := hbr.size
    by_cases hlt : k < n3
    · have HWr := hide (below_step HW2.out hbr (Nat.le_refl _))
      obtain ⟨b3, off3, y, A', c', rfl, hbl3, hy, _, f0, f1, f2, f3, f4⟩ := BarsAt.get (k := k) (H3.out.carry (HWr.out.mono hB) (Nat.le_refl _)) (by have := L3.out; omega)
      have hbw : b3 < wr.heap.size := by have := HWr.out.size; omega
      have Hm := Hmk.out y (mem_of_get hy)
      have Hn := hide (HLn.out k y hy)
      clear hbd hbr hbl3 hy
      obtain ⟨lb, hlb⟩ : ∃ lb, lb = letterOf (k : Int) := ⟨_, rfl⟩
      have hl128 : lb.toNat < 128 := by
        have h9 := letterOf_nat (k : Int)
        rw [← hlb] at h9
        omega
      have henc := enc_ascii lb hl128
      have HPL := hide (fun (W : World) => (show Calls Tryz.prog 36 #[.int .i64 k] W fun e w' => e = .returned (.int .u8 (lb.toNat : Int)) ∧ w' = W by rw [hlb]; exact planLetter_any (k : Int) W (by omega)))
      have Hlb := hide hlb
      clear hlb hl128
      go_wp2_with fail
      obtain ⟨wa, hwa⟩ : ∃ wa, wa = wr.alloc (.cells #[.string y.mark, .int .i64 y.size, .int .i64 y.count, .int .i64 y.code, .slice A' y.dims.length c'] 65) := ⟨_, rfl⟩
      have KB := hide (Blk.new wr 65 #[.string y.mark, .int .i64 y.size, .int .i64 y.count, .int .i64 y.code, .slice A' y.dims.length c'])
      have HBa := hide (Hbr.out.alloc hbrs (.cells #[.string y.mark, .int .i64 y.size, .int .i64 y.count, .int .i64 y.code, .slice A' y.dims.length c'] 65))
      have Hbda := hide (IsBuilder.keep Hbd.out (below_new wr (.cells #[.string y.mark, .int .i64 y.size, .int .i64 y.count, .int .i64 y.code, .slice A' y.dims.length c'] 65)))
      rw [← hwa] at KB HBa Hbda ⊢
      have e0 := KB.out.cell 0
      simp at e0
      have hbas := HBa.out.size
      have hS1 : ∀ W : World, (Op.stringOp .add ((⟨#[lb]⟩ : ByteArray) ++ (⟨#[32]⟩ : ByteArray)) y.mark).run Tryz.prog W = .ok (.string (((⟨#[lb]⟩ : ByteArray) ++ (⟨#[32]⟩ : ByteArray)) ++ y.mark)) W := fun W => run_string_add_sum W _ _ (by have : ((⟨#[lb]⟩ : ByteArray) ++ (⟨#[32]⟩ : ByteArray)).size = 2 := rfl; omega)
      have hS2 : ∀ W : World, (Op.stringOp .add (((⟨#[lb]⟩ : ByteArray) ++ (⟨#[32]⟩ : ByteArray)) ++ y.mark) (⟨#[10]⟩ : ByteArray)).run Tryz.prog W = .ok (.string ((((⟨#[lb]⟩ : ByteArray) ++ (⟨#[32]⟩ : ByteArray)) ++ y.mark) ++ (⟨#[10]⟩ : ByteArray))) W := fun W => run_string_add_sum W _ _ (by rw [ByteArray.size_append]; have : ((⟨#[lb]⟩ : ByteArray) ++ (⟨#[32]⟩ : ByteArray)).size = 2 := rfl; have : (⟨#[10]⟩ : ByteArray).size = 1 := rfl; omega)
      clear hwa f0 f1 f2 f3 f4
      go_still_tail 8, (by kernel_rfl)
      still_call (HPL.out _)
      repeat still_step
      try refine wpStill_nil ?_
      change wpList _ _ _ _ _ wa.drew
      obtain ⟨sv, hsv⟩ : ∃ sv, sv = (((⟨#[lb]⟩ : ByteArray) ++ (⟨#[32]⟩ : ByteArray)) ++ y.mark) ++ (⟨#[10]⟩ : ByteArray) := ⟨_, rfl⟩
      rw [← hsv]
      have Hsv := hide (show sv.data.toList = legendLine k y.mark by rw [hsv, legendLine, ← Hlb.out]; simp)
      have hsz : sv.size ≤ 23 := by
        have h9 := congrArg List.length Hsv.out
        simp only [legendLine, List.length_cons, List.length_append, List.length_nil, Array.length_toList] at h9
        have h8 : y.mark.data.size = y.mark.size := rfl
        have h7 : sv.data.size = sv.size := rfl
        omega
      have hl9 := hln.out
      clear hsv hS1 hS2 henc e0 HPL
      go_wp2_with fail
      refine (writeString_any _ builderType w2.heap.size w2.heap.size _ sv _ (IsBuilder.keep Hbda.out (Below.drew (Below.refl _ _))) (by omega) (by omega) (show w2.heap.size ≤ wa.drew.heap.size from hbas)).mono ?_
      rintro e w8 ⟨rfl, hb8, hbe8, hs8⟩
      have Hb8 := hide (show Bld w8 93 w2.heap.size w2.heap.size (LT (k + 1)) by rw [Hn.out, ← Hsv.out]; exact hb8)
      have hbr8 := hide ((HBa.out.drew).trans hbe8)
      have hl8 := hide (show (LT (k + 1)).length ≤ 23 * (k + 1) by
        rw [Hn.out, ← Hsv.out, List.length_append]
        have h7 : sv.data.toList.length = sv.size := by simp
        omega)
      clear hb8 hbe8 hs8
      go_wp2_with fail
      go_roundw
      case rel => exact ⟨k + 1, by omega, by go_num, Hb8.out, hl8, hbr8.out⟩
      case measure => simp [intOf]; omega
    · obtain rfl : k = n3 := by omega
      have Hs := hide (Tryz.Builder_String_any w2.heap.size w2.heap.size (LT k) wr hbd hbrs)
      clear hbd hbr
      go_wp2_with fail
      refine Hs.out.mono ?_
      rintro e w9 ⟨rfl, hb9⟩
      have Hfin := hide (below_step HW2.out (Hbr.out.trans hb9) (Nat.le_refl _))
      clear Hs hb9
      go_wp2_with fail
      go_ret2
      exact ⟨by rw [HLt.out]; rfl, Hfin.out⟩
end Go.Proofs.YtpmipoljnchheaaGreat
