/- The path of a laid bar: a range over the iterator of all laid bars. Whether a detail is valid. Whether a detail is valid, as a Boolean. The legs of a laid bar. The reference of layer 17: the hull of a solid. The reference of layer 16: the points and the legs of a laid bar; of layer 25: its main leg. The reference of layer 16: whether runs are valid. The reference of layer 25: laps; whether a detail is valid. -/
import Derived.Test.YtpmipoljnchheaaGreatDoorQas
import Derived.Test.YtpmipoljnchheaaGreatDoorQax
import Derived.Test.YtpmipoljnchheaaGreatDoorQaa
import Derived.Deep.RegionWith
import Derived.Test.YtpmipoljnchheaaGreatDoorQav
import Derived.Test.YtpmipoljnchheaaGreatDoorQao
import Derived.Test.YtpmipoljnchheaaGreatDoorQau
import Derived.Test.YtpmipoljnchheaaGreatDoorQaq
import Derived.Test.YtpmipoljnchheaaGreatDoorQap
import Derived.Test.YtpmipoljnchheaaGreatDoorQaw
import Derived.Test.YtpmipoljnchheaaGreatDoorQay
import Derived.StillTailTactics
namespace Go.Proofs.YtpmipoljnchheaaGreatDoor
open Go.RowKit
attribute [local go_sem] Oper.semAt_some

theorem run_loadVar1 {P : Program} {w : World} {g : Nat} {v : Value} {ty : TypeId} {d : TypeDesc} (hc : w.cell? ⟨g, 0, none⟩ = some v) (hu : P.underlying ty = some d) (hd : (match d with | .struct _ | .array _ _ => true | _ => false) = false) :
    (loadVar ty ⟨g, 0, none⟩).run P w = .ok v w := by
  have hagg : (isAgg ty).run P w = .ok false w := by
    unfold isAgg
    rw [Sem.run_bind, run_underlying hu w]
    cases d <;> simp_all
  simp [loadVar, Sem.run_bind, hagg]
  simp [go_sem, hc]
/-- A function's results where both lie in cells of one cell each. -/
theorem results_cc1 {P : Program} {fn : Func} {p q : Tmp} {tp tq : TypeId} (h : fn.results = #[.cell p tp, .cell q tq]) {tmps : Array Value} {w : World} {gp gq : Nat} {vp vq : Value} {dp dq : TypeDesc}
    (hp : tmps.getD p undef = .pointer (some ⟨gp, 0, none⟩)) (hq : tmps.getD q undef = .pointer (some ⟨gq, 0, none⟩)) (cp : w.cell? ⟨gp, 0, none⟩ = some vp) (cq : w.cell? ⟨gq, 0, none⟩ = some vq)
    (hup : P.underlying tp = some dp) (huq : P.underlying tq = some dq) (hdp : (match dp with | .struct _ | .array _ _ => true | _ => false) = false) (hdq : (match dq with | .struct _ | .array _ _ => true | _ => false) = false) :
    (results fn tmps).run P w = .ok (.tuple #[vp, vq]) w := by
  have hp' : tmps[p]?.getD undef = .pointer (some ⟨gp, 0, none⟩) := by simpa using hp
  have hq' : tmps[q]?.getD undef = .pointer (some ⟨gq, 0, none⟩) := by simpa using hq
  simp [results, h, hp', hq', asAddr, run_loadVar1 cp hup hdp, run_loadVar1 cq huq hdq]
set_option maxHeartbeats 400000 in
theorem all_any (A3 A4 : Option Addr) (n3 c3 n4 c4 : Nat) (w : World) :
    Calls Tryz.prog 103 #[.slice A3 n3 c3, .slice A4 n4 c4] w fun e w' => e = .returned (.func (.func 154) #[] #[.pointer (some ⟨w.heap.size + 1, 0, none⟩), .pointer (some ⟨w.heap.size, 0, none⟩)]) ∧
      w' = (w.alloc (.cells #[.slice A3 n3 c3] 27)).alloc (.cells #[.slice A4 n4 c4] 28) := by
  go_enter Tryz.func103, Tryz.ntmps103
  go_wp2_with fail
  go_ret
  exact ⟨rfl, rfl⟩
theorem SlOf.block {α : Type} {enc : α → List Value} {size B B' g : Nat} {L : List α} {w w' : World} (h : SlOf w B size (Flat enc) (some ⟨g, 0, none⟩) L) (he : w'.heap[g]? = w.heap[g]?) (hB : B ≤ B') : SlOf w' B' size (Flat enc) (some ⟨g, 0, none⟩) L := by
  intro hn
  obtain ⟨b, off, hA, hb, hc⟩ := h hn
  injection hA with hA
  injection hA with h1 h2
  subst h1
  subst h2
  refine ⟨g, 0, rfl, Nat.lt_of_lt_of_le hb hB, fun k x hx => ?_⟩
  obtain ⟨vs, hs, hr, hv⟩ := hc k x hx
  exact ⟨vs, hs, hr, fun j v hj => (World.cell?_of_block he).trans (hv j v hj)⟩
/-- The record of a range over a function. -/
def mkRec (fn : FuncId) (tmps : Array Value) (ps : Array Tmp) (assign body : Code) (D : Nat) (st : LoopState) (pe : Option Code) : Loop := { state := st, pending := pe, fn := fn, tmps := tmps, params := ps, assign := assign, body := body, defers := D }
/-- A range over a function whose body leaves, in the end, by a return. -/
theorem range_intro {P : Program} {n : Nat} {g : Operand} {ps : Array Tmp} {assign body : Code} {Q : Exit → Act → World → Prop} {a : Act} {w : World} {gf : Nat} {lb : Array Value} (hg : a.eval g = .func (.func gf) #[] lb) (eg : ∀ args w, (callFunc gf args).run P w = .ok (.enter gf args) w)
    (h : ∀ (fn : FuncId) (rec : LoopState → Option Code → Loop) (W1 : World), rec = mkRec fn a.tmps ps assign body w.heap.size → W1 = (w.alloc (.deferred (some []))).alloc (.loop (rec .ready none)) →
      Calls P gf (#[.func (.yield (w.heap.size + 1)) #[] #[]] ++ lb) W1 fun e W' => (∃ v, e = .returned v) ∧ W'.heap[w.heap.size + 1]? = some (.loop (rec .done (some .ret))) ∧
        Q .ret { a with defers := { target := .collected w.heap.size, args := #[] } :: a.defers } (W'.putObj (w.heap.size + 1) (.loop (rec .exhausted (some .ret))))) :
    (Code.rangeFunc g ps assign body).wpIn Fence.wide n P Q a w := by
  refine wpIn_rangeFunc ?_
  intro fn hfn
  refine ⟨w.heap.size + 1, [{ target := .collected w.heap.size, args := #[] }], ((w.alloc (.deferred (some []))).alloc (.loop (mkRec fn a.tmps ps assign body w.heap.size .ready none))), { target := .fn (.func gf) lb, args := #[.func (.yield (w.heap.size + 1)) #[] #[]] }, ((w.alloc (.deferred (some []))).alloc (.loop (mkRec fn a.tmps ps assign body w.heap.size .ready none))), gf, #[.func (.yield (w.heap.size + 1)) #[] #[]] ++ lb, ((w.alloc (.deferred (some []))).alloc (.loop (mkRec fn a.tmps ps assign body w.heap.size .ready none))), run_enterLoop_outer _ _ _ _ _, ?_, fun _ _ => trivial, ?_, fun hd => absurd hd (by simp [Fence.wide]), ?_⟩
  · simp only [resolve, hg]
    simp [go_sem]
  · simp [invoke, go_sem, eg]
  · refine (callsIn_wide.2 (h fn _ _ rfl rfl)).mono ?_
    rintro e W2 ⟨⟨v, rfl⟩, hl, hq⟩
    exact ⟨some .ret, _, run_endLoop hl (by simp [mkRec]), wpIn_ret hq⟩
/-- A round of it. -/
theorem yield_intro {P : Program} {fn : FuncId} {tmps : Array Value} {ps : Array Tmp} {assign body : Code} {D l : Nat} {W : World} {args : Array Value} {R : Ending → World → Prop} {rec : LoopState → Option Code → Loop} (hrec : rec = mkRec fn tmps ps assign body D) (hl : W.heap[l]? = some (.loop (rec .ready none))) (hs : args.size = ps.size)
    (h : assign.wpIn (Fence.wide.inRound l) 2 P (Exit.then (fun a₁ w₁ => ∃ w₂, (Instr.beginRound l).run P w₁ = .ok () w₂ ∧ body.wpIn (Fence.wide.inRound l) 2 P (roundPost P l R) a₁ w₂) (fun _ _ _ => False)) { tmps := (ps.zip args).foldl (fun t (p, v) => t.setIfInBounds p v) tmps, defers := [] } W) : YieldAt Fence.wide 2 P l args W R := by
  subst hrec
  exact ⟨fn, _, assign, body, run_yield hl hs, roundIn_of_wpIn trivial h⟩
set_option maxHeartbeats 4000000 in
set_option maxRecDepth 100000 in
theorem laidPath_ok (A3 A4 : Option Addr) (bars : List BarD) (runs : List RunD) (n3 c3 n4 c4 i : Nat) (ld : LaidD) (w : World) {B : Nat} (h3 : BarsAt w B A3 bars) (h4 : RunsAt w B A4 runs) (hB : B ≤ w.heap.size) (l3 : n3 = bars.length) (l4 : n4 = runs.length) (m3 : n3 ≤ 60000) (m4 : n4 ≤ 60000) (htame : Tame bars) (hok : laidOk bars runs = true) (hi : (laidAll bars runs)[i]? = some ld) :
    Calls Tryz.prog 69 #[.slice A3 n3 c3, .slice A4 n4 c4, .int .i64 i] w fun e w' => ∃ A, e = .returned (.tuple #[.slice A ld.pts.length ld.pts.length, .int .i64 0]) ∧ PtsAt w' w'.heap.size A ld.pts ∧ Below w.heap.size w w' := by
  have HV := fun (W : World) (hz : Below w.heap.size w W) => laidValid_any A3 bars n3 c3 A4 runs n4 c4 W (h3.carry (hz.mono hB) (Nat.le_refl _)) (h4.carry (Flat.carried _) (hz.mono hB) (Nat.le_refl _)) (Nat.le_trans hB hz.size) l3 l4 m3 m4 htame
  rw [hok] at HV
  have HV := hide HV
  have HAll := hide (fun (n₀ gB gR l : Nat) (J : Nat → World → Prop) (Jx : World → Prop) (a1 a2) (W : World) (a3) (hz : Below w.heap.size w W) (hn : w.heap.size ≤ n₀) (hn1 : n₀ ≤ W.heap.size) (hl : n₀ ≤ l) (a4 a5 a6 a7 a8) => all1_walk A3 A4 bars runs n3 c3 n4 c4 n₀ gB gR l J Jx a1 a2 W a3 (h3.carry (hz.mono hB) (Nat.le_trans hB hn)) (h4.carry (Flat.carried _) (hz.mono hB) (Nat.le_trans hB hn)) hn1 hl a4 a5 a6 a7 l3 l4 m3 htame hok a8)
  have Hi := hide hi
  have HW := hide (((below_new2 w (.cells #[.int .i64 i] 3) (.cells #[.slice none 0 0] 140)).alloc (by simp; omega) (.cells #[.int .i64 0] 39)))
  have K5 := hide (((Blk.new w 3 #[.int .i64 i]).alloc (.cells #[.slice none 0 0] 140)).alloc (.cells #[.int .i64 0] 39))
  have K6 := hide ((Blk.new1 w (.cells #[.int .i64 i] 3) 140 #[.slice none 0 0]).alloc (.cells #[.int .i64 0] 39))
  have K7 := hide (Blk.new2 w (.cells #[.int .i64 i] 3) (.cells #[.slice none 0 0] 140) 39 #[.int .i64 0])
  clear h3 h4 hB l3 l4 m3 m4 htame hok hi
  refine (callsIn_wide (n := 4)).1 ?_
  refine callsIn_of_wp_marks Tryz.func69 rfl trivial ?_ rfl
  simp only [Tryz.ntmps69, List.size_toArray, List.length_cons, List.length_nil, Nat.reduceAdd, Nat.reduceSub, Array.replicate_succ, Array.replicate_zero, List.push_toArray, List.append_toArray, List.nil_append, List.cons_append]
  refine wpIn_wide.2 ?_
  go_wp2_with fail
  refine (HV.out _ HW.out).mono ?_
  rintro e w2 ⟨rfl, hb2⟩
  have K5 := hide (K5.out.keep hb2)
  have K6 := hide (K6.out.keep hb2)
  have K7 := hide (K7.out.keep hb2)
  have HW := hide (below_step HW.out hb2 (Nat.le_refl _))
  have Hws := hide K7.out.lt
  clear hb2 HV
  go_wp2_with (go_at_call 103; refine (all_any _ _ _ _ _ _ _).mono ?_; rintro e w3 ⟨rfl, rfl⟩)
  refine (wpIn_wide (n := 4)).1 ?_
  obtain ⟨w3, hw3⟩ : ∃ w3, w3 = (w2.alloc (.cells #[.slice A3 n3 c3] 27)).alloc (.cells #[.slice A4 n4 c4] 28) := ⟨_, rfl⟩
  have K5 := hide ((K5.out.alloc (.cells #[.slice A3 n3 c3] 27)).alloc (.cells #[.slice A4 n4 c4] 28))
  have K6 := hide ((K6.out.alloc (.cells #[.slice A3 n3 c3] 27)).alloc (.cells #[.slice A4 n4 c4] 28))
  have K7 := hide ((K7.out.alloc (.cells #[.slice A3 n3 c3] 27)).alloc (.cells #[.slice A4 n4 c4] 28))
  have KB := hide ((Blk.new w2 27 #[.slice A3 n3 c3]).alloc (.cells #[.slice A4 n4 c4] 28))
  have KR := hide (Blk.new1 w2 (.cells #[.slice A3 n3 c3] 27) 28 #[.slice A4 n4 c4])
  have HW := hide ((HW.out.alloc HW.out.size (.cells #[.slice A3 n3 c3] 27)).alloc (by rw [size_alloc']; exact Nat.le_succ_of_le HW.out.size) (.cells #[.slice A4 n4 c4] 28))
  have hs3 : w3.heap.size = w2.heap.size + 1 + 1 := by rw [hw3]; simp
  rw [← hw3] at K5 K6 K7 KB KR HW ⊢
  have Hs3 := hide hs3
  clear hw3 hs3
  refine range_intro rfl (enters_of Tryz.func154 (by kernel_rfl) rfl) ?_
  intro fn rec W1 hrec hW1
  obtain ⟨D, hD⟩ : ∃ D, D = w3.heap.size := ⟨_, rfl⟩
  have hs1 : W1.heap.size = D + 2 := by rw [hW1, hD]; simp
  have hL1 : W1.heap[D + 1]? = some (.loop (rec .ready none)) := by
    rw [hW1, hD]; have := World.alloc_heap_new (w3.alloc (.deferred (some []))) (.loop (rec .ready none)); rwa [World.size_alloc] at this
  have hD1 : W1.heap[D]? = some (.deferred (some [])) := by
    rw [hW1, hD]; exact (Below.heap_alloc _ _ _ (by simp)).trans (World.alloc_heap_new w3 _)
  have k5 : Blk W1 w.heap.size 3 #[.int .i64 i] := by rw [hW1]; exact (K5.out.alloc _).alloc _
  have k6 : Blk W1 (w.heap.size + 1) 140 #[.slice none 0 0] := by rw [hW1]; exact (K6.out.alloc _).alloc _
  have k7 : Blk W1 (w.heap.size + 2) 39 #[.int .i64 0] := by rw [hW1]; exact (K7.out.alloc _).alloc _
  have kB : Blk W1 w2.heap.size 27 #[.slice A3 n3 c3] := by rw [hW1]; exact (KB.out.alloc _).alloc _
  have kR : Blk W1 (w2.heap.size + 1) 28 #[.slice A4 n4 c4] := by rw [hW1]; exact (KR.out.alloc _).alloc _
  have hw1 : Below w.heap.size w W1 := by rw [hW1]; exact (HW.out.alloc HW.out.size _).alloc (by rw [size_alloc']; exact Nat.le_succ_of_le HW.out.size) _
  have hsD : w2.heap.size + 2 = D := by rw [hD, Hs3.out]
  have hws := Hws.out
  have hwD : w.heap.size ≤ D := by omega
  clear hW1 K5 K6 K7 KB KR HW Hs3 Hws
  rw [← hD]
  clear hD
  obtain ⟨J, hJd⟩ : ∃ J : Nat → World → Prop, J = fun k W => k ≤ i ∧ Below w.heap.size w W ∧ W.heap[D + 1]? = some (.loop (rec .ready none)) ∧ W.heap[D]? = some (.deferred (some [])) ∧ Blk W w.heap.size 3 #[.int .i64 i] ∧ Blk W (w.heap.size + 1) 140 #[.slice none 0 0] ∧ Blk W (w.heap.size + 2) 39 #[.int .i64 0] := ⟨_, rfl⟩
  obtain ⟨Jx, hJxd⟩ : ∃ Jx : World → Prop, Jx = fun W => W.heap[D + 1]? = some (.loop (rec .done (some .ret))) ∧ W.heap[D]? = some (.deferred (some [])) ∧ Below w.heap.size w W ∧ ∃ g, D < g ∧ g ≠ D + 1 ∧ W.cell? ⟨w.heap.size + 1, 0, none⟩ = some (.slice (some ⟨g, 0, none⟩) ld.pts.length ld.pts.length) ∧ W.cell? ⟨w.heap.size + 2, 0, none⟩ = some (.int .i64 0) ∧ PtsAt W W.heap.size (some ⟨g, 0, none⟩) ld.pts := ⟨_, rfl⟩
  have HJd := hide hJd
  have HJxd := hide hJxd
  have Hrec := hide hrec
  clear hJd hJxd hrec
  refine (HAll.out D w2.heap.size (w2.heap.size + 1) (D + 1) J Jx ?_ ?_ W1 ?_ hw1 hwD (by omega) (Nat.le_succ D) ?_ ?_ (by omega) (by omega) ?_).mono ?_
  · intro k W W' hj hb
    rw [HJd.out] at hj ⊢
    obtain ⟨j1, j2, j3, j4, j5, j6, j7⟩ := hj
    exact ⟨j1, below_step j2 hb (Nat.le_refl _), (hb.block _ (Array.getElem?_eq_some_iff.1 j3).1).trans j3, (hb.block _ (Array.getElem?_eq_some_iff.1 j4).1).trans j4, j5.keep hb, j6.keep hb, j7.keep hb⟩
  · intro k W hj
    rw [HJd.out] at hj
    exact ⟨_, hj.2.2.1, rfl⟩
  · intro k ld' g m c W hj hld hm hcm hg hpts
    subst hcm
    subst hm
    rw [HJd.out] at hj
    obtain ⟨j1, j2, j3, j4, j5, j6, j7⟩ := hj
    refine yield_intro Hrec.out j3 rfl ?_
    have HA := hide (And.intro j3 (And.intro j5 (And.intro j6 j7)))
    clear j3 j5 j6 j7
    gi_wp2
    obtain ⟨j3, j5, j6, j7⟩ := HA.out
    refine ⟨_, run_beginRound j3 (by rw [Hrec.out]; rfl), ?_⟩
    obtain ⟨W2, hW2⟩ : ∃ W2, W2 = W.putObj (D + 1) (.loop { rec .ready none with state := .busy }) := ⟨_, rfl⟩
    have hDW : D + 1 < W.heap.size := (Array.getElem?_eq_some_iff.1 j3).1
    have hL2 : W2.heap[D + 1]? = some (.loop { rec .ready none with state := .busy }) := by rw [hW2]; exact World.putObj_heap_same hDW
    have o2 : ∀ b, b ≠ D + 1 → W2.heap[b]? = W.heap[b]? := fun b hb => by rw [hW2]; exact World.putObj_heap_other hb
    have k5 : Blk W2 w.heap.size 3 #[.int .i64 i] := (o2 _ (by omega)).trans j5
    have k6 : Blk W2 (w.heap.size + 1) 140 #[.slice none 0 0] := (o2 _ (by omega)).trans j6
    have k7 : Blk W2 (w.heap.size + 2) 39 #[.int .i64 0] := (o2 _ (by omega)).trans j7
    have hz2 : W2.heap.size = W.heap.size := by rw [hW2]; simp
    rw [← hW2]
    have HX := hide (And.intro hW2 (And.intro o2 hL2))
    have R5 := hide k5
    have R6 := hide k6
    have R7 := hide k7
    have c5 := k5.cell 0
    have c6 := k6.cell 0
    have c7 := k7.cell 0
    have f6 := k6.frozen 0
    have f7 := k7.frozen 0
    simp at c5 c6 c7
    have Hj := hide (And.intro j2 (And.intro j3 (And.intro j4 (And.intro j5 (And.intro j6 j7)))))
    have Hp := hide hpts
    clear hW2 o2 hL2 k5 k6 k7 j2 j3 j4 j5 j6 j7 hpts
    by_cases hki : k = i
    · subst hki
      gi_wp2
      obtain ⟨hW2, o2, hL2⟩ := HX.out
      obtain ⟨j2, j3, j4, j5, j6, j7⟩ := Hj.out
      have hlds : ld' = ld := by have h9 := Hi.out; rw [hld] at h9; injection h9
      subst hlds
      obtain ⟨sv, hsv⟩ : ∃ sv, sv = Value.slice (some ⟨g, 0, none⟩) ld'.pts.length ld'.pts.length := ⟨_, rfl⟩
      rw [← hsv]
      have o5 : ∀ b, b ≠ w.heap.size + 1 → b ≠ w.heap.size + 2 → ((W2.setCell ⟨w.heap.size + 1, 0, none⟩ sv).setCell ⟨w.heap.size + 2, 0, none⟩ (.int .i64 0)).heap[b]? = W2.heap[b]? := fun b h1 h2 => (Below.heap_setCell _ _ _ b h2).trans (Below.heap_setCell _ _ _ b h1)
      have hL5 := (o5 (D + 1) (by omega) (by omega)).trans hL2
      obtain ⟨W5, hW5⟩ : ∃ W5, W5 = (W2.setCell ⟨w.heap.size + 1, 0, none⟩ sv).setCell ⟨w.heap.size + 2, 0, none⟩ (.int .i64 0) := ⟨_, rfl⟩
      have q6 : Blk W5 (w.heap.size + 1) 140 #[sv] := by
        rw [hW5]
        have h9 := (R6.out.set_ 0 sv).far (p := ⟨w.heap.size + 2, 0, none⟩) (by show w.heap.size + 1 ≠ w.heap.size + 2; omega) (.int .i64 0)
        simpa using h9
      have q7 : Blk W5 (w.heap.size + 2) 39 #[.int .i64 0] := by
        rw [hW5]
        have h9 := (R7.out.far (p := ⟨w.heap.size + 1, 0, none⟩) (by show w.heap.size + 2 ≠ w.heap.size + 1; omega) sv).set_ 0 (.int .i64 0)
        simpa using h9
      have hB5 : Below w.heap.size w W5 := by
        rw [hW5, hW2]
        exact ((j2.trans ((Below.refl w.heap.size W).grown (grownBy_putObj' W (D + 1) _) j2.size (fun r e => by cases e; omega))).setCell (p := ⟨w.heap.size + 1, 0, none⟩) (Nat.le_succ _) _).setCell (p := ⟨w.heap.size + 2, 0, none⟩) (by show w.heap.size ≤ w.heap.size + 2; omega) _
      have hz5 : W5.heap.size = W.heap.size := by rw [hW5]; simp only [World.size_setCell]; exact hz2
      have o5' : ∀ b, b ≠ w.heap.size + 1 → b ≠ w.heap.size + 2 → W5.heap[b]? = W2.heap[b]? := by rw [hW5]; exact o5
      rw [← hW5] at hL5
      show roundPost _ _ _ _ _ ((W2.setCell ⟨w.heap.size + 1, 0, none⟩ sv).setCell ⟨w.heap.size + 2, 0, none⟩ (.int .i64 0))
      rw [← hW5]
      clear hW5 o5 hW2
      refine ⟨_, _, run_endRound (some .ret) hL5, .inr ⟨rfl, ?_⟩⟩
      rw [HJxd.out]
      have hrc : ({ { rec .ready none with state := .busy } with state := if (some Code.ret).isNone then LoopState.ready else LoopState.done, pending := some Code.ret } : Loop) = rec .done (some .ret) := by rw [Hrec.out]; rfl
      have oo : ∀ b, b ≠ D + 1 → (W5.putObj (D + 1) (.loop { { rec .ready none with state := .busy } with state := if (some Code.ret).isNone then LoopState.ready else LoopState.done, pending := some Code.ret })).heap[b]? = W5.heap[b]? := fun b hb => World.putObj_heap_other hb
      refine ⟨?_, (oo D (by omega)).trans ((o5' D (by omega) (by omega)).trans ((o2 D (by omega)).trans j4)), hB5.grown (grownBy_putObj' _ _ _) hB5.size (fun r e => by cases e; omega), g, by omega, by omega, ?_, ?_, ?_⟩
      · rw [World.putObj_heap_same (by rw [hz5]; exact hDW), hrc]
      · have h9 := q6.cell 0
        rw [← hsv]
        exact (World.cell?_of_block (a := ⟨w.heap.size + 1, 0, none⟩) (oo (w.heap.size + 1) (by omega))).trans (by simpa using h9)
      · have h9 := q7.cell 0
        exact (World.cell?_of_block (a := ⟨w.heap.size + 2, 0, none⟩) (oo (w.heap.size + 2) (by omega))).trans (by simpa using h9)
      · exact SlOf.block Hp.out ((oo g (by omega)).trans ((o5' g (by omega) (by omega)).trans (o2 g (by omega)))) (by simp [hz5])
    · have hki2 : ((k : Int) == (i : Int)) = false := by simp; omega
      have hki3 : (k == i) = false := by simpa using hki
      gi_wp2
      obtain ⟨hW2, o2, hL2⟩ := HX.out
      obtain ⟨j2, j3, j4, j5, j6, j7⟩ := Hj.out
      refine ⟨_, _, run_endRound none hL2, .inl ⟨rfl, ?_, ?_⟩⟩
      · rw [HJd.out]
        have hrc : ({ { rec .ready none with state := .busy } with state := if (none : Option Code).isNone then LoopState.ready else LoopState.done, pending := none } : Loop) = rec .ready none := by rw [Hrec.out]; rfl
        have oo : ∀ b, b ≠ D + 1 → (W2.putObj (D + 1) (.loop { { rec .ready none with state := .busy } with state := if (none : Option Code).isNone then LoopState.ready else LoopState.done, pending := none })).heap[b]? = W2.heap[b]? := fun b hb => World.putObj_heap_other hb
        have hB2 : Below w.heap.size w W2 := by
          rw [hW2]
          exact j2.trans ((Below.refl w.heap.size W).grown (grownBy_putObj' W (D + 1) _) j2.size (fun r e => by cases e; omega))
        refine ⟨by omega, hB2.grown (grownBy_putObj' _ _ _) hB2.size (fun r e => by cases e; omega), ?_, (oo D (by omega)).trans ((o2 D (by omega)).trans j4), (oo _ (by omega)).trans R5.out, (oo _ (by omega)).trans R6.out, (oo _ (by omega)).trans R7.out⟩
        rw [World.putObj_heap_same (by rw [hz2]; exact hDW), hrc]
      · refine ⟨?_, ?_, ?_, by simp [hz2], fun b hb hne => ?_⟩
        · rw [hW2]; rfl
        · rw [hW2]; rfl
        · rw [hW2]; rfl
        · have hb1 : b ≠ D + 1 := fun h9 => hne (by rw [h9])
          exact (World.putObj_heap_other hb1).trans (o2 b hb1)
  · have := kB.cell 0
    simpa using this
  · have := kR.cell 0
    simpa using this
  · rw [HJd.out]
    exact ⟨Nat.zero_le _, hw1, hL1, hD1, k5, k6, k7⟩
  · rintro e W5 ⟨hv, hJf | hJf⟩
    · rw [HJd.out] at hJf
      have := lt_of_get Hi.out
      omega
    · rw [HJxd.out] at hJf
      obtain ⟨j1, j2, j3, g, hgD, hgL, j4, j5, j6⟩ := hJf
      have o1 : ∀ b, b ≠ D + 1 → b ≠ D → ((W5.putObj (D + 1) (.loop (rec .exhausted (some .ret)))).putObj D (.deferred none)).heap[b]? = W5.heap[b]? := fun b h1 h2 => (World.putObj_heap_other h2).trans (World.putObj_heap_other h1)
      have hD5 : D < W5.heap.size := (Array.getElem?_eq_some_iff.1 j2).1
      have oA := o1 (w.heap.size + 1) (by omega) (by omega)
      have oB := o1 (w.heap.size + 2) (by omega) (by omega)
      refine ⟨hv, j1, by simp, .inl ⟨_, _, rfl, run_takeDeferred (show (W5.putObj (D + 1) (.loop (rec .exhausted (some .ret)))).heap[D]? = some (.deferred (some [])) from (World.putObj_heap_other (by omega)).trans j2), ?_⟩⟩
      refine ⟨_, results_cc1 (gp := w.heap.size + 1) (gq := w.heap.size + 2) rfl rfl rfl ((World.cell?_of_block (a := ⟨w.heap.size + 1, 0, none⟩) oA).trans j4) ((World.cell?_of_block (a := ⟨w.heap.size + 2, 0, none⟩) oB).trans j5) Tryz.underlying140 Tryz.underlying39 rfl rfl, some ⟨g, 0, none⟩, rfl, ?_, ?_⟩
      · exact SlOf.block j6 (o1 _ hgL (by omega)) (by simp)
      · refine ⟨j3.os, j3.tape, j3.output, by simpa using j3.size, fun b hb => (o1 b (by omega) (by omega)).trans (j3.block b hb)⟩
end Go.Proofs.YtpmipoljnchheaaGreatDoor
namespace Go.Proofs.YtpmipoljnchheaaGreatDoor
open Go.RowKit

def LookPost (x : DetD) (w : World) (e : Ending) (w' : World) : Prop :=
  (detOk x = false ∧ e = .returned (.tuple #[.slice none 0 0, .bool false]) ∧ Below w.heap.size w w') ∨
  (detOk x = true ∧ ∃ A c, e = .returned (.tuple #[.slice A (laidAll x.bars x.runs).length c, .bool true]) ∧ MainsAt w' w'.heap.size A ((laidAll x.bars x.runs).map mainOf) ∧ Below w.heap.size w w')
theorem lapsFrom_at {ms : List (Option BoxD)} {l : List JoinD} {k : Nat} {j : JoinD} (h : l[k]? = some j) (f s : List Int) :
    lapsFrom ms f s (l.drop k) = (lapsFit ms j && !f.contains j.first && !s.contains j.second && lapsFrom ms (j.first :: f) (j.second :: s) (l.drop (k + 1))) := by
  rw [drop_at' h, lapsFrom]
theorem jointOk_range {l : List MainD} {j : JoinD} (h : jointOk l j = true) (hl : l.length ≤ 2000) : InInt j.first ∧ InInt j.second := by
  simp only [jointOk, lapsFit, Bool.and_eq_true, decide_eq_true_eq, List.length_map] at h
  unfold InInt
  omega
set_option maxHeartbeats 4000000 in
set_option maxRecDepth 100000 in
theorem look_any (x : DetD) (s : DetS) (w : World) {B : Nat} (h : DetAt w B x s) (hB : B ≤ w.heap.size) (hf : DetFit x s) :
    Calls Tryz.prog 58 #[detV x s] w fun e w' => LookPost x w e w' := by
  have HMM := hide (fun (W : World) (hz : Below w.heap.size w W) (hok : laidOk x.bars x.runs = true) => mains_ok x s W (h.carry (hz.mono hB) (Nat.le_refl _)) (Nat.le_trans hB hz.size) hf hok)
  have HM := hide (fun (W : World) (hz : Below w.heap.size w W) => member_any x.mem s.a1 s.a2 s.n1 s.n2 s.c1 s.c2 W (h.h1.carry (Flat.carried _) (hz.mono hB) (Nat.le_refl _)) (h.h2.carry (Flat.carried _) (hz.mono hB) (Nat.le_refl _)) (Nat.le_trans hB hz.size) hf.l1 hf.l2 hf.name)
  have HL := hide (fun (W : World) (hz : Below w.heap.size w W) => laidValid_any s.a3 x.bars s.n3 s.c3 s.a4 x.runs s.n4 s.c4 W (h.h3.carry (hz.mono hB) (Nat.le_refl _)) (h.h4.carry (Flat.carried _) (hz.mono hB) (Nat.le_refl _)) (Nat.le_trans hB hz.size) hf.l3 hf.l4 hf.m3 hf.m4 hf.tame)
  have HD := hide (fun (W : World) (hz : Below w.heap.size w W) => demandValid_any s.a6 x.dems s.n6 s.c6 W (SlOf.carry demR_carried h.h6 (hz.mono hB) (Nat.le_refl _)) (Nat.le_trans hB hz.size) hf.l6 (by have := hf.m6; omega) hf.k6 hf.dems)
  have HR := hide (fun (W : World) => anchorValid_any x.rule W)
  have H5 := hide h.h5
  have L5 := hide hf.l5
  have M5 := hide hf.m5
  have Hlen := hide (fun (hok : laidOk x.bars x.runs = true) => (laidOk_len hok).2)
  clear h hf
  obtain ⟨tm, htm⟩ : ∃ t, t = memOk x.mem := ⟨_, rfl⟩
  obtain ⟨tl, htl⟩ : ∃ t, t = laidOk x.bars x.runs := ⟨_, rfl⟩
  obtain ⟨td, htd⟩ : ∃ t, t = demsOk x.dems := ⟨_, rfl⟩
  obtain ⟨tr, htr⟩ : ∃ t, t = ruleOk x.rule := ⟨_, rfl⟩
  obtain ⟨LL, hLL⟩ : ∃ LL, LL = (laidAll x.bars x.runs).map mainOf := ⟨_, rfl⟩
  have Hd := hide (show detOk x = (tm && tl && td && tr && decide (x.laps.length ≤ 1000) && lapsFrom (LL.map MainD.opt) [] [] x.laps) by rw [detOk, detHead, htm, htl, htd, htr, hLL, mains_opt])
  rw [← htm] at HM
  rw [← htl] at HL HMM Hlen
  rw [← htd] at HD
  rw [← htr] at HR
  rw [← hLL] at HMM
  have HLL := hide (show LL.length = (laidAll x.bars x.runs).length by rw [hLL, List.length_map])
  have HL0 := hide hLL
  obtain ⟨mem, bars, runs, laps, dems, rule⟩ := x
  obtain ⟨a1, n1, c1, a2, n2, c2, a3, n3, c3, a4, n4, c4, a5, n5, c5, a6, n6, c6⟩ := s
  obtain ⟨name, boxes, holes, cover, agg, poker⟩ := mem
  obtain ⟨r1, r2, r3, r4, r5, r6, r7, r8, r9⟩ := rule
  simp only at HM HL HMM HD HR H5 L5 M5 Hlen HLL HL0
  have m5 : n5 ≤ 60000 := M5.out
  clear htm htl htd htr hLL M5
  have K0 := hide (Blk.new w 34 #[.string name, .slice a1 n1 c1, .slice a2 n2 c2, .int .i64 cover, .int .i64 agg, .int .i64 poker, .slice a3 n3 c3, .slice a4 n4 c4, .slice a5 n5 c5, .slice a6 n6 c6, .int .i64 r1, .int .i64 r2, .int .i64 r3, .int .i64 r4, .int .i64 r5, .int .i64 r6, .int .i64 r7, .int .i64 r8, .int .i64 r9])
  have HW := hide (below_new w (.cells #[.string name, .slice a1 n1 c1, .slice a2 n2 c2, .int .i64 cover, .int .i64 agg, .int .i64 poker, .slice a3 n3 c3, .slice a4 n4 c4, .slice a5 n5 c5, .slice a6 n6 c6, .int .i64 r1, .int .i64 r2, .int .i64 r3, .int .i64 r4, .int .i64 r5, .int .i64 r6, .int .i64 r7, .int .i64 r8, .int .i64 r9] 34))
  show Calls Tryz.prog 58 #[.agg #[.string name, .slice a1 n1 c1, .slice a2 n2 c2, .int .i64 cover, .int .i64 agg, .int .i64 poker, .slice a3 n3 c3, .slice a4 n4 c4, .slice a5 n5 c5, .slice a6 n6 c6, .int .i64 r1, .int .i64 r2, .int .i64 r3, .int .i64 r4, .int .i64 r5, .int .i64 r6, .int .i64 r7, .int .i64 r8, .int .i64 r9]] w _
  go_enter Tryz.func58, Tryz.ntmps58
  go_wp2_with fail
  refine (HM.out _ HW.out).mono ?_
  rintro e W2 ⟨rfl, hb2⟩
  have K0 := hide (K0.out.keep hb2)
  have HW := hide (below_step HW.out hb2 (Nat.le_refl _))
  clear hb2 HM
  cases tm
  · have hres := hide (show detOk ⟨⟨name, boxes, holes, cover, agg, poker⟩, bars, runs, laps, dems, ⟨r1, r2, r3, r4, r5, r6, r7, r8, r9⟩⟩ = false by rw [Hd.out]; simp)
    go_wp2_with fail
    go_ret2
    exact .inl ⟨hres.out, rfl, HW.out⟩
  have e6 := K0.out.cell 6
  have e7 := K0.out.cell 7
  simp at e6 e7
  have hk0 := K0.out.lt
  go_wp2_with fail
  refine (HL.out _ HW.out).mono ?_
  clear e6 e7
  rintro e W2 ⟨rfl, hb2⟩
  have K0 := hide (K0.out.keep hb2)
  have HW := hide (below_step HW.out hb2 (Nat.le_refl _))
  clear hb2 HL
  cases tl
  · have hres := hide (show detOk ⟨⟨name, boxes, holes, cover, agg, poker⟩, bars, runs, laps, dems, ⟨r1, r2, r3, r4, r5, r6, r7, r8, r9⟩⟩ = false by rw [Hd.out]; simp)
    go_wp2_with fail
    go_ret2
    exact .inl ⟨hres.out, rfl, HW.out⟩
  have e9 := K0.out.cell 9
  simp at e9
  have hk0 := K0.out.lt
  go_wp2_with fail
  refine (HD.out _ HW.out).mono ?_
  clear e9
  rintro e W2 ⟨rfl, hb2⟩
  have K0 := hide (K0.out.keep hb2)
  have HW := hide (below_step HW.out hb2 (Nat.le_refl _))
  clear hb2 HD
  cases td
  · have hres := hide (show detOk ⟨⟨name, boxes, holes, cover, agg, poker⟩, bars, runs, laps, dems, ⟨r1, r2, r3, r4, r5, r6, r7, r8, r9⟩⟩ = false by rw [Hd.out]; simp)
    go_wp2_with fail
    go_ret2
    exact .inl ⟨hres.out, rfl, HW.out⟩
  have e10 := K0.out.cell 10
  have e11 := K0.out.cell 11
  have e12 := K0.out.cell 12
  have e13 := K0.out.cell 13
  have e14 := K0.out.cell 14
  have e15 := K0.out.cell 15
  have e16 := K0.out.cell 16
  have e17 := K0.out.cell 17
  have e18 := K0.out.cell 18
  simp at e10 e11 e12 e13 e14 e15 e16 e17 e18
  have hk0 := K0.out.lt
  go_wp2_with fail
  refine (HR.out _).mono ?_
  clear e10 e11 e12 e13 e14 e15 e16 e17 e18
  rintro e W2 ⟨rfl, hb2⟩
  have K0 := hide (K0.out.keep hb2)
  have HW := hide (below_step HW.out hb2 (Nat.le_refl _))
  clear hb2 HR
  cases tr
  · have hres := hide (show detOk ⟨⟨name, boxes, holes, cover, agg, poker⟩, bars, runs, laps, dems, ⟨r1, r2, r3, r4, r5, r6, r7, r8, r9⟩⟩ = false by rw [Hd.out]; simp)
    go_wp2_with fail
    go_ret2
    exact .inl ⟨hres.out, rfl, HW.out⟩
  have e8 := K0.out.cell 8
  simp at e8
  have hk0 := K0.out.lt
  by_cases hbig : 1000 < n5
  · have d0 : decide (1000 < (n5 : Int)) = true := by simp; omega
    have Hd := hide (show detOk ⟨⟨name, boxes, holes, cover, agg, poker⟩, bars, runs, laps, dems, ⟨r1, r2, r3, r4, r5, r6, r7, r8, r9⟩⟩ = (true && false) by rw [Hd.out, decide_eq_false (by rw [← L5.out]; omega)]; rfl)
    have hres := hide (show detOk ⟨⟨name, boxes, holes, cover, agg, poker⟩, bars, runs, laps, dems, ⟨r1, r2, r3, r4, r5, r6, r7, r8, r9⟩⟩ = false by rw [Hd.out]; simp)
    go_wp2_with fail
    go_ret2
    exact .inl ⟨hres.out, rfl, HW.out⟩
  have d0 : decide (1000 < (n5 : Int)) = false := by simp; omega
  have Hd := hide (show detOk ⟨⟨name, boxes, holes, cover, agg, poker⟩, bars, runs, laps, dems, ⟨r1, r2, r3, r4, r5, r6, r7, r8, r9⟩⟩ = lapsFrom (LL.map MainD.opt) [] [] (laps.drop 0) by rw [Hd.out, decide_eq_true (by rw [← L5.out]; omega)]; rfl)
  have hln := Hlen.out trivial
  have hmm := @run_makeMap Tryz.prog
  have Hi := hide (show (Tryz.prog.info? 34).map (·.size) = some 19 by kernel_rfl)
  go_wp2_with (refine wpList_load_row rfl 34 (.tmp 1) rfl w.heap.size rfl 34 _ (0, 0) _ K0.out Tryz.underlying34 rfl Hi.out ?_)
  refine (HMM.out _ HW.out trivial).mono ?_
  rintro e wM ⟨AM, cM, rfl, hmains, hb2⟩
  have K0 := hide (K0.out.keep hb2)
  have HWM := hide (below_step HW.out hb2 (Nat.le_refl _))
  have HMs := hide hmains
  have e8 := K0.out.cell 8
  simp at e8
  have hk0 := K0.out.lt
  clear hb2 HMM hmains Hi
  have hll := HLL.out
  rw [← hll] at hln ⊢
  generalize hgl : LL.length = nl at *
  have Hnl := hide hgl.symm
  have hB1 := BSet.new wM
  have hB2 := (BSet.new wM).alloc (.map #[] 0)
  have hB3 := BSet.new (wM.alloc (.map #[] 0))
  rw [size_alloc'] at hB3
  have HB2 := hide hB2
  have HB3 := hide hB3
  have HbM := hide (below_new2 wM (.map #[] 0) (.map #[] 0))
  have HJ := hide (fun (W : World) (hz : Below wM.heap.size wM W) (j : JoinD) => joint_any AM LL nl cM j W (HMs.out.carry (Flat.carried _) hz (Nat.le_refl _)) hz.size Hnl.out (by omega))
  have Hrg := hide (fun (j : JoinD) (h : jointOk LL j = true) => jointOk_range h (by rw [← Hnl.out]; exact hln))
  clear hgl hB1 hB2 hB3 hll
  go_wp2_with fail
  go_loopw [46] (fun i wr => ∃ k : Nat, k ≤ n5 ∧ i = .int .i64 k ∧ (∃ f t : List Int, BSet wr wM.heap.size k f ∧ BSet wr (wM.heap.size + 1) k t ∧ Hid (detOk ⟨⟨name, boxes, holes, cover, agg, poker⟩, bars, runs, laps, dems, ⟨r1, r2, r3, r4, r5, r6, r7, r8, r9⟩⟩ = lapsFrom (LL.map MainD.opt) f t (laps.drop k))) ∧ Below wM.heap.size wM wr) (fun i _ => n5 - (intOf i).toNat)
  case atStart => exact ⟨0, Nat.zero_le _, rfl, ⟨[], [], HB2.out, HB3.out, Hd⟩, HbM.out⟩
  case round =>
    clear HB2 HB3 HbM Hd K0 hk0 e8
    obtain ⟨k, hk, rfl, ⟨f, t, hf, ht, hq⟩, hbr⟩ := hrel
    have HWr := hide (below_step HWM.out hbr (Nat.le_refl _))
    by_cases hlt : k < n5
    · obtain ⟨b, off, j, rfl, hbl, hx, c0, c1⟩ := JoinsAt.get (k := k) (H5.out.carry (Flat.carried _) (HWr.out.mono hB) (Nat.le_refl _)) (by rw [← L5.out]; exact hlt)
      have Hq := hide (hq.out.trans (lapsFrom_at hx f t))
      have hbw : b < wr.heap.size := by have := HWr.out.size; omega
      have HJj := hide (fun (W : World) (hz : Below wM.heap.size wM W) => HJ.out W hz j)
      have Hrj := hide (Hrg.out j)
      have Hjk := hide (show lapsFit (LL.map MainD.opt) j = jointOk LL j from rfl)
      obtain ⟨tj, htj⟩ : ∃ t, t = jointOk LL j := ⟨_, rfl⟩
      rw [← htj] at HJj Hrj Hjk
      rw [Hjk.out] at Hq
      obtain ⟨j1, j2⟩ := j
      simp only at c0 c1 HJj Hrj Hq
      have HF := hide (hf.alloc (.cells #[.int .i64 j1, .int .i64 j2] 136))
      have HT := hide (ht.alloc (.cells #[.int .i64 j1, .int .i64 j2] 136))
      have K1 := hide (Blk.new wr 136 #[.int .i64 j1, .int .i64 j2])
      have HR := hide (hbr.alloc hbr.size (.cells #[.int .i64 j1, .int .i64 j2] 136))
      have ltF := hf.lt
      have ltT := ht.lt
      clear hx hbl htj hq hf ht hbr Hjk
      go_wp2_with fail
      refine (HJj.out _ HR.out).mono ?_
      rintro e w2 ⟨rfl, hb2⟩
      have K1 := hide (K1.out.keep hb2)
      have HF := hide (HF.out.keep hb2)
      have HT := hide (HT.out.keep hb2)
      have HR := hide (below_step HR.out hb2 (Nat.le_refl _))
      have HWr := hide (below_step HWM.out HR.out (Nat.le_refl _))
      have d0 := K1.out.cell 0
      have d1 := K1.out.cell 1
      simp at d0 d1
      have hk1 := K1.out.lt
      clear hb2 HJj c0 c1
      cases tj
      · have hres := hide (show detOk ⟨⟨name, boxes, holes, cover, agg, poker⟩, bars, runs, laps, dems, ⟨r1, r2, r3, r4, r5, r6, r7, r8, r9⟩⟩ = false by rw [Hq.out]; rfl)
        go_wp2_with fail
        go_ret2
        exact .inl ⟨hres.out, rfl, HWr.out⟩
      obtain ⟨i1, i2⟩ := Hrj.out rfl
      have hl1 := HF.out.look i1
      cases hc1 : f.contains j1
      · rw [hc1] at hl1
        have hl2 := HT.out.look i2
        cases hc2 : t.contains j2
        · rw [hc2] at hl2
          have Hq2 := hide (show detOk ⟨⟨name, boxes, holes, cover, agg, poker⟩, bars, runs, laps, dems, ⟨r1, r2, r3, r4, r5, r6, r7, r8, r9⟩⟩ = lapsFrom (LL.map MainD.opt) (j1 :: f) (j2 :: t) (laps.drop (k + 1)) by rw [Hq.out, hc1, hc2]; rfl)
          have I1 := hide i1
          have I2 := hide i2
          clear hc1 hc2 Hq i1 i2
          go_wp2_with fail
          clear hl1 hl2
          have hk9 : k ≤ 1000000 := by omega
          obtain ⟨w6, run6, h6, hg6⟩ := HF.out.drew.store I1.out hk9
          have h7 := HT.out.drew.grown hg6 (by omega)
          obtain ⟨w8, run8, h8, hg8⟩ := h7.store I2.out hk9
          have H8 := hide h8
          have H9 := hide (h6.grown hg8 (by omega))
          have hb6 := below_grown (HR.out.drew) hg6 HR.out.size (Nat.le_refl _)
          have hb8 := hide (below_grown hb6 hg8 hb6.size (by omega))
          have d2 := ((K1.out.drew).grown hg6 (by simp; omega)).cell 1
          simp at d2
          have hk6 : wr.heap.size < w6.heap.size := Nat.lt_of_lt_of_le hk1 hg6.size
          clear h6 h7 h8 hg6 hg8 hb6
          go_region
          all_goals
            clear d0
            go_wp2_with fail
            go_roundw
            case rel => exact ⟨k + 1, by omega, by go_num, ⟨j1 :: f, j2 :: t, H9.out, H8.out, Hq2⟩, hb8.out⟩
            case measure => simp [intOf]; omega
        · rw [hc2] at hl2
          have hres := hide (show detOk ⟨⟨name, boxes, holes, cover, agg, poker⟩, bars, runs, laps, dems, ⟨r1, r2, r3, r4, r5, r6, r7, r8, r9⟩⟩ = false by rw [Hq.out, hc2]; simp)
          clear hc1 hc2
          go_wp2_with fail
          go_ret2
          exact .inl ⟨hres.out, rfl, HWr.out⟩
      · rw [hc1] at hl1
        have hres := hide (show detOk ⟨⟨name, boxes, holes, cover, agg, poker⟩, bars, runs, laps, dems, ⟨r1, r2, r3, r4, r5, r6, r7, r8, r9⟩⟩ = false by rw [Hq.out, hc1]; simp)
        clear hc1
        go_wp2_with fail
        go_ret2
        exact .inl ⟨hres.out, rfl, HWr.out⟩
    · obtain rfl : k = n5 := by omega
      have hres := hide (show detOk ⟨⟨name, boxes, holes, cover, agg, poker⟩, bars, runs, laps, dems, ⟨r1, r2, r3, r4, r5, r6, r7, r8, r9⟩⟩ = true by rw [hq.out, L5.out, List.drop_length]; rfl)
      have HMf := hide (show MainsAt wr wr.heap.size AM LL from HMs.out.carry (Flat.carried _) hbr hbr.size)
      clear hf ht hq
      go_wp2_with fail
      go_ret2
      exact .inr ⟨hres.out, AM, cM, by rw [← HLL.out]; rfl, by rw [← HL0.out]; exact HMf.out, HWr.out⟩
end Go.Proofs.YtpmipoljnchheaaGreatDoor
namespace Go.Proofs.YtpmipoljnchheaaGreatDoor
open Go.RowKit

set_option maxHeartbeats 1000000 in
set_option maxRecDepth 100000 in
theorem lapValid_any (x : DetD) (s : DetS) (w : World) {B : Nat} (h : DetAt w B x s) (hB : B ≤ w.heap.size) (hf : DetFit x s) :
    Calls Tryz.prog 35 #[detV x s] w fun e w' => e = .returned (.bool (detOk x)) ∧ Below w.heap.size w w' := by
  have HL := hide (fun (W : World) (hz : Below w.heap.size w W) => look_any x s W (h.carry (hz.mono hB) (Nat.le_refl _)) (Nat.le_trans hB hz.size) hf)
  have K0 := hide (Blk.new w 34 (detCells x.mem x.rule s))
  have HW := hide (below_new w (.cells (detCells x.mem x.rule s) 34))
  have Hi := hide (show (Tryz.prog.info? 34).map (·.size) = some 19 by kernel_rfl)
  obtain ⟨mem, bars, runs, laps, dems, rule⟩ := x
  obtain ⟨a1, n1, c1, a2, n2, c2, a3, n3, c3, a4, n4, c4, a5, n5, c5, a6, n6, c6⟩ := s
  obtain ⟨name, boxes, holes, cover, agg, poker⟩ := mem
  obtain ⟨r1, r2, r3, r4, r5, r6, r7, r8, r9⟩ := rule
  simp only [detCells] at K0 HW
  clear h hf
  show Calls Tryz.prog 35 #[.agg #[.string name, .slice a1 n1 c1, .slice a2 n2 c2, .int .i64 cover, .int .i64 agg, .int .i64 poker, .slice a3 n3 c3, .slice a4 n4 c4, .slice a5 n5 c5, .slice a6 n6 c6, .int .i64 r1, .int .i64 r2, .int .i64 r3, .int .i64 r4, .int .i64 r5, .int .i64 r6, .int .i64 r7, .int .i64 r8, .int .i64 r9]] w _
  go_enter Tryz.func35, Tryz.ntmps35
  go_wp2_with (refine wpList_load_row rfl 34 (.tmp 1) rfl w.heap.size rfl 34 _ (0, 0) _ K0.out Tryz.underlying34 rfl Hi.out ?_)
  refine (HL.out _ HW.out).mono ?_
  rintro e w2 (⟨hd, rfl, hb2⟩ | ⟨hd, A, c, rfl, _, hb2⟩)
  all_goals
    have Hd := hide hd
    have Hb := hide (below_step HW.out hb2 (Nat.le_refl _))
    clear hd hb2 HL K0 HW Hi
    go_wp2_with fail
    go_ret
    exact ⟨ret_bool Hd.out.symm, Hb.out⟩
theorem boxOk_iff {b : BoxD} : boxOk b = true ↔ (b.lo.1 ≤ b.hi.1 ∧ -1048576 ≤ b.lo.1 ∧ b.hi.1 ≤ 1048576) ∧ (b.lo.2.1 ≤ b.hi.2.1 ∧ -1048576 ≤ b.lo.2.1 ∧ b.hi.2.1 ≤ 1048576) ∧ (b.lo.2.2 ≤ b.hi.2.2 ∧ -1048576 ≤ b.lo.2.2 ∧ b.hi.2.2 ≤ 1048576) := by
  simp [boxOk, axes, axisFine, axisOk, and_assoc]
theorem hullOn_ok : ∀ (l : List BoxD) (a : BoxD), boxOk a = true → l.all boxOk = true → boxOk (hullOn a l) = true := by
  intro l
  induction l with
  | nil => intro a h _; exact h
  | cons b l ih =>
    intro a ha hl
    rw [List.all_cons, Bool.and_eq_true] at hl
    refine ih _ ?_ hl.2
    have h1 := boxOk_iff.1 ha
    have h2 := boxOk_iff.1 hl.1
    rw [boxOk_iff]
    simp only [minP, maxP]
    omega
theorem hullOf_ok {l : List BoxD} (hn : 1 ≤ l.length) (h : l.all boxOk = true) : boxOk (hullOf l) = true := by
  cases l with
  | nil => simp at hn
  | cons b l =>
    have h9 := h
    rw [List.all_cons, Bool.and_eq_true] at h9
    exact hullOn_ok (b :: l) b h9.1 h
theorem detOk_parts {x : DetD} (h : detOk x = true) : memOk x.mem = true ∧ laidOk x.bars x.runs = true ∧ solidOk x.mem.boxes x.mem.holes = true := by
  simp only [detOk, detHead, Bool.and_eq_true] at h
  have hm := h.1.1.1.1.1
  refine ⟨hm, h.1.1.1.1.2, ?_⟩
  simp only [memOk, Bool.and_eq_true] at hm
  exact hm.1.1.1.2
theorem detOk_hull {x : DetD} (h : detOk x = true) : boxOk (hullOf x.mem.boxes) = true := by
  obtain ⟨b1, _, b3⟩ := solid_boxes (detOk_parts h).2.2
  exact hullOf_ok b1 b3
end Go.Proofs.YtpmipoljnchheaaGreatDoor
namespace Go.Proofs.YtpmipoljnchheaaGreatDoor
open Go.RowKit

theorem hull_pair (p q : Pt) : hullOf [ptBox p, ptBox q] = legBox p q := by
  obtain ⟨p1, p2, p3⟩ := p
  obtain ⟨q1, q2, q3⟩ := q
  simp [hullOf, hullOn, ptBox, legBox, minP, maxP]
theorem ptBox_ok {p : Pt} (h : nearBy 1048576 p = true) : boxOk (ptBox p) = true := by
  obtain ⟨a, b, c⟩ := nearBy_iff.1 h
  rw [boxOk_iff]
  simp only [ptBox]
  omega
theorem leg_ok {p q : Pt} (hp : nearBy 1048576 p = true) (hq : nearBy 1048576 q = true) : boxOk (legBox p q) = true := by
  obtain ⟨a, b, c⟩ := nearBy_iff.1 hp
  obtain ⟨d, e, f⟩ := nearBy_iff.1 hq
  rw [boxOk_iff]
  simp only [legBox, minP, maxP]
  omega
/-- Two points next to each other, out of a slice of points. -/
theorem pts_pair {w : World} {B b off : Nat} {l : List Pt} {k : Nat} {p q : Pt} (h : PtsAt w B (some ⟨b, off, none⟩) l) (hp : l[k]? = some p) (hq : l[k + 1]? = some q) : PtsAt w B (some ⟨b, off + k * 3, none⟩) [p, q] := by
  obtain ⟨b', off', hA, hb, hc⟩ := h (by have := lt_of_get hp; omega)
  injection hA with hA
  injection hA with h1 h2
  subst h1
  subst h2
  intro _
  refine ⟨b, off + k * 3, rfl, hb, fun j x hx => ?_⟩
  have hj : l[k + j]? = some x := by
    match j, hx with
    | 0, hx => simp at hx; subst hx; exact hp
    | 1, hx => simp at hx; subst hx; exact hq
    | j + 2, hx => simp at hx
  obtain ⟨vs, hs, hr, hv⟩ := hc (k + j) x hj
  exact ⟨vs, hs, hr, fun i v hi => by
    have := hv i v hi
    rwa [show off + (k + j) * 3 + i = off + k * 3 + j * 3 + i by omega] at this⟩
theorem laid_near {bars : List BarD} : ∀ (runs : List RunD) (i : Nat) (l : LaidD), (∀ r ∈ runs, runOk bars r = true) → (laidAll bars runs)[i]? = some l → (∀ p ∈ l.pts, nearBy 1048576 p = true) ∧ 1 ≤ l.pts.length ∧ l.pts.length ≤ 7 := by
  intro runs
  induction runs with
  | nil => intro i l _ h; simp [laidAll] at h
  | cons r runs ih =>
    intro i l hok h
    obtain ⟨j, x, hj, hx', hx, _⟩ := runOk_bar (hok r (by simp))
    have e : laidAll bars (r :: runs) = laidTo x r r.count.toNat ++ laidAll bars runs := by rw [← laidRun_of hx]; simp [laidAll]
    rw [e] at h
    by_cases hi : i < r.count.toNat
    · rw [List.getElem?_append_left (by rw [laidTo_len]; exact hi)] at h
      simp [laidTo, hi] at h
      subst h
      refine ⟨runOk_near (hok r (by simp)) hx (by omega) (by omega), ?_⟩
      simp only [ptsOf, List.length_map, pathOf_len]
      have := legsOf_len x.code
      omega
    · rw [List.getElem?_append_right (by rw [laidTo_len]; omega)] at h
      exact ih _ l (fun z hz => hok z (List.mem_cons_of_mem _ hz)) h
set_option maxHeartbeats 4000000 in
set_option maxRecDepth 100000 in
theorem laidLegs_row (A3 A4 : Option Addr) (bars : List BarD) (runs : List RunD) (n3 c3 n4 c4 i : Nat) (ld : LaidD) (w : World) {B : Nat} (h3 : BarsAt w B A3 bars) (h4 : RunsAt w B A4 runs) (hB : B ≤ w.heap.size) (l3 : n3 = bars.length) (l4 : n4 = runs.length) (m3 : n3 ≤ 60000) (m4 : n4 ≤ 60000) (htame : Tame bars) (hok : laidOk bars runs = true) (hi : (laidAll bars runs)[i]? = some ld) :
    Calls Tryz.prog 46 #[.slice A3 n3 c3, .slice A4 n4 c4, .int .i64 i] w fun e w' => ∃ A c, e = .returned (.tuple #[.slice A (legsOfPts ld.pts).length c, .int .i64 0]) ∧ Row w' w.heap.size 93 6 encB (.slice A (legsOfPts ld.pts).length c) (legsOfPts ld.pts) ∧ Below w.heap.size w w' := by
  have HP := hide (laidPath_ok A3 A4 bars runs n3 c3 n4 c4 i ld w h3 h4 hB l3 l4 m3 m4 htame hok hi)
  obtain ⟨hnear, hl1, hl7⟩ := laid_near runs i ld (laidOk_mem hok).2.2 hi
  have Hnear := hide hnear
  obtain ⟨pts, hpts⟩ : ∃ pts, pts = ld.pts := ⟨_, rfl⟩
  rw [← hpts] at HP hl1 hl7 Hnear ⊢
  obtain ⟨n, hn⟩ : ∃ n, n = pts.length := ⟨_, rfl⟩
  rw [← hn] at HP hl1 hl7
  have Hn := hide hn
  clear h3 h4 hB l3 l4 m3 m4 htame hok hi hnear hpts hn
  go_enter Tryz.func46, Tryz.ntmps46
  go_wp2_with fail
  refine HP.out.mono ?_
  rintro e w1 ⟨A, rfl, hp, hb1⟩
  have Hp := hide hp
  have Hb1 := hide hb1
  clear HP hp hb1
  go_wp2_with fail
  go_loopw [10, 11] (fun v iv wr => ∃ k : Nat, k + 1 ≤ n ∧ iv = .int .i64 ((k : Int) + 1) ∧ (∃ acc : List BoxD, Row wr w1.heap.size 93 6 encB v acc ∧ Hid (acc = (legsOfPts pts).take k)) ∧ Below w1.heap.size w1 wr) (fun _ iv _ => n - (intOf iv).toNat)
  case atStart => exact ⟨0, hl1, rfl, ⟨[], Row.nil _ _ _ _ _, hide rfl⟩, Below.refl _ _⟩
  case round =>
    obtain ⟨k, hk, rfl, ⟨acc, hrow, hacc⟩, hbr⟩ := hrel
    obtain ⟨A0, c0, rfl⟩ := hrow.val
    have hal : acc.length ≤ 1000 := by rw [hacc.out, List.length_take]; omega
    have Hrow := hide hrow
    clear hrow
    by_cases hlt : k + 1 < n
    · obtain ⟨b, off, p, hA, hbl, hx, e3, e4, e5⟩ := PtsAt.get (k := k) (Hp.out.carry (Flat.carried _) hbr hbr.size) (by rw [← Hn.out]; omega)
      obtain ⟨b', off', q, hA', hbl', hy, e0, e1, e2⟩ := PtsAt.get (k := k + 1) (Hp.out.carry (Flat.carried _) hbr hbr.size) (by rw [← Hn.out]; exact hlt)
      clear hA' hbl' e0 e1 e2 e3 e4 e5
      subst hA
      have hsub : k + 1 + 1 - k = 2 := by omega
      have HPo := hide (fun (W : World) (hz : Below w1.heap.size w1 W) => points_any (some ⟨b, off + k * 3, none⟩) [p, q] 2 (n - k) W (pts_pair (Hp.out.carry (Flat.carried _) hz (Nat.le_refl _)) hx hy) hz.size rfl (by omega))
      have HHu := hide (fun (W : World) (A' : Option Addr) (c' : Nat) (h : BoxesAt W W.heap.size A' ([p, q].map ptBox)) => boxHull_ok A' ([p, q].map ptBox) 2 c' W h (Nat.le_refl _) rfl (by omega) (by omega) (by simp [ptBox_ok (Hnear.out p (mem_of_get hx)), ptBox_ok (Hnear.out q (mem_of_get hy))]))
      have Hhp := hide (show hullOf ([p, q].map ptBox) = legBox p q from hull_pair p q)
      have Hn2 := hide (show (legsOfPts pts).take (k + 1) = acc ++ [legBox p q] by rw [take_snoc' (legsOfPts_at pts k p q hx hy), hacc.out])
      have z1 : IntKind.i64.wrap ((k : Int) + 1 - 1) = (k : Int) := by rw [Int.add_sub_cancel]; exact IntWalk.i64_in _ (by omega)
      have z2 : IntKind.i64.wrap (k : Int) = (k : Int) := IntWalk.i64_in _ (by omega)
      have z3 : IntKind.i64.wrap ((k : Int) + 1 + 1) = (k : Int) + 1 + 1 := IntWalk.i64_in _ (by omega)
      have HB := hide hbr
      clear hx hy hbl hbr
      go_wp2_with fail
      refine (HPo.out _ HB.out).mono ?_
      rintro e w2 ⟨A6, c6, rfl, hbx, hb2⟩
      have HHu2 := hide (HHu.out w2 A6 c6 hbx)
      have HB2 := hide (below_step HB.out hb2 (Nat.le_refl _))
      have Hrow2 := hide (Hrow.out.keep hb2)
      clear hbx hb2 HPo HHu
      go_wp2_with fail
      refine HHu2.out.mono ?_
      rintro e w3 ⟨rfl, hb3⟩
      rw [Hhp.out]
      have HB3 := hide (below_step HB2.out hb3 (Nat.le_refl _))
      have Hrow3 := hide (Hrow2.out.keep hb3)
      generalize legBox p q = lb at *
      obtain ⟨⟨x1, x2, x3⟩, x4, x5, x6⟩ := lb
      have hs3 := HB3.out.size
      clear hb3 HHu2 Hhp
      go_wp2_with (at_builtin; refine wpList_append1 rfl (.tmp 44) (.tmp 46) 22 rfl w1.heap.size 93 (.agg #[.int .i64 0, .int .i64 0, .int .i64 0, .int .i64 0, .int .i64 0, .int .i64 0]) 6 48 encB Tryz.underlying22 (by kernel_rfl) rfl (by omega) encB_len encB_one _ acc ⟨(x1, x2, x3), (x4, x5, x6)⟩ rfl ((Hrow3.out.alloc _).alloc _) _ rfl (Blk.new1 w3 _ _ _) (by omega) (by omega) (le_alloc (le_alloc hs3 _) _) ?_; intro A1 c1 w6 hrow6 hb6 _)
      go_roundw
      case rel => exact ⟨k + 1, by omega, by go_num, ⟨acc ++ [⟨(x1, x2, x3), (x4, x5, x6)⟩], by simpa using hrow6, hide Hn2.out.symm⟩, ((HB3.out.alloc hs3 _).alloc (le_alloc hs3 _) _).trans hb6⟩
      case measure => simp [intOf]; omega
    · have hk9 : k + 1 = n := by omega
      have hf : acc = legsOfPts pts := by
        rw [hacc.out]
        exact List.take_of_length_le (by rw [legsOfPts_len, ← Hn.out]; omega)
      have hlen := hide (show (legsOfPts pts).length = acc.length by rw [hf])
      have Hr := hide (show Row wr w.heap.size 93 6 encB (.slice A0 (legsOfPts pts).length c0) (legsOfPts pts) by rw [← hf]; exact rowBase Hb1.out.size Hrow.out)
      have Hb := hide (below_step Hb1.out hbr (Nat.le_refl _))
      clear hf hacc Hrow hbr
      generalize acc.length = m at *
      go_wp2_with fail
      go_ret2
      exact ⟨A0, c0, by rw [hlen.out]; rfl, Hr.out, Hb.out⟩
theorem laidLegs_ok (A3 A4 : Option Addr) (bars : List BarD) (runs : List RunD) (n3 c3 n4 c4 i : Nat) (ld : LaidD) (w : World) {B : Nat} (h3 : BarsAt w B A3 bars) (h4 : RunsAt w B A4 runs) (hB : B ≤ w.heap.size) (l3 : n3 = bars.length) (l4 : n4 = runs.length) (m3 : n3 ≤ 60000) (m4 : n4 ≤ 60000) (htame : Tame bars) (hok : laidOk bars runs = true) (hi : (laidAll bars runs)[i]? = some ld) :
    Calls Tryz.prog 46 #[.slice A3 n3 c3, .slice A4 n4 c4, .int .i64 i] w fun e w' => ∃ A c, e = .returned (.tuple #[.slice A (legsOfPts ld.pts).length c, .int .i64 0]) ∧ BoxesAt w' w'.heap.size A (legsOfPts ld.pts) ∧ Below w.heap.size w w' :=
  (laidLegs_row A3 A4 bars runs n3 c3 n4 c4 i ld w h3 h4 hB l3 l4 m3 m4 htame hok hi).mono fun _ _ ⟨A, c, he, hr, hb⟩ => ⟨A, c, he, Row.read hr encB_len (by omega), hb⟩
end Go.Proofs.YtpmipoljnchheaaGreatDoor
namespace Go.Proofs.YtpmipoljnchheaaGreatDoor
open Go.RowKit

set_option maxHeartbeats 2000000 in
theorem refHull17_ok (bs _hs : List BoxD) (A1 A2 : Option Addr) (n1 n2 c1 c2 : Nat) (w : World) {B : Nat} (h1 : BoxesAt w B A1 bs) (hB : B ≤ w.heap.size) (hn1 : n1 = bs.length) (hne : 1 ≤ bs.length) (hm : bs.length ≤ 60000) :
    Calls Tryz.prog 40 #[.agg #[.slice A1 n1 c1, .slice A2 n2 c2]] w fun e w' => e = .returned (bxV (hullOf bs)) ∧ Below w.heap.size w w' := by
  have HH := hide (fun (W : World) (hz : Below w.heap.size w W) => refHull09_ok A1 bs n1 c1 W (h1.carry (Flat.carried _) (hz.mono hB) (Nat.le_refl _)) (Nat.le_trans hB hz.size) hn1 (by omega) (by omega))
  have HW := hide (below_new2 w (.cells #[.slice A1 n1 c1, .slice A2 n2 c2] 24) (.cells #[.int .i64 0, .int .i64 0, .int .i64 0, .int .i64 0, .int .i64 0, .int .i64 0] 93))
  have KR := hide (Blk.new1 w (.cells #[.slice A1 n1 c1, .slice A2 n2 c2] 24) 93 #[.int .i64 0, .int .i64 0, .int .i64 0, .int .i64 0, .int .i64 0, .int .i64 0])
  generalize hullOf bs = H at *
  obtain ⟨⟨x1, x2, x3⟩, x4, x5, x6⟩ := H
  simp only [bxV] at HH ⊢
  clear h1 hB hn1 hne hm
  go_enter Tryz.func40, Tryz.ntmps40
  go_wp2_with fail
  refine (HH.out _ HW.out).mono ?_
  rintro e w2 ⟨rfl, hb⟩
  have kr := KR.out.keep hb
  have e0 := kr.cell 0
  have e1 := kr.cell 1
  have e2 := kr.cell 2
  have e3 := kr.cell 3
  have e4 := kr.cell 4
  have e5 := kr.cell 5
  have g0 := kr.frozen 0
  have g1 := kr.frozen 1
  have g2 := kr.frozen 2
  have g3 := kr.frozen 3
  have g4 := kr.frozen 4
  have g5 := kr.frozen 5
  simp at e0 e1 e2 e3 e4 e5
  have lk := kr.lt
  have Kr := hide kr
  have HF := hide (below_step HW.out hb (Nat.le_refl _))
  clear kr KR HW hb HH
  go_wp2_with fail
  refine bodyPost_ret (results_c rfl rfl ((((((Kr.out.set_ 0 _).set_ 1 _).set_ 2 _).set_ 3 _).set_ 4 _).set_ 5 _) Tryz.underlying93 rfl (by kernel_rfl)) rfl ?_
  refine ⟨?_, (((((HF.out.setCell (p := ⟨w.heap.size + 1, 0, none⟩) (Nat.le_succ _) _).setCell (p := ⟨w.heap.size + 1, 1, none⟩) (Nat.le_succ _) _).setCell (p := ⟨w.heap.size + 1, 2, none⟩) (Nat.le_succ _) _).setCell (p := ⟨w.heap.size + 1, 3, none⟩) (Nat.le_succ _) _).setCell (p := ⟨w.heap.size + 1, 4, none⟩) (Nat.le_succ _) _).setCell (p := ⟨w.heap.size + 1, 5, none⟩) (Nat.le_succ _) _⟩
  simp only [List.setIfInBounds_toArray, List.set_cons_zero, List.set_cons_succ]
end Go.Proofs.YtpmipoljnchheaaGreatDoor
namespace Go.Proofs.YtpmipoljnchheaaGreatDoor
open Go.RowKit

theorem step_far8 {s : Pt} {k : Int} (h : nearBy 2097152 s = true) (h0 : 0 ≤ k) (h1 : k ≤ 999) : nearBy 4294967296 (mulP k s) = true := by
  obtain ⟨a, b, c⟩ := nearBy_iff.1 h
  have key : ∀ v : Int, -2097152 ≤ v ∧ v ≤ 2097152 → -4294967296 ≤ k * v ∧ k * v ≤ 4294967296 := by
    intro v hv
    obtain ⟨f, g⟩ := mul_between (s := v) h0 h1
    rcases Int.le_total 0 v with hs | hs
    · have := f hs; omega
    · have := g hs; omega
  rw [nearBy_iff, mulP]
  exact ⟨key _ a, key _ b, key _ c⟩
set_option maxHeartbeats 4000000 in
set_option maxRecDepth 100000 in
theorem refPts_ok (A3 A4 : Option Addr) (bars : List BarD) (runs : List RunD) (n3 c3 n4 c4 i : Nat) (ld : LaidD) (w : World) {B : Nat} (h3 : BarsAt w B A3 bars) (h4 : RunsAt w B A4 runs) (hB : B ≤ w.heap.size) (l3 : n3 = bars.length) (l4 : n4 = runs.length) (m3 : n3 ≤ 60000) (hok : laidOk bars runs = true) (hi : (laidAll bars runs)[i]? = some ld) :
    Calls Tryz.prog 181 #[.slice A3 n3 c3, .slice A4 n4 c4, .int .i64 i] w fun e w' => ∃ A c, e = .returned (.slice A ld.pts.length c) ∧ PtsAt w' w'.heap.size A ld.pts ∧ ld.pts.length ≤ c ∧ Below w.heap.size w w' := by
  obtain ⟨hbars, hlen, hruns⟩ := laidOk_mem hok
  have hi9 : i ≤ 100000 := by have := (laidOk_len hok).2; have := lt_of_get hi; omega
  have HP := hide (fun (W : World) (hz : Below w.heap.size w W) => refPlaceL_ok bars A4 runs n4 c4 i ld W (h4.carry (Flat.carried _) (hz.mono hB) (Nat.le_refl _)) l4 (by omega) hruns hi hi9)
  have HBa := hide (fun (W : World) (hz : Below w.heap.size w W) => refBar_ok A3 A4 bars runs n3 c3 n4 c4 i ld W (h3.carry (hz.mono hB) (Nat.le_refl _)) (h4.carry (Flat.carried _) (hz.mono hB) (Nat.le_refl _)) (Nat.le_trans hB hz.size) l3 l4 m3 hok hi)
  have Hbk := hide (fun (k : Nat) (r : RunD) (hk : runs[k]? = some r) (hx : runBar bars r = some ld.bar) => find_bar (hruns r (mem_of_get hk)) hx)
  obtain ⟨bar, pts⟩ := ld
  simp only at HP HBa Hbk ⊢
  have Hro := hide (fun (k : Nat) (r : RunD) (hk : runs[k]? = some r) => hruns r (mem_of_get hk))
  have Hbo := hide hbars
  have H4 := hide h4
  have L4 := hide l4
  have HB := hide hB
  clear h3 h4 l3 l4 hok hi hruns hlen hbars hB
  go_enter Tryz.func181, Tryz.ntmps181
  go_wp2_with fail
  refine (HP.out _ (Below.refl _ _)).mono ?_
  rintro e w1 ⟨k, j, r, rfl, hk, hx, hj, hrb, hpts, rfl⟩
  obtain ⟨q, hq, hy⟩ := Hbk.out k r hx hrb
  have hro := Hro.out k r hx
  have hbo := Hbo.out _ (mem_of_get hy)
  obtain ⟨jj, x', _, _, _, htu⟩ := runOk_bar hro
  have hfar : nearBy 4294967296 (mulP (j : Int) r.step) = true := by
    have h9 := runOk_count hro
    simp only [runOk, runHead, Bool.and_eq_true, Bool.or_eq_true, decide_eq_true_eq] at hro
    rcases hro.1.1.2 with h8 | h8
    · obtain rfl : j = 0 := by omega
      simp [mulP, nearBy_iff]
    · exact step_far8 h8.2 (by omega) (by omega)
  have HPt := hide (fun (A' : Option Addr) (c' : Nat) (W : World) (hdi : Ints W B A' bar.dims) (hz : Below w.heap.size w W) => refPoints_ok bar A' c' r j W hdi (Nat.le_trans HB.out hz.size) hbo htu (runOk_place hro) (by omega) hfar)
  rw [← hpts] at HPt
  obtain ⟨b, off, r', rfl, hbl, hx', hc⟩ := RunsAt.get (k := k) H4.out (by rw [← L4.out]; exact hk)
  rw [hx] at hx'
  injection hx' with hx'
  subst hx'
  have hbw : b < w.heap.size := Nat.lt_of_lt_of_le hbl HB.out
  obtain ⟨mark, tx, ty, ⟨a1, a2, a3⟩, ⟨s1, s2, s3⟩, cnt⟩ := r
  obtain ⟨mk, sz, ct, cd, dims⟩ := bar
  have e0 := hc 0 _ rfl
  have e1 := hc 1 _ rfl
  have e2 := hc 2 _ rfl
  have e3 := hc 3 _ rfl
  have e4 := hc 4 _ rfl
  have e5 := hc 5 _ rfl
  have e6 := hc 6 _ rfl
  have e7 := hc 7 _ rfl
  have e8 := hc 8 _ rfl
  have e9 := hc 9 _ rfl
  simp only [Nat.add_zero] at e0 e1 e2 e3 e4 e5 e6 e7 e8 e9
  simp only [barV] at HBa HPt
  have HC := hide (fun (W : World) (h : Below w.heap.size w W) => show W.cell? ⟨b, off + k * 10, none⟩ = some (.string mark) ∧ W.cell? ⟨b, off + k * 10 + 1, none⟩ = some (.int .i64 tx) ∧ W.cell? ⟨b, off + k * 10 + 2, none⟩ = some (.int .i64 ty) ∧ W.cell? ⟨b, off + k * 10 + 3, none⟩ = some (.int .i64 a1) ∧ W.cell? ⟨b, off + k * 10 + 4, none⟩ = some (.int .i64 a2) ∧ W.cell? ⟨b, off + k * 10 + 5, none⟩ = some (.int .i64 a3) ∧ W.cell? ⟨b, off + k * 10 + 6, none⟩ = some (.int .i64 s1) ∧ W.cell? ⟨b, off + k * 10 + 7, none⟩ = some (.int .i64 s2) ∧ W.cell? ⟨b, off + k * 10 + 8, none⟩ = some (.int .i64 s3) ∧ W.cell? ⟨b, off + k * 10 + 9, none⟩ = some (.int .i64 cnt) from
    ⟨(h.cell (p := ⟨b, off + k * 10, none⟩) hbw).trans e0, (h.cell (p := ⟨b, off + k * 10 + 1, none⟩) hbw).trans e1, (h.cell (p := ⟨b, off + k * 10 + 2, none⟩) hbw).trans e2, (h.cell (p := ⟨b, off + k * 10 + 3, none⟩) hbw).trans e3, (h.cell (p := ⟨b, off + k * 10 + 4, none⟩) hbw).trans e4, (h.cell (p := ⟨b, off + k * 10 + 5, none⟩) hbw).trans e5, (h.cell (p := ⟨b, off + k * 10 + 6, none⟩) hbw).trans e6, (h.cell (p := ⟨b, off + k * 10 + 7, none⟩) hbw).trans e7, (h.cell (p := ⟨b, off + k * 10 + 8, none⟩) hbw).trans e8, (h.cell (p := ⟨b, off + k * 10 + 9, none⟩) hbw).trans e9⟩)
  clear hx hbl hc hq hy hro hbo htu hfar hrb hpts hj HP Hbk Hro Hbo H4 L4
  have hS0 := HC.out _ (Below.drew (Below.refl w.heap.size w))
  have hBx := Below.drew (Below.refl w.heap.size w)
  go_wp2_with fail
  first
    | (go_region_held3 (fun W => W.cell? ⟨b, off + k * 10, none⟩ = some (.string mark) ∧ W.cell? ⟨b, off + k * 10 + 1, none⟩ = some (.int .i64 tx) ∧ W.cell? ⟨b, off + k * 10 + 2, none⟩ = some (.int .i64 ty) ∧ W.cell? ⟨b, off + k * 10 + 3, none⟩ = some (.int .i64 a1) ∧ W.cell? ⟨b, off + k * 10 + 4, none⟩ = some (.int .i64 a2) ∧ W.cell? ⟨b, off + k * 10 + 5, none⟩ = some (.int .i64 a3) ∧ W.cell? ⟨b, off + k * 10 + 6, none⟩ = some (.int .i64 s1) ∧ W.cell? ⟨b, off + k * 10 + 7, none⟩ = some (.int .i64 s2) ∧ W.cell? ⟨b, off + k * 10 + 8, none⟩ = some (.int .i64 s3) ∧ W.cell? ⟨b, off + k * 10 + 9, none⟩ = some (.int .i64 cnt))
        (first | (with_reducible assumption) | go_keep)
        (first
          | (go_at_call 201
             (with_reducible refine (HBa.out _ hBx).mono ?_); rintro e wz ⟨A5, c5, rfl, hdi, hbz⟩
             have hBx := below_step hBx hbz (Nat.le_refl _)
             have hS' := HC.out _ hBx)
          | (go_at_call 138
             (with_reducible refine (HPt.out _ _ _ hdi hBx).mono ?_); rintro e wz ⟨A6, c6, rfl, hp6, hc6, hbz⟩
             have hBx := below_step hBx hbz (Nat.le_refl _)
             have hS' := HC.out _ hBx)))
    | fail
  all_goals
    have Hp6 := hide hp6
    go_wp2_with fail
    go_ret
    exact ⟨A6, c6, rfl, Hp6.out, hc6, hBx⟩
set_option maxHeartbeats 4000000 in
set_option maxRecDepth 100000 in
theorem refLegs_row (A3 A4 : Option Addr) (bars : List BarD) (runs : List RunD) (n3 c3 n4 c4 i : Nat) (ld : LaidD) (w : World) {B : Nat} (h3 : BarsAt w B A3 bars) (h4 : RunsAt w B A4 runs) (hB : B ≤ w.heap.size) (l3 : n3 = bars.length) (l4 : n4 = runs.length) (m3 : n3 ≤ 60000) (hok : laidOk bars runs = true) (hi : (laidAll bars runs)[i]? = some ld) :
    Calls Tryz.prog 142 #[.slice A3 n3 c3, .slice A4 n4 c4, .int .i64 i] w fun e w' => ∃ A c b0, e = .returned (.slice A (legsOfPts ld.pts).length c) ∧ Row w' b0 93 6 encB (.slice A (legsOfPts ld.pts).length c) (legsOfPts ld.pts) ∧ Below w.heap.size w w' := by
  have HP := hide (refPts_ok A3 A4 bars runs n3 c3 n4 c4 i ld w h3 h4 hB l3 l4 m3 hok hi)
  obtain ⟨hnear, hl1, hl7⟩ := laid_near runs i ld (laidOk_mem hok).2.2 hi
  obtain ⟨bar, pts⟩ := ld
  simp only at HP hl1 hl7 ⊢
  obtain ⟨n, hn⟩ : ∃ n, n = pts.length := ⟨_, rfl⟩
  rw [← hn] at HP hl1 hl7
  have Hn := hide hn
  clear h3 h4 hB l3 l4 m3 hok hi hnear hn
  go_enter Tryz.func142, Tryz.ntmps142
  go_wp2_with fail
  refine HP.out.mono ?_
  rintro e w1 ⟨A, c, rfl, hp, hcp, hb1⟩
  have Hp := hide hp
  have Hb1 := hide hb1
  clear HP hp hb1
  go_wp2_with fail
  go_loopw [8, 9] (fun v iv wr => ∃ k : Nat, k + 1 ≤ n ∧ iv = .int .i64 ((k : Int) + 1) ∧ (∃ acc : List BoxD, Row wr w1.heap.size 93 6 encB v acc ∧ Hid (acc = (legsOfPts pts).take k)) ∧ Below w1.heap.size w1 wr) (fun _ iv _ => n - (intOf iv).toNat)
  case atStart => exact ⟨0, hl1, rfl, ⟨[], Row.nil _ _ _ _ _, hide rfl⟩, Below.refl _ _⟩
  case round =>
    obtain ⟨k, hk, rfl, ⟨acc, hrow, hacc⟩, hbr⟩ := hrel
    obtain ⟨A0, c0, rfl⟩ := hrow.val
    have hal : acc.length ≤ 1000 := by rw [hacc.out, List.length_take]; omega
    have Hrow := hide hrow
    clear hrow
    by_cases hlt : k + 1 < n
    · obtain ⟨b, off, p, hA, hbl, hx, e3, e4, e5⟩ := PtsAt.get (k := k) (Hp.out.carry (Flat.carried _) hbr hbr.size) (by rw [← Hn.out]; omega)
      obtain ⟨b', off', q, hA', hbl', hy, e0, e1, e2⟩ := PtsAt.get (k := k + 1) (Hp.out.carry (Flat.carried _) hbr hbr.size) (by rw [← Hn.out]; exact hlt)
      clear hA' hbl' e0 e1 e2 e3 e4 e5
      subst hA
      have hsub : k + 1 + 1 - k = 2 := by omega
      have HHu := hide (fun (W : World) (hz : Below w1.heap.size w1 W) => refHull2_any (some ⟨b, off + k * 3, none⟩) p q (c - k) W (pts_pair (Hp.out.carry (Flat.carried _) hz (Nat.le_refl _)) hx hy) hz.size)
      have Hn2 := hide (show (legsOfPts pts).take (k + 1) = acc ++ [legBox p q] by rw [take_snoc' (legsOfPts_at pts k p q hx hy), hacc.out])
      have z1 : IntKind.i64.wrap ((k : Int) + 1 - 1) = (k : Int) := by rw [Int.add_sub_cancel]; exact IntWalk.i64_in _ (by omega)
      have z2 : IntKind.i64.wrap (k : Int) = (k : Int) := IntWalk.i64_in _ (by omega)
      have z3 : IntKind.i64.wrap ((k : Int) + 1 + 1) = (k : Int) + 1 + 1 := IntWalk.i64_in _ (by omega)
      have HB := hide hbr
      have hkc : k + 1 + 1 ≤ c := by omega
      clear hx hy hbl hbr
      go_wp2_with fail
      refine (HHu.out _ HB.out).mono ?_
      rintro e w3 ⟨rfl, hb3⟩
      have HB3 := hide (below_step HB.out hb3 (Nat.le_refl _))
      have Hrow3 := hide (Hrow.out.keep hb3)
      generalize legBox p q = lb at *
      obtain ⟨⟨x1, x2, x3⟩, x4, x5, x6⟩ := lb
      have hs3 := HB3.out.size
      clear hb3 HHu
      go_wp2_with (at_builtin; refine wpList_append1 rfl (.tmp 20) (.tmp 28) 22 rfl w1.heap.size 93 (.agg #[.int .i64 0, .int .i64 0, .int .i64 0, .int .i64 0, .int .i64 0, .int .i64 0]) 6 48 encB Tryz.underlying22 (by kernel_rfl) rfl (by omega) encB_len encB_one _ acc ⟨(x1, x2, x3), (x4, x5, x6)⟩ rfl (Hrow3.out.alloc _) _ rfl (Blk.new w3 _ _) (by omega) (by omega) (le_alloc hs3 _) ?_; intro A1 c1 w6 hrow6 hb6 _)
      go_roundw
      case rel => exact ⟨k + 1, by omega, by go_num, ⟨acc ++ [⟨(x1, x2, x3), (x4, x5, x6)⟩], by simpa using hrow6, hide Hn2.out.symm⟩, (HB3.out.alloc hs3 _).trans hb6⟩
      case measure => simp [intOf]; omega
    · have hk9 : k + 1 = n := by omega
      have hf : acc = legsOfPts pts := by
        rw [hacc.out]
        exact List.take_of_length_le (by rw [legsOfPts_len, ← Hn.out]; omega)
      have hlen := hide (show (legsOfPts pts).length = acc.length by rw [hf])
      have Hr := hide (show Row wr w1.heap.size 93 6 encB (.slice A0 acc.length c0) (legsOfPts pts) by rw [← hf]; exact Hrow.out)
      have Hb := hide (below_step Hb1.out hbr (Nat.le_refl _))
      clear hf hacc Hrow hbr
      generalize acc.length = m at *
      go_wp2_with fail
      go_ret
      exact ⟨A0, c0, w1.heap.size, by rw [hlen.out]; rfl, by rw [hlen.out]; exact Hr.out, Hb.out⟩
theorem refLegs_ok (A3 A4 : Option Addr) (bars : List BarD) (runs : List RunD) (n3 c3 n4 c4 i : Nat) (ld : LaidD) (w : World) {B : Nat} (h3 : BarsAt w B A3 bars) (h4 : RunsAt w B A4 runs) (hB : B ≤ w.heap.size) (l3 : n3 = bars.length) (l4 : n4 = runs.length) (m3 : n3 ≤ 60000) (hok : laidOk bars runs = true) (hi : (laidAll bars runs)[i]? = some ld) :
    Calls Tryz.prog 142 #[.slice A3 n3 c3, .slice A4 n4 c4, .int .i64 i] w fun e w' => ∃ A c, e = .returned (.slice A (legsOfPts ld.pts).length c) ∧ BoxesAt w' w'.heap.size A (legsOfPts ld.pts) ∧ Below w.heap.size w w' := by
  refine (refLegs_row A3 A4 bars runs n3 c3 n4 c4 i ld w h3 h4 hB l3 l4 m3 hok hi).mono ?_
  rintro e w' ⟨A, c, b0, he, hr, hb⟩
  exact ⟨A, c, he, Row.read hr encB_len (by omega), hb⟩
/-- The main leg as the reference gives it. -/
def mainT (o : Option BoxD) : Array Value := match o with
  | some b => #[bxV b, .bool true]
  | none => #[.agg #[.int .i64 0, .int .i64 0, .int .i64 0, .int .i64 0, .int .i64 0, .int .i64 0], .bool false]
set_option maxHeartbeats 4000000 in
set_option maxRecDepth 100000 in
theorem refMain25_ok (x : DetD) (s : DetS) (i : Nat) (ld : LaidD) (w : World) {B : Nat} (h : DetAt w B x s) (hB : B ≤ w.heap.size) (hf : DetFit x s) (hok : laidOk x.bars x.runs = true) (hi : (laidAll x.bars x.runs)[i]? = some ld) :
    Calls Tryz.prog 94 #[detV x s, .int .i64 i] w fun e w' => e = .returned (.tuple (mainT (mainLeg ld))) ∧ Below w.heap.size w w' := by
  have HL := hide (fun (W : World) (hz : Below w.heap.size w W) => refLegs_ok s.a3 s.a4 x.bars x.runs s.n3 s.c3 s.n4 s.c4 i ld W (h.h3.carry (hz.mono hB) (Nat.le_refl _)) (h.h4.carry (Flat.carried _) (hz.mono hB) (Nat.le_refl _)) (Nat.le_trans hB hz.size) hf.l3 hf.l4 hf.m3 hok hi)
  have hl6 : (legsOfPts ld.pts).length ≤ 60000 := by
    obtain ⟨_, hl1, hl7⟩ := laid_near x.runs i ld (laidOk_mem hok).2.2 hi
    rw [legsOfPts_len]
    omega
  have Hml := hide (show mainLeg ld = (legsOfPts ld.pts).find? isMain from rfl)
  generalize legsOfPts ld.pts = LG at *
  obtain ⟨ml, hml⟩ : ∃ ml, ml = mainLeg ld := ⟨_, rfl⟩
  rw [← hml] at Hml ⊢
  have K0 := hide ((Blk.new w 34 (detCells x.mem x.rule s)).alloc (.cells #[.int .i64 0, .int .i64 0, .int .i64 0, .int .i64 0, .int .i64 0, .int .i64 0] 93))
  have KB := hide (Blk.new1 w (.cells (detCells x.mem x.rule s) 34) 93 #[.int .i64 0, .int .i64 0, .int .i64 0, .int .i64 0, .int .i64 0, .int .i64 0])
  have HW := hide (below_new2 w (.cells (detCells x.mem x.rule s) 34) (.cells #[.int .i64 0, .int .i64 0, .int .i64 0, .int .i64 0, .int .i64 0, .int .i64 0] 93))
  obtain ⟨mem, bars, runs, laps, dems, rule⟩ := x
  obtain ⟨a1, n1, c1, a2, n2, c2, a3, n3, c3, a4, n4, c4, a5, n5, c5, a6, n6, c6⟩ := s
  obtain ⟨name, boxes, holes, cover, agg, poker⟩ := mem
  obtain ⟨r1, r2, r3, r4, r5, r6, r7, r8, r9⟩ := rule
  simp only [detCells] at K0 KB HW
  simp only at HL
  have e6 := K0.out.cell 6
  have e7 := K0.out.cell 7
  simp at e6 e7
  clear h hf hB hok hi hml
  show Calls Tryz.prog 94 #[.agg #[.string name, .slice a1 n1 c1, .slice a2 n2 c2, .int .i64 cover, .int .i64 agg, .int .i64 poker, .slice a3 n3 c3, .slice a4 n4 c4, .slice a5 n5 c5, .slice a6 n6 c6, .int .i64 r1, .int .i64 r2, .int .i64 r3, .int .i64 r4, .int .i64 r5, .int .i64 r6, .int .i64 r7, .int .i64 r8, .int .i64 r9], .int .i64 i] w _
  go_enter Tryz.func94, Tryz.ntmps94
  go_wp2_with fail
  refine (HL.out _ HW.out).mono ?_
  rintro e w1 ⟨A1, c1', rfl, hlg, hb1⟩
  have KB := hide (KB.out.keep hb1)
  have HW1 := hide (below_step HW.out hb1 (Nat.le_refl _))
  have HLG := hide hlg
  have HM := hide (refMainLeg_any A1 LG LG.length c1' w1 hlg (Nat.le_refl _) rfl hl6)
  clear hlg hb1 HL HW K0 e6 e7
  go_wp2_with fail
  refine HM.out.mono ?_
  rintro e w2 ⟨rfl, hb2⟩
  have KB := hide (KB.out.keep hb2)
  have HW2 := hide (below_step HW1.out hb2 (Nat.le_refl _))
  have HLG := hide (HLG.out.carry (Flat.carried _) hb2 hb2.size)
  clear hb2 HM HW1
  have u0 := KB.out.cell 0
  have v0 := KB.out.frozen 0
  have u1 := KB.out.cell 1
  have v1 := KB.out.frozen 1
  have u2 := KB.out.cell 2
  have v2 := KB.out.frozen 2
  have u3 := KB.out.cell 3
  have v3 := KB.out.frozen 3
  have u4 := KB.out.cell 4
  have v4 := KB.out.frozen 4
  have u5 := KB.out.cell 5
  have v5 := KB.out.frozen 5
  simp at u0 u1 u2 u3 u4 u5
  have lk := KB.out.lt
  have hrg := idx_range isMain LG
  by_cases hneg : idx isMain LG < 0
  · have d0 : decide (idx isMain LG < 0) = true := by simpa using hneg
    have Hn := hide (show ml = none by
      rw [Hml.out, List.find?_eq_none]
      intro z hz hm
      have h1 := idx_any isMain LG
      rw [List.any_eq_true.2 ⟨z, hz, hm⟩, decide_eq_true_eq] at h1
      omega)
    generalize idx isMain LG = ix at *
    clear Hml hrg hneg
    go_wp2_with fail
    refine bodyPost_ret (results_ct rfl rfl ((((((KB.out.set_ 0 _).set_ 1 _).set_ 2 _).set_ 3 _).set_ 4 _).set_ 5 _) Tryz.underlying93 rfl (by kernel_rfl)) rfl ?_
    refine ⟨?_, ((((((HW2.out.setCell (p := ⟨w.heap.size + 1, 0, none⟩) (Nat.le_succ _) _).setCell (p := ⟨w.heap.size + 1, 1, none⟩) (Nat.le_succ _) _).setCell (p := ⟨w.heap.size + 1, 2, none⟩) (Nat.le_succ _) _).setCell (p := ⟨w.heap.size + 1, 3, none⟩) (Nat.le_succ _) _).setCell (p := ⟨w.heap.size + 1, 4, none⟩) (Nat.le_succ _) _).setCell (p := ⟨w.heap.size + 1, 5, none⟩) (Nat.le_succ _) _)⟩
    simp only [List.setIfInBounds_toArray, List.set_cons_zero, List.set_cons_succ]
    rw [Hn.out]
    rfl
  · obtain ⟨j, hj⟩ := Int.eq_ofNat_of_zero_le (show 0 ≤ idx isMain LG by omega)
    obtain ⟨y, hy, hp, hno⟩ := idx_spec hj
    have Hn := hide (show ml = some y by rw [Hml.out]; exact NoneTo.find hno hy hp)
    obtain ⟨b, off, y', rfl, hbl, hy', f0, f1, f2, f3, f4, f5⟩ := BoxesAt.get (k := j) HLG.out (lt_of_get hy)
    rw [hy] at hy'
    injection hy' with hy'
    subst hy'
    have d0 : decide ((j : Int) < 0) = false := by simp
    have hjl : j < LG.length := lt_of_get hy
    rw [hj]
    obtain ⟨⟨y1, y2, y3⟩, y4, y5, y6⟩ := y
    simp only at f0 f1 f2 f3 f4 f5
    generalize LG.length = ln at *
    clear Hml hrg hneg hj hy hp hno
    go_wp2_with fail
    refine bodyPost_ret (results_ct rfl rfl ((((((KB.out.set_ 0 _).set_ 1 _).set_ 2 _).set_ 3 _).set_ 4 _).set_ 5 _) Tryz.underlying93 rfl (by kernel_rfl)) rfl ?_
    refine ⟨?_, ((((((HW2.out.setCell (p := ⟨w.heap.size + 1, 0, none⟩) (Nat.le_succ _) _).setCell (p := ⟨w.heap.size + 1, 1, none⟩) (Nat.le_succ _) _).setCell (p := ⟨w.heap.size + 1, 2, none⟩) (Nat.le_succ _) _).setCell (p := ⟨w.heap.size + 1, 3, none⟩) (Nat.le_succ _) _).setCell (p := ⟨w.heap.size + 1, 4, none⟩) (Nat.le_succ _) _).setCell (p := ⟨w.heap.size + 1, 5, none⟩) (Nat.le_succ _) _)⟩
    simp only [List.setIfInBounds_toArray, List.set_cons_zero, List.set_cons_succ]
    rw [Hn.out]
    rfl
end Go.Proofs.YtpmipoljnchheaaGreatDoor
namespace Go.Proofs.YtpmipoljnchheaaGreatDoor
open Go.RowKit

theorem runs_at {bars : List BarD} {l : List RunD} {k : Nat} {r : RunD} (h : l[k]? = some r) : (l.drop k).all (runOk bars) = (runOk bars r && (l.drop (k + 1)).all (runOk bars)) := all_at h
set_option maxHeartbeats 4000000 in
theorem refLaid_any (A3 A4 : Option Addr) (bars : List BarD) (runs : List RunD) (n3 c3 n4 c4 : Nat) (w : World) {B : Nat} (h3 : BarsAt w B A3 bars) (h4 : RunsAt w B A4 runs) (hB : B ≤ w.heap.size) (l3 : n3 = bars.length) (l4 : n4 = runs.length) (m3 : n3 ≤ 60000) (htame : Tame bars) :
    Calls Tryz.prog 61 #[.slice A3 n3 c3, .slice A4 n4 c4] w fun e w' => e = .returned (.bool (laidOk bars runs)) ∧ Below w.heap.size w w' := by
  have HV := hide (refSchedValid_any A3 bars n3 c3 w h3 hB l3 htame m3)
  have hr := hide (laidOk_ref bars runs)
  cases hs : schedOk bars
  · rw [hs] at HV hr
    generalize laidOk bars runs = res at *
    clear h3 h4 hB l3 l4 m3 htame hs
    go_enter Tryz.func61, Tryz.ntmps61
    go_wp2_with fail
    refine HV.out.mono ?_
    rintro e w1 ⟨rfl, hb⟩
    have HW := hide hb
    clear hb HV
    go_wp2_with fail
    go_ret
    exact ⟨ret_bool (by rw [hr.out]; rfl), HW.out⟩
  rw [hs] at HV hr
  have hbar := schedOk_bars hs
  by_cases hlen : 60 < n4
  · have d0 : decide (60 < (n4 : Int)) = true := by simp; omega
    have hr := hide (show laidOk bars runs = false by rw [hr.out, decide_eq_false (by omega)]; rfl)
    generalize laidOk bars runs = res at *
    clear h3 h4 hB l3 l4 m3 htame hs hbar hlen
    go_enter Tryz.func61, Tryz.ntmps61
    go_wp2_with fail
    refine HV.out.mono ?_
    rintro e w1 ⟨rfl, hb⟩
    have HW := hide hb
    clear hb HV
    go_wp2_with fail
    go_ret
    exact ⟨ret_bool hr.out.symm, HW.out⟩
  have d0 : decide (60 < (n4 : Int)) = false := by simp; omega
  have hn60 : n4 ≤ 60 := by omega
  have hr := hide (show laidOk bars runs = ((runs.drop 0).all (runOk bars) && decide (countRuns runs ≤ 2000)) by rw [hr.out, decide_eq_true (by omega)]; rfl)
  have HR := hide (fun (r : RunD) (W : World) (hz : Below w.heap.size w W) => refRun_any A3 bars n3 c3 r W (h3.carry (hz.mono hB) (Nat.le_refl _)) (Nat.le_trans hB hz.size) l3 m3 hbar)
  have HC := hide (fun (hok : ∀ r ∈ runs, 1 ≤ r.count ∧ r.count ≤ 1000) (W : World) (hz : Below w.heap.size w W) => count16_any A4 runs n4 c4 W (h4.carry (Flat.carried _) (hz.mono hB) (Nat.le_refl _)) (Nat.le_trans hB hz.size) l4 hn60 hok)
  have H4 := hide h4
  have L4 := hide l4
  have HB := hide hB
  generalize laidOk bars runs = res at *
  clear h3 h4 hB l3 l4 m3 htame hs hbar hlen
  go_enter Tryz.func61, Tryz.ntmps61
  go_wp2_with fail
  refine HV.out.mono ?_
  rintro e w1 ⟨rfl, hb⟩
  have HW := hide hb
  clear hb HV
  go_wp2_with fail
  go_loopw [5] (fun i wr => ∃ k : Nat, k ≤ n4 ∧ i = .int .i64 k ∧ Hid ((runs.drop 0).all (runOk bars) = (runs.drop k).all (runOk bars)) ∧ Hid (∀ r ∈ runs.take k, runOk bars r = true) ∧ Hid (Below w.heap.size w wr)) (fun i _ => n4 - (intOf i).toNat)
  case atStart => exact ⟨0, Nat.zero_le _, rfl, hide rfl, hide (by simp), HW⟩
  case round =>
    clear HW
    obtain ⟨k, hk, rfl, hq, hp, hbr⟩ := hrel
    by_cases hlt : k < n4
    · obtain ⟨b, off, r, rfl, hbl, hx, hc⟩ := RunsAt.get (k := k) (H4.out.carry (Flat.carried _) (hbr.out.mono HB.out) (Nat.le_refl _)) (by rw [← L4.out]; exact hlt)
      have Hq := hide (hq.out.trans (runs_at hx))
      have HT := HR.out r _ hbr.out
      obtain ⟨a, ha⟩ : ∃ a, a = runOk bars r := ⟨_, rfl⟩
      rw [← ha] at HT Hq
      have HT := hide HT
      have Hp := hide (fun (h1 : a = true) => show ∀ r ∈ runs.take (k + 1), runOk bars r = true by
        rw [take_snoc' hx]
        intro z hz
        rcases List.mem_append.1 hz with h | h
        · exact hp.out z h
        · obtain rfl := List.mem_singleton.1 h; rw [← ha]; exact h1)
      obtain ⟨mark, tx, ty, ⟨a1, a2, a3⟩, ⟨s1, s2, s3⟩, cnt⟩ := r
      have e0 := hc 0 _ rfl
      have e1 := hc 1 _ rfl
      have e2 := hc 2 _ rfl
      have e3 := hc 3 _ rfl
      have e4 := hc 4 _ rfl
      have e5 := hc 5 _ rfl
      have e6 := hc 6 _ rfl
      have e7 := hc 7 _ rfl
      have e8 := hc 8 _ rfl
      have e9 := hc 9 _ rfl
      simp only [Nat.add_zero] at e0 e1 e2 e3 e4 e5 e6 e7 e8 e9
      clear hx hbl hc hq hp ha
      go_wp2_with fail
      refine HT.out.mono ?_
      rintro e w2 ⟨rfl, hb⟩
      have Hbr := hide (below_step hbr.out hb (Nat.le_refl _))
      clear hb HT e0 e1 e2 e3 e4 e5 e6 e7 e8 e9
      cases a
      · go_wp2_with fail
        go_ret
        exact ⟨ret_bool (by rw [hr.out, Hq.out]; rfl), Hbr.out⟩
      · go_wp2_with fail
        go_roundw
        case rel => exact ⟨k + 1, by omega, by go_num, hide (by rw [Hq.out]; rfl), hide (Hp.out (by simp)), Hbr⟩
        case measure => simp [intOf]; omega
    · obtain rfl : k = n4 := by omega
      have hall : ∀ r ∈ runs, runOk bars r = true := by have := hp.out; rwa [L4.out, List.take_length] at this
      have HCo := hide (HC.out (fun r hr => runOk_count (hall r hr)) _ hbr.out)
      have Hr := hide (show res = decide (countRuns runs ≤ 2000) by
        rw [hr.out, hq.out, List.drop_of_length_le (by rw [← L4.out]; exact Nat.le_refl _)]; rfl)
      generalize countRuns runs = t at *
      clear hall hq hp hr HC
      go_wp2_with fail
      refine HCo.out.mono ?_
      rintro e w2 ⟨rfl, hb⟩
      have Hbr := hide (below_step hbr.out hb (Nat.le_refl _))
      clear hb HCo
      go_wp2_with fail
      go_ret
      exact ⟨ret_bool Hr.out.symm, Hbr.out⟩
end Go.Proofs.YtpmipoljnchheaaGreatDoor
namespace Go.Proofs.YtpmipoljnchheaaGreatDoor
open Go.RowKit

theorem still_load_row {P : Program} {ops : Array Oper} {rest : List Oper} {o : Oper} {a : Act} {w : World} {Q : Act → Prop} (hgd : o.guard = none) (ty : TypeId) (x : Operand) (ho : o.op = .load ty x)
    (g : Nat) (hx : a.eval x = .pointer (some ⟨g, 0, none⟩)) (t : TypeId) (cs : Array Value) (fr : Nat × Nat) (d : TypeDesc) (hg : w.heap[g]? = some (.cells cs t fr))
    (hu : P.underlying ty = some d) (hd : (match d with | .struct _ | .array _ _ => true | _ => false) = true) (hi : (P.info? ty).map (·.size) = some cs.size)
    (h : wpStill P ops w Q rest (a.put o.dst (.agg cs))) : wpStill P ops w Q (o :: rest) a := by
  have hw : Region.wanted o (yielded ops a.tmps) = true := by simp [Region.wanted, hgd]
  show if _ then _ else _
  rw [if_pos hw]
  unfold Oper.still execOp
  simp only [ho, hx, Instr.loadAt, Instr.sureAddr, Sem.run_bind, Sem.run_pure, Result.andThen_ok, run_loadVar_row w g t ty cs fr d hg hu hd hi, Oper.stillUpon]
  exact ⟨trivial, h⟩
def legI (o : Option BoxD) : BoxD := o.getD ⟨(0, 0, 0), (0, 0, 0)⟩
theorem mainT_eq (o : Option BoxD) : mainT o = #[bxV (legI o), .bool o.isSome] := by cases o <;> rfl
def lapLegs (a b : Option BoxD) : Bool := a.isSome && (b.isSome && (decide ((legI a).lo.1 < (legI b).lo.1) && (decide ((legI a).hi.1 < (legI b).hi.1) && decide ((legI b).lo.1 ≤ (legI a).hi.1))))
theorem lapsFit_in {ms : List (Option BoxD)} {j : JoinD} {p q : Nat} (hp : j.first = p) (hq : j.second = q) {a b : Option BoxD} (ha : ms[p]? = some a) (hb : ms[q]? = some b) : lapsFit ms j = lapLegs a b := by
  have h1 := lt_of_get ha
  have h2 := lt_of_get hb
  rw [lapsFit, hp, hq, decide_eq_true (show (0 : Int) ≤ (p : Int) by omega), decide_eq_true (show (0 : Int) ≤ (q : Int) by omega), decide_eq_true (show (p : Int) < (ms.length : Nat) by omega), decide_eq_true (show (q : Int) < (ms.length : Nat) by omega)]
  simp only [Int.toNat_natCast, List.getD_eq_getElem?_getD, ha, hb, Option.getD_some]
  cases a <;> cases b <;> simp [lapLegs, legI, Bool.and_assoc] <;> rfl
theorem lapsFit_out {ms : List (Option BoxD)} {j : JoinD} (h : j.first < 0 ∨ (ms.length : Int) ≤ j.first ∨ j.second < 0 ∨ (ms.length : Int) ≤ j.second) : lapsFit ms j = false := by
  rw [lapsFit]
  rcases h with h | h | h | h
  · rw [decide_eq_false (show ¬ (0 : Int) ≤ j.first by omega)]; simp
  · rw [decide_eq_false (show ¬ j.first < (ms.length : Nat) by omega)]; simp
  · rw [decide_eq_false (show ¬ (0 : Int) ≤ j.second by omega)]; simp
  · rw [decide_eq_false (show ¬ j.second < (ms.length : Nat) by omega)]; simp
set_option maxHeartbeats 4000000 in
theorem refCount25_ok (x : DetD) (s : DetS) (w : World) {B : Nat} (h : DetAt w B x s) (hB : B ≤ w.heap.size) (hf : DetFit x s) (hok : laidOk x.bars x.runs = true) :
    Calls Tryz.prog 93 #[detV x s] w fun e w' => e = .returned (.int .i64 (countRuns x.runs)) ∧ Below w.heap.size w w' := by
  obtain ⟨_, hlen, hruns⟩ := laidOk_mem hok
  have l4 := hf.l4
  have HC := hide (fun (W : World) (hz : Below w.heap.size w W) => count16_any s.a4 x.runs s.n4 s.c4 W (h.h4.carry (Flat.carried _) (hz.mono hB) (Nat.le_refl _)) (Nat.le_trans hB hz.size) hf.l4 (by omega) (fun r hr => runOk_count (hruns r hr)))
  have K0 := hide (Blk.new w 34 (detCells x.mem x.rule s))
  have HW := hide (below_new w (.cells (detCells x.mem x.rule s) 34))
  generalize countRuns x.runs = t at *
  obtain ⟨mem, bars, runs, laps, dems, rule⟩ := x
  obtain ⟨a1, n1, c1, a2, n2, c2, a3, n3, c3, a4, n4, c4, a5, n5, c5, a6, n6, c6⟩ := s
  obtain ⟨name, boxes, holes, cover, agg, poker⟩ := mem
  obtain ⟨r1, r2, r3, r4, r5, r6, r7, r8, r9⟩ := rule
  simp only [detCells] at K0 HW
  simp only at HC
  have e7 := K0.out.cell 7
  simp at e7
  have lk := K0.out.lt
  clear h hf hB hok hruns hlen l4
  show Calls Tryz.prog 93 #[.agg #[.string name, .slice a1 n1 c1, .slice a2 n2 c2, .int .i64 cover, .int .i64 agg, .int .i64 poker, .slice a3 n3 c3, .slice a4 n4 c4, .slice a5 n5 c5, .slice a6 n6 c6, .int .i64 r1, .int .i64 r2, .int .i64 r3, .int .i64 r4, .int .i64 r5, .int .i64 r6, .int .i64 r7, .int .i64 r8, .int .i64 r9]] w _
  go_enter Tryz.func93, Tryz.ntmps93
  go_wp2_with fail
  refine (HC.out _ HW.out).mono ?_
  rintro e w2 ⟨rfl, hb2⟩
  have HW2 := hide (below_step HW.out hb2 (Nat.le_refl _))
  clear hb2 HC HW K0 e7
  go_wp2_with fail
  go_ret
  exact ⟨rfl, HW2.out⟩
set_option maxHeartbeats 8000000 in
set_option maxRecDepth 100000 in
theorem refJoint_any (x : DetD) (s : DetS) (j : JoinD) (w : World) {B : Nat} (h : DetAt w B x s) (hB : B ≤ w.heap.size) (hf : DetFit x s) (hok : laidOk x.bars x.runs = true) :
    Calls Tryz.prog 64 #[detV x s, .agg #[.int .i64 j.first, .int .i64 j.second]] w fun e w' => e = .returned (.bool (lapsFit ((laidAll x.bars x.runs).map mainLeg) j)) ∧ Below w.heap.size w w' := by
  have HC := hide (fun (W : World) (hz : Below w.heap.size w W) => refCount25_ok x s W (h.carry (hz.mono hB) (Nat.le_refl _)) (Nat.le_trans hB hz.size) hf hok)
  have HM := hide (fun (i : Nat) (ld : LaidD) (hi : (laidAll x.bars x.runs)[i]? = some ld) (W : World) (hz : Below w.heap.size w W) => refMain25_ok x s i ld W (h.carry (hz.mono hB) (Nat.le_refl _)) (Nat.le_trans hB hz.size) hf hok hi)
  have hcl := (laidOk_len hok).1
  have hcl2 := (laidOk_len hok).2
  have Hi := hide (show (Tryz.prog.info? 34).map (·.size) = some 19 by kernel_rfl)
  have K0 := hide ((Blk.new w 34 (detCells x.mem x.rule s)).alloc (.cells #[.int .i64 j.first, .int .i64 j.second] 136))
  have KJ := hide (Blk.new1 w (.cells (detCells x.mem x.rule s) 34) 136 #[.int .i64 j.first, .int .i64 j.second])
  have HW := hide (below_new2 w (.cells (detCells x.mem x.rule s) 34) (.cells #[.int .i64 j.first, .int .i64 j.second] 136))
  have Hin := hide (fun (p q : Nat) (la lb : LaidD) (hp : j.first = p) (hq : j.second = q) (ha : (laidAll x.bars x.runs)[p]? = some la) (hb : (laidAll x.bars x.runs)[q]? = some lb) => lapsFit_in (ms := (laidAll x.bars x.runs).map mainLeg) hp hq (a := mainLeg la) (b := mainLeg lb) (by simp [ha]) (by simp [hb]))
  have Hout := hide (fun (hh : j.first < 0 ∨ countRuns x.runs ≤ j.first ∨ j.second < 0 ∨ countRuns x.runs ≤ j.second) => lapsFit_out (ms := (laidAll x.bars x.runs).map mainLeg) (j := j) (by rw [List.length_map, hcl]; exact hh))
  generalize laidAll x.bars x.runs = LA at *
  obtain ⟨res, hres⟩ : ∃ res, res = lapsFit (LA.map mainLeg) j := ⟨_, rfl⟩
  rw [← hres] at Hin Hout ⊢
  generalize countRuns x.runs = t at *
  obtain ⟨f, g⟩ := j
  obtain ⟨mem, bars, runs, laps, dems, rule⟩ := x
  obtain ⟨a1, n1, c1, a2, n2, c2, a3, n3, c3, a4, n4, c4, a5, n5, c5, a6, n6, c6⟩ := s
  obtain ⟨name, boxes, holes, cover, agg, poker⟩ := mem
  obtain ⟨r1, r2, r3, r4, r5, r6, r7, r8, r9⟩ := rule
  simp only [detCells] at K0 KJ HW
  simp only at Hin Hout
  clear h hf hB hok hres
  show Calls Tryz.prog 64 #[.agg #[.string name, .slice a1 n1 c1, .slice a2 n2 c2, .int .i64 cover, .int .i64 agg, .int .i64 poker, .slice a3 n3 c3, .slice a4 n4 c4, .slice a5 n5 c5, .slice a6 n6 c6, .int .i64 r1, .int .i64 r2, .int .i64 r3, .int .i64 r4, .int .i64 r5, .int .i64 r6, .int .i64 r7, .int .i64 r8, .int .i64 r9], .agg #[.int .i64 f, .int .i64 g]] w _
  go_enter Tryz.func64, Tryz.ntmps64
  go_wp2_with (refine wpList_load_row rfl 34 (.tmp 2) rfl w.heap.size rfl 34 _ (0, 0) _ K0.out Tryz.underlying34 rfl Hi.out ?_)
  refine (HC.out _ HW.out).mono ?_
  rintro e w2 ⟨rfl, hb2⟩
  have K2 := hide (K0.out.keep hb2)
  have J2 := hide (KJ.out.keep hb2)
  have HW2 := hide (below_step HW.out hb2 (Nat.le_refl _))
  clear hb2 HC HW K0 KJ
  have e0 := J2.out.cell 0
  have e1 := J2.out.cell 1
  simp at e0 e1
  have lj := J2.out.lt
  have hways : decide (f < 0) = true ∨ (decide (f < 0) = false ∧ decide (t ≤ f) = true) ∨ (decide (f < 0) = false ∧ decide (t ≤ f) = false ∧ decide (g < 0) = true) ∨ (decide (f < 0) = false ∧ decide (t ≤ f) = false ∧ decide (g < 0) = false ∧ decide (t ≤ g) = true) ∨ (decide (f < 0) = false ∧ decide (t ≤ f) = false ∧ decide (g < 0) = false ∧ decide (t ≤ g) = false) := by
    cases decide (f < 0) <;> cases decide (t ≤ f) <;> cases decide (g < 0) <;> cases decide (t ≤ g) <;> simp
  rcases hways with q0 | ⟨q0, q1⟩ | ⟨q0, q1, q2⟩ | ⟨q0, q1, q2, q3⟩ | ⟨q0, q1, q2, q3⟩
  · have Hr := hide (Hout.out (.inl (by simpa using q0)))
    clear Hin Hout HM hcl hcl2
    go_wp2_with fail
    go_ret
    exact ⟨ret_bool Hr.out.symm, HW2.out⟩
  · have Hr := hide (Hout.out (.inr (.inl (by simpa using q1))))
    clear Hin Hout HM hcl hcl2
    go_wp2_with fail
    go_ret
    exact ⟨ret_bool Hr.out.symm, HW2.out⟩
  · have Hr := hide (Hout.out (.inr (.inr (.inl (by simpa using q2)))))
    clear Hin Hout HM hcl hcl2
    go_wp2_with fail
    go_ret
    exact ⟨ret_bool Hr.out.symm, HW2.out⟩
  · have Hr := hide (Hout.out (.inr (.inr (.inr (by simpa using q3)))))
    clear Hin Hout HM hcl hcl2
    go_wp2_with fail
    go_ret
    exact ⟨ret_bool Hr.out.symm, HW2.out⟩
  have f0 : 0 ≤ f := by simpa using q0
  have f1 : f < t := by simpa using q1
  have g0 : 0 ≤ g := by simpa using q2
  have g1 : g < t := by simpa using q3
  obtain ⟨p, rfl⟩ := Int.eq_ofNat_of_zero_le f0
  obtain ⟨q, rfl⟩ := Int.eq_ofNat_of_zero_le g0
  obtain ⟨la, hla⟩ : ∃ la, LA[p]? = some la := ⟨_, List.getElem?_eq_getElem (by omega)⟩
  obtain ⟨lb, hlb⟩ : ∃ lb, LA[q]? = some lb := ⟨_, List.getElem?_eq_getElem (by omega)⟩
  have Hr := Hin.out p q la lb rfl rfl hla hlb
  have HMa := HM.out p la hla
  have HMb := HM.out q lb hlb
  rw [mainT_eq] at HMa HMb
  unfold lapLegs at Hr
  generalize (mainLeg la).isSome = ta at *
  generalize (mainLeg lb).isSome = tb at *
  generalize legI (mainLeg la) = A at *
  generalize legI (mainLeg lb) = C at *
  obtain ⟨⟨A1, A2, A3⟩, A4, A5, A6⟩ := A
  obtain ⟨⟨C1, C2, C3⟩, C4, C5, C6⟩ := C
  simp only [bxV] at HMa HMb Hr
  have Hr := hide Hr
  have HMa := hide HMa
  have HMb := hide HMb
  have K0 := K2
  have KJ := J2
  clear Hin Hout HM hcl hcl2 hla hlb f0 f1 g0 g1 K2 J2
  go_wp2_with (refine wpList_load_row rfl 34 (.tmp 2) rfl w.heap.size rfl 34 _ (0, 0) _ K0.out Tryz.underlying34 rfl Hi.out ?_)
  refine (HMa.out _ HW2.out).mono ?_
  rintro e w3 ⟨rfl, hb3⟩
  have K0 := hide ((K0.out.keep hb3).alloc (.cells #[.int .i64 A1, .int .i64 A2, .int .i64 A3, .int .i64 A4, .int .i64 A5, .int .i64 A6] 93))
  have KJ := hide ((KJ.out.keep hb3).alloc (.cells #[.int .i64 A1, .int .i64 A2, .int .i64 A3, .int .i64 A4, .int .i64 A5, .int .i64 A6] 93))
  have KA := hide (Blk.new w3 93 #[.int .i64 A1, .int .i64 A2, .int .i64 A3, .int .i64 A4, .int .i64 A5, .int .i64 A6])
  have HW3' := below_step HW2.out hb3 (Nat.le_refl _)
  have HW3 := hide (HW3'.alloc HW3'.size (.cells #[.int .i64 A1, .int .i64 A2, .int .i64 A3, .int .i64 A4, .int .i64 A5, .int .i64 A6] 93))
  clear hb3 HMa HW2 HW3' e0 e1 lj
  have e1 := KJ.out.cell 1
  simp at e1
  have lj := KJ.out.lt
  go_wp2_with (refine wpList_load_row rfl 34 (.tmp 2) rfl w.heap.size rfl 34 _ (0, 0) _ K0.out Tryz.underlying34 rfl Hi.out ?_)
  refine (HMb.out _ HW3.out).mono ?_
  rintro e w4 ⟨rfl, hb4⟩
  have KA := hide ((KA.out.keep hb4).alloc (.cells #[.int .i64 C1, .int .i64 C2, .int .i64 C3, .int .i64 C4, .int .i64 C5, .int .i64 C6] 93))
  have KC := hide (Blk.new w4 93 #[.int .i64 C1, .int .i64 C2, .int .i64 C3, .int .i64 C4, .int .i64 C5, .int .i64 C6])
  have HW4' := below_step HW3.out hb4 (Nat.le_refl _)
  have HW4 := hide (HW4'.alloc HW4'.size (.cells #[.int .i64 C1, .int .i64 C2, .int .i64 C3, .int .i64 C4, .int .i64 C5, .int .i64 C6] 93))
  clear hb4 HMb HW3 HW4' e1 lj K0 KJ Hi
  have u0 := KA.out.cell 0
  have u3 := KA.out.cell 3
  have v0 := KC.out.cell 0
  simp at u0 u3 v0
  have v3 := KC.out.cell 3
  simp at v3
  have la' := KA.out.lt
  have lc' := KC.out.lt
  cases ta
  · go_wp2_with fail
    go_ret
    exact ⟨ret_bool (by rw [Hr.out]; rfl), HW4.out⟩
  cases tb
  · go_wp2_with fail
    go_ret
    exact ⟨ret_bool (by rw [Hr.out]; rfl), HW4.out⟩
  cases x0 : decide (A1 < C1)
  · go_wp2_with fail
    go_ret
    exact ⟨ret_bool (by rw [Hr.out, x0]; rfl), HW4.out⟩
  cases x1 : decide (A4 < C4)
  · go_wp2_with fail
    go_ret
    exact ⟨ret_bool (by rw [Hr.out, x0, x1]; rfl), HW4.out⟩
  cases x2 : decide (C1 ≤ A4)
  all_goals
    go_wp2_with fail
    go_ret
    exact ⟨ret_bool (by rw [Hr.out, x0, x1, x2]; rfl), HW4.out⟩
end Go.Proofs.YtpmipoljnchheaaGreatDoor
