/- The path of a laid bar: a range over the iterator of all laid bars. -/
import Derived.Test.YtpaanfjjnjjoeaaGreatRQax
import Derived.Test.YtpaanfjjnjjoeaaGreatRQan
import Derived.Test.YtpaanfjjnjjoeaaGreatRQat
import Derived.Test.YtpaanfjjnjjoeaaGreatRQac
import Derived.Deep.CutRange
import Derived.Test.YtpaanfjjnjjoeaaGreatRQaz
namespace Go.Proofs.YtpaanfjjnjjoeaaGreat
open Go.RowKit
attribute [local go_sem] Oper.semAt_some
theorem run_loadVar1 {P : Program} {w : World} {g : Nat} {v : Value} {ty : TypeId} {d : TypeDesc} (hc : w.cell? ⟨g, 0, none⟩ = some v) (hu : P.underlying ty = some d) (hd : (match d with | .struct _ | .array _ _ => true | _ => false) = false) :
  (loadVar ty ⟨g, 0, none⟩).run P w = .ok v w := by
 have hagg : (isAgg ty).run P w = .ok false w := by
  unfold isAgg
  rw [Sem.run_bind, run_underlying hu w]
  cases d <;> simp_all
 simp [loadVar, Sem.run_bind, hagg]
 simp [go_sem, hc]
theorem results_cc1 {P : Program} {fn : Func} {p q : Tmp} {tp tq : TypeId} (h : fn.results = #[.cell p tp, .cell q tq]) {tmps : Array Value} {w : World} {gp gq : Nat} {vp vq : Value} {dp dq : TypeDesc}
  (hp : tmps.getD p undef = .pointer (some ⟨gp, 0, none⟩)) (hq : tmps.getD q undef = .pointer (some ⟨gq, 0, none⟩)) (cp : w.cell? ⟨gp, 0, none⟩ = some vp) (cq : w.cell? ⟨gq, 0, none⟩ = some vq)
  (hup : P.underlying tp = some dp) (huq : P.underlying tq = some dq) (hdp : (match dp with | .struct _ | .array _ _ => true | _ => false) = false) (hdq : (match dq with | .struct _ | .array _ _ => true | _ => false) = false) :
  (results fn tmps).run P w = .ok (.tuple #[vp, vq]) w := by
 have hp' : tmps[p]?.getD undef = .pointer (some ⟨gp, 0, none⟩) := by simpa using hp
 have hq' : tmps[q]?.getD undef = .pointer (some ⟨gq, 0, none⟩) := by simpa using hq
 simp [results, h, hp', hq', asAddr, run_loadVar1 cp hup hdp, run_loadVar1 cq huq hdq]
set_option maxHeartbeats 400000 in
theorem all_any (A3 A4 : Option Addr) (n3 c3 n4 c4 : Nat) (w : World) :
  Calls Tryz.prog 234 #[.slice A3 n3 c3, .slice A4 n4 c4] w fun e w' => e = .returned (.func (.func 272) #[] #[.pointer (some ⟨w.heap.size + 1, 0, none⟩), .pointer (some ⟨w.heap.size, 0, none⟩)]) ∧
   w' = (w.alloc (.cells #[.slice A3 n3 c3] 27)).alloc (.cells #[.slice A4 n4 c4] 28) := by
 go_enter Tryz.func234, Tryz.ntmps234
 go_wp2_with fail
 go_ret
 exact ⟨rfl, rfl⟩
theorem SlOf.block {α : Type} {enc : α → List Value} {size B B' g : Nat} {L : List α} {w w' : World} (h : SlOf w B size (Flat enc) (some ⟨g, 0, none⟩) L) (he : w'.heap[g]? = w.heap[g]?) (hB : B ≤ B') : SlOf w' B' size (Flat enc) (some ⟨g, 0, none⟩) L := by
 intro hn
 obtain ⟨b, off, hA, hb, hc⟩ := h hn
 injection hA with hA
 injection hA with h1 h2
 subst h1
 subst h2
 refine ⟨g, 0, rfl, Nat.lt_of_lt_of_le hb hB, fun k x hx => ?_⟩
 obtain ⟨vs, hs, hr, hv⟩ := hc k x hx
 exact ⟨vs, hs, hr, fun j v hj => (World.cell?_of_block he).trans (hv j v hj)⟩
def mkRec (fn : FuncId) (tmps : Array Value) (ps : Array Tmp) (assign body : Code) (D : Nat) (st : LoopState) (pe : Option Code) : Loop := { state := st, pending := pe, fn := fn, tmps := tmps, params := ps, assign := assign, body := body, defers := D }
theorem range_intro {P : Program} {n : Nat} {g : Operand} {ps : Array Tmp} {assign body : Code} {Q : Exit → Act → World → Prop} {a : Act} {w : World} {gf : Nat} {lb : Array Value} (hg : a.eval g = .func (.func gf) #[] lb) (eg : ∀ args w, (callFunc gf args).run P w = .ok (.enter gf args) w)
  (h : ∀ (fn : FuncId) (rec : LoopState → Option Code → Loop) (W1 : World), rec = mkRec fn a.tmps ps assign body w.heap.size → W1 = (w.alloc (.deferred (some []))).alloc (.loop (rec .ready none)) →
   Calls P gf (#[.func (.yield (w.heap.size + 1)) #[] #[]] ++ lb) W1 fun e W' => (∃ v, e = .returned v) ∧ W'.heap[w.heap.size + 1]? = some (.loop (rec .done (some .ret))) ∧
    Q .ret { a with defers := { target := .collected w.heap.size, args := #[] } :: a.defers } (W'.putObj (w.heap.size + 1) (.loop (rec .exhausted (some .ret))))) :
  (Code.rangeFunc g ps assign body).wpIn Fence.wide n P Q a w := by
 refine wpIn_rangeFunc ?_
 intro fn hfn
 refine ⟨w.heap.size + 1, [{ target := .collected w.heap.size, args := #[] }], ((w.alloc (.deferred (some []))).alloc (.loop (mkRec fn a.tmps ps assign body w.heap.size .ready none))), { target := .fn (.func gf) lb, args := #[.func (.yield (w.heap.size + 1)) #[] #[]] }, ((w.alloc (.deferred (some []))).alloc (.loop (mkRec fn a.tmps ps assign body w.heap.size .ready none))), gf, #[.func (.yield (w.heap.size + 1)) #[] #[]] ++ lb, ((w.alloc (.deferred (some []))).alloc (.loop (mkRec fn a.tmps ps assign body w.heap.size .ready none))), run_enterLoop_outer _ _ _ _ _, ?_, fun _ _ => trivial, ?_, fun hd => absurd hd (by simp [Fence.wide]), ?_⟩
 ·simp only [resolve, hg]
  simp [go_sem]
 ·simp [invoke, go_sem, eg]
 ·refine (callsIn_wide.2 (h fn _ _ rfl rfl)).mono ?_
  rintro e W2 ⟨⟨v, rfl⟩, hl, hq⟩
  exact ⟨some .ret, _, run_endLoop hl (by simp [mkRec]), wpIn_ret hq⟩
theorem yield_intro {P : Program} {fn : FuncId} {tmps : Array Value} {ps : Array Tmp} {assign body : Code} {D l : Nat} {W : World} {args : Array Value} {R : Ending → World → Prop} {rec : LoopState → Option Code → Loop} (hrec : rec = mkRec fn tmps ps assign body D) (hl : W.heap[l]? = some (.loop (rec .ready none))) (hs : args.size = ps.size)
  (h : assign.wpIn (Fence.wide.inRound l) 2 P (Exit.then (fun a₁ w₁ => ∃ w₂, (Instr.beginRound l).run P w₁ = .ok () w₂ ∧ body.wpIn (Fence.wide.inRound l) 2 P (roundPost P l R) a₁ w₂) (fun _ _ _ => False)) { tmps := (ps.zip args).foldl (fun t (p, v) => t.setIfInBounds p v) tmps, defers := [] } W) : YieldAt Fence.wide 2 P l args W R := by
 subst hrec
 exact ⟨fn, _, assign, body, run_yield hl hs, roundIn_of_wpIn trivial h⟩
set_option maxHeartbeats 4000000 in
set_option maxRecDepth 100000 in
theorem laidPath_ok (A3 A4 : Option Addr) (bars : List BarD) (runs : List RunD) (n3 c3 n4 c4 i : Nat) (ld : LaidD) (w : World) {B : Nat} (h3 : BarsAt w B A3 bars) (h4 : RunsAt w B A4 runs) (hB : B ≤ w.heap.size) (l3 : n3 = bars.length) (l4 : n4 = runs.length) (m3 : n3 ≤ 60000) (m4 : n4 ≤ 60000) (htame : Tame bars) (hok : laidOk bars runs = true) (hi : (laidAll bars runs)[i]? = some ld) :
  Calls Tryz.prog 177 #[.slice A3 n3 c3, .slice A4 n4 c4, .int .i64 i] w fun e w' => ∃ A, e = .returned (.tuple #[.slice A ld.pts.length ld.pts.length, .int .i64 0]) ∧ PtsAt w' w'.heap.size A ld.pts ∧ Below w.heap.size w w' := by
 have HV := fun (W : World) (hz : Below w.heap.size w W) => laidValid_any A3 bars n3 c3 A4 runs n4 c4 W (h3.carry (hz.mono hB) (Nat.le_refl _)) (h4.carry (Flat.carried _) (hz.mono hB) (Nat.le_refl _)) (Nat.le_trans hB hz.size) l3 l4 m3 m4 htame
 rw [hok] at HV
 have HV := hide HV
 have HAll := hide (fun (n₀ gB gR l : Nat) (J : Nat → World → Prop) (Jx : World → Prop) (a1 a2) (W : World) (a3) (hz : Below w.heap.size w W) (hn : w.heap.size ≤ n₀) (hn1 : n₀ ≤ W.heap.size) (hl : n₀ ≤ l) (a4 a5 a6 a7 a8) => all1_walk A3 A4 bars runs n3 c3 n4 c4 n₀ gB gR l J Jx a1 a2 W a3 (h3.carry (hz.mono hB) (Nat.le_trans hB hn)) (h4.carry (Flat.carried _) (hz.mono hB) (Nat.le_trans hB hn)) hn1 hl a4 a5 a6 a7 l3 l4 m3 htame hok a8)
 have Hi := hide hi
 have HW := hide (((below_new2 w (.cells #[.int .i64 i] 3) (.cells #[.slice none 0 0] 204)).alloc (by simp; omega) (.cells #[.int .i64 0] 38)))
 have K5 := hide (((Blk.new w 3 #[.int .i64 i]).alloc (.cells #[.slice none 0 0] 204)).alloc (.cells #[.int .i64 0] 38))
 have K6 := hide ((Blk.new1 w (.cells #[.int .i64 i] 3) 204 #[.slice none 0 0]).alloc (.cells #[.int .i64 0] 38))
 have K7 := hide (Blk.new2 w (.cells #[.int .i64 i] 3) (.cells #[.slice none 0 0] 204) 38 #[.int .i64 0])
 clear h3 h4 hB l3 l4 m3 m4 htame hok hi
 refine (callsIn_wide (n := 4)).1 ?_
 refine callsIn_of_wp_marks Tryz.func177 rfl trivial ?_ rfl
 simp only [Tryz.ntmps177, List.size_toArray, List.length_cons, List.length_nil, Nat.reduceAdd, Nat.reduceSub, Array.replicate_succ, Array.replicate_zero, List.push_toArray, List.append_toArray, List.nil_append, List.cons_append]
 refine wpIn_wide.2 ?_
 go_wp2_with fail
 refine (HV.out _ HW.out).mono ?_
 rintro e w2 ⟨rfl, hb2⟩
 have K5 := hide (K5.out.keep hb2)
 have K6 := hide (K6.out.keep hb2)
 have K7 := hide (K7.out.keep hb2)
 have HW := hide (below_step HW.out hb2 (Nat.le_refl _))
 have Hws := hide K7.out.lt
 clear hb2 HV
 go_wp2_with (go_at_call 234; refine (all_any _ _ _ _ _ _ _).mono ?_; rintro e w3 ⟨rfl, rfl⟩)
 refine (wpIn_wide (n := 4)).1 ?_
 obtain ⟨w3, hw3⟩ : ∃ w3, w3 = (w2.alloc (.cells #[.slice A3 n3 c3] 27)).alloc (.cells #[.slice A4 n4 c4] 28) := ⟨_, rfl⟩
 have K5 := hide ((K5.out.alloc (.cells #[.slice A3 n3 c3] 27)).alloc (.cells #[.slice A4 n4 c4] 28))
 have K6 := hide ((K6.out.alloc (.cells #[.slice A3 n3 c3] 27)).alloc (.cells #[.slice A4 n4 c4] 28))
 have K7 := hide ((K7.out.alloc (.cells #[.slice A3 n3 c3] 27)).alloc (.cells #[.slice A4 n4 c4] 28))
 have KB := hide ((Blk.new w2 27 #[.slice A3 n3 c3]).alloc (.cells #[.slice A4 n4 c4] 28))
 have KR := hide (Blk.new1 w2 (.cells #[.slice A3 n3 c3] 27) 28 #[.slice A4 n4 c4])
 have HW := hide ((HW.out.alloc HW.out.size (.cells #[.slice A3 n3 c3] 27)).alloc (by rw [size_alloc']; exact Nat.le_succ_of_le HW.out.size) (.cells #[.slice A4 n4 c4] 28))
 have hs3 : w3.heap.size = w2.heap.size + 1 + 1 := by rw [hw3]; simp
 rw [← hw3] at K5 K6 K7 KB KR HW ⊢
 have Hs3 := hide hs3
 clear hw3 hs3
 refine range_intro rfl (enters_of Tryz.func272 (by kernel_rfl) rfl) ?_
 intro fn rec W1 hrec hW1
 obtain ⟨D, hD⟩ : ∃ D, D = w3.heap.size := ⟨_, rfl⟩
 have hs1 : W1.heap.size = D + 2 := by rw [hW1, hD]; simp
 have hL1 : W1.heap[D + 1]? = some (.loop (rec .ready none)) := by
  rw [hW1, hD]; have := World.alloc_heap_new (w3.alloc (.deferred (some []))) (.loop (rec .ready none)); rwa [World.size_alloc] at this
 have hD1 : W1.heap[D]? = some (.deferred (some [])) := by
  rw [hW1, hD]; exact (Below.heap_alloc _ _ _ (by simp)).trans (World.alloc_heap_new w3 _)
 have k5 : Blk W1 w.heap.size 3 #[.int .i64 i] := by rw [hW1]; exact (K5.out.alloc _).alloc _
 have k6 : Blk W1 (w.heap.size + 1) 204 #[.slice none 0 0] := by rw [hW1]; exact (K6.out.alloc _).alloc _
 have k7 : Blk W1 (w.heap.size + 2) 38 #[.int .i64 0] := by rw [hW1]; exact (K7.out.alloc _).alloc _
 have kB : Blk W1 w2.heap.size 27 #[.slice A3 n3 c3] := by rw [hW1]; exact (KB.out.alloc _).alloc _
 have kR : Blk W1 (w2.heap.size + 1) 28 #[.slice A4 n4 c4] := by rw [hW1]; exact (KR.out.alloc _).alloc _
 have hw1 : Below w.heap.size w W1 := by rw [hW1]; exact (HW.out.alloc HW.out.size _).alloc (by rw [size_alloc']; exact Nat.le_succ_of_le HW.out.size) _
 have hsD : w2.heap.size + 2 = D := by rw [hD, Hs3.out]
 have hws := Hws.out
 have hwD : w.heap.size ≤ D := by omega
 clear hW1 K5 K6 K7 KB KR HW Hs3 Hws
 rw [← hD]
 clear hD
 obtain ⟨J, hJd⟩ : ∃ J : Nat → World → Prop, J = fun k W => k ≤ i ∧ Below w.heap.size w W ∧ W.heap[D + 1]? = some (.loop (rec .ready none)) ∧ W.heap[D]? = some (.deferred (some [])) ∧ Blk W w.heap.size 3 #[.int .i64 i] ∧ Blk W (w.heap.size + 1) 204 #[.slice none 0 0] ∧ Blk W (w.heap.size + 2) 38 #[.int .i64 0] := ⟨_, rfl⟩
 obtain ⟨Jx, hJxd⟩ : ∃ Jx : World → Prop, Jx = fun W => W.heap[D + 1]? = some (.loop (rec .done (some .ret))) ∧ W.heap[D]? = some (.deferred (some [])) ∧ Below w.heap.size w W ∧ ∃ g, D < g ∧ g ≠ D + 1 ∧ W.cell? ⟨w.heap.size + 1, 0, none⟩ = some (.slice (some ⟨g, 0, none⟩) ld.pts.length ld.pts.length) ∧ W.cell? ⟨w.heap.size + 2, 0, none⟩ = some (.int .i64 0) ∧ PtsAt W W.heap.size (some ⟨g, 0, none⟩) ld.pts := ⟨_, rfl⟩
 have HJd := hide hJd
 have HJxd := hide hJxd
 have Hrec := hide hrec
 clear hJd hJxd hrec
 refine (HAll.out D w2.heap.size (w2.heap.size + 1) (D + 1) J Jx ?_ ?_ W1 ?_ hw1 hwD (by omega) (Nat.le_succ D) ?_ ?_ (by omega) (by omega) ?_).mono ?_
 ·intro k W W' hj hb
  rw [HJd.out] at hj ⊢
  obtain ⟨j1, j2, j3, j4, j5, j6, j7⟩ := hj
  exact ⟨j1, below_step j2 hb (Nat.le_refl _), (hb.block _ (Array.getElem?_eq_some_iff.1 j3).1).trans j3, (hb.block _ (Array.getElem?_eq_some_iff.1 j4).1).trans j4, j5.keep hb, j6.keep hb, j7.keep hb⟩
 ·intro k W hj
  rw [HJd.out] at hj
  exact ⟨_, hj.2.2.1, rfl⟩
 ·intro k ld' g m c W hj hld hm hcm hg hpts
  subst hcm
  subst hm
  rw [HJd.out] at hj
  obtain ⟨j1, j2, j3, j4, j5, j6, j7⟩ := hj
  refine yield_intro Hrec.out j3 rfl ?_
  have HA := hide (And.intro j3 (And.intro j5 (And.intro j6 j7)))
  clear j3 j5 j6 j7
  gi_wp2
  obtain ⟨j3, j5, j6, j7⟩ := HA.out
  refine ⟨_, run_beginRound j3 (by rw [Hrec.out]; rfl), ?_⟩
  obtain ⟨W2, hW2⟩ : ∃ W2, W2 = W.putObj (D + 1) (.loop { rec .ready none with state := .busy }) := ⟨_, rfl⟩
  have hDW : D + 1 < W.heap.size := (Array.getElem?_eq_some_iff.1 j3).1
  have hL2 : W2.heap[D + 1]? = some (.loop { rec .ready none with state := .busy }) := by rw [hW2]; exact World.putObj_heap_same hDW
  have o2 : ∀ b, b ≠ D + 1 → W2.heap[b]? = W.heap[b]? := fun b hb => by rw [hW2]; exact World.putObj_heap_other hb
  have k5 : Blk W2 w.heap.size 3 #[.int .i64 i] := (o2 _ (by omega)).trans j5
  have k6 : Blk W2 (w.heap.size + 1) 204 #[.slice none 0 0] := (o2 _ (by omega)).trans j6
  have k7 : Blk W2 (w.heap.size + 2) 38 #[.int .i64 0] := (o2 _ (by omega)).trans j7
  have hz2 : W2.heap.size = W.heap.size := by rw [hW2]; simp
  rw [← hW2]
  have HX := hide (And.intro hW2 (And.intro o2 hL2))
  have R5 := hide k5
  have R6 := hide k6
  have R7 := hide k7
  have c5 := k5.cell 0
  have c6 := k6.cell 0
  have c7 := k7.cell 0
  have f6 := k6.frozen 0
  have f7 := k7.frozen 0
  simp at c5 c6 c7
  have Hj := hide (And.intro j2 (And.intro j3 (And.intro j4 (And.intro j5 (And.intro j6 j7)))))
  have Hp := hide hpts
  clear hW2 o2 hL2 k5 k6 k7 j2 j3 j4 j5 j6 j7 hpts
  by_cases hki : k = i
  ·subst hki
   gi_wp2
   obtain ⟨hW2, o2, hL2⟩ := HX.out
   obtain ⟨j2, j3, j4, j5, j6, j7⟩ := Hj.out
   have hlds : ld' = ld := by have h9 := Hi.out; rw [hld] at h9; injection h9
   subst hlds
   obtain ⟨sv, hsv⟩ : ∃ sv, sv = Value.slice (some ⟨g, 0, none⟩) ld'.pts.length ld'.pts.length := ⟨_, rfl⟩
   rw [← hsv]
   have o5 : ∀ b, b ≠ w.heap.size + 1 → b ≠ w.heap.size + 2 → ((W2.setCell ⟨w.heap.size + 1, 0, none⟩ sv).setCell ⟨w.heap.size + 2, 0, none⟩ (.int .i64 0)).heap[b]? = W2.heap[b]? := fun b h1 h2 => (Below.heap_setCell _ _ _ b h2).trans (Below.heap_setCell _ _ _ b h1)
   have hL5 := (o5 (D + 1) (by omega) (by omega)).trans hL2
   obtain ⟨W5, hW5⟩ : ∃ W5, W5 = (W2.setCell ⟨w.heap.size + 1, 0, none⟩ sv).setCell ⟨w.heap.size + 2, 0, none⟩ (.int .i64 0) := ⟨_, rfl⟩
   have q6 : Blk W5 (w.heap.size + 1) 204 #[sv] := by
    rw [hW5]
    have h9 := (R6.out.set_ 0 sv).far (p := ⟨w.heap.size + 2, 0, none⟩) (by show w.heap.size + 1 ≠ w.heap.size + 2; omega) (.int .i64 0)
    simpa using h9
   have q7 : Blk W5 (w.heap.size + 2) 38 #[.int .i64 0] := by
    rw [hW5]
    have h9 := (R7.out.far (p := ⟨w.heap.size + 1, 0, none⟩) (by show w.heap.size + 2 ≠ w.heap.size + 1; omega) sv).set_ 0 (.int .i64 0)
    simpa using h9
   have hB5 : Below w.heap.size w W5 := by
    rw [hW5, hW2]
    exact ((j2.trans ((Below.refl w.heap.size W).grown (grownBy_putObj' W (D + 1) _) j2.size (fun r e => by cases e; omega))).setCell (p := ⟨w.heap.size + 1, 0, none⟩) (Nat.le_succ _) _).setCell (p := ⟨w.heap.size + 2, 0, none⟩) (by show w.heap.size ≤ w.heap.size + 2; omega) _
   have hz5 : W5.heap.size = W.heap.size := by rw [hW5]; simp only [zzG]; exact hz2
   have o5' : ∀ b, b ≠ w.heap.size + 1 → b ≠ w.heap.size + 2 → W5.heap[b]? = W2.heap[b]? := by rw [hW5]; exact o5
   rw [← hW5] at hL5
   show roundPost _ _ _ _ _ ((W2.setCell ⟨w.heap.size + 1, 0, none⟩ sv).setCell ⟨w.heap.size + 2, 0, none⟩ (.int .i64 0))
   rw [← hW5]
   clear hW5 o5 hW2
   refine ⟨_, _, run_endRound (some .ret) hL5, .inr ⟨rfl, ?_⟩⟩
   rw [HJxd.out]
   have hrc : ({ { rec .ready none with state := .busy } with state := if (some Code.ret).isNone then LoopState.ready else LoopState.done, pending := some Code.ret } : Loop) = rec .done (some .ret) := by rw [Hrec.out]; rfl
   have oo : ∀ b, b ≠ D + 1 → (W5.putObj (D + 1) (.loop { { rec .ready none with state := .busy } with state := if (some Code.ret).isNone then LoopState.ready else LoopState.done, pending := some Code.ret })).heap[b]? = W5.heap[b]? := fun b hb => World.putObj_heap_other hb
   refine ⟨?_, (oo D (by omega)).trans ((o5' D (by omega) (by omega)).trans ((o2 D (by omega)).trans j4)), hB5.grown (grownBy_putObj' _ _ _) hB5.size (fun r e => by cases e; omega), g, by omega, by omega, ?_, ?_, ?_⟩
   ·rw [World.putObj_heap_same (by rw [hz5]; exact hDW), hrc]
   ·have h9 := q6.cell 0
    rw [← hsv]
    exact (World.cell?_of_block (a := ⟨w.heap.size + 1, 0, none⟩) (oo (w.heap.size + 1) (by omega))).trans (by simpa using h9)
   ·have h9 := q7.cell 0
    exact (World.cell?_of_block (a := ⟨w.heap.size + 2, 0, none⟩) (oo (w.heap.size + 2) (by omega))).trans (by simpa using h9)
   ·exact SlOf.block Hp.out ((oo g (by omega)).trans ((o5' g (by omega) (by omega)).trans (o2 g (by omega)))) (by simp [hz5])
  ·have hki2 : ((k : Int) == (i : Int)) = false := by simp; omega
   have hki3 : (k == i) = false := by simpa using hki
   gi_wp2
   obtain ⟨hW2, o2, hL2⟩ := HX.out
   obtain ⟨j2, j3, j4, j5, j6, j7⟩ := Hj.out
   refine ⟨_, _, run_endRound none hL2, .inl ⟨rfl, ?_, ?_⟩⟩
   ·rw [HJd.out]
    have hrc : ({ { rec .ready none with state := .busy } with state := if (none : Option Code).isNone then LoopState.ready else LoopState.done, pending := none } : Loop) = rec .ready none := by rw [Hrec.out]; rfl
    have oo : ∀ b, b ≠ D + 1 → (W2.putObj (D + 1) (.loop { { rec .ready none with state := .busy } with state := if (none : Option Code).isNone then LoopState.ready else LoopState.done, pending := none })).heap[b]? = W2.heap[b]? := fun b hb => World.putObj_heap_other hb
    have hB2 : Below w.heap.size w W2 := by
     rw [hW2]
     exact j2.trans ((Below.refl w.heap.size W).grown (grownBy_putObj' W (D + 1) _) j2.size (fun r e => by cases e; omega))
    refine ⟨by omega, hB2.grown (grownBy_putObj' _ _ _) hB2.size (fun r e => by cases e; omega), ?_, (oo D (by omega)).trans ((o2 D (by omega)).trans j4), (oo _ (by omega)).trans R5.out, (oo _ (by omega)).trans R6.out, (oo _ (by omega)).trans R7.out⟩
    rw [World.putObj_heap_same (by rw [hz2]; exact hDW), hrc]
   ·refine ⟨?_, ?_, ?_, by simp [hz2], fun b hb hne => ?_⟩
    ·rw [hW2]; rfl
    ·rw [hW2]; rfl
    ·rw [hW2]; rfl
    ·have hb1 : b ≠ D + 1 := fun h9 => hne (by rw [h9])
     exact (World.putObj_heap_other hb1).trans (o2 b hb1)
 ·have := kB.cell 0
  simpa using this
 ·have := kR.cell 0
  simpa using this
 ·rw [HJd.out]
  exact ⟨Nat.zero_le _, hw1, hL1, hD1, k5, k6, k7⟩
 ·rintro e W5 ⟨hv, hJf | hJf⟩
  ·rw [HJd.out] at hJf
   have := lt_of_get Hi.out
   omega
  ·rw [HJxd.out] at hJf
   obtain ⟨j1, j2, j3, g, hgD, hgL, j4, j5, j6⟩ := hJf
   have o1 : ∀ b, b ≠ D + 1 → b ≠ D → ((W5.putObj (D + 1) (.loop (rec .exhausted (some .ret)))).putObj D (.deferred none)).heap[b]? = W5.heap[b]? := fun b h1 h2 => (World.putObj_heap_other h2).trans (World.putObj_heap_other h1)
   have hD5 : D < W5.heap.size := (Array.getElem?_eq_some_iff.1 j2).1
   have oA := o1 (w.heap.size + 1) (by omega) (by omega)
   have oB := o1 (w.heap.size + 2) (by omega) (by omega)
   refine ⟨hv, j1, by simp, .inl ⟨_, _, rfl, run_takeDeferred (show (W5.putObj (D + 1) (.loop (rec .exhausted (some .ret)))).heap[D]? = some (.deferred (some [])) from (World.putObj_heap_other (by omega)).trans j2), ?_⟩⟩
   refine ⟨_, results_cc1 (gp := w.heap.size + 1) (gq := w.heap.size + 2) rfl rfl rfl ((World.cell?_of_block (a := ⟨w.heap.size + 1, 0, none⟩) oA).trans j4) ((World.cell?_of_block (a := ⟨w.heap.size + 2, 0, none⟩) oB).trans j5) Tryz.underlying204 Tryz.underlying38 rfl rfl, some ⟨g, 0, none⟩, rfl, ?_, ?_⟩
   ·exact SlOf.block j6 (o1 _ hgL (by omega)) (by simp)
   ·refine ⟨j3.os, j3.tape, j3.output, by simpa using j3.size, fun b hb => (o1 b (by omega) (by omega)).trans (j3.block b hb)⟩
noncomputable def sameOps : List Oper := opsOf Tryz.f27 4
noncomputable def sameBase (c0 c1 p2 p3 p5 p6 f7 f8 u9 u10 u11 u12 : Value) : List Value := [c0, c1, p2, p3, .bool false, p5, p6, f7, f8, u9, u10, u11, u12]
def SameDone (R : Bool) (w : World) (Q : Exit → Act → World → Prop) : Prop := ∀ (a' : Act) (w' : World), a'.tmps.getD 4 undef = .bool R → a'.defers = [] → Below w.heap.size w w' → Q .normal a' w'
set_option maxHeartbeats 4000000 in
set_option maxRecDepth 100000 in
theorem same_chain (x y : DetD) (s t : DetS) (w w3 : World) (Q : Exit → Act → World → Prop) (g2 g3 g5 g6 : Nat) (c0 c1 u9 u10 u11 u12 : Value) (CX CY : Array Value)
  (H1 : ∀ W, Below w.heap.size w W → Calls Tryz.prog 68 #[.slice s.a1 s.n1 s.c1, .slice t.a1 t.n1 t.c1] W fun e w' => e = .returned (.bool (sameL eqBox x.mem.boxes y.mem.boxes)) ∧ Below W.heap.size W w')
  (H2 : ∀ W, Below w.heap.size w W → Calls Tryz.prog 68 #[.slice s.a2 s.n2 s.c2, .slice t.a2 t.n2 t.c2] W fun e w' => e = .returned (.bool (sameL eqBox x.mem.holes y.mem.holes)) ∧ Below W.heap.size W w')
  (H3 : ∀ W, Below w.heap.size w W → Calls Tryz.prog 69 #[.slice s.a3 s.n3 s.c3, .slice t.a3 t.n3 t.c3, .func (.func 64) #[] #[]] W fun e w' => e = .returned (.bool (sameL eqBar x.bars y.bars)) ∧ Below W.heap.size W w')
  (H4 : ∀ W, Below w.heap.size w W → Calls Tryz.prog 70 #[.slice s.a4 s.n4 s.c4, .slice t.a4 t.n4 t.c4] W fun e w' => e = .returned (.bool (sameL eqRun x.runs y.runs)) ∧ Below W.heap.size W w')
  (H5 : ∀ W, Below w.heap.size w W → Calls Tryz.prog 71 #[.slice s.a5 s.n5 s.c5, .slice t.a5 t.n5 t.c5] W fun e w' => e = .returned (.bool (sameL eqJoin x.laps y.laps)) ∧ Below W.heap.size W w')
  (H6 : ∀ W, Below w.heap.size w W → Calls Tryz.prog 72 #[.slice s.a6 s.n6 s.c6, .slice t.a6 t.n6 t.c6, .func (.func 66) #[] #[]] W fun e w' => e = .returned (.bool (sameL eqDem x.dems y.dems)) ∧ Below W.heap.size W w')
  (HR : ∀ W : World, (binOp .eql 32 (rlV x.rule) (rlV y.rule)).run Tryz.prog W = .ok (.bool (eqRule x.rule y.rule)) W)
  (HCX : ∀ (k : Nat) (v : Value), ([.string x.mem.name, .slice s.a1 s.n1 s.c1, .slice s.a2 s.n2 s.c2, .int .i64 x.mem.cover, .int .i64 x.mem.aggregate, .int .i64 x.mem.poker, .slice s.a3 s.n3 s.c3, .slice s.a4 s.n4 s.c4, .slice s.a5 s.n5 s.c5, .slice s.a6 s.n6 s.c6, .int .i64 x.rule.num, .int .i64 x.rule.den, .int .i64 x.rule.poorNum, .int .i64 x.rule.poorDen, .int .i64 x.rule.bendNum, .int .i64 x.rule.bendDen, .int .i64 x.rule.lapNum, .int .i64 x.rule.lapDen, .int .i64 x.rule.least] : List Value)[k]? = some v → CX[k]? = some v)
  (HCY : ∀ (k : Nat) (v : Value), ([.string y.mem.name, .slice t.a1 t.n1 t.c1, .slice t.a2 t.n2 t.c2, .int .i64 y.mem.cover, .int .i64 y.mem.aggregate, .int .i64 y.mem.poker, .slice t.a3 t.n3 t.c3, .slice t.a4 t.n4 t.c4, .slice t.a5 t.n5 t.c5, .slice t.a6 t.n6 t.c6, .int .i64 y.rule.num, .int .i64 y.rule.den, .int .i64 y.rule.poorNum, .int .i64 y.rule.poorDen, .int .i64 y.rule.bendNum, .int .i64 y.rule.bendDen, .int .i64 y.rule.lapNum, .int .i64 y.rule.lapDen, .int .i64 y.rule.least] : List Value)[k]? = some v → CY[k]? = some v)
  (HW : Below w.heap.size w w3) (KX : Blk w3 g2 34 CX) (KY : Blk w3 g3 34 CY)
  (K5 : Blk w3 g5 26 #[.string x.mem.name, .slice s.a1 s.n1 s.c1, .slice s.a2 s.n2 s.c2, .int .i64 x.mem.cover, .int .i64 x.mem.aggregate, .int .i64 x.mem.poker])
  (K6 : Blk w3 g6 26 #[.string y.mem.name, .slice t.a1 t.n1 t.c1, .slice t.a2 t.n2 t.c2, .int .i64 y.mem.cover, .int .i64 y.mem.aggregate, .int .i64 y.mem.poker])
  (hQ : SameDone (eqDet x y) w Q) :
  AtOp Tryz.prog sameOps Q 0 (frm (sameBase c0 c1 (.pointer (some ⟨g2, 0, none⟩)) (.pointer (some ⟨g3, 0, none⟩)) (.pointer (some ⟨g5, 0, none⟩)) (.pointer (some ⟨g6, 0, none⟩)) (.func (.func 64) #[] #[]) (.func (.func 66) #[] #[]) u9 u10 u11 u12) 94 []) w3 := by
 have Hd : eqDet x y = ((x.mem.name.toList == y.mem.name.toList) && ((x.mem.cover == y.mem.cover) && ((x.mem.aggregate == y.mem.aggregate) && ((x.mem.poker == y.mem.poker) && (sameL eqBox x.mem.boxes y.mem.boxes && sameL eqBox x.mem.holes y.mem.holes)))) && (sameL eqBar x.bars y.bars && (sameL eqRun x.runs y.runs && (sameL eqJoin x.laps y.laps && (sameL eqDem x.dems y.dems && eqRule x.rule y.rule))))) := rfl
 generalize eqDet x y = R at *
 refine at_valF 0 (.pointer (some ⟨g5, 0, none⟩)) (by kernel_rfl) (by kernel_rfl) (by kernel_rfl) (by kernel_rfl) (by kernel_rfl) ?_
 refine at_valF 1 (.string x.mem.name) (by kernel_rfl) (by kernel_rfl) (by kernel_rfl) (by kernel_rfl) (run_load_at 9 (.tmp 13) ⟨g5, 0, none⟩ _ (by kernel_rfl) (by kernel_rfl) (by rw [K5.cell 0]; rfl) Tryz.isAgg9) ?_
 refine at_valF 2 (.pointer (some ⟨g6, 0, none⟩)) (by kernel_rfl) (by kernel_rfl) (by kernel_rfl) (by kernel_rfl) (by kernel_rfl) ?_
 refine at_valF 3 (.string y.mem.name) (by kernel_rfl) (by kernel_rfl) (by kernel_rfl) (by kernel_rfl) (run_load_at 9 (.tmp 15) ⟨g6, 0, none⟩ _ (by kernel_rfl) (by kernel_rfl) (by rw [K6.cell 0]; rfl) Tryz.isAgg9) ?_
 cases p0 : (x.mem.name.toList == y.mem.name.toList)
 ·refine at_valF 4 (.bool false) (by kernel_rfl) (by kernel_rfl) (by kernel_rfl) (by kernel_rfl) (ok_bool (b := (x.mem.name.toList == y.mem.name.toList)) (by kernel_rfl) p0) ?_
  refine at_tailEnd 5 81 4 (.bool false) (by kernel_rfl) (by kernel_rfl) (by kernel_rfl) (by kernel_rfl) (by kernel_rfl) (by kernel_rfl) (fun a' h1 h2 => hQ a' _ (by rw [h1, Hd, p0]; simp) h2 HW)
 refine at_valF 4 (.bool true) (by kernel_rfl) (by kernel_rfl) (by kernel_rfl) (by kernel_rfl) (ok_bool (b := (x.mem.name.toList == y.mem.name.toList)) (by kernel_rfl) p0) ?_
 refine at_valF 5 (.bool true) (by kernel_rfl) (by kernel_rfl) (by kernel_rfl) (by kernel_rfl) (by kernel_rfl) ?_
 refine at_valF 6 (.pointer (some ⟨g5, 3, none⟩)) (by kernel_rfl) (by kernel_rfl) (by kernel_rfl) (by kernel_rfl) (by kernel_rfl) ?_
 refine at_valF 7 (.int .i64 x.mem.cover) (by kernel_rfl) (by kernel_rfl) (by kernel_rfl) (by kernel_rfl) (run_load_at 3 (.tmp 19) ⟨g5, 3, none⟩ _ (by kernel_rfl) (by kernel_rfl) (by rw [K5.cell 3]; rfl) Tryz.isAgg3) ?_
 refine at_valF 8 (.pointer (some ⟨g6, 3, none⟩)) (by kernel_rfl) (by kernel_rfl) (by kernel_rfl) (by kernel_rfl) (by kernel_rfl) ?_
 refine at_valF 9 (.int .i64 y.mem.cover) (by kernel_rfl) (by kernel_rfl) (by kernel_rfl) (by kernel_rfl) (run_load_at 3 (.tmp 21) ⟨g6, 3, none⟩ _ (by kernel_rfl) (by kernel_rfl) (by rw [K6.cell 3]; rfl) Tryz.isAgg3) ?_
 cases p1 : (x.mem.cover == y.mem.cover)
 ·refine at_valF 10 (.bool false) (by kernel_rfl) (by kernel_rfl) (by kernel_rfl) (by kernel_rfl) (ok_bool (b := (x.mem.cover == y.mem.cover)) (by kernel_rfl) p1) ?_
  refine at_tailEnd 11 81 4 (.bool false) (by kernel_rfl) (by kernel_rfl) (by kernel_rfl) (by kernel_rfl) (by kernel_rfl) (by kernel_rfl) (fun a' h1 h2 => hQ a' _ (by rw [h1, Hd, p0, p1]; simp) h2 HW)
 refine at_valF 10 (.bool true) (by kernel_rfl) (by kernel_rfl) (by kernel_rfl) (by kernel_rfl) (ok_bool (b := (x.mem.cover == y.mem.cover)) (by kernel_rfl) p1) ?_
 refine at_valF 11 (.bool true) (by kernel_rfl) (by kernel_rfl) (by kernel_rfl) (by kernel_rfl) (by kernel_rfl) ?_
 refine at_valF 12 (.bool true) (by kernel_rfl) (by kernel_rfl) (by kernel_rfl) (by kernel_rfl) (by kernel_rfl) ?_
 refine at_valF 13 (.pointer (some ⟨g5, 4, none⟩)) (by kernel_rfl) (by kernel_rfl) (by kernel_rfl) (by kernel_rfl) (by kernel_rfl) ?_
 refine at_valF 14 (.int .i64 x.mem.aggregate) (by kernel_rfl) (by kernel_rfl) (by kernel_rfl) (by kernel_rfl) (run_load_at 3 (.tmp 26) ⟨g5, 4, none⟩ _ (by kernel_rfl) (by kernel_rfl) (by rw [K5.cell 4]; rfl) Tryz.isAgg3) ?_
 refine at_valF 15 (.pointer (some ⟨g6, 4, none⟩)) (by kernel_rfl) (by kernel_rfl) (by kernel_rfl) (by kernel_rfl) (by kernel_rfl) ?_
 refine at_valF 16 (.int .i64 y.mem.aggregate) (by kernel_rfl) (by kernel_rfl) (by kernel_rfl) (by kernel_rfl) (run_load_at 3 (.tmp 28) ⟨g6, 4, none⟩ _ (by kernel_rfl) (by kernel_rfl) (by rw [K6.cell 4]; rfl) Tryz.isAgg3) ?_
 cases p2 : (x.mem.aggregate == y.mem.aggregate)
 ·refine at_valF 17 (.bool false) (by kernel_rfl) (by kernel_rfl) (by kernel_rfl) (by kernel_rfl) (ok_bool (b := (x.mem.aggregate == y.mem.aggregate)) (by kernel_rfl) p2) ?_
  refine at_tailEnd 18 81 4 (.bool false) (by kernel_rfl) (by kernel_rfl) (by kernel_rfl) (by kernel_rfl) (by kernel_rfl) (by kernel_rfl) (fun a' h1 h2 => hQ a' _ (by rw [h1, Hd, p0, p1, p2]; simp) h2 HW)
 refine at_valF 17 (.bool true) (by kernel_rfl) (by kernel_rfl) (by kernel_rfl) (by kernel_rfl) (ok_bool (b := (x.mem.aggregate == y.mem.aggregate)) (by kernel_rfl) p2) ?_
 refine at_valF 18 (.bool true) (by kernel_rfl) (by kernel_rfl) (by kernel_rfl) (by kernel_rfl) (by kernel_rfl) ?_
 refine at_valF 19 (.bool true) (by kernel_rfl) (by kernel_rfl) (by kernel_rfl) (by kernel_rfl) (by kernel_rfl) ?_
 refine at_valF 20 (.pointer (some ⟨g5, 5, none⟩)) (by kernel_rfl) (by kernel_rfl) (by kernel_rfl) (by kernel_rfl) (by kernel_rfl) ?_
 refine at_valF 21 (.int .i64 x.mem.poker) (by kernel_rfl) (by kernel_rfl) (by kernel_rfl) (by kernel_rfl) (run_load_at 3 (.tmp 33) ⟨g5, 5, none⟩ _ (by kernel_rfl) (by kernel_rfl) (by rw [K5.cell 5]; rfl) Tryz.isAgg3) ?_
 refine at_valF 22 (.pointer (some ⟨g6, 5, none⟩)) (by kernel_rfl) (by kernel_rfl) (by kernel_rfl) (by kernel_rfl) (by kernel_rfl) ?_
 refine at_valF 23 (.int .i64 y.mem.poker) (by kernel_rfl) (by kernel_rfl) (by kernel_rfl) (by kernel_rfl) (run_load_at 3 (.tmp 35) ⟨g6, 5, none⟩ _ (by kernel_rfl) (by kernel_rfl) (by rw [K6.cell 5]; rfl) Tryz.isAgg3) ?_
 cases p3 : (x.mem.poker == y.mem.poker)
 ·refine at_valF 24 (.bool false) (by kernel_rfl) (by kernel_rfl) (by kernel_rfl) (by kernel_rfl) (ok_bool (b := (x.mem.poker == y.mem.poker)) (by kernel_rfl) p3) ?_
  refine at_tailEnd 25 81 4 (.bool false) (by kernel_rfl) (by kernel_rfl) (by kernel_rfl) (by kernel_rfl) (by kernel_rfl) (by kernel_rfl) (fun a' h1 h2 => hQ a' _ (by rw [h1, Hd, p0, p1, p2, p3]; simp) h2 HW)
 refine at_valF 24 (.bool true) (by kernel_rfl) (by kernel_rfl) (by kernel_rfl) (by kernel_rfl) (ok_bool (b := (x.mem.poker == y.mem.poker)) (by kernel_rfl) p3) ?_
 refine at_valF 25 (.bool true) (by kernel_rfl) (by kernel_rfl) (by kernel_rfl) (by kernel_rfl) (by kernel_rfl) ?_
 refine at_valF 26 (.bool true) (by kernel_rfl) (by kernel_rfl) (by kernel_rfl) (by kernel_rfl) (by kernel_rfl) ?_
 refine at_valF 27 (.pointer (some ⟨g5, 1, none⟩)) (by kernel_rfl) (by kernel_rfl) (by kernel_rfl) (by kernel_rfl) (by kernel_rfl) ?_
 refine at_valF 28 (.pointer (some ⟨g5, 1, none⟩)) (by kernel_rfl) (by kernel_rfl) (by kernel_rfl) (by kernel_rfl) (by kernel_rfl) ?_
 refine at_valF 29 (.slice s.a1 s.n1 s.c1) (by kernel_rfl) (by kernel_rfl) (by kernel_rfl) (by kernel_rfl) (run_load_at 22 (.tmp 41) ⟨g5, 1, none⟩ _ (by kernel_rfl) (by kernel_rfl) (by rw [K5.cell 1]; rfl) Tryz.isAgg22) ?_
 refine at_valF 30 (.pointer (some ⟨g6, 1, none⟩)) (by kernel_rfl) (by kernel_rfl) (by kernel_rfl) (by kernel_rfl) (by kernel_rfl) ?_
 refine at_valF 31 (.pointer (some ⟨g6, 1, none⟩)) (by kernel_rfl) (by kernel_rfl) (by kernel_rfl) (by kernel_rfl) (by kernel_rfl) ?_
 refine at_valF 32 (.slice t.a1 t.n1 t.c1) (by kernel_rfl) (by kernel_rfl) (by kernel_rfl) (by kernel_rfl) (run_load_at 22 (.tmp 44) ⟨g6, 1, none⟩ _ (by kernel_rfl) (by kernel_rfl) (by rw [K6.cell 1]; rfl) Tryz.isAgg22) ?_
 refine at_callF 33 68 #[.slice s.a1 s.n1 s.c1, .slice t.a1 t.n1 t.c1] (by kernel_rfl) (by kernel_rfl) (by kernel_rfl) (by kernel_rfl) (by kernel_rfl) (H1 _ HW) ?_
 rintro e v1 ⟨rfl, hb⟩
 replace HW := below_step HW hb (Nat.le_refl _)
 replace KX := KX.keep hb
 replace KY := KY.keep hb
 replace K5 := K5.keep hb
 replace K6 := K6.keep hb
 clear hb
 cases q1 : sameL eqBox x.mem.boxes y.mem.boxes
 ·refine ⟨.bool false, rfl, ?_⟩
  refine at_tailEnd 34 81 4 (.bool false) (by kernel_rfl) (by kernel_rfl) (by kernel_rfl) (by kernel_rfl) (by kernel_rfl) (by kernel_rfl) (fun a' h1 h2 => hQ a' _ (by rw [h1, Hd, p0, p1, p2, p3, q1]; simp) h2 HW)
 refine ⟨.bool true, rfl, ?_⟩
 refine at_valF 34 (.bool true) (by kernel_rfl) (by kernel_rfl) (by kernel_rfl) (by kernel_rfl) (by kernel_rfl) ?_
 refine at_valF 35 (.bool true) (by kernel_rfl) (by kernel_rfl) (by kernel_rfl) (by kernel_rfl) (by kernel_rfl) ?_
 refine at_valF 36 (.pointer (some ⟨g5, 1, none⟩)) (by kernel_rfl) (by kernel_rfl) (by kernel_rfl) (by kernel_rfl) (by kernel_rfl) ?_
 refine at_valF 37 (.pointer (some ⟨g5, 2, none⟩)) (by kernel_rfl) (by kernel_rfl) (by kernel_rfl) (by kernel_rfl) (by kernel_rfl) ?_
 refine at_valF 38 (.slice s.a2 s.n2 s.c2) (by kernel_rfl) (by kernel_rfl) (by kernel_rfl) (by kernel_rfl) (run_load_at 22 (.tmp 50) ⟨g5, 2, none⟩ _ (by kernel_rfl) (by kernel_rfl) (by rw [K5.cell 2]; rfl) Tryz.isAgg22) ?_
 refine at_valF 39 (.pointer (some ⟨g6, 1, none⟩)) (by kernel_rfl) (by kernel_rfl) (by kernel_rfl) (by kernel_rfl) (by kernel_rfl) ?_
 refine at_valF 40 (.pointer (some ⟨g6, 2, none⟩)) (by kernel_rfl) (by kernel_rfl) (by kernel_rfl) (by kernel_rfl) (by kernel_rfl) ?_
 refine at_valF 41 (.slice t.a2 t.n2 t.c2) (by kernel_rfl) (by kernel_rfl) (by kernel_rfl) (by kernel_rfl) (run_load_at 22 (.tmp 53) ⟨g6, 2, none⟩ _ (by kernel_rfl) (by kernel_rfl) (by rw [K6.cell 2]; rfl) Tryz.isAgg22) ?_
 refine at_callF 42 68 #[.slice s.a2 s.n2 s.c2, .slice t.a2 t.n2 t.c2] (by kernel_rfl) (by kernel_rfl) (by kernel_rfl) (by kernel_rfl) (by kernel_rfl) (H2 _ HW) ?_
 rintro e v2 ⟨rfl, hb⟩
 replace HW := below_step HW hb (Nat.le_refl _)
 replace KX := KX.keep hb
 replace KY := KY.keep hb
 replace K5 := K5.keep hb
 replace K6 := K6.keep hb
 clear hb
 cases q2 : sameL eqBox x.mem.holes y.mem.holes
 ·refine ⟨.bool false, rfl, ?_⟩
  refine at_tailEnd 43 81 4 (.bool false) (by kernel_rfl) (by kernel_rfl) (by kernel_rfl) (by kernel_rfl) (by kernel_rfl) (by kernel_rfl) (fun a' h1 h2 => hQ a' _ (by rw [h1, Hd, p0, p1, p2, p3, q1, q2]; simp) h2 HW)
 refine ⟨.bool true, rfl, ?_⟩
 refine at_valF 43 (.bool true) (by kernel_rfl) (by kernel_rfl) (by kernel_rfl) (by kernel_rfl) (by kernel_rfl) ?_
 refine at_valF 44 (.bool true) (by kernel_rfl) (by kernel_rfl) (by kernel_rfl) (by kernel_rfl) (by kernel_rfl) ?_
 refine at_valF 45 (.pointer (some ⟨g2, 6, none⟩)) (by kernel_rfl) (by kernel_rfl) (by kernel_rfl) (by kernel_rfl) (by kernel_rfl) ?_
 refine at_valF 46 (.slice s.a3 s.n3 s.c3) (by kernel_rfl) (by kernel_rfl) (by kernel_rfl) (by kernel_rfl) (run_load_at 27 (.tmp 58) ⟨g2, 6, none⟩ _ (by kernel_rfl) (by kernel_rfl) (by rw [KX.cell 6]; exact HCX 6 _ rfl) Tryz.isAgg27) ?_
 refine at_valF 47 (.pointer (some ⟨g3, 6, none⟩)) (by kernel_rfl) (by kernel_rfl) (by kernel_rfl) (by kernel_rfl) (by kernel_rfl) ?_
 refine at_valF 48 (.slice t.a3 t.n3 t.c3) (by kernel_rfl) (by kernel_rfl) (by kernel_rfl) (by kernel_rfl) (run_load_at 27 (.tmp 60) ⟨g3, 6, none⟩ _ (by kernel_rfl) (by kernel_rfl) (by rw [KY.cell 6]; exact HCY 6 _ rfl) Tryz.isAgg27) ?_
 refine at_valF 49 (.func (.func 64) #[] #[]) (by kernel_rfl) (by kernel_rfl) (by kernel_rfl) (by kernel_rfl) (by kernel_rfl) ?_
 refine at_callF 50 69 #[.slice s.a3 s.n3 s.c3, .slice t.a3 t.n3 t.c3, .func (.func 64) #[] #[]] (by kernel_rfl) (by kernel_rfl) (by kernel_rfl) (by kernel_rfl) (by kernel_rfl) (H3 _ HW) ?_
 rintro e v3 ⟨rfl, hb⟩
 replace HW := below_step HW hb (Nat.le_refl _)
 replace KX := KX.keep hb
 replace KY := KY.keep hb
 replace K5 := K5.keep hb
 replace K6 := K6.keep hb
 clear hb
 cases q3 : sameL eqBar x.bars y.bars
 ·refine ⟨.bool false, rfl, ?_⟩
  refine at_tailEnd 51 81 4 (.bool false) (by kernel_rfl) (by kernel_rfl) (by kernel_rfl) (by kernel_rfl) (by kernel_rfl) (by kernel_rfl) (fun a' h1 h2 => hQ a' _ (by rw [h1, Hd, p0, p1, p2, p3, q1, q2, q3]; simp) h2 HW)
 refine ⟨.bool true, rfl, ?_⟩
 refine at_valF 51 (.bool true) (by kernel_rfl) (by kernel_rfl) (by kernel_rfl) (by kernel_rfl) (by kernel_rfl) ?_
 refine at_valF 52 (.bool true) (by kernel_rfl) (by kernel_rfl) (by kernel_rfl) (by kernel_rfl) (by kernel_rfl) ?_
 refine at_valF 53 (.pointer (some ⟨g2, 7, none⟩)) (by kernel_rfl) (by kernel_rfl) (by kernel_rfl) (by kernel_rfl) (by kernel_rfl) ?_
 refine at_valF 54 (.slice s.a4 s.n4 s.c4) (by kernel_rfl) (by kernel_rfl) (by kernel_rfl) (by kernel_rfl) (run_load_at 28 (.tmp 66) ⟨g2, 7, none⟩ _ (by kernel_rfl) (by kernel_rfl) (by rw [KX.cell 7]; exact HCX 7 _ rfl) Tryz.isAgg28) ?_
 refine at_valF 55 (.pointer (some ⟨g3, 7, none⟩)) (by kernel_rfl) (by kernel_rfl) (by kernel_rfl) (by kernel_rfl) (by kernel_rfl) ?_
 refine at_valF 56 (.slice t.a4 t.n4 t.c4) (by kernel_rfl) (by kernel_rfl) (by kernel_rfl) (by kernel_rfl) (run_load_at 28 (.tmp 68) ⟨g3, 7, none⟩ _ (by kernel_rfl) (by kernel_rfl) (by rw [KY.cell 7]; exact HCY 7 _ rfl) Tryz.isAgg28) ?_
 refine at_callF 57 70 #[.slice s.a4 s.n4 s.c4, .slice t.a4 t.n4 t.c4] (by kernel_rfl) (by kernel_rfl) (by kernel_rfl) (by kernel_rfl) (by kernel_rfl) (H4 _ HW) ?_
 rintro e v4 ⟨rfl, hb⟩
 replace HW := below_step HW hb (Nat.le_refl _)
 replace KX := KX.keep hb
 replace KY := KY.keep hb
 replace K5 := K5.keep hb
 replace K6 := K6.keep hb
 clear hb
 cases q4 : sameL eqRun x.runs y.runs
 ·refine ⟨.bool false, rfl, ?_⟩
  refine at_tailEnd 58 81 4 (.bool false) (by kernel_rfl) (by kernel_rfl) (by kernel_rfl) (by kernel_rfl) (by kernel_rfl) (by kernel_rfl) (fun a' h1 h2 => hQ a' _ (by rw [h1, Hd, p0, p1, p2, p3, q1, q2, q3, q4]; simp) h2 HW)
 refine ⟨.bool true, rfl, ?_⟩
 refine at_valF 58 (.bool true) (by kernel_rfl) (by kernel_rfl) (by kernel_rfl) (by kernel_rfl) (by kernel_rfl) ?_
 refine at_valF 59 (.bool true) (by kernel_rfl) (by kernel_rfl) (by kernel_rfl) (by kernel_rfl) (by kernel_rfl) ?_
 refine at_valF 60 (.pointer (some ⟨g2, 8, none⟩)) (by kernel_rfl) (by kernel_rfl) (by kernel_rfl) (by kernel_rfl) (by kernel_rfl) ?_
 refine at_valF 61 (.slice s.a5 s.n5 s.c5) (by kernel_rfl) (by kernel_rfl) (by kernel_rfl) (by kernel_rfl) (run_load_at 29 (.tmp 73) ⟨g2, 8, none⟩ _ (by kernel_rfl) (by kernel_rfl) (by rw [KX.cell 8]; exact HCX 8 _ rfl) Tryz.isAgg29) ?_
 refine at_valF 62 (.pointer (some ⟨g3, 8, none⟩)) (by kernel_rfl) (by kernel_rfl) (by kernel_rfl) (by kernel_rfl) (by kernel_rfl) ?_
 refine at_valF 63 (.slice t.a5 t.n5 t.c5) (by kernel_rfl) (by kernel_rfl) (by kernel_rfl) (by kernel_rfl) (run_load_at 29 (.tmp 75) ⟨g3, 8, none⟩ _ (by kernel_rfl) (by kernel_rfl) (by rw [KY.cell 8]; exact HCY 8 _ rfl) Tryz.isAgg29) ?_
 refine at_callF 64 71 #[.slice s.a5 s.n5 s.c5, .slice t.a5 t.n5 t.c5] (by kernel_rfl) (by kernel_rfl) (by kernel_rfl) (by kernel_rfl) (by kernel_rfl) (H5 _ HW) ?_
 rintro e v5 ⟨rfl, hb⟩
 replace HW := below_step HW hb (Nat.le_refl _)
 replace KX := KX.keep hb
 replace KY := KY.keep hb
 replace K5 := K5.keep hb
 replace K6 := K6.keep hb
 clear hb
 cases q5 : sameL eqJoin x.laps y.laps
 ·refine ⟨.bool false, rfl, ?_⟩
  refine at_tailEnd 65 81 4 (.bool false) (by kernel_rfl) (by kernel_rfl) (by kernel_rfl) (by kernel_rfl) (by kernel_rfl) (by kernel_rfl) (fun a' h1 h2 => hQ a' _ (by rw [h1, Hd, p0, p1, p2, p3, q1, q2, q3, q4, q5]; simp) h2 HW)
 refine ⟨.bool true, rfl, ?_⟩
 refine at_valF 65 (.bool true) (by kernel_rfl) (by kernel_rfl) (by kernel_rfl) (by kernel_rfl) (by kernel_rfl) ?_
 refine at_valF 66 (.bool true) (by kernel_rfl) (by kernel_rfl) (by kernel_rfl) (by kernel_rfl) (by kernel_rfl) ?_
 refine at_valF 67 (.pointer (some ⟨g2, 9, none⟩)) (by kernel_rfl) (by kernel_rfl) (by kernel_rfl) (by kernel_rfl) (by kernel_rfl) ?_
 refine at_valF 68 (.slice s.a6 s.n6 s.c6) (by kernel_rfl) (by kernel_rfl) (by kernel_rfl) (by kernel_rfl) (run_load_at 30 (.tmp 80) ⟨g2, 9, none⟩ _ (by kernel_rfl) (by kernel_rfl) (by rw [KX.cell 9]; exact HCX 9 _ rfl) Tryz.isAgg30) ?_
 refine at_valF 69 (.pointer (some ⟨g3, 9, none⟩)) (by kernel_rfl) (by kernel_rfl) (by kernel_rfl) (by kernel_rfl) (by kernel_rfl) ?_
 refine at_valF 70 (.slice t.a6 t.n6 t.c6) (by kernel_rfl) (by kernel_rfl) (by kernel_rfl) (by kernel_rfl) (run_load_at 30 (.tmp 82) ⟨g3, 9, none⟩ _ (by kernel_rfl) (by kernel_rfl) (by rw [KY.cell 9]; exact HCY 9 _ rfl) Tryz.isAgg30) ?_
 refine at_valF 71 (.func (.func 66) #[] #[]) (by kernel_rfl) (by kernel_rfl) (by kernel_rfl) (by kernel_rfl) (by kernel_rfl) ?_
 refine at_callF 72 72 #[.slice s.a6 s.n6 s.c6, .slice t.a6 t.n6 t.c6, .func (.func 66) #[] #[]] (by kernel_rfl) (by kernel_rfl) (by kernel_rfl) (by kernel_rfl) (by kernel_rfl) (H6 _ HW) ?_
 rintro e v6 ⟨rfl, hb⟩
 replace HW := below_step HW hb (Nat.le_refl _)
 replace KX := KX.keep hb
 replace KY := KY.keep hb
 replace K5 := K5.keep hb
 replace K6 := K6.keep hb
 clear hb
 cases q6 : sameL eqDem x.dems y.dems
 ·refine ⟨.bool false, rfl, ?_⟩
  refine at_tailEnd 73 81 4 (.bool false) (by kernel_rfl) (by kernel_rfl) (by kernel_rfl) (by kernel_rfl) (by kernel_rfl) (by kernel_rfl) (fun a' h1 h2 => hQ a' _ (by rw [h1, Hd, p0, p1, p2, p3, q1, q2, q3, q4, q5, q6]; simp) h2 HW)
 refine ⟨.bool true, rfl, ?_⟩
 refine at_valF 73 (.bool true) (by kernel_rfl) (by kernel_rfl) (by kernel_rfl) (by kernel_rfl) (by kernel_rfl) ?_
 refine at_valF 74 (.bool true) (by kernel_rfl) (by kernel_rfl) (by kernel_rfl) (by kernel_rfl) (by kernel_rfl) ?_
 refine at_valF 75 (.pointer (some ⟨g2, 10, none⟩)) (by kernel_rfl) (by kernel_rfl) (by kernel_rfl) (by kernel_rfl) (by kernel_rfl) ?_
 refine at_valF 76 (rlV x.rule) (by kernel_rfl) (by kernel_rfl) (by kernel_rfl) (by kernel_rfl) (run_load_agg 32 (.tmp 88) ⟨g2, 10, none⟩ [.int .i64 x.rule.num, .int .i64 x.rule.den, .int .i64 x.rule.poorNum, .int .i64 x.rule.poorDen, .int .i64 x.rule.bendNum, .int .i64 x.rule.bendDen, .int .i64 x.rule.lapNum, .int .i64 x.rule.lapDen, .int .i64 x.rule.least] (by kernel_rfl) (by kernel_rfl) (fun j v hj => by rw [show (⟨g2, 10, none⟩ : Addr).add j = ⟨g2, 10 + j, none⟩ by unfold Addr.add; split <;> simp_all, KX.cell]; exact HCX (10 + j) v (by rw [Nat.add_comm]; exact hj)) Tryz.isAgg32 Tryz.sizeOf32) ?_
 refine at_valF 77 (.pointer (some ⟨g3, 10, none⟩)) (by kernel_rfl) (by kernel_rfl) (by kernel_rfl) (by kernel_rfl) (by kernel_rfl) ?_
 refine at_valF 78 (rlV y.rule) (by kernel_rfl) (by kernel_rfl) (by kernel_rfl) (by kernel_rfl) (run_load_agg 32 (.tmp 90) ⟨g3, 10, none⟩ [.int .i64 y.rule.num, .int .i64 y.rule.den, .int .i64 y.rule.poorNum, .int .i64 y.rule.poorDen, .int .i64 y.rule.bendNum, .int .i64 y.rule.bendDen, .int .i64 y.rule.lapNum, .int .i64 y.rule.lapDen, .int .i64 y.rule.least] (by kernel_rfl) (by kernel_rfl) (fun j v hj => by rw [show (⟨g3, 10, none⟩ : Addr).add j = ⟨g3, 10 + j, none⟩ by unfold Addr.add; split <;> simp_all, KY.cell]; exact HCY (10 + j) v (by rw [Nat.add_comm]; exact hj)) Tryz.isAgg32 Tryz.sizeOf32) ?_
 refine at_valF 79 (.bool (eqRule x.rule y.rule)) (by kernel_rfl) (by kernel_rfl) (by kernel_rfl) (by kernel_rfl) (run_binop .eql 32 32 (.tmp 89) (.tmp 91) (rlV x.rule) (rlV y.rule) _ (by kernel_rfl) (by kernel_rfl) (by kernel_rfl) (by kernel_rfl) (HR v6)) ?_
 refine at_valF 80 (.bool (eqRule x.rule y.rule)) (by kernel_rfl) (by kernel_rfl) (by kernel_rfl) (by kernel_rfl) (by kernel_rfl) ?_
 refine at_val 81 (.bool (eqRule x.rule y.rule)) (by kernel_rfl) (by kernel_rfl) (by kernel_rfl) ?_
 refine at_end 82 (by kernel_rfl) (hQ _ _ ?_ (by kernel_rfl) HW)
 rw [Hd, p0, p1, p2, p3, q1, q2, q3, q4, q5, q6]
 kernel_rfl
set_option maxHeartbeats 8000000 in
set_option maxRecDepth 100000 in
theorem detSame_any (x y : DetD) (s t : DetS) (w : World) {B B' : Nat} (h : DetAt w B x s) (h' : DetAt w B' y t) (hB : B ≤ w.heap.size) (hB' : B' ≤ w.heap.size) (hf : DetFit x s) (hf' : DetFit y t) (hx1 : s.n1 ≤ 300000) (hx2 : s.n2 ≤ 300000) (hy1 : t.n1 ≤ 300000) (hy2 : t.n2 ≤ 300000) (hsx : ∀ d ∈ x.dems, d.steps.length ≤ 60000) (hsy : ∀ d ∈ y.dems, d.steps.length ≤ 60000) :
  Calls Tryz.prog 27 #[detV x s, detV y t] w fun e w' => e = .returned (.bool (eqDet x y)) ∧ Below w.heap.size w w' := by
 have H1 := hide (fun (W : World) (hz : Below w.heap.size w W) => equalBox_any s.a1 t.a1 x.mem.boxes y.mem.boxes s.n1 t.n1 s.c1 t.c1 W (h.h1.carry (Flat.carried _) (hz.mono hB) (Nat.le_refl _)) (h'.h1.carry (Flat.carried _) (hz.mono hB') (Nat.le_refl _)) hf.l1 hf'.l1 hx1 hy1)
 have H2 := hide (fun (W : World) (hz : Below w.heap.size w W) => equalBox_any s.a2 t.a2 x.mem.holes y.mem.holes s.n2 t.n2 s.c2 t.c2 W (h.h2.carry (Flat.carried _) (hz.mono hB) (Nat.le_refl _)) (h'.h2.carry (Flat.carried _) (hz.mono hB') (Nat.le_refl _)) hf.l2 hf'.l2 hx2 hy2)
 have H3 := hide (fun (W : World) (hz : Below w.heap.size w W) => eqfBar_any s.a3 t.a3 x.bars y.bars s.n3 t.n3 s.c3 t.c3 64 #[] W (h.h3.carry (hz.mono hB) (Nat.le_refl _)) (h'.h3.carry (hz.mono hB') (Nat.le_refl _)) (Nat.le_trans hB hz.size) (Nat.le_trans hB' hz.size) hf.l3 hf'.l3 hf.m3 hf'.m3 Tryz.call64
  (fun p q A1 c1 A2 c2 W2 hp hq hb hi hi2 => same1_any p q A1 A2 c1 c2 W2 (hi.carry (hb.mono (Nat.le_trans hB hz.size)) (Nat.le_refl _)) (hi2.carry (hb.mono (Nat.le_trans hB' hz.size)) (Nat.le_refl _)) (Nat.le_trans (Nat.le_trans hB hz.size) hb.size) (Nat.le_trans (Nat.le_trans hB' hz.size) hb.size) (hf.tame p hp).2 (hf'.tame q hq).2))
 have H4 := hide (fun (W : World) (hz : Below w.heap.size w W) => equalRun_any s.a4 t.a4 x.runs y.runs s.n4 t.n4 s.c4 t.c4 W (h.h4.carry (Flat.carried _) (hz.mono hB) (Nat.le_refl _)) (h'.h4.carry (Flat.carried _) (hz.mono hB') (Nat.le_refl _)) hf.l4 hf'.l4 (Nat.le_trans hf.m4 (by decide)) (Nat.le_trans hf'.m4 (by decide)))
 have H5 := hide (fun (W : World) (hz : Below w.heap.size w W) => equalJoin_any s.a5 t.a5 x.laps y.laps s.n5 t.n5 s.c5 t.c5 W (h.h5.carry (Flat.carried _) (hz.mono hB) (Nat.le_refl _)) (h'.h5.carry (Flat.carried _) (hz.mono hB') (Nat.le_refl _)) hf.l5 hf'.l5 (Nat.le_trans hf.m5 (by decide)) (Nat.le_trans hf'.m5 (by decide)))
 have H6 := hide (fun (W : World) (hz : Below w.heap.size w W) => eqfDem_any s.a6 t.a6 x.dems y.dems s.n6 t.n6 s.c6 t.c6 66 #[] W (SlOf.carry demR_carried h.h6 (hz.mono hB) (Nat.le_refl _)) (SlOf.carry demR_carried h'.h6 (hz.mono hB') (Nat.le_refl _)) (Nat.le_trans hB hz.size) (Nat.le_trans hB' hz.size) hf.l6 hf'.l6 hf.m6 hf'.m6 Tryz.call66
  (fun p q A1 c1 A2 c2 W2 hp hq hb hi hi2 => same2_any p q A1 A2 c1 c2 W2 (SlOf.carry (Flat.carried _) hi (hb.mono (Nat.le_trans hB hz.size)) (Nat.le_refl _)) (SlOf.carry (Flat.carried _) hi2 (hb.mono (Nat.le_trans hB' hz.size)) (Nat.le_refl _)) (Nat.le_trans (Nat.le_trans hB hz.size) hb.size) (Nat.le_trans (Nat.le_trans hB' hz.size) hb.size) (hsx p hp) (hsy q hq)))
 have HR := rule_eql x.rule y.rule
 have HCX := hide (fun (k : Nat) (v : Value) (h9 : ([.string x.mem.name, .slice s.a1 s.n1 s.c1, .slice s.a2 s.n2 s.c2, .int .i64 x.mem.cover, .int .i64 x.mem.aggregate, .int .i64 x.mem.poker, .slice s.a3 s.n3 s.c3, .slice s.a4 s.n4 s.c4, .slice s.a5 s.n5 s.c5, .slice s.a6 s.n6 s.c6, .int .i64 x.rule.num, .int .i64 x.rule.den, .int .i64 x.rule.poorNum, .int .i64 x.rule.poorDen, .int .i64 x.rule.bendNum, .int .i64 x.rule.bendDen, .int .i64 x.rule.lapNum, .int .i64 x.rule.lapDen, .int .i64 x.rule.least] : List Value)[k]? = some v) => show (detCells x.mem x.rule s)[k]? = some v by simpa using h9)
 have HCY := hide (fun (k : Nat) (v : Value) (h9 : ([.string y.mem.name, .slice t.a1 t.n1 t.c1, .slice t.a2 t.n2 t.c2, .int .i64 y.mem.cover, .int .i64 y.mem.aggregate, .int .i64 y.mem.poker, .slice t.a3 t.n3 t.c3, .slice t.a4 t.n4 t.c4, .slice t.a5 t.n5 t.c5, .slice t.a6 t.n6 t.c6, .int .i64 y.rule.num, .int .i64 y.rule.den, .int .i64 y.rule.poorNum, .int .i64 y.rule.poorDen, .int .i64 y.rule.bendNum, .int .i64 y.rule.bendDen, .int .i64 y.rule.lapNum, .int .i64 y.rule.lapDen, .int .i64 y.rule.least] : List Value)[k]? = some v) => show (detCells y.mem y.rule t)[k]? = some v by simpa using h9)
 show Calls Tryz.prog 27 #[.agg (detCells x.mem x.rule s), .agg (detCells y.mem y.rule t)] w _
 generalize detCells x.mem x.rule s = CX at *
 generalize detCells y.mem y.rule t = CY at *
 have KX := hide ((Blk.new w 34 CX).alloc (.cells CY 34))
 have KY := hide (Blk.new1 w (.cells CX 34) 34 CY)
 have HW := hide (below_new2 w (.cells CX 34) (.cells CY 34))
 clear h h' hf hf' hx1 hx2 hy1 hy2 hsx hsy
 obtain ⟨w2, hw2⟩ : ∃ w2, w2 = (w.alloc (.cells CX 34)).alloc (.cells CY 34) := ⟨_, rfl⟩
 rw [← hw2] at KX KY HW
 go_enter Tryz.func27, Tryz.ntmps27
 go_wp2_with fail
 rw [← hw2]
 clear hw2
 have x0 := (KX.out.cell 0).trans (HCX.out 0 _ rfl)
 have y0 := (KY.out.cell 0).trans (HCY.out 0 _ rfl)
 have x1 := (KX.out.cell 1).trans (HCX.out 1 _ rfl)
 have y1 := (KY.out.cell 1).trans (HCY.out 1 _ rfl)
 have x2 := (KX.out.cell 2).trans (HCX.out 2 _ rfl)
 have y2 := (KY.out.cell 2).trans (HCY.out 2 _ rfl)
 have x3 := (KX.out.cell 3).trans (HCX.out 3 _ rfl)
 have y3 := (KY.out.cell 3).trans (HCY.out 3 _ rfl)
 have x4 := (KX.out.cell 4).trans (HCX.out 4 _ rfl)
 have y4 := (KY.out.cell 4).trans (HCY.out 4 _ rfl)
 have x5 := (KX.out.cell 5).trans (HCX.out 5 _ rfl)
 have y5 := (KY.out.cell 5).trans (HCY.out 5 _ rfl)
 have lx := KX.out.lt
 have ly := KY.out.lt
 generalize w.heap.size + 1 = gy at *
 go_cut [5, 6] from 9 to 12 (fun a b W => ∃ g5 g6 : Nat, a = .pointer (some ⟨g5, 0, none⟩) ∧ b = .pointer (some ⟨g6, 0, none⟩) ∧ Hid (Blk W g5 26 #[.string x.mem.name, .slice s.a1 s.n1 s.c1, .slice s.a2 s.n2 s.c2, .int .i64 x.mem.cover, .int .i64 x.mem.aggregate, .int .i64 x.mem.poker]) ∧ Hid (Blk W g6 26 #[.string y.mem.name, .slice t.a1 t.n1 t.c1, .slice t.a2 t.n2 t.c2, .int .i64 y.mem.cover, .int .i64 y.mem.aggregate, .int .i64 y.mem.poker]) ∧ Hid (Below w2.heap.size w2 W))
 case first =>
  go_region
  all_goals go_wp2_with fail
  all_goals go_meet
  ·refine ⟨w2.heap.size, w2.heap.size + 1, rfl, rfl, ?_, ?_, ?_⟩
   ·exact hide (Blk.drew (Blk.alloc (Blk.new w2 _ _) _))
   ·exact hide (Blk.drew (Blk.new1 w2 _ _ _))
   ·exact hide (Below.drew (below_new2 w2 _ _))
  ·refine ⟨w2.heap.size + 1, w2.heap.size, rfl, rfl, ?_, ?_, ?_⟩
   ·exact hide (Blk.drew (Blk.new1 w2 _ _ _))
   ·exact hide (Blk.drew (Blk.alloc (Blk.new w2 _ _) _))
   ·exact hide (Below.drew (below_new2 w2 _ _))
 case rest =>
  clear x0 x1 x2 x3 x4 x5 y0 y1 y2 y3 y4 y5 lx ly
  obtain ⟨g5, g6, rfl, rfl, K5, K6, hbc⟩ := hcut
  rename World => w3
  replace KX := hide (KX.out.keep hbc.out)
  replace KY := hide (KY.out.keep hbc.out)
  replace HW := hide (below_step HW.out hbc.out (Nat.le_refl _))
  clear hbc
  go_upto_region 4 with fail
  refine wp_region_as sameOps (by kernel_rfl) ?_
  refine at_frame (a' := frm (sameBase (.agg CX) (.agg CY) (.pointer (some ⟨w.heap.size, 0, none⟩)) (.pointer (some ⟨gy, 0, none⟩)) (.pointer (some ⟨g5, 0, none⟩)) (.pointer (some ⟨g6, 0, none⟩)) (.func (.func 64) #[] #[]) (.func (.func 66) #[] #[]) u9 u10 u11 u12) 94 []) (by kernel_rfl) ?_
  refine same_chain x y s t w w3 _ w.heap.size gy g5 g6 _ _ u9 u10 u11 u12 CX CY H1.out H2.out H3.out H4.out H5.out H6.out HR HCX.out HCY.out HW.out KX.out KY.out K5.out K6.out ?_
  intro a' w' h4 hdf hb
  rename_i hK
  refine hK a' w' ?_
  apply wp_ret
  refine bodyPost_ret (v := .bool (eqDet x y)) ?_ hdf ⟨rfl, hb⟩
  rw [← h4]
  exact results_tmp (t := 4) (by kernel_rfl) _ _ _
structure Few (x : DetD) (s : DetS) : Prop where
 name : x.mem.name.size ≤ 60
 boxes : s.n1 ≤ 25
 holes : s.n2 ≤ 25
 bars : s.n3 ≤ 63
 runs : s.n4 ≤ 63
 laps : s.n5 ≤ 1005
 demn : s.n6 ≤ 25
 tame : Tame x.bars
 dems : ∀ d ∈ x.dems, d.name.size ≤ 60 ∧ d.steps.length ≤ 205
structure DetLen (x : DetD) (s : DetS) : Prop where
 l1 : s.n1 = x.mem.boxes.length
 l2 : s.n2 = x.mem.holes.length
 l3 : s.n3 = x.bars.length
 l4 : s.n4 = x.runs.length
 l5 : s.n5 = x.laps.length
 l6 : s.n6 = x.dems.length
 k6 : s.n6 ≤ s.c6
theorem few_fit {x : DetD} {s : DetS} (h : DetLen x s) (f : Few x s) : DetFit x s :=
  ⟨h.l1, h.l2, h.l3, h.l4, h.l5, h.l6, Nat.le_trans f.bars (by decide), Nat.le_trans f.runs (by decide), Nat.le_trans f.laps (by decide), Nat.le_trans f.demn (by decide), h.k6,
   Nat.le_trans f.name (by decide), f.tame, fun d hd => ⟨Nat.le_trans (f.dems d hd).1 (by decide), by have := (f.dems d hd).2; omega⟩⟩
set_option maxHeartbeats 8000000 in
set_option maxRecDepth 100000 in
theorem small25_any (x : DetD) (s : DetS) (w : World) {B : Nat} (h : DetAt w B x s) (hB : B ≤ w.heap.size) (hl : DetLen x s) :
  Calls Tryz.prog 11 #[detV x s] w fun e w' => RetB e (Few x s) ∧ Below w.heap.size w w' := by
 have HS := hide (fun (W : World) (hz : Below w.heap.size w W) => small16_any s.a3 x.bars s.n3 s.c3 s.a4 x.runs s.n4 s.c4 W (h.h3.carry (hz.mono hB) (Nat.le_refl _)) (h.h4.carry (Flat.carried _) (hz.mono hB) (Nat.le_refl _)) (Nat.le_trans hB hz.size) hl.l3 hl.l4)
 have HD := hide (fun (W : World) (hz : Below w.heap.size w W) => small23_any s.a6 x.dems s.n6 s.c6 W (SlOf.carry demR_carried h.h6 (hz.mono hB) (Nat.le_refl _)) (Nat.le_trans hB hz.size) hl.l6)
 have K0 := hide (Blk.new w 34 (detCells x.mem x.rule s))
 have W0 := hide (below_new w (.cells (detCells x.mem x.rule s) 34))
 clear h hB hl
 obtain ⟨mem, bars, runs, laps, dems, rule⟩ := x
 obtain ⟨sol, boxes, holes, cover, agg, poker⟩ := mem
 obtain ⟨a1, n1, c1, a2, n2, c2, a3, n3, c3, a4, n4, c4, a5, n5, c5, a6, n6, c6⟩ := s
 go_enter Tryz.func11, Tryz.ntmps11
 by_cases hnm : 60 < (sol.size : Int)
 ·go_wp2_with fail
  go_ret
  exact ⟨⟨false, rfl, fun h => by cases h⟩, W0.out⟩
 ·go_wp2_with fail
  refine (small17_any a1 a2 n1 c1 n2 c2 _).mono ?_
  rintro e w2 ⟨⟨t, rfl, h17⟩, hb2⟩
  have K1 := hide (K0.out.keep hb2)
  have W1 := hide (below_step W0.out hb2 (Nat.le_refl _))
  clear hb2 K0 W0
  cases t
  ·clear h17
   go_wp2_with fail
   go_ret
   exact ⟨⟨false, rfl, fun h => by cases h⟩, W1.out⟩
  have H17 := hide (h17 rfl)
  clear h17
  have c6 := K1.out.cell 6
  have c7 := K1.out.cell 7
  simp at c6 c7
  go_wp2_with fail
  refine (HS.out _ W1.out).mono ?_
  rintro e w3 ⟨⟨t, rfl, ht⟩, hb3⟩
  have K2 := hide (K1.out.keep hb3)
  have W2 := hide (below_step W1.out hb3 (Nat.le_refl _))
  clear hb3 K1 W1 HS c6 c7
  cases t
  ·clear ht
   go_wp2_with fail
   go_ret
   exact ⟨⟨false, rfl, fun h => by cases h⟩, W2.out⟩
  have H16 := hide (ht rfl)
  clear ht
  have c9 := K2.out.cell 9
  simp at c9
  go_wp2_with fail
  refine (HD.out _ W2.out).mono ?_
  rintro e w4 ⟨⟨t, rfl, ht⟩, hb4⟩
  have K3 := hide (K2.out.keep hb4)
  have W3 := hide (below_step W2.out hb4 (Nat.le_refl _))
  clear hb4 K2 W2 HD c9
  cases t
  ·clear ht
   go_wp2_with fail
   go_ret
   exact ⟨⟨false, rfl, fun h => by cases h⟩, W3.out⟩
  have H23 := hide (ht rfl)
  clear ht
  have c8 := K3.out.cell 8
  simp at c8
  have Hfin := hide (fun (h5 : n5 ≤ 1005) => (⟨by simp only []; omega, H17.out.1, H17.out.2, H16.out.1, H16.out.2.1, h5, H23.out.1, H16.out.2.2, H23.out.2⟩ : Few ⟨⟨sol, boxes, holes, cover, agg, poker⟩, bars, runs, laps, dems, rule⟩ ⟨a1, n1, c1, a2, n2, c2, a3, n3, c3, a4, n4, c4, a5, n5, c5, a6, n6, c6⟩))
  go_wp2_with fail
  all_goals go_ret
  all_goals exact ⟨⟨_, rfl, fun h => Hfin.out (by simp at h <;> omega)⟩, W3.out⟩
theorem runs_at {bars : List BarD} {l : List RunD} {k : Nat} {r : RunD} (h : l[k]? = some r) : (l.drop k).all (runOk bars) = (runOk bars r && (l.drop (k + 1)).all (runOk bars)) := all_at h
set_option maxHeartbeats 4000000 in
theorem refLaid_any (A3 A4 : Option Addr) (bars : List BarD) (runs : List RunD) (n3 c3 n4 c4 : Nat) (w : World) {B : Nat} (h3 : BarsAt w B A3 bars) (h4 : RunsAt w B A4 runs) (hB : B ≤ w.heap.size) (l3 : n3 = bars.length) (l4 : n4 = runs.length) (m3 : n3 ≤ 60000) (htame : Tame bars) :
  Calls Tryz.prog 41 #[.slice A3 n3 c3, .slice A4 n4 c4] w fun e w' => e = .returned (.bool (laidOk bars runs)) ∧ Below w.heap.size w w' := by
 have HV := hide (refSchedValid_any A3 bars n3 c3 w h3 hB l3 htame m3)
 have hr := hide (laidOk_ref bars runs)
 cases hs : schedOk bars
 ·rw [hs] at HV hr
  generalize laidOk bars runs = res at *
  clear h3 h4 hB l3 l4 m3 htame hs
  go_enter Tryz.func41, Tryz.ntmps41
  go_wp2_with fail
  refine HV.out.mono ?_
  rintro e w1 ⟨rfl, hb⟩
  have HW := hide hb
  clear hb HV
  go_wp2_with fail
  go_ret
  exact ⟨ret_bool (by rw [hr.out]; rfl), HW.out⟩
 rw [hs] at HV hr
 have hbar := schedOk_bars hs
 by_cases hlen : 60 < n4
 ·have d0 : decide (60 < (n4 : Int)) = true := by simp; omega
  have hr := hide (show laidOk bars runs = false by rw [hr.out, decide_eq_false (by omega)]; rfl)
  generalize laidOk bars runs = res at *
  clear h3 h4 hB l3 l4 m3 htame hs hbar hlen
  go_enter Tryz.func41, Tryz.ntmps41
  go_wp2_with fail
  refine HV.out.mono ?_
  rintro e w1 ⟨rfl, hb⟩
  have HW := hide hb
  clear hb HV
  go_wp2_with fail
  go_ret
  exact ⟨ret_bool hr.out.symm, HW.out⟩
 have d0 : decide (60 < (n4 : Int)) = false := by simp; omega
 have hn60 : n4 ≤ 60 := by omega
 have hr := hide (show laidOk bars runs = ((runs.drop 0).all (runOk bars) && decide (countRuns runs ≤ 2000)) by rw [hr.out, decide_eq_true (by omega)]; rfl)
 have HR := hide (fun (r : RunD) (W : World) (hz : Below w.heap.size w W) => refRun_any A3 bars n3 c3 r W (h3.carry (hz.mono hB) (Nat.le_refl _)) (Nat.le_trans hB hz.size) l3 m3 hbar)
 have HC := hide (fun (hok : ∀ r ∈ runs, 1 ≤ r.count ∧ r.count ≤ 1000) (W : World) (hz : Below w.heap.size w W) => count16_any A4 runs n4 c4 W (h4.carry (Flat.carried _) (hz.mono hB) (Nat.le_refl _)) (Nat.le_trans hB hz.size) l4 hn60 hok)
 have H4 := hide h4
 have L4 := hide l4
 have HB := hide hB
 generalize laidOk bars runs = res at *
 clear h3 h4 hB l3 l4 m3 htame hs hbar hlen
 go_enter Tryz.func41, Tryz.ntmps41
 go_wp2_with fail
 refine HV.out.mono ?_
 rintro e w1 ⟨rfl, hb⟩
 have HW := hide hb
 clear hb HV
 go_wp2_with fail
 go_loopw [5] (fun i wr => ∃ k : Nat, k ≤ n4 ∧ i = .int .i64 k ∧ Hid ((runs.drop 0).all (runOk bars) = (runs.drop k).all (runOk bars)) ∧ Hid (∀ r ∈ runs.take k, runOk bars r = true) ∧ Hid (Below w.heap.size w wr)) (fun i _ => n4 - (intOf i).toNat)
 case atStart => exact ⟨0, Nat.zero_le _, rfl, hide rfl, hide (by simp), HW⟩
 case round =>
  clear HW
  obtain ⟨k, hk, rfl, hq, hp, hbr⟩ := hrel
  by_cases hlt : k < n4
  ·obtain ⟨b, off, r, rfl, hbl, hx, hc⟩ := RunsAt.get (k := k) (H4.out.carry (Flat.carried _) (hbr.out.mono HB.out) (Nat.le_refl _)) (by rw [← L4.out]; exact hlt)
   have Hq := hide (hq.out.trans (runs_at hx))
   have HT := HR.out r _ hbr.out
   obtain ⟨a, ha⟩ : ∃ a, a = runOk bars r := ⟨_, rfl⟩
   rw [← ha] at HT Hq
   have HT := hide HT
   have Hp := hide (fun (h1 : a = true) => show ∀ r ∈ runs.take (k + 1), runOk bars r = true by
    rw [take_snoc' hx]
    intro z hz
    rcases List.mem_append.1 hz with h | h
    ·exact hp.out z h
    ·obtain rfl := List.mem_singleton.1 h; rw [← ha]; exact h1)
   obtain ⟨mark, tx, ty, ⟨a1, a2, a3⟩, ⟨s1, s2, s3⟩, cnt⟩ := r
   have e0 := hc 0 _ rfl
   have e1 := hc 1 _ rfl
   have e2 := hc 2 _ rfl
   have e3 := hc 3 _ rfl
   have e4 := hc 4 _ rfl
   have e5 := hc 5 _ rfl
   have e6 := hc 6 _ rfl
   have e7 := hc 7 _ rfl
   have e8 := hc 8 _ rfl
   have e9 := hc 9 _ rfl
   simp only [Nat.add_zero] at e0 e1 e2 e3 e4 e5 e6 e7 e8 e9
   clear hx hbl hc hq hp ha
   go_wp2_with fail
   refine HT.out.mono ?_
   rintro e w2 ⟨rfl, hb⟩
   have Hbr := hide (below_step hbr.out hb (Nat.le_refl _))
   clear hb HT e0 e1 e2 e3 e4 e5 e6 e7 e8 e9
   cases a
   ·go_wp2_with fail
    go_ret
    exact ⟨ret_bool (by rw [hr.out, Hq.out]; rfl), Hbr.out⟩
   ·go_wp2_with fail
    go_roundw
    case rel => exact ⟨k + 1, by omega, by go_num, hide (by rw [Hq.out]; rfl), hide (Hp.out (by simp)), Hbr⟩
    case measure => simp [intOf]; omega
  ·obtain rfl : k = n4 := by omega
   have hall : ∀ r ∈ runs, runOk bars r = true := by have := hp.out; rwa [L4.out, List.take_length] at this
   have HCo := hide (HC.out (fun r hr => runOk_count (hall r hr)) _ hbr.out)
   have Hr := hide (show res = decide (countRuns runs ≤ 2000) by
    rw [hr.out, hq.out, List.drop_of_length_le (by rw [← L4.out]; exact Nat.le_refl _)]; rfl)
   generalize countRuns runs = t at *
   clear hall hq hp hr HC
   go_wp2_with fail
   refine HCo.out.mono ?_
   rintro e w2 ⟨rfl, hb⟩
   have Hbr := hide (below_step hbr.out hb (Nat.le_refl _))
   clear hb HCo
   go_wp2_with fail
   go_ret
   exact ⟨ret_bool Hr.out.symm, Hbr.out⟩
end Go.Proofs.YtpaanfjjnjjoeaaGreat
