/- The references of layers 16, 17, 24: members, near points, main legs, the place of a laid bar. The path of a laid bar: a range over the iterator of all laid bars. Small details: what law46.few gives. The reference of layer 17: the hull of a solid. The argument of a law on details: a detail as it came in. -/
import Derived.Test.YtmcjpdlkkpnhfaaGreatQay
import Derived.Test.YtmcjpdlkkpnhfaaGreatQaf
import Derived.Test.YtmcjpdlkkpnhfaaGreatQas
import Derived.Test.YtmcjpdlkkpnhfaaGreatQba
import Derived.Test.YtmcjpdlkkpnhfaaGreatQbc
import Derived.Test.YtmcjpdlkkpnhfaaGreatQbn
import Derived.Test.YtmcjpdlkkpnhfaaGreatQad
namespace Go.Proofs.YtmcjpdlkkpnhfaaGreat
open Go.RowKit

set_option maxHeartbeats 4000000 in
theorem refMember_any (m : MemD) (A1 A2 : Option Addr) (n1 n2 c1 c2 : Nat) (w : World) {B : Nat} (h1 : BoxesAt w B A1 m.boxes) (h2 : BoxesAt w B A2 m.holes) (hB : B ≤ w.heap.size) (l1 : n1 = m.boxes.length) (l2 : n2 = m.holes.length) (hnm : m.name.size ≤ maxLen) :
    Calls Tryz.prog 65 #[.agg #[.string m.name, .slice A1 n1 c1, .slice A2 n2 c2, .int .i64 m.cover, .int .i64 m.aggregate, .int .i64 m.poker]] w fun e w' => e = .returned (.bool (memOk m)) ∧ Below w.heap.size w w' := by
  have HI := hide (fun (W : World) => refIsName_any m.name W hnm)
  have HS := hide (fun (W : World) (hz : Below w.heap.size w W) => refSolid_any m.boxes m.holes A1 A2 n1 n2 c1 c2 W (h1.carry (Flat.carried _) (hz.mono hB) (Nat.le_refl _)) (h2.carry (Flat.carried _) (hz.mono hB) (Nat.le_refl _)) (Nat.le_trans hB hz.size) l1 l2)
  have hr : memOk m = (isName m.name && (solidOk m.boxes m.holes && (decide (0 ≤ m.cover) && (decide (m.cover ≤ 200) && (decide (1 ≤ m.aggregate) && (decide (m.aggregate ≤ 100) && (decide (1 ≤ m.poker) && decide (m.poker ≤ 200)))))))) := by
    simp only [memOk, within, Bool.and_assoc]
  rw [hr]
  clear hr h1 h2 l1 l2 hB hnm
  generalize isName m.name = a1 at *
  generalize solidOk m.boxes m.holes = a2 at *
  obtain ⟨name, boxes, holes, cover, agg, poker⟩ := m
  simp only at HI HS ⊢
  have K0 := hide (Blk.new w 26 #[.string name, .slice A1 n1 c1, .slice A2 n2 c2, .int .i64 cover, .int .i64 agg, .int .i64 poker])
  have HW := hide (below_new w (.cells #[.string name, .slice A1 n1 c1, .slice A2 n2 c2, .int .i64 cover, .int .i64 agg, .int .i64 poker] 26))
  go_enter Tryz.func65, Tryz.ntmps65
  go_wp2_with fail
  refine (HI.out _).mono ?_
  rintro e w1 ⟨rfl, rfl⟩
  cases a1
  · go_wp2_with fail
    go_ret
    exact ⟨rfl, HW.out⟩
  go_wp2_with fail
  refine (HS.out _ HW.out).mono ?_
  rintro e w1 ⟨rfl, hb⟩
  have K0 := hide (K0.out.keep hb)
  have HW := hide (below_step HW.out hb (Nat.le_refl _))
  clear hb HS HI
  have e3 := K0.out.cell 3
  have e4 := K0.out.cell 4
  have e5 := K0.out.cell 5
  simp at e3 e4 e5
  have lk := K0.out.lt
  cases a2
  · go_wp2_with fail
    go_ret
    exact ⟨rfl, HW.out⟩
  cases q0 : decide (0 ≤ cover)
  · go_wp2_with fail
    go_ret
    exact ⟨ret_bool (by first | rfl | (rw [q0]; rfl) | (rw [q0, q1]; rfl) | (rw [q0, q1, q2]; rfl) | (rw [q0, q1, q2, q3]; rfl) | (rw [q0, q1, q2, q3, q4]; rfl) | (rw [q0, q1, q2, q3, q4, q5]; rfl)), HW.out⟩
  cases q1 : decide (cover ≤ 200)
  · go_wp2_with fail
    go_ret
    exact ⟨ret_bool (by first | rfl | (rw [q0]; rfl) | (rw [q0, q1]; rfl) | (rw [q0, q1, q2]; rfl) | (rw [q0, q1, q2, q3]; rfl) | (rw [q0, q1, q2, q3, q4]; rfl) | (rw [q0, q1, q2, q3, q4, q5]; rfl)), HW.out⟩
  cases q2 : decide (1 ≤ agg)
  · go_wp2_with fail
    go_ret
    exact ⟨ret_bool (by first | rfl | (rw [q0]; rfl) | (rw [q0, q1]; rfl) | (rw [q0, q1, q2]; rfl) | (rw [q0, q1, q2, q3]; rfl) | (rw [q0, q1, q2, q3, q4]; rfl) | (rw [q0, q1, q2, q3, q4, q5]; rfl)), HW.out⟩
  cases q3 : decide (agg ≤ 100)
  · go_wp2_with fail
    go_ret
    exact ⟨ret_bool (by first | rfl | (rw [q0]; rfl) | (rw [q0, q1]; rfl) | (rw [q0, q1, q2]; rfl) | (rw [q0, q1, q2, q3]; rfl) | (rw [q0, q1, q2, q3, q4]; rfl) | (rw [q0, q1, q2, q3, q4, q5]; rfl)), HW.out⟩
  cases q4 : decide (1 ≤ poker)
  · go_wp2_with fail
    go_ret
    exact ⟨ret_bool (by first | rfl | (rw [q0]; rfl) | (rw [q0, q1]; rfl) | (rw [q0, q1, q2]; rfl) | (rw [q0, q1, q2, q3]; rfl) | (rw [q0, q1, q2, q3, q4]; rfl) | (rw [q0, q1, q2, q3, q4, q5]; rfl)), HW.out⟩
  cases q5 : decide (poker ≤ 200)
  all_goals
    go_wp2_with fail
    go_ret
    exact ⟨ret_bool (by first | rfl | (rw [q0]; rfl) | (rw [q0, q1]; rfl) | (rw [q0, q1, q2]; rfl) | (rw [q0, q1, q2, q3]; rfl) | (rw [q0, q1, q2, q3, q4]; rfl) | (rw [q0, q1, q2, q3, q4, q5]; rfl)), HW.out⟩
theorem nears_at {l : List Pt} {k : Nat} {x : Pt} (h : l[k]? = some x) : (l.drop k).all (nearBy 1048576) = (nearBy 1048576 x && (l.drop (k + 1)).all (nearBy 1048576)) := all_at h
set_option maxHeartbeats 1000000 in
theorem refNears_any (A : Option Addr) (l : List Pt) (n c : Nat) (w : World) {B : Nat} (h : PtsAt w B A l) (hB : B ≤ w.heap.size) (hn : n = l.length) (hm : n ≤ 60000) :
    Calls Tryz.prog 140 #[.slice A n c] w fun e w' => e = .returned (.bool (l.all (nearBy 1048576))) ∧ Below w.heap.size w w' := by
  have hn' := hide hn
  have Hs := hide h
  have hr := hide (show l.all (nearBy 1048576) = (l.drop 0).all (nearBy 1048576) from rfl)
  clear hn h
  go_enter Tryz.func140, Tryz.ntmps140
  go_wp2_with fail
  go_loopw [3] (fun i wr => ∃ k : Nat, k ≤ n ∧ i = .int .i64 k ∧ Hid ((l.drop 0).all (nearBy 1048576) = (l.drop k).all (nearBy 1048576)) ∧ Below w.heap.size w wr) (fun i _ => n - (intOf i).toNat)
  case atStart => exact ⟨0, Nat.zero_le _, rfl, hide rfl, Below.refl _ _⟩
  case round =>
    obtain ⟨k, hk, rfl, hq, hbr⟩ := hrel
    by_cases hlt : k < n
    · obtain ⟨b, off, x, rfl, hbl, hx, f0, f1, f2⟩ := PtsAt.get (k := k) (Hs.out.carry (Flat.carried _) (hbr.mono hB) (Nat.le_refl _)) (by rw [← hn'.out]; exact hlt)
      have Hq := hide (hq.out.trans (nears_at hx))
      have HT := hide (fun W => refNear_any x W)
      generalize nearBy 1048576 x = a at *
      obtain ⟨x1, x2, x3⟩ := x
      simp only [ptA] at f0 f1 f2 HT
      have Hbr := hide hbr
      clear hx hbl hq hbr
      go_wp2_with fail
      refine (HT.out _).mono ?_
      rintro e w1 ⟨rfl, hb⟩
      have Hbr := hide (below_step Hbr.out hb (Nat.le_refl _))
      clear hb HT f0 f1 f2
      cases a
      · go_wp2_with fail
        go_ret
        exact ⟨ret_bool (by rw [hr.out, Hq.out]; rfl), Hbr.out⟩
      · go_wp2_with fail
        go_roundw
        case rel => exact ⟨k + 1, by omega, by go_num, hide (by rw [Hq.out]; rfl), Hbr.out⟩
        case measure => simp [intOf]; omega
    · obtain rfl : k = n := by omega
      go_wp2_with fail
      go_ret
      exact ⟨ret_bool (by rw [hr.out, hq.out, List.drop_of_length_le (by rw [← hn'.out]; exact Nat.le_refl _)]; rfl), hbr⟩
set_option maxHeartbeats 1000000 in
theorem refMain_any (b : BoxD) (w : World) :
    Calls Tryz.prog 173 #[bxV b] w fun e w' => e = .returned (.bool (isMain b)) ∧ Below w.heap.size w w' := by
  obtain ⟨⟨x1, x2, x3⟩, x4, x5, x6⟩ := b
  have hr : isMain ⟨(x1, x2, x3), (x4, x5, x6)⟩ = (decide (x1 < x4) && (decide (x2 = x5) && decide (x3 = x6))) := by simp only [isMain, Bool.and_assoc]
  have h1 : (x2 == x5) = decide (x2 = x5) := rfl
  have h2 : (x3 == x6) = decide (x3 = x6) := rfl
  rw [hr]
  clear hr
  cases q0 : decide (x1 < x4)
  · clear h1 h2
    go_enter Tryz.func173, Tryz.ntmps173
    go_wp2_with fail
    go_ret
    exact ⟨rfl, below_new _ _⟩
  cases q1 : decide (x2 = x5)
  · rw [q1] at h1
    clear h2
    go_enter Tryz.func173, Tryz.ntmps173
    go_wp2_with fail
    go_ret
    exact ⟨rfl, below_new _ _⟩
  cases q2 : decide (x3 = x6)
  all_goals
    rw [q1] at h1
    rw [q2] at h2
    go_enter Tryz.func173, Tryz.ntmps173
    go_wp2_with fail
    go_ret
    exact ⟨rfl, below_new _ _⟩
set_option maxHeartbeats 1000000 in
theorem refMainLeg_any (A : Option Addr) (l : List BoxD) (n c : Nat) (w : World) {B : Nat} (h : BoxesAt w B A l) (hB : B ≤ w.heap.size) (hn : n = l.length) (hm : n ≤ 60000) :
    Calls Tryz.prog 144 #[.slice A n c] w fun e w' => e = .returned (.int .i64 (idx isMain l)) ∧ Below w.heap.size w w' := by
  have hn' := hide hn
  have Hs := hide h
  clear hn h
  go_enter Tryz.func144, Tryz.ntmps144
  go_wp2_with fail
  go_loopw [3] (fun i wr => ∃ k : Nat, k ≤ n ∧ i = .int .i64 k ∧ NoneTo isMain l k ∧ Below w.heap.size w wr) (fun i _ => n - (intOf i).toNat)
  case atStart => exact ⟨0, Nat.zero_le _, rfl, NoneTo.zero _ _, Below.refl _ _⟩
  case round =>
    obtain ⟨k, hk, rfl, hq, hbr⟩ := hrel
    by_cases hlt : k < n
    · obtain ⟨b, off, x, rfl, hbl, hx, f0, f1, f2, f3, f4, f5⟩ := BoxesAt.get (k := k) (Hs.out.carry (Flat.carried _) (hbr.mono hB) (Nat.le_refl _)) (by rw [← hn'.out]; exact hlt)
      have Hx := hide hx
      have HT := hide (fun W => refMain_any x W)
      obtain ⟨a, ha⟩ : ∃ a, a = isMain x := ⟨_, rfl⟩
      rw [← ha] at HT
      have Ha := hide ha.symm
      obtain ⟨⟨x1, x2, x3⟩, x4, x5, x6⟩ := x
      simp only [bxV] at f0 f1 f2 f3 f4 f5 HT
      have Hbr := hide hbr
      clear hx hbl hbr ha
      go_wp2_with fail
      refine (HT.out _).mono ?_
      rintro e w1 ⟨rfl, hb⟩
      have Hbr := hide (below_step Hbr.out hb (Nat.le_refl _))
      clear hb HT f0 f1 f2 f3 f4 f5
      cases a
      · go_wp2_with fail
        go_roundw
        case rel => exact ⟨k + 1, by omega, by go_num, hq.succ Hx.out Ha.out, Hbr.out⟩
        case measure => simp [intOf]; omega
      · go_wp2_with fail
        go_ret
        exact ⟨ret_int (hq.hit Hx.out Ha.out).symm, Hbr.out⟩
    · obtain rfl : k = n := by omega
      go_wp2_with fail
      go_ret
      exact ⟨ret_int (NoneTo.miss (by rw [← hn'.out]; exact hq)).symm, hbr⟩
end Go.Proofs.YtmcjpdlkkpnhfaaGreat
namespace Go.Proofs.YtmcjpdlkkpnhfaaGreat
open Go.RowKit
attribute [local go_sem] Oper.semAt_some

theorem run_loadVar1 {P : Program} {w : World} {g : Nat} {v : Value} {ty : TypeId} {d : TypeDesc} (hc : w.cell? ⟨g, 0, none⟩ = some v) (hu : P.underlying ty = some d) (hd : (match d with | .struct _ | .array _ _ => true | _ => false) = false) :
    (loadVar ty ⟨g, 0, none⟩).run P w = .ok v w := by
  have hagg : (isAgg ty).run P w = .ok false w := by
    unfold isAgg
    rw [Sem.run_bind, run_underlying hu w]
    cases d <;> simp_all
  simp [loadVar, Sem.run_bind, hagg]
  simp [go_sem, hc]
/-- A function's results where both lie in cells of one cell each. -/
theorem results_cc1 {P : Program} {fn : Func} {p q : Tmp} {tp tq : TypeId} (h : fn.results = #[.cell p tp, .cell q tq]) {tmps : Array Value} {w : World} {gp gq : Nat} {vp vq : Value} {dp dq : TypeDesc}
    (hp : tmps.getD p undef = .pointer (some ⟨gp, 0, none⟩)) (hq : tmps.getD q undef = .pointer (some ⟨gq, 0, none⟩)) (cp : w.cell? ⟨gp, 0, none⟩ = some vp) (cq : w.cell? ⟨gq, 0, none⟩ = some vq)
    (hup : P.underlying tp = some dp) (huq : P.underlying tq = some dq) (hdp : (match dp with | .struct _ | .array _ _ => true | _ => false) = false) (hdq : (match dq with | .struct _ | .array _ _ => true | _ => false) = false) :
    (results fn tmps).run P w = .ok (.tuple #[vp, vq]) w := by
  have hp' : tmps[p]?.getD undef = .pointer (some ⟨gp, 0, none⟩) := by simpa using hp
  have hq' : tmps[q]?.getD undef = .pointer (some ⟨gq, 0, none⟩) := by simpa using hq
  simp [results, h, hp', hq', asAddr, run_loadVar1 cp hup hdp, run_loadVar1 cq huq hdq]
set_option maxHeartbeats 400000 in
theorem all_any (A3 A4 : Option Addr) (n3 c3 n4 c4 : Nat) (w : World) :
    Calls Tryz.prog 79 #[.slice A3 n3 c3, .slice A4 n4 c4] w fun e w' => e = .returned (.func (.func 120) #[] #[.pointer (some ⟨w.heap.size + 1, 0, none⟩), .pointer (some ⟨w.heap.size, 0, none⟩)]) ∧
      w' = (w.alloc (.cells #[.slice A3 n3 c3] 27)).alloc (.cells #[.slice A4 n4 c4] 28) := by
  go_enter Tryz.func79, Tryz.ntmps79
  go_wp2_with fail
  go_ret
  exact ⟨rfl, rfl⟩
theorem SlOf.block {α : Type} {enc : α → List Value} {size B B' g : Nat} {L : List α} {w w' : World} (h : SlOf w B size (Flat enc) (some ⟨g, 0, none⟩) L) (he : w'.heap[g]? = w.heap[g]?) (hB : B ≤ B') : SlOf w' B' size (Flat enc) (some ⟨g, 0, none⟩) L := by
  intro hn
  obtain ⟨b, off, hA, hb, hc⟩ := h hn
  injection hA with hA
  injection hA with h1 h2
  subst h1
  subst h2
  refine ⟨g, 0, rfl, Nat.lt_of_lt_of_le hb hB, fun k x hx => ?_⟩
  obtain ⟨vs, hs, hr, hv⟩ := hc k x hx
  exact ⟨vs, hs, hr, fun j v hj => (World.cell?_of_block he).trans (hv j v hj)⟩
/-- The record of a range over a function. -/
def mkRec (fn : FuncId) (tmps : Array Value) (ps : Array Tmp) (assign body : Code) (D : Nat) (st : LoopState) (pe : Option Code) : Loop := { state := st, pending := pe, fn := fn, tmps := tmps, params := ps, assign := assign, body := body, defers := D }
/-- A range over a function whose body leaves, in the end, by a return. -/
theorem range_intro {P : Program} {n : Nat} {g : Operand} {ps : Array Tmp} {assign body : Code} {Q : Exit → Act → World → Prop} {a : Act} {w : World} {gf : Nat} {lb : Array Value} (hg : a.eval g = .func (.func gf) #[] lb) (eg : ∀ args w, (callFunc gf args).run P w = .ok (.enter gf args) w)
    (h : ∀ (fn : FuncId) (rec : LoopState → Option Code → Loop) (W1 : World), rec = mkRec fn a.tmps ps assign body w.heap.size → W1 = (w.alloc (.deferred (some []))).alloc (.loop (rec .ready none)) →
      Calls P gf (#[.func (.yield (w.heap.size + 1)) #[] #[]] ++ lb) W1 fun e W' => (∃ v, e = .returned v) ∧ W'.heap[w.heap.size + 1]? = some (.loop (rec .done (some .ret))) ∧
        Q .ret { a with defers := { target := .collected w.heap.size, args := #[] } :: a.defers } (W'.putObj (w.heap.size + 1) (.loop (rec .exhausted (some .ret))))) :
    (Code.rangeFunc g ps assign body).wpIn Fence.wide n P Q a w := by
  refine wpIn_rangeFunc ?_
  intro fn hfn
  refine ⟨w.heap.size + 1, [{ target := .collected w.heap.size, args := #[] }], ((w.alloc (.deferred (some []))).alloc (.loop (mkRec fn a.tmps ps assign body w.heap.size .ready none))), { target := .fn (.func gf) lb, args := #[.func (.yield (w.heap.size + 1)) #[] #[]] }, ((w.alloc (.deferred (some []))).alloc (.loop (mkRec fn a.tmps ps assign body w.heap.size .ready none))), gf, #[.func (.yield (w.heap.size + 1)) #[] #[]] ++ lb, ((w.alloc (.deferred (some []))).alloc (.loop (mkRec fn a.tmps ps assign body w.heap.size .ready none))), run_enterLoop_outer _ _ _ _ _, ?_, fun _ _ => trivial, ?_, fun hd => absurd hd (by simp [Fence.wide]), ?_⟩
  · simp only [resolve, hg]
    simp [go_sem]
  · simp [invoke, go_sem, eg]
  · refine (callsIn_wide.2 (h fn _ _ rfl rfl)).mono ?_
    rintro e W2 ⟨⟨v, rfl⟩, hl, hq⟩
    exact ⟨some .ret, _, run_endLoop hl (by simp [mkRec]), wpIn_ret hq⟩
/-- A round of it. -/
theorem yield_intro {P : Program} {fn : FuncId} {tmps : Array Value} {ps : Array Tmp} {assign body : Code} {D l : Nat} {W : World} {args : Array Value} {R : Ending → World → Prop} {rec : LoopState → Option Code → Loop} (hrec : rec = mkRec fn tmps ps assign body D) (hl : W.heap[l]? = some (.loop (rec .ready none))) (hs : args.size = ps.size)
    (h : assign.wpIn (Fence.wide.inRound l) 2 P (Exit.then (fun a₁ w₁ => ∃ w₂, (Instr.beginRound l).run P w₁ = .ok () w₂ ∧ body.wpIn (Fence.wide.inRound l) 2 P (roundPost P l R) a₁ w₂) (fun _ _ _ => False)) { tmps := (ps.zip args).foldl (fun t (p, v) => t.setIfInBounds p v) tmps, defers := [] } W) : YieldAt Fence.wide 2 P l args W R := by
  subst hrec
  exact ⟨fn, _, assign, body, run_yield hl hs, roundIn_of_wpIn trivial h⟩
set_option maxHeartbeats 4000000 in
set_option maxRecDepth 100000 in
theorem laidPath_ok (A3 A4 : Option Addr) (bars : List BarD) (runs : List RunD) (n3 c3 n4 c4 i : Nat) (ld : LaidD) (w : World) {B : Nat} (h3 : BarsAt w B A3 bars) (h4 : RunsAt w B A4 runs) (hB : B ≤ w.heap.size) (l3 : n3 = bars.length) (l4 : n4 = runs.length) (m3 : n3 ≤ 60000) (m4 : n4 ≤ 60000) (htame : Tame bars) (hok : laidOk bars runs = true) (hi : (laidAll bars runs)[i]? = some ld) :
    Calls Tryz.prog 49 #[.slice A3 n3 c3, .slice A4 n4 c4, .int .i64 i] w fun e w' => ∃ A, e = .returned (.tuple #[.slice A ld.pts.length ld.pts.length, .int .i64 0]) ∧ PtsAt w' w'.heap.size A ld.pts ∧ Below w.heap.size w w' := by
  have HV := fun (W : World) (hz : Below w.heap.size w W) => laidValid_any A3 bars n3 c3 A4 runs n4 c4 W (h3.carry (hz.mono hB) (Nat.le_refl _)) (h4.carry (Flat.carried _) (hz.mono hB) (Nat.le_refl _)) (Nat.le_trans hB hz.size) l3 l4 m3 m4 htame
  rw [hok] at HV
  have HV := hide HV
  have HAll := hide (fun (n₀ gB gR l : Nat) (J : Nat → World → Prop) (Jx : World → Prop) (a1 a2) (W : World) (a3) (hz : Below w.heap.size w W) (hn : w.heap.size ≤ n₀) (hn1 : n₀ ≤ W.heap.size) (hl : n₀ ≤ l) (a4 a5 a6 a7 a8) => all1_walk A3 A4 bars runs n3 c3 n4 c4 n₀ gB gR l J Jx a1 a2 W a3 (h3.carry (hz.mono hB) (Nat.le_trans hB hn)) (h4.carry (Flat.carried _) (hz.mono hB) (Nat.le_trans hB hn)) hn1 hl a4 a5 a6 a7 l3 l4 m3 htame hok a8)
  have Hi := hide hi
  have HW := hide (((below_new2 w (.cells #[.int .i64 i] 3) (.cells #[.slice none 0 0] 107)).alloc (by simp; omega) (.cells #[.int .i64 0] 37)))
  have K5 := hide (((Blk.new w 3 #[.int .i64 i]).alloc (.cells #[.slice none 0 0] 107)).alloc (.cells #[.int .i64 0] 37))
  have K6 := hide ((Blk.new1 w (.cells #[.int .i64 i] 3) 107 #[.slice none 0 0]).alloc (.cells #[.int .i64 0] 37))
  have K7 := hide (Blk.new2 w (.cells #[.int .i64 i] 3) (.cells #[.slice none 0 0] 107) 37 #[.int .i64 0])
  clear h3 h4 hB l3 l4 m3 m4 htame hok hi
  refine (callsIn_wide (n := 4)).1 ?_
  refine callsIn_of_wp_marks Tryz.func49 rfl trivial ?_ rfl
  simp only [Tryz.ntmps49, List.size_toArray, List.length_cons, List.length_nil, Nat.reduceAdd, Nat.reduceSub, Array.replicate_succ, Array.replicate_zero, List.push_toArray, List.append_toArray, List.nil_append, List.cons_append]
  refine wpIn_wide.2 ?_
  go_wp2_with fail
  refine (HV.out _ HW.out).mono ?_
  rintro e w2 ⟨rfl, hb2⟩
  have K5 := hide (K5.out.keep hb2)
  have K6 := hide (K6.out.keep hb2)
  have K7 := hide (K7.out.keep hb2)
  have HW := hide (below_step HW.out hb2 (Nat.le_refl _))
  have Hws := hide K7.out.lt
  clear hb2 HV
  go_wp2_with (go_at_call 79; refine (all_any _ _ _ _ _ _ _).mono ?_; rintro e w3 ⟨rfl, rfl⟩)
  refine (wpIn_wide (n := 4)).1 ?_
  obtain ⟨w3, hw3⟩ : ∃ w3, w3 = (w2.alloc (.cells #[.slice A3 n3 c3] 27)).alloc (.cells #[.slice A4 n4 c4] 28) := ⟨_, rfl⟩
  have K5 := hide ((K5.out.alloc (.cells #[.slice A3 n3 c3] 27)).alloc (.cells #[.slice A4 n4 c4] 28))
  have K6 := hide ((K6.out.alloc (.cells #[.slice A3 n3 c3] 27)).alloc (.cells #[.slice A4 n4 c4] 28))
  have K7 := hide ((K7.out.alloc (.cells #[.slice A3 n3 c3] 27)).alloc (.cells #[.slice A4 n4 c4] 28))
  have KB := hide ((Blk.new w2 27 #[.slice A3 n3 c3]).alloc (.cells #[.slice A4 n4 c4] 28))
  have KR := hide (Blk.new1 w2 (.cells #[.slice A3 n3 c3] 27) 28 #[.slice A4 n4 c4])
  have HW := hide ((HW.out.alloc HW.out.size (.cells #[.slice A3 n3 c3] 27)).alloc (by rw [size_alloc']; exact Nat.le_succ_of_le HW.out.size) (.cells #[.slice A4 n4 c4] 28))
  have hs3 : w3.heap.size = w2.heap.size + 1 + 1 := by rw [hw3]; simp
  rw [← hw3] at K5 K6 K7 KB KR HW ⊢
  have Hs3 := hide hs3
  clear hw3 hs3
  refine range_intro rfl (enters_of Tryz.func120 (by kernel_rfl) rfl) ?_
  intro fn rec W1 hrec hW1
  obtain ⟨D, hD⟩ : ∃ D, D = w3.heap.size := ⟨_, rfl⟩
  have hs1 : W1.heap.size = D + 2 := by rw [hW1, hD]; simp
  have hL1 : W1.heap[D + 1]? = some (.loop (rec .ready none)) := by
    rw [hW1, hD]; have := World.alloc_heap_new (w3.alloc (.deferred (some []))) (.loop (rec .ready none)); rwa [World.size_alloc] at this
  have hD1 : W1.heap[D]? = some (.deferred (some [])) := by
    rw [hW1, hD]; exact (Below.heap_alloc _ _ _ (by simp)).trans (World.alloc_heap_new w3 _)
  have k5 : Blk W1 w.heap.size 3 #[.int .i64 i] := by rw [hW1]; exact (K5.out.alloc _).alloc _
  have k6 : Blk W1 (w.heap.size + 1) 107 #[.slice none 0 0] := by rw [hW1]; exact (K6.out.alloc _).alloc _
  have k7 : Blk W1 (w.heap.size + 2) 37 #[.int .i64 0] := by rw [hW1]; exact (K7.out.alloc _).alloc _
  have kB : Blk W1 w2.heap.size 27 #[.slice A3 n3 c3] := by rw [hW1]; exact (KB.out.alloc _).alloc _
  have kR : Blk W1 (w2.heap.size + 1) 28 #[.slice A4 n4 c4] := by rw [hW1]; exact (KR.out.alloc _).alloc _
  have hw1 : Below w.heap.size w W1 := by rw [hW1]; exact (HW.out.alloc HW.out.size _).alloc (by rw [size_alloc']; exact Nat.le_succ_of_le HW.out.size) _
  have hsD : w2.heap.size + 2 = D := by rw [hD, Hs3.out]
  have hws := Hws.out
  have hwD : w.heap.size ≤ D := by omega
  clear hW1 K5 K6 K7 KB KR HW Hs3 Hws
  rw [← hD]
  clear hD
  obtain ⟨J, hJd⟩ : ∃ J : Nat → World → Prop, J = fun k W => k ≤ i ∧ Below w.heap.size w W ∧ W.heap[D + 1]? = some (.loop (rec .ready none)) ∧ W.heap[D]? = some (.deferred (some [])) ∧ Blk W w.heap.size 3 #[.int .i64 i] ∧ Blk W (w.heap.size + 1) 107 #[.slice none 0 0] ∧ Blk W (w.heap.size + 2) 37 #[.int .i64 0] := ⟨_, rfl⟩
  obtain ⟨Jx, hJxd⟩ : ∃ Jx : World → Prop, Jx = fun W => W.heap[D + 1]? = some (.loop (rec .done (some .ret))) ∧ W.heap[D]? = some (.deferred (some [])) ∧ Below w.heap.size w W ∧ ∃ g, D < g ∧ g ≠ D + 1 ∧ W.cell? ⟨w.heap.size + 1, 0, none⟩ = some (.slice (some ⟨g, 0, none⟩) ld.pts.length ld.pts.length) ∧ W.cell? ⟨w.heap.size + 2, 0, none⟩ = some (.int .i64 0) ∧ PtsAt W W.heap.size (some ⟨g, 0, none⟩) ld.pts := ⟨_, rfl⟩
  have HJd := hide hJd
  have HJxd := hide hJxd
  have Hrec := hide hrec
  clear hJd hJxd hrec
  refine (HAll.out D w2.heap.size (w2.heap.size + 1) (D + 1) J Jx ?_ ?_ W1 ?_ hw1 hwD (by omega) (Nat.le_succ D) ?_ ?_ (by omega) (by omega) ?_).mono ?_
  · intro k W W' hj hb
    rw [HJd.out] at hj ⊢
    obtain ⟨j1, j2, j3, j4, j5, j6, j7⟩ := hj
    exact ⟨j1, below_step j2 hb (Nat.le_refl _), (hb.block _ (Array.getElem?_eq_some_iff.1 j3).1).trans j3, (hb.block _ (Array.getElem?_eq_some_iff.1 j4).1).trans j4, j5.keep hb, j6.keep hb, j7.keep hb⟩
  · intro k W hj
    rw [HJd.out] at hj
    exact ⟨_, hj.2.2.1, rfl⟩
  · intro k ld' g m c W hj hld hm hcm hg hpts
    subst hcm
    subst hm
    rw [HJd.out] at hj
    obtain ⟨j1, j2, j3, j4, j5, j6, j7⟩ := hj
    refine yield_intro Hrec.out j3 rfl ?_
    have HA := hide (And.intro j3 (And.intro j5 (And.intro j6 j7)))
    clear j3 j5 j6 j7
    gi_wp2
    obtain ⟨j3, j5, j6, j7⟩ := HA.out
    refine ⟨_, run_beginRound j3 (by rw [Hrec.out]; rfl), ?_⟩
    obtain ⟨W2, hW2⟩ : ∃ W2, W2 = W.putObj (D + 1) (.loop { rec .ready none with state := .busy }) := ⟨_, rfl⟩
    have hDW : D + 1 < W.heap.size := (Array.getElem?_eq_some_iff.1 j3).1
    have hL2 : W2.heap[D + 1]? = some (.loop { rec .ready none with state := .busy }) := by rw [hW2]; exact World.putObj_heap_same hDW
    have o2 : ∀ b, b ≠ D + 1 → W2.heap[b]? = W.heap[b]? := fun b hb => by rw [hW2]; exact World.putObj_heap_other hb
    have k5 : Blk W2 w.heap.size 3 #[.int .i64 i] := (o2 _ (by omega)).trans j5
    have k6 : Blk W2 (w.heap.size + 1) 107 #[.slice none 0 0] := (o2 _ (by omega)).trans j6
    have k7 : Blk W2 (w.heap.size + 2) 37 #[.int .i64 0] := (o2 _ (by omega)).trans j7
    have hz2 : W2.heap.size = W.heap.size := by rw [hW2]; simp
    rw [← hW2]
    have HX := hide (And.intro hW2 (And.intro o2 hL2))
    have R5 := hide k5
    have R6 := hide k6
    have R7 := hide k7
    have c5 := k5.cell 0
    have c6 := k6.cell 0
    have c7 := k7.cell 0
    have f6 := k6.frozen 0
    have f7 := k7.frozen 0
    simp at c5 c6 c7
    have Hj := hide (And.intro j2 (And.intro j3 (And.intro j4 (And.intro j5 (And.intro j6 j7)))))
    have Hp := hide hpts
    clear hW2 o2 hL2 k5 k6 k7 j2 j3 j4 j5 j6 j7 hpts
    by_cases hki : k = i
    · subst hki
      gi_wp2
      obtain ⟨hW2, o2, hL2⟩ := HX.out
      obtain ⟨j2, j3, j4, j5, j6, j7⟩ := Hj.out
      have hlds : ld' = ld := by have h9 := Hi.out; rw [hld] at h9; injection h9
      subst hlds
      obtain ⟨sv, hsv⟩ : ∃ sv, sv = Value.slice (some ⟨g, 0, none⟩) ld'.pts.length ld'.pts.length := ⟨_, rfl⟩
      rw [← hsv]
      have o5 : ∀ b, b ≠ w.heap.size + 1 → b ≠ w.heap.size + 2 → ((W2.setCell ⟨w.heap.size + 1, 0, none⟩ sv).setCell ⟨w.heap.size + 2, 0, none⟩ (.int .i64 0)).heap[b]? = W2.heap[b]? := fun b h1 h2 => (Below.heap_setCell _ _ _ b h2).trans (Below.heap_setCell _ _ _ b h1)
      have hL5 := (o5 (D + 1) (by omega) (by omega)).trans hL2
      obtain ⟨W5, hW5⟩ : ∃ W5, W5 = (W2.setCell ⟨w.heap.size + 1, 0, none⟩ sv).setCell ⟨w.heap.size + 2, 0, none⟩ (.int .i64 0) := ⟨_, rfl⟩
      have q6 : Blk W5 (w.heap.size + 1) 107 #[sv] := by
        rw [hW5]
        have h9 := (R6.out.set_ 0 sv).far (p := ⟨w.heap.size + 2, 0, none⟩) (by show w.heap.size + 1 ≠ w.heap.size + 2; omega) (.int .i64 0)
        simpa using h9
      have q7 : Blk W5 (w.heap.size + 2) 37 #[.int .i64 0] := by
        rw [hW5]
        have h9 := (R7.out.far (p := ⟨w.heap.size + 1, 0, none⟩) (by show w.heap.size + 2 ≠ w.heap.size + 1; omega) sv).set_ 0 (.int .i64 0)
        simpa using h9
      have hB5 : Below w.heap.size w W5 := by
        rw [hW5, hW2]
        exact ((j2.trans ((Below.refl w.heap.size W).grown (grownBy_putObj' W (D + 1) _) j2.size (fun r e => by cases e; omega))).setCell (p := ⟨w.heap.size + 1, 0, none⟩) (Nat.le_succ _) _).setCell (p := ⟨w.heap.size + 2, 0, none⟩) (by show w.heap.size ≤ w.heap.size + 2; omega) _
      have hz5 : W5.heap.size = W.heap.size := by rw [hW5]; simp only [World.size_setCell]; exact hz2
      have o5' : ∀ b, b ≠ w.heap.size + 1 → b ≠ w.heap.size + 2 → W5.heap[b]? = W2.heap[b]? := by rw [hW5]; exact o5
      rw [← hW5] at hL5
      show roundPost _ _ _ _ _ ((W2.setCell ⟨w.heap.size + 1, 0, none⟩ sv).setCell ⟨w.heap.size + 2, 0, none⟩ (.int .i64 0))
      rw [← hW5]
      clear hW5 o5 hW2
      refine ⟨_, _, run_endRound (some .ret) hL5, .inr ⟨rfl, ?_⟩⟩
      rw [HJxd.out]
      have hrc : ({ { rec .ready none with state := .busy } with state := if (some Code.ret).isNone then LoopState.ready else LoopState.done, pending := some Code.ret } : Loop) = rec .done (some .ret) := by rw [Hrec.out]; rfl
      have oo : ∀ b, b ≠ D + 1 → (W5.putObj (D + 1) (.loop { { rec .ready none with state := .busy } with state := if (some Code.ret).isNone then LoopState.ready else LoopState.done, pending := some Code.ret })).heap[b]? = W5.heap[b]? := fun b hb => World.putObj_heap_other hb
      refine ⟨?_, (oo D (by omega)).trans ((o5' D (by omega) (by omega)).trans ((o2 D (by omega)).trans j4)), hB5.grown (grownBy_putObj' _ _ _) hB5.size (fun r e => by cases e; omega), g, by omega, by omega, ?_, ?_, ?_⟩
      · rw [World.putObj_heap_same (by rw [hz5]; exact hDW), hrc]
      · have h9 := q6.cell 0
        rw [← hsv]
        exact (World.cell?_of_block (a := ⟨w.heap.size + 1, 0, none⟩) (oo (w.heap.size + 1) (by omega))).trans (by simpa using h9)
      · have h9 := q7.cell 0
        exact (World.cell?_of_block (a := ⟨w.heap.size + 2, 0, none⟩) (oo (w.heap.size + 2) (by omega))).trans (by simpa using h9)
      · exact SlOf.block Hp.out ((oo g (by omega)).trans ((o5' g (by omega) (by omega)).trans (o2 g (by omega)))) (by simp [hz5])
    · have hki2 : ((k : Int) == (i : Int)) = false := by simp; omega
      have hki3 : (k == i) = false := by simpa using hki
      gi_wp2
      obtain ⟨hW2, o2, hL2⟩ := HX.out
      obtain ⟨j2, j3, j4, j5, j6, j7⟩ := Hj.out
      refine ⟨_, _, run_endRound none hL2, .inl ⟨rfl, ?_, ?_⟩⟩
      · rw [HJd.out]
        have hrc : ({ { rec .ready none with state := .busy } with state := if (none : Option Code).isNone then LoopState.ready else LoopState.done, pending := none } : Loop) = rec .ready none := by rw [Hrec.out]; rfl
        have oo : ∀ b, b ≠ D + 1 → (W2.putObj (D + 1) (.loop { { rec .ready none with state := .busy } with state := if (none : Option Code).isNone then LoopState.ready else LoopState.done, pending := none })).heap[b]? = W2.heap[b]? := fun b hb => World.putObj_heap_other hb
        have hB2 : Below w.heap.size w W2 := by
          rw [hW2]
          exact j2.trans ((Below.refl w.heap.size W).grown (grownBy_putObj' W (D + 1) _) j2.size (fun r e => by cases e; omega))
        refine ⟨by omega, hB2.grown (grownBy_putObj' _ _ _) hB2.size (fun r e => by cases e; omega), ?_, (oo D (by omega)).trans ((o2 D (by omega)).trans j4), (oo _ (by omega)).trans R5.out, (oo _ (by omega)).trans R6.out, (oo _ (by omega)).trans R7.out⟩
        rw [World.putObj_heap_same (by rw [hz2]; exact hDW), hrc]
      · refine ⟨?_, ?_, ?_, by simp [hz2], fun b hb hne => ?_⟩
        · rw [hW2]; rfl
        · rw [hW2]; rfl
        · rw [hW2]; rfl
        · have hb1 : b ≠ D + 1 := fun h9 => hne (by rw [h9])
          exact (World.putObj_heap_other hb1).trans (o2 b hb1)
  · have := kB.cell 0
    simpa using this
  · have := kR.cell 0
    simpa using this
  · rw [HJd.out]
    exact ⟨Nat.zero_le _, hw1, hL1, hD1, k5, k6, k7⟩
  · rintro e W5 ⟨hv, hJf | hJf⟩
    · rw [HJd.out] at hJf
      have := lt_of_get Hi.out
      omega
    · rw [HJxd.out] at hJf
      obtain ⟨j1, j2, j3, g, hgD, hgL, j4, j5, j6⟩ := hJf
      have o1 : ∀ b, b ≠ D + 1 → b ≠ D → ((W5.putObj (D + 1) (.loop (rec .exhausted (some .ret)))).putObj D (.deferred none)).heap[b]? = W5.heap[b]? := fun b h1 h2 => (World.putObj_heap_other h2).trans (World.putObj_heap_other h1)
      have hD5 : D < W5.heap.size := (Array.getElem?_eq_some_iff.1 j2).1
      have oA := o1 (w.heap.size + 1) (by omega) (by omega)
      have oB := o1 (w.heap.size + 2) (by omega) (by omega)
      refine ⟨hv, j1, by simp, .inl ⟨_, _, rfl, run_takeDeferred (show (W5.putObj (D + 1) (.loop (rec .exhausted (some .ret)))).heap[D]? = some (.deferred (some [])) from (World.putObj_heap_other (by omega)).trans j2), ?_⟩⟩
      refine ⟨_, results_cc1 (gp := w.heap.size + 1) (gq := w.heap.size + 2) rfl rfl rfl ((World.cell?_of_block (a := ⟨w.heap.size + 1, 0, none⟩) oA).trans j4) ((World.cell?_of_block (a := ⟨w.heap.size + 2, 0, none⟩) oB).trans j5) Tryz.underlying107 Tryz.underlying37 rfl rfl, some ⟨g, 0, none⟩, rfl, ?_, ?_⟩
      · exact SlOf.block j6 (o1 _ hgL (by omega)) (by simp)
      · refine ⟨j3.os, j3.tape, j3.output, by simpa using j3.size, fun b hb => (o1 b (by omega) (by omega)).trans (j3.block b hb)⟩
end Go.Proofs.YtmcjpdlkkpnhfaaGreat
namespace Go.Proofs.YtmcjpdlkkpnhfaaGreat
open Go.RowKit

/-- What few(x) gives. -/
structure Few (x : DetD) (s : DetS) : Prop where
  name : x.mem.name.size ≤ 60
  bars : s.n3 ≤ 63
  runs : s.n4 ≤ 63
  laps : s.n5 ≤ 1005
  demn : s.n6 ≤ 25
  tame : Tame x.bars
  dems : ∀ d ∈ x.dems, d.name.size ≤ 60 ∧ d.steps.length ≤ 205
structure DetLen (x : DetD) (s : DetS) : Prop where
  l1 : s.n1 = x.mem.boxes.length
  l2 : s.n2 = x.mem.holes.length
  l3 : s.n3 = x.bars.length
  l4 : s.n4 = x.runs.length
  l5 : s.n5 = x.laps.length
  l6 : s.n6 = x.dems.length
  k6 : s.n6 ≤ s.c6
theorem few_fit {x : DetD} {s : DetS} (h : DetLen x s) (f : Few x s) : DetFit x s :=
  ⟨h.l1, h.l2, h.l3, h.l4, h.l5, h.l6, Nat.le_trans f.bars (by decide), Nat.le_trans f.runs (by decide), Nat.le_trans f.laps (by decide), Nat.le_trans f.demn (by decide), h.k6,
   Nat.le_trans f.name (by decide), f.tame, fun d hd => ⟨Nat.le_trans (f.dems d hd).1 (by decide), by have := (f.dems d hd).2; omega⟩⟩
set_option maxHeartbeats 8000000 in
set_option maxRecDepth 100000 in
theorem small25_any (x : DetD) (s : DetS) (w : World) {B : Nat} (h : DetAt w B x s) (hB : B ≤ w.heap.size) (hl : DetLen x s) :
    Calls Tryz.prog 8 #[detV x s] w fun e w' => RetB e (Few x s) ∧ Below w.heap.size w w' := by
  have HS := hide (fun (W : World) (hz : Below w.heap.size w W) => small16_any s.a3 x.bars s.n3 s.c3 s.a4 x.runs s.n4 s.c4 W (h.h3.carry (hz.mono hB) (Nat.le_refl _)) (h.h4.carry (Flat.carried _) (hz.mono hB) (Nat.le_refl _)) (Nat.le_trans hB hz.size) hl.l3 hl.l4)
  have HD := hide (fun (W : World) (hz : Below w.heap.size w W) => small23_any s.a6 x.dems s.n6 s.c6 W (SlOf.carry demR_carried h.h6 (hz.mono hB) (Nat.le_refl _)) (Nat.le_trans hB hz.size) hl.l6)
  have K0 := hide (Blk.new w 34 (detCells x.mem x.rule s))
  have W0 := hide (below_new w (.cells (detCells x.mem x.rule s) 34))
  clear h hB hl
  obtain ⟨mem, bars, runs, laps, dems, rule⟩ := x
  obtain ⟨sol, boxes, holes, cover, agg, poker⟩ := mem
  obtain ⟨a1, n1, c1, a2, n2, c2, a3, n3, c3, a4, n4, c4, a5, n5, c5, a6, n6, c6⟩ := s
  go_enter Tryz.func8, Tryz.ntmps8
  by_cases hnm : 60 < (sol.size : Int)
  · go_wp2_with fail
    go_ret
    exact ⟨⟨false, rfl, fun h => by cases h⟩, W0.out⟩
  · go_wp2_with fail
    refine (small17_any a1 a2 n1 c1 n2 c2 _).mono ?_
    rintro e w2 ⟨⟨t, rfl, _⟩, hb2⟩
    have K1 := hide (K0.out.keep hb2)
    have W1 := hide (below_step W0.out hb2 (Nat.le_refl _))
    clear hb2 K0 W0
    cases t
    · go_wp2_with fail
      go_ret
      exact ⟨⟨false, rfl, fun h => by cases h⟩, W1.out⟩
    have c6 := K1.out.cell 6
    have c7 := K1.out.cell 7
    simp at c6 c7
    go_wp2_with fail
    refine (HS.out _ W1.out).mono ?_
    rintro e w3 ⟨⟨t, rfl, ht⟩, hb3⟩
    have K2 := hide (K1.out.keep hb3)
    have W2 := hide (below_step W1.out hb3 (Nat.le_refl _))
    clear hb3 K1 W1 HS c6 c7
    cases t
    · clear ht
      go_wp2_with fail
      go_ret
      exact ⟨⟨false, rfl, fun h => by cases h⟩, W2.out⟩
    have H16 := hide (ht rfl)
    clear ht
    have c9 := K2.out.cell 9
    simp at c9
    go_wp2_with fail
    refine (HD.out _ W2.out).mono ?_
    rintro e w4 ⟨⟨t, rfl, ht⟩, hb4⟩
    have K3 := hide (K2.out.keep hb4)
    have W3 := hide (below_step W2.out hb4 (Nat.le_refl _))
    clear hb4 K2 W2 HD c9
    cases t
    · clear ht
      go_wp2_with fail
      go_ret
      exact ⟨⟨false, rfl, fun h => by cases h⟩, W3.out⟩
    have H23 := hide (ht rfl)
    clear ht
    have c8 := K3.out.cell 8
    simp at c8
    have Hfin := hide (fun (h5 : n5 ≤ 1005) => (⟨by simp only []; omega, H16.out.1, H16.out.2.1, h5, H23.out.1, H16.out.2.2, H23.out.2⟩ : Few ⟨⟨sol, boxes, holes, cover, agg, poker⟩, bars, runs, laps, dems, rule⟩ ⟨a1, n1, c1, a2, n2, c2, a3, n3, c3, a4, n4, c4, a5, n5, c5, a6, n6, c6⟩))
    go_wp2_with fail
    all_goals go_ret
    all_goals exact ⟨⟨_, rfl, fun h => Hfin.out (by simp at h <;> omega)⟩, W3.out⟩
end Go.Proofs.YtmcjpdlkkpnhfaaGreat
namespace Go.Proofs.YtmcjpdlkkpnhfaaGreat
open Go.RowKit

set_option maxHeartbeats 2000000 in
theorem refHull17_ok (bs _hs : List BoxD) (A1 A2 : Option Addr) (n1 n2 c1 c2 : Nat) (w : World) {B : Nat} (h1 : BoxesAt w B A1 bs) (hB : B ≤ w.heap.size) (hn1 : n1 = bs.length) (hne : 1 ≤ bs.length) (hm : bs.length ≤ 60000) :
    Calls Tryz.prog 46 #[.agg #[.slice A1 n1 c1, .slice A2 n2 c2]] w fun e w' => e = .returned (bxV (hullOf bs)) ∧ Below w.heap.size w w' := by
  have HH := hide (fun (W : World) (hz : Below w.heap.size w W) => refHull09_ok A1 bs n1 c1 W (h1.carry (Flat.carried _) (hz.mono hB) (Nat.le_refl _)) (Nat.le_trans hB hz.size) hn1 (by omega) (by omega))
  have HW := hide (below_new2 w (.cells #[.slice A1 n1 c1, .slice A2 n2 c2] 24) (.cells #[.int .i64 0, .int .i64 0, .int .i64 0, .int .i64 0, .int .i64 0, .int .i64 0] 63))
  have KR := hide (Blk.new1 w (.cells #[.slice A1 n1 c1, .slice A2 n2 c2] 24) 63 #[.int .i64 0, .int .i64 0, .int .i64 0, .int .i64 0, .int .i64 0, .int .i64 0])
  generalize hullOf bs = H at *
  obtain ⟨⟨x1, x2, x3⟩, x4, x5, x6⟩ := H
  simp only [bxV] at HH ⊢
  clear h1 hB hn1 hne hm
  go_enter Tryz.func46, Tryz.ntmps46
  go_wp2_with fail
  refine (HH.out _ HW.out).mono ?_
  rintro e w2 ⟨rfl, hb⟩
  have kr := KR.out.keep hb
  have e0 := kr.cell 0
  have e1 := kr.cell 1
  have e2 := kr.cell 2
  have e3 := kr.cell 3
  have e4 := kr.cell 4
  have e5 := kr.cell 5
  have g0 := kr.frozen 0
  have g1 := kr.frozen 1
  have g2 := kr.frozen 2
  have g3 := kr.frozen 3
  have g4 := kr.frozen 4
  have g5 := kr.frozen 5
  simp at e0 e1 e2 e3 e4 e5
  have lk := kr.lt
  have Kr := hide kr
  have HF := hide (below_step HW.out hb (Nat.le_refl _))
  clear kr KR HW hb HH
  go_wp2_with fail
  refine bodyPost_ret (results_c rfl rfl ((((((Kr.out.set_ 0 _).set_ 1 _).set_ 2 _).set_ 3 _).set_ 4 _).set_ 5 _) Tryz.underlying63 rfl (by kernel_rfl)) rfl ?_
  refine ⟨?_, (((((HF.out.setCell (p := ⟨w.heap.size + 1, 0, none⟩) (Nat.le_succ _) _).setCell (p := ⟨w.heap.size + 1, 1, none⟩) (Nat.le_succ _) _).setCell (p := ⟨w.heap.size + 1, 2, none⟩) (Nat.le_succ _) _).setCell (p := ⟨w.heap.size + 1, 3, none⟩) (Nat.le_succ _) _).setCell (p := ⟨w.heap.size + 1, 4, none⟩) (Nat.le_succ _) _).setCell (p := ⟨w.heap.size + 1, 5, none⟩) (Nat.le_succ _) _⟩
  simp only [List.setIfInBounds_toArray, List.set_cons_zero, List.set_cons_succ]
end Go.Proofs.YtmcjpdlkkpnhfaaGreat
namespace Go.Proofs.YtmcjpdlkkpnhfaaGreat
open Go.RowKit Go.ChangeShapes Go.WideShapes Go.Deep

theorem cons_len {l : List Value} {n : Nat} (h : l.length = n + 1) : ∃ a r, l = a :: r ∧ r.length = n := by
  cases l with
  | nil => simp at h
  | cons a r => exact ⟨a, r, rfl, by simpa using h⟩
theorem len0v {l : List Value} (h : l.length = 0) : l = [] := List.eq_nil_of_length_eq_zero h
instance : Inhabited BoxD := ⟨⟨(0, 0, 0), (0, 0, 0)⟩⟩
instance : Inhabited RunD := ⟨⟨.empty, 0, 0, (0, 0, 0), (0, 0, 0), 0⟩⟩
instance : Inhabited JoinD := ⟨⟨0, 0⟩⟩
instance : Inhabited DemD := ⟨⟨.empty, ⟨(0, 0, 0), (0, 0, 0)⟩, []⟩⟩
instance : Inhabited BarD := ⟨⟨.empty, 0, 0, 0, []⟩⟩
section
variable {H : Type} {enc : TypeId × Value → H} {w : World} {base : Nat} {held : Bool}
set_option maxRecDepth 100000 in
theorem pt_open {n : Nat} {cs : List Value} {x : DataW H × List MemPlace} (h : DataW.trod enc Tryz.prog w base (fun _ => true) held n 61 cs = some x) :
    ∃ p : Pt, cs = encPt p := by
  obtain ⟨xs, m, _, _, hl, hxl, hf⟩ := DataW.trod_struct Tryz.underlying61 h
  have hx : xs.length = 3 := hxl
  rw [show (Tryz.prog).cellsOf 61 = 3 by kernel_rfl] at hl
  obtain ⟨v0, cs0, e0, hl⟩ := cons_len hl
  obtain ⟨v1, cs1, e1, hl⟩ := cons_len hl
  obtain ⟨v2, cs2, e2, hl⟩ := cons_len hl
  have e9 := len0v hl
  subst e9 e2 e1 e0
  have h0 : DataW.trod enc Tryz.prog w base (fun _ => true) held m 3 (([v0, v1, v2].drop 0).take ((Tryz.prog).cellsOf 3)) = xs[0]? := hf 0 _ rfl
  have h1 : DataW.trod enc Tryz.prog w base (fun _ => true) held m 3 (([v0, v1, v2].drop 1).take ((Tryz.prog).cellsOf 3)) = xs[1]? := hf 1 _ rfl
  have h2 : DataW.trod enc Tryz.prog w base (fun _ => true) held m 3 (([v0, v1, v2].drop 2).take ((Tryz.prog).cellsOf 3)) = xs[2]? := hf 2 _ rfl
  obtain ⟨y0, e0⟩ := some_of_lt (l := xs) (j := 0) (by omega)
  rw [show (Tryz.prog).cellsOf 3 = 1 by kernel_rfl, e0] at h0
  obtain ⟨y1, e1⟩ := some_of_lt (l := xs) (j := 1) (by omega)
  rw [show (Tryz.prog).cellsOf 3 = 1 by kernel_rfl, e1] at h1
  obtain ⟨y2, e2⟩ := some_of_lt (l := xs) (j := 2) (by omega)
  rw [show (Tryz.prog).cellsOf 3 = 1 by kernel_rfl, e2] at h2
  obtain ⟨n0, z0, _, _⟩ := DataW.trod_int Tryz.underlying3 h0
  obtain ⟨n1, z1, _, _⟩ := DataW.trod_int Tryz.underlying3 h1
  obtain ⟨n2, z2, _, _⟩ := DataW.trod_int Tryz.underlying3 h2
  simp at z0 z1 z2
  exact ⟨(n0, n1, n2), by rw [z0, z1, z2]; rfl⟩
set_option maxRecDepth 100000 in
theorem box_open {n : Nat} {cs : List Value} {x : DataW H × List MemPlace} (h : DataW.trod enc Tryz.prog w base (fun _ => true) held n 63 cs = some x) :
    ∃ b : BoxD, cs = encB b := by
  obtain ⟨xs, m, _, _, hl, hxl, hf⟩ := DataW.trod_struct Tryz.underlying63 h
  have hx : xs.length = 2 := hxl
  rw [show (Tryz.prog).cellsOf 63 = 6 by kernel_rfl] at hl
  obtain ⟨v0, cs0, e0, hl⟩ := cons_len hl
  obtain ⟨v1, cs1, e1, hl⟩ := cons_len hl
  obtain ⟨v2, cs2, e2, hl⟩ := cons_len hl
  obtain ⟨v3, cs3, e3, hl⟩ := cons_len hl
  obtain ⟨v4, cs4, e4, hl⟩ := cons_len hl
  obtain ⟨v5, cs5, e5, hl⟩ := cons_len hl
  have e9 := len0v hl
  subst e9 e5 e4 e3 e2 e1 e0
  have h0 : DataW.trod enc Tryz.prog w base (fun _ => true) held m 61 (([v0, v1, v2, v3, v4, v5].drop 0).take ((Tryz.prog).cellsOf 61)) = xs[0]? := hf 0 _ rfl
  have h1 : DataW.trod enc Tryz.prog w base (fun _ => true) held m 61 (([v0, v1, v2, v3, v4, v5].drop 3).take ((Tryz.prog).cellsOf 61)) = xs[1]? := hf 1 _ rfl
  obtain ⟨y0, e0⟩ := some_of_lt (l := xs) (j := 0) (by omega)
  rw [show (Tryz.prog).cellsOf 61 = 3 by kernel_rfl, e0] at h0
  obtain ⟨y1, e1⟩ := some_of_lt (l := xs) (j := 1) (by omega)
  rw [show (Tryz.prog).cellsOf 61 = 3 by kernel_rfl, e1] at h1
  obtain ⟨p, z0⟩ := pt_open h0
  obtain ⟨q, z1⟩ := pt_open h1
  simp [encPt] at z0 z1
  exact ⟨⟨p, q⟩, by rw [z0.1, z0.2.1, z0.2.2, z1.1, z1.2.1, z1.2.2]; rfl⟩
set_option maxRecDepth 100000 in
theorem trn_open {n : Nat} {cs : List Value} {x : DataW H × List MemPlace} (h : DataW.trod enc Tryz.prog w base (fun _ => true) held n 104 cs = some x) :
    ∃ a b : Int, cs = [.int .i64 a, .int .i64 b] := by
  obtain ⟨xs, m, _, _, hl, hxl, hf⟩ := DataW.trod_struct Tryz.underlying104 h
  have hx : xs.length = 2 := hxl
  rw [show (Tryz.prog).cellsOf 104 = 2 by kernel_rfl] at hl
  obtain ⟨v0, cs0, e0, hl⟩ := cons_len hl
  obtain ⟨v1, cs1, e1, hl⟩ := cons_len hl
  have e9 := len0v hl
  subst e9 e1 e0
  have h0 : DataW.trod enc Tryz.prog w base (fun _ => true) held m 3 (([v0, v1].drop 0).take ((Tryz.prog).cellsOf 3)) = xs[0]? := hf 0 _ rfl
  have h1 : DataW.trod enc Tryz.prog w base (fun _ => true) held m 3 (([v0, v1].drop 1).take ((Tryz.prog).cellsOf 3)) = xs[1]? := hf 1 _ rfl
  obtain ⟨y0, e0⟩ := some_of_lt (l := xs) (j := 0) (by omega)
  rw [show (Tryz.prog).cellsOf 3 = 1 by kernel_rfl, e0] at h0
  obtain ⟨y1, e1⟩ := some_of_lt (l := xs) (j := 1) (by omega)
  rw [show (Tryz.prog).cellsOf 3 = 1 by kernel_rfl, e1] at h1
  obtain ⟨n0, z0, _, _⟩ := DataW.trod_int Tryz.underlying3 h0
  obtain ⟨n1, z1, _, _⟩ := DataW.trod_int Tryz.underlying3 h1
  simp at z0 z1
  exact ⟨n0, n1, by rw [z0, z1]⟩
set_option maxRecDepth 100000 in
theorem run_open {n : Nat} {cs : List Value} {x : DataW H × List MemPlace} (h : DataW.trod enc Tryz.prog w base (fun _ => true) held n 106 cs = some x) :
    ∃ r : RunD, Flat encRun w w.heap.size cs r := by
  obtain ⟨xs, m, _, _, hl, hxl, hf⟩ := DataW.trod_struct Tryz.underlying106 h
  have hx : xs.length = 5 := hxl
  rw [show (Tryz.prog).cellsOf 106 = 10 by kernel_rfl] at hl
  obtain ⟨v0, cs0, e0, hl⟩ := cons_len hl
  obtain ⟨v1, cs1, e1, hl⟩ := cons_len hl
  obtain ⟨v2, cs2, e2, hl⟩ := cons_len hl
  obtain ⟨v3, cs3, e3, hl⟩ := cons_len hl
  obtain ⟨v4, cs4, e4, hl⟩ := cons_len hl
  obtain ⟨v5, cs5, e5, hl⟩ := cons_len hl
  obtain ⟨v6, cs6, e6, hl⟩ := cons_len hl
  obtain ⟨v7, cs7, e7, hl⟩ := cons_len hl
  obtain ⟨v8, cs8, e8, hl⟩ := cons_len hl
  obtain ⟨v9, cs9, e9, hl⟩ := cons_len hl
  have e9 := len0v hl
  subst e9 e9 e8 e7 e6 e5 e4 e3 e2 e1 e0
  have h0 : DataW.trod enc Tryz.prog w base (fun _ => true) held m 9 (([v0, v1, v2, v3, v4, v5, v6, v7, v8, v9].drop 0).take ((Tryz.prog).cellsOf 9)) = xs[0]? := hf 0 _ rfl
  have h1 : DataW.trod enc Tryz.prog w base (fun _ => true) held m 104 (([v0, v1, v2, v3, v4, v5, v6, v7, v8, v9].drop 1).take ((Tryz.prog).cellsOf 104)) = xs[1]? := hf 1 _ rfl
  have h2 : DataW.trod enc Tryz.prog w base (fun _ => true) held m 61 (([v0, v1, v2, v3, v4, v5, v6, v7, v8, v9].drop 3).take ((Tryz.prog).cellsOf 61)) = xs[2]? := hf 2 _ rfl
  have h3 : DataW.trod enc Tryz.prog w base (fun _ => true) held m 61 (([v0, v1, v2, v3, v4, v5, v6, v7, v8, v9].drop 6).take ((Tryz.prog).cellsOf 61)) = xs[3]? := hf 3 _ rfl
  have h4 : DataW.trod enc Tryz.prog w base (fun _ => true) held m 3 (([v0, v1, v2, v3, v4, v5, v6, v7, v8, v9].drop 9).take ((Tryz.prog).cellsOf 3)) = xs[4]? := hf 4 _ rfl
  obtain ⟨y0, e0⟩ := some_of_lt (l := xs) (j := 0) (by omega)
  rw [show (Tryz.prog).cellsOf 9 = 1 by kernel_rfl, e0] at h0
  obtain ⟨y1, e1⟩ := some_of_lt (l := xs) (j := 1) (by omega)
  rw [show (Tryz.prog).cellsOf 104 = 2 by kernel_rfl, e1] at h1
  obtain ⟨y2, e2⟩ := some_of_lt (l := xs) (j := 2) (by omega)
  rw [show (Tryz.prog).cellsOf 61 = 3 by kernel_rfl, e2] at h2
  obtain ⟨y3, e3⟩ := some_of_lt (l := xs) (j := 3) (by omega)
  rw [show (Tryz.prog).cellsOf 61 = 3 by kernel_rfl, e3] at h3
  obtain ⟨y4, e4⟩ := some_of_lt (l := xs) (j := 4) (by omega)
  rw [show (Tryz.prog).cellsOf 3 = 1 by kernel_rfl, e4] at h4
  obtain ⟨n0, z0, _, _⟩ := DataW.trod_string Tryz.underlying9 h0
  obtain ⟨n4, z4, _, _⟩ := DataW.trod_int Tryz.underlying3 h4
  obtain ⟨a, b, z1⟩ := trn_open h1
  obtain ⟨p, z2⟩ := pt_open h2
  obtain ⟨q, z3⟩ := pt_open h3
  simp [encPt] at z0 z1 z2 z3 z4
  exact ⟨⟨n0, a, b, p, q, n4⟩, by rw [z0, z1.1, z1.2, z2.1, z2.2.1, z2.2.2, z3.1, z3.2.1, z3.2.2, z4]; rfl⟩
set_option maxRecDepth 100000 in
theorem join_open {n : Nat} {cs : List Value} {x : DataW H × List MemPlace} (h : DataW.trod enc Tryz.prog w base (fun _ => true) held n 133 cs = some x) :
    ∃ j : JoinD, Flat encJoin w w.heap.size cs j := by
  obtain ⟨xs, m, _, _, hl, hxl, hf⟩ := DataW.trod_struct Tryz.underlying133 h
  have hx : xs.length = 2 := hxl
  rw [show (Tryz.prog).cellsOf 133 = 2 by kernel_rfl] at hl
  obtain ⟨v0, cs0, e0, hl⟩ := cons_len hl
  obtain ⟨v1, cs1, e1, hl⟩ := cons_len hl
  have e9 := len0v hl
  subst e9 e1 e0
  have h0 : DataW.trod enc Tryz.prog w base (fun _ => true) held m 3 (([v0, v1].drop 0).take ((Tryz.prog).cellsOf 3)) = xs[0]? := hf 0 _ rfl
  have h1 : DataW.trod enc Tryz.prog w base (fun _ => true) held m 3 (([v0, v1].drop 1).take ((Tryz.prog).cellsOf 3)) = xs[1]? := hf 1 _ rfl
  obtain ⟨y0, e0⟩ := some_of_lt (l := xs) (j := 0) (by omega)
  rw [show (Tryz.prog).cellsOf 3 = 1 by kernel_rfl, e0] at h0
  obtain ⟨y1, e1⟩ := some_of_lt (l := xs) (j := 1) (by omega)
  rw [show (Tryz.prog).cellsOf 3 = 1 by kernel_rfl, e1] at h1
  obtain ⟨n0, z0, _, _⟩ := DataW.trod_int Tryz.underlying3 h0
  obtain ⟨n1, z1, _, _⟩ := DataW.trod_int Tryz.underlying3 h1
  simp at z0 z1
  exact ⟨⟨n0, n1⟩, by rw [z0, z1]; rfl⟩
set_option maxRecDepth 100000 in
theorem step_open {n : Nat} {cs : List Value} {x : DataW H × List MemPlace} (h : DataW.trod enc Tryz.prog w base (fun _ => true) held n 196 cs = some x) :
    ∃ j : Int × Int, Flat encStp w w.heap.size cs j := by
  obtain ⟨xs, m, _, _, hl, hxl, hf⟩ := DataW.trod_struct Tryz.underlying196 h
  have hx : xs.length = 2 := hxl
  rw [show (Tryz.prog).cellsOf 196 = 2 by kernel_rfl] at hl
  obtain ⟨v0, cs0, e0, hl⟩ := cons_len hl
  obtain ⟨v1, cs1, e1, hl⟩ := cons_len hl
  have e9 := len0v hl
  subst e9 e1 e0
  have h0 : DataW.trod enc Tryz.prog w base (fun _ => true) held m 3 (([v0, v1].drop 0).take ((Tryz.prog).cellsOf 3)) = xs[0]? := hf 0 _ rfl
  have h1 : DataW.trod enc Tryz.prog w base (fun _ => true) held m 3 (([v0, v1].drop 1).take ((Tryz.prog).cellsOf 3)) = xs[1]? := hf 1 _ rfl
  obtain ⟨y0, e0⟩ := some_of_lt (l := xs) (j := 0) (by omega)
  rw [show (Tryz.prog).cellsOf 3 = 1 by kernel_rfl, e0] at h0
  obtain ⟨y1, e1⟩ := some_of_lt (l := xs) (j := 1) (by omega)
  rw [show (Tryz.prog).cellsOf 3 = 1 by kernel_rfl, e1] at h1
  obtain ⟨n0, z0, _, _⟩ := DataW.trod_int Tryz.underlying3 h0
  obtain ⟨n1, z1, _, _⟩ := DataW.trod_int Tryz.underlying3 h1
  simp at z0 z1
  exact ⟨(n0, n1), by rw [z0, z1]; rfl⟩
theorem boxes_open {n : Nat} {cs : List Value} {x : DataW H × List MemPlace} (h : DataW.trod enc Tryz.prog w base (fun _ => true) held n 22 cs = some x) :
    ∃ (A : Option Addr) (l : List BoxD) (c : Nat), cs = [.slice A l.length c] ∧ BoxesAt w w.heap.size A l ∧ l.length ≤ maxLen ∧ l.length ≤ c :=
  slice_open Tryz.underlying22 (by kernel_rfl) (by decide) (fun _ _ _ h => box_open h) h
theorem runs_open {n : Nat} {cs : List Value} {x : DataW H × List MemPlace} (h : DataW.trod enc Tryz.prog w base (fun _ => true) held n 28 cs = some x) :
    ∃ (A : Option Addr) (l : List RunD) (c : Nat), cs = [.slice A l.length c] ∧ RunsAt w w.heap.size A l ∧ l.length ≤ maxLen ∧ l.length ≤ c :=
  slice_open Tryz.underlying28 (by kernel_rfl) (by decide) (fun _ _ _ h => run_open h) h
theorem joins_open {n : Nat} {cs : List Value} {x : DataW H × List MemPlace} (h : DataW.trod enc Tryz.prog w base (fun _ => true) held n 29 cs = some x) :
    ∃ (A : Option Addr) (l : List JoinD) (c : Nat), cs = [.slice A l.length c] ∧ JoinsAt w w.heap.size A l ∧ l.length ≤ maxLen ∧ l.length ≤ c :=
  slice_open Tryz.underlying29 (by kernel_rfl) (by decide) (fun _ _ _ h => join_open h) h
theorem steps_open {n : Nat} {cs : List Value} {x : DataW H × List MemPlace} (h : DataW.trod enc Tryz.prog w base (fun _ => true) held n 121 cs = some x) :
    ∃ (A : Option Addr) (l : List (Int × Int)) (c : Nat), cs = [.slice A l.length c] ∧ StpsAt w w.heap.size A l ∧ l.length ≤ maxLen ∧ l.length ≤ c :=
  slice_open Tryz.underlying121 (by kernel_rfl) (by decide) (fun _ _ _ h => step_open h) h
theorem barsG_open {n : Nat} {cs : List Value} {x : DataW H × List MemPlace} (h : DataW.trod enc Tryz.prog w base (fun _ => true) held n 27 cs = some x) :
    ∃ (A : Option Addr) (l : List BarD) (c : Nat), cs = [.slice A l.length c] ∧ BarsAt w w.heap.size A l ∧ l.length ≤ maxLen ∧ l.length ≤ c :=
  slice_open Tryz.underlying27 (by kernel_rfl) (by decide) (fun _ _ _ h => bar_open h) h
set_option maxRecDepth 100000 in
theorem dem_open {n : Nat} {cs : List Value} {x : DataW H × List MemPlace} (h : DataW.trod enc Tryz.prog w base (fun _ => true) held n 123 cs = some x) :
    ∃ d : DemD, demR w w.heap.size cs d := by
  obtain ⟨xs, m, _, _, hl, hxl, hf⟩ := DataW.trod_struct Tryz.underlying123 h
  have hx : xs.length = 3 := hxl
  rw [show (Tryz.prog).cellsOf 123 = 8 by kernel_rfl] at hl
  obtain ⟨v0, cs0, e0, hl⟩ := cons_len hl
  obtain ⟨v1, cs1, e1, hl⟩ := cons_len hl
  obtain ⟨v2, cs2, e2, hl⟩ := cons_len hl
  obtain ⟨v3, cs3, e3, hl⟩ := cons_len hl
  obtain ⟨v4, cs4, e4, hl⟩ := cons_len hl
  obtain ⟨v5, cs5, e5, hl⟩ := cons_len hl
  obtain ⟨v6, cs6, e6, hl⟩ := cons_len hl
  obtain ⟨v7, cs7, e7, hl⟩ := cons_len hl
  have e9 := len0v hl
  subst e9 e7 e6 e5 e4 e3 e2 e1 e0
  have h0 : DataW.trod enc Tryz.prog w base (fun _ => true) held m 9 (([v0, v1, v2, v3, v4, v5, v6, v7].drop 0).take ((Tryz.prog).cellsOf 9)) = xs[0]? := hf 0 _ rfl
  have h1 : DataW.trod enc Tryz.prog w base (fun _ => true) held m 63 (([v0, v1, v2, v3, v4, v5, v6, v7].drop 1).take ((Tryz.prog).cellsOf 63)) = xs[1]? := hf 1 _ rfl
  have h2 : DataW.trod enc Tryz.prog w base (fun _ => true) held m 121 (([v0, v1, v2, v3, v4, v5, v6, v7].drop 7).take ((Tryz.prog).cellsOf 121)) = xs[2]? := hf 2 _ rfl
  obtain ⟨y0, e0⟩ := some_of_lt (l := xs) (j := 0) (by omega)
  rw [show (Tryz.prog).cellsOf 9 = 1 by kernel_rfl, e0] at h0
  obtain ⟨y1, e1⟩ := some_of_lt (l := xs) (j := 1) (by omega)
  rw [show (Tryz.prog).cellsOf 63 = 6 by kernel_rfl, e1] at h1
  obtain ⟨y2, e2⟩ := some_of_lt (l := xs) (j := 2) (by omega)
  rw [show (Tryz.prog).cellsOf 121 = 1 by kernel_rfl, e2] at h2
  obtain ⟨n0, z0, _, _⟩ := DataW.trod_string Tryz.underlying9 h0
  obtain ⟨b, z1⟩ := box_open h1
  obtain ⟨A, l, c, z2, hs, _⟩ := steps_open h2
  simp [encB] at z0 z1 z2
  exact ⟨⟨n0, b, l⟩, A, c, by rw [z0, z1.1, z1.2.1, z1.2.2.1, z1.2.2.2.1, z1.2.2.2.2.1, z1.2.2.2.2.2, z2]; rfl, hs⟩
theorem dems_open {n : Nat} {cs : List Value} {x : DataW H × List MemPlace} (h : DataW.trod enc Tryz.prog w base (fun _ => true) held n 30 cs = some x) :
    ∃ (A : Option Addr) (l : List DemD) (c : Nat), cs = [.slice A l.length c] ∧ DemsAt w w.heap.size A l ∧ l.length ≤ maxLen ∧ l.length ≤ c :=
  slice_open Tryz.underlying30 (by kernel_rfl) (by decide) (fun _ _ _ h => dem_open h) h
set_option maxRecDepth 100000 in
theorem rule_open {n : Nat} {cs : List Value} {x : DataW H × List MemPlace} (h : DataW.trod enc Tryz.prog w base (fun _ => true) held n 32 cs = some x) :
    ∃ r : RuleD, cs = [.int .i64 r.num, .int .i64 r.den, .int .i64 r.poorNum, .int .i64 r.poorDen, .int .i64 r.bendNum, .int .i64 r.bendDen, .int .i64 r.lapNum, .int .i64 r.lapDen, .int .i64 r.least] := by
  obtain ⟨xs, m, _, _, hl, hxl, hf⟩ := DataW.trod_struct Tryz.underlying32 h
  have hx : xs.length = 9 := hxl
  rw [show (Tryz.prog).cellsOf 32 = 9 by kernel_rfl] at hl
  obtain ⟨v0, cs0, e0, hl⟩ := cons_len hl
  obtain ⟨v1, cs1, e1, hl⟩ := cons_len hl
  obtain ⟨v2, cs2, e2, hl⟩ := cons_len hl
  obtain ⟨v3, cs3, e3, hl⟩ := cons_len hl
  obtain ⟨v4, cs4, e4, hl⟩ := cons_len hl
  obtain ⟨v5, cs5, e5, hl⟩ := cons_len hl
  obtain ⟨v6, cs6, e6, hl⟩ := cons_len hl
  obtain ⟨v7, cs7, e7, hl⟩ := cons_len hl
  obtain ⟨v8, cs8, e8, hl⟩ := cons_len hl
  have e9 := len0v hl
  subst e9 e8 e7 e6 e5 e4 e3 e2 e1 e0
  have h0 : DataW.trod enc Tryz.prog w base (fun _ => true) held m 3 (([v0, v1, v2, v3, v4, v5, v6, v7, v8].drop 0).take ((Tryz.prog).cellsOf 3)) = xs[0]? := hf 0 _ rfl
  have h1 : DataW.trod enc Tryz.prog w base (fun _ => true) held m 3 (([v0, v1, v2, v3, v4, v5, v6, v7, v8].drop 1).take ((Tryz.prog).cellsOf 3)) = xs[1]? := hf 1 _ rfl
  have h2 : DataW.trod enc Tryz.prog w base (fun _ => true) held m 3 (([v0, v1, v2, v3, v4, v5, v6, v7, v8].drop 2).take ((Tryz.prog).cellsOf 3)) = xs[2]? := hf 2 _ rfl
  have h3 : DataW.trod enc Tryz.prog w base (fun _ => true) held m 3 (([v0, v1, v2, v3, v4, v5, v6, v7, v8].drop 3).take ((Tryz.prog).cellsOf 3)) = xs[3]? := hf 3 _ rfl
  have h4 : DataW.trod enc Tryz.prog w base (fun _ => true) held m 3 (([v0, v1, v2, v3, v4, v5, v6, v7, v8].drop 4).take ((Tryz.prog).cellsOf 3)) = xs[4]? := hf 4 _ rfl
  have h5 : DataW.trod enc Tryz.prog w base (fun _ => true) held m 3 (([v0, v1, v2, v3, v4, v5, v6, v7, v8].drop 5).take ((Tryz.prog).cellsOf 3)) = xs[5]? := hf 5 _ rfl
  have h6 : DataW.trod enc Tryz.prog w base (fun _ => true) held m 3 (([v0, v1, v2, v3, v4, v5, v6, v7, v8].drop 6).take ((Tryz.prog).cellsOf 3)) = xs[6]? := hf 6 _ rfl
  have h7 : DataW.trod enc Tryz.prog w base (fun _ => true) held m 3 (([v0, v1, v2, v3, v4, v5, v6, v7, v8].drop 7).take ((Tryz.prog).cellsOf 3)) = xs[7]? := hf 7 _ rfl
  have h8 : DataW.trod enc Tryz.prog w base (fun _ => true) held m 3 (([v0, v1, v2, v3, v4, v5, v6, v7, v8].drop 8).take ((Tryz.prog).cellsOf 3)) = xs[8]? := hf 8 _ rfl
  obtain ⟨y0, e0⟩ := some_of_lt (l := xs) (j := 0) (by omega)
  rw [show (Tryz.prog).cellsOf 3 = 1 by kernel_rfl, e0] at h0
  obtain ⟨y1, e1⟩ := some_of_lt (l := xs) (j := 1) (by omega)
  rw [show (Tryz.prog).cellsOf 3 = 1 by kernel_rfl, e1] at h1
  obtain ⟨y2, e2⟩ := some_of_lt (l := xs) (j := 2) (by omega)
  rw [show (Tryz.prog).cellsOf 3 = 1 by kernel_rfl, e2] at h2
  obtain ⟨y3, e3⟩ := some_of_lt (l := xs) (j := 3) (by omega)
  rw [show (Tryz.prog).cellsOf 3 = 1 by kernel_rfl, e3] at h3
  obtain ⟨y4, e4⟩ := some_of_lt (l := xs) (j := 4) (by omega)
  rw [show (Tryz.prog).cellsOf 3 = 1 by kernel_rfl, e4] at h4
  obtain ⟨y5, e5⟩ := some_of_lt (l := xs) (j := 5) (by omega)
  rw [show (Tryz.prog).cellsOf 3 = 1 by kernel_rfl, e5] at h5
  obtain ⟨y6, e6⟩ := some_of_lt (l := xs) (j := 6) (by omega)
  rw [show (Tryz.prog).cellsOf 3 = 1 by kernel_rfl, e6] at h6
  obtain ⟨y7, e7⟩ := some_of_lt (l := xs) (j := 7) (by omega)
  rw [show (Tryz.prog).cellsOf 3 = 1 by kernel_rfl, e7] at h7
  obtain ⟨y8, e8⟩ := some_of_lt (l := xs) (j := 8) (by omega)
  rw [show (Tryz.prog).cellsOf 3 = 1 by kernel_rfl, e8] at h8
  obtain ⟨n0, z0, _, _⟩ := DataW.trod_int Tryz.underlying3 h0
  obtain ⟨n1, z1, _, _⟩ := DataW.trod_int Tryz.underlying3 h1
  obtain ⟨n2, z2, _, _⟩ := DataW.trod_int Tryz.underlying3 h2
  obtain ⟨n3, z3, _, _⟩ := DataW.trod_int Tryz.underlying3 h3
  obtain ⟨n4, z4, _, _⟩ := DataW.trod_int Tryz.underlying3 h4
  obtain ⟨n5, z5, _, _⟩ := DataW.trod_int Tryz.underlying3 h5
  obtain ⟨n6, z6, _, _⟩ := DataW.trod_int Tryz.underlying3 h6
  obtain ⟨n7, z7, _, _⟩ := DataW.trod_int Tryz.underlying3 h7
  obtain ⟨n8, z8, _, _⟩ := DataW.trod_int Tryz.underlying3 h8
  simp at z0 z1 z2 z3 z4 z5 z6 z7 z8
  exact ⟨⟨n0, n1, n2, n3, n4, n5, n6, n7, n8⟩, by rw [z0, z1, z2, z3, z4, z5, z6, z7, z8]⟩
set_option maxRecDepth 100000 in
theorem solid_open {n : Nat} {cs : List Value} {x : DataW H × List MemPlace} (h : DataW.trod enc Tryz.prog w base (fun _ => true) held n 24 cs = some x) :
    ∃ (A1 A2 : Option Addr) (l1 l2 : List BoxD) (c1 c2 : Nat), cs = [.slice A1 l1.length c1, .slice A2 l2.length c2] ∧ BoxesAt w w.heap.size A1 l1 ∧ BoxesAt w w.heap.size A2 l2 := by
  obtain ⟨xs, m, _, _, hl, hxl, hf⟩ := DataW.trod_struct Tryz.underlying24 h
  have hx : xs.length = 2 := hxl
  rw [show (Tryz.prog).cellsOf 24 = 2 by kernel_rfl] at hl
  obtain ⟨v0, cs0, e0, hl⟩ := cons_len hl
  obtain ⟨v1, cs1, e1, hl⟩ := cons_len hl
  have e9 := len0v hl
  subst e9 e1 e0
  have h0 : DataW.trod enc Tryz.prog w base (fun _ => true) held m 22 (([v0, v1].drop 0).take ((Tryz.prog).cellsOf 22)) = xs[0]? := hf 0 _ rfl
  have h1 : DataW.trod enc Tryz.prog w base (fun _ => true) held m 22 (([v0, v1].drop 1).take ((Tryz.prog).cellsOf 22)) = xs[1]? := hf 1 _ rfl
  obtain ⟨y0, e0⟩ := some_of_lt (l := xs) (j := 0) (by omega)
  rw [show (Tryz.prog).cellsOf 22 = 1 by kernel_rfl, e0] at h0
  obtain ⟨y1, e1⟩ := some_of_lt (l := xs) (j := 1) (by omega)
  rw [show (Tryz.prog).cellsOf 22 = 1 by kernel_rfl, e1] at h1
  obtain ⟨A1, l1, c1, z0, hs1, _⟩ := boxes_open h0
  obtain ⟨A2, l2, c2, z1, hs2, _⟩ := boxes_open h1
  simp at z0 z1
  exact ⟨A1, A2, l1, l2, c1, c2, by rw [z0, z1], hs1, hs2⟩
set_option maxRecDepth 100000 in
theorem mem_open {n : Nat} {cs : List Value} {x : DataW H × List MemPlace} (h : DataW.trod enc Tryz.prog w base (fun _ => true) held n 26 cs = some x) :
    ∃ (m : MemD) (A1 A2 : Option Addr) (c1 c2 : Nat), cs = [.string m.name, .slice A1 m.boxes.length c1, .slice A2 m.holes.length c2, .int .i64 m.cover, .int .i64 m.aggregate, .int .i64 m.poker] ∧ BoxesAt w w.heap.size A1 m.boxes ∧ BoxesAt w w.heap.size A2 m.holes := by
  obtain ⟨xs, m, _, _, hl, hxl, hf⟩ := DataW.trod_struct Tryz.underlying26 h
  have hx : xs.length = 5 := hxl
  rw [show (Tryz.prog).cellsOf 26 = 6 by kernel_rfl] at hl
  obtain ⟨v0, cs0, e0, hl⟩ := cons_len hl
  obtain ⟨v1, cs1, e1, hl⟩ := cons_len hl
  obtain ⟨v2, cs2, e2, hl⟩ := cons_len hl
  obtain ⟨v3, cs3, e3, hl⟩ := cons_len hl
  obtain ⟨v4, cs4, e4, hl⟩ := cons_len hl
  obtain ⟨v5, cs5, e5, hl⟩ := cons_len hl
  have e9 := len0v hl
  subst e9 e5 e4 e3 e2 e1 e0
  have h0 : DataW.trod enc Tryz.prog w base (fun _ => true) held m 9 (([v0, v1, v2, v3, v4, v5].drop 0).take ((Tryz.prog).cellsOf 9)) = xs[0]? := hf 0 _ rfl
  have h1 : DataW.trod enc Tryz.prog w base (fun _ => true) held m 24 (([v0, v1, v2, v3, v4, v5].drop 1).take ((Tryz.prog).cellsOf 24)) = xs[1]? := hf 1 _ rfl
  have h2 : DataW.trod enc Tryz.prog w base (fun _ => true) held m 3 (([v0, v1, v2, v3, v4, v5].drop 3).take ((Tryz.prog).cellsOf 3)) = xs[2]? := hf 2 _ rfl
  have h3 : DataW.trod enc Tryz.prog w base (fun _ => true) held m 3 (([v0, v1, v2, v3, v4, v5].drop 4).take ((Tryz.prog).cellsOf 3)) = xs[3]? := hf 3 _ rfl
  have h4 : DataW.trod enc Tryz.prog w base (fun _ => true) held m 3 (([v0, v1, v2, v3, v4, v5].drop 5).take ((Tryz.prog).cellsOf 3)) = xs[4]? := hf 4 _ rfl
  obtain ⟨y0, e0⟩ := some_of_lt (l := xs) (j := 0) (by omega)
  rw [show (Tryz.prog).cellsOf 9 = 1 by kernel_rfl, e0] at h0
  obtain ⟨y1, e1⟩ := some_of_lt (l := xs) (j := 1) (by omega)
  rw [show (Tryz.prog).cellsOf 24 = 2 by kernel_rfl, e1] at h1
  obtain ⟨y2, e2⟩ := some_of_lt (l := xs) (j := 2) (by omega)
  rw [show (Tryz.prog).cellsOf 3 = 1 by kernel_rfl, e2] at h2
  obtain ⟨y3, e3⟩ := some_of_lt (l := xs) (j := 3) (by omega)
  rw [show (Tryz.prog).cellsOf 3 = 1 by kernel_rfl, e3] at h3
  obtain ⟨y4, e4⟩ := some_of_lt (l := xs) (j := 4) (by omega)
  rw [show (Tryz.prog).cellsOf 3 = 1 by kernel_rfl, e4] at h4
  obtain ⟨n0, z0, _, _⟩ := DataW.trod_string Tryz.underlying9 h0
  obtain ⟨n2, z2, _, _⟩ := DataW.trod_int Tryz.underlying3 h2
  obtain ⟨n3, z3, _, _⟩ := DataW.trod_int Tryz.underlying3 h3
  obtain ⟨n4, z4, _, _⟩ := DataW.trod_int Tryz.underlying3 h4
  obtain ⟨A1, A2, l1, l2, c1, c2, z1, hs1, hs2⟩ := solid_open h1
  simp at z0 z1 z2 z3 z4
  exact ⟨⟨n0, l1, l2, n2, n3, n4⟩, A1, A2, c1, c2, by rw [z0, z1.1, z1.2, z2, z3, z4], hs1, hs2⟩
set_option maxRecDepth 100000 in
theorem det_open {n : Nat} {cs : List Value} {x : DataW H × List MemPlace} (h : DataW.trod enc Tryz.prog w base (fun _ => true) held n 34 cs = some x) :
    ∃ (x : DetD) (s : DetS), cs = (detCells x.mem x.rule s).toList ∧ DetAt w w.heap.size x s ∧ DetLen x s := by
  obtain ⟨xs, m, _, _, hl, hxl, hf⟩ := DataW.trod_struct Tryz.underlying34 h
  have hx : xs.length = 6 := hxl
  rw [show (Tryz.prog).cellsOf 34 = 19 by kernel_rfl] at hl
  obtain ⟨v0, cs0, e0, hl⟩ := cons_len hl
  obtain ⟨v1, cs1, e1, hl⟩ := cons_len hl
  obtain ⟨v2, cs2, e2, hl⟩ := cons_len hl
  obtain ⟨v3, cs3, e3, hl⟩ := cons_len hl
  obtain ⟨v4, cs4, e4, hl⟩ := cons_len hl
  obtain ⟨v5, cs5, e5, hl⟩ := cons_len hl
  obtain ⟨v6, cs6, e6, hl⟩ := cons_len hl
  obtain ⟨v7, cs7, e7, hl⟩ := cons_len hl
  obtain ⟨v8, cs8, e8, hl⟩ := cons_len hl
  obtain ⟨v9, cs9, e9, hl⟩ := cons_len hl
  obtain ⟨v10, cs10, e10, hl⟩ := cons_len hl
  obtain ⟨v11, cs11, e11, hl⟩ := cons_len hl
  obtain ⟨v12, cs12, e12, hl⟩ := cons_len hl
  obtain ⟨v13, cs13, e13, hl⟩ := cons_len hl
  obtain ⟨v14, cs14, e14, hl⟩ := cons_len hl
  obtain ⟨v15, cs15, e15, hl⟩ := cons_len hl
  obtain ⟨v16, cs16, e16, hl⟩ := cons_len hl
  obtain ⟨v17, cs17, e17, hl⟩ := cons_len hl
  obtain ⟨v18, cs18, e18, hl⟩ := cons_len hl
  have e9 := len0v hl
  subst e9 e18 e17 e16 e15 e14 e13 e12 e11 e10 e9 e8 e7 e6 e5 e4 e3 e2 e1 e0
  have h0 : DataW.trod enc Tryz.prog w base (fun _ => true) held m 26 (([v0, v1, v2, v3, v4, v5, v6, v7, v8, v9, v10, v11, v12, v13, v14, v15, v16, v17, v18].drop 0).take ((Tryz.prog).cellsOf 26)) = xs[0]? := hf 0 _ rfl
  have h1 : DataW.trod enc Tryz.prog w base (fun _ => true) held m 27 (([v0, v1, v2, v3, v4, v5, v6, v7, v8, v9, v10, v11, v12, v13, v14, v15, v16, v17, v18].drop 6).take ((Tryz.prog).cellsOf 27)) = xs[1]? := hf 1 _ rfl
  have h2 : DataW.trod enc Tryz.prog w base (fun _ => true) held m 28 (([v0, v1, v2, v3, v4, v5, v6, v7, v8, v9, v10, v11, v12, v13, v14, v15, v16, v17, v18].drop 7).take ((Tryz.prog).cellsOf 28)) = xs[2]? := hf 2 _ rfl
  have h3 : DataW.trod enc Tryz.prog w base (fun _ => true) held m 29 (([v0, v1, v2, v3, v4, v5, v6, v7, v8, v9, v10, v11, v12, v13, v14, v15, v16, v17, v18].drop 8).take ((Tryz.prog).cellsOf 29)) = xs[3]? := hf 3 _ rfl
  have h4 : DataW.trod enc Tryz.prog w base (fun _ => true) held m 30 (([v0, v1, v2, v3, v4, v5, v6, v7, v8, v9, v10, v11, v12, v13, v14, v15, v16, v17, v18].drop 9).take ((Tryz.prog).cellsOf 30)) = xs[4]? := hf 4 _ rfl
  have h5 : DataW.trod enc Tryz.prog w base (fun _ => true) held m 32 (([v0, v1, v2, v3, v4, v5, v6, v7, v8, v9, v10, v11, v12, v13, v14, v15, v16, v17, v18].drop 10).take ((Tryz.prog).cellsOf 32)) = xs[5]? := hf 5 _ rfl
  obtain ⟨y0, e0⟩ := some_of_lt (l := xs) (j := 0) (by omega)
  rw [show (Tryz.prog).cellsOf 26 = 6 by kernel_rfl, e0] at h0
  obtain ⟨y1, e1⟩ := some_of_lt (l := xs) (j := 1) (by omega)
  rw [show (Tryz.prog).cellsOf 27 = 1 by kernel_rfl, e1] at h1
  obtain ⟨y2, e2⟩ := some_of_lt (l := xs) (j := 2) (by omega)
  rw [show (Tryz.prog).cellsOf 28 = 1 by kernel_rfl, e2] at h2
  obtain ⟨y3, e3⟩ := some_of_lt (l := xs) (j := 3) (by omega)
  rw [show (Tryz.prog).cellsOf 29 = 1 by kernel_rfl, e3] at h3
  obtain ⟨y4, e4⟩ := some_of_lt (l := xs) (j := 4) (by omega)
  rw [show (Tryz.prog).cellsOf 30 = 1 by kernel_rfl, e4] at h4
  obtain ⟨y5, e5⟩ := some_of_lt (l := xs) (j := 5) (by omega)
  rw [show (Tryz.prog).cellsOf 32 = 9 by kernel_rfl, e5] at h5
  obtain ⟨mem, A1, A2, c1, c2, z0, hs1, hs2⟩ := mem_open h0
  obtain ⟨A3, l3, c3, z1, hs3, _⟩ := barsG_open h1
  obtain ⟨A4, l4, c4, z2, hs4, _⟩ := runs_open h2
  obtain ⟨A5, l5, c5, z3, hs5, _⟩ := joins_open h3
  obtain ⟨A6, l6, c6, z4, hs6, _, hk6⟩ := dems_open h4
  obtain ⟨r, z5⟩ := rule_open h5
  simp only [List.drop_succ_cons, List.drop_zero, List.take_succ_cons, List.take_zero, List.cons.injEq, and_true] at z0 z1 z2 z3 z4 z5
  obtain ⟨u0, u1, u2, u3, u4, u5⟩ := z0
  obtain ⟨t0, t1, t2, t3, t4, t5, t6, t7, t8⟩ := z5
  refine ⟨⟨mem, l3, l4, l5, l6, r⟩, ⟨A1, mem.boxes.length, c1, A2, mem.holes.length, c2, A3, l3.length, c3, A4, l4.length, c4, A5, l5.length, c5, A6, l6.length, c6⟩, ?_, ⟨hs1, hs2, hs3, hs4, hs5, hs6⟩, ⟨rfl, rfl, rfl, rfl, rfl, rfl, hk6⟩⟩
  rw [u0, u1, u2, u3, u4, u5, z1, z2, z3, z4, t0, t1, t2, t3, t4, t5, t6, t7, t8]
end
end Go.Proofs.YtmcjpdlkkpnhfaaGreat
