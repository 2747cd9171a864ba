/- The reference of layer 25: laps; whether a detail is valid. The reference of layer 25: whether a detail is valid. Plain: the cells of a plan, the legs that are seen in them. No walk stands here. The cells of a plan. -/
import Derived.Test.YtpmipoljnchheaaGreatMao
import Derived.Test.YtpmipoljnchheaaGreatMap
import Derived.StillTailTactics
import Derived.BigQuiet
import Derived.Test.YtpmipoljnchheaaGreatMag
import Derived.Test.YtpmipoljnchheaaGreatMai
import Derived.Deep.RegionHeld3
namespace Go.Proofs.YtpmipoljnchheaaGreat
open Go.RowKit

theorem still_load_row {P : Program} {ops : Array Oper} {rest : List Oper} {o : Oper} {a : Act} {w : World} {Q : Act → Prop} (hgd : o.guard = none) (ty : TypeId) (x : Operand) (ho : o.op = .load ty x)
    (g : Nat) (hx : a.eval x = .pointer (some ⟨g, 0, none⟩)) (t : TypeId) (cs : Array Value) (fr : Nat × Nat) (d : TypeDesc) (hg : w.heap[g]? = some (.cells cs t fr))
    (hu : P.underlying ty = some d) (hd : (match d with | .struct _ | .array _ _ => true | _ => false) = true) (hi : (P.info? ty).map (·.size) = some cs.size)
    (h : wpStill P ops w Q rest (a.put o.dst (.agg cs))) : wpStill P ops w Q (o :: rest) a := by
  have hw : Region.wanted o (yielded ops a.tmps) = true := by simp [Region.wanted, hgd]
  show if _ then _ else _
  rw [if_pos hw]
  unfold Oper.still execOp
  simp only [ho, hx, Instr.loadAt, Instr.sureAddr, Sem.run_bind, Sem.run_pure, Result.andThen_ok, run_loadVar_row w g t ty cs fr d hg hu hd hi, Oper.stillUpon]
  exact ⟨trivial, h⟩
def legI (o : Option BoxD) : BoxD := o.getD ⟨(0, 0, 0), (0, 0, 0)⟩
theorem mainT_eq (o : Option BoxD) : mainT o = #[bxV (legI o), .bool o.isSome] := by cases o <;> rfl
def lapLegs (a b : Option BoxD) : Bool := a.isSome && (b.isSome && (decide ((legI a).lo.1 < (legI b).lo.1) && (decide ((legI a).hi.1 < (legI b).hi.1) && decide ((legI b).lo.1 ≤ (legI a).hi.1))))
theorem lapsFit_in {ms : List (Option BoxD)} {j : JoinD} {p q : Nat} (hp : j.first = p) (hq : j.second = q) {a b : Option BoxD} (ha : ms[p]? = some a) (hb : ms[q]? = some b) : lapsFit ms j = lapLegs a b := by
  have h1 := lt_of_get ha
  have h2 := lt_of_get hb
  rw [lapsFit, hp, hq, decide_eq_true (show (0 : Int) ≤ (p : Int) by omega), decide_eq_true (show (0 : Int) ≤ (q : Int) by omega), decide_eq_true (show (p : Int) < (ms.length : Nat) by omega), decide_eq_true (show (q : Int) < (ms.length : Nat) by omega)]
  simp only [Int.toNat_natCast, List.getD_eq_getElem?_getD, ha, hb, Option.getD_some]
  cases a <;> cases b <;> simp [lapLegs, legI, Bool.and_assoc] <;> rfl
theorem lapsFit_out {ms : List (Option BoxD)} {j : JoinD} (h : j.first < 0 ∨ (ms.length : Int) ≤ j.first ∨ j.second < 0 ∨ (ms.length : Int) ≤ j.second) : lapsFit ms j = false := by
  rw [lapsFit]
  rcases h with h | h | h | h
  · rw [decide_eq_false (show ¬ (0 : Int) ≤ j.first by omega)]; simp
  · rw [decide_eq_false (show ¬ j.first < (ms.length : Nat) by omega)]; simp
  · rw [decide_eq_false (show ¬ (0 : Int) ≤ j.second by omega)]; simp
  · rw [decide_eq_false (show ¬ j.second < (ms.length : Nat) by omega)]; simp
set_option maxHeartbeats 4000000 in
theorem refCount25_ok (x : DetD) (s : DetS) (w : World) {B : Nat} (h : DetAt w B x s) (hB : B ≤ w.heap.size) (hf : DetFit x s) (hok : laidOk x.bars x.runs = true) :
    Calls Tryz.prog 78 #[detV x s] w fun e w' => e = .returned (.int .i64 (countRuns x.runs)) ∧ Below w.heap.size w w' := by
  obtain ⟨_, hlen, hruns⟩ := laidOk_mem hok
  have l4 := hf.l4
  have HC := hide (fun (W : World) (hz : Below w.heap.size w W) => count16_any s.a4 x.runs s.n4 s.c4 W (h.h4.carry (Flat.carried _) (hz.mono hB) (Nat.le_refl _)) (Nat.le_trans hB hz.size) hf.l4 (by omega) (fun r hr => runOk_count (hruns r hr)))
  have K0 := hide (Blk.new w 34 (detCells x.mem x.rule s))
  have HW := hide (below_new w (.cells (detCells x.mem x.rule s) 34))
  generalize countRuns x.runs = t at *
  obtain ⟨mem, bars, runs, laps, dems, rule⟩ := x
  obtain ⟨a1, n1, c1, a2, n2, c2, a3, n3, c3, a4, n4, c4, a5, n5, c5, a6, n6, c6⟩ := s
  obtain ⟨name, boxes, holes, cover, agg, poker⟩ := mem
  obtain ⟨r1, r2, r3, r4, r5, r6, r7, r8, r9⟩ := rule
  simp only [detCells] at K0 HW
  simp only at HC
  have e7 := K0.out.cell 7
  simp at e7
  have lk := K0.out.lt
  clear h hf hB hok hruns hlen l4
  show Calls Tryz.prog 78 #[.agg #[.string name, .slice a1 n1 c1, .slice a2 n2 c2, .int .i64 cover, .int .i64 agg, .int .i64 poker, .slice a3 n3 c3, .slice a4 n4 c4, .slice a5 n5 c5, .slice a6 n6 c6, .int .i64 r1, .int .i64 r2, .int .i64 r3, .int .i64 r4, .int .i64 r5, .int .i64 r6, .int .i64 r7, .int .i64 r8, .int .i64 r9]] w _
  go_enter Tryz.func78, Tryz.ntmps78
  go_wp2_with fail
  refine (HC.out _ HW.out).mono ?_
  rintro e w2 ⟨rfl, hb2⟩
  have HW2 := hide (below_step HW.out hb2 (Nat.le_refl _))
  clear hb2 HC HW K0 e7
  go_wp2_with fail
  go_ret
  exact ⟨rfl, HW2.out⟩
set_option maxHeartbeats 8000000 in
set_option maxRecDepth 100000 in
theorem refJoint_any (x : DetD) (s : DetS) (j : JoinD) (w : World) {B : Nat} (h : DetAt w B x s) (hB : B ≤ w.heap.size) (hf : DetFit x s) (hok : laidOk x.bars x.runs = true) :
    Calls Tryz.prog 45 #[detV x s, .agg #[.int .i64 j.first, .int .i64 j.second]] w fun e w' => e = .returned (.bool (lapsFit ((laidAll x.bars x.runs).map mainLeg) j)) ∧ Below w.heap.size w w' := by
  have HC := hide (fun (W : World) (hz : Below w.heap.size w W) => refCount25_ok x s W (h.carry (hz.mono hB) (Nat.le_refl _)) (Nat.le_trans hB hz.size) hf hok)
  have HM := hide (fun (i : Nat) (ld : LaidD) (hi : (laidAll x.bars x.runs)[i]? = some ld) (W : World) (hz : Below w.heap.size w W) => refMain25_ok x s i ld W (h.carry (hz.mono hB) (Nat.le_refl _)) (Nat.le_trans hB hz.size) hf hok hi)
  have hcl := (laidOk_len hok).1
  have hcl2 := (laidOk_len hok).2
  have Hi := hide (show (Tryz.prog.info? 34).map (·.size) = some 19 by kernel_rfl)
  have K0 := hide ((Blk.new w 34 (detCells x.mem x.rule s)).alloc (.cells #[.int .i64 j.first, .int .i64 j.second] 109))
  have KJ := hide (Blk.new1 w (.cells (detCells x.mem x.rule s) 34) 109 #[.int .i64 j.first, .int .i64 j.second])
  have HW := hide (below_new2 w (.cells (detCells x.mem x.rule s) 34) (.cells #[.int .i64 j.first, .int .i64 j.second] 109))
  have Hin := hide (fun (p q : Nat) (la lb : LaidD) (hp : j.first = p) (hq : j.second = q) (ha : (laidAll x.bars x.runs)[p]? = some la) (hb : (laidAll x.bars x.runs)[q]? = some lb) => lapsFit_in (ms := (laidAll x.bars x.runs).map mainLeg) hp hq (a := mainLeg la) (b := mainLeg lb) (by simp [ha]) (by simp [hb]))
  have Hout := hide (fun (hh : j.first < 0 ∨ countRuns x.runs ≤ j.first ∨ j.second < 0 ∨ countRuns x.runs ≤ j.second) => lapsFit_out (ms := (laidAll x.bars x.runs).map mainLeg) (j := j) (by rw [List.length_map, hcl]; exact hh))
  generalize laidAll x.bars x.runs = LA at *
  obtain ⟨res, hres⟩ : ∃ res, res = lapsFit (LA.map mainLeg) j := ⟨_, rfl⟩
  rw [← hres] at Hin Hout ⊢
  generalize countRuns x.runs = t at *
  obtain ⟨f, g⟩ := j
  obtain ⟨mem, bars, runs, laps, dems, rule⟩ := x
  obtain ⟨a1, n1, c1, a2, n2, c2, a3, n3, c3, a4, n4, c4, a5, n5, c5, a6, n6, c6⟩ := s
  obtain ⟨name, boxes, holes, cover, agg, poker⟩ := mem
  obtain ⟨r1, r2, r3, r4, r5, r6, r7, r8, r9⟩ := rule
  simp only [detCells] at K0 KJ HW
  simp only at Hin Hout
  clear h hf hB hok hres
  show Calls Tryz.prog 45 #[.agg #[.string name, .slice a1 n1 c1, .slice a2 n2 c2, .int .i64 cover, .int .i64 agg, .int .i64 poker, .slice a3 n3 c3, .slice a4 n4 c4, .slice a5 n5 c5, .slice a6 n6 c6, .int .i64 r1, .int .i64 r2, .int .i64 r3, .int .i64 r4, .int .i64 r5, .int .i64 r6, .int .i64 r7, .int .i64 r8, .int .i64 r9], .agg #[.int .i64 f, .int .i64 g]] w _
  go_enter Tryz.func45, Tryz.ntmps45
  go_wp2_with (refine wpList_load_row rfl 34 (.tmp 2) rfl w.heap.size rfl 34 _ (0, 0) _ K0.out Tryz.underlying34 rfl Hi.out ?_)
  refine (HC.out _ HW.out).mono ?_
  rintro e w2 ⟨rfl, hb2⟩
  have K2 := hide (K0.out.keep hb2)
  have J2 := hide (KJ.out.keep hb2)
  have HW2 := hide (below_step HW.out hb2 (Nat.le_refl _))
  clear hb2 HC HW K0 KJ
  have e0 := J2.out.cell 0
  have e1 := J2.out.cell 1
  simp at e0 e1
  have lj := J2.out.lt
  have hways : decide (f < 0) = true ∨ (decide (f < 0) = false ∧ decide (t ≤ f) = true) ∨ (decide (f < 0) = false ∧ decide (t ≤ f) = false ∧ decide (g < 0) = true) ∨ (decide (f < 0) = false ∧ decide (t ≤ f) = false ∧ decide (g < 0) = false ∧ decide (t ≤ g) = true) ∨ (decide (f < 0) = false ∧ decide (t ≤ f) = false ∧ decide (g < 0) = false ∧ decide (t ≤ g) = false) := by
    cases decide (f < 0) <;> cases decide (t ≤ f) <;> cases decide (g < 0) <;> cases decide (t ≤ g) <;> simp
  rcases hways with q0 | ⟨q0, q1⟩ | ⟨q0, q1, q2⟩ | ⟨q0, q1, q2, q3⟩ | ⟨q0, q1, q2, q3⟩
  · have Hr := hide (Hout.out (.inl (by simpa using q0)))
    clear Hin Hout HM hcl hcl2
    go_wp2_with fail
    go_ret
    exact ⟨ret_bool Hr.out.symm, HW2.out⟩
  · have Hr := hide (Hout.out (.inr (.inl (by simpa using q1))))
    clear Hin Hout HM hcl hcl2
    go_wp2_with fail
    go_ret
    exact ⟨ret_bool Hr.out.symm, HW2.out⟩
  · have Hr := hide (Hout.out (.inr (.inr (.inl (by simpa using q2)))))
    clear Hin Hout HM hcl hcl2
    go_wp2_with fail
    go_ret
    exact ⟨ret_bool Hr.out.symm, HW2.out⟩
  · have Hr := hide (Hout.out (.inr (.inr (.inr (by simpa using q3)))))
    clear Hin Hout HM hcl hcl2
    go_wp2_with fail
    go_ret
    exact ⟨ret_bool Hr.out.symm, HW2.out⟩
  have f0 : 0 ≤ f := by simpa using q0
  have f1 : f < t := by simpa using q1
  have g0 : 0 ≤ g := by simpa using q2
  have g1 : g < t := by simpa using q3
  obtain ⟨p, rfl⟩ := Int.eq_ofNat_of_zero_le f0
  obtain ⟨q, rfl⟩ := Int.eq_ofNat_of_zero_le g0
  obtain ⟨la, hla⟩ : ∃ la, LA[p]? = some la := ⟨_, List.getElem?_eq_getElem (by omega)⟩
  obtain ⟨lb, hlb⟩ : ∃ lb, LA[q]? = some lb := ⟨_, List.getElem?_eq_getElem (by omega)⟩
  have Hr := Hin.out p q la lb rfl rfl hla hlb
  have HMa := HM.out p la hla
  have HMb := HM.out q lb hlb
  rw [mainT_eq] at HMa HMb
  unfold lapLegs at Hr
  generalize (mainLeg la).isSome = ta at *
  generalize (mainLeg lb).isSome = tb at *
  generalize legI (mainLeg la) = A at *
  generalize legI (mainLeg lb) = C at *
  obtain ⟨⟨A1, A2, A3⟩, A4, A5, A6⟩ := A
  obtain ⟨⟨C1, C2, C3⟩, C4, C5, C6⟩ := C
  simp only [bxV] at HMa HMb Hr
  have Hr := hide Hr
  have HMa := hide HMa
  have HMb := hide HMb
  have K0 := K2
  have KJ := J2
  clear Hin Hout HM hcl hcl2 hla hlb f0 f1 g0 g1 K2 J2
  go_wp2_with (refine wpList_load_row rfl 34 (.tmp 2) rfl w.heap.size rfl 34 _ (0, 0) _ K0.out Tryz.underlying34 rfl Hi.out ?_)
  refine (HMa.out _ HW2.out).mono ?_
  rintro e w3 ⟨rfl, hb3⟩
  have K0 := hide ((K0.out.keep hb3).alloc (.cells #[.int .i64 A1, .int .i64 A2, .int .i64 A3, .int .i64 A4, .int .i64 A5, .int .i64 A6] 73))
  have KJ := hide ((KJ.out.keep hb3).alloc (.cells #[.int .i64 A1, .int .i64 A2, .int .i64 A3, .int .i64 A4, .int .i64 A5, .int .i64 A6] 73))
  have KA := hide (Blk.new w3 73 #[.int .i64 A1, .int .i64 A2, .int .i64 A3, .int .i64 A4, .int .i64 A5, .int .i64 A6])
  have HW3' := below_step HW2.out hb3 (Nat.le_refl _)
  have HW3 := hide (HW3'.alloc HW3'.size (.cells #[.int .i64 A1, .int .i64 A2, .int .i64 A3, .int .i64 A4, .int .i64 A5, .int .i64 A6] 73))
  clear hb3 HMa HW2 HW3' e0 e1 lj
  have e1 := KJ.out.cell 1
  simp at e1
  have lj := KJ.out.lt
  go_wp2_with (refine wpList_load_row rfl 34 (.tmp 2) rfl w.heap.size rfl 34 _ (0, 0) _ K0.out Tryz.underlying34 rfl Hi.out ?_)
  refine (HMb.out _ HW3.out).mono ?_
  rintro e w4 ⟨rfl, hb4⟩
  have KA := hide ((KA.out.keep hb4).alloc (.cells #[.int .i64 C1, .int .i64 C2, .int .i64 C3, .int .i64 C4, .int .i64 C5, .int .i64 C6] 73))
  have KC := hide (Blk.new w4 73 #[.int .i64 C1, .int .i64 C2, .int .i64 C3, .int .i64 C4, .int .i64 C5, .int .i64 C6])
  have HW4' := below_step HW3.out hb4 (Nat.le_refl _)
  have HW4 := hide (HW4'.alloc HW4'.size (.cells #[.int .i64 C1, .int .i64 C2, .int .i64 C3, .int .i64 C4, .int .i64 C5, .int .i64 C6] 73))
  clear hb4 HMb HW3 HW4' e1 lj K0 KJ Hi
  have u0 := KA.out.cell 0
  have u3 := KA.out.cell 3
  have v0 := KC.out.cell 0
  simp at u0 u3 v0
  have v3 := KC.out.cell 3
  simp at v3
  have la' := KA.out.lt
  have lc' := KC.out.lt
  cases ta
  · go_wp2_with fail
    go_ret
    exact ⟨ret_bool (by rw [Hr.out]; rfl), HW4.out⟩
  cases tb
  · go_wp2_with fail
    go_ret
    exact ⟨ret_bool (by rw [Hr.out]; rfl), HW4.out⟩
  cases x0 : decide (A1 < C1)
  · go_wp2_with fail
    go_ret
    exact ⟨ret_bool (by rw [Hr.out, x0]; rfl), HW4.out⟩
  cases x1 : decide (A4 < C4)
  · go_wp2_with fail
    go_ret
    exact ⟨ret_bool (by rw [Hr.out, x0, x1]; rfl), HW4.out⟩
  cases x2 : decide (C1 ≤ A4)
  all_goals
    go_wp2_with fail
    go_ret
    exact ⟨ret_bool (by rw [Hr.out, x0, x1, x2]; rfl), HW4.out⟩
end Go.Proofs.YtpmipoljnchheaaGreat
namespace Go.Proofs.YtpmipoljnchheaaGreat
open Go.RowKit

def lapClash (j i : JoinD) : Bool := decide (i.first = j.first) || decide (i.second = j.second)
theorem lapNew_any (done : List JoinD) (j : JoinD) : lapNew done j = !done.any (lapClash j) := rfl
theorem lapsBy_at {ms : List (Option BoxD)} {l : List JoinD} {k : Nat} {j : JoinD} (h : l[k]? = some j) : lapsBy ms (l.take k) (l.drop k) = (lapsFit ms j && (lapNew (l.take k) j && lapsBy ms (l.take (k + 1)) (l.drop (k + 1)))) := by
  rw [drop_at' h, lapsBy, take_snoc' h, Bool.and_assoc]
theorem lapNew_true {l : List JoinD} {j : JoinD} {k : Nat} (h : NoneTo (lapClash j) l k) : lapNew (l.take k) j = true := by
  rw [lapNew_any]
  have : (l.take k).any (lapClash j) = false := by
    rw [List.any_eq_false]
    intro z hz
    obtain ⟨u, hu, rfl⟩ := List.getElem_of_mem hz
    rw [List.length_take] at hu
    rw [h u (l.take k)[u] (by omega) (by rw [List.getElem_take]; exact List.getElem?_eq_getElem (by omega))]
    simp
  rw [this]
  rfl
theorem lapNew_false {l : List JoinD} {i j : JoinD} {k t : Nat} (ht : t < k) (hi : l[t]? = some i) (hc : lapClash j i = true) : lapNew (l.take k) j = false := by
  rw [lapNew_any]
  have : (l.take k).any (lapClash j) = true := by
    rw [List.any_eq_true]
    refine ⟨i, ?_, hc⟩
    have : (l.take k)[t]? = some i := by rw [List.getElem?_take_of_lt ht]; exact hi
    exact mem_of_get this
  rw [this]
  rfl
set_option maxHeartbeats 8000000 in
set_option maxRecDepth 100000 in
theorem refValid25_any (x : DetD) (s : DetS) (w : World) {B : Nat} (h : DetAt w B x s) (hB : B ≤ w.heap.size) (hf : DetFit x s) (hd : ∀ d ∈ x.dems, d.name.size ≤ maxLen ∧ d.steps.length ≤ 60000) :
    Calls Tryz.prog 17 #[detV x s] w fun e w' => e = .returned (.bool (detOk x)) ∧ Below w.heap.size w w' := by
  have H1 := hide (fun (W : World) (hz : Below w.heap.size w W) => refMember_any x.mem s.a1 s.a2 s.n1 s.n2 s.c1 s.c2 W (h.h1.carry (Flat.carried _) (hz.mono hB) (Nat.le_refl _)) (h.h2.carry (Flat.carried _) (hz.mono hB) (Nat.le_refl _)) (Nat.le_trans hB hz.size) hf.l1 hf.l2 hf.name)
  have H2 := hide (fun (W : World) (hz : Below w.heap.size w W) => refLaid_any s.a3 s.a4 x.bars x.runs s.n3 s.c3 s.n4 s.c4 W (h.h3.carry (hz.mono hB) (Nat.le_refl _)) (h.h4.carry (Flat.carried _) (hz.mono hB) (Nat.le_refl _)) (Nat.le_trans hB hz.size) hf.l3 hf.l4 hf.m3 hf.tame)
  have H3 := hide (fun (W : World) (hz : Below w.heap.size w W) => refDems_any s.a6 x.dems s.n6 s.c6 W (SlOf.carry demR_carried h.h6 (hz.mono hB) (Nat.le_refl _)) (Nat.le_trans hB hz.size) hf.l6 hf.m6 hd)
  have H4 := hide (fun (W : World) => refRule_any x.rule W)
  have HJ := fun (hok : laidOk x.bars x.runs = true) (j : JoinD) (W : World) (hz : Below w.heap.size w W) => refJoint_any x s j W (h.carry (hz.mono hB) (Nat.le_refl _)) (Nat.le_trans hB hz.size) hf hok
  have Hr := hide (detOk_ref x)
  have HL := hide h.h5
  have L5 := hide hf.l5
  have HB := hide hB
  have m5 := hf.m5
  have Hi := hide (show (Tryz.prog.info? 34).map (·.size) = some 19 by kernel_rfl)
  have K0 := hide (Blk.new w 34 (detCells x.mem x.rule s))
  have HW := hide (below_new w (.cells (detCells x.mem x.rule s) 34))
  obtain ⟨b1, hb1⟩ : ∃ b, b = memOk x.mem := ⟨_, rfl⟩
  obtain ⟨b2, hb2⟩ : ∃ b, b = laidOk x.bars x.runs := ⟨_, rfl⟩
  obtain ⟨b3, hb3⟩ : ∃ b, b = demsOk x.dems := ⟨_, rfl⟩
  obtain ⟨b4, hb4⟩ : ∃ b, b = ruleOk x.rule := ⟨_, rfl⟩
  rw [← hb1, ← hb2, ← hb3, ← hb4] at Hr
  rw [← hb1] at H1
  rw [← hb2] at H2 HJ
  rw [← hb3] at H3
  rw [← hb4] at H4
  have HJ := hide HJ
  generalize (laidAll x.bars x.runs).map mainLeg = ms at *
  generalize detOk x = res at *
  obtain ⟨mem, bars, runs, laps, dems, rule⟩ := x
  obtain ⟨a1, n1, c1, a2, n2, c2, a3, n3, c3, a4, n4, c4, a5, n5, c5, a6, n6, c6⟩ := s
  obtain ⟨name, boxes, holes, cover, agg, poker⟩ := mem
  obtain ⟨r1, r2, r3, r4, r5, r6, r7, r8, r9⟩ := rule
  simp only [detCells] at K0 HW
  simp only at H1 H2 H3 H4 HL L5 m5 Hr
  clear h hf hd hB hb1 hb2 hb3 hb4
  show Calls Tryz.prog 17 #[.agg #[.string name, .slice a1 n1 c1, .slice a2 n2 c2, .int .i64 cover, .int .i64 agg, .int .i64 poker, .slice a3 n3 c3, .slice a4 n4 c4, .slice a5 n5 c5, .slice a6 n6 c6, .int .i64 r1, .int .i64 r2, .int .i64 r3, .int .i64 r4, .int .i64 r5, .int .i64 r6, .int .i64 r7, .int .i64 r8, .int .i64 r9]] w _
  go_enter Tryz.func17, Tryz.ntmps17
  go_wp2_with fail
  refine (H1.out _ HW.out).mono ?_
  rintro e w2 ⟨rfl, hb2⟩
  have K0 := hide (K0.out.keep hb2)
  have HW := hide (below_step HW.out hb2 (Nat.le_refl _))
  clear hb2
  cases b1
  · go_wp2_with fail
    go_ret
    exact ⟨ret_bool (by rw [Hr.out]; rfl), HW.out⟩
  have e6 := K0.out.cell 6
  have e7 := K0.out.cell 7
  simp at e6 e7
  go_wp2_with fail
  refine (H2.out _ HW.out).mono ?_
  rintro e w2 ⟨rfl, hb2⟩
  have K0 := hide (K0.out.keep hb2)
  have HW := hide (below_step HW.out hb2 (Nat.le_refl _))
  clear hb2
  clear e6 e7
  cases b2
  · go_wp2_with fail
    go_ret
    exact ⟨ret_bool (by rw [Hr.out]; rfl), HW.out⟩
  have HJJ := hide (HJ.out rfl)
  clear HJ
  have e9 := K0.out.cell 9
  simp at e9
  go_wp2_with fail
  refine (H3.out _ HW.out).mono ?_
  rintro e w2 ⟨rfl, hb2⟩
  have K0 := hide (K0.out.keep hb2)
  have HW := hide (below_step HW.out hb2 (Nat.le_refl _))
  clear hb2
  clear e9
  cases b3
  · go_wp2_with fail
    go_ret
    exact ⟨ret_bool (by rw [Hr.out]; rfl), HW.out⟩
  have e10 := K0.out.cell 10
  have e11 := K0.out.cell 11
  have e12 := K0.out.cell 12
  have e13 := K0.out.cell 13
  have e14 := K0.out.cell 14
  have e15 := K0.out.cell 15
  have e16 := K0.out.cell 16
  have e17 := K0.out.cell 17
  have e18 := K0.out.cell 18
  simp at e10 e11 e12 e13 e14 e15 e16 e17 e18
  go_wp2_with fail
  refine (H4.out _).mono ?_
  rintro e w2 ⟨rfl, hb2⟩
  have K0 := hide (K0.out.keep hb2)
  have HW := hide (below_step HW.out hb2 (Nat.le_refl _))
  clear hb2
  clear e10 e11 e12 e13 e14 e15 e16 e17 e18
  cases b4
  · go_wp2_with fail
    go_ret
    exact ⟨ret_bool (by rw [Hr.out]; rfl), HW.out⟩
  have e8 := K0.out.cell 8
  simp at e8
  by_cases hlen : 1000 < n5
  · have d0 : decide (1000 < (n5 : Int)) = true := by simp; omega
    have Hr := hide (show res = false by rw [Hr.out, decide_eq_false (show ¬ laps.length ≤ 1000 by rw [← L5.out]; omega)]; rfl)
    go_wp2_with fail
    go_ret
    exact ⟨ret_bool Hr.out.symm, HW.out⟩
  have d0 : decide (1000 < (n5 : Int)) = false := by simp; omega
  have Hr := hide (show res = lapsBy ms (laps.take 0) (laps.drop 0) by rw [Hr.out, decide_eq_true (show laps.length ≤ 1000 by rw [← L5.out]; omega)] <;> rfl)
  clear hlen H1 H2 H3 H4
  go_wp2_with fail
  clear e8
  go_loopw [3] (fun iv wr => ∃ k : Nat, k ≤ n5 ∧ iv = .int .i64 k ∧ Hid (lapsBy ms (laps.take 0) (laps.drop 0) = lapsBy ms (laps.take k) (laps.drop k)) ∧ Hid (Blk wr w.heap.size 34 #[.string name, .slice a1 n1 c1, .slice a2 n2 c2, .int .i64 cover, .int .i64 agg, .int .i64 poker, .slice a3 n3 c3, .slice a4 n4 c4, .slice a5 n5 c5, .slice a6 n6 c6, .int .i64 r1, .int .i64 r2, .int .i64 r3, .int .i64 r4, .int .i64 r5, .int .i64 r6, .int .i64 r7, .int .i64 r8, .int .i64 r9]) ∧ Hid (Below w.heap.size w wr)) (fun iv _ => n5 - (intOf iv).toNat)
  case atStart => exact ⟨0, Nat.zero_le _, rfl, hide rfl, K0, HW⟩
  case round =>
    clear K0 HW
    rename World => wo
    obtain ⟨k, hk, rfl, hq, hK, hbr⟩ := hrel
    have e8 := hK.out.cell 8
    simp at e8
    have lk := hK.out.lt
    by_cases hlt : k < n5
    · obtain ⟨b, off, j, rfl, hbl, hx, g0, g1⟩ := JoinsAt.get (k := k) (HL.out.carry (Flat.carried _) (hbr.out.mono HB.out) (Nat.le_refl _)) (by rw [← L5.out]; exact hlt)
      have Hx := hide hx
      have Hq := hide (hq.out.trans (lapsBy_at hx))
      have HJj := HJJ.out j
      obtain ⟨a, ha⟩ : ∃ a, a = lapsFit ms j := ⟨_, rfl⟩
      rw [← ha] at HJj Hq
      have HJj := hide HJj
      obtain ⟨f, g⟩ := j
      simp only at g0 g1 HJj
      have hblt := hbl
      clear hx hbl hq ha
      have HQ0 := hide (HL.out.carry (Flat.carried _) (hbr.out.mono HB.out) (Nat.le_refl B))
      have hbw : b < w.heap.size := Nat.lt_of_lt_of_le hblt HB.out
      go_wp2_with fail
      refine wp_region_still_tail 6 (by kernel_rfl) (by kernel_rfl) ?_
      simp only [List.take_succ_cons, List.take_zero, List.drop_succ_cons, List.drop_zero]
      refine still_load_row rfl 34 (.tmp 1) rfl w.heap.size rfl 34 _ (0, 0) _ hK.out Tryz.underlying34 rfl Hi.out ?_
      repeat still_step
      try refine wpStill_nil ?_
      change wpList _ _ _ _ _ (World.drew wo)
      go_wp2_with fail
      refine (HJj.out _ hbr.out.drew).mono ?_
      rintro e w2 ⟨rfl, hb2⟩
      have hK2 := hide ((hK.out.drew).keep hb2)
      have hbr2 := hide (below_step hbr.out.drew hb2 (Nat.le_refl _))
      clear hb2 HJj g0 g1 e8 lk
      cases a
      · have Hr := hide (show res = false by rw [Hr.out, Hq.out]; rfl)
        go_wp2_with fail
        go_ret
        exact ⟨ret_bool Hr.out.symm, hbr2.out⟩
      go_wp2_with fail
      go_loopw [4] (fun iv wr => ∃ t : Nat, t ≤ k ∧ iv = .int .i64 t ∧ NoneTo (lapClash ⟨f, g⟩) laps t ∧ Hid (Blk wr w.heap.size 34 #[.string name, .slice a1 n1 c1, .slice a2 n2 c2, .int .i64 cover, .int .i64 agg, .int .i64 poker, .slice a3 n3 c3, .slice a4 n4 c4, .slice (some ⟨b, off, none⟩) n5 c5, .slice a6 n6 c6, .int .i64 r1, .int .i64 r2, .int .i64 r3, .int .i64 r4, .int .i64 r5, .int .i64 r6, .int .i64 r7, .int .i64 r8, .int .i64 r9]) ∧ Hid (Below w.heap.size w wr)) (fun iv _ => k - (intOf iv).toNat)
      case atStart => exact ⟨0, Nat.zero_le _, rfl, NoneTo.zero _ _, hK2, hbr2⟩
      case round =>
        clear hK hbr hK2 hbr2 HQ0
        rename World => wi
        obtain ⟨t, ht, rfl, hno, hK, hbr⟩ := hrel
        have e8 := hK.out.cell 8
        simp at e8
        have lk := hK.out.lt
        by_cases hlj : t < k
        · have HQ := HL.out.carry (Flat.carried _) (hbr.out.mono HB.out) (Nat.le_refl B)
          obtain ⟨b', off', i, hA', _, hy, f0, f1⟩ := JoinsAt.get (k := t) HQ (by rw [← L5.out]; omega)
          injection hA' with hA'
          injection hA' with z1 z2
          subst z1 z2
          obtain ⟨b', off', i', hA', _, hx', g0, g1⟩ := JoinsAt.get (k := k) HQ (by rw [← L5.out]; omega)
          injection hA' with hA'
          injection hA' with z1 z2
          subst z1 z2
          rw [Hx.out] at hx'
          injection hx' with hx'
          subst hx'
          have Hy := hide hy
          obtain ⟨p, q⟩ := i
          simp only at f0 f1 g0 g1
          clear HQ hy
          cases e1 : (p == f)
          · cases e2 : (q == g)
            · have Hc := hide (show lapClash ⟨f, g⟩ ⟨p, q⟩ = false by
                have h1 : p ≠ f := by simpa using e1
                have h2 : q ≠ g := by simpa using e2
                simp [lapClash, h1, h2])
              have Hno := hide (hno.succ Hy.out Hc.out)
              clear hno
              go_wp2_with fail
              go_quiet (fail)
              go_wp2_with fail
              go_roundw
              case rel => exact ⟨t + 1, by omega, by go_num, Hno.out, hide (hK.out.drewN _), hide (below_drewN' hbr.out _)⟩
              case measure => simp [intOf]; omega
            · have Hr := hide (show res = false by
                rw [Hr.out, Hq.out, lapNew_false hlj Hy.out (by have h2 : q = g := by simpa using e2
                                                                simp [lapClash, h2])]
                rfl)
              clear hno
              go_wp2_with fail
              go_quiet (fail)
              go_wp2_with fail
              go_ret
              exact ⟨ret_bool Hr.out.symm, below_drewN' hbr.out _⟩
          · have Hr := hide (show res = false by
              rw [Hr.out, Hq.out, lapNew_false hlj Hy.out (by have h2 : p = f := by simpa using e1
                                                              simp [lapClash, h2])]
              rfl)
            clear hno
            go_wp2_with fail
            go_quiet (fail)
            go_wp2_with fail
            go_ret
            exact ⟨ret_bool Hr.out.symm, below_drewN' hbr.out _⟩
        · obtain rfl : t = k := by omega
          have Hq2 := hide (show lapsBy ms (laps.take 0) (laps.drop 0) = lapsBy ms (laps.take (t + 1)) (laps.drop (t + 1)) by rw [Hq.out, lapNew_true hno]; rfl)
          clear hno
          go_wp2_with fail
          go_roundw
          case rel => exact ⟨t + 1, by omega, by go_num, Hq2, hK, hbr⟩
          case measure => simp [intOf]; omega
    · obtain rfl : k = n5 := by omega
      have Hr := hide (show res = true by rw [Hr.out, hq.out, List.drop_of_length_le (by rw [← L5.out]; exact Nat.le_refl _)]; rfl)
      go_wp2_with fail
      go_ret
      exact ⟨ret_bool Hr.out.symm, hbr.out⟩
end Go.Proofs.YtpmipoljnchheaaGreat
namespace Go.Proofs.YtpmipoljnchheaaGreat
open Go.RowKit

/-- A leg with the index of its line of the schedule. -/
structure RodD where
  leg : BoxD
  line : Int
def encRod (r : RodD) : List Value := encB r.leg ++ [.int .i64 r.line]
theorem encRod_len (r : RodD) : (encRod r).length = 7 := rfl
theorem encRod_one (r : RodD) : ∀ u ∈ encRod r, u.oneCell' = true := by
  intro u hu
  rcases List.mem_append.1 hu with hu | hu
  · exact encB_one r.leg u hu
  · simp only [List.mem_cons, List.not_mem_nil, or_false] at hu
    rcases hu with rfl
    rfl
abbrev RodsAt (w : World) (B : Nat) (A : Option Addr) (l : List RodD) : Prop := SlOf w B 7 (Flat encRod) A l
theorem RodsAt.get {w : World} {B : Nat} {A : Option Addr} {l : List RodD} (h : RodsAt w B A l) {k : Nat} (hk : k < l.length) :
    ∃ b off x, A = some ⟨b, off, none⟩ ∧ b < B ∧ l[k]? = some x ∧ ∀ j v, (encRod x)[j]? = some v → w.cell? ⟨b, off + k * 7 + j, none⟩ = some v := by
  obtain ⟨b, off, x, vs, hA, hb, hx, _, hr, hc⟩ := h.at_ hk
  have hr' : vs = encRod x := hr
  subst hr'
  exact ⟨b, off, x, hA, hb, hx, hc⟩
def rodsOfBar (bars : List BarD) (l : LaidD) : List RodD := (legsOfPts l.pts).map fun b => ⟨b, idx (markIs l.bar.mark) bars⟩
def rodsOf (bars : List BarD) (runs : List RunD) : List RodD := (laidAll bars runs).flatMap (rodsOfBar bars)

structure GridD where
  lo : Pt
  scale : Int
  rows : Int
  cols : Int
def upQ (n s : Int) : Int := (n + s - 1) / s
def gridOf (x : DetD) (s : Int) : GridD := ⟨(hullOf x.mem.boxes).lo, s, upQ ((hullOf x.mem.boxes).hi.2.1 - (hullOf x.mem.boxes).lo.2.1) s, upQ ((hullOf x.mem.boxes).hi.1 - (hullOf x.mem.boxes).lo.1) s⟩
def planErr (x : DetD) (s : Int) : Int := if detOk x = false then 1 else if s < 1 ∨ 1048576 < s then 2 else if 20000 < (gridOf x s).rows * (gridOf x s).cols then 6 else 0
def cellHit (g : GridD) (row col : Int) (b : BoxD) : Bool :=
  decide (b.lo.1 < g.lo.1 + col * g.scale + g.scale) && decide (g.lo.1 + col * g.scale ≤ b.hi.1) && decide (b.lo.2.1 < g.lo.2.1 + row * g.scale + g.scale) && decide (g.lo.2.1 + row * g.scale ≤ b.hi.2.1)
def hitLines (g : GridD) (l : List RodD) (row col : Int) : List Int := (l.filter fun r => cellHit g row col r.leg).map RodD.line
theorem hitLines_snoc (g : GridD) (l : List RodD) (r : RodD) (row col : Int) : hitLines g (l ++ [r]) row col = hitLines g l row col ++ (if cellHit g row col r.leg then [r.line] else []) := by
  simp only [hitLines, List.filter_append, List.map_append, List.filter_cons, List.filter_nil]
  split <;> simp_all
/-- The lines of the schedule that are seen in a cell, ascending. -/
def seenOf (n : Nat) (g : GridD) (l : List RodD) (row col : Int) : List Int := ((List.range n).map fun (k : Nat) => (k : Int)).filter fun k => (hitLines g l row col).contains k

/-! Two ascending lists with the same elements are the same. -/
theorem asc_eq : ∀ (a b : List Int), a.Pairwise (· < ·) → b.Pairwise (· < ·) → (∀ x, x ∈ a ↔ x ∈ b) → a = b := by
  intro a
  induction a with
  | nil =>
    intro b _ _ h
    cases b with
    | nil => rfl
    | cons y b => exact absurd ((h y).2 (by simp)) (by simp)
  | cons x a ih =>
    intro b ha hb h
    cases b with
    | nil => exact absurd ((h x).1 (by simp)) (by simp)
    | cons y b =>
      rw [List.pairwise_cons] at ha hb
      have hxy : x = y := by
        have h1 := (h x).1 (by simp)
        have h2 := (h y).2 (by simp)
        rcases List.mem_cons.1 h1 with h1 | h1
        · exact h1
        rcases List.mem_cons.1 h2 with h2 | h2
        · exact h2.symm
        have := hb.1 x h1
        have := ha.1 y h2
        omega
      subst hxy
      rw [ih b ha.2 hb.2 (fun z => ?_)]
      constructor
      · intro hz
        have h1 := (h z).1 (List.mem_cons_of_mem _ hz)
        rcases List.mem_cons.1 h1 with h1 | h1
        · subst h1
          have := ha.1 _ hz
          omega
        · exact h1
      · intro hz
        have h1 := (h z).2 (List.mem_cons_of_mem _ hz)
        rcases List.mem_cons.1 h1 with h1 | h1
        · subst h1
          have := hb.1 _ hz
          omega
        · exact h1
theorem range_asc (n : Nat) : ((List.range n).map fun (k : Nat) => (k : Int)).Pairwise (· < ·) := by
  rw [List.pairwise_map]
  exact (List.pairwise_lt_range).imp (by intro a b h; omega)
theorem seenOf_asc (n : Nat) (g : GridD) (l : List RodD) (row col : Int) : (seenOf n g l row col).Pairwise (· < ·) := (range_asc n).filter _
theorem mem_seenOf {n : Nat} {g : GridD} {l : List RodD} {row col k : Int} : k ∈ seenOf n g l row col ↔ (0 ≤ k ∧ k < n) ∧ k ∈ hitLines g l row col := by
  simp only [seenOf, List.mem_filter, List.mem_map, List.mem_range, List.contains_iff_mem]
  constructor
  · rintro ⟨⟨a, h, rfl⟩, h2⟩
    exact ⟨⟨by omega, by omega⟩, h2⟩
  · rintro ⟨⟨h1, h2⟩, h3⟩
    exact ⟨⟨k.toNat, by omega, by omega⟩, h3⟩
/-- What is sorted, each once, is what is seen. -/
theorem seen_of {n : Nat} {g : GridD} {l : List RodD} {row col : Int} (hl : ∀ r ∈ l, 0 ≤ r.line ∧ r.line < n) (out : List Int) (ho : out.Pairwise (· < ·)) (hm : ∀ k, k ∈ out ↔ k ∈ hitLines g l row col) : out = seenOf n g l row col := by
  refine asc_eq _ _ ho (seenOf_asc ..) (fun k => ?_)
  rw [mem_seenOf, hm]
  refine ⟨fun h => ⟨?_, h⟩, fun h => h.2⟩
  simp only [hitLines, List.mem_map, List.mem_filter] at h
  obtain ⟨r, ⟨hr, _⟩, rfl⟩ := h
  exact hl r hr
end Go.Proofs.YtpmipoljnchheaaGreat
namespace Go.Proofs.YtpmipoljnchheaaGreat
open Go.RowKit

set_option maxHeartbeats 1000000 in
theorem made1_any (n s : Int) (g : Nat) (w : World) (h0 : w.cell? ⟨g, 0, none⟩ = some (.int .i64 s)) (hs : 1 ≤ s ∧ s ≤ 1048576) (hn : 0 ≤ n ∧ n ≤ 4194304) :
    Calls Tryz.prog 62 #[.int .i64 n, .pointer (some ⟨g, 0, none⟩)] w fun e w' => e = .returned (.int .i64 (upQ n s)) ∧ w' = w := by
  have z1 : IntKind.i64.wrap (n + s) = n + s := IntWalk.i64_in _ (by omega)
  have z2 : IntKind.i64.wrap (n + s - 1) = n + s - 1 := IntWalk.i64_in _ (by omega)
  go_enter Tryz.func62, Tryz.ntmps62
  go_wp2_with fail
  go_ret
  exact ⟨ret_int rfl, rfl⟩
theorem upQ_range {n s : Int} (h0 : 0 ≤ n) (h1 : n ≤ 4194304) (hs : 1 ≤ s ∧ s ≤ 1048576) : 0 ≤ upQ n s ∧ upQ n s ≤ 8388608 := by
  unfold upQ
  have a := Int.ediv_nonneg (a := n + s - 1) (b := s) (by omega) (by omega)
  have b := Int.ediv_le_self (a := n + s - 1) s (by omega)
  omega
theorem prod_range {a b : Int} (h0 : 0 ≤ a) (h1 : a ≤ 8388608) (h2 : 0 ≤ b) (h3 : b ≤ 8388608) : 0 ≤ a * b ∧ a * b ≤ 70368744177664 := by
  have a1 := Int.mul_nonneg h0 h2
  have a2 := Int.mul_le_mul h1 h3 h2 (by omega)
  omega
def zeroGrid : GridD := ⟨(0, 0, 0), 0, 0, 0⟩
def planGrid (x : DetD) (s : Int) : GridD := if planErr x s = 0 then gridOf x s else zeroGrid
abbrev gridCells (g : GridD) : Array Value := #[.int .i64 g.lo.1, .int .i64 g.lo.2.1, .int .i64 g.lo.2.2, .int .i64 g.scale, .int .i64 g.rows, .int .i64 g.cols]
theorem plan_bad {x : DetD} {s : Int} {e : Int} (h : planErr x s = e) (he : e ≠ 0) : planGrid x s = zeroGrid := by rw [planGrid, h, if_neg he]
theorem plan_ok {x : DetD} {s : Int} (h : planErr x s = 0) : planGrid x s = gridOf x s := by rw [planGrid, if_pos h]
set_option maxHeartbeats 4000000 in
set_option maxRecDepth 100000 in
theorem made_any (x : DetD) (s : DetS) (sc : Int) (w : World) {B : Nat} (h : DetAt w B x s) (hB : B ≤ w.heap.size) (hf : DetFit x s) :
    Calls Tryz.prog 32 #[detV x s, .int .i64 sc] w fun e w' => e = .returned (.tuple #[.agg (gridCells (planGrid x sc)), .int .i64 (planErr x sc)]) ∧ Below w.heap.size w w' := by
  have HV := hide (fun (W : World) (hz : Below w.heap.size w W) => lapValid_any x s W (h.carry (hz.mono hB) (Nat.le_refl _)) (Nat.le_trans hB hz.size) hf)
  have HS := hide (fun (W : World) (hz : Below w.heap.size w W) (hok : solidOk x.mem.boxes x.mem.holes = true) => solidHull_ok x.mem.boxes x.mem.holes s.a1 s.a2 s.n1 s.n2 s.c1 s.c2 W (h.h1.carry (Flat.carried _) (hz.mono hB) (Nat.le_refl _)) (h.h2.carry (Flat.carried _) (hz.mono hB) (Nat.le_refl _)) (Nat.le_trans hB hz.size) hf.l1 hf.l2 hok)
  have Hi := hide (show (Tryz.prog.info? 34).map (·.size) = some 19 by kernel_rfl)
  have K0 := hide (((Blk.new w 34 (detCells x.mem x.rule s)).alloc (.cells #[.int .i64 sc] 3)).alloc (.cells #[.int .i64 0, .int .i64 0, .int .i64 0, .int .i64 0, .int .i64 0, .int .i64 0] 84))
  have KS := hide ((Blk.new1 w (.cells (detCells x.mem x.rule s) 34) 3 #[.int .i64 sc]).alloc (.cells #[.int .i64 0, .int .i64 0, .int .i64 0, .int .i64 0, .int .i64 0, .int .i64 0] 84))
  have KG := hide (Blk.new2 w (.cells (detCells x.mem x.rule s) 34) (.cells #[.int .i64 sc] 3) 84 #[.int .i64 0, .int .i64 0, .int .i64 0, .int .i64 0, .int .i64 0, .int .i64 0])
  have HW := hide ((below_new2 w (.cells (detCells x.mem x.rule s) 34) (.cells #[.int .i64 sc] 3)).alloc (by simp; omega) (.cells #[.int .i64 0, .int .i64 0, .int .i64 0, .int .i64 0, .int .i64 0, .int .i64 0] 84))
  obtain ⟨er, her⟩ : ∃ e, e = planErr x sc := ⟨_, rfl⟩
  obtain ⟨gr, hgr⟩ : ∃ g, g = planGrid x sc := ⟨_, rfl⟩
  obtain ⟨td, htd⟩ : ∃ t, t = detOk x := ⟨_, rfl⟩
  have Hbad := hide (fun (e : Int) (h : er = e) (he : e ≠ 0) => show gr = zeroGrid by rw [hgr]; exact plan_bad (her ▸ h) he)
  have Hgood := hide (fun (h : er = 0) => show gr = gridOf x sc by rw [hgr]; exact plan_ok (her ▸ h))
  have He := hide (show er = if td = false then 1 else if sc < 1 ∨ 1048576 < sc then 2 else if 20000 < (gridOf x sc).rows * (gridOf x sc).cols then 6 else 0 by rw [her, htd]; rfl)
  rw [← htd] at HV
  rw [← her, ← hgr]
  have Hsol := hide (fun (hd : td = true) => (detOk_parts (htd ▸ hd)).2.2)
  have Hhull := hide (fun (hd : td = true) => detOk_hull (htd ▸ hd))
  have Hgr := hide (show gridOf x sc = ⟨(hullOf x.mem.boxes).lo, sc, upQ ((hullOf x.mem.boxes).hi.2.1 - (hullOf x.mem.boxes).lo.2.1) sc, upQ ((hullOf x.mem.boxes).hi.1 - (hullOf x.mem.boxes).lo.1) sc⟩ from rfl)
  obtain ⟨mem, bars, runs, laps, dems, rule⟩ := x
  obtain ⟨a1, n1, c1, a2, n2, c2, a3, n3, c3, a4, n4, c4, a5, n5, c5, a6, n6, c6⟩ := s
  obtain ⟨name, boxes, holes, cover, agg, poker⟩ := mem
  obtain ⟨r1, r2, r3, r4, r5, r6, r7, r8, r9⟩ := rule
  simp only [detCells] at K0 KS KG HW HS Hsol Hhull Hgr
  clear h hf her hgr htd
  show Calls Tryz.prog 32 #[.agg #[.string name, .slice a1 n1 c1, .slice a2 n2 c2, .int .i64 cover, .int .i64 agg, .int .i64 poker, .slice a3 n3 c3, .slice a4 n4 c4, .slice a5 n5 c5, .slice a6 n6 c6, .int .i64 r1, .int .i64 r2, .int .i64 r3, .int .i64 r4, .int .i64 r5, .int .i64 r6, .int .i64 r7, .int .i64 r8, .int .i64 r9], .int .i64 sc] w _
  go_enter Tryz.func32, Tryz.ntmps32
  go_wp2_with (refine wpList_load_row rfl 34 (.tmp 2) rfl w.heap.size rfl 34 _ (0, 0) _ K0.out Tryz.underlying34 rfl Hi.out ?_)
  refine (HV.out _ HW.out).mono ?_
  rintro e w2 ⟨rfl, hb2⟩
  have K0 := hide (K0.out.keep hb2)
  have KS := hide (KS.out.keep hb2)
  have KG := hide (KG.out.keep hb2)
  have HW := hide (below_step HW.out hb2 (Nat.le_refl _))
  clear hb2 HV Hi
  cases td
  · have hres := hide (show er = 1 by rw [He.out, if_pos rfl])
    have hg := hide (Hbad.out _ hres.out (by decide))
    have g0 := KG.out.cell 0
    have g1 := KG.out.cell 1
    have g2 := KG.out.cell 2
    have g3 := KG.out.cell 3
    have g4 := KG.out.cell 4
    have g5 := KG.out.cell 5
    have f0 := KG.out.frozen 0
    have f1 := KG.out.frozen 1
    have f2 := KG.out.frozen 2
    have f3 := KG.out.frozen 3
    have f4 := KG.out.frozen 4
    have f5 := KG.out.frozen 5
    simp at g0 g1 g2 g3 g4 g5
    have gl := KG.out.lt
    go_wp2_with fail
    refine bodyPost_ret (results_ct rfl rfl ((((((KG.out.set_ 0 _).set_ 1 _).set_ 2 _).set_ 3 _).set_ 4 _).set_ 5 _) Tryz.underlying84 rfl (by kernel_rfl)) rfl ?_
    refine ⟨?_, (((((HW.out.setCell (p := ⟨w.heap.size + 2, 0, none⟩) (by simp) _).setCell (p := ⟨w.heap.size + 2, 1, none⟩) (by simp) _).setCell (p := ⟨w.heap.size + 2, 2, none⟩) (by simp) _).setCell (p := ⟨w.heap.size + 2, 3, none⟩) (by simp) _).setCell (p := ⟨w.heap.size + 2, 4, none⟩) (by simp) _).setCell (p := ⟨w.heap.size + 2, 5, none⟩) (by simp) _⟩
    simp only [List.setIfInBounds_toArray, List.set_cons_zero, List.set_cons_succ]
    rw [hg.out, hres.out]
    rfl
  have s0 := KS.out.cell 0
  simp at s0
  have sl := KS.out.lt
  by_cases hs1 : sc < 1
  · have d0 : decide (sc < 1) = true := by simpa using hs1
    have hres := hide (show er = 2 by rw [He.out, if_neg (by decide), if_pos (.inl hs1)])
    have hg := hide (Hbad.out _ hres.out (by decide))
    have g0 := KG.out.cell 0
    have g1 := KG.out.cell 1
    have g2 := KG.out.cell 2
    have g3 := KG.out.cell 3
    have g4 := KG.out.cell 4
    have g5 := KG.out.cell 5
    have f0 := KG.out.frozen 0
    have f1 := KG.out.frozen 1
    have f2 := KG.out.frozen 2
    have f3 := KG.out.frozen 3
    have f4 := KG.out.frozen 4
    have f5 := KG.out.frozen 5
    simp at g0 g1 g2 g3 g4 g5
    have gl := KG.out.lt
    go_wp2_with fail
    refine bodyPost_ret (results_ct rfl rfl ((((((KG.out.set_ 0 _).set_ 1 _).set_ 2 _).set_ 3 _).set_ 4 _).set_ 5 _) Tryz.underlying84 rfl (by kernel_rfl)) rfl ?_
    refine ⟨?_, (((((HW.out.setCell (p := ⟨w.heap.size + 2, 0, none⟩) (by simp) _).setCell (p := ⟨w.heap.size + 2, 1, none⟩) (by simp) _).setCell (p := ⟨w.heap.size + 2, 2, none⟩) (by simp) _).setCell (p := ⟨w.heap.size + 2, 3, none⟩) (by simp) _).setCell (p := ⟨w.heap.size + 2, 4, none⟩) (by simp) _).setCell (p := ⟨w.heap.size + 2, 5, none⟩) (by simp) _⟩
    simp only [List.setIfInBounds_toArray, List.set_cons_zero, List.set_cons_succ]
    rw [hg.out, hres.out]
    rfl
  have d0 : decide (sc < 1) = false := by simpa using hs1
  by_cases hs2 : 1048576 < sc
  · have d1 : decide (1048576 < sc) = true := by simpa using hs2
    have hres := hide (show er = 2 by rw [He.out, if_neg (by decide), if_pos (.inr hs2)])
    have hg := hide (Hbad.out _ hres.out (by decide))
    have g0 := KG.out.cell 0
    have g1 := KG.out.cell 1
    have g2 := KG.out.cell 2
    have g3 := KG.out.cell 3
    have g4 := KG.out.cell 4
    have g5 := KG.out.cell 5
    have f0 := KG.out.frozen 0
    have f1 := KG.out.frozen 1
    have f2 := KG.out.frozen 2
    have f3 := KG.out.frozen 3
    have f4 := KG.out.frozen 4
    have f5 := KG.out.frozen 5
    simp at g0 g1 g2 g3 g4 g5
    have gl := KG.out.lt
    go_wp2_with fail
    refine bodyPost_ret (results_ct rfl rfl ((((((KG.out.set_ 0 _).set_ 1 _).set_ 2 _).set_ 3 _).set_ 4 _).set_ 5 _) Tryz.underlying84 rfl (by kernel_rfl)) rfl ?_
    refine ⟨?_, (((((HW.out.setCell (p := ⟨w.heap.size + 2, 0, none⟩) (by simp) _).setCell (p := ⟨w.heap.size + 2, 1, none⟩) (by simp) _).setCell (p := ⟨w.heap.size + 2, 2, none⟩) (by simp) _).setCell (p := ⟨w.heap.size + 2, 3, none⟩) (by simp) _).setCell (p := ⟨w.heap.size + 2, 4, none⟩) (by simp) _).setCell (p := ⟨w.heap.size + 2, 5, none⟩) (by simp) _⟩
    simp only [List.setIfInBounds_toArray, List.set_cons_zero, List.set_cons_succ]
    rw [hg.out, hres.out]
    rfl
  have d1 : decide (1048576 < sc) = false := by simpa using hs2
  have He2 := hide (show er = if 20000 < (gridOf ⟨⟨name, boxes, holes, cover, agg, poker⟩, bars, runs, laps, dems, ⟨r1, r2, r3, r4, r5, r6, r7, r8, r9⟩⟩ sc).rows * (gridOf ⟨⟨name, boxes, holes, cover, agg, poker⟩, bars, runs, laps, dems, ⟨r1, r2, r3, r4, r5, r6, r7, r8, r9⟩⟩ sc).cols then 6 else 0 by rw [He.out, if_neg (by decide), if_neg (by omega)])
  have hsr : 1 ≤ sc ∧ sc ≤ 1048576 := by omega
  have hhull := Hhull.out rfl
  have hsol := Hsol.out rfl
  have HSs := hide (fun (W : World) (hz : Below w.heap.size w W) => HS.out W hz hsol)
  generalize hullOf boxes = hb at *
  obtain ⟨⟨x1, x2, x3⟩, x4, x5, x6⟩ := hb
  simp only [boxOk_iff] at hhull
  simp only at Hgr
  obtain ⟨⟨u1, u2, u3⟩, ⟨v1, v2, v3⟩, t1, t2, t3⟩ := hhull
  have k1 := K0.out.cell 1
  have k2 := K0.out.cell 2
  simp at k1 k2
  have kl := K0.out.lt
  clear hsol HS Hsol Hhull He hs1 hs2
  go_wp2_with fail
  refine (HSs.out _ HW.out).mono ?_
  rintro e w3 ⟨rfl, hb3⟩
  have KS := hide (KS.out.keep hb3)
  have KG := hide (KG.out.keep hb3)
  have HW := hide (below_step HW.out hb3 (Nat.le_refl _))
  have s0 := KS.out.cell 0
  simp at s0
  have sl := KS.out.lt
  clear hb3 k1 k2 kl K0 HSs
  have z1 : IntKind.i64.wrap (x5 - x2) = x5 - x2 := IntWalk.i64_in _ (by omega)
  have z2 : IntKind.i64.wrap (x4 - x1) = x4 - x1 := IntWalk.i64_in _ (by omega)
  obtain ⟨rw1, hrw⟩ : ∃ r, r = upQ (x5 - x2) sc := ⟨_, rfl⟩
  obtain ⟨cl1, hcl⟩ : ∃ r, r = upQ (x4 - x1) sc := ⟨_, rfl⟩
  have hM1 := fun (W : World) (h0 : W.cell? ⟨w.heap.size + 1, 0, none⟩ = some (.int .i64 sc)) => made1_any (x5 - x2) sc (w.heap.size + 1) W h0 hsr (by omega)
  have hM2 := fun (W : World) (h0 : W.cell? ⟨w.heap.size + 1, 0, none⟩ = some (.int .i64 sc)) => made1_any (x4 - x1) sc (w.heap.size + 1) W h0 hsr (by omega)
  have hr1 := upQ_range (n := x5 - x2) (s := sc) (by omega) (by omega) hsr
  have hr2 := upQ_range (n := x4 - x1) (s := sc) (by omega) (by omega) hsr
  rw [← hrw] at hM1 hr1
  rw [← hcl] at hM2 hr2
  have Hgr2 := hide (Hgr.out.trans (by rw [← hrw, ← hcl] : _ = (⟨(x1, x2, x3), sc, rw1, cl1⟩ : GridD)))
  have HM1 := hide hM1
  have HM2 := hide hM2
  have hpr := prod_range hr1.1 hr1.2 hr2.1 hr2.2
  have z3 : IntKind.i64.wrap (rw1 * cl1) = rw1 * cl1 := IntWalk.i64_in _ (by omega)
  go_wp2_with fail
  obtain ⟨wa, hwa⟩ : ∃ wa, wa = w3.alloc (.cells #[.int .i64 x1, .int .i64 x2, .int .i64 x3, .int .i64 x4, .int .i64 x5, .int .i64 x6] 73) := ⟨_, rfl⟩
  have KB := hide (Blk.new w3 73 #[.int .i64 x1, .int .i64 x2, .int .i64 x3, .int .i64 x4, .int .i64 x5, .int .i64 x6])
  have HWB := hide (HW.out.alloc HW.out.size (.cells #[.int .i64 x1, .int .i64 x2, .int .i64 x3, .int .i64 x4, .int .i64 x5, .int .i64 x6] 73))
  have KGB := hide (KG.out.alloc (.cells #[.int .i64 x1, .int .i64 x2, .int .i64 x3, .int .i64 x4, .int .i64 x5, .int .i64 x6] 73))
  have KSB := hide (KS.out.alloc (.cells #[.int .i64 x1, .int .i64 x2, .int .i64 x3, .int .i64 x4, .int .i64 x5, .int .i64 x6] 73))
  rw [← hwa] at KB HWB KGB KSB ⊢
  have b0 := KB.out.cell 0
  have b1 := KB.out.cell 1
  have b2 := KB.out.cell 2
  have b3 := KB.out.cell 3
  have b4 := KB.out.cell 4
  have b5 := KB.out.cell 5
  have s0 := KSB.out.cell 0
  simp at b0 b1 b2 b3 b4 b5 s0
  have lb := KB.out.lt
  have ls := KSB.out.lt
  clear hM1 hM2 hrw hcl Hgr hwa
  go_cut [9] from 35 (fun s9 wx => s9 = .pointer (some ⟨wa.heap.size, 0, none⟩) ∧ wx = (wa.alloc (.cells #[.int .i64 x1, .int .i64 x2, .int .i64 x3, .int .i64 sc, .int .i64 rw1, .int .i64 cl1] 84)).drew)
  case first =>
    go_region_held3 (fun W => W.cell? ⟨w.heap.size + 1, 0, none⟩ = some (.int .i64 sc) ∧ W.cell? ⟨w3.heap.size, 0, none⟩ = some (.int .i64 x1) ∧ W.cell? ⟨w3.heap.size, 1, none⟩ = some (.int .i64 x2) ∧ W.cell? ⟨w3.heap.size, 2, none⟩ = some (.int .i64 x3) ∧ W.cell? ⟨w3.heap.size, 3, none⟩ = some (.int .i64 x4) ∧ W.cell? ⟨w3.heap.size, 4, none⟩ = some (.int .i64 x5))
      (first | go_keep)
      (first
        | (go_at_call 62; have hS := ‹World.cell? _ ⟨w.heap.size + 1, 0, none⟩ = some (.int .i64 sc) ∧ _ ∧ _ ∧ _ ∧ _ ∧ _›; (first | (with_reducible refine (HM1.out _ hS.1).mono ?_) | (with_reducible refine (HM2.out _ hS.1).mono ?_)); rintro e w' ⟨rfl, rfl⟩))
    all_goals
      go_wp2_with fail
      go_meet
      exact ⟨rfl, rfl⟩
  obtain ⟨rfl, hwb⟩ := hcut
  obtain ⟨gG, hgG⟩ : ∃ g, g = w.heap.size + 1 + 1 := ⟨_, rfl⟩
  have KGB := hide (show Blk wa gG 84 #[.int .i64 0, .int .i64 0, .int .i64 0, .int .i64 0, .int .i64 0, .int .i64 0] by rw [hgG]; exact KGB.out)
  have hwg : w.heap.size ≤ gG := by omega
  rw [← hgG]
  have HgG := hide hgG
  clear hgG
  have HWC := hide ((HWB.out.alloc HWB.out.size (.cells #[.int .i64 x1, .int .i64 x2, .int .i64 x3, .int .i64 sc, .int .i64 rw1, .int .i64 cl1] 84)).drew)
  have KGC := hide ((KGB.out.alloc (.cells #[.int .i64 x1, .int .i64 x2, .int .i64 x3, .int .i64 sc, .int .i64 rw1, .int .i64 cl1] 84)).drew)
  have KN := hide ((Blk.new wa 84 #[.int .i64 x1, .int .i64 x2, .int .i64 x3, .int .i64 sc, .int .i64 rw1, .int .i64 cl1]).drew)
  rw [← hwb] at HWC KGC KN
  have HNG := hide (show wa.heap.size ≠ gG by have := KGB.out.lt; omega)
  obtain ⟨gN, hgN⟩ : ∃ g, g = wa.heap.size := ⟨_, rfl⟩
  rw [← hgN] at KN HNG ⊢
  have g0 := KGC.out.cell 0
  have g1 := KGC.out.cell 1
  have g2 := KGC.out.cell 2
  have g3 := KGC.out.cell 3
  have g4 := KGC.out.cell 4
  have g5 := KGC.out.cell 5
  have f0 := KGC.out.frozen 0
  have f1 := KGC.out.frozen 1
  have f2 := KGC.out.frozen 2
  have f3 := KGC.out.frozen 3
  have f4 := KGC.out.frozen 4
  have f5 := KGC.out.frozen 5
  have n0 := KN.out.cell 0
  have n1 := KN.out.cell 1
  have n2 := KN.out.cell 2
  have n3 := KN.out.cell 3
  have n4 := KN.out.cell 4
  have n5 := KN.out.cell 5
  simp at g0 g1 g2 g3 g4 g5 n0 n1 n2 n3 n4 n5
  clear b0 b1 b2 b3 b4 b5 s0 HM1 HM2 hwb hgN lb ls sl hr1 hr2 hpr z1 z2 u1 u2 u3 v1 v2 v3 t1 t2 t3 KB HWB KGB KSB HW KS KG
  by_cases hbig : 20000 < rw1 * cl1
  · have d2 : decide (20000 < rw1 * cl1) = true := by simpa using hbig
    have hres := hide (show er = 6 by rw [He2.out, Hgr2.out, if_pos hbig])
    have hg := hide (Hbad.out _ hres.out (by decide))
    clear hbig
    go_wp2_with fail
    refine bodyPost_ret (results_ct rfl rfl ((((((KGC.out.set_ 0 _).set_ 1 _).set_ 2 _).set_ 3 _).set_ 4 _).set_ 5 _) Tryz.underlying84 rfl (by kernel_rfl)) rfl ?_
    refine ⟨?_, (((((HWC.out.setCell (p := ⟨gG, 0, none⟩) hwg _).setCell (p := ⟨gG, 1, none⟩) hwg _).setCell (p := ⟨gG, 2, none⟩) hwg _).setCell (p := ⟨gG, 3, none⟩) hwg _).setCell (p := ⟨gG, 4, none⟩) hwg _).setCell (p := ⟨gG, 5, none⟩) hwg _⟩
    simp only [List.setIfInBounds_toArray, List.set_cons_zero, List.set_cons_succ]
    rw [hg.out, hres.out]
    rfl
  · have d2 : decide (20000 < rw1 * cl1) = false := by simpa using hbig
    have hres := hide (show er = 0 by rw [He2.out, Hgr2.out, if_neg hbig])
    have hg := hide ((Hgood.out hres.out).trans Hgr2.out)
    clear hbig
    go_wp2_with fail
    refine bodyPost_ret (results_ct rfl rfl ((((((KGC.out.set_ 0 _).set_ 1 _).set_ 2 _).set_ 3 _).set_ 4 _).set_ 5 _) Tryz.underlying84 rfl (by kernel_rfl)) rfl ?_
    refine ⟨?_, (((((HWC.out.setCell (p := ⟨gG, 0, none⟩) hwg _).setCell (p := ⟨gG, 1, none⟩) hwg _).setCell (p := ⟨gG, 2, none⟩) hwg _).setCell (p := ⟨gG, 3, none⟩) hwg _).setCell (p := ⟨gG, 4, none⟩) hwg _).setCell (p := ⟨gG, 5, none⟩) hwg _⟩
    simp only [List.setIfInBounds_toArray, List.set_cons_zero, List.set_cons_succ]
    rw [hg.out, hres.out]
    rfl
end Go.Proofs.YtpmipoljnchheaaGreat
