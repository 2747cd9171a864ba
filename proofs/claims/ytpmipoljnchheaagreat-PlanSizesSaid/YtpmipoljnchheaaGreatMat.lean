/- The reference of layer 25: laps; whether a detail is valid. The reference of layer 25: whether a detail is valid. Plain: the cell of a point; an end of a leg that is in a cell is seen there. No walk stands here. The cell of a point. -/
import Derived.Test.YtpmipoljnchheaaGreatMao
import Derived.Test.YtpmipoljnchheaaGreatMas
import Derived.StillTailTactics
import Derived.BigQuiet
import Derived.Test.YtpmipoljnchheaaGreatMaq
namespace Go.Proofs.YtpmipoljnchheaaGreat
open Go.RowKit

theorem still_load_row {P : Program} {ops : Array Oper} {rest : List Oper} {o : Oper} {a : Act} {w : World} {Q : Act → Prop} (hgd : o.guard = none) (ty : TypeId) (x : Operand) (ho : o.op = .load ty x)
    (g : Nat) (hx : a.eval x = .pointer (some ⟨g, 0, none⟩)) (t : TypeId) (cs : Array Value) (fr : Nat × Nat) (d : TypeDesc) (hg : w.heap[g]? = some (.cells cs t fr))
    (hu : P.underlying ty = some d) (hd : (match d with | .struct _ | .array _ _ => true | _ => false) = true) (hi : (P.info? ty).map (·.size) = some cs.size)
    (h : wpStill P ops w Q rest (a.put o.dst (.agg cs))) : wpStill P ops w Q (o :: rest) a := by
  have hw : Region.wanted o (yielded ops a.tmps) = true := by simp [Region.wanted, hgd]
  show if _ then _ else _
  rw [if_pos hw]
  unfold Oper.still execOp
  simp only [ho, hx, Instr.loadAt, Instr.sureAddr, Sem.run_bind, Sem.run_pure, Result.andThen_ok, run_loadVar_row w g t ty cs fr d hg hu hd hi, Oper.stillUpon]
  exact ⟨trivial, h⟩
def legI (o : Option BoxD) : BoxD := o.getD ⟨(0, 0, 0), (0, 0, 0)⟩
theorem mainT_eq (o : Option BoxD) : mainT o = #[bxV (legI o), .bool o.isSome] := by cases o <;> rfl
def lapLegs (a b : Option BoxD) : Bool := a.isSome && (b.isSome && (decide ((legI a).lo.1 < (legI b).lo.1) && (decide ((legI a).hi.1 < (legI b).hi.1) && decide ((legI b).lo.1 ≤ (legI a).hi.1))))
theorem lapsFit_in {ms : List (Option BoxD)} {j : JoinD} {p q : Nat} (hp : j.first = p) (hq : j.second = q) {a b : Option BoxD} (ha : ms[p]? = some a) (hb : ms[q]? = some b) : lapsFit ms j = lapLegs a b := by
  have h1 := lt_of_get ha
  have h2 := lt_of_get hb
  rw [lapsFit, hp, hq, decide_eq_true (show (0 : Int) ≤ (p : Int) by omega), decide_eq_true (show (0 : Int) ≤ (q : Int) by omega), decide_eq_true (show (p : Int) < (ms.length : Nat) by omega), decide_eq_true (show (q : Int) < (ms.length : Nat) by omega)]
  simp only [Int.toNat_natCast, List.getD_eq_getElem?_getD, ha, hb, Option.getD_some]
  cases a <;> cases b <;> simp [lapLegs, legI, Bool.and_assoc] <;> rfl
theorem lapsFit_out {ms : List (Option BoxD)} {j : JoinD} (h : j.first < 0 ∨ (ms.length : Int) ≤ j.first ∨ j.second < 0 ∨ (ms.length : Int) ≤ j.second) : lapsFit ms j = false := by
  rw [lapsFit]
  rcases h with h | h | h | h
  · rw [decide_eq_false (show ¬ (0 : Int) ≤ j.first by omega)]; simp
  · rw [decide_eq_false (show ¬ j.first < (ms.length : Nat) by omega)]; simp
  · rw [decide_eq_false (show ¬ (0 : Int) ≤ j.second by omega)]; simp
  · rw [decide_eq_false (show ¬ j.second < (ms.length : Nat) by omega)]; simp
set_option maxHeartbeats 4000000 in
theorem refCount25_ok (x : DetD) (s : DetS) (w : World) {B : Nat} (h : DetAt w B x s) (hB : B ≤ w.heap.size) (hf : DetFit x s) (hok : laidOk x.bars x.runs = true) :
    Calls Tryz.prog 78 #[detV x s] w fun e w' => e = .returned (.int .i64 (countRuns x.runs)) ∧ Below w.heap.size w w' := by
  obtain ⟨_, hlen, hruns⟩ := laidOk_mem hok
  have l4 := hf.l4
  have HC := hide (fun (W : World) (hz : Below w.heap.size w W) => count16_any s.a4 x.runs s.n4 s.c4 W (h.h4.carry (Flat.carried _) (hz.mono hB) (Nat.le_refl _)) (Nat.le_trans hB hz.size) hf.l4 (by omega) (fun r hr => runOk_count (hruns r hr)))
  have K0 := hide (Blk.new w 34 (detCells x.mem x.rule s))
  have HW := hide (below_new w (.cells (detCells x.mem x.rule s) 34))
  generalize countRuns x.runs = t at *
  obtain ⟨mem, bars, runs, laps, dems, rule⟩ := x
  obtain ⟨a1, n1, c1, a2, n2, c2, a3, n3, c3, a4, n4, c4, a5, n5, c5, a6, n6, c6⟩ := s
  obtain ⟨name, boxes, holes, cover, agg, poker⟩ := mem
  obtain ⟨r1, r2, r3, r4, r5, r6, r7, r8, r9⟩ := rule
  simp only [detCells] at K0 HW
  simp only at HC
  have e7 := K0.out.cell 7
  simp at e7
  have lk := K0.out.lt
  clear h hf hB hok hruns hlen l4
  show Calls Tryz.prog 78 #[.agg #[.string name, .slice a1 n1 c1, .slice a2 n2 c2, .int .i64 cover, .int .i64 agg, .int .i64 poker, .slice a3 n3 c3, .slice a4 n4 c4, .slice a5 n5 c5, .slice a6 n6 c6, .int .i64 r1, .int .i64 r2, .int .i64 r3, .int .i64 r4, .int .i64 r5, .int .i64 r6, .int .i64 r7, .int .i64 r8, .int .i64 r9]] w _
  go_enter Tryz.func78, Tryz.ntmps78
  go_wp2_with fail
  refine (HC.out _ HW.out).mono ?_
  rintro e w2 ⟨rfl, hb2⟩
  have HW2 := hide (below_step HW.out hb2 (Nat.le_refl _))
  clear hb2 HC HW K0 e7
  go_wp2_with fail
  go_ret
  exact ⟨rfl, HW2.out⟩
set_option maxHeartbeats 8000000 in
set_option maxRecDepth 100000 in
theorem refJoint_any (x : DetD) (s : DetS) (j : JoinD) (w : World) {B : Nat} (h : DetAt w B x s) (hB : B ≤ w.heap.size) (hf : DetFit x s) (hok : laidOk x.bars x.runs = true) :
    Calls Tryz.prog 45 #[detV x s, .agg #[.int .i64 j.first, .int .i64 j.second]] w fun e w' => e = .returned (.bool (lapsFit ((laidAll x.bars x.runs).map mainLeg) j)) ∧ Below w.heap.size w w' := by
  have HC := hide (fun (W : World) (hz : Below w.heap.size w W) => refCount25_ok x s W (h.carry (hz.mono hB) (Nat.le_refl _)) (Nat.le_trans hB hz.size) hf hok)
  have HM := hide (fun (i : Nat) (ld : LaidD) (hi : (laidAll x.bars x.runs)[i]? = some ld) (W : World) (hz : Below w.heap.size w W) => refMain25_ok x s i ld W (h.carry (hz.mono hB) (Nat.le_refl _)) (Nat.le_trans hB hz.size) hf hok hi)
  have hcl := (laidOk_len hok).1
  have hcl2 := (laidOk_len hok).2
  have Hi := hide (show (Tryz.prog.info? 34).map (·.size) = some 19 by kernel_rfl)
  have K0 := hide ((Blk.new w 34 (detCells x.mem x.rule s)).alloc (.cells #[.int .i64 j.first, .int .i64 j.second] 109))
  have KJ := hide (Blk.new1 w (.cells (detCells x.mem x.rule s) 34) 109 #[.int .i64 j.first, .int .i64 j.second])
  have HW := hide (below_new2 w (.cells (detCells x.mem x.rule s) 34) (.cells #[.int .i64 j.first, .int .i64 j.second] 109))
  have Hin := hide (fun (p q : Nat) (la lb : LaidD) (hp : j.first = p) (hq : j.second = q) (ha : (laidAll x.bars x.runs)[p]? = some la) (hb : (laidAll x.bars x.runs)[q]? = some lb) => lapsFit_in (ms := (laidAll x.bars x.runs).map mainLeg) hp hq (a := mainLeg la) (b := mainLeg lb) (by simp [ha]) (by simp [hb]))
  have Hout := hide (fun (hh : j.first < 0 ∨ countRuns x.runs ≤ j.first ∨ j.second < 0 ∨ countRuns x.runs ≤ j.second) => lapsFit_out (ms := (laidAll x.bars x.runs).map mainLeg) (j := j) (by rw [List.length_map, hcl]; exact hh))
  generalize laidAll x.bars x.runs = LA at *
  obtain ⟨res, hres⟩ : ∃ res, res = lapsFit (LA.map mainLeg) j := ⟨_, rfl⟩
  rw [← hres] at Hin Hout ⊢
  generalize countRuns x.runs = t at *
  obtain ⟨f, g⟩ := j
  obtain ⟨mem, bars, runs, laps, dems, rule⟩ := x
  obtain ⟨a1, n1, c1, a2, n2, c2, a3, n3, c3, a4, n4, c4, a5, n5, c5, a6, n6, c6⟩ := s
  obtain ⟨name, boxes, holes, cover, agg, poker⟩ := mem
  obtain ⟨r1, r2, r3, r4, r5, r6, r7, r8, r9⟩ := rule
  simp only [detCells] at K0 KJ HW
  simp only at Hin Hout
  clear h hf hB hok hres
  show Calls Tryz.prog 45 #[.agg #[.string name, .slice a1 n1 c1, .slice a2 n2 c2, .int .i64 cover, .int .i64 agg, .int .i64 poker, .slice a3 n3 c3, .slice a4 n4 c4, .slice a5 n5 c5, .slice a6 n6 c6, .int .i64 r1, .int .i64 r2, .int .i64 r3, .int .i64 r4, .int .i64 r5, .int .i64 r6, .int .i64 r7, .int .i64 r8, .int .i64 r9], .agg #[.int .i64 f, .int .i64 g]] w _
  go_enter Tryz.func45, Tryz.ntmps45
  go_wp2_with (refine wpList_load_row rfl 34 (.tmp 2) rfl w.heap.size rfl 34 _ (0, 0) _ K0.out Tryz.underlying34 rfl Hi.out ?_)
  refine (HC.out _ HW.out).mono ?_
  rintro e w2 ⟨rfl, hb2⟩
  have K2 := hide (K0.out.keep hb2)
  have J2 := hide (KJ.out.keep hb2)
  have HW2 := hide (below_step HW.out hb2 (Nat.le_refl _))
  clear hb2 HC HW K0 KJ
  have e0 := J2.out.cell 0
  have e1 := J2.out.cell 1
  simp at e0 e1
  have lj := J2.out.lt
  have hways : decide (f < 0) = true ∨ (decide (f < 0) = false ∧ decide (t ≤ f) = true) ∨ (decide (f < 0) = false ∧ decide (t ≤ f) = false ∧ decide (g < 0) = true) ∨ (decide (f < 0) = false ∧ decide (t ≤ f) = false ∧ decide (g < 0) = false ∧ decide (t ≤ g) = true) ∨ (decide (f < 0) = false ∧ decide (t ≤ f) = false ∧ decide (g < 0) = false ∧ decide (t ≤ g) = false) := by
    cases decide (f < 0) <;> cases decide (t ≤ f) <;> cases decide (g < 0) <;> cases decide (t ≤ g) <;> simp
  rcases hways with q0 | ⟨q0, q1⟩ | ⟨q0, q1, q2⟩ | ⟨q0, q1, q2, q3⟩ | ⟨q0, q1, q2, q3⟩
  · have Hr := hide (Hout.out (.inl (by simpa using q0)))
    clear Hin Hout HM hcl hcl2
    go_wp2_with fail
    go_ret
    exact ⟨ret_bool Hr.out.symm, HW2.out⟩
  · have Hr := hide (Hout.out (.inr (.inl (by simpa using q1))))
    clear Hin Hout HM hcl hcl2
    go_wp2_with fail
    go_ret
    exact ⟨ret_bool Hr.out.symm, HW2.out⟩
  · have Hr := hide (Hout.out (.inr (.inr (.inl (by simpa using q2)))))
    clear Hin Hout HM hcl hcl2
    go_wp2_with fail
    go_ret
    exact ⟨ret_bool Hr.out.symm, HW2.out⟩
  · have Hr := hide (Hout.out (.inr (.inr (.inr (by simpa using q3)))))
    clear Hin Hout HM hcl hcl2
    go_wp2_with fail
    go_ret
    exact ⟨ret_bool Hr.out.symm, HW2.out⟩
  have f0 : 0 ≤ f := by simpa using q0
  have f1 : f < t := by simpa using q1
  have g0 : 0 ≤ g := by simpa using q2
  have g1 : g < t := by simpa using q3
  obtain ⟨p, rfl⟩ := Int.eq_ofNat_of_zero_le f0
  obtain ⟨q, rfl⟩ := Int.eq_ofNat_of_zero_le g0
  obtain ⟨la, hla⟩ : ∃ la, LA[p]? = some la := ⟨_, List.getElem?_eq_getElem (by omega)⟩
  obtain ⟨lb, hlb⟩ : ∃ lb, LA[q]? = some lb := ⟨_, List.getElem?_eq_getElem (by omega)⟩
  have Hr := Hin.out p q la lb rfl rfl hla hlb
  have HMa := HM.out p la hla
  have HMb := HM.out q lb hlb
  rw [mainT_eq] at HMa HMb
  unfold lapLegs at Hr
  generalize (mainLeg la).isSome = ta at *
  generalize (mainLeg lb).isSome = tb at *
  generalize legI (mainLeg la) = A at *
  generalize legI (mainLeg lb) = C at *
  obtain ⟨⟨A1, A2, A3⟩, A4, A5, A6⟩ := A
  obtain ⟨⟨C1, C2, C3⟩, C4, C5, C6⟩ := C
  simp only [bxV] at HMa HMb Hr
  have Hr := hide Hr
  have HMa := hide HMa
  have HMb := hide HMb
  have K0 := K2
  have KJ := J2
  clear Hin Hout HM hcl hcl2 hla hlb f0 f1 g0 g1 K2 J2
  go_wp2_with (refine wpList_load_row rfl 34 (.tmp 2) rfl w.heap.size rfl 34 _ (0, 0) _ K0.out Tryz.underlying34 rfl Hi.out ?_)
  refine (HMa.out _ HW2.out).mono ?_
  rintro e w3 ⟨rfl, hb3⟩
  have K0 := hide ((K0.out.keep hb3).alloc (.cells #[.int .i64 A1, .int .i64 A2, .int .i64 A3, .int .i64 A4, .int .i64 A5, .int .i64 A6] 73))
  have KJ := hide ((KJ.out.keep hb3).alloc (.cells #[.int .i64 A1, .int .i64 A2, .int .i64 A3, .int .i64 A4, .int .i64 A5, .int .i64 A6] 73))
  have KA := hide (Blk.new w3 73 #[.int .i64 A1, .int .i64 A2, .int .i64 A3, .int .i64 A4, .int .i64 A5, .int .i64 A6])
  have HW3' := below_step HW2.out hb3 (Nat.le_refl _)
  have HW3 := hide (HW3'.alloc HW3'.size (.cells #[.int .i64 A1, .int .i64 A2, .int .i64 A3, .int .i64 A4, .int .i64 A5, .int .i64 A6] 73))
  clear hb3 HMa HW2 HW3' e0 e1 lj
  have e1 := KJ.out.cell 1
  simp at e1
  have lj := KJ.out.lt
  go_wp2_with (refine wpList_load_row rfl 34 (.tmp 2) rfl w.heap.size rfl 34 _ (0, 0) _ K0.out Tryz.underlying34 rfl Hi.out ?_)
  refine (HMb.out _ HW3.out).mono ?_
  rintro e w4 ⟨rfl, hb4⟩
  have KA := hide ((KA.out.keep hb4).alloc (.cells #[.int .i64 C1, .int .i64 C2, .int .i64 C3, .int .i64 C4, .int .i64 C5, .int .i64 C6] 73))
  have KC := hide (Blk.new w4 73 #[.int .i64 C1, .int .i64 C2, .int .i64 C3, .int .i64 C4, .int .i64 C5, .int .i64 C6])
  have HW4' := below_step HW3.out hb4 (Nat.le_refl _)
  have HW4 := hide (HW4'.alloc HW4'.size (.cells #[.int .i64 C1, .int .i64 C2, .int .i64 C3, .int .i64 C4, .int .i64 C5, .int .i64 C6] 73))
  clear hb4 HMb HW3 HW4' e1 lj K0 KJ Hi
  have u0 := KA.out.cell 0
  have u3 := KA.out.cell 3
  have v0 := KC.out.cell 0
  simp at u0 u3 v0
  have v3 := KC.out.cell 3
  simp at v3
  have la' := KA.out.lt
  have lc' := KC.out.lt
  cases ta
  · go_wp2_with fail
    go_ret
    exact ⟨ret_bool (by rw [Hr.out]; rfl), HW4.out⟩
  cases tb
  · go_wp2_with fail
    go_ret
    exact ⟨ret_bool (by rw [Hr.out]; rfl), HW4.out⟩
  cases x0 : decide (A1 < C1)
  · go_wp2_with fail
    go_ret
    exact ⟨ret_bool (by rw [Hr.out, x0]; rfl), HW4.out⟩
  cases x1 : decide (A4 < C4)
  · go_wp2_with fail
    go_ret
    exact ⟨ret_bool (by rw [Hr.out, x0, x1]; rfl), HW4.out⟩
  cases x2 : decide (C1 ≤ A4)
  all_goals
    go_wp2_with fail
    go_ret
    exact ⟨ret_bool (by rw [Hr.out, x0, x1, x2]; rfl), HW4.out⟩
end Go.Proofs.YtpmipoljnchheaaGreat
namespace Go.Proofs.YtpmipoljnchheaaGreat
open Go.RowKit

def lapClash (j i : JoinD) : Bool := decide (i.first = j.first) || decide (i.second = j.second)
theorem lapNew_any (done : List JoinD) (j : JoinD) : lapNew done j = !done.any (lapClash j) := rfl
theorem lapsBy_at {ms : List (Option BoxD)} {l : List JoinD} {k : Nat} {j : JoinD} (h : l[k]? = some j) : lapsBy ms (l.take k) (l.drop k) = (lapsFit ms j && (lapNew (l.take k) j && lapsBy ms (l.take (k + 1)) (l.drop (k + 1)))) := by
  rw [drop_at' h, lapsBy, take_snoc' h, Bool.and_assoc]
theorem lapNew_true {l : List JoinD} {j : JoinD} {k : Nat} (h : NoneTo (lapClash j) l k) : lapNew (l.take k) j = true := by
  rw [lapNew_any]
  have : (l.take k).any (lapClash j) = false := by
    rw [List.any_eq_false]
    intro z hz
    obtain ⟨u, hu, rfl⟩ := List.getElem_of_mem hz
    rw [List.length_take] at hu
    rw [h u (l.take k)[u] (by omega) (by rw [List.getElem_take]; exact List.getElem?_eq_getElem (by omega))]
    simp
  rw [this]
  rfl
theorem lapNew_false {l : List JoinD} {i j : JoinD} {k t : Nat} (ht : t < k) (hi : l[t]? = some i) (hc : lapClash j i = true) : lapNew (l.take k) j = false := by
  rw [lapNew_any]
  have : (l.take k).any (lapClash j) = true := by
    rw [List.any_eq_true]
    refine ⟨i, ?_, hc⟩
    have : (l.take k)[t]? = some i := by rw [List.getElem?_take_of_lt ht]; exact hi
    exact mem_of_get this
  rw [this]
  rfl
set_option maxHeartbeats 8000000 in
set_option maxRecDepth 100000 in
theorem refValid25_any (x : DetD) (s : DetS) (w : World) {B : Nat} (h : DetAt w B x s) (hB : B ≤ w.heap.size) (hf : DetFit x s) (hd : ∀ d ∈ x.dems, d.name.size ≤ maxLen ∧ d.steps.length ≤ 60000) :
    Calls Tryz.prog 17 #[detV x s] w fun e w' => e = .returned (.bool (detOk x)) ∧ Below w.heap.size w w' := by
  have H1 := hide (fun (W : World) (hz : Below w.heap.size w W) => refMember_any x.mem s.a1 s.a2 s.n1 s.n2 s.c1 s.c2 W (h.h1.carry (Flat.carried _) (hz.mono hB) (Nat.le_refl _)) (h.h2.carry (Flat.carried _) (hz.mono hB) (Nat.le_refl _)) (Nat.le_trans hB hz.size) hf.l1 hf.l2 hf.name)
  have H2 := hide (fun (W : World) (hz : Below w.heap.size w W) => refLaid_any s.a3 s.a4 x.bars x.runs s.n3 s.c3 s.n4 s.c4 W (h.h3.carry (hz.mono hB) (Nat.le_refl _)) (h.h4.carry (Flat.carried _) (hz.mono hB) (Nat.le_refl _)) (Nat.le_trans hB hz.size) hf.l3 hf.l4 hf.m3 hf.tame)
  have H3 := hide (fun (W : World) (hz : Below w.heap.size w W) => refDems_any s.a6 x.dems s.n6 s.c6 W (SlOf.carry demR_carried h.h6 (hz.mono hB) (Nat.le_refl _)) (Nat.le_trans hB hz.size) hf.l6 hf.m6 hd)
  have H4 := hide (fun (W : World) => refRule_any x.rule W)
  have HJ := fun (hok : laidOk x.bars x.runs = true) (j : JoinD) (W : World) (hz : Below w.heap.size w W) => refJoint_any x s j W (h.carry (hz.mono hB) (Nat.le_refl _)) (Nat.le_trans hB hz.size) hf hok
  have Hr := hide (detOk_ref x)
  have HL := hide h.h5
  have L5 := hide hf.l5
  have HB := hide hB
  have m5 := hf.m5
  have Hi := hide (show (Tryz.prog.info? 34).map (·.size) = some 19 by kernel_rfl)
  have K0 := hide (Blk.new w 34 (detCells x.mem x.rule s))
  have HW := hide (below_new w (.cells (detCells x.mem x.rule s) 34))
  obtain ⟨b1, hb1⟩ : ∃ b, b = memOk x.mem := ⟨_, rfl⟩
  obtain ⟨b2, hb2⟩ : ∃ b, b = laidOk x.bars x.runs := ⟨_, rfl⟩
  obtain ⟨b3, hb3⟩ : ∃ b, b = demsOk x.dems := ⟨_, rfl⟩
  obtain ⟨b4, hb4⟩ : ∃ b, b = ruleOk x.rule := ⟨_, rfl⟩
  rw [← hb1, ← hb2, ← hb3, ← hb4] at Hr
  rw [← hb1] at H1
  rw [← hb2] at H2 HJ
  rw [← hb3] at H3
  rw [← hb4] at H4
  have HJ := hide HJ
  generalize (laidAll x.bars x.runs).map mainLeg = ms at *
  generalize detOk x = res at *
  obtain ⟨mem, bars, runs, laps, dems, rule⟩ := x
  obtain ⟨a1, n1, c1, a2, n2, c2, a3, n3, c3, a4, n4, c4, a5, n5, c5, a6, n6, c6⟩ := s
  obtain ⟨name, boxes, holes, cover, agg, poker⟩ := mem
  obtain ⟨r1, r2, r3, r4, r5, r6, r7, r8, r9⟩ := rule
  simp only [detCells] at K0 HW
  simp only at H1 H2 H3 H4 HL L5 m5 Hr
  clear h hf hd hB hb1 hb2 hb3 hb4
  show Calls Tryz.prog 17 #[.agg #[.string name, .slice a1 n1 c1, .slice a2 n2 c2, .int .i64 cover, .int .i64 agg, .int .i64 poker, .slice a3 n3 c3, .slice a4 n4 c4, .slice a5 n5 c5, .slice a6 n6 c6, .int .i64 r1, .int .i64 r2, .int .i64 r3, .int .i64 r4, .int .i64 r5, .int .i64 r6, .int .i64 r7, .int .i64 r8, .int .i64 r9]] w _
  go_enter Tryz.func17, Tryz.ntmps17
  go_wp2_with fail
  refine (H1.out _ HW.out).mono ?_
  rintro e w2 ⟨rfl, hb2⟩
  have K0 := hide (K0.out.keep hb2)
  have HW := hide (below_step HW.out hb2 (Nat.le_refl _))
  clear hb2
  cases b1
  · go_wp2_with fail
    go_ret
    exact ⟨ret_bool (by rw [Hr.out]; rfl), HW.out⟩
  have e6 := K0.out.cell 6
  have e7 := K0.out.cell 7
  simp at e6 e7
  go_wp2_with fail
  refine (H2.out _ HW.out).mono ?_
  rintro e w2 ⟨rfl, hb2⟩
  have K0 := hide (K0.out.keep hb2)
  have HW := hide (below_step HW.out hb2 (Nat.le_refl _))
  clear hb2
  clear e6 e7
  cases b2
  · go_wp2_with fail
    go_ret
    exact ⟨ret_bool (by rw [Hr.out]; rfl), HW.out⟩
  have HJJ := hide (HJ.out rfl)
  clear HJ
  have e9 := K0.out.cell 9
  simp at e9
  go_wp2_with fail
  refine (H3.out _ HW.out).mono ?_
  rintro e w2 ⟨rfl, hb2⟩
  have K0 := hide (K0.out.keep hb2)
  have HW := hide (below_step HW.out hb2 (Nat.le_refl _))
  clear hb2
  clear e9
  cases b3
  · go_wp2_with fail
    go_ret
    exact ⟨ret_bool (by rw [Hr.out]; rfl), HW.out⟩
  have e10 := K0.out.cell 10
  have e11 := K0.out.cell 11
  have e12 := K0.out.cell 12
  have e13 := K0.out.cell 13
  have e14 := K0.out.cell 14
  have e15 := K0.out.cell 15
  have e16 := K0.out.cell 16
  have e17 := K0.out.cell 17
  have e18 := K0.out.cell 18
  simp at e10 e11 e12 e13 e14 e15 e16 e17 e18
  go_wp2_with fail
  refine (H4.out _).mono ?_
  rintro e w2 ⟨rfl, hb2⟩
  have K0 := hide (K0.out.keep hb2)
  have HW := hide (below_step HW.out hb2 (Nat.le_refl _))
  clear hb2
  clear e10 e11 e12 e13 e14 e15 e16 e17 e18
  cases b4
  · go_wp2_with fail
    go_ret
    exact ⟨ret_bool (by rw [Hr.out]; rfl), HW.out⟩
  have e8 := K0.out.cell 8
  simp at e8
  by_cases hlen : 1000 < n5
  · have d0 : decide (1000 < (n5 : Int)) = true := by simp; omega
    have Hr := hide (show res = false by rw [Hr.out, decide_eq_false (show ¬ laps.length ≤ 1000 by rw [← L5.out]; omega)]; rfl)
    go_wp2_with fail
    go_ret
    exact ⟨ret_bool Hr.out.symm, HW.out⟩
  have d0 : decide (1000 < (n5 : Int)) = false := by simp; omega
  have Hr := hide (show res = lapsBy ms (laps.take 0) (laps.drop 0) by rw [Hr.out, decide_eq_true (show laps.length ≤ 1000 by rw [← L5.out]; omega)] <;> rfl)
  clear hlen H1 H2 H3 H4
  go_wp2_with fail
  clear e8
  go_loopw [3] (fun iv wr => ∃ k : Nat, k ≤ n5 ∧ iv = .int .i64 k ∧ Hid (lapsBy ms (laps.take 0) (laps.drop 0) = lapsBy ms (laps.take k) (laps.drop k)) ∧ Hid (Blk wr w.heap.size 34 #[.string name, .slice a1 n1 c1, .slice a2 n2 c2, .int .i64 cover, .int .i64 agg, .int .i64 poker, .slice a3 n3 c3, .slice a4 n4 c4, .slice a5 n5 c5, .slice a6 n6 c6, .int .i64 r1, .int .i64 r2, .int .i64 r3, .int .i64 r4, .int .i64 r5, .int .i64 r6, .int .i64 r7, .int .i64 r8, .int .i64 r9]) ∧ Hid (Below w.heap.size w wr)) (fun iv _ => n5 - (intOf iv).toNat)
  case atStart => exact ⟨0, Nat.zero_le _, rfl, hide rfl, K0, HW⟩
  case round =>
    clear K0 HW
    rename World => wo
    obtain ⟨k, hk, rfl, hq, hK, hbr⟩ := hrel
    have e8 := hK.out.cell 8
    simp at e8
    have lk := hK.out.lt
    by_cases hlt : k < n5
    · obtain ⟨b, off, j, rfl, hbl, hx, g0, g1⟩ := JoinsAt.get (k := k) (HL.out.carry (Flat.carried _) (hbr.out.mono HB.out) (Nat.le_refl _)) (by rw [← L5.out]; exact hlt)
      have Hx := hide hx
      have Hq := hide (hq.out.trans (lapsBy_at hx))
      have HJj := HJJ.out j
      obtain ⟨a, ha⟩ : ∃ a, a = lapsFit ms j := ⟨_, rfl⟩
      rw [← ha] at HJj Hq
      have HJj := hide HJj
      obtain ⟨f, g⟩ := j
      simp only at g0 g1 HJj
      have hblt := hbl
      clear hx hbl hq ha
      have HQ0 := hide (HL.out.carry (Flat.carried _) (hbr.out.mono HB.out) (Nat.le_refl B))
      have hbw : b < w.heap.size := Nat.lt_of_lt_of_le hblt HB.out
      go_wp2_with fail
      refine wp_region_still_tail 6 (by kernel_rfl) (by kernel_rfl) ?_
      simp only [List.take_succ_cons, List.take_zero, List.drop_succ_cons, List.drop_zero]
      refine still_load_row rfl 34 (.tmp 1) rfl w.heap.size rfl 34 _ (0, 0) _ hK.out Tryz.underlying34 rfl Hi.out ?_
      repeat still_step
      try refine wpStill_nil ?_
      change wpList _ _ _ _ _ (World.drew wo)
      go_wp2_with fail
      refine (HJj.out _ hbr.out.drew).mono ?_
      rintro e w2 ⟨rfl, hb2⟩
      have hK2 := hide ((hK.out.drew).keep hb2)
      have hbr2 := hide (below_step hbr.out.drew hb2 (Nat.le_refl _))
      clear hb2 HJj g0 g1 e8 lk
      cases a
      · have Hr := hide (show res = false by rw [Hr.out, Hq.out]; rfl)
        go_wp2_with fail
        go_ret
        exact ⟨ret_bool Hr.out.symm, hbr2.out⟩
      go_wp2_with fail
      go_loopw [4] (fun iv wr => ∃ t : Nat, t ≤ k ∧ iv = .int .i64 t ∧ NoneTo (lapClash ⟨f, g⟩) laps t ∧ Hid (Blk wr w.heap.size 34 #[.string name, .slice a1 n1 c1, .slice a2 n2 c2, .int .i64 cover, .int .i64 agg, .int .i64 poker, .slice a3 n3 c3, .slice a4 n4 c4, .slice (some ⟨b, off, none⟩) n5 c5, .slice a6 n6 c6, .int .i64 r1, .int .i64 r2, .int .i64 r3, .int .i64 r4, .int .i64 r5, .int .i64 r6, .int .i64 r7, .int .i64 r8, .int .i64 r9]) ∧ Hid (Below w.heap.size w wr)) (fun iv _ => k - (intOf iv).toNat)
      case atStart => exact ⟨0, Nat.zero_le _, rfl, NoneTo.zero _ _, hK2, hbr2⟩
      case round =>
        clear hK hbr hK2 hbr2 HQ0
        rename World => wi
        obtain ⟨t, ht, rfl, hno, hK, hbr⟩ := hrel
        have e8 := hK.out.cell 8
        simp at e8
        have lk := hK.out.lt
        by_cases hlj : t < k
        · have HQ := HL.out.carry (Flat.carried _) (hbr.out.mono HB.out) (Nat.le_refl B)
          obtain ⟨b', off', i, hA', _, hy, f0, f1⟩ := JoinsAt.get (k := t) HQ (by rw [← L5.out]; omega)
          injection hA' with hA'
          injection hA' with z1 z2
          subst z1 z2
          obtain ⟨b', off', i', hA', _, hx', g0, g1⟩ := JoinsAt.get (k := k) HQ (by rw [← L5.out]; omega)
          injection hA' with hA'
          injection hA' with z1 z2
          subst z1 z2
          rw [Hx.out] at hx'
          injection hx' with hx'
          subst hx'
          have Hy := hide hy
          obtain ⟨p, q⟩ := i
          simp only at f0 f1 g0 g1
          clear HQ hy
          cases e1 : (p == f)
          · cases e2 : (q == g)
            · have Hc := hide (show lapClash ⟨f, g⟩ ⟨p, q⟩ = false by
                have h1 : p ≠ f := by simpa using e1
                have h2 : q ≠ g := by simpa using e2
                simp [lapClash, h1, h2])
              have Hno := hide (hno.succ Hy.out Hc.out)
              clear hno
              go_wp2_with fail
              go_quiet (fail)
              go_wp2_with fail
              go_roundw
              case rel => exact ⟨t + 1, by omega, by go_num, Hno.out, hide (hK.out.drewN _), hide (below_drewN' hbr.out _)⟩
              case measure => simp [intOf]; omega
            · have Hr := hide (show res = false by
                rw [Hr.out, Hq.out, lapNew_false hlj Hy.out (by have h2 : q = g := by simpa using e2
                                                                simp [lapClash, h2])]
                rfl)
              clear hno
              go_wp2_with fail
              go_quiet (fail)
              go_wp2_with fail
              go_ret
              exact ⟨ret_bool Hr.out.symm, below_drewN' hbr.out _⟩
          · have Hr := hide (show res = false by
              rw [Hr.out, Hq.out, lapNew_false hlj Hy.out (by have h2 : p = f := by simpa using e1
                                                              simp [lapClash, h2])]
              rfl)
            clear hno
            go_wp2_with fail
            go_quiet (fail)
            go_wp2_with fail
            go_ret
            exact ⟨ret_bool Hr.out.symm, below_drewN' hbr.out _⟩
        · obtain rfl : t = k := by omega
          have Hq2 := hide (show lapsBy ms (laps.take 0) (laps.drop 0) = lapsBy ms (laps.take (t + 1)) (laps.drop (t + 1)) by rw [Hq.out, lapNew_true hno]; rfl)
          clear hno
          go_wp2_with fail
          go_roundw
          case rel => exact ⟨t + 1, by omega, by go_num, Hq2, hK, hbr⟩
          case measure => simp [intOf]; omega
    · obtain rfl : k = n5 := by omega
      have Hr := hide (show res = true by rw [Hr.out, hq.out, List.drop_of_length_le (by rw [← L5.out]; exact Nat.le_refl _)]; rfl)
      go_wp2_with fail
      go_ret
      exact ⟨ret_bool Hr.out.symm, hbr.out⟩
end Go.Proofs.YtpmipoljnchheaaGreat
namespace Go.Proofs.YtpmipoljnchheaaGreat
open Go.RowKit

/-- A point is in the grid. -/
def InGrid (g : GridD) (p : Pt) : Prop := (g.lo.1 ≤ p.1 ∧ p.1 < g.lo.1 + g.cols * g.scale) ∧ (g.lo.2.1 ≤ p.2.1 ∧ p.2.1 < g.lo.2.1 + g.rows * g.scale)
instance (g : GridD) (p : Pt) : Decidable (InGrid g p) := by unfold InGrid; infer_instance
def cellRow (g : GridD) (p : Pt) : Int := (p.2.1 - g.lo.2.1) / g.scale
def cellCol (g : GridD) (p : Pt) : Int := (p.1 - g.lo.1) / g.scale
theorem div_cell {a s n : Int} (hs : 1 ≤ s) (h0 : 0 ≤ a) (h1 : a < n * s) : (0 ≤ a / s ∧ a / s < n) ∧ (a / s * s ≤ a ∧ a < a / s * s + s) := by
  refine ⟨⟨Int.ediv_nonneg h0 (by omega), (Int.ediv_lt_iff_lt_mul (by omega)).2 h1⟩, Int.ediv_mul_le a (by omega), ?_⟩
  have := Int.lt_ediv_add_one_mul_self a (show 0 < s by omega)
  rw [Int.add_mul, Int.one_mul] at this
  exact this
theorem cell_range {g : GridD} {p : Pt} (hs : 1 ≤ g.scale) (h : InGrid g p) : (0 ≤ cellRow g p ∧ cellRow g p < g.rows) ∧ (0 ≤ cellCol g p ∧ cellCol g p < g.cols) := by
  obtain ⟨⟨a, b⟩, c, d⟩ := h
  exact ⟨(div_cell hs (by omega) (by omega)).1, (div_cell hs (by omega) (by omega)).1⟩
theorem leg_mem : ∀ (l : List Pt) (b : BoxD), b ∈ legsOfPts l → b.lo.1 ≤ b.hi.1 ∧ b.lo.2.1 ≤ b.hi.2.1 := by
  intro l
  induction l with
  | nil => intro b h; simp [legsOfPts] at h
  | cons p l ih =>
    intro b h
    cases l with
    | nil => simp [legsOfPts] at h
    | cons q r =>
      rw [legsOfPts] at h
      rcases List.mem_cons.1 h with rfl | h
      · simp only [legBox, minP, maxP]
        omega
      · exact ih b h
theorem hit_end {g : GridD} {b : BoxD} {p : Pt} (hs : 1 ≤ g.scale) (hb : b.lo.1 ≤ b.hi.1 ∧ b.lo.2.1 ≤ b.hi.2.1) (hp : p = b.lo ∨ p = b.hi) (h : InGrid g p) : cellHit g (cellRow g p) (cellCol g p) b = true := by
  obtain ⟨⟨a1, a2⟩, a3, a4⟩ := h
  have h1 := (div_cell (a := p.1 - g.lo.1) (n := g.cols) hs (by omega) (by omega)).2
  have h2 := (div_cell (a := p.2.1 - g.lo.2.1) (n := g.rows) hs (by omega) (by omega)).2
  simp only [cellHit, Bool.and_eq_true, decide_eq_true_eq]
  unfold cellRow cellCol
  generalize (p.1 - g.lo.1) / g.scale * g.scale = q1 at h1 ⊢
  generalize (p.2.1 - g.lo.2.1) / g.scale * g.scale = q2 at h2 ⊢
  rcases hp with hp | hp <;> rw [hp] at h1 h2 a1 a2 a3 a4 <;> refine ⟨⟨⟨?_, ?_⟩, ?_⟩, ?_⟩ <;> omega
theorem rod_of {bars : List BarD} {runs : List RunD} {i : Nat} {ld : LaidD} {b : BoxD} (h : (laidAll bars runs)[i]? = some ld) (hb : b ∈ legsOfPts ld.pts) : (⟨b, idx (markIs ld.bar.mark) bars⟩ : RodD) ∈ rodsOf bars runs := by
  simp only [rodsOf, List.mem_flatMap]
  exact ⟨ld, mem_of_get h, List.mem_map.2 ⟨b, hb, rfl⟩⟩
theorem barMark_idx {bars : List BarD} {m : ByteArray} (h : 0 ≤ idx (markIs m) bars) : barMark bars (idx (markIs m) bars) = m := by
  obtain ⟨j, hj⟩ := Int.eq_ofNat_of_zero_le h
  obtain ⟨x, hx, hp, _⟩ := idx_spec hj
  rw [hj, barMark, Int.toNat_natCast, hx]
  exact (markIs_eq hp).symm
/-- An end of a leg that is in a cell is seen there. -/
theorem end_seen {x : DetD} {s : Int} (h : planErr x s = 0) {i : Nat} {ld : LaidD} {b : BoxD} {p : Pt} (hi : (laidAll x.bars x.runs)[i]? = some ld) (hb : b ∈ legsOfPts ld.pts) (hp : p = b.lo ∨ p = b.hi) (hin : InGrid (gridOf x s) p) :
    ld.bar.mark ∈ marksAt x s (cellRow (gridOf x s) p) (cellCol (gridOf x s) p) := by
  have hpf := plan_facts h
  have hr := rods_lines hpf.laid _ (rod_of hi hb)
  simp only at hr
  refine List.mem_map.2 ⟨idx (markIs ld.bar.mark) x.bars, mem_seenOf.2 ⟨hr, ?_⟩, barMark_idx hr.1⟩
  refine List.mem_map.2 ⟨_, List.mem_filter.2 ⟨rod_of hi hb, ?_⟩, rfl⟩
  exact hit_end hpf.sc.1 (leg_mem _ _ hb) hp hin
def runIs (m : ByteArray) (r : RunD) : Bool := r.mark.toList == m.toList
/-- A mark that is seen has a run. -/
theorem seen_run {x : DetD} {s row col : Int} (h : planErr x s = 0) {m : ByteArray} (hm : m ∈ marksAt x s row col) : x.runs.any (runIs m) = true := by
  have hpf := plan_facts h
  obtain ⟨k, hk, rfl⟩ := List.mem_map.1 hm
  obtain ⟨_, hk⟩ := mem_seenOf.1 hk
  obtain ⟨r, hr, rfl⟩ := List.mem_map.1 hk
  have hr := (List.mem_filter.1 hr).1
  have hln := (rods_lines hpf.laid r hr).1
  simp only [rodsOf, List.mem_flatMap] at hr
  obtain ⟨l, hl, hr⟩ := hr
  simp only [rodsOfBar, List.mem_map] at hr
  obtain ⟨b, _, rfl⟩ := hr
  simp only at hln ⊢
  rw [barMark_idx hln]
  simp only [laidAll, List.mem_flatMap] at hl
  obtain ⟨u, hu, hl⟩ := hl
  obtain ⟨j, y, hj, hy, hyb, _⟩ := runOk_bar ((laidOk_mem hpf.laid).2.2 u hu)
  rw [laidRun_of hyb] at hl
  simp only [laidTo, List.mem_map] at hl
  obtain ⟨q, _, rfl⟩ := hl
  obtain ⟨z, hz, hzm, _⟩ := idx_spec hj
  rw [hy] at hz
  injection hz with hz
  subst hz
  refine List.any_eq_true.2 ⟨u, hu, ?_⟩
  rw [runIs, ← markIs_eq hzm]
  exact beq_self_eq_true _
theorem legs_some {code : Int} (h : dimsE code = 0) : 1 ≤ (legsOf code).length := by
  cases hl : legsOf code with
  | nil => simp [dimsE, dimsN, hl] at h
  | cons a l => simp
theorem laid_legs {bars : List BarD} {runs : List RunD} {i : Nat} {l : LaidD} (hok : laidOk bars runs = true) (h : (laidAll bars runs)[i]? = some l) : 1 ≤ (legsOfPts l.pts).length ∧ (legsOfPts l.pts).length ≤ 6 := by
  refine ⟨?_, by have := (laid_near runs i l (laidOk_mem hok).2.2 h).2.2; rw [legsOfPts_len]; omega⟩
  have hl := mem_of_get h
  simp only [laidAll, List.mem_flatMap] at hl
  obtain ⟨u, hu, hl⟩ := hl
  obtain ⟨j, y, hj, hy, hyb, _⟩ := runOk_bar ((laidOk_mem hok).2.2 u hu)
  rw [laidRun_of hyb] at hl
  simp only [laidTo, List.mem_map] at hl
  obtain ⟨q, _, rfl⟩ := hl
  have hb := (laidOk_mem hok).1 y (mem_of_get hy)
  simp only [barOk, Bool.and_eq_true, decide_eq_true_eq] at hb
  have := legs_some hb.1.1.1.1.1.1
  rw [legsOfPts_len]
  simp only [ptsOf, List.length_map, pathOf_len]
  omega
end Go.Proofs.YtpmipoljnchheaaGreat
namespace Go.Proofs.YtpmipoljnchheaaGreat
open Go.RowKit

def cellTuple (g : GridD) (p : Pt) : Array Value := if InGrid g p then #[.int .i64 (cellRow g p), .int .i64 (cellCol g p), .int .i64 0] else #[.int .i64 0, .int .i64 0, .int .i64 12]
theorem end_range {n s : Int} (hs : 1 ≤ s ∧ s ≤ 1048576) (hn : 1 ≤ n) (h : ∀ k, 0 ≤ k → k < n → 0 ≤ k * s ∧ k * s ≤ 8388608) : 0 ≤ n * s ∧ n * s ≤ 9437184 := by
  have h1 := h (n - 1) (by omega) (by omega)
  rw [Int.sub_mul, Int.one_mul] at h1
  omega
set_option maxHeartbeats 4000000 in
set_option maxRecDepth 100000 in
theorem planCell_ok (x : DetD) (s : DetS) (sc : Int) (p : Pt) (w : World) {B : Nat} (h : DetAt w B x s) (hB : B ≤ w.heap.size) (hf : DetFit x s) (he : planErr x sc = 0) :
    Calls Tryz.prog 15 #[detV x s, .int .i64 sc, .agg #[.int .i64 p.1, .int .i64 p.2.1, .int .i64 p.2.2]] w fun e w' => e = .returned (.tuple (cellTuple (gridOf x sc) p)) ∧ Below w.heap.size w w' := by
  have hpf := plan_facts he
  have hM := fun (W : World) (hz : Below w.heap.size w W) => made_any x s sc W (h.carry (hz.mono hB) (Nat.le_refl _)) (Nat.le_trans hB hz.size) hf
  rw [plan_ok he, he] at hM
  have HM := hide hM
  obtain ⟨p1, p2, p3⟩ := p
  have Hi := hide (show (Tryz.prog.info? 34).map (·.size) = some 19 by kernel_rfl)
  have K0 := hide ((Blk.new w 34 (detCells x.mem x.rule s)).alloc (.cells #[.int .i64 p1, .int .i64 p2, .int .i64 p3] 44))
  have KP := hide (Blk.new1 w (.cells (detCells x.mem x.rule s) 34) 44 #[.int .i64 p1, .int .i64 p2, .int .i64 p3])
  have HW := hide ((below_new w (.cells (detCells x.mem x.rule s) 34)).alloc (by simp) (.cells #[.int .i64 p1, .int .i64 p2, .int .i64 p3] 44))
  have hr := end_range hpf.sc hpf.rows.1 hpf.row
  have hc := end_range hpf.sc hpf.cols.1 hpf.col
  have hlo := nearBy_iff.1 hpf.lo
  obtain ⟨hs0, hs1⟩ := hpf.sc
  have Hres := hide (show cellTuple (gridOf x sc) (p1, p2, p3) = if (((gridOf x sc).lo.1 ≤ p1 ∧ p1 < (gridOf x sc).lo.1 + (gridOf x sc).cols * sc) ∧ ((gridOf x sc).lo.2.1 ≤ p2 ∧ p2 < (gridOf x sc).lo.2.1 + (gridOf x sc).rows * sc)) then #[.int .i64 ((p2 - (gridOf x sc).lo.2.1) / sc), .int .i64 ((p1 - (gridOf x sc).lo.1) / sc), .int .i64 0] else #[.int .i64 0, .int .i64 0, .int .i64 12] from rfl)
  obtain ⟨res, hres⟩ : ∃ r, r = cellTuple (gridOf x sc) (p1, p2, p3) := ⟨_, rfl⟩
  rw [← hres] at Hres ⊢
  clear hres hpf hM he
  generalize gridOf x sc = g at *
  obtain ⟨⟨g1, g2, g3⟩, g4, g5, g6⟩ := g
  simp only at hr hc hlo Hres
  obtain ⟨mem, bars, runs, laps, dems, rule⟩ := x
  obtain ⟨a1, n1, c1, a2, n2, c2, a3, n3, c3, a4, n4, c4, a5, n5, c5, a6, n6, c6⟩ := s
  obtain ⟨name, boxes, holes, cover, agg, poker⟩ := mem
  obtain ⟨r1, r2, r3, r4, r5, r6, r7, r8, r9⟩ := rule
  simp only [detCells] at K0 KP HW
  clear h hf
  have z1 : IntKind.i64.wrap (g6 * sc) = g6 * sc := IntWalk.i64_in _ (by omega)
  have z2 : IntKind.i64.wrap (g5 * sc) = g5 * sc := IntWalk.i64_in _ (by omega)
  obtain ⟨q6, hq6⟩ : ∃ q, q = g6 * sc := ⟨_, rfl⟩
  obtain ⟨q5, hq5⟩ : ∃ q, q = g5 * sc := ⟨_, rfl⟩
  rw [← hq6] at z1 hc Hres
  rw [← hq5] at z2 hr Hres
  have Hq6 := hide hq6.symm
  have Hq5 := hide hq5.symm
  have z3 : IntKind.i64.wrap (g1 + q6) = g1 + q6 := IntWalk.i64_in _ (by omega)
  have z4 : IntKind.i64.wrap (g2 + q5) = g2 + q5 := IntWalk.i64_in _ (by omega)
  have m6 : g6 * sc = q6 := Hq6.out
  have m5 : g5 * sc = q5 := Hq5.out
  clear hq5 hq6
  have hways : decide (p1 < g1) = true ∨ (decide (p1 < g1) = false ∧ decide (g1 + q6 ≤ p1) = true) ∨ (decide (p1 < g1) = false ∧ decide (g1 + q6 ≤ p1) = false ∧ decide (p2 < g2) = true) ∨ (decide (p1 < g1) = false ∧ decide (g1 + q6 ≤ p1) = false ∧ decide (p2 < g2) = false ∧ decide (g2 + q5 ≤ p2) = true) ∨ (decide (p1 < g1) = false ∧ decide (g1 + q6 ≤ p1) = false ∧ decide (p2 < g2) = false ∧ decide (g2 + q5 ≤ p2) = false) := by
    cases decide (p1 < g1) <;> cases decide (g1 + q6 ≤ p1) <;> cases decide (p2 < g2) <;> cases decide (g2 + q5 ≤ p2) <;> simp
  show Calls Tryz.prog 15 #[.agg #[.string name, .slice a1 n1 c1, .slice a2 n2 c2, .int .i64 cover, .int .i64 agg, .int .i64 poker, .slice a3 n3 c3, .slice a4 n4 c4, .slice a5 n5 c5, .slice a6 n6 c6, .int .i64 r1, .int .i64 r2, .int .i64 r3, .int .i64 r4, .int .i64 r5, .int .i64 r6, .int .i64 r7, .int .i64 r8, .int .i64 r9], .int .i64 sc, .agg #[.int .i64 p1, .int .i64 p2, .int .i64 p3]] w _
  go_enter Tryz.func15, Tryz.ntmps15
  go_wp2_with (refine wpList_load_row rfl 34 (.tmp 3) rfl w.heap.size rfl 34 _ (0, 0) _ K0.out Tryz.underlying34 rfl Hi.out ?_)
  refine (HM.out _ HW.out).mono ?_
  rintro e w2 ⟨rfl, hb2⟩
  have KP := hide (KP.out.keep hb2)
  have HW2 := hide (below_step HW.out hb2 (Nat.le_refl _))
  have KG := hide (Blk.new w2 84 #[.int .i64 g1, .int .i64 g2, .int .i64 g3, .int .i64 g4, .int .i64 g5, .int .i64 g6])
  have KP := hide (KP.out.alloc (.cells #[.int .i64 g1, .int .i64 g2, .int .i64 g3, .int .i64 g4, .int .i64 g5, .int .i64 g6] 84))
  have HW3 := hide (HW2.out.alloc HW2.out.size (.cells #[.int .i64 g1, .int .i64 g2, .int .i64 g3, .int .i64 g4, .int .i64 g5, .int .i64 g6] 84))
  have k0 := KG.out.cell 0
  have k1 := KG.out.cell 1
  have k4 := KG.out.cell 4
  have k5 := KG.out.cell 5
  have e0 := KP.out.cell 0
  have e1 := KP.out.cell 1
  simp at k0 k1 k4 k5 e0 e1
  have lg := KG.out.lt
  have lp := KP.out.lt
  clear hb2 HM K0 HW HW2 Hi
  rcases hways with q0 | ⟨q0, q1⟩ | ⟨q0, q1, q2⟩ | ⟨q0, q1, q2, q3⟩ | ⟨q0, q1, q2, q3⟩
  · have Hr := hide (show res = #[.int .i64 0, .int .i64 0, .int .i64 12] by rw [Hres.out, if_neg (by simp only [decide_eq_true_eq] at q0; omega)])
    clear Hres
    go_wp2_with fail
    go_ret3
    refine ⟨?_, HW3.out⟩
    rw [Hr.out]
    rfl
  · have Hr := hide (show res = #[.int .i64 0, .int .i64 0, .int .i64 12] by rw [Hres.out, if_neg (by simp only [decide_eq_true_eq] at q1; omega)])
    clear Hres
    go_wp2_with fail
    go_ret3
    refine ⟨?_, HW3.out⟩
    rw [Hr.out]
    rfl
  · have Hr := hide (show res = #[.int .i64 0, .int .i64 0, .int .i64 12] by rw [Hres.out, if_neg (by simp only [decide_eq_true_eq] at q2; omega)])
    clear Hres
    go_wp2_with fail
    go_ret3
    refine ⟨?_, HW3.out⟩
    rw [Hr.out]
    rfl
  · have Hr := hide (show res = #[.int .i64 0, .int .i64 0, .int .i64 12] by rw [Hres.out, if_neg (by simp only [decide_eq_true_eq] at q3; omega)])
    clear Hres
    go_wp2_with fail
    go_ret3
    refine ⟨?_, HW3.out⟩
    rw [Hr.out]
    rfl
  · have o0 : g1 ≤ p1 := by simp only [decide_eq_false_iff_not] at q0; omega
    have o1 : p1 < g1 + q6 := by simp only [decide_eq_false_iff_not] at q1; omega
    have o2 : g2 ≤ p2 := by simp only [decide_eq_false_iff_not] at q2; omega
    have o3 : p2 < g2 + q5 := by simp only [decide_eq_false_iff_not] at q3; omega
    have Hr := hide (show res = #[.int .i64 ((p2 - g2) / sc), .int .i64 ((p1 - g1) / sc), .int .i64 0] by rw [Hres.out, if_pos ⟨⟨o0, o1⟩, o2, o3⟩])
    have y1 : IntKind.i64.wrap (p1 - g1) = p1 - g1 := IntWalk.i64_in _ (by omega)
    have y2 : IntKind.i64.wrap (p2 - g2) = p2 - g2 := IntWalk.i64_in _ (by omega)
    have u1 : 0 ≤ p1 - g1 ∧ p1 - g1 ≤ 9437184 := by omega
    have u2 : 0 ≤ p2 - g2 ∧ p2 - g2 ≤ 9437184 := by omega
    clear Hres o0 o1 o2 o3
    go_wp2_with fail
    go_quiet (fail)
    go_wp2_with fail
    go_ret3
    refine ⟨?_, below_drewN' HW3.out _⟩
    rw [Hr.out]
    rfl
end Go.Proofs.YtpmipoljnchheaaGreat
