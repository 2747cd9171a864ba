/- The reference of layer 25: laps; whether a detail is valid. -/
import Derived.Test.YtmcjpdlkkpnhfaaGreatQbj
import Derived.Test.YtmcjpdlkkpnhfaaGreatQbf
import Derived.Test.YtmcjpdlkkpnhfaaGreatQbh
import Derived.StillTailTactics
namespace Go.Proofs.YtmcjpdlkkpnhfaaGreat
open Go.RowKit

theorem still_load_row {P : Program} {ops : Array Oper} {rest : List Oper} {o : Oper} {a : Act} {w : World} {Q : Act → Prop} (hgd : o.guard = none) (ty : TypeId) (x : Operand) (ho : o.op = .load ty x)
    (g : Nat) (hx : a.eval x = .pointer (some ⟨g, 0, none⟩)) (t : TypeId) (cs : Array Value) (fr : Nat × Nat) (d : TypeDesc) (hg : w.heap[g]? = some (.cells cs t fr))
    (hu : P.underlying ty = some d) (hd : (match d with | .struct _ | .array _ _ => true | _ => false) = true) (hi : (P.info? ty).map (·.size) = some cs.size)
    (h : wpStill P ops w Q rest (a.put o.dst (.agg cs))) : wpStill P ops w Q (o :: rest) a := by
  have hw : Region.wanted o (yielded ops a.tmps) = true := by simp [Region.wanted, hgd]
  show if _ then _ else _
  rw [if_pos hw]
  unfold Oper.still execOp
  simp only [ho, hx, Instr.loadAt, Instr.sureAddr, Sem.run_bind, Sem.run_pure, Result.andThen_ok, run_loadVar_row w g t ty cs fr d hg hu hd hi, Oper.stillUpon]
  exact ⟨trivial, h⟩
def legI (o : Option BoxD) : BoxD := o.getD ⟨(0, 0, 0), (0, 0, 0)⟩
theorem mainT_eq (o : Option BoxD) : mainT o = #[bxV (legI o), .bool o.isSome] := by cases o <;> rfl
def lapLegs (a b : Option BoxD) : Bool := a.isSome && (b.isSome && (decide ((legI a).lo.1 < (legI b).lo.1) && (decide ((legI a).hi.1 < (legI b).hi.1) && decide ((legI b).lo.1 ≤ (legI a).hi.1))))
theorem lapsFit_in {ms : List (Option BoxD)} {j : JoinD} {p q : Nat} (hp : j.first = p) (hq : j.second = q) {a b : Option BoxD} (ha : ms[p]? = some a) (hb : ms[q]? = some b) : lapsFit ms j = lapLegs a b := by
  have h1 := lt_of_get ha
  have h2 := lt_of_get hb
  rw [lapsFit, hp, hq, decide_eq_true (show (0 : Int) ≤ (p : Int) by omega), decide_eq_true (show (0 : Int) ≤ (q : Int) by omega), decide_eq_true (show (p : Int) < (ms.length : Nat) by omega), decide_eq_true (show (q : Int) < (ms.length : Nat) by omega)]
  simp only [Int.toNat_natCast, List.getD_eq_getElem?_getD, ha, hb, Option.getD_some]
  cases a <;> cases b <;> simp [lapLegs, legI, Bool.and_assoc] <;> rfl
theorem lapsFit_out {ms : List (Option BoxD)} {j : JoinD} (h : j.first < 0 ∨ (ms.length : Int) ≤ j.first ∨ j.second < 0 ∨ (ms.length : Int) ≤ j.second) : lapsFit ms j = false := by
  rw [lapsFit]
  rcases h with h | h | h | h
  · rw [decide_eq_false (show ¬ (0 : Int) ≤ j.first by omega)]; simp
  · rw [decide_eq_false (show ¬ j.first < (ms.length : Nat) by omega)]; simp
  · rw [decide_eq_false (show ¬ (0 : Int) ≤ j.second by omega)]; simp
  · rw [decide_eq_false (show ¬ j.second < (ms.length : Nat) by omega)]; simp
set_option maxHeartbeats 4000000 in
theorem refCount25_ok (x : DetD) (s : DetS) (w : World) {B : Nat} (h : DetAt w B x s) (hB : B ≤ w.heap.size) (hf : DetFit x s) (hok : laidOk x.bars x.runs = true) :
    Calls Tryz.prog 102 #[detV x s] w fun e w' => e = .returned (.int .i64 (countRuns x.runs)) ∧ Below w.heap.size w w' := by
  obtain ⟨_, hlen, hruns⟩ := laidOk_mem hok
  have l4 := hf.l4
  have HC := hide (fun (W : World) (hz : Below w.heap.size w W) => count16_any s.a4 x.runs s.n4 s.c4 W (h.h4.carry (Flat.carried _) (hz.mono hB) (Nat.le_refl _)) (Nat.le_trans hB hz.size) hf.l4 (by omega) (fun r hr => runOk_count (hruns r hr)))
  have K0 := hide (Blk.new w 34 (detCells x.mem x.rule s))
  have HW := hide (below_new w (.cells (detCells x.mem x.rule s) 34))
  generalize countRuns x.runs = t at *
  obtain ⟨mem, bars, runs, laps, dems, rule⟩ := x
  obtain ⟨a1, n1, c1, a2, n2, c2, a3, n3, c3, a4, n4, c4, a5, n5, c5, a6, n6, c6⟩ := s
  obtain ⟨name, boxes, holes, cover, agg, poker⟩ := mem
  obtain ⟨r1, r2, r3, r4, r5, r6, r7, r8, r9⟩ := rule
  simp only [detCells] at K0 HW
  simp only at HC
  have e7 := K0.out.cell 7
  simp at e7
  have lk := K0.out.lt
  clear h hf hB hok hruns hlen l4
  show Calls Tryz.prog 102 #[.agg #[.string name, .slice a1 n1 c1, .slice a2 n2 c2, .int .i64 cover, .int .i64 agg, .int .i64 poker, .slice a3 n3 c3, .slice a4 n4 c4, .slice a5 n5 c5, .slice a6 n6 c6, .int .i64 r1, .int .i64 r2, .int .i64 r3, .int .i64 r4, .int .i64 r5, .int .i64 r6, .int .i64 r7, .int .i64 r8, .int .i64 r9]] w _
  go_enter Tryz.func102, Tryz.ntmps102
  go_wp2_with fail
  refine (HC.out _ HW.out).mono ?_
  rintro e w2 ⟨rfl, hb2⟩
  have HW2 := hide (below_step HW.out hb2 (Nat.le_refl _))
  clear hb2 HC HW K0 e7
  go_wp2_with fail
  go_ret
  exact ⟨rfl, HW2.out⟩
set_option maxHeartbeats 8000000 in
set_option maxRecDepth 100000 in
theorem refJoint_any (x : DetD) (s : DetS) (j : JoinD) (w : World) {B : Nat} (h : DetAt w B x s) (hB : B ≤ w.heap.size) (hf : DetFit x s) (hok : laidOk x.bars x.runs = true) :
    Calls Tryz.prog 69 #[detV x s, .agg #[.int .i64 j.first, .int .i64 j.second]] w fun e w' => e = .returned (.bool (lapsFit ((laidAll x.bars x.runs).map mainLeg) j)) ∧ Below w.heap.size w w' := by
  have HC := hide (fun (W : World) (hz : Below w.heap.size w W) => refCount25_ok x s W (h.carry (hz.mono hB) (Nat.le_refl _)) (Nat.le_trans hB hz.size) hf hok)
  have HM := hide (fun (i : Nat) (ld : LaidD) (hi : (laidAll x.bars x.runs)[i]? = some ld) (W : World) (hz : Below w.heap.size w W) => refMain25_ok x s i ld W (h.carry (hz.mono hB) (Nat.le_refl _)) (Nat.le_trans hB hz.size) hf hok hi)
  have hcl := (laidOk_len hok).1
  have hcl2 := (laidOk_len hok).2
  have Hi := hide (show (Tryz.prog.info? 34).map (·.size) = some 19 by kernel_rfl)
  have K0 := hide ((Blk.new w 34 (detCells x.mem x.rule s)).alloc (.cells #[.int .i64 j.first, .int .i64 j.second] 133))
  have KJ := hide (Blk.new1 w (.cells (detCells x.mem x.rule s) 34) 133 #[.int .i64 j.first, .int .i64 j.second])
  have HW := hide (below_new2 w (.cells (detCells x.mem x.rule s) 34) (.cells #[.int .i64 j.first, .int .i64 j.second] 133))
  have Hin := hide (fun (p q : Nat) (la lb : LaidD) (hp : j.first = p) (hq : j.second = q) (ha : (laidAll x.bars x.runs)[p]? = some la) (hb : (laidAll x.bars x.runs)[q]? = some lb) => lapsFit_in (ms := (laidAll x.bars x.runs).map mainLeg) hp hq (a := mainLeg la) (b := mainLeg lb) (by simp [ha]) (by simp [hb]))
  have Hout := hide (fun (hh : j.first < 0 ∨ countRuns x.runs ≤ j.first ∨ j.second < 0 ∨ countRuns x.runs ≤ j.second) => lapsFit_out (ms := (laidAll x.bars x.runs).map mainLeg) (j := j) (by rw [List.length_map, hcl]; exact hh))
  generalize laidAll x.bars x.runs = LA at *
  obtain ⟨res, hres⟩ : ∃ res, res = lapsFit (LA.map mainLeg) j := ⟨_, rfl⟩
  rw [← hres] at Hin Hout ⊢
  generalize countRuns x.runs = t at *
  obtain ⟨f, g⟩ := j
  obtain ⟨mem, bars, runs, laps, dems, rule⟩ := x
  obtain ⟨a1, n1, c1, a2, n2, c2, a3, n3, c3, a4, n4, c4, a5, n5, c5, a6, n6, c6⟩ := s
  obtain ⟨name, boxes, holes, cover, agg, poker⟩ := mem
  obtain ⟨r1, r2, r3, r4, r5, r6, r7, r8, r9⟩ := rule
  simp only [detCells] at K0 KJ HW
  simp only at Hin Hout
  clear h hf hB hok hres
  show Calls Tryz.prog 69 #[.agg #[.string name, .slice a1 n1 c1, .slice a2 n2 c2, .int .i64 cover, .int .i64 agg, .int .i64 poker, .slice a3 n3 c3, .slice a4 n4 c4, .slice a5 n5 c5, .slice a6 n6 c6, .int .i64 r1, .int .i64 r2, .int .i64 r3, .int .i64 r4, .int .i64 r5, .int .i64 r6, .int .i64 r7, .int .i64 r8, .int .i64 r9], .agg #[.int .i64 f, .int .i64 g]] w _
  go_enter Tryz.func69, Tryz.ntmps69
  go_wp2_with (refine wpList_load_row rfl 34 (.tmp 2) rfl w.heap.size rfl 34 _ (0, 0) _ K0.out Tryz.underlying34 rfl Hi.out ?_)
  refine (HC.out _ HW.out).mono ?_
  rintro e w2 ⟨rfl, hb2⟩
  have K2 := hide (K0.out.keep hb2)
  have J2 := hide (KJ.out.keep hb2)
  have HW2 := hide (below_step HW.out hb2 (Nat.le_refl _))
  clear hb2 HC HW K0 KJ
  have e0 := J2.out.cell 0
  have e1 := J2.out.cell 1
  simp at e0 e1
  have lj := J2.out.lt
  have hways : decide (f < 0) = true ∨ (decide (f < 0) = false ∧ decide (t ≤ f) = true) ∨ (decide (f < 0) = false ∧ decide (t ≤ f) = false ∧ decide (g < 0) = true) ∨ (decide (f < 0) = false ∧ decide (t ≤ f) = false ∧ decide (g < 0) = false ∧ decide (t ≤ g) = true) ∨ (decide (f < 0) = false ∧ decide (t ≤ f) = false ∧ decide (g < 0) = false ∧ decide (t ≤ g) = false) := by
    cases decide (f < 0) <;> cases decide (t ≤ f) <;> cases decide (g < 0) <;> cases decide (t ≤ g) <;> simp
  rcases hways with q0 | ⟨q0, q1⟩ | ⟨q0, q1, q2⟩ | ⟨q0, q1, q2, q3⟩ | ⟨q0, q1, q2, q3⟩
  · have Hr := hide (Hout.out (.inl (by simpa using q0)))
    clear Hin Hout HM hcl hcl2
    go_wp2_with fail
    go_ret
    exact ⟨ret_bool Hr.out.symm, HW2.out⟩
  · have Hr := hide (Hout.out (.inr (.inl (by simpa using q1))))
    clear Hin Hout HM hcl hcl2
    go_wp2_with fail
    go_ret
    exact ⟨ret_bool Hr.out.symm, HW2.out⟩
  · have Hr := hide (Hout.out (.inr (.inr (.inl (by simpa using q2)))))
    clear Hin Hout HM hcl hcl2
    go_wp2_with fail
    go_ret
    exact ⟨ret_bool Hr.out.symm, HW2.out⟩
  · have Hr := hide (Hout.out (.inr (.inr (.inr (by simpa using q3)))))
    clear Hin Hout HM hcl hcl2
    go_wp2_with fail
    go_ret
    exact ⟨ret_bool Hr.out.symm, HW2.out⟩
  have f0 : 0 ≤ f := by simpa using q0
  have f1 : f < t := by simpa using q1
  have g0 : 0 ≤ g := by simpa using q2
  have g1 : g < t := by simpa using q3
  obtain ⟨p, rfl⟩ := Int.eq_ofNat_of_zero_le f0
  obtain ⟨q, rfl⟩ := Int.eq_ofNat_of_zero_le g0
  obtain ⟨la, hla⟩ : ∃ la, LA[p]? = some la := ⟨_, List.getElem?_eq_getElem (by omega)⟩
  obtain ⟨lb, hlb⟩ : ∃ lb, LA[q]? = some lb := ⟨_, List.getElem?_eq_getElem (by omega)⟩
  have Hr := Hin.out p q la lb rfl rfl hla hlb
  have HMa := HM.out p la hla
  have HMb := HM.out q lb hlb
  rw [mainT_eq] at HMa HMb
  unfold lapLegs at Hr
  generalize (mainLeg la).isSome = ta at *
  generalize (mainLeg lb).isSome = tb at *
  generalize legI (mainLeg la) = A at *
  generalize legI (mainLeg lb) = C at *
  obtain ⟨⟨A1, A2, A3⟩, A4, A5, A6⟩ := A
  obtain ⟨⟨C1, C2, C3⟩, C4, C5, C6⟩ := C
  simp only [bxV] at HMa HMb Hr
  have Hr := hide Hr
  have HMa := hide HMa
  have HMb := hide HMb
  have K0 := K2
  have KJ := J2
  clear Hin Hout HM hcl hcl2 hla hlb f0 f1 g0 g1 K2 J2
  go_wp2_with (refine wpList_load_row rfl 34 (.tmp 2) rfl w.heap.size rfl 34 _ (0, 0) _ K0.out Tryz.underlying34 rfl Hi.out ?_)
  refine (HMa.out _ HW2.out).mono ?_
  rintro e w3 ⟨rfl, hb3⟩
  have K0 := hide ((K0.out.keep hb3).alloc (.cells #[.int .i64 A1, .int .i64 A2, .int .i64 A3, .int .i64 A4, .int .i64 A5, .int .i64 A6] 63))
  have KJ := hide ((KJ.out.keep hb3).alloc (.cells #[.int .i64 A1, .int .i64 A2, .int .i64 A3, .int .i64 A4, .int .i64 A5, .int .i64 A6] 63))
  have KA := hide (Blk.new w3 63 #[.int .i64 A1, .int .i64 A2, .int .i64 A3, .int .i64 A4, .int .i64 A5, .int .i64 A6])
  have HW3' := below_step HW2.out hb3 (Nat.le_refl _)
  have HW3 := hide (HW3'.alloc HW3'.size (.cells #[.int .i64 A1, .int .i64 A2, .int .i64 A3, .int .i64 A4, .int .i64 A5, .int .i64 A6] 63))
  clear hb3 HMa HW2 HW3' e0 e1 lj
  have e1 := KJ.out.cell 1
  simp at e1
  have lj := KJ.out.lt
  go_wp2_with (refine wpList_load_row rfl 34 (.tmp 2) rfl w.heap.size rfl 34 _ (0, 0) _ K0.out Tryz.underlying34 rfl Hi.out ?_)
  refine (HMb.out _ HW3.out).mono ?_
  rintro e w4 ⟨rfl, hb4⟩
  have KA := hide ((KA.out.keep hb4).alloc (.cells #[.int .i64 C1, .int .i64 C2, .int .i64 C3, .int .i64 C4, .int .i64 C5, .int .i64 C6] 63))
  have KC := hide (Blk.new w4 63 #[.int .i64 C1, .int .i64 C2, .int .i64 C3, .int .i64 C4, .int .i64 C5, .int .i64 C6])
  have HW4' := below_step HW3.out hb4 (Nat.le_refl _)
  have HW4 := hide (HW4'.alloc HW4'.size (.cells #[.int .i64 C1, .int .i64 C2, .int .i64 C3, .int .i64 C4, .int .i64 C5, .int .i64 C6] 63))
  clear hb4 HMb HW3 HW4' e1 lj K0 KJ Hi
  have u0 := KA.out.cell 0
  have u3 := KA.out.cell 3
  have v0 := KC.out.cell 0
  simp at u0 u3 v0
  have v3 := KC.out.cell 3
  simp at v3
  have la' := KA.out.lt
  have lc' := KC.out.lt
  cases ta
  · go_wp2_with fail
    go_ret
    exact ⟨ret_bool (by rw [Hr.out]; rfl), HW4.out⟩
  cases tb
  · go_wp2_with fail
    go_ret
    exact ⟨ret_bool (by rw [Hr.out]; rfl), HW4.out⟩
  cases x0 : decide (A1 < C1)
  · go_wp2_with fail
    go_ret
    exact ⟨ret_bool (by rw [Hr.out, x0]; rfl), HW4.out⟩
  cases x1 : decide (A4 < C4)
  · go_wp2_with fail
    go_ret
    exact ⟨ret_bool (by rw [Hr.out, x0, x1]; rfl), HW4.out⟩
  cases x2 : decide (C1 ≤ A4)
  all_goals
    go_wp2_with fail
    go_ret
    exact ⟨ret_bool (by rw [Hr.out, x0, x1, x2]; rfl), HW4.out⟩
end Go.Proofs.YtmcjpdlkkpnhfaaGreat
