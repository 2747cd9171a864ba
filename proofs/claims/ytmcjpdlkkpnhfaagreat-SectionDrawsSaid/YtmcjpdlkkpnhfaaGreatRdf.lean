/- law47.ready: a true answer tells that a detail is small and valid. law47's awake: the chapter's example has the steel, the bars and the drawing that are told. -/
import Derived.Test.YtmcjpdlkkpnhfaaGreatQbs
import Derived.Test.YtmcjpdlkkpnhfaaGreatQbb
import Derived.Test.YtmcjpdlkkpnhfaaGreatQbl
import Derived.Test.YtmcjpdlkkpnhfaaGreatQby
import Derived.Test.YtmcjpdlkkpnhfaaGreatQbj
import Derived.Test.YtmcjpdlkkpnhfaaGreatQaa
namespace Go.Proofs.YtmcjpdlkkpnhfaaGreat
open Go.RowKit

theorem few_dems {x : DetD} {s : DetS} (f : Few x s) : ∀ d ∈ x.dems, d.name.size ≤ maxLen ∧ d.steps.length ≤ 60000 :=
  fun d hd => ⟨Nat.le_trans (f.dems d hd).1 (by decide), by have := (f.dems d hd).2; omega⟩
theorem wpList_load_row_g {P : Program} {ops : Array Oper} {rest : List Oper} {o : Oper} {a : Act} {w : World} {Q : Exit → Act → World → Prop} (hw : Region.wanted o (yielded ops a.tmps) = true) (ty : TypeId) (x : Operand) (ho : o.op = .load ty x)
    (g : Nat) (hx : a.eval x = .pointer (some ⟨g, 0, none⟩)) (t : TypeId) (cs : Array Value) (fr : Nat × Nat) (d : TypeDesc) (hg : w.heap[g]? = some (.cells cs t fr))
    (hu : P.underlying ty = some d) (hd : (match d with | .struct _ | .array _ _ => true | _ => false) = true) (hi : (P.info? ty).map (·.size) = some cs.size)
    (h : wpList P ops Q rest (a.put o.dst (.agg cs)) w) : wpList P ops Q (o :: rest) a w :=
  wpList_step fun K hK => by
    rw [if_pos hw]
    exact wp_load_row ty x ho g hx t cs fr d hg hu hd hi (hK _ _ h)
set_option maxHeartbeats 4000000 in
set_option maxRecDepth 100000 in
theorem ready_any (x : DetD) (s : DetS) (w : World) {B : Nat} (h : DetAt w B x s) (hB : B ≤ w.heap.size) (hl : DetLen x s) :
    Calls Tryz.prog 14 #[detV x s] w fun e w' => RetB e (Few x s ∧ detOk x = true) ∧ Below w.heap.size w w' := by
  have HF := hide (fun (W : World) (hz : Below w.heap.size w W) => small25_any x s W (h.carry (hz.mono hB) (Nat.le_refl _)) (Nat.le_trans hB hz.size) hl)
  have HV := hide (fun (f : Few x s) (W : World) (hz : Below w.heap.size w W) => refValid25_any x s W (h.carry (hz.mono hB) (Nat.le_refl _)) (Nat.le_trans hB hz.size) (few_fit hl f) (few_dems f))
  have Hi := hide (show (Tryz.prog.info? 34).map (·.size) = some 19 by kernel_rfl)
  have K0 := hide (Blk.new w 34 (detCells x.mem x.rule s))
  have HW := hide (below_new w (.cells (detCells x.mem x.rule s) 34))
  clear h hB hl
  go_enter Tryz.func14, Tryz.ntmps14
  go_wp2_with (refine wpList_load_row rfl 34 (.tmp 1) rfl w.heap.size rfl 34 _ (0, 0) _ K0.out Tryz.underlying34 rfl Hi.out ?_)
  refine (HF.out _ HW.out).mono ?_
  rintro e w1 ⟨⟨t, rfl, ht⟩, hb⟩
  have Ht := hide ht
  have K0 := hide (K0.out.keep hb)
  have HW := hide (below_step HW.out hb (Nat.le_refl _))
  clear hb ht HF
  cases t
  · go_wp2_with fail
    go_ret
    exact ⟨⟨false, rfl, fun h => by cases h⟩, HW.out⟩
  have Hf := hide (Ht.out rfl)
  have HVf := hide (HV.out Hf.out)
  clear Ht HV
  go_wp2_with (refine wpList_load_row_g (by rfl) 34 (.tmp 1) rfl w.heap.size rfl 34 _ (0, 0) _ K0.out Tryz.underlying34 rfl Hi.out ?_)
  refine (HVf.out _ HW.out).mono ?_
  rintro e w2 ⟨rfl, hb⟩
  have HW := hide (below_step HW.out hb (Nat.le_refl _))
  obtain ⟨t, ht⟩ : ∃ t, t = detOk x := ⟨_, rfl⟩
  rw [← ht]
  have Ht := hide ht
  clear hb HVf ht
  go_wp2_with fail
  go_ret
  exact ⟨⟨t, rfl, fun h9 => ⟨Hf.out, by rw [← Ht.out, h9]⟩⟩, HW.out⟩
end Go.Proofs.YtmcjpdlkkpnhfaaGreat
namespace Go.Proofs.YtmcjpdlkkpnhfaaGreat
open Go.RowKit

set_option maxHeartbeats 4000000 in
set_option maxRecDepth 100000 in
theorem awake_any (w : World) : Calls Tryz.prog 7 #[] w fun e w' => e = .returned (.bool true) ∧ Below w.heap.size w w' := by
  have hS := fun (s : DetS) (W : World) (h : DetAt W W.heap.size exE s) (hf : DetFit exE s) => sectSteel_ok exE s 500 W h (Nat.le_refl _) hf exE_err
  rw [exE_steel] at hS
  have HS := hide hS
  have hL := fun (s : DetS) (W : World) (h : DetAt W W.heap.size exE s) (hf : DetFit exE s) => sectBars_ok exE s 500 W h (Nat.le_refl _) hf exE_err
  rw [exE_bars] at hL
  have HL := hide hL
  have hD := fun (s : DetS) (W : World) (h : DetAt W W.heap.size exE s) (hf : DetFit exE s) => sectDraw_ok exE s 500 100 W h (Nat.le_refl _) hf exE_draw
  rw [exE_text] at hD
  have HD := hide hD
  clear hS hL hD
  go_enter Tryz.func7, Tryz.ntmps7
  go_wp2_with fail
  refine (example_any _).mono ?_
  rintro e w2 ⟨s, rfl, hat, hfit, hb⟩
  have HB := hide hb
  clear hb
  go_wp2_with fail
  refine (HS.out s _ hat hfit).mono ?_
  rintro e w3 ⟨rfl, hb⟩
  have HB := hide (below_step HB.out hb (Nat.le_refl _))
  clear hb hat hfit
  go_wp2_with fail
  refine (example_any _).mono ?_
  rintro e w4 ⟨s', rfl, hat, hfit, hb⟩
  have HB := hide (below_step HB.out hb (Nat.le_refl _))
  clear hb
  go_wp2_with fail
  refine (HL.out s' _ hat hfit).mono ?_
  rintro e w5 ⟨A, c, rfl, ⟨b0, hr⟩, hb⟩
  have RL : Hid (Ints w5 w5.heap.size A [0, 1]) := hide (Row.read hr encInt_len (by omega))
  have HB := hide (below_step HB.out hb (Nat.le_refl _))
  clear hb hat hfit hr
  go_wp2_with fail
  refine (example_any _).mono ?_
  rintro e w6 ⟨s2, rfl, hat, hfit, hb⟩
  have RL := hide (RL.out.carry hb hb.size)
  have HB := hide (below_step HB.out hb (Nat.le_refl _))
  clear hb
  go_wp2_with fail
  refine (HD.out s2 _ hat hfit).mono ?_
  rintro e w7 ⟨rfl, hb⟩
  have RL := hide (RL.out.carry hb hb.size)
  have HB := hide (below_step HB.out hb (Nat.le_refl _))
  clear hb hat hfit
  have RQ : Hid (Ints (w7.alloc (.cells #[.int .i64 0, .int .i64 1] 3)) (w7.heap.size + 1) (some ⟨w7.heap.size, 0, none⟩) [0, 1]) := hide (Ints.of_blk (l := [0, 1]) (Blk.new w7 3 #[.int .i64 0, .int .i64 1]) (Nat.lt_succ_self _))
  have RL := hide (RL.out.carry (below_new w7 (.cells #[.int .i64 0, .int .i64 1] 3)) (Nat.le_refl _))
  have HB := hide (HB.out.alloc HB.out.size (.cells #[.int .i64 0, .int .i64 1] 3))
  go_wp2_with fail
  refine (equalInts_any _ _ [0, 1] _ _ _ _ RL.out RQ.out rfl (by decide)).mono ?_
  rintro e w8 ⟨rfl, hb⟩
  have HB := hide (below_step HB.out hb (Nat.le_refl _))
  clear hb RL RQ
  go_wp2_with fail
  go_ret
  exact ⟨rfl, HB.out⟩
end Go.Proofs.YtmcjpdlkkpnhfaaGreat
