/- A set of whole numbers, kept as a map from int to bool that the call made. -/
import Derived.Test.YtnhmdgkhmkeopaaGreatDoorBase
import Derived.Maps.Own
import Derived.Maps.OwnOps
import Derived.Maps.Views
namespace Go.Proofs.YtnhmdgkhmkeopaaGreatDoor
open Go.RowKit Go.Maps

theorem keyedInt : Keyed Tryz.prog 3 := int_keyed Tryz.underlying3
theorem zeroBool (w : World) : (zeroValue 4).run Tryz.prog w = .ok (.bool false) w := by kernel_rfl
/-- A number that an int holds. -/
def InInt (x : Int) : Prop := -9223372036854775808 ≤ x ∧ x ≤ 9223372036854775807
theorem InInt.wf {x : Int} (h : InInt x) : (Lit.int .i64 x).wf = true := WalkArith.wf_i64 h
/-- Block b is a map that holds 'true' at just the numbers of the list. -/
def BSet (w : World) (b n : Nat) (seen : List Int) : Prop :=
  ∃ D : DataW Unit, IsMap D ∧ w.ownsMap Tryz.prog 3 (plainElem Tryz.prog 4) b n D ∧ ∀ x : Int, InInt x → D.atKey (.int .i64 x) (.lit (.bool false)) = .lit (.bool (seen.contains x))
section
variable {w w' : World} {b n : Nat} {seen : List Int}
set_option maxRecDepth 100000 in
theorem BSet.new (w : World) : BSet (w.alloc (.map #[] 0)) w.heap.size 0 [] :=
  ⟨.map [], ⟨[], rfl⟩, World.ownsMap_made _ _ _ _, fun _ _ => rfl⟩
set_option maxRecDepth 100000 in
theorem BSet.lt (h : BSet w b n seen) : b < w.heap.size := by obtain ⟨D, _, ho, _⟩ := h; exact ho.lt
set_option maxRecDepth 100000 in
theorem BSet.keep (h : BSet w b n seen) (hb : Below w.heap.size w w') : BSet w' b n seen := by
  obtain ⟨D, hm, ho, ha⟩ := h
  exact ⟨D, hm, ho.kept (row := none) ⟨hb.os, hb.tape, hb.output, hb.size, fun k hk _ => hb.block k hk⟩ (by simp), ha⟩
theorem BSet.alloc (h : BSet w b n seen) (o : Obj) : BSet (w.alloc o) b n seen := h.keep (below_new w o)
set_option maxRecDepth 100000 in
theorem plainElem_bool_inv {v : Value} {z : DataW Unit × List MemPlace} (h : plainElem Tryz.prog 4 v = some z) : ∃ x, v = .bool x ∧ z = (.lit (.bool x), []) := by
  unfold plainElem at h
  rw [Tryz.underlying4] at h
  cases v <;> simp at h
  exact ⟨_, rfl, h.symm⟩
set_option maxRecDepth 100000 in
theorem BSet.look (h : BSet w b n seen) {x : Int} (hx : InInt x) : (Instr.lookup 126 (.map (some b)) (.int .i64 x) false).run Tryz.prog w = .ok (.bool (seen.contains x)) w := by
  obtain ⟨D, _, ho, ha⟩ := h
  obtain ⟨v, ps, hrun, hv⟩ := ho.lookup keyedInt Tryz.underlying126 (zeroBool w) (plainElem_bool Tryz.underlying4 false) (keyOf_int_mk Tryz.underlying3 hx.wf)
  obtain ⟨y, rfl, hz⟩ := plainElem_bool_inv hv
  rw [ha x hx] at hz
  simp only [Prod.mk.injEq, DataW.lit.injEq, Lit.bool.injEq] at hz
  rw [hrun, hz.1]
set_option maxRecDepth 100000 in
theorem BSet.store (h : BSet w b n seen) {x : Int} (hx : InInt x) (hn : n ≤ 1000000) :
    ∃ w', (Instr.mapUpdate 126 (.map (some b)) (.int .i64 x) (.bool true)).run Tryz.prog w = .ok () w' ∧ BSet w' b (n + 1) (x :: seen) ∧ w.grownBy w' (some b) := by
  obtain ⟨D, hm, ho, ha⟩ := h
  obtain ⟨w', hrun, ho', hg⟩ := ho.update keyedInt Tryz.underlying126 (by unfold maxLen; omega) (keyOf_int_mk Tryz.underlying3 hx.wf) (plainElem_bool Tryz.underlying4 true)
  refine ⟨w', hrun, ⟨D.put (.int .i64 x) (.lit (.bool true)), ?_, ho', fun y hy => ?_⟩, hg⟩
  · obtain ⟨es, rfl⟩ := hm
    exact ⟨_, rfl⟩
  · by_cases hxy : y = x
    · subst hxy
      rw [atKey_put_same hm (by trivial)]
      simp
    · rw [atKey_put_other (by intro he; injection he with _ he; exact hxy he), ha y hy]
      simp [hxy]
end
theorem below_grown {B b : Nat} {w0 w w' : World} (h : Below B w0 w) (hg : w.grownBy w' (some b)) (hB : B ≤ w.heap.size) (hb : B ≤ b) : Below B w0 w' := h.grown hg hB (fun k hk => by cases hk; exact hb)
theorem wpList_store_bset {w : World} {ops : Array Oper} {rest : List Oper} {o : Oper} {a : Act} {Q : Exit → Act → World → Prop} (hg : o.guard = none) (m x v : Operand) (hop : o.op = Op.mapUpdate 126 m x v)
    (b n : Nat) (seen : List Int) (hm : a.eval m = .map (some b)) (hown : BSet w b n seen) (hn : n ≤ 1000000) (y : Int) (hx : a.eval x = .int .i64 y) (hv : a.eval v = .bool true) (hy : InInt y)
    (hK : ∀ w', BSet w' b (n + 1) (y :: seen) → w.grownBy w' (some b) → wpList Tryz.prog ops Q rest (a.put o.dst undef) w') : wpList Tryz.prog ops Q (o :: rest) a w := by
  refine wpList_plain hg fun K' hK' => ?_
  obtain ⟨w', hrun, r1, r2⟩ := hown.store hy hn
  unfold Oper.wp
  simp [execOp, hop, hm, hx, hv, hrun, Result.andThen]
  exact hK' _ _ (hK w' r1 r2)
end Go.Proofs.YtnhmdgkhmkeopaaGreatDoor
