/- A load of a whole struct, in a region that draws its order and only reads; the zero detail. No walk stands here. -/
import Derived.Test.YtpaanfjjnjjoeaaGreatPutW
import Derived.Test.YtpaanfjjnjjoeaaGreatQbf
import Derived.Lib.QuietBelow
import Derived.Deep.DeepBigQuietO
namespace Go.Proofs.YtpaanfjjnjjoeaaGreat
open Go.RowKit Go.Sort

theorem quiet_load_row {P : Program} {ops : Array Oper} {rest : List Oper} {o : Oper} {a : Act} {C : World → Prop} {Q : Act → Prop} (hw : Region.wanted o (yielded ops a.tmps) = true) (ty : TypeId) (x : Operand) (ho : o.op = .load ty x)
    (g : Nat) (hx : a.eval x = .pointer (some ⟨g, 0, none⟩)) (t : TypeId) (cs : Array Value) (fr : Nat × Nat) (d : TypeDesc) (hg : ∀ w, C w → w.heap[g]? = some (.cells cs t fr))
    (hu : P.underlying ty = some d) (hd : (match d with | .struct _ | .array _ _ => true | _ => false) = true) (hi : (P.info? ty).map (·.size) = some cs.size)
    (h : wpQuiet P ops C Q rest (a.put o.dst (.agg cs))) : wpQuiet P ops C Q (o :: rest) a := by
  show if _ then _ else _
  rw [if_pos hw]
  refine ⟨.agg cs, fun w hC => ?_, h⟩
  unfold Oper.quietAt execOp
  simp only [ho, hx, Instr.loadAt, Instr.sureAddr, Sem.run_bind, Sem.run_pure, Result.andThen_ok, run_loadVar_row w g t ty cs fr d (hg w hC) hu hd hi, Oper.quietUpon]
  exact ⟨trivial, trivial⟩
theorem Blk.regrown {w : World} {g : Nat} {t : TypeId} {cs : Array Value} (h : Blk w g t cs) : ∀ w', (∃ p : Regrown, w' = grow (redrawn w p.d) p.os) → w'.heap[g]? = some (.cells cs t (0, 0)) := by
  rintro w' ⟨p, rfl⟩
  exact h.below (below_regrown w p.d p.os) h.lt
/-- The zero detail. -/
def det0 : DetD := ⟨⟨⟨#[]⟩, [], [], 0, 0, 0⟩, [], [], [], [], ⟨0, 0, 0, 0, 0, 0, 0, 0, 0⟩⟩
def det0S : DetS := ⟨none, 0, 0, none, 0, 0, none, 0, 0, none, 0, 0, none, 0, 0, none, 0, 0⟩
theorem det0_cells : detCells det0.mem det0.rule det0S = zeroD := rfl
theorem det0_at (w : World) (B : Nat) : DetAt w B det0 det0S := ⟨fun h => absurd h (Nat.not_lt_zero _), fun h => absurd h (Nat.not_lt_zero _), fun h => absurd h (Nat.not_lt_zero _), fun h => absurd h (Nat.not_lt_zero _), fun h => absurd h (Nat.not_lt_zero _), fun h => absurd h (Nat.not_lt_zero _)⟩
theorem det0_fit : DetFit det0 det0S := ⟨rfl, rfl, rfl, rfl, rfl, rfl, by decide, by decide, by decide, by decide, by decide, by decide, fun _ h => (by cases h), fun _ h => (by cases h)⟩
theorem det0_bad : detOk det0 = false := by kernel_rfl
theorem zeroValid_any (w : World) : Calls Tryz.prog 26 #[.agg zeroD] w fun e w' => e = .returned (.bool false) ∧ Below w.heap.size w w' := by
  have h := detValid_any det0 det0S w (det0_at w w.heap.size) (Nat.le_refl _) det0_fit
  rw [det0_bad] at h
  exact h
end Go.Proofs.YtpaanfjjnjjoeaaGreat
