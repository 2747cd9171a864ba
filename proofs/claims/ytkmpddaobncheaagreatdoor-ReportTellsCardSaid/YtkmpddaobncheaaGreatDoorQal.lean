/- slices.Equal at boxes, runs, laps, steps, numbers: any two lists. -/
import Derived.Test.YtkmpddaobncheaaGreatDoorQag
import Derived.Test.YtkmpddaobncheaaGreatDoorQac
import Derived.Laws.StructEq
namespace Go.Proofs.YtkmpddaobncheaaGreatDoor
open Go.RowKit

theorem SlOf.drewN {α : Type} {w : World} {B size : Nat} {enc : α → List Value} {A : Option Addr} {l : List α} (h : SlOf w B size (Flat enc) A l) (n : Nat) : SlOf (w.drewN n) B size (Flat enc) A l := by
  intro hl
  obtain ⟨b, off, hA, hb, hc⟩ := h hl
  exact ⟨b, off, hA, hb, fun k x hx => hc k x hx⟩
end Go.Proofs.YtkmpddaobncheaaGreatDoor
