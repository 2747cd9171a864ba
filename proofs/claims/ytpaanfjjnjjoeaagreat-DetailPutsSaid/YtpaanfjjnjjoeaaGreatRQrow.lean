/- A load of a whole struct, in a region that draws its order and only reads; the zero detail. -/
import Derived.Test.YtpaanfjjnjjoeaaGreatRPutW
import Derived.Test.YtpaanfjjnjjoeaaGreatRQbf
import Derived.Lib.QuietBelow
import Derived.Deep.DeepBigQuietO
namespace Go.Proofs.YtpaanfjjnjjoeaaGreat
open Go.RowKit Go.Sort
def det0 : DetD := ⟨⟨⟨#[]⟩, [], [], 0, 0, 0⟩, [], [], [], [], ⟨0, 0, 0, 0, 0, 0, 0, 0, 0⟩⟩
def det0S : DetS := ⟨none, 0, 0, none, 0, 0, none, 0, 0, none, 0, 0, none, 0, 0, none, 0, 0⟩
theorem det0_at (w : World) (B : Nat) : DetAt w B det0 det0S := ⟨fun h => absurd h (Nat.not_lt_zero _), fun h => absurd h (Nat.not_lt_zero _), fun h => absurd h (Nat.not_lt_zero _), fun h => absurd h (Nat.not_lt_zero _), fun h => absurd h (Nat.not_lt_zero _), fun h => absurd h (Nat.not_lt_zero _)⟩
theorem det0_fit : DetFit det0 det0S := ⟨rfl, rfl, rfl, rfl, rfl, rfl, by decide, by decide, by decide, by decide, by decide, by decide, fun _ h => (by cases h), fun _ h => (by cases h)⟩
end Go.Proofs.YtpaanfjjnjjoeaaGreat
