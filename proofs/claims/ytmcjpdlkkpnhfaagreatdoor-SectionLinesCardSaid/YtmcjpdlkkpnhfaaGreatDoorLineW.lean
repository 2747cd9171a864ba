/- The library's functions on the lines of a section's drawing. -/
import Derived.Test.YtmcjpdlkkpnhfaaGreatDoorTrimQ
import Derived.Test.YtmcjpdlkkpnhfaaGreatDoorShelf
namespace Go.Proofs.YtmcjpdlkkpnhfaaGreatDoor
open Go.RowKit

/-- The library's MaxLen holds some number. -/
def MX (B : Nat) (w : World) : Prop := 0 < B ∧ ∃ m : Int, w.cell? ⟨0, 0, none⟩ = some (.int .i64 m)
theorem MX.carry {B : Nat} {w w' : World} (h : MX B w) (hb : Below B w w') : MX B w' := by
  obtain ⟨h1, m, h2⟩ := h
  exact ⟨h1, m, (hb.cell (p := ⟨0, 0, none⟩) h1).trans h2⟩
theorem bytes_mk (b : ByteArray) : (⟨b.data.toList.toArray⟩ : ByteArray) = b := by
  apply ByteArray.ext
  simp
theorem cutLine_any {x : DetD} {a sc : Int} {C R j : Nat} (hj : j < R) (hs : R * (C + 1) ≤ 300000) (w : World) {B : Nat} (hm : MX B w) :
    Calls Tryz.prog 9 #[.string (restB x a sc C R j), .string ⟨#[10]⟩] w fun e w' => e = .returned (.tuple #[.string (lineOf x a sc C R j), .string (restB x a sc C R (j + 1)), .bool true]) ∧ Below w.heap.size w w' := by
  obtain ⟨_, m, hm⟩ := hm
  have h1 := @rest_le x a sc C R j
  refine (Tryz.strings_Cut (restB x a sc C R j) ⟨#[10]⟩ m w (by omega) hm).mono ?_
  rintro e w' ⟨he, n, rfl⟩
  have hd : (⟨#[10]⟩ : ByteArray).data.toList = [10] := rfl
  rw [hd, rest_cut hj] at he
  simp only [bytes_mk] at he
  exact ⟨he, rfl, rfl, rfl, Nat.le_refl _, fun _ _ => rfl⟩
theorem trimLine_any {x : DetD} {a sc : Int} {C R j : Nat} (hC : 1 ≤ C) (hs : C ≤ 300000) (w : World) :
    Calls Tryz.prog 10 #[.string (lineOf x a sc C R j), .string picSet] w fun e w' => ∃ r : ByteArray, e = .returned (.string r) ∧ Hid (noBytes r = true) ∧ Below w.heap.size w w' := by
  obtain ⟨h1, h2⟩ := @line_size x a sc C R j
  have h3 := trim_pic (lineOf x a sc C R j) w (by omega) (by
    rw [beq_eq_false_iff_ne]
    intro h
    have h4 : (lineOf x a sc C R j).toList.length = 0 := by rw [h]; rfl
    have h5 : (lineOf x a sc C R j).toList = (lineOf x a sc C R j).data.toList := ByteArray.toList_eq _
    rw [h5, Array.length_toList] at h4
    have h6 : (lineOf x a sc C R j).data.size = C := h1
    omega)
  rw [h2] at h3
  exact h3
theorem countLines_any {x : DetD} {a sc : Int} {C R : Nat} (w : World) :
    Calls Tryz.prog 8 #[.string (restB x a sc C R 0), .string ⟨#[10]⟩] w fun e w' => e = .returned (.int .i64 (R : Int)) ∧ Below w.heap.size w w' := by
  refine (Tryz.strings_Count_one (restB x a sc C R 0) 10 w).mono ?_
  rintro e w' ⟨he, rfl⟩
  rw [rest_count] at he
  exact ⟨he, Below.refl _ _⟩
theorem hasB_any (T : ByteArray) (c : UInt8) (w : World) :
    Calls Tryz.prog 13 #[.string T, .string ⟨#[c]⟩] w fun e w' => e = .returned (.bool (hasB T c)) ∧ Below w.heap.size w w' := by
  refine (Tryz.strings_Contains_one T c w).mono ?_
  rintro e w' ⟨he, rfl⟩
  exact ⟨he, Below.refl _ _⟩
end Go.Proofs.YtmcjpdlkkpnhfaaGreatDoor
