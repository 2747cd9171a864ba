/- The example of the chapter. -/
import Derived.Test.YtnhmdgkhmkeopaaGreatDoorFind
namespace Go.Proofs.YtnhmdgkhmkeopaaGreatDoor
open Go.RowKit

def bar0 : BarD := ⟨⟨#[97]⟩, 10, 4, 0, [1000]⟩
def fin0 : FinD := ⟨3, ⟨#[97]⟩⟩
theorem bar0_ok : schedOk [bar0] = true := by decide +kernel
theorem fin0_ok : finBad fin0 = false := by decide +kernel
theorem itoa_small {n : Int} (h0 : 0 ≤ n) : Lib.itoa n = Lib.decDigits n.toNat := by
  obtain ⟨k, rfl⟩ := Int.eq_ofNat_of_zero_le h0
  rw [Lib.itoa_nonneg]
  rfl
theorem dd4 : Lib.decDigits 4 = [52] := Lib.decDigits_one (by omega)
theorem dd3 : Lib.decDigits 3 = [51] := Lib.decDigits_one (by omega)
theorem dd10 : Lib.decDigits 10 = [49, 48] := by
  rw [Lib.decDigits, dif_neg (by omega), show 10 / 10 = 1 from rfl, Lib.decDigits_one (by omega)]
  rfl
theorem dd2468 : Lib.decDigits 2468 = [50, 52, 54, 56] := by
  rw [Lib.decDigits, dif_neg (by omega), show 2468 / 10 = 246 from rfl, Lib.decDigits, dif_neg (by omega), show 246 / 10 = 24 from rfl, Lib.decDigits, dif_neg (by omega), show 24 / 10 = 2 from rfl, Lib.decDigits_one (by omega)]
  rfl
theorem steps0 : massSteps [bar0] steelSizes = [(10, 2468)] := by decide +kernel
theorem count0 : sumOf BarD.count [bar0] 10 = 4 := by decide +kernel
theorem all0 : sumCount [bar0] = 4 := by decide +kernel
theorem total0 : total (massList [bar0]) = 2468 := by decide +kernel
theorem text0 : (⟨(steelText [bar0]).toArray⟩ : ByteArray) = ⟨#[115, 105, 122, 101, 32, 49, 48, 32, 98, 97, 114, 115, 32, 52, 32, 109, 97, 115, 115, 32, 50, 52, 54, 56, 10, 97, 108, 108, 32, 98, 97, 114, 115, 32, 52, 32, 109, 97, 115, 115, 32, 50, 52, 54, 56, 10]⟩ := by
  rw [steelText, steps0]
  simp only [sizeLines, List.flatMap_cons, List.flatMap_nil, sizeWords, allWords, count0, all0, total0, lineBytes, spaced, Word.bytes, itoa_small (show (0:Int) ≤ 10 by omega), itoa_small (show (0:Int) ≤ 4 by omega), itoa_small (show (0:Int) ≤ 2468 by omega)]
  rw [show (10 : Int).toNat = 10 from rfl, show (4 : Int).toNat = 4 from rfl, show (2468 : Int).toNat = 2468 from rfl, dd10, dd4, dd2468]
  rfl
theorem ftext0 : (⟨(finLines [fin0]).toArray⟩ : ByteArray) = ⟨#[51, 32, 97, 10]⟩ := by
  simp only [finLines, List.flatMap_cons, List.flatMap_nil, finWords, lineBytes, spaced, Word.bytes, fin0, itoa_small (show (0:Int) ≤ 3 by omega)]
  rw [show (3 : Int).toNat = 3 from rfl, dd3]
  rfl

theorem TB.raise {B B' : Nat} {w : World} (h : TB B w) (hB : B ≤ B') : TB B' w := fun v hv => h v (hv.mono hB)

set_option maxHeartbeats 4000000 in
set_option maxRecDepth 100000 in
theorem awake_any (w : World) {B : Nat} (hB : B ≤ w.heap.size) (ht : TB B w) :
    Calls Tryz.prog 7 #[] w fun e w' => e = .returned (.bool true) ∧ Below w.heap.size w w' := by
  have hq1 := hide (show ((⟨#[115, 105, 122, 101, 32, 49, 48, 32, 98, 97, 114, 115, 32, 52, 32, 109, 97, 115, 115, 32, 50, 52, 54, 56, 10, 97, 108, 108, 32, 98, 97, 114, 115, 32, 52, 32, 109, 97, 115, 115, 32, 50, 52, 54, 56, 10]⟩ : ByteArray).toList == (⟨#[115, 105, 122, 101, 32, 49, 48, 32, 98, 97, 114, 115, 32, 52, 32, 109, 97, 115, 115, 32, 50, 52, 54, 56, 10, 97, 108, 108, 32, 98, 97, 114, 115, 32, 52, 32, 109, 97, 115, 115, 32, 50, 52, 54, 56, 10]⟩ : ByteArray).toList) = true by simp)
  have Ht := hide ht
  clear ht
  have hbars := hide (show BarsAt ((w.alloc (.cells #[.int .i64 1000] 3)).alloc (.cells #[.string ⟨#[97]⟩, .int .i64 10, .int .i64 4, .int .i64 0, .slice (some ⟨w.heap.size, 0, none⟩) 1 1] 67)) (w.heap.size + 2) (some ⟨w.heap.size + 1, 0, none⟩) [bar0] by
    have b0 := (Blk.new w 3 #[.int .i64 1000]).alloc (.cells #[.string ⟨#[97]⟩, .int .i64 10, .int .i64 4, .int .i64 0, .slice (some ⟨w.heap.size, 0, none⟩) 1 1] 67)
    have b1 := Blk.new1 w (.cells #[.int .i64 1000] 3) 67 #[.string ⟨#[97]⟩, .int .i64 10, .int .i64 4, .int .i64 0, .slice (some ⟨w.heap.size, 0, none⟩) 1 1]
    refine SlOf.of_row (xs := [.string ⟨#[97]⟩, .int .i64 10, .int .i64 4, .int .i64 0, .slice (some ⟨w.heap.size, 0, none⟩) 1 1]) (by omega) (fun j u hu => by rw [b1.cell j]; simpa using hu) ?_
    intro k x hx
    cases k with
    | zero =>
      simp at hx
      subst hx
      exact ⟨[.string ⟨#[97]⟩, .int .i64 10, .int .i64 4, .int .i64 0, .slice (some ⟨w.heap.size, 0, none⟩) 1 1], rfl, ⟨_, _, rfl, Ints.of_blk (l := [1000]) b0 (by omega)⟩, fun j v hj => by simpa using hj⟩
    | succ k => simp at hx)
  go_enter Tryz.func7, Tryz.ntmps7
  go_wp2_with fail
  refine (repSteel_ok _ [bar0] 1 1 _ hbars.out (by simp) rfl (by intro x hx; simp at hx; subst hx; exact ⟨by decide, by decide⟩) bar0_ok ?_).mono ?_
  · exact ((Ht.out.carry (((Below.refl B w).alloc hB _).alloc (le_alloc hB _) _)).raise (by omega))
  rintro e w1 ⟨rfl, hb1⟩
  rw [text0]
  have hw1 := hide (below_step (below_new2 w _ _) hb1 (Nat.le_refl _))
  have hBw := Nat.le_trans hB hw1.out.size
  have hfins := hide (show FinsAt (w1.alloc (.cells #[.int .i64 3, .string ⟨#[97]⟩] 49)) (w1.heap.size + 1) (some ⟨w1.heap.size, 0, none⟩) [fin0] from SlOf.lit encFin_len w1 49 #[.int .i64 3, .string ⟨#[97]⟩] [fin0] rfl (by omega))
  clear hb1
  go_wp2_with fail
  refine (repFindings_ok _ [fin0] 1 1 _ hfins.out (by simp) rfl (by omega) (by simp) (by intro x hx; simp at hx; subst hx; exact fin0_ok) ?_).mono ?_
  · exact ((Ht.out.carry ((hw1.out.mono hB).alloc hBw _)).raise (by omega))
  rintro e w2 ⟨rfl, hb2⟩
  rw [ftext0]
  have hw2 := hide (below_step (hw1.out.alloc hw1.out.size _) hb2 (Nat.le_refl _))
  clear hb2
  go_wp2_with fail
  go_ret
  exact ⟨rfl, hw2.out⟩
end Go.Proofs.YtnhmdgkhmkeopaaGreatDoor
