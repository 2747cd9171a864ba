/- The reference of layer 50: the finding of a line. -/
import Derived.Test.YtnhmdgkhmkeopaaGreatDoorWords
import Derived.Test.YtnhmdgkhmkeopaaGreatDoorNum
import Derived.Test.YtnhmdgkhmkeopaaGreatDoorFindR
namespace Go.Proofs.YtnhmdgkhmkeopaaGreatDoor
open Go.RowKit

def word0 (s : ByteArray) : ByteArray := (wordsB s).getD 0 .empty
def word1 (s : ByteArray) : ByteArray := (wordsB s).getD 1 .empty
def rfForm (s : ByteArray) : Bool := decide ((wordsB s).length = 2) && decide ((word0 s).size ≤ 7) && isName (word1 s)
def rfKind (s : ByteArray) : Int := if rfForm s then numRes (word0 s).data.toList else 0
def rfName (s : ByteArray) : ByteArray := if rfForm s then word1 s else .empty
def rfOk (s : ByteArray) : Bool := rfForm s && numGood (word0 s).data.toList
theorem str_cell {w : World} {B : Nat} {b off k : Nat} {l : List ByteArray} {y : ByteArray} (h : StrsAt w B (some ⟨b, off, none⟩) l) (hy : l[k]? = some y) : w.cell? ⟨b, off + k, none⟩ = some (.string y) := by
  obtain ⟨b', off', x, vs, hA, _, hx, _, hr, hc⟩ := h.at_ (k := k) (lt_of_get hy)
  injection hA with hA
  injection hA with h1 h2
  subst h1; subst h2
  rw [hy] at hx; injection hx with hx
  subst hx
  have hr' : vs = encStr y := hr
  subst hr'
  have := hc 0 (.string y) rfl
  simpa using this
theorem wordsFrom_size (s : ByteArray) : ∀ (m a k : Nat) (x : ByteArray), x ∈ wordsFrom s m a k → x.size ≤ s.size := by
  intro m
  induction m with
  | zero => intro a k x h; simp [wordsFrom] at h
  | succ m ih =>
    intro a k x h
    rw [wordsFrom] at h
    split at h
    · rcases List.mem_cons.1 h with rfl | h
      · simp [ByteArray.size_extract]; omega
      · exact ih _ _ _ h
    · exact ih _ _ _ h

set_option maxHeartbeats 2000000 in
theorem refFinding_any (s : ByteArray) (w : World) (hs : s.size ≤ 300000) :
    Calls Tryz.prog 45 #[.string s] w fun e w' => e = .returned (.tuple #[.agg #[.int .i64 (rfKind s), .string (rfName s)], .bool (rfOk s)]) ∧ Below w.heap.size w w' := by
  have Hs := hide hs
  have hsz := fun x (h : x ∈ wordsB s) => wordsFrom_size s _ _ _ x h
  have Hsz := hide hsz
  clear hsz
  go_enter Tryz.func45, Tryz.ntmps45
  go_wp2_with fail
  refine (refWords_any s _ hs).mono ?_
  rintro e w1 ⟨A, c, rfl, hA, hb1⟩
  have B1 := hide ((Blk.new w 49 #[.int .i64 0, .string .empty]).keep hb1)
  have hb2 := hide (below_step (below_new w _) hb1 (Nat.le_refl _))
  have k0 := B1.out.cell 0
  have k1 := B1.out.cell 1
  have f0 := B1.out.frozen 0
  have f1 := B1.out.frozen 1
  simp at k0 k1
  clear hb1
  by_cases h2 : (wordsB s).length = 2
  · obtain ⟨x0, e0⟩ : ∃ y, (wordsB s)[0]? = some y := ⟨_, List.getElem?_eq_getElem (by omega)⟩
    obtain ⟨x1, e1⟩ : ∃ y, (wordsB s)[1]? = some y := ⟨_, List.getElem?_eq_getElem (by omega)⟩
    have hw0 : word0 s = x0 := by rw [word0, List.getD_eq_getElem?_getD, e0]; rfl
    have hw1 : word1 s = x1 := by rw [word1, List.getD_eq_getElem?_getD, e1]; rfl
    have hx1 : x1.size ≤ maxLen := by have := Hsz.out _ (mem_of_get e1); unfold maxLen; omega
    obtain ⟨b, off, hA', hbl, _⟩ := hA (by omega)
    subst hA'
    have c0 := str_cell hA e0
    have c1 := str_cell hA e1
    simp only [Nat.add_zero] at c0
    rw [h2]
    clear e0 e1 hA
    by_cases h7 : 7 < x0.size
    · have hf := hide (show rfForm s = false by simp [rfForm, hw0]; omega)
      have d7 : decide (7 < (x0.size : Int)) = true := by simp; omega
      have hk := hide (show rfKind s = 0 by rw [rfKind, hf.out]; rfl)
      have hn := hide (show rfName s = .empty by rw [rfName, hf.out]; rfl)
      have ho := hide (show rfOk s = false by rw [rfOk, hf.out]; rfl)
      clear h7 h2 hw0 hw1
      go_wp2_with fail
      refine bodyPost_ret (results_ct rfl rfl ((B1.out.set_ 0 _).set_ 1 _) Tryz.underlying49 rfl (by kernel_rfl)) rfl ?_
      exact ⟨by rw [hk.out, hn.out, ho.out]; rfl, (hb2.out.setCell (by simp) _).setCell (by simp) _⟩
    have d7 : decide (7 < (x0.size : Int)) = false := by simp; omega
    cases hnm : isName x1
    · have hf := hide (show rfForm s = false by simp [rfForm, hw1, hnm])
      have hk := hide (show rfKind s = 0 by rw [rfKind, hf.out]; rfl)
      have hn := hide (show rfName s = .empty by rw [rfName, hf.out]; rfl)
      have ho := hide (show rfOk s = false by rw [rfOk, hf.out]; rfl)
      have Hnm := hide hnm
      clear h7 h2 hw0 hw1 hnm
      go_wp2_with (go_at_call 39; refine (refIsName_any _ _ hx1).mono ?_; rintro e w' ⟨rfl, rfl⟩; rw [Hnm.out])
      refine bodyPost_ret (results_ct rfl rfl ((B1.out.set_ 0 _).set_ 1 _) Tryz.underlying49 rfl (by kernel_rfl)) rfl ?_
      exact ⟨by rw [hk.out, hn.out, ho.out]; rfl, (hb2.out.setCell (by simp) _).setCell (by simp) _⟩
    · have hf : rfForm s = true := by simp [rfForm, hw0, hw1, hnm, h2]; omega
      have hk := hide (show rfKind s = numRes x0.data.toList by rw [rfKind, hf, hw0]; rfl)
      have hn := hide (show rfName s = x1 by rw [rfName, hf, hw1]; rfl)
      have ho := hide (show rfOk s = numGood x0.data.toList by rw [rfOk, hf, hw0]; rfl)
      have Hnm := hide hnm
      clear h7 h2 hw0 hw1 hnm hf
      go_wp2_with (first
        | (go_at_call 39; refine (refIsName_any _ _ hx1).mono ?_; rintro e w' ⟨rfl, rfl⟩; rw [Hnm.out])
        | (go_at_call 78; refine (refNumber_any _ _).mono ?_; rintro e w' ⟨rfl, rfl⟩))
      refine bodyPost_ret (results_ct rfl rfl ((B1.out.set_ 0 _).set_ 1 _) Tryz.underlying49 rfl (by kernel_rfl)) rfl ?_
      exact ⟨by rw [hk.out, hn.out, ho.out]; rfl, (hb2.out.setCell (by simp) _).setCell (by simp) _⟩
  · have hf := hide (show rfForm s = false by simp [rfForm, h2])
    have d2 : (((wordsB s).length : Int) != 2) = true := by simp; omega
    have hk := hide (show rfKind s = 0 by rw [rfKind, hf.out]; rfl)
    have hn := hide (show rfName s = .empty by rw [rfName, hf.out]; rfl)
    have ho := hide (show rfOk s = false by rw [rfOk, hf.out]; rfl)
    clear h2 hA
    go_wp2_with fail
    refine bodyPost_ret (results_ct rfl rfl ((B1.out.set_ 0 _).set_ 1 _) Tryz.underlying49 rfl (by kernel_rfl)) rfl ?_
    exact ⟨by rw [hk.out, hn.out, ho.out]; rfl, (hb2.out.setCell (by simp) _).setCell (by simp) _⟩
end Go.Proofs.YtnhmdgkhmkeopaaGreatDoor
