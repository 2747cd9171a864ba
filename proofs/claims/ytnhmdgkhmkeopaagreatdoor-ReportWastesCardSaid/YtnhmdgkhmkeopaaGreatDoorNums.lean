/- The numbers among the words of a line. -/
import Derived.Test.YtnhmdgkhmkeopaaGreatDoorSumP
import Derived.Test.YtnhmdgkhmkeopaaGreatDoorFinP
import Derived.Test.YtnhmdgkhmkeopaaGreatDoorAppN
namespace Go.Proofs.YtnhmdgkhmkeopaaGreatDoor
open Go.RowKit

/-- The table of blanks lies below block B; what ErrSyntax holds is an error. -/
def TS (B : Nat) (w : World) : Prop := Lib.TabBelow Tryz.prog B w "strings.asciiSpace" .u8 Lib.asciiSpaceTab
theorem TS.carry {B : Nat} {w w' : World} (h : TS B w) (hb : Below B w w') : TS B w' := fun v hv => h v (hb.trans hv)
def EX (B : Nat) (w : World) : Prop := 3 < B ∧ ∃ ev : Value, w.cell? ⟨3, 0, none⟩ = some ev ∧ (ev = .nilIface ∨ ∃ te pe, ev = .iface te pe)
theorem EX.carry {B : Nat} {w w' : World} (h : EX B w) (hb : Below B w w') : EX B w' := by
  obtain ⟨h1, m, h2, h3⟩ := h
  exact ⟨h1, m, (hb.cell (p := ⟨3, 0, none⟩) h1).trans h2, h3⟩

theorem atoi_yes (s : ByteArray) (n : Int) (w : World) (hs : s.size ≤ 18) (h : Lib.atoi s.data.toList = some n) :
    Calls Tryz.prog 34 #[.string s] w fun e w' => e = .returned (.tuple #[.int .i64 n, .nilIface]) ∧ Below w.heap.size w w' := by
  refine (Tryz.strconv_Atoi s n hs h w).mono ?_
  rintro e w' ⟨he, t, rfl⟩
  exact ⟨he, Lib.bytesWorld_below w _ t⟩
theorem atoi_no (s : ByteArray) (w : World) (hs : s.size ≤ 18) (h : Lib.atoi s.data.toList = none) {B : Nat} (he : EX B w) :
    Calls Tryz.prog 34 #[.string s] w fun e w' => ∃ g, e = .returned (.tuple #[.int .i64 0, .iface 147 (.pointer (some ⟨g, 0, none⟩))]) ∧ Below w.heap.size w w' := by
  obtain ⟨_, ev, h1, h2⟩ := he
  refine (Tryz.strconv_Atoi_err s hs h ev w h1 h2).mono ?_
  rintro e w' ⟨g, he, _, _, hb⟩
  exact ⟨g, he, hb⟩
theorem fields_len (l : List UInt8) : (Lib.fields l).length ≤ l.length := by
  have key : ∀ (l : List UInt8) (b : Bool), Lib.cntF b l ≤ l.length := by
    intro l
    induction l with
    | nil => intro b; simp [Lib.cntF]
    | cons c r ih => intro b; rw [Lib.cntF, List.length_cons]; have := ih (Lib.isSp c); split <;> omega
  have h := Lib.fieldsGo_length l []
  have := key l true
  rw [Lib.fields, h]
  simp
  exact this

set_option maxHeartbeats 4000000 in
set_option maxRecDepth 100000 in
theorem numbers_fresh (s : ByteArray) (w : World) (hf : LineFit s.data.toList) {B : Nat} (hB : B ≤ w.heap.size) (ht : TS B w) (he : EX B w) :
    Calls Tryz.prog 13 #[.string s] w fun e w' => ∃ A c, e = .returned (.slice A (lineNums s.data.toList).length c) ∧ Ints w' w'.heap.size A (lineNums s.data.toList) ∧ Below w.heap.size w w' ∧ ∀ a, A = some a → w.heap.size ≤ a.block := by
  obtain ⟨hs, hascii, hshort⟩ := hf
  have hsz : s.data.toList.length = s.size := by simp
  have hfl := fields_len s.data.toList
  have Hshort := hide hshort
  have He := hide he
  have hFields := Tryz.strings_Fields_laid s w (by omega) (fun j b hj => hascii b (mem_of_get hj)) ht.here
  rw [lineNums]
  generalize Lib.fields s.data.toList = F at *
  obtain ⟨n, hn⟩ : ∃ n, n = F.length := ⟨_, rfl⟩
  rw [← hn] at hFields hfl
  have hn' := hide hn
  have HF := hide hFields
  have hn3 : n ≤ 300000 := by omega
  clear hn hs hascii hshort hsz hfl ht he hFields
  go_enter Tryz.func13, Tryz.ntmps13
  go_wp2_with fail
  refine HF.out.mono ?_
  rintro e w0 ⟨rfl, rfl⟩
  obtain ⟨w1, hw1⟩ : ∃ w1, w1 = w.alloc (.cells (F.map fun l => Value.string ⟨l.toArray⟩).toArray 9) := ⟨_, rfl⟩
  have Hb := hide (Blk.new w 9 (F.map fun l => Value.string ⟨l.toArray⟩).toArray)
  have Hw := hide (below_new w (.cells (F.map fun l => Value.string ⟨l.toArray⟩).toArray 9))
  rw [← hw1] at Hb Hw ⊢
  have hlt1 : w.heap.size < w1.heap.size := Hb.out.lt
  clear hw1
  go_wp2_with fail
  go_loopw [3, 11] (fun v i wr => ∃ k : Nat, k ≤ n ∧ i = .int .i64 k ∧ Row wr w1.heap.size 3 1 encInt v ((F.take k).filterMap Lib.atoi) ∧ Below w1.heap.size w1 wr) (fun _ i _ => n - (intOf i).toNat)
  case atStart => exact ⟨0, Nat.zero_le _, rfl, Row.nil _ _ _ _ _, Below.refl _ _⟩
  case round =>
    obtain ⟨k, hk, rfl, hrow, hbr⟩ := hrel
    obtain ⟨A0, c0, rfl⟩ := hrow.val
    have hacc : ((F.take k).filterMap Lib.atoi).length ≤ k := Nat.le_trans (List.length_filterMap_le _ _) (List.length_take_le _ _)
    obtain ⟨acc, hac⟩ : ∃ acc, acc = (F.take k).filterMap Lib.atoi := ⟨_, rfl⟩
    rw [← hac] at hrow hacc ⊢
    have Hac := hide hac
    have Hrow := hide hrow
    clear hrow hac
    by_cases hlt : k < n
    · obtain ⟨x, hx⟩ : ∃ x, F[k]? = some x := ⟨_, List.getElem?_eq_getElem (by rw [← hn'.out]; exact hlt)⟩
      have hc : wr.cell? ⟨w.heap.size, k, none⟩ = some (.string ⟨x.toArray⟩) := by
        rw [hbr.cell (p := ⟨w.heap.size, k, none⟩) hlt1, Hb.out.cell k]
        simp [hx]
      have hx18 : (⟨x.toArray⟩ : ByteArray).size ≤ 18 := by
        have := Hshort.out x (mem_of_get hx)
        simpa [ByteArray.size] using this
      have hnext := take_snoc' hx
      have He2 := hide (He.out.carry ((Hw.out.mono hB).trans (hbr.mono (by omega))))
      have hsz := hbr.size
      cases hat : Lib.atoi x
      · have hat' := hide (show Lib.atoi (⟨x.toArray⟩ : ByteArray).data.toList = none from hat)
        have Hn := hide (show (F.take (k + 1)).filterMap Lib.atoi = acc by rw [hnext, List.filterMap_append, ← Hac.out]; simp [hat])
        clear hat hnext hx
        generalize (⟨x.toArray⟩ : ByteArray) = xb at *
        go_wp2_with fail
        refine (atoi_no xb _ hx18 hat'.out He2.out).mono ?_
        rintro e w2 ⟨g, rfl, hb2⟩
        have Hrow2 := hide (Hrow.out.keep hb2)
        have hb3 := hide (hbr.trans (hb2.mono hsz))
        clear hb2 hc
        go_wp2_with fail
        go_roundw
        case rel => exact ⟨k + 1, by omega, by go_num, by rw [Hn.out]; exact Hrow2.out, hb3.out⟩
        case measure => simp [intOf]; omega
      · rename_i m
        have hat' := hide (show Lib.atoi (⟨x.toArray⟩ : ByteArray).data.toList = some m from hat)
        have Hn := hide (show (F.take (k + 1)).filterMap Lib.atoi = acc ++ [m] by rw [hnext, List.filterMap_append, ← Hac.out]; simp [hat])
        clear hat hnext hx
        generalize (⟨x.toArray⟩ : ByteArray) = xb at *
        go_wp2_with fail
        refine (atoi_yes xb m _ hx18 hat'.out).mono ?_
        rintro e w2 ⟨rfl, hb2⟩
        have Hrow2 := hide (Hrow.out.keep hb2)
        have hb3 := hide (hbr.trans (hb2.mono hsz))
        have hsz2 := hb3.out.size
        clear hb2 hc
        go_wp2_with (at_builtin; refine wpList_append1 rfl (.tmp 22) (.tmp 24) 32 rfl w1.heap.size 3 (.int .i64 0) 1 8 encInt Tryz.underlying32 (by kernel_rfl) rfl (by omega) encInt_len encInt_one _ acc m rfl (Hrow2.out.alloc _) _ rfl (Blk.new w2 _ _) (by omega) (by omega) (le_alloc hsz2 _) ?_; intro A1 c1 w3 hrow3 hb4 _)
        go_roundw
        case rel => exact ⟨k + 1, by omega, by go_num, by rw [Hn.out]; simpa using hrow3, (hb3.out.alloc hsz2 _).trans hb4⟩
        case measure => simp [intOf]; omega
    · obtain rfl : k = n := by omega
      have hfull : acc = F.filterMap Lib.atoi := by rw [Hac.out, hn'.out, List.take_length]
      subst hfull
      go_wp2_with fail
      go_ret
      exact ⟨_, _, rfl, Row.read Hrow.out encInt_len (by omega), below_step Hw.out hbr (Nat.le_refl _), fun a ha => Nat.le_trans (Nat.le_of_lt hlt1) (Row.base_le Hrow.out a ha)⟩
theorem numbers_any (s : ByteArray) (w : World) (hf : LineFit s.data.toList) {B : Nat} (hB : B ≤ w.heap.size) (ht : TS B w) (he : EX B w) :
    Calls Tryz.prog 13 #[.string s] w fun e w' => ∃ A c, e = .returned (.slice A (lineNums s.data.toList).length c) ∧ Ints w' w'.heap.size A (lineNums s.data.toList) ∧ Below w.heap.size w w' := by
  refine (numbers_fresh s w hf hB ht he).mono ?_
  rintro e w' ⟨A, c, h1, h2, h3, _⟩
  exact ⟨A, c, h1, h2, h3⟩
end Go.Proofs.YtnhmdgkhmkeopaaGreatDoor
