/- The reference of layer 1: names. The references of layers 11 and 12: sizes, and how many dimensions a code has. The reference of layer 12: whether a bar is valid. The reference of layer 14: the place of a mark, whether a schedule is valid, the sum of its counts, and whether it is small. The reference of layer 16: where a laid bar stands, its line of the schedule. The references of layers 9, 15: coordinates, boxes, turns, points that are near. The reference of layer 12: the moves and the legs of a valid bar. The reference of layer 12: the moves of a valid bar. The reference of layer 12: the path of a valid bar. -/
import Derived.Test.YtmcjpdlkkpnhfaaGreatDoorQaa
import Derived.Lib.QuietBelow
import Derived.Test.YtmcjpdlkkpnhfaaGreatDoorQar
import Derived.Test.YtmcjpdlkkpnhfaaGreatDoorQaf
import Derived.BigRegion
import Derived.Deep.RegionHeld3
import Derived.StillTailTactics
import Derived.Test.YtmcjpdlkkpnhfaaGreatDoorQao
namespace Go.Proofs.YtmcjpdlkkpnhfaaGreatDoor
open Go.RowKit

set_option maxHeartbeats 400000 in
theorem refLetter_any (c : Int) (w : World) :
    Calls Tryz.prog 101 #[.int .u8 c] w fun e w' => e = .returned (.bool (isLetter c)) ∧ w = w' := by
  go_enter Tryz.func101, Tryz.ntmps101
  go_wp2
  all_goals
    go_ret
    exact ⟨ret_bool (by rw [Bool.eq_iff_iff]; simp [isLetter]; omega), rfl⟩

set_option maxHeartbeats 400000 in
theorem refDigit_any (c : Int) (w : World) :
    Calls Tryz.prog 141 #[.int .u8 c] w fun e w' => e = .returned (.bool (isDigit c)) ∧ w = w' := by
  go_enter Tryz.func141, Tryz.ntmps141
  go_wp2
  all_goals
    go_ret
    exact ⟨ret_bool (by rw [Bool.eq_iff_iff]; simp [isDigit]; try omega), rfl⟩

set_option maxHeartbeats 400000 in
theorem refWord_any (s : ByteArray) (i : Nat) (w : World) (hs : s.size ≤ maxLen) (hi : i ≤ s.size) :
    Calls Tryz.prog 102 #[.string s, .int .i64 i] w fun e w' => e = .returned (.int .i64 (i + wordLen (s.data.toList.drop i) : Nat)) ∧ w = w' := by
  unfold maxLen at hs
  go_enter Tryz.func102, Tryz.ntmps102
  go_wp2
  go_loop [1] (fun j => ∃ k : Nat, k ≤ s.size ∧ j = .int .i64 k ∧ Hid (k + wordLen (s.data.toList.drop k) = i + wordLen (s.data.toList.drop i))) (fun j => s.size - (intOf j).toNat)
  case atStart => exact ⟨i, hi, rfl, hide rfl⟩
  case round =>
    obtain ⟨k, hk, rfl, hw⟩ := hrel
    by_cases hlt : k < s.size
    · have hd := hide (drop_at s k hlt)
      go_wp2_with (first | (go_at_call 101; refine (refLetter_any _ _).mono ?_; rintro e w' ⟨rfl, rfl⟩) | (go_at_call 141; refine (refDigit_any _ _).mono ?_; rintro e w' ⟨rfl, rfl⟩))
      all_goals first
        | (go_ret
           exact ⟨ret_int (by have h1 := hw.out; rw [hd.out, wordLen_cons, if_neg (by simp_all [isWord])] at h1; omega), rfl⟩)
        | (go_round
           case rel => exact ⟨k + 1, by omega, by go_num, hide (by have h1 := hw.out; rw [hd.out, wordLen_cons, if_pos (by simp_all [isWord])] at h1; omega)⟩
           case measure => simp [intOf]; omega)
    · go_wp2
      go_ret
      exact ⟨ret_int (by have h1 := hw.out; rw [List.drop_eq_nil_of_le (by simp; omega)] at h1; simp [wordLen] at h1 ⊢; omega), rfl⟩

theorem refWord0_any (s : ByteArray) (w : World) (hs : s.size ≤ maxLen) :
    Calls Tryz.prog 102 #[.string s, .int .i64 0] w fun e w' => e = .returned (.int .i64 (wordLen s.data.toList)) ∧ w = w' := by
  have h := refWord_any s 0 w hs (Nat.zero_le _)
  simpa using h

set_option maxHeartbeats 400000 in
theorem refIsName_any (s : ByteArray) (w : World) (hs : s.size ≤ maxLen) :
    Calls Tryz.prog 64 #[.string s] w fun e w' => e = .returned (.bool (isName s)) ∧ w = w' := by
  by_cases h0 : s.size = 0
  · have hn := hide (show isName s = false by simp [isName, h0])
    have he : ((s.size : Int) == 0) = true := by simp [h0]
    clear hs h0
    go_enter Tryz.func64, Tryz.ntmps64
    go_wp2_with fail
    go_ret
    exact ⟨ret_bool (by rw [hn.out]), rfl⟩
  · obtain ⟨c, r, hl⟩ : ∃ c r, s.data.toList = c :: r := by
      cases h : s.data.toList with
      | nil => exfalso; have : s.data.toList.length = s.size := by simp
               rw [h] at this; simp at this; omega
      | cons c r => exact ⟨c, r, rfl⟩
    have hn := hide (isName_cons hl)
    have hp : 0 < s.size := by omega
    have hc : s[0]'hp = c := by
      have : s.data.toList[0]? = some c := by rw [hl]; rfl
      have h2 : s.data.toList[0]? = some (s[0]'hp) := List.getElem?_eq_getElem (by simp; omega)
      rw [h2] at this; injection this
    have he : ((s.size : Int) == 0) = false := beq_eq_false_iff_ne.2 (by omega)
    have HC := hide hc
    have HL := hide hl
    clear h0 hc hl
    go_enter Tryz.func64, Tryz.ntmps64
    go_wp2_with (first | (go_at_call 101; refine (refLetter_any _ _).mono ?_; rintro e w' ⟨rfl, rfl⟩) | (go_at_call 102; refine (refWord0_any s _ hs).mono ?_; rintro e w' ⟨rfl, rfl⟩))
    all_goals
      go_ret
      refine ⟨ret_bool ?_, rfl⟩
      rw [hn.out, ← HL.out, ← HC.out, Bool.eq_iff_iff]
      simp_all
      all_goals first
        | omega
        | (intro h1 h2
           exfalso
           have h3 : 20 < (s.size : Int) ∨ isLetter (s[0].toNat : Int) = false := by assumption
           rcases h3 with h3 | h3
           · omega
           · rw [h2] at h3; cases h3)

end Go.Proofs.YtmcjpdlkkpnhfaaGreatDoor
namespace Go.Proofs.YtmcjpdlkkpnhfaaGreatDoor
open Go.RowKit

set_option maxHeartbeats 400000 in
theorem refSizes_any (w : World) :
    Calls Tryz.prog 173 #[] w fun e w' => ∃ A, e = .returned (.slice A 9 9) ∧ Ints w' w'.heap.size A steelSizes ∧ Below w.heap.size w w' := by
  go_enter Tryz.func173, Tryz.ntmps173
  go_wp2
  go_ret
  exact ⟨_, rfl, SlOf.lit encInt_len _ _ _ _ rfl (by simp), below_new _ _⟩

set_option maxHeartbeats 400000 in
theorem refSize_any (d : Int) (w : World) :
    Calls Tryz.prog 142 #[.int .i64 d] w fun e w' => e = .returned (.bool (isSize d)) ∧ Below w.heap.size w w' := by
  go_enter Tryz.func142, Tryz.ntmps142
  go_wp2_with fail
  refine (refSizes_any _).mono ?_
  rintro e w1 ⟨S, rfl, hS, hb1⟩
  go_wp2_with fail
  go_loop [4] (fun i => ∃ k : Nat, k ≤ 9 ∧ i = .int .i64 k ∧ NoneTo (fun y => y == d) steelSizes k) (fun i => 9 - (intOf i).toNat)
  case atStart => exact ⟨0, Nat.zero_le _, rfl, NoneTo.zero _ _⟩
  case round =>
    obtain ⟨k, hk, rfl, hn⟩ := hrel
    by_cases hlt : k < 9
    · obtain ⟨b, off, y, rfl, hbl, hy, hc⟩ := hS.get (k := k) hlt
      have Hy := hide hy
      have Hb1 := hide hb1
      clear hy hbl hS hb1
      go_wp2_with fail
      · go_ret
        refine ⟨ret_bool ?_, Hb1.out⟩
        have h1 : (y == d) = true := by assumption
        have := mem_of_get Hy.out
        have h2 : y = d := by simpa using h1
        rw [isSize, has]; simp; rw [← h2]; exact this
      · go_round
        case rel => exact ⟨k + 1, by omega, by go_num, hn.succ Hy.out (by assumption)⟩
        case measure => simp [intOf]; omega
    · obtain rfl : k = 9 := by omega
      go_wp2_with fail
      go_ret
      refine ⟨ret_bool ?_, hb1⟩
      have h1 := NoneTo.miss (p := fun y => y == d) (l := steelSizes) hn
      have h2 := idx_any (fun y => y == d) steelSizes
      rw [h1] at h2
      rw [isSize, has]
      simp at h2 ⊢
      exact fun h => h2 _ h rfl

def refDims (code : Int) : Int := if code = 0 then 1 else if code = 11 then 2 else if code = 21 ∨ code = 26 ∨ code = 31 ∨ code = 51 ∨ code = 98 then 3 else if code = 41 then 5 else 0
theorem refDims_eq (code : Int) : refDims code = dimsN code := by
  unfold refDims
  by_cases h0 : code = 0
  · subst h0; rfl
  by_cases h1 : code = 11
  · subst h1; rfl
  by_cases h2 : code = 21
  · subst h2; rfl
  by_cases h3 : code = 26
  · subst h3; rfl
  by_cases h4 : code = 31
  · subst h4; rfl
  by_cases h5 : code = 51
  · subst h5; rfl
  by_cases h6 : code = 98
  · subst h6; rfl
  by_cases h7 : code = 41
  · subst h7; rfl
  simp [h0, h1, h2, h3, h4, h5, h6, h7, dimsN, legsOf]

set_option maxHeartbeats 400000 in
theorem refDims_any (code : Int) (w : World) :
    Calls Tryz.prog 143 #[.int .i64 code] w fun e w' => e = .returned (.int .i64 (dimsN code)) ∧ w = w' := by
  rw [← refDims_eq]
  go_enter Tryz.func143, Tryz.ntmps143
  go_wp2_with fail
  all_goals
    go_ret
    exact ⟨ret_int (by unfold refDims; simp_all), rfl⟩
end Go.Proofs.YtmcjpdlkkpnhfaaGreatDoor
namespace Go.Proofs.YtmcjpdlkkpnhfaaGreatDoor
open Go.RowKit

def okFrom : Int → List Int → Bool
  | s, [] => decide (s ≤ 262144)
  | s, d :: r => decide (1 ≤ d) && decide (d ≤ 1048576) && okFrom (s + d) r
theorem okFrom_big : ∀ (l : List Int) (s : Int), 262144 < s → okFrom s l = false := by
  intro l
  induction l with
  | nil => intro s h; simp [okFrom]; omega
  | cons d r ih =>
    intro s h
    rw [okFrom]
    by_cases hd : 1 ≤ d
    · rw [ih (s + d) (by omega)]; simp
    · simp [hd]
theorem okFrom_fits : ∀ (l : List Int) (s : Int), s ≤ 262144 → 0 ≤ s → okFrom s l = fits (262144 - s) l := by
  intro l
  induction l with
  | nil => intro s h _; simp [okFrom, fits, h]
  | cons d r ih =>
    intro s h h0
    rw [okFrom, fits]
    by_cases hd : 1 ≤ d
    · by_cases hr : d ≤ 262144 - s
      · rw [ih (s + d) (by omega) (by omega), show 262144 - (s + d) = 262144 - s - d by omega]
        simp [hd, hr]; omega
      · rw [okFrom_big r (s + d) (by omega)]; simp [hr]
    · simp [hd]
set_option maxHeartbeats 1000000 in
theorem refBarValid_any (x : BarD) (A : Option Addr) (c : Nat) (w : World) {B : Nat} (hA : Ints w B A x.dims) (hB : B ≤ w.heap.size) (hm : x.mark.size ≤ maxLen) (hd : x.dims.length ≤ 60000) :
    Calls Tryz.prog 104 #[.agg #[.string x.mark, .int .i64 x.size, .int .i64 x.count, .int .i64 x.code, .slice A x.dims.length c]] w fun e w' => e = .returned (.bool (barOk x)) ∧ Below w.heap.size w w' := by
  rw [barOk_pre]
  obtain ⟨mark, size, count, code, dims⟩ := x
  simp only at hA hm hd ⊢
  have b0 := Blk.new w 86 #[.string mark, .int .i64 size, .int .i64 count, .int .i64 code, .slice A dims.length c]
  have c0 := cell_regrown ((b0.cell 0).trans rfl)
  have c1 := cell_regrown ((b0.cell 1).trans rfl)
  have c2 := cell_regrown ((b0.cell 2).trans rfl)
  have c3 := cell_regrown ((b0.cell 3).trans rfl)
  have c4 := cell_regrown ((b0.cell 4).trans rfl)
  have cN := fun W => refIsName_any mark W hm
  have cS := fun W => refSize_any size W
  have hf : barPre ⟨mark, size, count, code, dims⟩ = (decide (dimsE code = 0) && isName mark && isSize size && decide (1 ≤ count) && decide (count ≤ 1000) && decide ((dims.length : Int) = dimsN code)) := rfl
  rw [hf]
  clear b0 hf
  have CS := hide cS
  cases hN : isName mark
  · rw [hN] at cN
    have CN := hide cN
    rw [show (decide (dimsE code = 0) && false && isSize size && decide (1 ≤ count) && decide (count ≤ 1000) && decide ((dims.length : Int) = dimsN code) && fits 262144 dims) = false by simp]
    clear cN cS hN hA
    go_enter Tryz.func104, Tryz.ntmps104
    go_wp2_with fail
    refine wp_region_quiet_below (by kernel_rfl) (by kernel_rfl) ?_
    repeat (go_big_quiet_step (first
      | (go_at_call 64; exact regrown_same (CN.out _))
      | (go_at_call 142; exact Calls.regrown_of (CS.out _))
      | (go_at_call 143; exact regrown_same (refDims_any _ _))))
    refine wpQuiet_nil ?_
    intro w2 hw'
    have hbq := hide (show Below _ _ w2 by obtain ⟨p, rfl⟩ := hw'; exact below_regrown _ _ _)
    clear hw'
    go_wp2_with fail
    go_ret
    exact ⟨rfl, below_step (below_new _ _) hbq.out (Nat.le_refl _)⟩
  rw [hN] at cN
  have CN := hide cN
  clear cN hN
  cases hS : isSize size
  · rw [hS] at cS
    have CS := hide cS
    rw [show (decide (dimsE code = 0) && true && false && decide (1 ≤ count) && decide (count ≤ 1000) && decide ((dims.length : Int) = dimsN code) && fits 262144 dims) = false by simp]
    clear cS hS hA
    go_enter Tryz.func104, Tryz.ntmps104
    go_wp2_with fail
    refine wp_region_quiet_below (by kernel_rfl) (by kernel_rfl) ?_
    repeat (go_big_quiet_step (first
      | (go_at_call 64; exact regrown_same (CN.out _))
      | (go_at_call 142; exact Calls.regrown_of (CS.out _))
      | (go_at_call 143; exact regrown_same (refDims_any _ _))))
    refine wpQuiet_nil ?_
    intro w2 hw'
    have hbq := hide (show Below _ _ w2 by obtain ⟨p, rfl⟩ := hw'; exact below_regrown _ _ _)
    clear hw'
    go_wp2_with fail
    go_ret
    exact ⟨rfl, below_step (below_new _ _) hbq.out (Nat.le_refl _)⟩
  rw [hS] at cS
  have CS := hide cS
  clear cS hS
  by_cases h3 : count < 1
  · rw [show (decide (dimsE code = 0) && true && true && decide (1 ≤ count) && decide (count ≤ 1000) && decide ((dims.length : Int) = dimsN code) && fits 262144 dims) = false by rw [show decide (1 ≤ count) = false by simp; omega]; simp]
    have hd3 : decide (count < 1) = true := by simpa using h3
    clear hA
    go_enter Tryz.func104, Tryz.ntmps104
    go_wp2_with fail
    refine wp_region_quiet_below (by kernel_rfl) (by kernel_rfl) ?_
    repeat (go_big_quiet_step (first
      | (go_at_call 64; exact regrown_same (CN.out _))
      | (go_at_call 142; exact Calls.regrown_of (CS.out _))
      | (go_at_call 143; exact regrown_same (refDims_any _ _))))
    refine wpQuiet_nil ?_
    intro w2 hw'
    have hbq := hide (show Below _ _ w2 by obtain ⟨p, rfl⟩ := hw'; exact below_regrown _ _ _)
    clear hw'
    go_wp2_with fail
    go_ret
    exact ⟨rfl, below_step (below_new _ _) hbq.out (Nat.le_refl _)⟩
  have h3' : 1 ≤ count := by omega
  have hd3 : decide (count < 1) = false := by simp; omega
  clear h3
  by_cases h4 : 1000 < count
  · rw [show (decide (dimsE code = 0) && true && true && decide (1 ≤ count) && decide (count ≤ 1000) && decide ((dims.length : Int) = dimsN code) && fits 262144 dims) = false by rw [show decide (count ≤ 1000) = false by simp; omega]; simp]
    have hd4 : decide (1000 < count) = true := by simpa using h4
    clear hA
    go_enter Tryz.func104, Tryz.ntmps104
    go_wp2_with fail
    refine wp_region_quiet_below (by kernel_rfl) (by kernel_rfl) ?_
    repeat (go_big_quiet_step (first
      | (go_at_call 64; exact regrown_same (CN.out _))
      | (go_at_call 142; exact Calls.regrown_of (CS.out _))
      | (go_at_call 143; exact regrown_same (refDims_any _ _))))
    refine wpQuiet_nil ?_
    intro w2 hw'
    have hbq := hide (show Below _ _ w2 by obtain ⟨p, rfl⟩ := hw'; exact below_regrown _ _ _)
    clear hw'
    go_wp2_with fail
    go_ret
    exact ⟨rfl, below_step (below_new _ _) hbq.out (Nat.le_refl _)⟩
  have h4' : count ≤ 1000 := by omega
  have hd4 : decide (1000 < count) = false := by simp; omega
  clear h4
  by_cases h5 : dimsN code = 0
  · rw [show (decide (dimsE code = 0) && true && true && decide (1 ≤ count) && decide (count ≤ 1000) && decide ((dims.length : Int) = dimsN code) && fits 262144 dims) = false by simp [dimsE, h5]]
    have h5' : (dimsN code == 0) = true := by simpa using h5
    clear hA h5
    go_enter Tryz.func104, Tryz.ntmps104
    go_wp2_with fail
    refine wp_region_quiet_below (by kernel_rfl) (by kernel_rfl) ?_
    repeat (go_big_quiet_step (first
      | (go_at_call 64; exact regrown_same (CN.out _))
      | (go_at_call 142; exact Calls.regrown_of (CS.out _))
      | (go_at_call 143; exact regrown_same (refDims_any _ _))))
    refine wpQuiet_nil ?_
    intro w2 hw'
    have hbq := hide (show Below _ _ w2 by obtain ⟨p, rfl⟩ := hw'; exact below_regrown _ _ _)
    clear hw'
    go_wp2_with fail
    go_ret
    exact ⟨rfl, below_step (below_new _ _) hbq.out (Nat.le_refl _)⟩
  have h5' : (dimsN code == 0) = false := by simpa using h5
  have h5e : dimsE code = 0 := by simp [dimsE, h5]
  by_cases h6 : (dims.length : Int) = dimsN code
  · have h6' : ((dims.length : Int) != dimsN code) = false := by simp [h6]
    rw [show (decide (dimsE code = 0) && true && true && decide (1 ≤ count) && decide (count ≤ 1000) && decide ((dims.length : Int) = dimsN code) && fits 262144 dims) = fits 262144 dims by simp [h5e, h3', h4', h6]]
    have hlen : dims.length ≤ 5 := by
      have : dimsN code ≤ 5 := by
        rw [← refDims_eq]; unfold refDims; (repeat' split) <;> omega
      omega
    clear h5 h5e h6
    have hA' := hide hA
    clear hA
    rw [show fits 262144 dims = okFrom 0 dims by rw [okFrom_fits _ _ (by omega) (by omega)]; rfl]
    go_enter Tryz.func104, Tryz.ntmps104
    go_wp2_with fail
    refine wp_region_quiet_below (by kernel_rfl) (by kernel_rfl) ?_
    repeat (go_big_quiet_step (first
      | (go_at_call 64; exact regrown_same (CN.out _))
      | (go_at_call 142; exact Calls.regrown_of (CS.out _))
      | (go_at_call 143; exact regrown_same (refDims_any _ _))))
    refine wpQuiet_nil ?_
    intro w2 hw'
    have hbq := hide (show Below _ _ w2 by obtain ⟨p, rfl⟩ := hw'; exact below_regrown _ _ _)
    clear hw'
    have hbw := hide (below_step (below_new w _) hbq.out (Nat.le_refl _))
    have hA2 := hide (hA'.out.carry (hbw.out.mono hB) (Nat.le_refl _))
    have d4 := ((Blk.new w 86 #[.string mark, .int .i64 size, .int .i64 count, .int .i64 code, .slice A dims.length c]).keep hbq.out).cell 4
    simp at d4
    clear c0 c1 c2 c3 c4 hA' hbq
    go_wp2_with fail
    go_loop [3, 4] (fun t i => ∃ k : Nat, k ≤ dims.length ∧ i = .int .i64 k ∧ ∃ s : Int, 0 ≤ s ∧ s ≤ 1048576 * k ∧ t = .int .i64 s ∧ Hid (okFrom 0 dims = okFrom s (dims.drop k))) (fun _ i => dims.length - (intOf i).toNat)
    case atStart => exact ⟨0, Nat.zero_le _, rfl, 0, by omega, by omega, rfl, hide rfl⟩
    case round =>
      obtain ⟨k, hk, rfl, s, hs0, hs1, rfl, hf⟩ := hrel
      by_cases hlt : k < dims.length
      · obtain ⟨b, off, y, rfl, hbl, hy, hc⟩ := hA2.out.get (k := k) hlt
        have Hf := hide (hf.out.trans (by rw [drop_at' hy, okFrom]))
        clear hy hbl hA2 hf
        go_wp2_with fail
        all_goals first
          | (go_ret; exact ⟨ret_bool (by rw [Hf.out]; simp_all <;> omega), hbw.out⟩)
          | (go_round
             case rel => exact ⟨k + 1, by omega, by go_num, s + y, by omega, by omega, rfl, hide (by rw [Hf.out]; simp_all)⟩
             case measure => simp [intOf]; omega)
      · obtain rfl : k = dims.length := by omega
        go_wp2_with fail
        go_ret
        exact ⟨ret_bool (by rw [hf.out]; simp [okFrom]), hbw.out⟩
  · have h6' : ((dims.length : Int) != dimsN code) = true := by simp [h6]
    rw [show (decide (dimsE code = 0) && true && true && decide (1 ≤ count) && decide (count ≤ 1000) && decide ((dims.length : Int) = dimsN code) && fits 262144 dims) = false by simp [h6]]
    clear hA h5 h5e h6
    go_enter Tryz.func104, Tryz.ntmps104
    go_wp2_with fail
    refine wp_region_quiet_below (by kernel_rfl) (by kernel_rfl) ?_
    repeat (go_big_quiet_step (first
      | (go_at_call 64; exact regrown_same (CN.out _))
      | (go_at_call 142; exact Calls.regrown_of (CS.out _))
      | (go_at_call 143; exact regrown_same (refDims_any _ _))))
    refine wpQuiet_nil ?_
    intro w2 hw'
    have hbq := hide (show Below _ _ w2 by obtain ⟨p, rfl⟩ := hw'; exact below_regrown _ _ _)
    clear hw'
    go_wp2_with fail
    go_ret
    exact ⟨rfl, below_step (below_new _ _) hbq.out (Nat.le_refl _)⟩
end Go.Proofs.YtmcjpdlkkpnhfaaGreatDoor
namespace Go.Proofs.YtmcjpdlkkpnhfaaGreatDoor
open Go.RowKit

set_option maxHeartbeats 400000 in
theorem refFind_any (A : Option Addr) (l : List BarD) (n c : Nat) (m : ByteArray) (w : World) {B : Nat} (h : BarsAt w B A l) (hn : n = l.length) (hm : n ≤ 60000) :
    Calls Tryz.prog 105 #[.slice A n c, .string m] w fun e w' => e = .returned (.int .i64 (idx (markIs m) l)) ∧ w = w' := by
  have hn' := hide hn
  have Hs := hide h
  clear hn h
  go_enter Tryz.func105, Tryz.ntmps105
  go_wp2_with fail
  go_loop [5] (fun i => ∃ k : Nat, k ≤ n ∧ i = .int .i64 k ∧ NoneTo (markIs m) l k) (fun i => n - (intOf i).toNat)
  case atStart => exact ⟨0, Nat.zero_le _, rfl, NoneTo.zero _ _⟩
  case round =>
    obtain ⟨k, hk, rfl, hw⟩ := hrel
    by_cases hlt : k < n
    · obtain ⟨b, off, x, A', c', hA, hbl, hx, hi, h0, h1, h2, h3, h4⟩ := BarsAt.get (k := k) Hs.out (by rw [← hn'.out]; exact hlt)
      subst hA
      have Hx := hide hx
      clear hx hi hbl h1 h2 h3 h4
      cases hp : markIs m x
      · have Hp := hide hp
        have hq : (x.mark.toList == m.toList) = false := hp
        clear hp
        go_wp2_with fail
        go_round
        case rel => exact ⟨k + 1, by omega, by go_num, hw.succ Hx.out Hp.out⟩
        case measure => simp [intOf]; omega
      · have Hp := hide hp
        have hq : (x.mark.toList == m.toList) = true := hp
        clear hp
        go_wp2_with fail
        go_ret
        exact ⟨ret_int (hw.hit Hx.out Hp.out).symm, rfl⟩
    · obtain rfl : k = n := by omega
      go_wp2_with fail
      go_ret
      exact ⟨ret_int (NoneTo.miss (by rw [← hn'.out]; exact hw)).symm, rfl⟩

set_option maxHeartbeats 1000000 in
theorem refSchedValid_any (A : Option Addr) (l : List BarD) (n c : Nat) (w : World) {B : Nat} (h : BarsAt w B A l) (hB : B ≤ w.heap.size) (hn : n = l.length) (hg : Tame l) (hm : n ≤ 60000) :
    Calls Tryz.prog 66 #[.slice A n c] w fun e w' => e = .returned (.bool (schedOk l)) ∧ Below w.heap.size w w' := by
  have hn' := hide hn
  have Hg := hide hg
  by_cases h60 : n ≤ 60
  · have hs : schedOk l = schedFrom l 0 l := by simp [schedOk, ← hn, h60]
    rw [hs]
    clear hs hn hg hm
    go_enter Tryz.func66, Tryz.ntmps66
    go_wp2_with fail
    go_loopw [3] (fun i wr => ∃ k : Nat, k ≤ n ∧ i = .int .i64 k ∧ Hid (schedFrom l 0 l = schedFrom l k (l.drop k)) ∧ Below w.heap.size w wr) (fun i _ => n - (intOf i).toNat)
    case atStart => exact ⟨0, Nat.zero_le _, rfl, hide rfl, Below.refl _ _⟩
    case round =>
      obtain ⟨k, hk, rfl, hw, hb⟩ := hrel
      by_cases hlt : k < n
      · have HR := hide (h.carry (hb.mono hB) (Nat.le_refl _))
        have hBr := Nat.le_trans hB hb.size
        obtain ⟨b, off, x, A', c', hA, hbl, hx, hi, h0, h1, h2, h3, h4⟩ := BarsAt.get (k := k) HR.out (by rw [← hn'.out]; exact hlt)
        have HA := hide hA
        subst hA
        have Hx := hide hx
        have hgx := Hg.out x (mem_of_get hx)
        have Hw := hide (hw.out.trans (by rw [drop_at' hx, schedFrom]))
        have Hi := hide hi
        clear hx hi h hw
        go_wp2_with fail
        refine (refBarValid_any x A' c' _ Hi.out hBr hgx.1 hgx.2).mono ?_
        rintro e w1 ⟨rfl, hb1⟩
        have c0 := (hb1.cell (p := ⟨b, off + k * 5, none⟩) (Nat.lt_of_lt_of_le hbl hBr)).trans h0
        have hbw1 := hide (below_step hb hb1 (Nat.le_refl _))
        have hB1 := hide (HR.out.carry (hb1.mono hBr) (Nat.le_refl _))
        clear h0 h1 h2 h3 h4 hb1 HR Hi
        cases hp : barOk x
        · have Hp := hide hp
          clear hp
          go_wp2_with fail
          go_ret
          exact ⟨ret_bool (by rw [Hw.out, Hp.out]; rfl), hbw1.out⟩
        · have Hp := hide hp
          clear hp
          go_wp2_with fail
          refine (refFind_any _ l n c x.mark _ hB1.out hn'.out (by omega)).mono ?_
          rintro e w2 ⟨rfl, rfl⟩
          clear c0
          cases hq : decide (idx (markIs x.mark) l = k)
          · have Hq := hide hq
            have hq' : (idx (markIs x.mark) l != (k : Int)) = true := by simpa using hq
            clear hq
            go_wp2_with fail
            go_ret
            exact ⟨ret_bool (by rw [Hw.out, Hp.out, Hq.out]; rfl), hbw1.out⟩
          · have Hq := hide hq
            have hq' : (idx (markIs x.mark) l != (k : Int)) = false := by simpa using hq
            clear hq
            go_wp2_with fail
            go_roundw
            case rel => exact ⟨k + 1, by omega, by go_num, hide (by rw [Hw.out, Hp.out, Hq.out]; rfl), hbw1.out⟩
            case measure => simp [intOf]; omega
      · obtain rfl : k = n := by omega
        go_wp2_with fail
        go_ret
        exact ⟨ret_bool (by rw [hw.out, List.drop_of_length_le (by rw [← hn'.out]; exact Nat.le_refl _)]; rfl), hb⟩
  · have hs : schedOk l = false := by simp [schedOk, ← hn, h60]
    rw [hs]
    clear hs hn hg
    go_enter Tryz.func66, Tryz.ntmps66
    go_wp2_with fail
    go_ret
    exact ⟨rfl, Below.refl _ _⟩
end Go.Proofs.YtmcjpdlkkpnhfaaGreatDoor
namespace Go.Proofs.YtmcjpdlkkpnhfaaGreatDoor
open Go.RowKit

theorem laid_cons {bars : List BarD} {r : RunD} {l : List RunD} {t : Nat} {ld : LaidD} (hr : runOk bars r = true) (h : (laidAll bars (r :: l))[t]? = some ld) :
    ((t : Int) < r.count → runBar bars r = some ld.bar ∧ ld.pts = ptsOf ld.bar r t) ∧ (r.count ≤ (t : Int) → (laidAll bars l)[t - r.count.toNat]? = some ld) := by
  obtain ⟨j, x, _, _, hx, _⟩ := runOk_bar hr
  have hc := runOk_count hr
  have e : laidAll bars (r :: l) = laidTo x r r.count.toNat ++ laidAll bars l := by rw [← laidRun_of hx]; simp [laidAll]
  rw [e] at h
  constructor
  · intro ht
    have ht' : t < r.count.toNat := by omega
    rw [List.getElem?_append_left (by rw [laidTo_len]; exact ht')] at h
    simp [laidTo, ht'] at h
    subst h
    exact ⟨hx, rfl⟩
  · intro ht
    rw [List.getElem?_append_right (by rw [laidTo_len]; omega), laidTo_len] at h
    exact h
theorem laid_some {bars : List BarD} {runs : List RunD} {k t : Nat} {ld : LaidD} (h : (laidAll bars (runs.drop k))[t]? = some ld) : k < runs.length := by
  rcases Nat.lt_or_ge k runs.length with h1 | h1
  · exact h1
  · rw [List.drop_of_length_le h1] at h
    simp [laidAll] at h
set_option maxHeartbeats 2000000 in
theorem refPlaceL_ok (bars : List BarD) (A : Option Addr) (runs : List RunD) (n c i : Nat) (ld : LaidD) (w : World) {B : Nat} (h : RunsAt w B A runs) (hn : n = runs.length) (hm : n ≤ 60) (hok : ∀ r ∈ runs, runOk bars r = true) (hi : (laidAll bars runs)[i]? = some ld) (hi9 : i ≤ 100000) :
    Calls Tryz.prog 178 #[.slice A n c, .int .i64 i] w fun e w' => ∃ (k j : Nat) (r : RunD), e = .returned (.tuple #[.int .i64 k, .int .i64 j]) ∧ k < n ∧ runs[k]? = some r ∧ (j : Int) < r.count ∧ runBar bars r = some ld.bar ∧ ld.pts = ptsOf ld.bar r j ∧ w = w' := by
  have H2 := hide h
  have hn2' := hide hn
  have Hc := hide (fun (r : RunD) (hr : r ∈ runs) => runOk_count (hok r hr))
  have Hs := hide (fun (k t : Nat) (r : RunD) (hr : runs[k]? = some r) (ht : (laidAll bars (runs.drop k))[t]? = some ld) => laid_cons (l := runs.drop (k + 1)) (hok r (mem_of_get hr)) (by rw [← drop_at' hr]; exact ht))
  have Hi := hide (show (laidAll bars (runs.drop 0))[i]? = some ld from hi)
  clear h hn hok hi
  go_enter Tryz.func178, Tryz.ntmps178
  go_wp2_with fail
  go_loop [6, 1] (fun kv iv => ∃ k t : Nat, kv = .int .i64 k ∧ iv = .int .i64 t ∧ t ≤ 100000 ∧ Hid ((laidAll bars (runs.drop k))[t]? = some ld)) (fun kv _ => n - (intOf kv).toNat)
  case atStart => exact ⟨0, i, rfl, rfl, hi9, Hi⟩
  case round =>
    obtain ⟨k, t, rfl, rfl, ht9, hk⟩ := hrel
    have hlt : k < n := by rw [hn2'.out]; exact laid_some hk.out
    obtain ⟨b, off, r, rfl, hbl, hx, hc⟩ := RunsAt.get (k := k) H2.out (by rw [← hn2'.out]; exact hlt)
    obtain ⟨hc0, hc1⟩ := Hc.out r (mem_of_get hx)
    have p9 := hc 9 _ rfl
    have hh := Hs.out k t r hx hk.out
    have H1 := hide hh.1
    have H3 := hide hh.2
    have Hx := hide hx
    obtain ⟨mark, tx, ty, ⟨a1, a2, a3⟩, ⟨s1, s2, s3⟩, cnt⟩ := r
    simp only at p9 hc0 hc1 H1 H3
    clear hx hbl hc hh
    by_cases hge : cnt ≤ (t : Int)
    · have d0 : decide (cnt ≤ (t : Int)) = true := by simpa using hge
      have Hr := hide (H3.out hge)
      have hz : IntKind.i64.wrap ((t : Int) - cnt) = ((t - cnt.toNat : Nat) : Int) := by
        rw [IntWalk.i64_in _ (by omega)]; omega
      clear hge
      go_wp2_with fail
      go_round
      case rel => exact ⟨k + 1, t - cnt.toNat, by go_num, rfl, by omega, Hr⟩
      case measure => simp [intOf]; omega
    · have d0 : decide (cnt ≤ (t : Int)) = false := by simpa using hge
      have Hr := hide (H1.out (by omega))
      have hg : (t : Int) < cnt := by omega
      clear hge
      go_wp2_with fail
      go_ret2
      exact ⟨k, t, rfl, hlt, _, Hx.out, hg, Hr.out.1, Hr.out.2, rfl⟩
theorem find_bar {bars : List BarD} {r : RunD} {x : BarD} (h : runOk bars r = true) (hx : runBar bars r = some x) : ∃ j : Nat, idx (markIs r.mark) bars = (j : Int) ∧ bars[j]? = some x := by
  obtain ⟨j, y, hj, hy, hb, _⟩ := runOk_bar h
  rw [hx] at hb
  injection hb with hb
  subst hb
  exact ⟨j, hj, hy⟩
set_option maxHeartbeats 4000000 in
set_option maxRecDepth 100000 in
theorem refBar_ok (A3 A4 : Option Addr) (bars : List BarD) (runs : List RunD) (n3 c3 n4 c4 i : Nat) (ld : LaidD) (w : World) {B : Nat} (h3 : BarsAt w B A3 bars) (h4 : RunsAt w B A4 runs) (hB : B ≤ w.heap.size) (l3 : n3 = bars.length) (l4 : n4 = runs.length) (m3 : n3 ≤ 60000) (hok : laidOk bars runs = true) (hi : (laidAll bars runs)[i]? = some ld) :
    Calls Tryz.prog 179 #[.slice A3 n3 c3, .slice A4 n4 c4, .int .i64 i] w fun e w' => ∃ A c, e = .returned (barV ld.bar A c) ∧ Ints w' B A ld.bar.dims ∧ Below w.heap.size w w' := by
  obtain ⟨_, hlen, hruns⟩ := laidOk_mem hok
  have hi9 : i ≤ 100000 := by have := (laidOk_len hok).2; have := lt_of_get hi; omega
  have HP := hide (fun (W : World) (hz : Below w.heap.size w W) => refPlaceL_ok bars A4 runs n4 c4 i ld W (h4.carry (Flat.carried _) (hz.mono hB) (Nat.le_refl _)) l4 (by omega) hruns hi hi9)
  have HF := hide (fun (m : ByteArray) (W : World) (hz : Below w.heap.size w W) => refFind_any A3 bars n3 c3 m W (h3.carry (hz.mono hB) (Nat.le_refl _)) l3 m3)
  have Hfb := hide (fun (k : Nat) (r : RunD) (hk : runs[k]? = some r) (hx : runBar bars r = some ld.bar) => find_bar (hruns r (mem_of_get hk)) hx)
  have H3 := hide h3
  have H4 := hide h4
  have L3 := hide l3
  have L4 := hide l4
  have KR := hide (Blk.new w 86 #[.string .empty, .int .i64 0, .int .i64 0, .int .i64 0, .slice none 0 0])
  have HW := hide (below_new w (.cells #[.string .empty, .int .i64 0, .int .i64 0, .int .i64 0, .slice none 0 0] 86))
  clear h3 h4 l3 l4 hok hi hruns hlen
  go_enter Tryz.func179, Tryz.ntmps179
  go_wp2_with fail
  refine (HP.out _ HW.out).mono ?_
  rintro e w1 ⟨k, j, r, rfl, hk, hx, hj, hrb, hpts, rfl⟩
  obtain ⟨q, hq, hy⟩ := Hfb.out k r hx hrb
  have HWr := HW.out
  obtain ⟨b, off, r', rfl, hbl, hx', hc⟩ := RunsAt.get (k := k) (H4.out.carry (Flat.carried _) (HWr.mono hB) (Nat.le_refl _)) (by rw [← L4.out]; exact hk)
  rw [hx] at hx'
  injection hx' with hx'
  subst hx'
  have p0 := hc 0 _ rfl
  simp only [Nat.add_zero] at p0
  obtain ⟨b3, off3, y, A', c', hA3, hbl3, hy', hdi, f0, f1, f2, f3, f4⟩ := BarsAt.get (k := q) H3.out (lt_of_get hy)
  rw [hy] at hy'
  injection hy' with hy'
  subst hy'
  subst hA3
  have hbw : b3 < w.heap.size := Nat.lt_of_lt_of_le hbl3 hB
  have f0 := (HWr.cell (p := ⟨b3, off3 + q * 5, none⟩) hbw).trans f0
  have f1 := (HWr.cell (p := ⟨b3, off3 + q * 5 + 1, none⟩) hbw).trans f1
  have f2 := (HWr.cell (p := ⟨b3, off3 + q * 5 + 2, none⟩) hbw).trans f2
  have f3 := (HWr.cell (p := ⟨b3, off3 + q * 5 + 3, none⟩) hbw).trans f3
  have f4 := (HWr.cell (p := ⟨b3, off3 + q * 5 + 4, none⟩) hbw).trans f4
  have HFm := hide (HF.out r.mark _ HWr)
  rw [hq] at HFm
  have Hdi := hide hdi
  have hqn : q < n3 := by rw [L3.out]; exact lt_of_get hy
  have hbw3 : b3 < (w.alloc (.cells #[.string .empty, .int .i64 0, .int .i64 0, .int .i64 0, .slice none 0 0] 86)).heap.size := Nat.lt_of_lt_of_le hbl3 (le_alloc hB _)
  obtain ⟨mark, tx, ty, ⟨a1, a2, a3⟩, ⟨s1, s2, s3⟩, cnt⟩ := r
  simp only at p0 HFm
  obtain ⟨⟨mk, sz, ct, cd, dims⟩, pts⟩ := ld
  simp only at f0 f1 f2 f3 f4 Hdi ⊢
  clear hx hq hy hbl hc hdi hj hrb hpts HP HF Hfb H3 H4 L3 L4 hbl3
  go_wp2_with fail
  refine HFm.out.mono ?_
  rintro e w2 ⟨rfl, rfl⟩
  clear HFm
  go_wp2_with fail
  refine bodyPost_ret (results_c rfl rfl (Blk.new w _ _) Tryz.underlying86 rfl (by kernel_rfl)) rfl ?_
  first
    | exact ⟨A', ⟨c', rfl⟩, Hdi.out.carry ((below_new w _).mono hB) (Nat.le_refl _), below_new w _⟩
    | exact ⟨A', c', rfl, Hdi.out.carry ((below_new w _).mono hB) (Nat.le_refl _), below_new w _⟩
end Go.Proofs.YtmcjpdlkkpnhfaaGreatDoor
namespace Go.Proofs.YtmcjpdlkkpnhfaaGreatDoor
open Go.RowKit

set_option maxHeartbeats 400000 in
theorem refIsLength_any (n : Int) (w : World) :
    Calls Tryz.prog 111 #[.int .i64 n] w fun e w' => e = .returned (.bool (coordOk n)) ∧ w = w' := by
  have hr : coordOk n = (decide (-1048576 ≤ n) && decide (n ≤ 1048576)) := rfl
  rw [hr]
  cases q0 : decide (-1048576 ≤ n) <;> cases q1 : decide (n ≤ 1048576)
  all_goals
    go_enter Tryz.func111, Tryz.ntmps111
    go_wp2_with fail
    go_ret
    exact ⟨rfl, rfl⟩
set_option maxHeartbeats 400000 in
theorem refNearOne_any (n : Int) (w : World) :
    Calls Tryz.prog 145 #[.int .i64 n] w fun e w' => e = .returned (.bool (within n (-1048576) 1048576)) ∧ w = w' := by
  have hr : within n (-1048576) 1048576 = (decide (-1048576 ≤ n) && decide (n ≤ 1048576)) := rfl
  rw [hr]
  cases q0 : decide (-1048576 ≤ n) <;> cases q1 : decide (n ≤ 1048576)
  all_goals
    go_enter Tryz.func145, Tryz.ntmps145
    go_wp2_with fail
    go_ret
    exact ⟨rfl, rfl⟩
set_option maxHeartbeats 400000 in
theorem refAxis_any (n : Int) (w : World) :
    Calls Tryz.prog 144 #[.int .i64 n] w fun e w' => e = .returned (.bool (axisN n)) ∧ w = w' := by
  have hr : axisN n = (!decide (n = 0) && decide (-3 ≤ n) && decide (n ≤ 3)) := rfl
  rw [hr]
  by_cases q2 : n = 0
  · subst q2
    go_enter Tryz.func144, Tryz.ntmps144
    go_wp2_with fail
    go_ret
    exact ⟨rfl, rfl⟩
  have q2' : (n == 0) = false := by simpa using q2
  rw [decide_eq_false q2]
  clear hr q2
  cases q0 : decide (-3 ≤ n) <;> cases q1 : decide (n ≤ 3)
  all_goals
    go_enter Tryz.func144, Tryz.ntmps144
    go_wp2_with fail
    go_ret
    exact ⟨ret_bool (by simp [bne, q2']), rfl⟩
abbrev bxV (b : BoxD) : Value := .agg #[.int .i64 b.lo.1, .int .i64 b.lo.2.1, .int .i64 b.lo.2.2, .int .i64 b.hi.1, .int .i64 b.hi.2.1, .int .i64 b.hi.2.2]
def nthC (p : Pt) (k : Nat) : Int := if k = 0 then p.1 else if k = 1 then p.2.1 else p.2.2
set_option maxHeartbeats 400000 in
theorem refCoord_any (p1 p2 p3 : Int) (k : Nat) (hk : k < 3) (w : World) :
    Calls Tryz.prog 112 #[.agg #[.int .i64 p1, .int .i64 p2, .int .i64 p3], .int .i64 k] w fun e w' => e = .returned (.int .i64 (nthC (p1, p2, p3) k)) ∧ Below w.heap.size w w' := by
  rcases (show k = 0 ∨ k = 1 ∨ k = 2 by omega) with rfl | rfl | rfl
  all_goals
    go_enter Tryz.func112, Tryz.ntmps112
    go_wp2_with fail
    go_ret
    exact ⟨rfl, below_new _ _⟩
set_option maxHeartbeats 400000 in
theorem refNear_any (p : Pt) (w : World) :
    Calls Tryz.prog 107 #[ptA p] w fun e w' => e = .returned (.bool (nearBy 1048576 p)) ∧ Below w.heap.size w w' := by
  obtain ⟨p1, p2, p3⟩ := p
  have hr : nearBy 1048576 (p1, p2, p3) = (within p1 (-1048576) 1048576 && within p2 (-1048576) 1048576 && within p3 (-1048576) 1048576) := rfl
  rw [hr]
  have H1 := fun W => refNearOne_any p1 W
  have H2 := fun W => refNearOne_any p2 W
  have H3 := fun W => refNearOne_any p3 W
  generalize within p1 (-1048576) 1048576 = a1 at *
  generalize within p2 (-1048576) 1048576 = a2 at *
  generalize within p3 (-1048576) 1048576 = a3 at *
  have H1 := hide H1
  have H2 := hide H2
  have H3 := hide H3
  clear hr
  go_enter Tryz.func107, Tryz.ntmps107
  go_wp2_with fail
  refine (H1.out _).mono ?_
  rintro e w1 ⟨rfl, rfl⟩
  cases a1
  · go_wp2_with fail
    go_ret
    exact ⟨rfl, below_new _ _⟩
  go_wp2_with fail
  refine (H2.out _).mono ?_
  rintro e w1 ⟨rfl, rfl⟩
  cases a2
  · go_wp2_with fail
    go_ret
    exact ⟨rfl, below_new _ _⟩
  go_wp2_with fail
  refine (H3.out _).mono ?_
  rintro e w1 ⟨rfl, rfl⟩
  go_wp2_with fail
  go_ret
  exact ⟨rfl, below_new _ _⟩
set_option maxHeartbeats 1000000 in
theorem refTwice_any (p : Pt) (w : World) :
    Calls Tryz.prog 108 #[ptA p] w fun e w' => e = .returned (.bool (nearBy 2097152 p)) ∧ Below w.heap.size w w' := by
  obtain ⟨p1, p2, p3⟩ := p
  have hr : nearBy 2097152 (p1, p2, p3) = ((decide (-2097152 ≤ p1) && decide (p1 ≤ 2097152)) && (decide (-2097152 ≤ p2) && decide (p2 ≤ 2097152)) && (decide (-2097152 ≤ p3) && decide (p3 ≤ 2097152))) := rfl
  rw [hr]
  have hways : ((decide (-2097152 ≤ p1) && decide (p1 ≤ 2097152)) && (decide (-2097152 ≤ p2) && decide (p2 ≤ 2097152)) && (decide (-2097152 ≤ p3) && decide (p3 ≤ 2097152))) = (decide (-2097152 ≤ p1) && (decide (p1 ≤ 2097152) && (decide (-2097152 ≤ p2) && (decide (p2 ≤ 2097152) && (decide (-2097152 ≤ p3) && decide (p3 ≤ 2097152)))))) := by simp only [Bool.and_assoc]
  rw [hways]
  clear hr hways
  cases q0 : decide (-2097152 ≤ p1)
  · go_enter Tryz.func108, Tryz.ntmps108
    go_wp2_with fail
    go_ret
    exact ⟨rfl, below_new _ _⟩
  cases q1 : decide (p1 ≤ 2097152)
  · go_enter Tryz.func108, Tryz.ntmps108
    go_wp2_with fail
    go_ret
    exact ⟨rfl, below_new _ _⟩
  cases q2 : decide (-2097152 ≤ p2)
  · go_enter Tryz.func108, Tryz.ntmps108
    go_wp2_with fail
    go_ret
    exact ⟨rfl, below_new _ _⟩
  cases q3 : decide (p2 ≤ 2097152)
  · go_enter Tryz.func108, Tryz.ntmps108
    go_wp2_with fail
    go_ret
    exact ⟨rfl, below_new _ _⟩
  cases q4 : decide (-2097152 ≤ p3)
  · go_enter Tryz.func108, Tryz.ntmps108
    go_wp2_with fail
    go_ret
    exact ⟨rfl, below_new _ _⟩
  cases q5 : decide (p3 ≤ 2097152)
  all_goals
    go_enter Tryz.func108, Tryz.ntmps108
    go_wp2_with fail
    go_ret
    exact ⟨rfl, below_new _ _⟩
set_option maxHeartbeats 1000000 in
theorem refTurn_any (x y : Int) (w : World) :
    Calls Tryz.prog 106 #[.agg #[.int .i64 x, .int .i64 y]] w fun e w' => e = .returned (.bool (turnOk x y)) ∧ Below w.heap.size w w' := by
  have hr : turnOk x y = (axisN x && (axisN y && (!decide (x = y) && !decide (x = -y)))) := by simp only [turnOk, Bool.and_assoc]
  rw [hr]
  have hy : axisN y = true → -3 ≤ y ∧ y ≤ 3 := by
    intro h
    simp only [axisN, Bool.and_eq_true, decide_eq_true_eq] at h
    omega
  have H1 := fun W => refAxis_any x W
  have H2 := fun W => refAxis_any y W
  generalize axisN x = a1 at *
  generalize axisN y = a2 at *
  have H1 := hide H1
  have H2 := hide H2
  have Hy := hide hy
  clear hr hy
  go_enter Tryz.func106, Tryz.ntmps106
  go_wp2_with fail
  refine (H1.out _).mono ?_
  rintro e w1 ⟨rfl, rfl⟩
  cases a1
  · go_wp2_with fail
    go_ret
    exact ⟨rfl, below_new _ _⟩
  go_wp2_with fail
  refine (H2.out _).mono ?_
  rintro e w1 ⟨rfl, rfl⟩
  cases a2
  · go_wp2_with fail
    go_ret
    exact ⟨rfl, below_new _ _⟩
  have y1 := Hy.out rfl
  have y2 : wrap64 (-y) = -y := IntWalk.wrap64_in (-y) (by omega)
  clear y1
  go_wp2_with fail
  all_goals go_ret
  all_goals exact ⟨ret_bool (by cases h1 : decide (x = y) <;> cases h2 : decide (x = -y) <;> simp_all [bne]), below_new _ _⟩
end Go.Proofs.YtmcjpdlkkpnhfaaGreatDoor
namespace Go.Proofs.YtmcjpdlkkpnhfaaGreatDoor
open Go.RowKit

theorem int_cell {w : World} {B : Nat} {b off k : Nat} {l : List Int} {y : Int} (h : Ints w B (some ⟨b, off, none⟩) l) (hy : l[k]? = some y) : w.cell? ⟨b, off + k, none⟩ = some (.int .i64 y) := by
  obtain ⟨b', off', z, hA, _, hz, hc⟩ := h.get (k := k) (lt_of_get hy)
  injection hA with hA
  injection hA with h1 h2
  subst h1; subst h2
  rw [hy] at hz; injection hz with hz; rw [hz]; exact hc

/-- A region has drawn its order. -/
abbrev drawnAt (w : World) (d : Nat) : World := { w with drawn := d }
theorem pts_new2 {w : World} {o : Obj} {e : TypeId} {cs : Array Value} {l : List (Int × Int × Int)} {B : Nat} (hcs : cs.toList = l.flatMap encPt) (hB : w.heap.size + 1 < B) :
    PtsAt ((w.alloc o).alloc (.cells cs e)) B (some ⟨w.heap.size + 1, 0, none⟩) l := by
  have h := SlOf.lit encPt_len (w.alloc o) e cs l hcs (B := B) (by simpa using hB)
  simpa using h
theorem pts_drew2 {w : World} {e : TypeId} {cs : Array Value} {l : List (Int × Int × Int)} (hcs : cs.toList = l.flatMap encPt) :
    PtsAt ((w.alloc (.cells cs e)).drew) (w.alloc (.cells cs e)).drew.heap.size (some ⟨w.heap.size, 0, none⟩) l := by
  have h := SlOf.lit (B := w.heap.size + 1) encPt_len w e cs l hcs (by simp)
  have h2 := SlOf.carry (Flat.carried _) h (Below.drew (Below.refl (w.heap.size + 1) _)) (Nat.le_refl (w.heap.size + 1))
  simpa [World.drew] using h2
set_option maxHeartbeats 4000000 in
set_option maxRecDepth 100000 in
theorem refMoves0 (mark : ByteArray) (size count : Int) (d0 : Int) (A : Option Addr) (c : Nat) (w : World) {B : Nat} (hA : Ints w B A [d0]) (hB : B ≤ w.heap.size) (h0 : 1 ≤ d0 ∧ d0 ≤ 262144) :
    Calls Tryz.prog 174 #[.agg #[.string mark, .int .i64 size, .int .i64 count, .int .i64 0, .slice A 1 c]] w fun e w' =>
      ∃ A', e = .returned (.slice A' 1 1) ∧ PtsAt w' w'.heap.size A' [(d0, 0, 0)] ∧ Below w.heap.size w w' := by
  have hbo := fun o => hA.carry ((Below.refl B w).alloc hB o) (Nat.le_refl _)
  obtain ⟨b, off, hA', hbl, _⟩ := hA (by simp)
  subst hA'
  have c0 := fun o => int_cell (k := 0) (hbo o) rfl
  simp only [Nat.add_zero] at c0
  have hbl' : b < w.heap.size := by omega
  obtain ⟨l0, u0⟩ := h0
  clear hA hbo hbl
  go_enter Tryz.func174, Tryz.ntmps174
  go_wp2_with fail
  go_ret
  refine ⟨_, rfl, ?_, ?_⟩
  · exact pts_new2 rfl (by simp)
  · exact below_new2 w _ _
set_option maxHeartbeats 4000000 in
set_option maxRecDepth 100000 in
theorem refMoves11 (mark : ByteArray) (size count : Int) (d0 d1 : Int) (A : Option Addr) (c : Nat) (w : World) {B : Nat} (hA : Ints w B A [d0, d1]) (hB : B ≤ w.heap.size) (h0 : 1 ≤ d0 ∧ d0 ≤ 262144) (h1 : 1 ≤ d1 ∧ d1 ≤ 262144) :
    Calls Tryz.prog 174 #[.agg #[.string mark, .int .i64 size, .int .i64 count, .int .i64 11, .slice A 2 c]] w fun e w' =>
      ∃ A', e = .returned (.slice A' 2 2) ∧ PtsAt w' w'.heap.size A' [(d0, 0, 0), (0, d1, 0)] ∧ Below w.heap.size w w' := by
  have hbo := fun o => hA.carry ((Below.refl B w).alloc hB o) (Nat.le_refl _)
  obtain ⟨b, off, hA', hbl, _⟩ := hA (by simp)
  subst hA'
  have hb0 := hbo (.cells #[.string mark, .int .i64 size, .int .i64 count, .int .i64 11, .slice (some ⟨b, off, none⟩) 2 c] 86)
  have c0 : ∀ d, (drawnAt (w.alloc (.cells #[.string mark, .int .i64 size, .int .i64 count, .int .i64 11, .slice (some ⟨b, off, none⟩) 2 c] 86)) d).cell? ⟨b, off, none⟩ = some (.int .i64 d0) := fun _ => int_cell (k := 0) hb0 rfl
  have c1 : ∀ d, (drawnAt (w.alloc (.cells #[.string mark, .int .i64 size, .int .i64 count, .int .i64 11, .slice (some ⟨b, off, none⟩) 2 c] 86)) d).cell? ⟨b, off + 1, none⟩ = some (.int .i64 d1) := fun _ => int_cell (k := 1) hb0 rfl
  obtain ⟨l0, u0⟩ := h0
  obtain ⟨l1, u1⟩ := h1
  have hbl' : b < w.heap.size := by omega
  clear hA hbo hbl hb0
  go_enter Tryz.func174, Tryz.ntmps174
  go_wp2_with fail
  obtain ⟨W, hW⟩ : ∃ W, W = w.alloc (.cells #[.string mark, .int .i64 size, .int .i64 count, .int .i64 11, .slice (some ⟨b, off, none⟩) 2 c] 86) := ⟨_, rfl⟩
  rw [← hW]
  simp only [← hW, drawnAt] at c0 c1
  have HW := hide hW
  clear hW
  go_still_tail 8, (by kernel_rfl)
  change wpList _ _ _ _ _ (World.drew W)
  clear c0 c1
  go_wp2_with fail
  obtain rfl := HW.out
  go_ret
  refine ⟨_, rfl, ?_, ?_⟩
  · exact pts_drew2 rfl
  · exact (below_new2 w _ _).drew
set_option maxHeartbeats 4000000 in
set_option maxRecDepth 100000 in
theorem refMoves21 (mark : ByteArray) (size count : Int) (d0 d1 d2 : Int) (A : Option Addr) (c : Nat) (w : World) {B : Nat} (hA : Ints w B A [d0, d1, d2]) (hB : B ≤ w.heap.size) (h0 : 1 ≤ d0 ∧ d0 ≤ 262144) (h1 : 1 ≤ d1 ∧ d1 ≤ 262144) (h2 : 1 ≤ d2 ∧ d2 ≤ 262144) :
    Calls Tryz.prog 174 #[.agg #[.string mark, .int .i64 size, .int .i64 count, .int .i64 21, .slice A 3 c]] w fun e w' =>
      ∃ A', e = .returned (.slice A' 3 3) ∧ PtsAt w' w'.heap.size A' [(0, -d0, 0), (d1, 0, 0), (0, d2, 0)] ∧ Below w.heap.size w w' := by
  have hbo := fun o => hA.carry ((Below.refl B w).alloc hB o) (Nat.le_refl _)
  obtain ⟨b, off, hA', hbl, _⟩ := hA (by simp)
  subst hA'
  have hb0 := hbo (.cells #[.string mark, .int .i64 size, .int .i64 count, .int .i64 21, .slice (some ⟨b, off, none⟩) 3 c] 86)
  have c0 : ∀ d, (drawnAt (w.alloc (.cells #[.string mark, .int .i64 size, .int .i64 count, .int .i64 21, .slice (some ⟨b, off, none⟩) 3 c] 86)) d).cell? ⟨b, off, none⟩ = some (.int .i64 d0) := fun _ => int_cell (k := 0) hb0 rfl
  have c1 : ∀ d, (drawnAt (w.alloc (.cells #[.string mark, .int .i64 size, .int .i64 count, .int .i64 21, .slice (some ⟨b, off, none⟩) 3 c] 86)) d).cell? ⟨b, off + 1, none⟩ = some (.int .i64 d1) := fun _ => int_cell (k := 1) hb0 rfl
  have c2 : ∀ d, (drawnAt (w.alloc (.cells #[.string mark, .int .i64 size, .int .i64 count, .int .i64 21, .slice (some ⟨b, off, none⟩) 3 c] 86)) d).cell? ⟨b, off + 2, none⟩ = some (.int .i64 d2) := fun _ => int_cell (k := 2) hb0 rfl
  obtain ⟨l0, u0⟩ := h0
  obtain ⟨l1, u1⟩ := h1
  obtain ⟨l2, u2⟩ := h2
  have hbl' : b < w.heap.size := by omega
  clear hA hbo hbl hb0
  go_enter Tryz.func174, Tryz.ntmps174
  go_wp2_with fail
  obtain ⟨W, hW⟩ : ∃ W, W = w.alloc (.cells #[.string mark, .int .i64 size, .int .i64 count, .int .i64 21, .slice (some ⟨b, off, none⟩) 3 c] 86) := ⟨_, rfl⟩
  rw [← hW]
  simp only [← hW, drawnAt] at c0 c1 c2
  have HW := hide hW
  clear hW
  go_still_tail 13, (by kernel_rfl)
  change wpList _ _ _ _ _ (World.drew W)
  clear c0 c1 c2
  go_wp2_with fail
  obtain rfl := HW.out
  go_ret
  refine ⟨_, rfl, ?_, ?_⟩
  · exact pts_drew2 rfl
  · exact (below_new2 w _ _).drew
set_option maxHeartbeats 4000000 in
set_option maxRecDepth 100000 in
theorem refMoves26 (mark : ByteArray) (size count : Int) (d0 d1 d2 : Int) (A : Option Addr) (c : Nat) (w : World) {B : Nat} (hA : Ints w B A [d0, d1, d2]) (hB : B ≤ w.heap.size) (h0 : 1 ≤ d0 ∧ d0 ≤ 262144) (h1 : 1 ≤ d1 ∧ d1 ≤ 262144) (h2 : 1 ≤ d2 ∧ d2 ≤ 262144) :
    Calls Tryz.prog 174 #[.agg #[.string mark, .int .i64 size, .int .i64 count, .int .i64 26, .slice A 3 c]] w fun e w' =>
      ∃ A', e = .returned (.slice A' 3 3) ∧ PtsAt w' w'.heap.size A' [(d0, 0, 0), (0, d1, 0), (d2, 0, 0)] ∧ Below w.heap.size w w' := by
  have hbo := fun o => hA.carry ((Below.refl B w).alloc hB o) (Nat.le_refl _)
  obtain ⟨b, off, hA', hbl, _⟩ := hA (by simp)
  subst hA'
  have hb0 := hbo (.cells #[.string mark, .int .i64 size, .int .i64 count, .int .i64 26, .slice (some ⟨b, off, none⟩) 3 c] 86)
  have c0 : ∀ d, (drawnAt (w.alloc (.cells #[.string mark, .int .i64 size, .int .i64 count, .int .i64 26, .slice (some ⟨b, off, none⟩) 3 c] 86)) d).cell? ⟨b, off, none⟩ = some (.int .i64 d0) := fun _ => int_cell (k := 0) hb0 rfl
  have c1 : ∀ d, (drawnAt (w.alloc (.cells #[.string mark, .int .i64 size, .int .i64 count, .int .i64 26, .slice (some ⟨b, off, none⟩) 3 c] 86)) d).cell? ⟨b, off + 1, none⟩ = some (.int .i64 d1) := fun _ => int_cell (k := 1) hb0 rfl
  have c2 : ∀ d, (drawnAt (w.alloc (.cells #[.string mark, .int .i64 size, .int .i64 count, .int .i64 26, .slice (some ⟨b, off, none⟩) 3 c] 86)) d).cell? ⟨b, off + 2, none⟩ = some (.int .i64 d2) := fun _ => int_cell (k := 2) hb0 rfl
  obtain ⟨l0, u0⟩ := h0
  obtain ⟨l1, u1⟩ := h1
  obtain ⟨l2, u2⟩ := h2
  have hbl' : b < w.heap.size := by omega
  clear hA hbo hbl hb0
  go_enter Tryz.func174, Tryz.ntmps174
  go_wp2_with fail
  obtain ⟨W, hW⟩ : ∃ W, W = w.alloc (.cells #[.string mark, .int .i64 size, .int .i64 count, .int .i64 26, .slice (some ⟨b, off, none⟩) 3 c] 86) := ⟨_, rfl⟩
  rw [← hW]
  simp only [← hW, drawnAt] at c0 c1 c2
  have HW := hide hW
  clear hW
  go_still_tail 12, (by kernel_rfl)
  change wpList _ _ _ _ _ (World.drew W)
  clear c0 c1 c2
  go_wp2_with fail
  obtain rfl := HW.out
  go_ret
  refine ⟨_, rfl, ?_, ?_⟩
  · exact pts_drew2 rfl
  · exact (below_new2 w _ _).drew
set_option maxHeartbeats 4000000 in
set_option maxRecDepth 100000 in
theorem refMoves31 (mark : ByteArray) (size count : Int) (d0 d1 d2 : Int) (A : Option Addr) (c : Nat) (w : World) {B : Nat} (hA : Ints w B A [d0, d1, d2]) (hB : B ≤ w.heap.size) (h0 : 1 ≤ d0 ∧ d0 ≤ 262144) (h1 : 1 ≤ d1 ∧ d1 ≤ 262144) (h2 : 1 ≤ d2 ∧ d2 ≤ 262144) :
    Calls Tryz.prog 174 #[.agg #[.string mark, .int .i64 size, .int .i64 count, .int .i64 31, .slice A 3 c]] w fun e w' =>
      ∃ A', e = .returned (.slice A' 3 3) ∧ PtsAt w' w'.heap.size A' [(d0, 0, 0), (0, d1, 0), (0, 0, d2)] ∧ Below w.heap.size w w' := by
  have hbo := fun o => hA.carry ((Below.refl B w).alloc hB o) (Nat.le_refl _)
  obtain ⟨b, off, hA', hbl, _⟩ := hA (by simp)
  subst hA'
  have hb0 := hbo (.cells #[.string mark, .int .i64 size, .int .i64 count, .int .i64 31, .slice (some ⟨b, off, none⟩) 3 c] 86)
  have c0 : ∀ d, (drawnAt (w.alloc (.cells #[.string mark, .int .i64 size, .int .i64 count, .int .i64 31, .slice (some ⟨b, off, none⟩) 3 c] 86)) d).cell? ⟨b, off, none⟩ = some (.int .i64 d0) := fun _ => int_cell (k := 0) hb0 rfl
  have c1 : ∀ d, (drawnAt (w.alloc (.cells #[.string mark, .int .i64 size, .int .i64 count, .int .i64 31, .slice (some ⟨b, off, none⟩) 3 c] 86)) d).cell? ⟨b, off + 1, none⟩ = some (.int .i64 d1) := fun _ => int_cell (k := 1) hb0 rfl
  have c2 : ∀ d, (drawnAt (w.alloc (.cells #[.string mark, .int .i64 size, .int .i64 count, .int .i64 31, .slice (some ⟨b, off, none⟩) 3 c] 86)) d).cell? ⟨b, off + 2, none⟩ = some (.int .i64 d2) := fun _ => int_cell (k := 2) hb0 rfl
  obtain ⟨l0, u0⟩ := h0
  obtain ⟨l1, u1⟩ := h1
  obtain ⟨l2, u2⟩ := h2
  have hbl' : b < w.heap.size := by omega
  clear hA hbo hbl hb0
  go_enter Tryz.func174, Tryz.ntmps174
  go_wp2_with fail
  obtain ⟨W, hW⟩ : ∃ W, W = w.alloc (.cells #[.string mark, .int .i64 size, .int .i64 count, .int .i64 31, .slice (some ⟨b, off, none⟩) 3 c] 86) := ⟨_, rfl⟩
  rw [← hW]
  simp only [← hW, drawnAt] at c0 c1 c2
  have HW := hide hW
  clear hW
  go_still_tail 12, (by kernel_rfl)
  change wpList _ _ _ _ _ (World.drew W)
  clear c0 c1 c2
  go_wp2_with fail
  obtain rfl := HW.out
  go_ret
  refine ⟨_, rfl, ?_, ?_⟩
  · exact pts_drew2 rfl
  · exact (below_new2 w _ _).drew
set_option maxHeartbeats 4000000 in
set_option maxRecDepth 100000 in
theorem refMoves41 (mark : ByteArray) (size count : Int) (d0 d1 d2 d3 d4 : Int) (A : Option Addr) (c : Nat) (w : World) {B : Nat} (hA : Ints w B A [d0, d1, d2, d3, d4]) (hB : B ≤ w.heap.size) (h0 : 1 ≤ d0 ∧ d0 ≤ 262144) (h1 : 1 ≤ d1 ∧ d1 ≤ 262144) (h2 : 1 ≤ d2 ∧ d2 ≤ 262144) (h3 : 1 ≤ d3 ∧ d3 ≤ 262144) (h4 : 1 ≤ d4 ∧ d4 ≤ 262144) :
    Calls Tryz.prog 174 #[.agg #[.string mark, .int .i64 size, .int .i64 count, .int .i64 41, .slice A 5 c]] w fun e w' =>
      ∃ A', e = .returned (.slice A' 5 5) ∧ PtsAt w' w'.heap.size A' [(d0, 0, 0), (0, d1, 0), (d2, 0, 0), (0, -d3, 0), (d4, 0, 0)] ∧ Below w.heap.size w w' := by
  have hbo := fun o => hA.carry ((Below.refl B w).alloc hB o) (Nat.le_refl _)
  obtain ⟨b, off, hA', hbl, _⟩ := hA (by simp)
  subst hA'
  have hb0 := hbo (.cells #[.string mark, .int .i64 size, .int .i64 count, .int .i64 41, .slice (some ⟨b, off, none⟩) 5 c] 86)
  have c0 : ∀ d, (drawnAt (w.alloc (.cells #[.string mark, .int .i64 size, .int .i64 count, .int .i64 41, .slice (some ⟨b, off, none⟩) 5 c] 86)) d).cell? ⟨b, off, none⟩ = some (.int .i64 d0) := fun _ => int_cell (k := 0) hb0 rfl
  have c1 : ∀ d, (drawnAt (w.alloc (.cells #[.string mark, .int .i64 size, .int .i64 count, .int .i64 41, .slice (some ⟨b, off, none⟩) 5 c] 86)) d).cell? ⟨b, off + 1, none⟩ = some (.int .i64 d1) := fun _ => int_cell (k := 1) hb0 rfl
  have c2 : ∀ d, (drawnAt (w.alloc (.cells #[.string mark, .int .i64 size, .int .i64 count, .int .i64 41, .slice (some ⟨b, off, none⟩) 5 c] 86)) d).cell? ⟨b, off + 2, none⟩ = some (.int .i64 d2) := fun _ => int_cell (k := 2) hb0 rfl
  have c3 : ∀ d, (drawnAt (w.alloc (.cells #[.string mark, .int .i64 size, .int .i64 count, .int .i64 41, .slice (some ⟨b, off, none⟩) 5 c] 86)) d).cell? ⟨b, off + 3, none⟩ = some (.int .i64 d3) := fun _ => int_cell (k := 3) hb0 rfl
  have c4 : ∀ d, (drawnAt (w.alloc (.cells #[.string mark, .int .i64 size, .int .i64 count, .int .i64 41, .slice (some ⟨b, off, none⟩) 5 c] 86)) d).cell? ⟨b, off + 4, none⟩ = some (.int .i64 d4) := fun _ => int_cell (k := 4) hb0 rfl
  obtain ⟨l0, u0⟩ := h0
  obtain ⟨l1, u1⟩ := h1
  obtain ⟨l2, u2⟩ := h2
  obtain ⟨l3, u3⟩ := h3
  obtain ⟨l4, u4⟩ := h4
  have hbl' : b < w.heap.size := by omega
  clear hA hbo hbl hb0
  go_enter Tryz.func174, Tryz.ntmps174
  go_wp2_with fail
  obtain ⟨W, hW⟩ : ∃ W, W = w.alloc (.cells #[.string mark, .int .i64 size, .int .i64 count, .int .i64 41, .slice (some ⟨b, off, none⟩) 5 c] 86) := ⟨_, rfl⟩
  rw [← hW]
  simp only [← hW, drawnAt] at c0 c1 c2 c3 c4
  have HW := hide hW
  clear hW
  go_still_tail 21, (by kernel_rfl)
  change wpList _ _ _ _ _ (World.drew W)
  clear c0 c1 c2 c3 c4
  go_wp2_with fail
  obtain rfl := HW.out
  go_ret
  refine ⟨_, rfl, ?_, ?_⟩
  · exact pts_drew2 rfl
  · exact (below_new2 w _ _).drew
set_option maxHeartbeats 4000000 in
set_option maxRecDepth 100000 in
theorem refMoves51 (mark : ByteArray) (size count : Int) (d0 d1 d2 : Int) (A : Option Addr) (c : Nat) (w : World) {B : Nat} (hA : Ints w B A [d0, d1, d2]) (hB : B ≤ w.heap.size) (h0 : 1 ≤ d0 ∧ d0 ≤ 262144) (h1 : 1 ≤ d1 ∧ d1 ≤ 262144) (h2 : 1 ≤ d2 ∧ d2 ≤ 262144) :
    Calls Tryz.prog 174 #[.agg #[.string mark, .int .i64 size, .int .i64 count, .int .i64 51, .slice A 3 c]] w fun e w' =>
      ∃ A', e = .returned (.slice A' 6 6) ∧ PtsAt w' w'.heap.size A' [(0, -d2, 0), (d0, 0, 0), (0, d1, 0), (-d0, 0, 0), (0, -d1, 0), (d2, 0, 0)] ∧ Below w.heap.size w w' := by
  have hbo := fun o => hA.carry ((Below.refl B w).alloc hB o) (Nat.le_refl _)
  obtain ⟨b, off, hA', hbl, _⟩ := hA (by simp)
  subst hA'
  have hb0 := hbo (.cells #[.string mark, .int .i64 size, .int .i64 count, .int .i64 51, .slice (some ⟨b, off, none⟩) 3 c] 86)
  have c0 : ∀ d, (drawnAt (w.alloc (.cells #[.string mark, .int .i64 size, .int .i64 count, .int .i64 51, .slice (some ⟨b, off, none⟩) 3 c] 86)) d).cell? ⟨b, off, none⟩ = some (.int .i64 d0) := fun _ => int_cell (k := 0) hb0 rfl
  have c1 : ∀ d, (drawnAt (w.alloc (.cells #[.string mark, .int .i64 size, .int .i64 count, .int .i64 51, .slice (some ⟨b, off, none⟩) 3 c] 86)) d).cell? ⟨b, off + 1, none⟩ = some (.int .i64 d1) := fun _ => int_cell (k := 1) hb0 rfl
  have c2 : ∀ d, (drawnAt (w.alloc (.cells #[.string mark, .int .i64 size, .int .i64 count, .int .i64 51, .slice (some ⟨b, off, none⟩) 3 c] 86)) d).cell? ⟨b, off + 2, none⟩ = some (.int .i64 d2) := fun _ => int_cell (k := 2) hb0 rfl
  obtain ⟨l0, u0⟩ := h0
  obtain ⟨l1, u1⟩ := h1
  obtain ⟨l2, u2⟩ := h2
  have hbl' : b < w.heap.size := by omega
  clear hA hbo hbl hb0
  go_enter Tryz.func174, Tryz.ntmps174
  go_wp2_with fail
  obtain ⟨W, hW⟩ : ∃ W, W = w.alloc (.cells #[.string mark, .int .i64 size, .int .i64 count, .int .i64 51, .slice (some ⟨b, off, none⟩) 3 c] 86) := ⟨_, rfl⟩
  rw [← hW]
  simp only [← hW, drawnAt] at c0 c1 c2
  have HW := hide hW
  clear hW
  go_still_tail 27, (by kernel_rfl)
  change wpList _ _ _ _ _ (World.drew W)
  clear c0 c1 c2
  go_wp2_with fail
  obtain rfl := HW.out
  go_ret
  refine ⟨_, rfl, ?_, ?_⟩
  · exact pts_drew2 rfl
  · exact (below_new2 w _ _).drew
set_option maxHeartbeats 4000000 in
set_option maxRecDepth 100000 in
theorem refMoves98 (mark : ByteArray) (size count : Int) (d0 d1 d2 : Int) (A : Option Addr) (c : Nat) (w : World) {B : Nat} (hA : Ints w B A [d0, d1, d2]) (hB : B ≤ w.heap.size) (h0 : 1 ≤ d0 ∧ d0 ≤ 262144) (h1 : 1 ≤ d1 ∧ d1 ≤ 262144) (h2 : 1 ≤ d2 ∧ d2 ≤ 262144) :
    Calls Tryz.prog 174 #[.agg #[.string mark, .int .i64 size, .int .i64 count, .int .i64 98, .slice A 3 c]] w fun e w' =>
      ∃ A', e = .returned (.slice A' 5 5) ∧ PtsAt w' w'.heap.size A' [(0, 0, d0), (0, -d1, 0), (d2, 0, 0), (0, d1, 0), (0, 0, d0)] ∧ Below w.heap.size w w' := by
  have hbo := fun o => hA.carry ((Below.refl B w).alloc hB o) (Nat.le_refl _)
  obtain ⟨b, off, hA', hbl, _⟩ := hA (by simp)
  subst hA'
  have hb0 := hbo (.cells #[.string mark, .int .i64 size, .int .i64 count, .int .i64 98, .slice (some ⟨b, off, none⟩) 3 c] 86)
  have c0 : ∀ d, (drawnAt (w.alloc (.cells #[.string mark, .int .i64 size, .int .i64 count, .int .i64 98, .slice (some ⟨b, off, none⟩) 3 c] 86)) d).cell? ⟨b, off, none⟩ = some (.int .i64 d0) := fun _ => int_cell (k := 0) hb0 rfl
  have c1 : ∀ d, (drawnAt (w.alloc (.cells #[.string mark, .int .i64 size, .int .i64 count, .int .i64 98, .slice (some ⟨b, off, none⟩) 3 c] 86)) d).cell? ⟨b, off + 1, none⟩ = some (.int .i64 d1) := fun _ => int_cell (k := 1) hb0 rfl
  have c2 : ∀ d, (drawnAt (w.alloc (.cells #[.string mark, .int .i64 size, .int .i64 count, .int .i64 98, .slice (some ⟨b, off, none⟩) 3 c] 86)) d).cell? ⟨b, off + 2, none⟩ = some (.int .i64 d2) := fun _ => int_cell (k := 2) hb0 rfl
  obtain ⟨l0, u0⟩ := h0
  obtain ⟨l1, u1⟩ := h1
  obtain ⟨l2, u2⟩ := h2
  have hbl' : b < w.heap.size := by omega
  clear hA hbo hbl hb0
  go_enter Tryz.func174, Tryz.ntmps174
  go_wp2_with fail
  obtain ⟨W, hW⟩ : ∃ W, W = w.alloc (.cells #[.string mark, .int .i64 size, .int .i64 count, .int .i64 98, .slice (some ⟨b, off, none⟩) 3 c] 86) := ⟨_, rfl⟩
  rw [← hW]
  simp only [← hW, drawnAt] at c0 c1 c2
  have HW := hide hW
  clear hW
  go_still_tail 21, (by kernel_rfl)
  change wpList _ _ _ _ _ (World.drew W)
  clear c0 c1 c2
  go_wp2_with fail
  obtain rfl := HW.out
  go_ret
  refine ⟨_, rfl, ?_, ?_⟩
  · exact pts_drew2 rfl
  · exact (below_new2 w _ _).drew
end Go.Proofs.YtmcjpdlkkpnhfaaGreatDoor
namespace Go.Proofs.YtmcjpdlkkpnhfaaGreatDoor
open Go.RowKit

theorem len1 {l : List Int} (h : l.length = 1) : ∃ a, l = [a] := by
  rcases l with _ | ⟨a, _ | ⟨b, r⟩⟩ <;> simp at h
  exact ⟨a, rfl⟩
theorem len2 {l : List Int} (h : l.length = 2) : ∃ a b, l = [a, b] := by
  rcases l with _ | ⟨a, r⟩
  · simp at h
  · obtain ⟨b, rfl⟩ := len1 (l := r) (by simpa using h)
    exact ⟨a, b, rfl⟩
theorem len3 {l : List Int} (h : l.length = 3) : ∃ a b c, l = [a, b, c] := by
  rcases l with _ | ⟨a, r⟩
  · simp at h
  · obtain ⟨b, c, rfl⟩ := len2 (l := r) (by simpa using h)
    exact ⟨a, b, c, rfl⟩
theorem len5 {l : List Int} (h : l.length = 5) : ∃ a b c d e, l = [a, b, c, d, e] := by
  rcases l with _ | ⟨a, _ | ⟨b, r⟩⟩
  · simp at h
  · simp at h
  · obtain ⟨c, d, e, rfl⟩ := len3 (l := r) (by simpa using h)
    exact ⟨a, b, c, d, e, rfl⟩

theorem refMoves_ok (x : BarD) (A : Option Addr) (c : Nat) (w : World) {B : Nat} (hA : Ints w B A x.dims) (hB : B ≤ w.heap.size) (hok : barOk x = true) :
    Calls Tryz.prog 174 #[.agg #[.string x.mark, .int .i64 x.size, .int .i64 x.count, .int .i64 x.code, .slice A x.dims.length c]] w fun e w' =>
      ∃ A', e = .returned (.slice A' (legsLen x.code) (legsLen x.code)) ∧ PtsAt w' w'.heap.size A' (movesOf x) ∧ Below w.heap.size w w' := by
  have hg := barGood_of hok
  have hc : legsOf x.code ≠ [] := by
    intro he
    exact hg.legs (by simp [legLens, he])
  rw [barOk_pre] at hok
  simp only [Bool.and_eq_true, barPre, decide_eq_true_eq] at hok
  obtain ⟨⟨_, h5⟩, h6⟩ := hok
  obtain ⟨mark, size, count, code, dims⟩ := x
  simp only at h5 h6 hc hA ⊢
  clear hg
  have hb := fits_mem h6
  clear h6
  rcases code_cases hc with rfl | rfl | rfl | rfl | rfl | rfl | rfl | rfl
  · obtain ⟨d0, rfl⟩ := len1 (l := dims) (by have h : (dims.length : Int) = 1 := h5; omega)
    have h := refMoves0 mark size count d0 A c w hA hB (hb _ (by simp))
    exact h
  · obtain ⟨d0, d1, rfl⟩ := len2 (l := dims) (by have h : (dims.length : Int) = 2 := h5; omega)
    have h := refMoves11 mark size count d0 d1 A c w hA hB (hb _ (by simp)) (hb _ (by simp))
    exact h
  · obtain ⟨d0, d1, d2, rfl⟩ := len3 (l := dims) (by have h : (dims.length : Int) = 3 := h5; omega)
    have h := refMoves21 mark size count d0 d1 d2 A c w hA hB (hb _ (by simp)) (hb _ (by simp)) (hb _ (by simp))
    exact h
  · obtain ⟨d0, d1, d2, rfl⟩ := len3 (l := dims) (by have h : (dims.length : Int) = 3 := h5; omega)
    have h := refMoves26 mark size count d0 d1 d2 A c w hA hB (hb _ (by simp)) (hb _ (by simp)) (hb _ (by simp))
    exact h
  · obtain ⟨d0, d1, d2, rfl⟩ := len3 (l := dims) (by have h : (dims.length : Int) = 3 := h5; omega)
    have h := refMoves31 mark size count d0 d1 d2 A c w hA hB (hb _ (by simp)) (hb _ (by simp)) (hb _ (by simp))
    exact h
  · obtain ⟨d0, d1, d2, d3, d4, rfl⟩ := len5 (l := dims) (by have h : (dims.length : Int) = 5 := h5; omega)
    have h := refMoves41 mark size count d0 d1 d2 d3 d4 A c w hA hB (hb _ (by simp)) (hb _ (by simp)) (hb _ (by simp)) (hb _ (by simp)) (hb _ (by simp))
    exact h
  · obtain ⟨d0, d1, d2, rfl⟩ := len3 (l := dims) (by have h : (dims.length : Int) = 3 := h5; omega)
    have h := refMoves51 mark size count d0 d1 d2 A c w hA hB (hb _ (by simp)) (hb _ (by simp)) (hb _ (by simp))
    exact h
  · obtain ⟨d0, d1, d2, rfl⟩ := len3 (l := dims) (by have h : (dims.length : Int) = 3 := h5; omega)
    have h := refMoves98 mark size count d0 d1 d2 A c w hA hB (hb _ (by simp)) (hb _ (by simp)) (hb _ (by simp))
    exact h
end Go.Proofs.YtmcjpdlkkpnhfaaGreatDoor
namespace Go.Proofs.YtmcjpdlkkpnhfaaGreatDoor
open Go.RowKit

theorem row3 {w : World} {base g : Nat} {e : TypeId} {v : Value} {l : List Pt} (h : Row w base e 3 encPt v l) (hg : g < base) (a b c : Value) : Row (((w.setCell ⟨g, 0, none⟩ a).setCell ⟨g, 1, none⟩ b).setCell ⟨g, 2, none⟩ c) base e 3 encPt v l :=
  rowSet (rowSet (rowSet h (a := ⟨g, 0, none⟩) hg a) (a := ⟨g, 1, none⟩) hg b) (a := ⟨g, 2, none⟩) hg c
theorem blk3 {w : World} {g : Nat} {t : TypeId} {x y z : Value} (h : Blk w g t #[x, y, z]) (a b c : Value) : Blk (((w.setCell ⟨g, 0, none⟩ a).setCell ⟨g, 1, none⟩ b).setCell ⟨g, 2, none⟩ c) g t #[a, b, c] := by
  have h1 := ((h.set_ 0 a).set_ 1 b).set_ 2 c
  simpa only [List.setIfInBounds_toArray, List.set_cons_zero, List.set_cons_succ] using h1
theorem below3 {B g : Nat} {a w : World} (h : Below B a w) (hg : B ≤ g) (x y z : Value) : Below B a (((w.setCell ⟨g, 0, none⟩ x).setCell ⟨g, 1, none⟩ y).setCell ⟨g, 2, none⟩ z) :=
  ((h.setCell (p := ⟨g, 0, none⟩) hg x).setCell (p := ⟨g, 1, none⟩) hg y).setCell (p := ⟨g, 2, none⟩) hg z
theorem size3 (w : World) (g : Nat) (x y z : Value) : (((w.setCell ⟨g, 0, none⟩ x).setCell ⟨g, 1, none⟩ y).setCell ⟨g, 2, none⟩ z).heap.size = w.heap.size := by
  rw [World.size_setCell, World.size_setCell, World.size_setCell]
set_option maxHeartbeats 4000000 in
set_option maxRecDepth 100000 in
theorem refPath_ok (x : BarD) (A : Option Addr) (c : Nat) (w : World) {B : Nat} (hA : Ints w B A x.dims) (hB : B ≤ w.heap.size) (hok : barOk x = true) :
    Calls Tryz.prog 146 #[.agg #[.string x.mark, .int .i64 x.size, .int .i64 x.count, .int .i64 x.code, .slice A x.dims.length c]] w fun e w' =>
      ∃ A' c', e = .returned (.slice A' (pathOf x).length c') ∧ PtsAt w' w'.heap.size A' (pathOf x) ∧ Below w.heap.size w w' := by
  have Hnear := hide (path_near hok)
  have hle := legsLen_le x.code
  have hbo := fun o => (Below.refl B w).alloc hB o
  have HM := hide (refMoves_ok x A c _ (hA.carry (hbo (.cells #[.string x.mark, .int .i64 x.size, .int .i64 x.count, .int .i64 x.code, .slice A x.dims.length c] 86)) (Nat.le_refl _)) (le_alloc hB _) hok)
  have HW := hide (below_new w (.cells #[.string x.mark, .int .i64 x.size, .int .i64 x.count, .int .i64 x.code, .slice A x.dims.length c] 86))
  have Hlen := hide (show (pathOf x).length = legsLen x.code + 1 by rw [pathOf_len]; rfl)
  have Hml := hide (show (movesOf x).length = legsLen x.code by simp [movesOf, legsLen])
  clear hA hB hok hbo
  go_enter Tryz.func146, Tryz.ntmps146
  go_wp2_with fail
  refine HM.out.mono ?_
  rintro e w1 ⟨AM, rfl, hmv, hb1⟩
  have Hmv := hide hmv
  have HW1 := hide (below_step HW.out hb1 (Nat.le_refl _))
  clear hmv hb1 HM HW
  have hrow := World.ownsRow_lit (base := w1.heap.size + 1) (e := 58) (size := 3) (w1.alloc (.cells #[.int .i64 0, .int .i64 0, .int .i64 0] 58)) #[.int .i64 0, .int .i64 0, .int .i64 0] 1 (by simp) (by unfold maxLen; omega) rfl
  rw [size_alloc'] at hrow
  have hp0 : [((0, 0, 0) : Pt)] = (pathOf x).take 1 := by
    have h9 := pathOf_zero x
    have h8 := take_snoc' h9
    simpa using h8.symm
  have hrow2 : Row ((w1.alloc (.cells #[.int .i64 0, .int .i64 0, .int .i64 0] 58)).alloc (.cells #[.int .i64 0, .int .i64 0, .int .i64 0] 58)) (w1.heap.size + 1) 58 3 encPt (.slice (some ⟨w1.heap.size + 1, 0, none⟩) 1 1) [(0, 0, 0)] := hrow
  rw [hp0] at hrow2
  have Hrow := hide hrow2
  have KA := hide ((Blk.new w1 58 #[.int .i64 0, .int .i64 0, .int .i64 0]).alloc (.cells #[.int .i64 0, .int .i64 0, .int .i64 0] 58))
  have HB12 := hide (below_new2 w1 (.cells #[.int .i64 0, .int .i64 0, .int .i64 0] 58) (.cells #[.int .i64 0, .int .i64 0, .int .i64 0] 58))
  clear hrow hrow2 hp0
  go_wp2_with fail
  go_loopw [5, 6] (fun v i wr => ∃ k : Nat, k ≤ legsLen x.code ∧ i = .int .i64 k ∧ (∃ o1 o2 o3 : Int, Hid ((pathOf x)[k]? = some (o1, o2, o3)) ∧ Hid (Blk wr w1.heap.size 58 #[.int .i64 o1, .int .i64 o2, .int .i64 o3])) ∧ Row wr (w1.heap.size + 1) 58 3 encPt v ((pathOf x).take (k + 1)) ∧ Hid (Below w1.heap.size w1 wr)) (fun _ i _ => legsLen x.code - (intOf i).toNat)
  case atStart => exact ⟨0, Nat.zero_le _, rfl, ⟨0, 0, 0, hide (pathOf_zero x), KA⟩, Hrow.out, HB12⟩
  case round =>
    clear KA Hrow HB12
    obtain ⟨k, hk, rfl, ⟨o1, o2, o3, ho, kA⟩, hrow, hbr⟩ := hrel
    obtain ⟨A0, c0, rfl⟩ := hrow.val
    have hbs := hbr.out.size
    have lk := kA.out.lt
    by_cases hlt : k < legsLen x.code
    · obtain ⟨b, off, m, rfl, hbl, hm, g0, g1, g2⟩ := PtsAt.get (k := k) (Hmv.out.carry (Flat.carried _) hbr.out hbs) (by rw [Hml.out]; exact hlt)
      have hnext := pathFrom_at _ _ _ _ _ ho.out hm
      obtain ⟨m1, m2, m3⟩ := m
      have hnear := nearBy_iff.1 (Hnear.out _ (mem_of_get hnext))
      simp only [addP] at hnear hnext g0 g1 g2
      have Hnext := hide hnext
      have a0 := kA.out.cell 0
      have a1 := kA.out.cell 1
      have a2 := kA.out.cell 2
      have f0 := kA.out.frozen 0
      have f1 := kA.out.frozen 1
      have f2 := kA.out.frozen 2
      simp at a0 a1 a2
      have s1 : IntKind.i64.wrap (o1 + m1) = o1 + m1 := IntWalk.i64_in _ (by omega)
      have s2 : IntKind.i64.wrap (o2 + m2) = o2 + m2 := IntWalk.i64_in _ (by omega)
      have s3 : IntKind.i64.wrap (o3 + m3) = o3 + m3 := IntWalk.i64_in _ (by omega)
      have hacc : ((pathOf x).take (k + 1)).length ≤ 1000 := by rw [List.length_take]; omega
      have Htake := hide (take_path Hnext.out)
      generalize (pathOf x).take (k + 1) = acc at hrow hacc Htake ⊢
      have R1 := hide (Row.drew (Row.alloc (row3 (g := w1.heap.size) hrow (Nat.lt_succ_self _) (.int .i64 (o1 + m1)) (.int .i64 (o2 + m2)) (.int .i64 (o3 + m3))) (.cells #[.int .i64 (o1 + m1), .int .i64 (o2 + m2), .int .i64 (o3 + m3)] 58)))
      have R2 := (Blk.drew (Blk.new (((wr.setCell ⟨w1.heap.size, 0, none⟩ (.int .i64 (o1 + m1))).setCell ⟨w1.heap.size, 1, none⟩ (.int .i64 (o2 + m2))).setCell ⟨w1.heap.size, 2, none⟩ (.int .i64 (o3 + m3))) 58 #[.int .i64 (o1 + m1), .int .i64 (o2 + m2), .int .i64 (o3 + m3)]))
      rw [size3] at R2
      have R2 := hide R2
      have R3 := hide (Blk.drew ((blk3 kA.out (.int .i64 (o1 + m1)) (.int .i64 (o2 + m2)) (.int .i64 (o3 + m3))).alloc (.cells #[.int .i64 (o1 + m1), .int .i64 (o2 + m2), .int .i64 (o3 + m3)] 58)))
      have R5 := hide (Below.drew ((below3 (g := w1.heap.size) hbr.out (Nat.le_refl _) (.int .i64 (o1 + m1)) (.int .i64 (o2 + m2)) (.int .i64 (o3 + m3))).alloc (by rw [size3]; exact hbs) (.cells #[.int .i64 (o1 + m1), .int .i64 (o2 + m2), .int .i64 (o3 + m3)] 58)))
      have R6 := hide (show w1.heap.size + 1 ≤ ((((wr.setCell ⟨w1.heap.size, 0, none⟩ (.int .i64 (o1 + m1))).setCell ⟨w1.heap.size, 1, none⟩ (.int .i64 (o2 + m2))).setCell ⟨w1.heap.size, 2, none⟩ (.int .i64 (o3 + m3))).alloc (.cells #[.int .i64 (o1 + m1), .int .i64 (o2 + m2), .int .i64 (o3 + m3)] 58)).drew.heap.size by rw [World.size_drew, size_alloc', size3]; omega)
      clear hm hbl ho kA hrow hbr hnear hnext
      go_wp2_with fail
      go_still_tail 25, (by kernel_rfl)
      change wpList _ _ _ _ _ (World.drew wr)
      go_wp2_with (at_builtin; go_loud (refine wpList_append1 rfl (.tmp 43) (.tmp 45) 143 rfl (w1.heap.size + 1) 58 (.agg #[.int .i64 0, .int .i64 0, .int .i64 0]) 3 24 encPt Tryz.underlying143 (by kernel_rfl) rfl (by omega) encPt_len encPt_one _ acc (o1 + m1, o2 + m2, o3 + m3) rfl R1.out _ rfl R2.out (by omega) (by omega) R6.out ?_); intro A1 c1 w6 hrow6 hb6 hkeep)
      go_roundw
      case rel => exact ⟨k + 1, by omega, by go_num, ⟨o1 + m1, o2 + m2, o3 + m3, Hnext, hide (R3.out.below hb6 (Nat.lt_succ_self _))⟩, by rw [Htake.out]; simpa using hrow6, hide (R5.out.trans (hb6.mono (by omega)))⟩
      case measure => simp [intOf]; omega
    · obtain rfl : k = legsLen x.code := by omega
      have hfull : (pathOf x).take (legsLen x.code + 1) = pathOf x := List.take_of_length_le (by rw [Hlen.out]; exact Nat.le_refl _)
      rw [hfull] at hrow
      have Hrow := hide hrow
      have hfin := hide (below_step HW1.out hbr.out (Nat.le_refl _))
      rw [hfull]
      generalize hgm : (pathOf x).length = m at *
      have Hm := hide hgm
      clear hrow hfull hgm Hlen
      go_wp2_with fail
      go_ret
      exact ⟨A0, c0, by rw [Hm.out]; rfl, Row.read Hrow.out encPt_len (by omega), hfin.out⟩
end Go.Proofs.YtmcjpdlkkpnhfaaGreatDoor
