/- The catalogue of shapes: legs of a code, how many dimensions it has, whether a bar is valid, and its legs. -/
import Derived.Test.YtmcjpdlkkpnhfaaGreatQaa
namespace Go.Proofs.YtmcjpdlkkpnhfaaGreat
open Go.RowKit

def legsOf (code : Int) : List (Int × Int) :=
  if code = 0 then [(0, 120)] else if code = 11 then [(0, 120), (1, 121)] else if code = 21 then [(0, 89), (1, 120), (2, 121)] else if code = 26 then [(0, 120), (1, 121), (2, 120)]
  else if code = 31 then [(0, 120), (1, 121), (2, 122)] else if code = 41 then [(0, 120), (1, 121), (2, 120), (3, 89), (4, 120)]
  else if code = 51 then [(2, 89), (0, 120), (1, 121), (0, 88), (1, 89), (2, 120)] else if code = 98 then [(0, 122), (1, 89), (2, 120), (1, 121), (0, 122)] else []
def legsLen (code : Int) : Nat := (legsOf code).length
theorem legsLen_le (code : Int) : legsLen code ≤ 6 := by unfold legsLen legsOf; (repeat' split) <;> simp
theorem legs_dims (code : Int) : ∀ p ∈ legsOf code, 0 ≤ p.1 ∧ p.1 ≤ 4 := by
  have h : (legsOf code).all (fun p => decide (0 ≤ p.1) && decide (p.1 ≤ 4)) = true := by
    unfold legsOf
    (repeat' split) <;> rfl
  intro p hp
  have := List.all_eq_true.1 h p hp
  simpa using this
def encLeg (p : Int × Int) : List Value := [.int .i64 p.1, .int .u8 p.2]
theorem encLeg_len (p : Int × Int) : (encLeg p).length = 2 := rfl
abbrev LegsAt (w : World) (B : Nat) (A : Option Addr) (l : List (Int × Int)) : Prop := SlOf w B 2 (Flat encLeg) A l
theorem LegsAt.get {w : World} {B : Nat} {A : Option Addr} {l : List (Int × Int)} (h : LegsAt w B A l) {k : Nat} (hk : k < l.length) :
    ∃ b off d y, A = some ⟨b, off, none⟩ ∧ b < B ∧ l[k]? = some (d, y) ∧ w.cell? ⟨b, off + k * 2, none⟩ = some (.int .i64 d) ∧ w.cell? ⟨b, off + k * 2 + 1, none⟩ = some (.int .u8 y) := by
  obtain ⟨b, off, ⟨d, y⟩, vs, hA, hb, hx, _, hr, hc⟩ := h.at_ hk
  have hr' : vs = encLeg (d, y) := hr
  subst hr'
  exact ⟨b, off, d, y, hA, hb, hx, by simpa using hc 0 _ rfl, by simpa using hc 1 _ rfl⟩

set_option maxHeartbeats 1000000 in
theorem legs_any (code : Int) (w : World) :
    Calls Tryz.prog 165 #[.int .i64 code] w fun e w' => ∃ A, e = .returned (.slice A (legsLen code) (legsLen code)) ∧ LegsAt w' w'.heap.size A (legsOf code) ∧ Below w.heap.size w w' := by
  by_cases hno : legsOf code = []
  · have hl : legsLen code = 0 := by simp [legsLen, hno]
    rw [hl, hno]
    have hs : code ≠ 0 ∧ code ≠ 11 ∧ code ≠ 21 ∧ code ≠ 26 ∧ code ≠ 31 ∧ code ≠ 41 ∧ code ≠ 51 ∧ code ≠ 98 := by
      refine ⟨?_, ?_, ?_, ?_, ?_, ?_, ?_, ?_⟩ <;> (rintro rfl; simp [legsOf] at hno)
    obtain ⟨h0, h1, h2, h3, h4, h5, h6, h7⟩ := hs
    clear hno hl
    go_enter Tryz.func165, Tryz.ntmps165
    go_wp2
    go_ret
    exact ⟨none, rfl, SlOf.nil _ _ _ _ _, Below.refl _ _⟩
  · have hs : code = 0 ∨ code = 11 ∨ code = 21 ∨ code = 26 ∨ code = 31 ∨ code = 41 ∨ code = 51 ∨ code = 98 := by
      have h := hno
      unfold legsOf at h
      refine Decidable.byContradiction fun hn => ?_
      simp only [not_or] at hn
      obtain ⟨h0, h1, h2, h3, h4, h5, h6, h7⟩ := hn
      simp [h0, h1, h2, h3, h4, h5, h6, h7] at h
    clear hno
    rcases hs with rfl | rfl | rfl | rfl | rfl | rfl | rfl | rfl
    all_goals
      go_enter Tryz.func165, Tryz.ntmps165
      go_wp2
      go_ret
      exact ⟨_, rfl, SlOf.lit encLeg_len _ _ _ _ rfl (by simp), below_new _ _⟩

/-- How many dimensions a code has: 0 if it is none. -/
def dimsN (code : Int) : Int := ((legsOf code).foldl (fun a p => max a p.1) (-1)) + 1
def dimsE (code : Int) : Int := if dimsN code = 0 then 11 else 0

set_option maxHeartbeats 1000000 in
theorem dims_any (code : Int) (w : World) :
    Calls Tryz.prog 151 #[.int .i64 code] w fun e w' => e = .returned (.tuple #[.int .i64 (dimsN code), .int .i64 (dimsE code)]) ∧ Below w.heap.size w w' := by
  have hle := legsLen_le code
  go_enter Tryz.func151, Tryz.ntmps151
  go_wp2_with fail
  refine (legs_any _ _).mono ?_; rintro e w1 ⟨A, rfl, hA, hb⟩
  go_wp2_with fail
  go_loopw [4, 10] (fun m i wr => ∃ k : Nat, k ≤ legsLen code ∧ i = .int .i64 k ∧ (∃ d : Int, -1 ≤ d ∧ d ≤ 4 ∧ m = .int .i64 d ∧ Hid (d = ((legsOf code).take k).foldl (fun a p => max a p.1) (-1))) ∧ Below w1.heap.size w1 wr) (fun _ i _ => legsLen code - (intOf i).toNat)
  case atStart => exact ⟨0, Nat.zero_le _, rfl, ⟨-1, by omega, by omega, rfl, hide rfl⟩, Below.refl _ _⟩
  case round =>
    obtain ⟨k, hk, rfl, ⟨m, hm1, hm2, rfl, hm⟩, hbr⟩ := hrel
    by_cases hlt : k < legsLen code
    · obtain ⟨b, off, d, y, rfl, hbl, hx, hc0, hc1⟩ := hA.get (k := k) hlt
      rw [← hbr.cell (by exact hbl)] at hc0 hc1
      have Hx := hide hx
      have hd := legs_dims code _ (mem_of_get hx)
      obtain ⟨hd0, hd4⟩ : 0 ≤ d ∧ d ≤ 4 := hd
      clear hx hA hbl
      go_wp2_with fail
      go_roundw
      case rel => exact ⟨k + 1, by omega, by go_num, ⟨max m d, by omega, by omega, by rw [if_max], hide (by rw [take_snoc' Hx.out, List.foldl_append, ← hm.out]; rfl)⟩, hbr.alloc hbr.size _⟩
      case measure => simp [intOf]; omega
    · obtain rfl : k = legsLen code := by omega
      have hm' := hm.out
      rw [List.take_of_length_le (by simp [legsLen])] at hm'
      have hN := hide (show dimsN code = m + 1 by rw [dimsN, hm'])
      clear hm'
      go_wp2_with fail
      · go_ret2
        exact ⟨by rw [dimsE, hN.out, show m + 1 = 0 by omega]; rfl, below_step hb hbr (Nat.le_refl _)⟩
      · go_ret2
        exact ⟨by rw [dimsE, hN.out, if_neg (by omega)]; rfl, below_step hb hbr (Nat.le_refl _)⟩

/-- A line of a bending schedule. -/
structure BarD where
  mark : ByteArray
  size : Int
  count : Int
  code : Int
  dims : List Int
/-- Each dimension is at least 1, and their sum does not pass rest. -/
def fits (rest : Int) : List Int → Bool
  | [] => true
  | d :: r => decide (1 ≤ d) && decide (d ≤ rest) && fits (rest - d) r
def barOk (x : BarD) : Bool :=
  decide (dimsE x.code = 0) && isName x.mark && isSize x.size && decide (1 ≤ x.count) && decide (x.count ≤ 1000) && decide ((x.dims.length : Int) = dimsN x.code) && fits 262144 x.dims

/-- What is asked ahead of the dimensions themselves. -/
def barPre (x : BarD) : Bool :=
  decide (dimsE x.code = 0) && isName x.mark && isSize x.size && decide (1 ≤ x.count) && decide (x.count ≤ 1000) && decide ((x.dims.length : Int) = dimsN x.code)
theorem barOk_pre (x : BarD) : barOk x = (barPre x && fits 262144 x.dims) := rfl

set_option maxHeartbeats 1000000 in
theorem barValid_any (x : BarD) (A : Option Addr) (c : Nat) (w : World) {B : Nat} (hA : Ints w B A x.dims) (hB : B ≤ w.heap.size) (hm : x.mark.size ≤ maxLen) (hd : x.dims.length ≤ 60000) :
    Calls Tryz.prog 113 #[.agg #[.string x.mark, .int .i64 x.size, .int .i64 x.count, .int .i64 x.code, .slice A x.dims.length c]] w fun e w' => e = .returned (.bool (barOk x)) ∧ Below w.heap.size w w' := by
  rw [barOk_pre]
  cases hpre : barPre x
  · obtain ⟨mark, size, count, code, dims⟩ := x
    have Hp := hide hpre
    simp only at hA hm hd ⊢
    clear hpre hA
    go_enter Tryz.func113, Tryz.ntmps113
    go_wp2_with fail
    refine (dims_any _ _).mono ?_; rintro e w1 ⟨rfl, hb⟩
    have b0 := (Blk.new w 57 #[.string mark, .int .i64 size, .int .i64 count, .int .i64 code, .slice A dims.length c]).keep hb
    have c0 := b0.cell 0
    have c1 := b0.cell 1
    have c2 := b0.cell 2
    have c4 := b0.cell 4
    simp at c0 c1 c2 c4
    clear b0
    have hAll := below_step (below_new w _) hb (Nat.le_refl _)
    clear hb
    go_wp2_with (first
      | (go_at_call 125; refine (isName_any _ _ hm).mono ?_; rintro e w' ⟨rfl, rfl⟩)
      | (go_at_call 81; refine (size_any _ _).mono ?_; rintro e w2 ⟨rfl, hb2⟩; have e2 := cell_later hb2 c2; have e4 := cell_later hb2 c4))
    any_goals (go_ret; exact ⟨by simp, by first | exact hAll | exact below_step hAll hb2 (Nat.le_refl _)⟩)
    all_goals
      exfalso
      have h := Hp.out
      simp_all [barPre]
  · have hP := hpre
    simp only [barPre, Bool.and_eq_true, decide_eq_true_eq] at hP
    obtain ⟨⟨⟨⟨⟨p0, p1⟩, p2⟩, p3⟩, p4⟩, p5⟩ := hP
    obtain ⟨mark, size, count, code, dims⟩ := x
    simp only at hA hm hd p0 p1 p2 p3 p4 p5 ⊢
    have H0 := hide p0
    have H1 := hide p1
    have H2 := hide p2
    have h5 : ((dims.length : Int) != dimsN code) = false := by simp [p5]
    clear p0 p1 p2 p5 hpre
    go_enter Tryz.func113, Tryz.ntmps113
    go_wp2_with fail
    refine (dims_any _ _).mono ?_; rintro e w1 ⟨rfl, hb⟩; rw [H0.out]
    have b0 := (Blk.new w 57 #[.string mark, .int .i64 size, .int .i64 count, .int .i64 code, .slice A dims.length c]).keep hb
    have c0 := b0.cell 0
    have c1 := b0.cell 1
    have c2 := b0.cell 2
    have c4 := b0.cell 4
    simp at c0 c1 c2 c4
    clear b0
    have hBs := hb.size
    simp at hBs
    have hA1 : Ints w1 B A dims := hA.carry (((Below.refl _ _).alloc hB _).trans (hb.mono (by simp; omega))) (Nat.le_refl _)
    have hAll := below_step (below_new w _) hb (Nat.le_refl _)
    clear hA hb
    go_wp2_with (first
      | (go_at_call 125; refine (isName_any _ _ hm).mono ?_; rintro e w' ⟨rfl, rfl⟩; rw [H1.out])
      | (go_at_call 81; refine (size_any _ _).mono ?_; rintro e w2 ⟨rfl, hb2⟩; rw [H2.out]; have e2 := cell_later hb2 c2; have e4 := cell_later hb2 c4))
    have hA2 := hA1.carry (hb2.mono (by omega)) (Nat.le_refl B)
    have hw2 := below_step hAll hb2 (Nat.le_refl _)
    clear hA1 hAll c0 c1 c2 c4 e2 hb2
    go_loop [5, 48] (fun r i => ∃ k : Nat, k ≤ dims.length ∧ i = .int .i64 k ∧ ∃ rest : Int, 0 ≤ rest ∧ rest ≤ 262144 ∧ r = .int .i64 rest ∧ Hid (fits 262144 dims = fits rest (dims.drop k))) (fun _ i => dims.length - (intOf i).toNat)
    case atStart => exact ⟨0, Nat.zero_le _, rfl, 262144, by omega, by omega, rfl, hide rfl⟩
    case round =>
      obtain ⟨k, hk, rfl, rest, hr0, hr1, rfl, hf⟩ := hrel
      by_cases hlt : k < dims.length
      · obtain ⟨b, off, y, rfl, hbl, hy, hc⟩ := hA2.get (k := k) hlt
        have Hf := hide (hf.out.trans (by rw [drop_at' hy, fits]))
        clear hy hbl hA2 hf e4
        go_wp2_with fail
        all_goals first
          | (go_ret; exact ⟨ret_bool (by rw [Hf.out]; simp_all <;> omega), hw2⟩)
          | (go_round
             case rel => exact ⟨k + 1, by omega, by go_num, rest - y, by omega, by omega, rfl, hide (by rw [Hf.out]; simp_all)⟩
             case measure => simp [intOf]; omega)
      · obtain rfl : k = dims.length := by omega
        go_wp2_with fail
        go_ret
        exact ⟨ret_bool (by rw [hf.out]; simp [fits]), hw2⟩
end Go.Proofs.YtmcjpdlkkpnhfaaGreat
