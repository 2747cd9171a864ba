/- Sizes of bars: the list of sizes, and whether a number is one. The catalogue of shapes: legs of a code, how many dimensions it has, whether a bar is valid, and its legs. Bending schedules: the place of a mark, whether a schedule is valid, and the sum of its counts. -/
import Derived.Test.YtpmipoljnchheaaGreatMaa
namespace Go.Proofs.YtpmipoljnchheaaGreat
open Go.RowKit

set_option maxHeartbeats 400000 in
theorem index_any (A : Option Addr) (l : List Int) (n c : Nat) (x : Int) (w : World) {B : Nat} (h : Ints w B A l) (hn : n = l.length) (hm : n ≤ 60000) :
    Calls Tryz.prog 192 #[.slice A n c, .int .i64 x] w fun e w' => e = .returned (.int .i64 (idx (fun y => x == y) l)) ∧ w = w' := by
  have hn' := hide hn; clear hn
  go_enter Tryz.func192, Tryz.ntmps192
  go_wp2
  go_loop [5, 8] (fun _ i => ∃ k : Nat, k ≤ n ∧ i = .int .i64 k ∧ NoneTo (fun y => x == y) l k) (fun _ i => n - (intOf i).toNat)
  case atStart => exact ⟨0, Nat.zero_le _, rfl, NoneTo.zero _ _⟩
  case round =>
    obtain ⟨k, hk, rfl, hw⟩ := hrel
    by_cases hlt : k < n
    · obtain ⟨b, off, y, rfl, hb, hy, hc⟩ := h.get (k := k) (by rw [← hn'.out]; exact hlt)
      have Hy := hide hy
      clear hy hb h
      go_wp2_with fail
      · go_ret
        exact ⟨ret_int (hw.hit Hy.out (by assumption)).symm, rfl⟩
      · go_round
        case rel => exact ⟨k + 1, by omega, by go_num, hw.succ Hy.out (by assumption)⟩
        case measure => simp [intOf]; omega
    · obtain rfl : k = n := by omega
      go_wp2_with fail
      go_ret
      exact ⟨ret_int (NoneTo.miss (by rw [← hn'.out]; exact hw)).symm, rfl⟩

def steelSizes : List Int := [6, 8, 10, 12, 16, 20, 25, 32, 40]
def has (x : Int) (l : List Int) : Bool := l.contains x
def isSize (d : Int) : Bool := has d steelSizes

set_option maxHeartbeats 400000 in
theorem contains_any (A : Option Addr) (l : List Int) (n c : Nat) (x : Int) (w : World) {B : Nat} (h : Ints w B A l) (hn : n = l.length) (hm : n ≤ 60000) :
    Calls Tryz.prog 185 #[.slice A n c, .int .i64 x] w fun e w' => e = .returned (.bool (has x l)) ∧ w = w' := by
  have hn' := hide hn; clear hn
  go_enter Tryz.func185, Tryz.ntmps185
  go_wp2_with (go_at_call 192; refine (index_any A l n c x _ h hn'.out hm).mono ?_; rintro e w' ⟨rfl, rfl⟩)
  go_ret
  refine ⟨ret_bool ?_, rfl⟩
  rw [idx_any, has, Bool.eq_iff_iff]
  simp

set_option maxHeartbeats 400000 in
theorem sizes_any (w : World) :
    Calls Tryz.prog 186 #[] w fun e w' => ∃ A, e = .returned (.slice A 9 9) ∧ Ints w' w'.heap.size A steelSizes ∧ Below w.heap.size w w' := by
  go_enter Tryz.func186, Tryz.ntmps186
  go_wp2
  go_ret
  exact ⟨_, rfl, SlOf.lit encInt_len _ _ _ _ rfl (by simp), (Below.refl _ _).alloc (Nat.le_refl _) _⟩

set_option maxHeartbeats 400000 in
theorem size_any (d : Int) (w : World) :
    Calls Tryz.prog 160 #[.int .i64 d] w fun e w' => e = .returned (.bool (isSize d)) ∧ Below w.heap.size w w' := by
  go_enter Tryz.func160, Tryz.ntmps160
  go_wp2_with (first | (go_at_call 186; refine (sizes_any _).mono ?_; rintro e w1 ⟨A, rfl, hi, hb⟩) | (go_at_call 185; refine (contains_any A steelSizes 9 9 d _ hi rfl (by omega)).mono ?_; rintro e w2 ⟨rfl, rfl⟩))
  go_ret
  exact ⟨rfl, hb⟩

theorem isSize_mem {d : Int} (h : isSize d = true) : d ∈ steelSizes := by simpa [isSize, has] using h
theorem isSize_range {d : Int} (h : isSize d = true) : 6 ≤ d ∧ d ≤ 40 := by
  have := isSize_mem h
  simp [steelSizes] at this
  omega


end Go.Proofs.YtpmipoljnchheaaGreat
namespace Go.Proofs.YtpmipoljnchheaaGreat
open Go.RowKit

def legsOf (code : Int) : List (Int × Int) :=
  if code = 0 then [(0, 120)] else if code = 11 then [(0, 120), (1, 121)] else if code = 21 then [(0, 89), (1, 120), (2, 121)] else if code = 26 then [(0, 120), (1, 121), (2, 120)]
  else if code = 31 then [(0, 120), (1, 121), (2, 122)] else if code = 41 then [(0, 120), (1, 121), (2, 120), (3, 89), (4, 120)]
  else if code = 51 then [(2, 89), (0, 120), (1, 121), (0, 88), (1, 89), (2, 120)] else if code = 98 then [(0, 122), (1, 89), (2, 120), (1, 121), (0, 122)] else []
def legsLen (code : Int) : Nat := (legsOf code).length
theorem legsLen_le (code : Int) : legsLen code ≤ 6 := by unfold legsLen legsOf; (repeat' split) <;> simp
theorem legs_dims (code : Int) : ∀ p ∈ legsOf code, 0 ≤ p.1 ∧ p.1 ≤ 4 := by
  have h : (legsOf code).all (fun p => decide (0 ≤ p.1) && decide (p.1 ≤ 4)) = true := by
    unfold legsOf
    (repeat' split) <;> rfl
  intro p hp
  have := List.all_eq_true.1 h p hp
  simpa using this
def encLeg (p : Int × Int) : List Value := [.int .i64 p.1, .int .u8 p.2]
theorem encLeg_len (p : Int × Int) : (encLeg p).length = 2 := rfl
abbrev LegsAt (w : World) (B : Nat) (A : Option Addr) (l : List (Int × Int)) : Prop := SlOf w B 2 (Flat encLeg) A l
theorem LegsAt.get {w : World} {B : Nat} {A : Option Addr} {l : List (Int × Int)} (h : LegsAt w B A l) {k : Nat} (hk : k < l.length) :
    ∃ b off d y, A = some ⟨b, off, none⟩ ∧ b < B ∧ l[k]? = some (d, y) ∧ w.cell? ⟨b, off + k * 2, none⟩ = some (.int .i64 d) ∧ w.cell? ⟨b, off + k * 2 + 1, none⟩ = some (.int .u8 y) := by
  obtain ⟨b, off, ⟨d, y⟩, vs, hA, hb, hx, _, hr, hc⟩ := h.at_ hk
  have hr' : vs = encLeg (d, y) := hr
  subst hr'
  exact ⟨b, off, d, y, hA, hb, hx, by simpa using hc 0 _ rfl, by simpa using hc 1 _ rfl⟩

set_option maxHeartbeats 1000000 in
theorem legs_any (code : Int) (w : World) :
    Calls Tryz.prog 176 #[.int .i64 code] w fun e w' => ∃ A, e = .returned (.slice A (legsLen code) (legsLen code)) ∧ LegsAt w' w'.heap.size A (legsOf code) ∧ Below w.heap.size w w' := by
  by_cases hno : legsOf code = []
  · have hl : legsLen code = 0 := by simp [legsLen, hno]
    rw [hl, hno]
    have hs : code ≠ 0 ∧ code ≠ 11 ∧ code ≠ 21 ∧ code ≠ 26 ∧ code ≠ 31 ∧ code ≠ 41 ∧ code ≠ 51 ∧ code ≠ 98 := by
      refine ⟨?_, ?_, ?_, ?_, ?_, ?_, ?_, ?_⟩ <;> (rintro rfl; simp [legsOf] at hno)
    obtain ⟨h0, h1, h2, h3, h4, h5, h6, h7⟩ := hs
    clear hno hl
    go_enter Tryz.func176, Tryz.ntmps176
    go_wp2
    go_ret
    exact ⟨none, rfl, SlOf.nil _ _ _ _ _, Below.refl _ _⟩
  · have hs : code = 0 ∨ code = 11 ∨ code = 21 ∨ code = 26 ∨ code = 31 ∨ code = 41 ∨ code = 51 ∨ code = 98 := by
      have h := hno
      unfold legsOf at h
      refine Decidable.byContradiction fun hn => ?_
      simp only [not_or] at hn
      obtain ⟨h0, h1, h2, h3, h4, h5, h6, h7⟩ := hn
      simp [h0, h1, h2, h3, h4, h5, h6, h7] at h
    clear hno
    rcases hs with rfl | rfl | rfl | rfl | rfl | rfl | rfl | rfl
    all_goals
      go_enter Tryz.func176, Tryz.ntmps176
      go_wp2
      go_ret
      exact ⟨_, rfl, SlOf.lit encLeg_len _ _ _ _ rfl (by simp), below_new _ _⟩

/-- How many dimensions a code has: 0 if it is none. -/
def dimsN (code : Int) : Int := ((legsOf code).foldl (fun a p => max a p.1) (-1)) + 1
def dimsE (code : Int) : Int := if dimsN code = 0 then 11 else 0

set_option maxHeartbeats 1000000 in
theorem dims_any (code : Int) (w : World) :
    Calls Tryz.prog 159 #[.int .i64 code] w fun e w' => e = .returned (.tuple #[.int .i64 (dimsN code), .int .i64 (dimsE code)]) ∧ Below w.heap.size w w' := by
  have hle := legsLen_le code
  go_enter Tryz.func159, Tryz.ntmps159
  go_wp2_with fail
  refine (legs_any _ _).mono ?_; rintro e w1 ⟨A, rfl, hA, hb⟩
  go_wp2_with fail
  go_loopw [4, 10] (fun m i wr => ∃ k : Nat, k ≤ legsLen code ∧ i = .int .i64 k ∧ (∃ d : Int, -1 ≤ d ∧ d ≤ 4 ∧ m = .int .i64 d ∧ Hid (d = ((legsOf code).take k).foldl (fun a p => max a p.1) (-1))) ∧ Below w1.heap.size w1 wr) (fun _ i _ => legsLen code - (intOf i).toNat)
  case atStart => exact ⟨0, Nat.zero_le _, rfl, ⟨-1, by omega, by omega, rfl, hide rfl⟩, Below.refl _ _⟩
  case round =>
    obtain ⟨k, hk, rfl, ⟨m, hm1, hm2, rfl, hm⟩, hbr⟩ := hrel
    by_cases hlt : k < legsLen code
    · obtain ⟨b, off, d, y, rfl, hbl, hx, hc0, hc1⟩ := hA.get (k := k) hlt
      rw [← hbr.cell (by exact hbl)] at hc0 hc1
      have Hx := hide hx
      have hd := legs_dims code _ (mem_of_get hx)
      obtain ⟨hd0, hd4⟩ : 0 ≤ d ∧ d ≤ 4 := hd
      clear hx hA hbl
      go_wp2_with fail
      go_roundw
      case rel => exact ⟨k + 1, by omega, by go_num, ⟨max m d, by omega, by omega, by rw [if_max], hide (by rw [take_snoc' Hx.out, List.foldl_append, ← hm.out]; rfl)⟩, hbr.alloc hbr.size _⟩
      case measure => simp [intOf]; omega
    · obtain rfl : k = legsLen code := by omega
      have hm' := hm.out
      rw [List.take_of_length_le (by simp [legsLen])] at hm'
      have hN := hide (show dimsN code = m + 1 by rw [dimsN, hm'])
      clear hm'
      go_wp2_with fail
      · go_ret2
        exact ⟨by rw [dimsE, hN.out, show m + 1 = 0 by omega]; rfl, below_step hb hbr (Nat.le_refl _)⟩
      · go_ret2
        exact ⟨by rw [dimsE, hN.out, if_neg (by omega)]; rfl, below_step hb hbr (Nat.le_refl _)⟩

/-- A line of a bending schedule. -/
structure BarD where
  mark : ByteArray
  size : Int
  count : Int
  code : Int
  dims : List Int
/-- Each dimension is at least 1, and their sum does not pass rest. -/
def fits (rest : Int) : List Int → Bool
  | [] => true
  | d :: r => decide (1 ≤ d) && decide (d ≤ rest) && fits (rest - d) r
def barOk (x : BarD) : Bool :=
  decide (dimsE x.code = 0) && isName x.mark && isSize x.size && decide (1 ≤ x.count) && decide (x.count ≤ 1000) && decide ((x.dims.length : Int) = dimsN x.code) && fits 262144 x.dims

/-- What is asked ahead of the dimensions themselves. -/
def barPre (x : BarD) : Bool :=
  decide (dimsE x.code = 0) && isName x.mark && isSize x.size && decide (1 ≤ x.count) && decide (x.count ≤ 1000) && decide ((x.dims.length : Int) = dimsN x.code)
theorem barOk_pre (x : BarD) : barOk x = (barPre x && fits 262144 x.dims) := rfl

set_option maxHeartbeats 1000000 in
theorem barValid_any (x : BarD) (A : Option Addr) (c : Nat) (w : World) {B : Nat} (hA : Ints w B A x.dims) (hB : B ≤ w.heap.size) (hm : x.mark.size ≤ maxLen) (hd : x.dims.length ≤ 60000) :
    Calls Tryz.prog 120 #[.agg #[.string x.mark, .int .i64 x.size, .int .i64 x.count, .int .i64 x.code, .slice A x.dims.length c]] w fun e w' => e = .returned (.bool (barOk x)) ∧ Below w.heap.size w w' := by
  rw [barOk_pre]
  cases hpre : barPre x
  · obtain ⟨mark, size, count, code, dims⟩ := x
    have Hp := hide hpre
    simp only at hA hm hd ⊢
    clear hpre hA
    go_enter Tryz.func120, Tryz.ntmps120
    go_wp2_with fail
    refine (dims_any _ _).mono ?_; rintro e w1 ⟨rfl, hb⟩
    have b0 := (Blk.new w 65 #[.string mark, .int .i64 size, .int .i64 count, .int .i64 code, .slice A dims.length c]).keep hb
    have c0 := b0.cell 0
    have c1 := b0.cell 1
    have c2 := b0.cell 2
    have c4 := b0.cell 4
    simp at c0 c1 c2 c4
    clear b0
    have hAll := below_step (below_new w _) hb (Nat.le_refl _)
    clear hb
    go_wp2_with (first
      | (go_at_call 139; refine (isName_any _ _ hm).mono ?_; rintro e w' ⟨rfl, rfl⟩)
      | (go_at_call 160; refine (size_any _ _).mono ?_; rintro e w2 ⟨rfl, hb2⟩; have e2 := cell_later hb2 c2; have e4 := cell_later hb2 c4))
    any_goals (go_ret; exact ⟨by simp, by first | exact hAll | exact below_step hAll hb2 (Nat.le_refl _)⟩)
    all_goals
      exfalso
      have h := Hp.out
      simp_all [barPre]
  · have hP := hpre
    simp only [barPre, Bool.and_eq_true, decide_eq_true_eq] at hP
    obtain ⟨⟨⟨⟨⟨p0, p1⟩, p2⟩, p3⟩, p4⟩, p5⟩ := hP
    obtain ⟨mark, size, count, code, dims⟩ := x
    simp only at hA hm hd p0 p1 p2 p3 p4 p5 ⊢
    have H0 := hide p0
    have H1 := hide p1
    have H2 := hide p2
    have h5 : ((dims.length : Int) != dimsN code) = false := by simp [p5]
    clear p0 p1 p2 p5 hpre
    go_enter Tryz.func120, Tryz.ntmps120
    go_wp2_with fail
    refine (dims_any _ _).mono ?_; rintro e w1 ⟨rfl, hb⟩; rw [H0.out]
    have b0 := (Blk.new w 65 #[.string mark, .int .i64 size, .int .i64 count, .int .i64 code, .slice A dims.length c]).keep hb
    have c0 := b0.cell 0
    have c1 := b0.cell 1
    have c2 := b0.cell 2
    have c4 := b0.cell 4
    simp at c0 c1 c2 c4
    clear b0
    have hBs := hb.size
    simp at hBs
    have hA1 : Ints w1 B A dims := hA.carry (((Below.refl _ _).alloc hB _).trans (hb.mono (by simp; omega))) (Nat.le_refl _)
    have hAll := below_step (below_new w _) hb (Nat.le_refl _)
    clear hA hb
    go_wp2_with (first
      | (go_at_call 139; refine (isName_any _ _ hm).mono ?_; rintro e w' ⟨rfl, rfl⟩; rw [H1.out])
      | (go_at_call 160; refine (size_any _ _).mono ?_; rintro e w2 ⟨rfl, hb2⟩; rw [H2.out]; have e2 := cell_later hb2 c2; have e4 := cell_later hb2 c4))
    have hA2 := hA1.carry (hb2.mono (by omega)) (Nat.le_refl B)
    have hw2 := below_step hAll hb2 (Nat.le_refl _)
    clear hA1 hAll c0 c1 c2 c4 e2 hb2
    go_loop [5, 48] (fun r i => ∃ k : Nat, k ≤ dims.length ∧ i = .int .i64 k ∧ ∃ rest : Int, 0 ≤ rest ∧ rest ≤ 262144 ∧ r = .int .i64 rest ∧ Hid (fits 262144 dims = fits rest (dims.drop k))) (fun _ i => dims.length - (intOf i).toNat)
    case atStart => exact ⟨0, Nat.zero_le _, rfl, 262144, by omega, by omega, rfl, hide rfl⟩
    case round =>
      obtain ⟨k, hk, rfl, rest, hr0, hr1, rfl, hf⟩ := hrel
      by_cases hlt : k < dims.length
      · obtain ⟨b, off, y, rfl, hbl, hy, hc⟩ := hA2.get (k := k) hlt
        have Hf := hide (hf.out.trans (by rw [drop_at' hy, fits]))
        clear hy hbl hA2 hf e4
        go_wp2_with fail
        all_goals first
          | (go_ret; exact ⟨ret_bool (by rw [Hf.out]; simp_all <;> omega), hw2⟩)
          | (go_round
             case rel => exact ⟨k + 1, by omega, by go_num, rest - y, by omega, by omega, rfl, hide (by rw [Hf.out]; simp_all)⟩
             case measure => simp [intOf]; omega)
      · obtain rfl : k = dims.length := by omega
        go_wp2_with fail
        go_ret
        exact ⟨ret_bool (by rw [hf.out]; simp [fits]), hw2⟩
end Go.Proofs.YtpmipoljnchheaaGreat
namespace Go.Proofs.YtpmipoljnchheaaGreat
open Go.RowKit

def barR : World → Nat → List Value → BarD → Prop := fun w B vs x => ∃ A c, vs = [.string x.mark, .int .i64 x.size, .int .i64 x.count, .int .i64 x.code, .slice A x.dims.length c] ∧ Ints w B A x.dims
theorem barR_carried : Carried barR := fun _ _ _ _ _ _ hb hB ⟨A, c, h, hi⟩ => ⟨A, c, h, hi.carry hb hB⟩
abbrev BarsAt (w : World) (B : Nat) (A : Option Addr) (l : List BarD) : Prop := SlOf w B 5 barR A l
theorem BarsAt.carry {w w' : World} {B B' : Nat} {A : Option Addr} {l : List BarD} (h : BarsAt w B A l) (hb : Below B w w') (hB : B ≤ B') : BarsAt w' B' A l := SlOf.carry barR_carried h hb hB
theorem BarsAt.get {w : World} {B : Nat} {A : Option Addr} {l : List BarD} (h : BarsAt w B A l) {k : Nat} (hk : k < l.length) :
    ∃ b off x A' c', A = some ⟨b, off, none⟩ ∧ b < B ∧ l[k]? = some x ∧ Ints w B A' x.dims ∧ w.cell? ⟨b, off + k * 5, none⟩ = some (.string x.mark) ∧ w.cell? ⟨b, off + k * 5 + 1, none⟩ = some (.int .i64 x.size) ∧
      w.cell? ⟨b, off + k * 5 + 2, none⟩ = some (.int .i64 x.count) ∧ w.cell? ⟨b, off + k * 5 + 3, none⟩ = some (.int .i64 x.code) ∧ w.cell? ⟨b, off + k * 5 + 4, none⟩ = some (.slice A' x.dims.length c') := by
  obtain ⟨b, off, x, vs, hA, hb, hx, _, ⟨A', c', rfl, hi⟩, hc⟩ := h.at_ hk
  exact ⟨b, off, x, A', c', hA, hb, hx, hi, by simpa using hc 0 _ rfl, by simpa using hc 1 _ rfl, by simpa using hc 2 _ rfl, by simpa using hc 3 _ rfl, by simpa using hc 4 _ rfl⟩
/-- A bar as a value. -/
def barV (x : BarD) (A : Option Addr) (c : Nat) : Value := .agg #[.string x.mark, .int .i64 x.size, .int .i64 x.count, .int .i64 x.code, .slice A x.dims.length c]

set_option maxHeartbeats 400000 in
theorem indexFuncBar_any (A : Option Addr) (l : List BarD) (n c : Nat) (fid : FuncId) (caps : Array Value) (p : BarD → Bool) (w : World) {B : Nat} (h : BarsAt w B A l) (hB : B ≤ w.heap.size) (hn : n = l.length) (hm : n ≤ 60000)
    (hc : ∀ args w, (callFunc fid args).run Tryz.prog w = .ok (.enter fid args) w)
    (hf : ∀ x A' c' (W : World), x ∈ l → Below w.heap.size w W → Ints W B A' x.dims →
      Calls Tryz.prog fid (#[.agg #[.string x.mark, .int .i64 x.size, .int .i64 x.count, .int .i64 x.code, .slice A' x.dims.length c']] ++ caps) W fun e W' => e = .returned (.bool (p x)) ∧ Below W.heap.size W W') :
    Calls Tryz.prog 64 #[.slice A n c, .func (.func fid) #[] caps] w fun e w' => e = .returned (.int .i64 (idx p l)) ∧ Below w.heap.size w w' := by
  have Hf := hide hf
  have hn' := hide hn
  clear hf hn
  go_enter Tryz.func64, Tryz.ntmps64
  go_wp2_with fail
  go_loopw [8] (fun i wr => ∃ k : Nat, k ≤ n ∧ i = .int .i64 k ∧ NoneTo p l k ∧ Below w.heap.size w wr) (fun i _ => n - (intOf i).toNat)
  case atStart => exact ⟨0, Nat.zero_le _, rfl, NoneTo.zero _ _, Below.refl _ _⟩
  case round =>
    obtain ⟨k, hk, rfl, hw, hb⟩ := hrel
    by_cases hlt : k < n
    · obtain ⟨b, off, x, A', c', rfl, hbl, hx, hi, h0, h1, h2, h3, h4⟩ := BarsAt.get (k := k) (h.carry (hb.mono hB) (Nat.le_refl _)) (by rw [← hn'.out]; exact hlt)
      have Hx := hide hx
      have Hi := hide hi
      clear hx hi h hbl
      go_wp2_with fail
      refine (Hf.out x A' c' _ (mem_of_get Hx.out) hb Hi.out).mono ?_
      rintro e w1 ⟨rfl, hb1⟩
      clear h0 h1 h2 h3 h4
      have hb2 := below_step hb hb1 (Nat.le_refl _)
      cases hp : p x
      · have Hp := hide hp
        clear hp
        go_wp2_with fail
        go_roundw
        case rel => exact ⟨k + 1, by omega, by go_num, hw.succ Hx.out Hp.out, hb2⟩
        case measure => simp [intOf]; omega
      · have Hp := hide hp
        clear hp
        go_wp2_with fail
        go_ret
        exact ⟨ret_int (hw.hit Hx.out Hp.out).symm, hb2⟩
    · obtain rfl : k = n := by omega
      go_wp2_with fail
      go_ret
      exact ⟨ret_int (NoneTo.miss (by rw [← hn'.out]; exact hw)).symm, hb⟩

def markIs (m : ByteArray) (x : BarD) : Bool := x.mark.toList == m.toList

set_option maxHeartbeats 400000 in
theorem index1_any (x : BarD) (A : Option Addr) (c : Nat) (m : ByteArray) (g : Nat) (w : World) (h0 : w.cell? ⟨g, 0, none⟩ = some (.string m)) :
    Calls Tryz.prog 161 #[.agg #[.string x.mark, .int .i64 x.size, .int .i64 x.count, .int .i64 x.code, .slice A x.dims.length c], .pointer (some ⟨g, 0, none⟩)] w fun e w' => e = .returned (.bool (markIs m x)) ∧ Below w.heap.size w w' := by
  have hg : g < w.heap.size := by
    have := World.block_lt_of_cell? w _ h0
    exact this
  have h1 := fun o => (World.cell?_alloc_lt w o ⟨g, 0, none⟩ hg).trans h0
  go_enter Tryz.func161, Tryz.ntmps161
  go_wp2_with fail
  go_ret
  exact ⟨ret_bool (by rfl), below_new _ _⟩

set_option maxHeartbeats 400000 in
theorem schedIndex_any (A : Option Addr) (l : List BarD) (n c : Nat) (m : ByteArray) (w : World) {B : Nat} (h : BarsAt w B A l) (hB : B ≤ w.heap.size) (hn : n = l.length) (hm : n ≤ 60000) :
    Calls Tryz.prog 121 #[.slice A n c, .string m] w fun e w' => e = .returned (.int .i64 (idx (markIs m) l)) ∧ Below w.heap.size w w' := by
  have hn' := hide hn
  have h1 := hide (h.carry ((Below.refl B w).alloc hB (.cells #[.string m] 9)) (Nat.le_refl B))
  have h2 := hide (le_alloc hB (.cells #[.string m] 9))
  clear hn
  go_enter Tryz.func121, Tryz.ntmps121
  go_wp2_with fail
  refine (indexFuncBar_any A l n c 161 #[.pointer (some ⟨w.heap.size, 0, none⟩)] (markIs m) _ h1.out h2.out hn'.out hm Tryz.call161 (fun x A' c' W _ hb _ => index1_any x A' c' m w.heap.size W (by have h0 := ((Blk.new w 9 #[.string m]).keep hb).cell 0; simpa using h0))).mono ?_
  rintro e w1 ⟨rfl, hb⟩
  go_wp2_with fail
  go_ret
  exact ⟨rfl, below_step (below_new _ _) hb (Nat.le_refl _)⟩

/-- Marks and dimensions are no longer than a machine's list. -/
def Tame (l : List BarD) : Prop := ∀ x ∈ l, x.mark.size ≤ maxLen ∧ x.dims.length ≤ 60000
def schedFrom (l : List BarD) : Nat → List BarD → Bool
  | _, [] => true
  | k, x :: r => barOk x && decide (idx (markIs x.mark) l = k) && schedFrom l (k + 1) r
def schedOk (l : List BarD) : Bool := decide (l.length ≤ 60) && schedFrom l 0 l

set_option maxHeartbeats 1000000 in
theorem schedValid_any (A : Option Addr) (l : List BarD) (n c : Nat) (w : World) {B : Nat} (h : BarsAt w B A l) (hB : B ≤ w.heap.size) (hn : n = l.length) (hg : Tame l) (hm : n ≤ 60000) :
    Calls Tryz.prog 87 #[.slice A n c] w fun e w' => e = .returned (.bool (schedOk l)) ∧ Below w.heap.size w w' := by
  have hn' := hide hn
  have Hg := hide hg
  by_cases h60 : n ≤ 60
  · have hs : schedOk l = schedFrom l 0 l := by simp [schedOk, ← hn, h60]
    rw [hs]
    clear hs hn hg hm
    go_enter Tryz.func87, Tryz.ntmps87
    go_wp2_with fail
    go_loopw [10] (fun i wr => ∃ k : Nat, k ≤ n ∧ i = .int .i64 k ∧ Hid (schedFrom l 0 l = schedFrom l k (l.drop k)) ∧ Below w.heap.size w wr) (fun i _ => n - (intOf i).toNat)
    case atStart => exact ⟨0, Nat.zero_le _, rfl, hide rfl, Below.refl _ _⟩
    case round =>
      obtain ⟨k, hk, rfl, hw, hb⟩ := hrel
      by_cases hlt : k < n
      · have HR := hide (h.carry (hb.mono hB) (Nat.le_refl _))
        have hBr := Nat.le_trans hB hb.size
        obtain ⟨b, off, x, A', c', hA, hbl, hx, hi, h0, h1, h2, h3, h4⟩ := BarsAt.get (k := k) HR.out (by rw [← hn'.out]; exact hlt)
        have HA := hide hA
        subst hA
        have Hx := hide hx
        have hgx := Hg.out x (mem_of_get hx)
        have Hw := hide (hw.out.trans (by rw [drop_at' hx, schedFrom]))
        have Hi := hide hi
        have hbo := fun o => hide ((Below.refl B wr).alloc hBr o)
        clear hx hi h hbl hw
        go_wp2_with fail
        refine (barValid_any x A' c' _ (Hi.out.carry (hbo _).out (Nat.le_refl _)) (le_alloc hBr _) hgx.1 hgx.2).mono ?_
        rintro e w1 ⟨rfl, hb1⟩
        have b0 := (Blk.new wr 65 #[.string x.mark, .int .i64 x.size, .int .i64 x.count, .int .i64 x.code, .slice A' x.dims.length c']).keep hb1
        have c0 := b0.cell 0
        simp at c0
        have hbw1 := hide (below_step (below_step hb (below_new wr _) (Nat.le_refl _)) hb1 (Nat.le_refl _))
        have hB1 := hide (HR.out.carry (((hbo _).out).trans (hb1.mono (le_alloc hBr _))) (Nat.le_refl _))
        have hs1 := Nat.le_trans hB hbw1.out.size
        clear b0 h0 h1 h2 h3 h4 hbo hb1 HR Hi
        cases hp : barOk x
        · have Hp := hide hp
          clear hp
          go_wp2_with fail
          go_ret
          exact ⟨ret_bool (by rw [Hw.out, Hp.out]; rfl), hbw1.out⟩
        · have Hp := hide hp
          clear hp
          go_wp2_with fail
          refine (schedIndex_any _ l n c x.mark _ hB1.out hs1 hn'.out (by omega)).mono ?_
          rintro e w2 ⟨rfl, hb2⟩
          have hbw2 := hide (below_step hbw1.out hb2 (Nat.le_refl _))
          clear hb2 c0
          cases hq : decide (idx (markIs x.mark) l = k)
          · have Hq := hide hq
            have hq' : (idx (markIs x.mark) l != (k : Int)) = true := by simpa using hq
            clear hq
            go_wp2_with fail
            go_ret
            exact ⟨ret_bool (by rw [Hw.out, Hp.out, Hq.out]; rfl), hbw2.out⟩
          · have Hq := hide hq
            have hq' : (idx (markIs x.mark) l != (k : Int)) = false := by simpa using hq
            clear hq
            go_wp2_with fail
            go_roundw
            case rel => exact ⟨k + 1, by omega, by go_num, hide (by rw [Hw.out, Hp.out, Hq.out]; rfl), hbw2.out⟩
            case measure => simp [intOf]; omega
      · obtain rfl : k = n := by omega
        go_wp2_with fail
        go_ret
        exact ⟨ret_bool (by rw [hw.out, List.drop_of_length_le (by rw [← hn'.out]; exact Nat.le_refl _)]; rfl), hb⟩
  · have hs : schedOk l = false := by simp [schedOk, ← hn, h60]
    rw [hs]
    clear hs hn hg
    go_enter Tryz.func87, Tryz.ntmps87
    go_wp2_with fail
    go_ret
    exact ⟨rfl, Below.refl _ _⟩
end Go.Proofs.YtpmipoljnchheaaGreat
