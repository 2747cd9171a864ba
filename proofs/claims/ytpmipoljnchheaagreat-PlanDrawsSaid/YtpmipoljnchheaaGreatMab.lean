/- The catalogue of shapes: legs of a code, how many dimensions it has, whether a bar is valid, and its legs. Bending schedules: the place of a mark, whether a schedule is valid, and the sum of its counts. Legs of valid bars: plain facts. Plain: points, boxes, solids, turns, laid bars, demands, rules, and details: what makes them valid. No walk stands here. -/
import Derived.Test.YtpmipoljnchheaaGreatMaa
namespace Go.Proofs.YtpmipoljnchheaaGreat
open Go.RowKit

def legsOf (code : Int) : List (Int × Int) :=
  if code = 0 then [(0, 120)] else if code = 11 then [(0, 120), (1, 121)] else if code = 21 then [(0, 89), (1, 120), (2, 121)] else if code = 26 then [(0, 120), (1, 121), (2, 120)]
  else if code = 31 then [(0, 120), (1, 121), (2, 122)] else if code = 41 then [(0, 120), (1, 121), (2, 120), (3, 89), (4, 120)]
  else if code = 51 then [(2, 89), (0, 120), (1, 121), (0, 88), (1, 89), (2, 120)] else if code = 98 then [(0, 122), (1, 89), (2, 120), (1, 121), (0, 122)] else []
def legsLen (code : Int) : Nat := (legsOf code).length
theorem legsLen_le (code : Int) : legsLen code ≤ 6 := by unfold legsLen legsOf; (repeat' split) <;> simp
theorem legs_dims (code : Int) : ∀ p ∈ legsOf code, 0 ≤ p.1 ∧ p.1 ≤ 4 := by
  have h : (legsOf code).all (fun p => decide (0 ≤ p.1) && decide (p.1 ≤ 4)) = true := by
    unfold legsOf
    (repeat' split) <;> rfl
  intro p hp
  have := List.all_eq_true.1 h p hp
  simpa using this
def encLeg (p : Int × Int) : List Value := [.int .i64 p.1, .int .u8 p.2]
theorem encLeg_len (p : Int × Int) : (encLeg p).length = 2 := rfl
abbrev LegsAt (w : World) (B : Nat) (A : Option Addr) (l : List (Int × Int)) : Prop := SlOf w B 2 (Flat encLeg) A l
theorem LegsAt.get {w : World} {B : Nat} {A : Option Addr} {l : List (Int × Int)} (h : LegsAt w B A l) {k : Nat} (hk : k < l.length) :
    ∃ b off d y, A = some ⟨b, off, none⟩ ∧ b < B ∧ l[k]? = some (d, y) ∧ w.cell? ⟨b, off + k * 2, none⟩ = some (.int .i64 d) ∧ w.cell? ⟨b, off + k * 2 + 1, none⟩ = some (.int .u8 y) := by
  obtain ⟨b, off, ⟨d, y⟩, vs, hA, hb, hx, _, hr, hc⟩ := h.at_ hk
  have hr' : vs = encLeg (d, y) := hr
  subst hr'
  exact ⟨b, off, d, y, hA, hb, hx, by simpa using hc 0 _ rfl, by simpa using hc 1 _ rfl⟩

set_option maxHeartbeats 1000000 in
theorem legs_any (code : Int) (w : World) :
    Calls Tryz.prog 176 #[.int .i64 code] w fun e w' => ∃ A, e = .returned (.slice A (legsLen code) (legsLen code)) ∧ LegsAt w' w'.heap.size A (legsOf code) ∧ Below w.heap.size w w' := by
  by_cases hno : legsOf code = []
  · have hl : legsLen code = 0 := by simp [legsLen, hno]
    rw [hl, hno]
    have hs : code ≠ 0 ∧ code ≠ 11 ∧ code ≠ 21 ∧ code ≠ 26 ∧ code ≠ 31 ∧ code ≠ 41 ∧ code ≠ 51 ∧ code ≠ 98 := by
      refine ⟨?_, ?_, ?_, ?_, ?_, ?_, ?_, ?_⟩ <;> (rintro rfl; simp [legsOf] at hno)
    obtain ⟨h0, h1, h2, h3, h4, h5, h6, h7⟩ := hs
    clear hno hl
    go_enter Tryz.func176, Tryz.ntmps176
    go_wp2
    go_ret
    exact ⟨none, rfl, SlOf.nil _ _ _ _ _, Below.refl _ _⟩
  · have hs : code = 0 ∨ code = 11 ∨ code = 21 ∨ code = 26 ∨ code = 31 ∨ code = 41 ∨ code = 51 ∨ code = 98 := by
      have h := hno
      unfold legsOf at h
      refine Decidable.byContradiction fun hn => ?_
      simp only [not_or] at hn
      obtain ⟨h0, h1, h2, h3, h4, h5, h6, h7⟩ := hn
      simp [h0, h1, h2, h3, h4, h5, h6, h7] at h
    clear hno
    rcases hs with rfl | rfl | rfl | rfl | rfl | rfl | rfl | rfl
    all_goals
      go_enter Tryz.func176, Tryz.ntmps176
      go_wp2
      go_ret
      exact ⟨_, rfl, SlOf.lit encLeg_len _ _ _ _ rfl (by simp), below_new _ _⟩

/-- How many dimensions a code has: 0 if it is none. -/
def dimsN (code : Int) : Int := ((legsOf code).foldl (fun a p => max a p.1) (-1)) + 1
def dimsE (code : Int) : Int := if dimsN code = 0 then 11 else 0

set_option maxHeartbeats 1000000 in
theorem dims_any (code : Int) (w : World) :
    Calls Tryz.prog 159 #[.int .i64 code] w fun e w' => e = .returned (.tuple #[.int .i64 (dimsN code), .int .i64 (dimsE code)]) ∧ Below w.heap.size w w' := by
  have hle := legsLen_le code
  go_enter Tryz.func159, Tryz.ntmps159
  go_wp2_with fail
  refine (legs_any _ _).mono ?_; rintro e w1 ⟨A, rfl, hA, hb⟩
  go_wp2_with fail
  go_loopw [4, 10] (fun m i wr => ∃ k : Nat, k ≤ legsLen code ∧ i = .int .i64 k ∧ (∃ d : Int, -1 ≤ d ∧ d ≤ 4 ∧ m = .int .i64 d ∧ Hid (d = ((legsOf code).take k).foldl (fun a p => max a p.1) (-1))) ∧ Below w1.heap.size w1 wr) (fun _ i _ => legsLen code - (intOf i).toNat)
  case atStart => exact ⟨0, Nat.zero_le _, rfl, ⟨-1, by omega, by omega, rfl, hide rfl⟩, Below.refl _ _⟩
  case round =>
    obtain ⟨k, hk, rfl, ⟨m, hm1, hm2, rfl, hm⟩, hbr⟩ := hrel
    by_cases hlt : k < legsLen code
    · obtain ⟨b, off, d, y, rfl, hbl, hx, hc0, hc1⟩ := hA.get (k := k) hlt
      rw [← hbr.cell (by exact hbl)] at hc0 hc1
      have Hx := hide hx
      have hd := legs_dims code _ (mem_of_get hx)
      obtain ⟨hd0, hd4⟩ : 0 ≤ d ∧ d ≤ 4 := hd
      clear hx hA hbl
      go_wp2_with fail
      go_roundw
      case rel => exact ⟨k + 1, by omega, by go_num, ⟨max m d, by omega, by omega, by rw [if_max], hide (by rw [take_snoc' Hx.out, List.foldl_append, ← hm.out]; rfl)⟩, hbr.alloc hbr.size _⟩
      case measure => simp [intOf]; omega
    · obtain rfl : k = legsLen code := by omega
      have hm' := hm.out
      rw [List.take_of_length_le (by simp [legsLen])] at hm'
      have hN := hide (show dimsN code = m + 1 by rw [dimsN, hm'])
      clear hm'
      go_wp2_with fail
      · go_ret2
        exact ⟨by rw [dimsE, hN.out, show m + 1 = 0 by omega]; rfl, below_step hb hbr (Nat.le_refl _)⟩
      · go_ret2
        exact ⟨by rw [dimsE, hN.out, if_neg (by omega)]; rfl, below_step hb hbr (Nat.le_refl _)⟩

/-- A line of a bending schedule. -/
structure BarD where
  mark : ByteArray
  size : Int
  count : Int
  code : Int
  dims : List Int
/-- Each dimension is at least 1, and their sum does not pass rest. -/
def fits (rest : Int) : List Int → Bool
  | [] => true
  | d :: r => decide (1 ≤ d) && decide (d ≤ rest) && fits (rest - d) r
def barOk (x : BarD) : Bool :=
  decide (dimsE x.code = 0) && isName x.mark && isSize x.size && decide (1 ≤ x.count) && decide (x.count ≤ 1000) && decide ((x.dims.length : Int) = dimsN x.code) && fits 262144 x.dims

/-- What is asked ahead of the dimensions themselves. -/
def barPre (x : BarD) : Bool :=
  decide (dimsE x.code = 0) && isName x.mark && isSize x.size && decide (1 ≤ x.count) && decide (x.count ≤ 1000) && decide ((x.dims.length : Int) = dimsN x.code)
theorem barOk_pre (x : BarD) : barOk x = (barPre x && fits 262144 x.dims) := rfl

set_option maxHeartbeats 1000000 in
theorem barValid_any (x : BarD) (A : Option Addr) (c : Nat) (w : World) {B : Nat} (hA : Ints w B A x.dims) (hB : B ≤ w.heap.size) (hm : x.mark.size ≤ maxLen) (hd : x.dims.length ≤ 60000) :
    Calls Tryz.prog 120 #[.agg #[.string x.mark, .int .i64 x.size, .int .i64 x.count, .int .i64 x.code, .slice A x.dims.length c]] w fun e w' => e = .returned (.bool (barOk x)) ∧ Below w.heap.size w w' := by
  rw [barOk_pre]
  cases hpre : barPre x
  · obtain ⟨mark, size, count, code, dims⟩ := x
    have Hp := hide hpre
    simp only at hA hm hd ⊢
    clear hpre hA
    go_enter Tryz.func120, Tryz.ntmps120
    go_wp2_with fail
    refine (dims_any _ _).mono ?_; rintro e w1 ⟨rfl, hb⟩
    have b0 := (Blk.new w 65 #[.string mark, .int .i64 size, .int .i64 count, .int .i64 code, .slice A dims.length c]).keep hb
    have c0 := b0.cell 0
    have c1 := b0.cell 1
    have c2 := b0.cell 2
    have c4 := b0.cell 4
    simp at c0 c1 c2 c4
    clear b0
    have hAll := below_step (below_new w _) hb (Nat.le_refl _)
    clear hb
    go_wp2_with (first
      | (go_at_call 139; refine (isName_any _ _ hm).mono ?_; rintro e w' ⟨rfl, rfl⟩)
      | (go_at_call 160; refine (size_any _ _).mono ?_; rintro e w2 ⟨rfl, hb2⟩; have e2 := cell_later hb2 c2; have e4 := cell_later hb2 c4))
    any_goals (go_ret; exact ⟨by simp, by first | exact hAll | exact below_step hAll hb2 (Nat.le_refl _)⟩)
    all_goals
      exfalso
      have h := Hp.out
      simp_all [barPre]
  · have hP := hpre
    simp only [barPre, Bool.and_eq_true, decide_eq_true_eq] at hP
    obtain ⟨⟨⟨⟨⟨p0, p1⟩, p2⟩, p3⟩, p4⟩, p5⟩ := hP
    obtain ⟨mark, size, count, code, dims⟩ := x
    simp only at hA hm hd p0 p1 p2 p3 p4 p5 ⊢
    have H0 := hide p0
    have H1 := hide p1
    have H2 := hide p2
    have h5 : ((dims.length : Int) != dimsN code) = false := by simp [p5]
    clear p0 p1 p2 p5 hpre
    go_enter Tryz.func120, Tryz.ntmps120
    go_wp2_with fail
    refine (dims_any _ _).mono ?_; rintro e w1 ⟨rfl, hb⟩; rw [H0.out]
    have b0 := (Blk.new w 65 #[.string mark, .int .i64 size, .int .i64 count, .int .i64 code, .slice A dims.length c]).keep hb
    have c0 := b0.cell 0
    have c1 := b0.cell 1
    have c2 := b0.cell 2
    have c4 := b0.cell 4
    simp at c0 c1 c2 c4
    clear b0
    have hBs := hb.size
    simp at hBs
    have hA1 : Ints w1 B A dims := hA.carry (((Below.refl _ _).alloc hB _).trans (hb.mono (by simp; omega))) (Nat.le_refl _)
    have hAll := below_step (below_new w _) hb (Nat.le_refl _)
    clear hA hb
    go_wp2_with (first
      | (go_at_call 139; refine (isName_any _ _ hm).mono ?_; rintro e w' ⟨rfl, rfl⟩; rw [H1.out])
      | (go_at_call 160; refine (size_any _ _).mono ?_; rintro e w2 ⟨rfl, hb2⟩; rw [H2.out]; have e2 := cell_later hb2 c2; have e4 := cell_later hb2 c4))
    have hA2 := hA1.carry (hb2.mono (by omega)) (Nat.le_refl B)
    have hw2 := below_step hAll hb2 (Nat.le_refl _)
    clear hA1 hAll c0 c1 c2 c4 e2 hb2
    go_loop [5, 48] (fun r i => ∃ k : Nat, k ≤ dims.length ∧ i = .int .i64 k ∧ ∃ rest : Int, 0 ≤ rest ∧ rest ≤ 262144 ∧ r = .int .i64 rest ∧ Hid (fits 262144 dims = fits rest (dims.drop k))) (fun _ i => dims.length - (intOf i).toNat)
    case atStart => exact ⟨0, Nat.zero_le _, rfl, 262144, by omega, by omega, rfl, hide rfl⟩
    case round =>
      obtain ⟨k, hk, rfl, rest, hr0, hr1, rfl, hf⟩ := hrel
      by_cases hlt : k < dims.length
      · obtain ⟨b, off, y, rfl, hbl, hy, hc⟩ := hA2.get (k := k) hlt
        have Hf := hide (hf.out.trans (by rw [drop_at' hy, fits]))
        clear hy hbl hA2 hf e4
        go_wp2_with fail
        all_goals first
          | (go_ret; exact ⟨ret_bool (by rw [Hf.out]; simp_all <;> omega), hw2⟩)
          | (go_round
             case rel => exact ⟨k + 1, by omega, by go_num, rest - y, by omega, by omega, rfl, hide (by rw [Hf.out]; simp_all)⟩
             case measure => simp [intOf]; omega)
      · obtain rfl : k = dims.length := by omega
        go_wp2_with fail
        go_ret
        exact ⟨ret_bool (by rw [hf.out]; simp [fits]), hw2⟩
end Go.Proofs.YtpmipoljnchheaaGreat
namespace Go.Proofs.YtpmipoljnchheaaGreat
open Go.RowKit

def barR : World → Nat → List Value → BarD → Prop := fun w B vs x => ∃ A c, vs = [.string x.mark, .int .i64 x.size, .int .i64 x.count, .int .i64 x.code, .slice A x.dims.length c] ∧ Ints w B A x.dims
theorem barR_carried : Carried barR := fun _ _ _ _ _ _ hb hB ⟨A, c, h, hi⟩ => ⟨A, c, h, hi.carry hb hB⟩
abbrev BarsAt (w : World) (B : Nat) (A : Option Addr) (l : List BarD) : Prop := SlOf w B 5 barR A l
theorem BarsAt.carry {w w' : World} {B B' : Nat} {A : Option Addr} {l : List BarD} (h : BarsAt w B A l) (hb : Below B w w') (hB : B ≤ B') : BarsAt w' B' A l := SlOf.carry barR_carried h hb hB
theorem BarsAt.get {w : World} {B : Nat} {A : Option Addr} {l : List BarD} (h : BarsAt w B A l) {k : Nat} (hk : k < l.length) :
    ∃ b off x A' c', A = some ⟨b, off, none⟩ ∧ b < B ∧ l[k]? = some x ∧ Ints w B A' x.dims ∧ w.cell? ⟨b, off + k * 5, none⟩ = some (.string x.mark) ∧ w.cell? ⟨b, off + k * 5 + 1, none⟩ = some (.int .i64 x.size) ∧
      w.cell? ⟨b, off + k * 5 + 2, none⟩ = some (.int .i64 x.count) ∧ w.cell? ⟨b, off + k * 5 + 3, none⟩ = some (.int .i64 x.code) ∧ w.cell? ⟨b, off + k * 5 + 4, none⟩ = some (.slice A' x.dims.length c') := by
  obtain ⟨b, off, x, vs, hA, hb, hx, _, ⟨A', c', rfl, hi⟩, hc⟩ := h.at_ hk
  exact ⟨b, off, x, A', c', hA, hb, hx, hi, by simpa using hc 0 _ rfl, by simpa using hc 1 _ rfl, by simpa using hc 2 _ rfl, by simpa using hc 3 _ rfl, by simpa using hc 4 _ rfl⟩
/-- A bar as a value. -/
def barV (x : BarD) (A : Option Addr) (c : Nat) : Value := .agg #[.string x.mark, .int .i64 x.size, .int .i64 x.count, .int .i64 x.code, .slice A x.dims.length c]

set_option maxHeartbeats 400000 in
theorem indexFuncBar_any (A : Option Addr) (l : List BarD) (n c : Nat) (fid : FuncId) (caps : Array Value) (p : BarD → Bool) (w : World) {B : Nat} (h : BarsAt w B A l) (hB : B ≤ w.heap.size) (hn : n = l.length) (hm : n ≤ 60000)
    (hc : ∀ args w, (callFunc fid args).run Tryz.prog w = .ok (.enter fid args) w)
    (hf : ∀ x A' c' (W : World), x ∈ l → Below w.heap.size w W → Ints W B A' x.dims →
      Calls Tryz.prog fid (#[.agg #[.string x.mark, .int .i64 x.size, .int .i64 x.count, .int .i64 x.code, .slice A' x.dims.length c']] ++ caps) W fun e W' => e = .returned (.bool (p x)) ∧ Below W.heap.size W W') :
    Calls Tryz.prog 64 #[.slice A n c, .func (.func fid) #[] caps] w fun e w' => e = .returned (.int .i64 (idx p l)) ∧ Below w.heap.size w w' := by
  have Hf := hide hf
  have hn' := hide hn
  clear hf hn
  go_enter Tryz.func64, Tryz.ntmps64
  go_wp2_with fail
  go_loopw [8] (fun i wr => ∃ k : Nat, k ≤ n ∧ i = .int .i64 k ∧ NoneTo p l k ∧ Below w.heap.size w wr) (fun i _ => n - (intOf i).toNat)
  case atStart => exact ⟨0, Nat.zero_le _, rfl, NoneTo.zero _ _, Below.refl _ _⟩
  case round =>
    obtain ⟨k, hk, rfl, hw, hb⟩ := hrel
    by_cases hlt : k < n
    · obtain ⟨b, off, x, A', c', rfl, hbl, hx, hi, h0, h1, h2, h3, h4⟩ := BarsAt.get (k := k) (h.carry (hb.mono hB) (Nat.le_refl _)) (by rw [← hn'.out]; exact hlt)
      have Hx := hide hx
      have Hi := hide hi
      clear hx hi h hbl
      go_wp2_with fail
      refine (Hf.out x A' c' _ (mem_of_get Hx.out) hb Hi.out).mono ?_
      rintro e w1 ⟨rfl, hb1⟩
      clear h0 h1 h2 h3 h4
      have hb2 := below_step hb hb1 (Nat.le_refl _)
      cases hp : p x
      · have Hp := hide hp
        clear hp
        go_wp2_with fail
        go_roundw
        case rel => exact ⟨k + 1, by omega, by go_num, hw.succ Hx.out Hp.out, hb2⟩
        case measure => simp [intOf]; omega
      · have Hp := hide hp
        clear hp
        go_wp2_with fail
        go_ret
        exact ⟨ret_int (hw.hit Hx.out Hp.out).symm, hb2⟩
    · obtain rfl : k = n := by omega
      go_wp2_with fail
      go_ret
      exact ⟨ret_int (NoneTo.miss (by rw [← hn'.out]; exact hw)).symm, hb⟩

def markIs (m : ByteArray) (x : BarD) : Bool := x.mark.toList == m.toList

set_option maxHeartbeats 400000 in
theorem index1_any (x : BarD) (A : Option Addr) (c : Nat) (m : ByteArray) (g : Nat) (w : World) (h0 : w.cell? ⟨g, 0, none⟩ = some (.string m)) :
    Calls Tryz.prog 161 #[.agg #[.string x.mark, .int .i64 x.size, .int .i64 x.count, .int .i64 x.code, .slice A x.dims.length c], .pointer (some ⟨g, 0, none⟩)] w fun e w' => e = .returned (.bool (markIs m x)) ∧ Below w.heap.size w w' := by
  have hg : g < w.heap.size := by
    have := World.block_lt_of_cell? w _ h0
    exact this
  have h1 := fun o => (World.cell?_alloc_lt w o ⟨g, 0, none⟩ hg).trans h0
  go_enter Tryz.func161, Tryz.ntmps161
  go_wp2_with fail
  go_ret
  exact ⟨ret_bool (by rfl), below_new _ _⟩

set_option maxHeartbeats 400000 in
theorem schedIndex_any (A : Option Addr) (l : List BarD) (n c : Nat) (m : ByteArray) (w : World) {B : Nat} (h : BarsAt w B A l) (hB : B ≤ w.heap.size) (hn : n = l.length) (hm : n ≤ 60000) :
    Calls Tryz.prog 121 #[.slice A n c, .string m] w fun e w' => e = .returned (.int .i64 (idx (markIs m) l)) ∧ Below w.heap.size w w' := by
  have hn' := hide hn
  have h1 := hide (h.carry ((Below.refl B w).alloc hB (.cells #[.string m] 9)) (Nat.le_refl B))
  have h2 := hide (le_alloc hB (.cells #[.string m] 9))
  clear hn
  go_enter Tryz.func121, Tryz.ntmps121
  go_wp2_with fail
  refine (indexFuncBar_any A l n c 161 #[.pointer (some ⟨w.heap.size, 0, none⟩)] (markIs m) _ h1.out h2.out hn'.out hm Tryz.call161 (fun x A' c' W _ hb _ => index1_any x A' c' m w.heap.size W (by have h0 := ((Blk.new w 9 #[.string m]).keep hb).cell 0; simpa using h0))).mono ?_
  rintro e w1 ⟨rfl, hb⟩
  go_wp2_with fail
  go_ret
  exact ⟨rfl, below_step (below_new _ _) hb (Nat.le_refl _)⟩

/-- Marks and dimensions are no longer than a machine's list. -/
def Tame (l : List BarD) : Prop := ∀ x ∈ l, x.mark.size ≤ maxLen ∧ x.dims.length ≤ 60000
def schedFrom (l : List BarD) : Nat → List BarD → Bool
  | _, [] => true
  | k, x :: r => barOk x && decide (idx (markIs x.mark) l = k) && schedFrom l (k + 1) r
def schedOk (l : List BarD) : Bool := decide (l.length ≤ 60) && schedFrom l 0 l

set_option maxHeartbeats 1000000 in
theorem schedValid_any (A : Option Addr) (l : List BarD) (n c : Nat) (w : World) {B : Nat} (h : BarsAt w B A l) (hB : B ≤ w.heap.size) (hn : n = l.length) (hg : Tame l) (hm : n ≤ 60000) :
    Calls Tryz.prog 87 #[.slice A n c] w fun e w' => e = .returned (.bool (schedOk l)) ∧ Below w.heap.size w w' := by
  have hn' := hide hn
  have Hg := hide hg
  by_cases h60 : n ≤ 60
  · have hs : schedOk l = schedFrom l 0 l := by simp [schedOk, ← hn, h60]
    rw [hs]
    clear hs hn hg hm
    go_enter Tryz.func87, Tryz.ntmps87
    go_wp2_with fail
    go_loopw [10] (fun i wr => ∃ k : Nat, k ≤ n ∧ i = .int .i64 k ∧ Hid (schedFrom l 0 l = schedFrom l k (l.drop k)) ∧ Below w.heap.size w wr) (fun i _ => n - (intOf i).toNat)
    case atStart => exact ⟨0, Nat.zero_le _, rfl, hide rfl, Below.refl _ _⟩
    case round =>
      obtain ⟨k, hk, rfl, hw, hb⟩ := hrel
      by_cases hlt : k < n
      · have HR := hide (h.carry (hb.mono hB) (Nat.le_refl _))
        have hBr := Nat.le_trans hB hb.size
        obtain ⟨b, off, x, A', c', hA, hbl, hx, hi, h0, h1, h2, h3, h4⟩ := BarsAt.get (k := k) HR.out (by rw [← hn'.out]; exact hlt)
        have HA := hide hA
        subst hA
        have Hx := hide hx
        have hgx := Hg.out x (mem_of_get hx)
        have Hw := hide (hw.out.trans (by rw [drop_at' hx, schedFrom]))
        have Hi := hide hi
        have hbo := fun o => hide ((Below.refl B wr).alloc hBr o)
        clear hx hi h hbl hw
        go_wp2_with fail
        refine (barValid_any x A' c' _ (Hi.out.carry (hbo _).out (Nat.le_refl _)) (le_alloc hBr _) hgx.1 hgx.2).mono ?_
        rintro e w1 ⟨rfl, hb1⟩
        have b0 := (Blk.new wr 65 #[.string x.mark, .int .i64 x.size, .int .i64 x.count, .int .i64 x.code, .slice A' x.dims.length c']).keep hb1
        have c0 := b0.cell 0
        simp at c0
        have hbw1 := hide (below_step (below_step hb (below_new wr _) (Nat.le_refl _)) hb1 (Nat.le_refl _))
        have hB1 := hide (HR.out.carry (((hbo _).out).trans (hb1.mono (le_alloc hBr _))) (Nat.le_refl _))
        have hs1 := Nat.le_trans hB hbw1.out.size
        clear b0 h0 h1 h2 h3 h4 hbo hb1 HR Hi
        cases hp : barOk x
        · have Hp := hide hp
          clear hp
          go_wp2_with fail
          go_ret
          exact ⟨ret_bool (by rw [Hw.out, Hp.out]; rfl), hbw1.out⟩
        · have Hp := hide hp
          clear hp
          go_wp2_with fail
          refine (schedIndex_any _ l n c x.mark _ hB1.out hs1 hn'.out (by omega)).mono ?_
          rintro e w2 ⟨rfl, hb2⟩
          have hbw2 := hide (below_step hbw1.out hb2 (Nat.le_refl _))
          clear hb2 c0
          cases hq : decide (idx (markIs x.mark) l = k)
          · have Hq := hide hq
            have hq' : (idx (markIs x.mark) l != (k : Int)) = true := by simpa using hq
            clear hq
            go_wp2_with fail
            go_ret
            exact ⟨ret_bool (by rw [Hw.out, Hp.out, Hq.out]; rfl), hbw2.out⟩
          · have Hq := hide hq
            have hq' : (idx (markIs x.mark) l != (k : Int)) = false := by simpa using hq
            clear hq
            go_wp2_with fail
            go_roundw
            case rel => exact ⟨k + 1, by omega, by go_num, hide (by rw [Hw.out, Hp.out, Hq.out]; rfl), hbw2.out⟩
            case measure => simp [intOf]; omega
      · obtain rfl : k = n := by omega
        go_wp2_with fail
        go_ret
        exact ⟨ret_bool (by rw [hw.out, List.drop_of_length_le (by rw [← hn'.out]; exact Nat.le_refl _)]; rfl), hb⟩
  · have hs : schedOk l = false := by simp [schedOk, ← hn, h60]
    rw [hs]
    clear hs hn hg
    go_enter Tryz.func87, Tryz.ntmps87
    go_wp2_with fail
    go_ret
    exact ⟨rfl, Below.refl _ _⟩
end Go.Proofs.YtpmipoljnchheaaGreat
namespace Go.Proofs.YtpmipoljnchheaaGreat
open Go.RowKit

theorem fits_mem {rest : Int} {l : List Int} (h : fits rest l = true) : ∀ d ∈ l, 1 ≤ d ∧ d ≤ rest := by
  induction l generalizing rest with
  | nil => intro d hd; cases hd
  | cons y r ih =>
    simp only [fits, Bool.and_eq_true, decide_eq_true_eq] at h
    intro d hd
    rcases List.mem_cons.1 hd with rfl | hd
    · omega
    · have := ih h.2 d hd
      omega
theorem foldl_max_ge (l : List (Int × Int)) (a : Int) : a ≤ l.foldl (fun a p => max a p.1) a ∧ ∀ p ∈ l, p.1 ≤ l.foldl (fun a p => max a p.1) a := by
  induction l generalizing a with
  | nil => simp
  | cons y r ih =>
    have := ih (max a y.1)
    refine ⟨by simp only [List.foldl_cons]; omega, fun p hp => ?_⟩
    rcases List.mem_cons.1 hp with rfl | hp
    · simp only [List.foldl_cons]; omega
    · exact this.2 p hp
def legDim (x : BarD) (p : Int × Int) : Int := x.dims.getD p.1.toNat 0
def legLens (x : BarD) : List Int := (legsOf x.code).map (legDim x)
structure BarGood (x : BarD) : Prop where
  size : isSize x.size = true
  count : 1 ≤ x.count ∧ x.count ≤ 1000
  leg : ∀ p ∈ legsOf x.code, 0 ≤ p.1 ∧ p.1.toNat < x.dims.length ∧ x.dims[p.1.toNat]? = some (legDim x p) ∧ 1 ≤ legDim x p ∧ legDim x p ≤ 262144
  legs : legLens x ≠ []
theorem barGood_of {x : BarD} (h : barOk x = true) : BarGood x := by
  rw [barOk_pre] at h
  simp only [Bool.and_eq_true, barPre, decide_eq_true_eq] at h
  obtain ⟨⟨⟨⟨⟨⟨h0, h1⟩, h2⟩, h3⟩, h4⟩, h5⟩, h6⟩ := h
  refine ⟨h2, ⟨h3, h4⟩, fun p hp => ?_, ?_⟩
  · have hd := legs_dims _ p hp
    have hm := (foldl_max_ge (legsOf x.code) (-1)).2 p hp
    have hl : p.1.toNat < x.dims.length := by unfold dimsN at h5; omega
    have hg : x.dims[p.1.toNat]? = some (legDim x p) := by rw [legDim, List.getD_eq_getElem?_getD, List.getElem?_eq_getElem hl]; rfl
    exact ⟨hd.1, hl, hg, fits_mem h6 _ (mem_of_get hg)⟩
  · intro he
    have : legsOf x.code = [] := by simpa [legLens] using he
    rw [dimsE, dimsN, this] at h0
    simp at h0

theorem code_cases {code : Int} (h : legsOf code ≠ []) : code = 0 ∨ code = 11 ∨ code = 21 ∨ code = 26 ∨ code = 31 ∨ code = 41 ∨ code = 51 ∨ code = 98 := by
  unfold legsOf at h
  refine Decidable.byContradiction fun hn => ?_
  simp only [not_or] at hn
  obtain ⟨h0, h1, h2, h3, h4, h5, h6, h7⟩ := hn
  simp [h0, h1, h2, h3, h4, h5, h6, h7] at h
/-- The legs have at most twice the length of the dimensions. -/
theorem legs_sum {x : BarD} (h : barOk x = true) : (legLens x).foldl (fun s n => s + n) 0 ≤ 524288 := by
  have hg := barGood_of h
  have hc : legsOf x.code ≠ [] := by
    intro he
    exact hg.legs (by simp [legLens, he])
  rw [barOk_pre] at h
  simp only [Bool.and_eq_true, barPre, decide_eq_true_eq] at h
  obtain ⟨⟨_, h5⟩, h6⟩ := h
  obtain ⟨mark, size, count, code, dims⟩ := x
  simp only at h5 h6 hc
  clear hg
  rcases code_cases hc with rfl | rfl | rfl | rfl | rfl | rfl | rfl | rfl
  all_goals
    simp [dimsN, legsOf] at h5
    rcases dims with _ | ⟨a, _ | ⟨b, _ | ⟨c, _ | ⟨d, _ | ⟨e, _ | ⟨f, r⟩⟩⟩⟩⟩⟩ <;> simp at h5 <;> (try omega)
    all_goals
      simp [fits] at h6
      simp [legLens, legsOf, legDim]
      omega

end Go.Proofs.YtpmipoljnchheaaGreat
namespace Go.Proofs.YtpmipoljnchheaaGreat
open Go.RowKit

abbrev Pt := Int × Int × Int
/-- A move along an axis, or against it: its way as a letter, its length. -/
def ptOf (y v : Int) : Int × Int × Int := if y = 120 then (v, 0, 0) else if y = 121 then (0, v, 0) else if y = 122 then (0, 0, v) else if y = 88 then (-v, 0, 0) else (0, -v, 0)
def movesOf (x : BarD) : List (Int × Int × Int) := (legsOf x.code).map fun p => ptOf p.2 (legDim x p)
structure BoxD where
  lo : Pt
  hi : Pt
structure MemD where
  name : ByteArray
  boxes : List BoxD
  holes : List BoxD
  cover : Int
  aggregate : Int
  poker : Int
structure RunD where
  mark : ByteArray
  tx : Int
  ty : Int
  place : Pt
  step : Pt
  count : Int
structure JoinD where
  first : Int
  second : Int
structure DemD where
  name : ByteArray
  zone : BoxD
  steps : List (Int × Int)
structure RuleD where
  num : Int
  den : Int
  poorNum : Int
  poorDen : Int
  bendNum : Int
  bendDen : Int
  lapNum : Int
  lapDen : Int
  least : Int
structure DetD where
  mem : MemD
  bars : List BarD
  runs : List RunD
  laps : List JoinD
  dems : List DemD
  rule : RuleD

def coordOk (n : Int) : Bool := decide (-1048576 ≤ n) && decide (n ≤ 1048576)
def axisOk (lo hi : Int) : Bool := decide (lo ≤ hi) && decide (-1048576 ≤ lo) && decide (hi ≤ 1048576)
def axes (b : BoxD) : List (Int × Int) := [(b.lo.1, b.hi.1), (b.lo.2.1, b.hi.2.1), (b.lo.2.2, b.hi.2.2)]
def axisFine (p : Int × Int) : Bool := axisOk p.1 p.2
def boxOk (b : BoxD) : Bool := (axes b).all axisFine
def thickOk (b : BoxD) : Bool := boxOk b && decide (b.lo.1 < b.hi.1) && decide (b.lo.2.1 < b.hi.2.1) && decide (b.lo.2.2 < b.hi.2.2)
def solidOk (bs hs : List BoxD) : Bool := decide (1 ≤ bs.length) && decide (bs.length ≤ 20) && decide (hs.length ≤ 20) && bs.all thickOk && hs.all thickOk
def within (n lo hi : Int) : Bool := decide (lo ≤ n) && decide (n ≤ hi)
def memOk (m : MemD) : Bool := isName m.name && solidOk m.boxes m.holes && within m.cover 0 200 && within m.aggregate 1 100 && within m.poker 1 200

def axisN (n : Int) : Bool := !decide (n = 0) && decide (-3 ≤ n) && decide (n ≤ 3)
def turnOk (x y : Int) : Bool := axisN x && axisN y && !decide (x = y) && !decide (x = -y)
def unitV (n : Int) : Pt := if n = 1 then (1, 0, 0) else if n = 2 then (0, 1, 0) else if n = 3 then (0, 0, 1) else if n = -1 then (-1, 0, 0) else if n = -2 then (0, -1, 0) else (0, 0, -1)
def crossV (a b : Pt) : Pt := (a.2.1 * b.2.2 - a.2.2 * b.2.1, a.2.2 * b.1 - a.1 * b.2.2, a.1 * b.2.1 - a.2.1 * b.1)
def linV (a b c p : Pt) : Pt := (a.1 * p.1 + b.1 * p.2.1 + c.1 * p.2.2, a.2.1 * p.1 + b.2.1 * p.2.1 + c.2.1 * p.2.2, a.2.2 * p.1 + b.2.2 * p.2.1 + c.2.2 * p.2.2)
def imgV (x y : Int) (p : Pt) : Pt := linV (unitV x) (unitV y) (crossV (unitV x) (unitV y)) p
def addP (p q : Pt) : Pt := (p.1 + q.1, p.2.1 + q.2.1, p.2.2 + q.2.2)
def mulP (k : Int) (p : Pt) : Pt := (k * p.1, k * p.2.1, k * p.2.2)
def pathFrom (o : Pt) : List Pt → List Pt
  | [] => [o]
  | m :: r => o :: pathFrom (addP o m) r
def pathOf (x : BarD) : List Pt := pathFrom (0, 0, 0) (movesOf x)
def nearBy (m : Int) (p : Pt) : Bool := within p.1 (-m) m && within p.2.1 (-m) m && within p.2.2 (-m) m
def ptsOf (x : BarD) (r : RunD) (k : Int) : List Pt := (pathOf x).map fun p => addP (addP (imgV r.tx r.ty p) r.place) (mulP k r.step)
def noStep (p : Pt) : Bool := decide (p.1 = 0) && decide (p.2.1 = 0) && decide (p.2.2 = 0)
def runBar (bars : List BarD) (r : RunD) : Option BarD := bars.find? (markIs r.mark)
def runHead (bars : List BarD) (r : RunD) : Bool :=
  decide (0 ≤ idx (markIs r.mark) bars) && turnOk r.tx r.ty && decide (1 ≤ r.count) && decide (r.count ≤ 1000) && nearBy 1048576 r.place && (decide (r.count ≤ 1) || (!noStep r.step && nearBy 2097152 r.step))
def runPts (bars : List BarD) (r : RunD) (k : Int) : List Pt := match runBar bars r with | some x => ptsOf x r k | none => []
def runOk (bars : List BarD) (r : RunD) : Bool := runHead bars r && (runPts bars r 0).all (nearBy 1048576) && (runPts bars r (r.count - 1)).all (nearBy 1048576)
def runsFit (bars : List BarD) : Int → List RunD → Bool
  | _, [] => true
  | rest, r :: l => runOk bars r && decide (r.count ≤ rest) && runsFit bars (rest - r.count) l
def laidOk (bars : List BarD) (runs : List RunD) : Bool := schedOk bars && decide (runs.length ≤ 60) && runsFit bars 2000 runs

def stepsFrom : Option Int → List (Int × Int) → Bool
  | _, [] => true
  | last, s :: r => coordOk s.1 && within s.2 0 1099511627776 && (match last with | none => true | some p => decide (p < s.1)) && stepsFrom (some s.1) r
def stepsOk (l : List (Int × Int)) : Bool := decide (l.length ≤ 200) && stepsFrom none l
def demOk (d : DemD) : Bool := isName d.name && boxOk d.zone && stepsOk d.steps
def nameIs (m : ByteArray) (d : DemD) : Bool := d.name.toList == m.toList
def demsFrom : List DemD → List DemD → Bool
  | _, [] => true
  | done, d :: r => demOk d && !done.any (nameIs d.name) && demsFrom (done ++ [d]) r
def demsOk (l : List DemD) : Bool := decide (l.length ≤ 20) && demsFrom [] l
def ratOk (n : Int) : Bool := within n 1 1000
def ruleOk (r : RuleD) : Bool :=
  [r.num, r.den, r.poorNum, r.poorDen, r.bendNum, r.bendDen, r.lapNum, r.lapDen].all ratOk && decide (r.poorDen ≤ r.poorNum) && decide (r.lapDen ≤ r.lapNum) && decide (r.bendNum ≤ r.bendDen) && within r.least 0 1000

def minP (p q : Pt) : Pt := (min p.1 q.1, min p.2.1 q.2.1, min p.2.2 q.2.2)
def maxP (p q : Pt) : Pt := (max p.1 q.1, max p.2.1 q.2.1, max p.2.2 q.2.2)
def legBox (p q : Pt) : BoxD := ⟨minP p q, maxP p q⟩
def legsOfPts : List Pt → List BoxD
  | p :: q :: r => legBox p q :: legsOfPts (q :: r)
  | _ => []
def isMain (b : BoxD) : Bool := decide (b.lo.1 < b.hi.1) && decide (b.lo.2.1 = b.hi.2.1) && decide (b.lo.2.2 = b.hi.2.2)
/-- A laid bar: its line of the schedule, its points. -/
structure LaidD where
  bar : BarD
  pts : List Pt
def laidRun (bars : List BarD) (r : RunD) : List LaidD := match runBar bars r with
  | some x => (List.range r.count.toNat).map fun (k : Nat) => ⟨x, ptsOf x r k⟩
  | none => []
def laidAll (bars : List BarD) (runs : List RunD) : List LaidD := runs.flatMap (laidRun bars)
def mainLeg (x : LaidD) : Option BoxD := (legsOfPts x.pts).find? isMain
def lapsFit (ms : List (Option BoxD)) (j : JoinD) : Bool :=
  decide (0 ≤ j.first) && decide (j.first < ms.length) && decide (0 ≤ j.second) && decide (j.second < ms.length) &&
  (match ms.getD j.first.toNat none, ms.getD j.second.toNat none with
    | some a, some b => decide (a.lo.1 < b.lo.1) && decide (a.hi.1 < b.hi.1) && decide (b.lo.1 ≤ a.hi.1)
    | _, _ => false)
def lapsFrom (ms : List (Option BoxD)) : List Int → List Int → List JoinD → Bool
  | _, _, [] => true
  | f, s, j :: r => lapsFit ms j && !f.contains j.first && !s.contains j.second && lapsFrom ms (j.first :: f) (j.second :: s) r
def detHead (x : DetD) : Bool := memOk x.mem && laidOk x.bars x.runs && demsOk x.dems && ruleOk x.rule && decide (x.laps.length ≤ 1000)
def detOk (x : DetD) : Bool := detHead x && lapsFrom ((laidAll x.bars x.runs).map mainLeg) [] [] x.laps

/-! In memory. -/
def encPt (p : Pt) : List Value := [.int .i64 p.1, .int .i64 p.2.1, .int .i64 p.2.2]
theorem encPt_len (p : Pt) : (encPt p).length = 3 := rfl
theorem encPt_one (p : Pt) : ∀ u ∈ encPt p, u.oneCell' = true := by
  intro u hu
  simp only [encPt, List.mem_cons, List.not_mem_nil, or_false] at hu
  rcases hu with rfl | rfl | rfl <;> rfl
def encB (b : BoxD) : List Value := [.int .i64 b.lo.1, .int .i64 b.lo.2.1, .int .i64 b.lo.2.2, .int .i64 b.hi.1, .int .i64 b.hi.2.1, .int .i64 b.hi.2.2]
theorem encB_len (b : BoxD) : (encB b).length = 6 := rfl
theorem encB_one (b : BoxD) : ∀ u ∈ encB b, u.oneCell' = true := by
  intro u hu
  simp only [encB, List.mem_cons, List.not_mem_nil, or_false] at hu
  rcases hu with rfl | rfl | rfl | rfl | rfl | rfl <;> rfl
def encRun (r : RunD) : List Value := [.string r.mark, .int .i64 r.tx, .int .i64 r.ty, .int .i64 r.place.1, .int .i64 r.place.2.1, .int .i64 r.place.2.2, .int .i64 r.step.1, .int .i64 r.step.2.1, .int .i64 r.step.2.2, .int .i64 r.count]
theorem encRun_len (r : RunD) : (encRun r).length = 10 := rfl
def encJoin (j : JoinD) : List Value := [.int .i64 j.first, .int .i64 j.second]
theorem encJoin_len (j : JoinD) : (encJoin j).length = 2 := rfl
def encStp (p : Int × Int) : List Value := [.int .i64 p.1, .int .i64 p.2]
theorem encStp_len (p : Int × Int) : (encStp p).length = 2 := rfl
abbrev PtsAt (w : World) (B : Nat) (A : Option Addr) (l : List Pt) : Prop := SlOf w B 3 (Flat encPt) A l
abbrev BoxesAt (w : World) (B : Nat) (A : Option Addr) (l : List BoxD) : Prop := SlOf w B 6 (Flat encB) A l
abbrev RunsAt (w : World) (B : Nat) (A : Option Addr) (l : List RunD) : Prop := SlOf w B 10 (Flat encRun) A l
abbrev JoinsAt (w : World) (B : Nat) (A : Option Addr) (l : List JoinD) : Prop := SlOf w B 2 (Flat encJoin) A l
abbrev StpsAt (w : World) (B : Nat) (A : Option Addr) (l : List (Int × Int)) : Prop := SlOf w B 2 (Flat encStp) A l
def demR : World → Nat → List Value → DemD → Prop := fun w B vs d => ∃ A c, vs = [.string d.name] ++ encB d.zone ++ [.slice A d.steps.length c] ∧ StpsAt w B A d.steps
theorem demR_carried : Carried demR := fun _ _ _ _ _ _ hb hB ⟨A, c, h, hi⟩ => ⟨A, c, h, hi.carry (Flat.carried _) hb hB⟩
abbrev DemsAt (w : World) (B : Nat) (A : Option Addr) (l : List DemD) : Prop := SlOf w B 8 demR A l
section
variable {w : World} {B : Nat} {A : Option Addr}
theorem PtsAt.get {l : List Pt} (h : PtsAt w B A l) {k : Nat} (hk : k < l.length) :
    ∃ b off x, A = some ⟨b, off, none⟩ ∧ b < B ∧ l[k]? = some x ∧ w.cell? ⟨b, off + k * 3, none⟩ = some (.int .i64 x.1) ∧ w.cell? ⟨b, off + k * 3 + 1, none⟩ = some (.int .i64 x.2.1) ∧ w.cell? ⟨b, off + k * 3 + 2, none⟩ = some (.int .i64 x.2.2) := by
  obtain ⟨b, off, x, vs, hA, hb, hx, _, hr, hc⟩ := h.at_ hk
  have hr' : vs = encPt x := hr
  subst hr'
  exact ⟨b, off, x, hA, hb, hx, by simpa using hc 0 _ rfl, by simpa using hc 1 _ rfl, by simpa using hc 2 _ rfl⟩
theorem BoxesAt.get {l : List BoxD} (h : BoxesAt w B A l) {k : Nat} (hk : k < l.length) :
    ∃ b off x, A = some ⟨b, off, none⟩ ∧ b < B ∧ l[k]? = some x ∧ w.cell? ⟨b, off + k * 6, none⟩ = some (.int .i64 x.lo.1) ∧ w.cell? ⟨b, off + k * 6 + 1, none⟩ = some (.int .i64 x.lo.2.1) ∧ w.cell? ⟨b, off + k * 6 + 2, none⟩ = some (.int .i64 x.lo.2.2) ∧
      w.cell? ⟨b, off + k * 6 + 3, none⟩ = some (.int .i64 x.hi.1) ∧ w.cell? ⟨b, off + k * 6 + 4, none⟩ = some (.int .i64 x.hi.2.1) ∧ w.cell? ⟨b, off + k * 6 + 5, none⟩ = some (.int .i64 x.hi.2.2) := by
  obtain ⟨b, off, x, vs, hA, hb, hx, _, hr, hc⟩ := h.at_ hk
  have hr' : vs = encB x := hr
  subst hr'
  exact ⟨b, off, x, hA, hb, hx, by simpa using hc 0 _ rfl, by simpa using hc 1 _ rfl, by simpa using hc 2 _ rfl, by simpa using hc 3 _ rfl, by simpa using hc 4 _ rfl, by simpa using hc 5 _ rfl⟩
theorem RunsAt.get {l : List RunD} (h : RunsAt w B A l) {k : Nat} (hk : k < l.length) :
    ∃ b off x, A = some ⟨b, off, none⟩ ∧ b < B ∧ l[k]? = some x ∧ ∀ j v, (encRun x)[j]? = some v → w.cell? ⟨b, off + k * 10 + j, none⟩ = some v := by
  obtain ⟨b, off, x, vs, hA, hb, hx, _, hr, hc⟩ := h.at_ hk
  have hr' : vs = encRun x := hr
  subst hr'
  exact ⟨b, off, x, hA, hb, hx, hc⟩
theorem JoinsAt.get {l : List JoinD} (h : JoinsAt w B A l) {k : Nat} (hk : k < l.length) :
    ∃ b off x, A = some ⟨b, off, none⟩ ∧ b < B ∧ l[k]? = some x ∧ w.cell? ⟨b, off + k * 2, none⟩ = some (.int .i64 x.first) ∧ w.cell? ⟨b, off + k * 2 + 1, none⟩ = some (.int .i64 x.second) := by
  obtain ⟨b, off, x, vs, hA, hb, hx, _, hr, hc⟩ := h.at_ hk
  have hr' : vs = encJoin x := hr
  subst hr'
  exact ⟨b, off, x, hA, hb, hx, by simpa using hc 0 _ rfl, by simpa using hc 1 _ rfl⟩
theorem StpsAt.get {l : List (Int × Int)} (h : StpsAt w B A l) {k : Nat} (hk : k < l.length) :
    ∃ b off x, A = some ⟨b, off, none⟩ ∧ b < B ∧ l[k]? = some x ∧ w.cell? ⟨b, off + k * 2, none⟩ = some (.int .i64 x.1) ∧ w.cell? ⟨b, off + k * 2 + 1, none⟩ = some (.int .i64 x.2) := by
  obtain ⟨b, off, x, vs, hA, hb, hx, _, hr, hc⟩ := h.at_ hk
  have hr' : vs = encStp x := hr
  subst hr'
  exact ⟨b, off, x, hA, hb, hx, by simpa using hc 0 _ rfl, by simpa using hc 1 _ rfl⟩
theorem DemsAt.get {l : List DemD} (h : DemsAt w B A l) {k : Nat} (hk : k < l.length) :
    ∃ b off x A' c', A = some ⟨b, off, none⟩ ∧ b < B ∧ l[k]? = some x ∧ StpsAt w B A' x.steps ∧ ∀ j v, ([.string x.name] ++ encB x.zone ++ [.slice A' x.steps.length c'])[j]? = some v → w.cell? ⟨b, off + k * 8 + j, none⟩ = some v := by
  obtain ⟨b, off, x, vs, hA, hb, hx, _, ⟨A', c', hv, hi⟩, hc⟩ := h.at_ hk
  subst hv
  exact ⟨b, off, x, A', c', hA, hb, hx, hi, hc⟩
end
end Go.Proofs.YtpmipoljnchheaaGreat
