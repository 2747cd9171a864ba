/- Stock, orders of pieces, and patterns: what makes them valid, and their totals. -/
import Derived.Test.YtnhmdgkhmkeopaaGreatDoorMapB
import Derived.Test.YtnhmdgkhmkeopaaGreatDoorSched
import Derived.IntWalk
namespace Go.Proofs.YtnhmdgkhmkeopaaGreatDoor
open Go.RowKit

structure StkD where
  length : Int
  count : Int
structure PieD where
  length : Int
  count : Int
structure PatD where
  stock : Int
  pieces : List Int
  times : Int
def encStk (x : StkD) : List Value := [.int .i64 x.length, .int .i64 x.count]
theorem encStk_len (x : StkD) : (encStk x).length = 2 := rfl
def encPie (x : PieD) : List Value := [.int .i64 x.length, .int .i64 x.count]
theorem encPie_len (x : PieD) : (encPie x).length = 2 := rfl
def patR : World → Nat → List Value → PatD → Prop := fun w B vs x => ∃ A c, vs = [.int .i64 x.stock, .slice A x.pieces.length c, .int .i64 x.times] ∧ Ints w B A x.pieces
theorem patR_carried : Carried patR := fun _ _ _ _ _ _ hb hB ⟨A, c, h, hi⟩ => ⟨A, c, h, hi.carry hb hB⟩
abbrev StksAt (w : World) (B : Nat) (A : Option Addr) (l : List StkD) : Prop := SlOf w B 2 (Flat encStk) A l
abbrev PiesAt (w : World) (B : Nat) (A : Option Addr) (l : List PieD) : Prop := SlOf w B 2 (Flat encPie) A l
abbrev PatsAt (w : World) (B : Nat) (A : Option Addr) (l : List PatD) : Prop := SlOf w B 3 patR A l
section
variable {w w' : World} {B B' : Nat} {A : Option Addr}
theorem StksAt.get {l : List StkD} (h : StksAt w B A l) {k : Nat} (hk : k < l.length) :
    ∃ b off x, A = some ⟨b, off, none⟩ ∧ b < B ∧ l[k]? = some x ∧ w.cell? ⟨b, off + k * 2, none⟩ = some (.int .i64 x.length) ∧ w.cell? ⟨b, off + k * 2 + 1, none⟩ = some (.int .i64 x.count) := by
  obtain ⟨b, off, x, vs, hA, hb, hx, _, hr, hc⟩ := h.at_ hk
  have hr' : vs = encStk x := hr
  subst hr'
  exact ⟨b, off, x, hA, hb, hx, by simpa using hc 0 _ rfl, by simpa using hc 1 _ rfl⟩
theorem PiesAt.get {l : List PieD} (h : PiesAt w B A l) {k : Nat} (hk : k < l.length) :
    ∃ b off x, A = some ⟨b, off, none⟩ ∧ b < B ∧ l[k]? = some x ∧ w.cell? ⟨b, off + k * 2, none⟩ = some (.int .i64 x.length) ∧ w.cell? ⟨b, off + k * 2 + 1, none⟩ = some (.int .i64 x.count) := by
  obtain ⟨b, off, x, vs, hA, hb, hx, _, hr, hc⟩ := h.at_ hk
  have hr' : vs = encPie x := hr
  subst hr'
  exact ⟨b, off, x, hA, hb, hx, by simpa using hc 0 _ rfl, by simpa using hc 1 _ rfl⟩
theorem PatsAt.get {l : List PatD} (h : PatsAt w B A l) {k : Nat} (hk : k < l.length) :
    ∃ b off x A' c', A = some ⟨b, off, none⟩ ∧ b < B ∧ l[k]? = some x ∧ Ints w B A' x.pieces ∧ w.cell? ⟨b, off + k * 3, none⟩ = some (.int .i64 x.stock) ∧ w.cell? ⟨b, off + k * 3 + 1, none⟩ = some (.slice A' x.pieces.length c') ∧ w.cell? ⟨b, off + k * 3 + 2, none⟩ = some (.int .i64 x.times) := by
  obtain ⟨b, off, x, vs, hA, hb, hx, _, ⟨A', c', hv, hi⟩, hc⟩ := h.at_ hk
  subst hv
  exact ⟨b, off, x, A', c', hA, hb, hx, hi, by simpa using hc 0 _ rfl, by simpa using hc 1 _ rfl, by simpa using hc 2 _ rfl⟩
end

def lenOk (n : Int) : Bool := decide (1 ≤ n) && decide (n ≤ 1048576)
set_option maxHeartbeats 400000 in
theorem length_any (n : Int) (w : World) : Calls Tryz.prog 80 #[.int .i64 n] w fun e w' => e = .returned (.bool (lenOk n)) ∧ w = w' := by
  go_enter Tryz.func80, Tryz.ntmps80
  go_wp2
  all_goals
    go_ret
    exact ⟨ret_bool (by rw [Bool.eq_iff_iff]; simp [lenOk]; try omega), rfl⟩

def stkBad (x : StkD) : Bool := !lenOk x.length || decide (x.count < -1) || decide (1000000 < x.count)
def stkFrom : List Int → List StkD → Bool
  | _, [] => true
  | seen, x :: r => !stkBad x && !seen.contains x.length && stkFrom (x.length :: seen) r
def stkOk (l : List StkD) : Bool := decide (l.length ≤ 10) && stkFrom [] l
theorem lenOk_range {n : Int} (h : lenOk n = true) : 1 ≤ n ∧ n ≤ 1048576 := by simpa [lenOk] using h

set_option maxHeartbeats 2000000 in
theorem stockValid_any (A : Option Addr) (l : List StkD) (n c : Nat) (w : World) {B : Nat} (h : StksAt w B A l) (hB : B ≤ w.heap.size) (hn : n = l.length) (hm : n ≤ 60000) :
    Calls Tryz.prog 48 #[.slice A n c] w fun e w' => e = .returned (.bool (stkOk l)) ∧ Below w.heap.size w w' := by
  have hn' := hide hn
  have Hs := hide h
  by_cases h10 : 10 < n
  · have hr := hide (show stkOk l = false by simp [stkOk]; omega)
    have d0 : decide (10 < (n : Int)) = true := by simp; omega
    clear hn h h10
    go_enter Tryz.func48, Tryz.ntmps48
    go_wp2_with fail
    go_ret
    exact ⟨ret_bool hr.out.symm, Below.refl _ _⟩
  have hr := hide (show stkOk l = stkFrom [] l by simp [stkOk]; omega)
  have d0 : decide (10 < (n : Int)) = false := by simp; omega
  have hn10 : n ≤ 10 := by omega
  clear hn h h10
  have hmm := @run_makeMap Tryz.prog
  go_enter Tryz.func48, Tryz.ntmps48
  go_wp2_with fail
  clear hmm
  have Hset := hide (BSet.new w)
  have Hw := hide (below_new w (.map #[] 0))
  obtain ⟨w1, hw1⟩ : ∃ w1, w1 = w.alloc (.map #[] 0) := ⟨_, rfl⟩
  have hlt1 : w.heap.size < w1.heap.size := by rw [hw1]; simp
  rw [← hw1] at Hset Hw ⊢
  clear hw1
  go_loopw [12] (fun i wr => ∃ k : Nat, k ≤ n ∧ i = .int .i64 k ∧ (∃ seen : List Int, BSet wr w.heap.size k seen ∧ Hid (stkOk l = stkFrom seen (l.drop k))) ∧ Below w.heap.size w wr ∧ w.heap.size < wr.heap.size) (fun i _ => n - (intOf i).toNat)
  case atStart => exact ⟨0, Nat.zero_le _, rfl, ⟨[], Hset.out, hide hr.out⟩, Hw.out, hlt1⟩
  case round =>
    clear Hset Hw hr hlt1
    obtain ⟨k, hk, rfl, ⟨seen, hset, hq⟩, hbr, hltr⟩ := hrel
    have Hset := hide hset
    clear hset
    by_cases hlt : k < n
    · obtain ⟨b, off, x, hA, hbl, hx, c0, c1⟩ := StksAt.get (k := k) (Hs.out.carry (Flat.carried _) (hbr.mono hB) (Nat.le_refl B)) (by rw [← hn'.out]; exact hlt)
      subst hA
      have hbw : b < wr.heap.size := by have := hbr.size; omega
      have Hd := hide (hq.out.trans (by rw [drop_at' hx, stkFrom]))
      clear hx hq hbl
      obtain ⟨len, cnt⟩ := x
      simp only at c0 c1 Hd
      cases hb0 : stkBad ⟨len, cnt⟩
      · simp only [stkBad, Bool.or_eq_false_iff, Bool.not_eq_false', decide_eq_false_iff_not] at hb0
        obtain ⟨⟨p0, p1⟩, p2⟩ := hb0
        have hrange := lenOk_range p0
        have hin : InInt len := by unfold InInt; omega
        have P0 := hide p0
        have q1 : decide (cnt < -1) = false := by simpa using p1
        have q2 : decide (1000000 < cnt) = false := by simpa using p2
        have Hb := hide (show stkBad ⟨len, cnt⟩ = false by simp [stkBad, p0, p1, p2])
        have hlook := (Hset.out.alloc (.cells #[.int .i64 len, .int .i64 cnt] 65)).look hin
        clear p0 p1 p2
        cases hs : seen.contains len
        · rw [hs] at hlook
          have Hs2 := hide hs
          have hd2 := hide (Hd.out.trans (by rw [Hb.out, hs]; rfl : _ = stkFrom (len :: seen) (l.drop (k + 1))))
          clear hs
          go_wp2_with (first
            | (go_at_call 80; refine (length_any _ _).mono ?_; rintro e w' ⟨rfl, rfl⟩; rw [P0.out])
            | (at_mapUpdate; refine wpList_store_bset rfl (.tmp 36) (.tmp 38) (.const (.bool true)) rfl w.heap.size k seen rfl (Hset.out.alloc _) (by omega) len rfl rfl hin ?_; intro w3 hset3 hg3))
          have hb3 := hide (below_grown (hbr.alloc hbr.size _) hg3 (le_alloc hbr.size _) (Nat.le_refl _))
          have hlt3 : w.heap.size < w3.heap.size := by have := hg3.size; simp at this; omega
          clear hlook hg3
          go_wp2_with fail
          go_roundw
          case rel => exact ⟨k + 1, by omega, by go_num, ⟨len :: seen, hset3, hide hd2.out⟩, hb3.out, hlt3⟩
          case measure => simp [intOf]; omega
        · rw [hs] at hlook
          have hres := hide (show stkOk l = false by rw [Hd.out, hs]; simp)
          clear hs
          go_wp2_with (go_at_call 80; refine (length_any _ _).mono ?_; rintro e w' ⟨rfl, rfl⟩; rw [P0.out])
          go_ret
          exact ⟨ret_bool hres.out.symm, hbr.alloc hbr.size _⟩
      · have hres := hide (show stkOk l = false by rw [Hd.out, hb0]; rfl)
        simp only [stkBad, Bool.or_eq_true, Bool.not_eq_true', decide_eq_true_eq] at hb0
        have hcase : lenOk len = false ∨ (lenOk len = true ∧ decide (cnt < -1) = true) ∨ (lenOk len = true ∧ decide (cnt < -1) = false ∧ decide (1000000 < cnt) = true) := by
          cases h0 : lenOk len
          · exact .inl rfl
          · right
            rw [h0] at hb0
            by_cases h1 : cnt < -1
            · exact .inl ⟨rfl, by simpa using h1⟩
            · exact .inr ⟨rfl, by simpa using h1, by simp at hb0 ⊢; omega⟩
        clear hb0
        rcases hcase with q0 | ⟨q0, q1⟩ | ⟨q0, q1, q2⟩
        all_goals
          have P0 := hide q0
          clear q0
          go_wp2_with (go_at_call 80; refine (length_any _ _).mono ?_; rintro e w' ⟨rfl, rfl⟩; rw [P0.out])
          go_ret
          exact ⟨ret_bool hres.out.symm, hbr.alloc hbr.size _⟩
    · obtain rfl : k = n := by omega
      have hfull := hide (show stkOk l = true by rw [hq.out, hn'.out, List.drop_length]; rfl)
      go_wp2_with fail
      go_ret
      exact ⟨ret_bool hfull.out.symm, hbr⟩

/-! Orders. -/
abbrev pie (x : PieD) : Value := .agg #[.int .i64 x.length, .int .i64 x.count]
def pieBad (x : PieD) : Bool := !lenOk x.length || decide (x.count < 1) || decide (1000000 < x.count)
def anyPie (p : PieD → Bool) (l : List PieD) : Bool := l.any p
def ordOk (l : List PieD) : Bool := decide (l.length ≤ 200) && !anyPie pieBad l
def ordSum (l : List PieD) : Int := l.foldl (fun a x => a + x.length * x.count) 0
theorem ordOk_len {l : List PieD} (h : ordOk l = true) : l.length ≤ 200 := by
  rw [ordOk, Bool.and_eq_true, decide_eq_true_eq] at h
  exact h.1
theorem ordOk_mem {l : List PieD} (h : ordOk l = true) {x : PieD} (hx : x ∈ l) : 1 ≤ x.length ∧ x.length ≤ 1048576 ∧ 1 ≤ x.count ∧ x.count ≤ 1000000 := by
  simp only [ordOk, anyPie, Bool.and_eq_true, Bool.not_eq_true', List.any_eq_false] at h
  have h1 := h.2 x hx
  simp only [pieBad, Bool.or_eq_true, Bool.not_eq_true', decide_eq_true_eq, not_or, Bool.not_eq_false] at h1
  have := lenOk_range h1.1.1
  omega
theorem ordSum_snoc (l : List PieD) (x : PieD) : ordSum (l ++ [x]) = ordSum l + x.length * x.count := by simp [ordSum]
theorem ordSum_range : ∀ (l : List PieD), (∀ x ∈ l, 1 ≤ x.length ∧ x.length ≤ 1048576 ∧ 1 ≤ x.count ∧ x.count ≤ 1000000) → 0 ≤ ordSum l ∧ ordSum l ≤ 1048576000000 * l.length := by
  have key : ∀ r : List PieD, (∀ x ∈ r.reverse, 1 ≤ x.length ∧ x.length ≤ 1048576 ∧ 1 ≤ x.count ∧ x.count ≤ 1000000) → 0 ≤ ordSum r.reverse ∧ ordSum r.reverse ≤ 1048576000000 * r.reverse.length := by
    intro r
    induction r with
    | nil => intro _; simp [ordSum]
    | cons x r ih =>
      intro h
      rw [List.reverse_cons] at h ⊢
      obtain ⟨a1, a2⟩ := ih (fun y hy => h y (List.mem_append_left _ hy))
      obtain ⟨c1, c2, c3, c4⟩ := h x (by simp)
      have e0 : 0 ≤ x.length * x.count := Int.mul_nonneg (by omega) (by omega)
      have e1 : x.length * x.count ≤ 1048576 * 1000000 := Int.mul_le_mul c2 c4 (by omega) (by omega)
      rw [ordSum_snoc, List.length_append, List.length_singleton]
      generalize x.length * x.count = e at *
      omega
  intro l h
  have := key l.reverse
  rw [List.reverse_reverse] at this
  exact this h
set_option maxHeartbeats 400000 in
theorem pieBad_any (x : PieD) (w : World) : Calls Tryz.prog 82 #[pie x] w fun e w' => e = .returned (.bool (pieBad x)) ∧ Below w.heap.size w w' := by
  obtain ⟨n, c⟩ := x
  have HL := hide (fun (W : World) => length_any n W)
  obtain ⟨t, ht⟩ : ∃ t, t = lenOk n := ⟨_, rfl⟩
  have Hr := hide (show pieBad ⟨n, c⟩ = (!t || decide (c < 1) || decide (1000000 < c)) by rw [pieBad, ht])
  rw [← ht] at HL
  clear ht
  cases t
  all_goals
    go_enter Tryz.func82, Tryz.ntmps82
    go_wp2_with (go_at_call 80; refine (HL.out _).mono ?_; rintro e w2 ⟨rfl, rfl⟩)
  all_goals
    go_ret
    exact ⟨ret_bool (by rw [Hr.out, Bool.eq_iff_iff]; simp; try omega), below_new w _⟩
set_option maxHeartbeats 1000000 in
theorem indexFuncPie_any (A : Option Addr) (l : List PieD) (n c : Nat) (fid : FuncId) (p : PieD → Bool) (w : World) {B : Nat} (h : PiesAt w B A l) (hB : B ≤ w.heap.size) (hn : n = l.length) (hm : n ≤ 300000)
    (hc : ∀ args w, (callFunc fid args).run Tryz.prog w = .ok (.enter fid args) w)
    (hf : ∀ x (W : World), x ∈ l → Calls Tryz.prog fid #[pie x] W fun e W' => e = .returned (.bool (p x)) ∧ Below W.heap.size W W') :
    Calls Tryz.prog 113 #[.slice A n c, .func (.func fid) #[] #[]] w fun e w' => e = .returned (.int .i64 (idx p l)) ∧ Below w.heap.size w w' := by
  have Hf := hide hf
  have hn' := hide hn
  have Hs := hide h
  clear hf hn h
  go_enter Tryz.func113, Tryz.ntmps113
  go_wp2_with fail
  go_loopw [8] (fun i wr => ∃ k : Nat, k ≤ n ∧ i = .int .i64 k ∧ NoneTo p l k ∧ Below w.heap.size w wr) (fun i _ => n - (intOf i).toNat)
  case atStart => exact ⟨0, Nat.zero_le _, rfl, NoneTo.zero _ _, Below.refl _ _⟩
  case round =>
    obtain ⟨k, hk, rfl, hw, hb⟩ := hrel
    by_cases hlt : k < n
    · obtain ⟨b, off, x, rfl, hbl, hx, h0, h1⟩ := PiesAt.get (k := k) (SlOf.carry (Flat.carried _) Hs.out (hb.mono hB) (Nat.le_refl _)) (by rw [← hn'.out]; exact hlt)
      have Hx := hide hx
      clear hx hbl
      go_wp2_with fail
      refine (Hf.out x _ (mem_of_get Hx.out)).mono ?_
      rintro e w1 ⟨rfl, hb1⟩
      clear h0 h1
      have hb2 := below_step hb hb1 (Nat.le_refl _)
      cases hp : p x
      · have Hp := hide hp
        clear hp
        go_wp2_with fail
        go_roundw
        case rel => exact ⟨k + 1, by omega, by go_num, hw.succ Hx.out Hp.out, hb2⟩
        case measure => simp [intOf]; omega
      · have Hp := hide hp
        clear hp
        go_wp2_with fail
        go_ret
        exact ⟨ret_int (hw.hit Hx.out Hp.out).symm, hb2⟩
    · obtain rfl : k = n := by omega
      go_wp2_with fail
      go_ret
      exact ⟨ret_int (NoneTo.miss (by rw [← hn'.out]; exact hw)).symm, hb⟩
set_option maxHeartbeats 400000 in
theorem containsFuncPie_any (A : Option Addr) (l : List PieD) (n c : Nat) (fid : FuncId) (p : PieD → Bool) (w : World) {B : Nat} (h : PiesAt w B A l) (hB : B ≤ w.heap.size) (hn : n = l.length) (hm : n ≤ 300000)
    (hc : ∀ args w, (callFunc fid args).run Tryz.prog w = .ok (.enter fid args) w)
    (hf : ∀ x (W : World), x ∈ l → Calls Tryz.prog fid #[pie x] W fun e W' => e = .returned (.bool (p x)) ∧ Below W.heap.size W W') :
    Calls Tryz.prog 81 #[.slice A n c, .func (.func fid) #[] #[]] w fun e w' => e = .returned (.bool (anyPie p l)) ∧ Below w.heap.size w w' := by
  have Hf := hide hf
  have hn' := hide hn
  have Hc := hide hc
  clear hf hn hc
  go_enter Tryz.func81, Tryz.ntmps81
  go_wp2_with fail
  refine (indexFuncPie_any A l n c fid p w h hB hn'.out hm Hc.out Hf.out).mono ?_
  rintro e w1 ⟨rfl, hb⟩
  go_wp2_with fail
  go_ret
  exact ⟨ret_bool (by rw [idx_any]; rfl), hb⟩
set_option maxHeartbeats 1000000 in
theorem stockOrder_any (A : Option Addr) (l : List PieD) (n c : Nat) (w : World) {B : Nat} (h : PiesAt w B A l) (hB : B ≤ w.heap.size) (hn : n = l.length) (hm : n ≤ 60000) :
    Calls Tryz.prog 49 #[.slice A n c] w fun e w' => e = .returned (.bool (ordOk l)) ∧ Below w.heap.size w w' := by
  have hn' := hide hn
  have Hs := hide h
  by_cases h10 : 200 < n
  · have hr := hide (show ordOk l = false by simp [ordOk]; omega)
    have d0 : decide ((n : Int) ≤ 200) = false := by simp; omega
    clear hn h h10
    go_enter Tryz.func49, Tryz.ntmps49
    go_wp2_with fail
    go_ret
    exact ⟨ret_bool hr.out.symm, Below.refl _ _⟩
  have Hr := hide (show ordOk l = !anyPie pieBad l by simp [ordOk]; omega)
  have d0 : decide ((n : Int) ≤ 200) = true := by simp; omega
  clear hn h h10
  go_enter Tryz.func49, Tryz.ntmps49
  go_wp2_with (go_at_call 81; refine (containsFuncPie_any A l n c _ pieBad _ Hs.out hB hn'.out (by omega) Tryz.call82 (fun x W _ => pieBad_any x W)).mono ?_; rintro e w2 ⟨rfl, hb2⟩)
  go_ret
  exact ⟨ret_bool Hr.out.symm, hb2⟩
set_option maxHeartbeats 1000000 in
theorem stockTotal_any (A : Option Addr) (l : List PieD) (n c : Nat) (w : World) {B : Nat} (h : PiesAt w B A l) (hB : B ≤ w.heap.size) (hn : n = l.length) (hok : ordOk l = true) :
    Calls Tryz.prog 52 #[.slice A n c] w fun e w' => e = .returned (.tuple #[.int .i64 (ordSum l), .int .i64 0]) ∧ Below w.heap.size w w' := by
  have hn' := hide hn
  have Hs := hide h
  have hm : n ≤ 200 := by rw [hn]; exact ordOk_len hok
  have Hmem := hide (fun (x : PieD) (hx : x ∈ l) => ordOk_mem hok hx)
  have HO := stockOrder_any A l n c w h hB hn (by omega)
  rw [hok] at HO
  have HO := hide HO
  clear hn h hok
  go_enter Tryz.func52, Tryz.ntmps52
  go_wp2_with fail
  refine HO.out.mono ?_
  rintro e w2 ⟨rfl, hb2⟩
  clear HO
  go_wp2_with fail
  go_loopw [4, 12] (fun s i wr => ∃ k : Nat, k ≤ n ∧ i = .int .i64 k ∧ (∃ t : Int, 0 ≤ t ∧ t ≤ 1048576000000 * k ∧ s = .int .i64 t ∧ Hid (t = ordSum (l.take k))) ∧ Below w.heap.size w wr) (fun _ i _ => n - (intOf i).toNat)
  case atStart => exact ⟨0, Nat.zero_le _, rfl, ⟨0, by omega, by omega, rfl, hide rfl⟩, hb2⟩
  case round =>
    clear hb2
    obtain ⟨k, hk, rfl, ⟨t, ht0, ht1, rfl, ht⟩, hbr⟩ := hrel
    by_cases hlt : k < n
    · obtain ⟨b, off, x, rfl, hbl, hx, h0, h1⟩ := PiesAt.get (k := k) (SlOf.carry (Flat.carried _) Hs.out (hbr.mono hB) (Nat.le_refl _)) (by rw [← hn'.out]; exact hlt)
      obtain ⟨c1, c2, c3, c4⟩ := Hmem.out x (mem_of_get hx)
      have e0 : 0 ≤ x.length * x.count := Int.mul_nonneg (by omega) (by omega)
      have e1 : x.length * x.count ≤ 1048576 * 1000000 := Int.mul_le_mul c2 c4 (by omega) (by omega)
      have Hx := hide hx
      clear hx hbl
      go_wp2_with fail
      go_roundw
      case rel => exact ⟨k + 1, by omega, by go_num, ⟨t + x.length * x.count, by omega, by omega, rfl, hide (by rw [take_snoc' Hx.out, ordSum_snoc, ht.out])⟩, hbr.alloc hbr.size _⟩
      case measure => simp [intOf]; omega
    · obtain rfl : k = n := by omega
      have ht' := hide (show t = ordSum l by rw [ht.out, hn'.out, List.take_length])
      go_wp2_with fail
      go_ret2
      exact ⟨by rw [ht'.out]; rfl, hbr⟩
end Go.Proofs.YtnhmdgkhmkeopaaGreatDoor
