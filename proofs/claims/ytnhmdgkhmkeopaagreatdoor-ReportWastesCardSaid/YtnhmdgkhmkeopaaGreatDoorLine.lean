/- A line of words and integers, added to a text of the report. -/
import Derived.Test.YtnhmdgkhmkeopaaGreatDoorBuild
import Derived.Test.YtnhmdgkhmkeopaaGreatDoorPure
import Derived.BigQuiet
import Derived.Deep.RegionWith
import Derived.Lib.ItoaLen
import Derived.Lib.AppendIntMem
import Derived.Lib.QuietBelow
import Derived.Test.YtnhmdgkhmkeopaaGreatDoorShelf
namespace Go.Proofs.YtnhmdgkhmkeopaaGreatDoor
open Go.RowKit

theorem textType : BldType 76 := ⟨by kernel_rfl, by decide⟩

/-- A word of a line. -/
inductive Word where
  | str (s : ByteArray)
  | num (n : Int)
/-- A word's bytes. -/
def Word.bytes : Word → List UInt8
  | .str s => s.data.toList
  | .num n => Lib.itoa n
def Word.val : Word → Value
  | .str s => .iface 9 (.string s)
  | .num n => .iface 3 (.int .i64 n)
def Word.ok : Word → Prop
  | .str s => s.size ≤ 1000000
  | .num n => -9223372036854775808 ≤ n ∧ n ≤ 9223372036854775807
/-- Words with single blanks between them. -/
def spaced : List Word → List UInt8
  | [] => []
  | [x] => x.bytes
  | x :: y :: r => x.bytes ++ 32 :: spaced (y :: r)
def lineBytes (l : List Word) : List UInt8 := spaced l ++ [10]
theorem spaced_snoc (l : List Word) (x : Word) : spaced (l ++ [x]) = if l = [] then x.bytes else spaced l ++ 32 :: x.bytes := by
  induction l with
  | nil => rfl
  | cons y r ih =>
    cases r with
    | nil => simp [spaced]
    | cons z r => simp only [List.cons_append, spaced, List.cons_ne_nil, if_false] at ih ⊢; rw [ih]; simp
theorem bytes_len {x : Word} (h : x.ok) : x.bytes.length ≤ 1000000 := by
  cases x with
  | str s => simpa [Word.bytes, Word.ok] using h
  | num n =>
    have := Lib.itoa_length_le n h.1 h.2
    simp only [Word.bytes]
    omega
theorem spaced_len : ∀ (l : List Word), (∀ x ∈ l, x.ok) → (spaced l).length ≤ 1000001 * l.length := by
  intro l
  induction l with
  | nil => intro _; simp [spaced]
  | cons y r ih =>
    intro h
    have h1 := bytes_len (h y (List.mem_cons_self ..))
    have h2 := ih (fun x hx => h x (List.mem_cons_of_mem _ hx))
    cases r with
    | nil => simp only [spaced, List.length_cons, List.length_nil]; omega
    | cons z r => simp only [spaced, List.length_append, List.length_cons] at h2 ⊢; omega
/-- The table that Itoa reads lies below block B. -/
def TB (B : Nat) (w : World) : Prop := Lib.TabBelow Tryz.prog B w "internal/strconv.uint64pow10" .u64 Lib.pow10Tab
theorem TB.carry {B : Nat} {w w' : World} (h : TB B w) (hb : Below B w w') : TB B w' := fun v hv => h v (hb.trans hv)

set_option maxHeartbeats 400000 in
theorem itoa_any (n : Int) (w : World) {B : Nat} (ht : TB B w) (h0 : -9223372036854775808 ≤ n) (h1 : n ≤ 9223372036854775807) :
    Calls Tryz.prog 58 #[.int .i64 n] w fun e w' => e = .returned (.string ⟨(Lib.itoa n).toArray⟩) ∧ Below w.heap.size w w' :=
  (Tryz.strconv_Itoa n h0 h1 w ht.here).mono fun e w' ⟨he, k, os, hw⟩ => ⟨he, by rw [hw]; exact Lib.below_grow _ _ (Nat.le_refl _) _ _⟩

theorem assert_ss (s : ByteArray) (w : World) : (Instr.typeAssert (.iface 9 (.string s)) 20 9 true).run Tryz.prog w = .ok (.tuple #[.string s, .bool true]) w := by kernel_rfl
theorem assert_is (n : Int) (w : World) : (Instr.typeAssert (.iface 3 (.int .i64 n)) 20 9 true).run Tryz.prog w = .ok (.tuple #[.string .empty, .bool false]) w := by kernel_rfl
theorem assert_ii (n : Int) (w : World) : (Instr.typeAssert (.iface 3 (.int .i64 n)) 20 3 true).run Tryz.prog w = .ok (.tuple #[.int .i64 n, .bool true]) w := by kernel_rfl

set_option maxHeartbeats 2000000 in
set_option maxRecDepth 100000 in
theorem line_any (ws : List Word) (g n c : Nat) (cs : Array Value) (B Bb b : Nat) (l : List UInt8) (w : World) (hb : Bld w 76 Bb b l) (hBw : Bb ≤ w.heap.size) (hBB : B ≤ Bb) (ht : TB B w)
    (hg : Blk w g 20 cs) (hn : n = ws.length) (hcs : ∀ (j : Nat) (x : Word), ws[j]? = some x → cs[j]? = some (Word.val x)) (hok : ∀ x ∈ ws, x.ok) (hn1 : n ≤ 1000) (hl : l.length ≤ 50000000000) :
    Calls Tryz.prog 28 #[.pointer (some ⟨b, 0, none⟩), .slice (some ⟨g, 0, none⟩) n c] w fun e w' => e = .returned (.tuple #[]) ∧ Bld w' 76 Bb b (l ++ lineBytes ws) ∧ Below Bb w w' ∧ Spares b w w' := by
  have hn' := hide hn
  have Hcs := hide hcs
  have Hok := hide hok
  have Hb := hide hb
  have Ht := hide ht
  have Hg := hide hg
  have hgb : g ≠ b := by
    rintro rfl
    rcases hb with ⟨_, v, hk, _⟩ | ⟨_, v, hk, _⟩
    all_goals
      unfold Blk at hg
      rw [hg] at hk
      injection hk with hk
      injection hk with _ hk
      exact absurd hk (by decide)
  clear hn hcs hok hb ht hg
  go_enter Tryz.func28, Tryz.ntmps28
  go_wp2_with fail
  go_loopw [10] (fun i wr => ∃ k : Nat, k ≤ n ∧ i = .int .i64 k ∧ Bld wr 76 Bb b (l ++ spaced (ws.take k)) ∧ Below Bb w wr ∧ Spares b w wr) (fun i _ => n - (intOf i).toNat)
  case atStart => exact ⟨0, Nat.zero_le _, rfl, by simpa [spaced] using Hb.out, Below.refl _ _, Spares.refl _ _⟩
  case round =>
    obtain ⟨k, hk, rfl, hbd, hbr, hsp⟩ := hrel
    have Hbd := hide hbd
    have Hsp := hide hsp
    have hBr := Nat.le_trans hBw hbr.size
    have hlen : (l ++ spaced (ws.take k)).length ≤ 60000000000 := by
      have := spaced_len (ws.take k) (fun x hx => Hok.out x (List.mem_of_mem_take hx))
      simp only [List.length_append, List.length_take] at this ⊢
      omega
    clear hbd hsp
    by_cases hlt : k < n
    · obtain ⟨x, hx⟩ : ∃ x, ws[k]? = some x := ⟨_, List.getElem?_eq_getElem (by rw [← hn'.out]; exact hlt)⟩
      have hxok := Hok.out x (mem_of_get hx)
      have hcell := ((Hsp.out _ _ _ hgb (by decide) Hg.out).cell k).trans (Hcs.out k x hx)
      have Hx := hide hx
      have Hxok := hide hxok
      clear hx hxok
      have hta1 := assert_ss
      have hta2 := assert_is
      have hta3 := assert_ii
      cases x with
      | str s =>
        simp only [Word.val] at hcell
        have hsl : s.size ≤ 1000000 := Hxok.out
        by_cases hk0 : k = 0
        · subst hk0
          go_wp2_with fail
          refine (writeString_any _ textType Bb b _ s _ Hbd.out (by omega) (by omega) hBr).mono ?_
          rintro e w1 ⟨rfl, hb1, hbe1, hs1⟩
          have Hb1 := hide (show Bld w1 76 Bb b (l ++ spaced (ws.take 1)) by
            rw [take_snoc' Hx.out]; simpa [spaced, Word.bytes] using hb1)
          have Hs1 := hide (Hsp.out.trans hs1)
          clear hb1 hs1 hta1 hta2 hta3
          go_wp2_with fail
          go_roundw
          case rel => exact ⟨1, by omega, rfl, Hb1.out, hbr.trans hbe1, Hs1.out⟩
          case measure => simp [intOf]; omega
        · go_wp2_with fail
          refine (writeByte_any _ textType Bb b _ 32 32 _ rfl Hbd.out (by omega) hBr).mono ?_
          rintro e w0 ⟨rfl, hb0, hbe0, hs0⟩
          have Hb0 := hide hb0
          have Hs0 := hide (Hsp.out.trans hs0)
          have hBr0 := Nat.le_trans hBr hbe0.size
          have hbr0 := hide (hbr.trans hbe0)
          clear hb0 hs0 hbe0 hcell
          go_wp2_with fail
          refine (writeString_any _ textType Bb b _ s _ Hb0.out (by simp only [List.length_append, List.length_singleton] at hlen ⊢; omega) (by omega) hBr0).mono ?_
          rintro e w1 ⟨rfl, hb1, hbe1, hs1⟩
          have Hb1 := hide (show Bld w1 76 Bb b (l ++ spaced (ws.take (k + 1))) by
            rw [take_snoc' Hx.out, spaced_snoc, if_neg (by intro h9; have h8 := congrArg List.length h9; simp only [List.length_take, List.length_nil] at h8; have := hn'.out; omega)]
            simpa [Word.bytes] using hb1)
          have Hs1 := hide (Hs0.out.trans hs1)
          have hbr1 := hide (hbr0.out.trans hbe1)
          clear hb1 hs1 hta1 hta2 hta3 hbe1
          go_wp2_with fail
          go_roundw
          case rel => exact ⟨k + 1, by omega, by go_num, Hb1.out, hbr1.out, Hs1.out⟩
          case measure => simp [intOf]; omega
      | num m =>
        simp only [Word.val] at hcell
        obtain ⟨hm0, hm1⟩ := Hxok.out
        have hit := Lib.itoa_length_le m hm0 hm1
        by_cases hk0 : k = 0
        · subst hk0
          go_wp2_with fail
          have Htr := hide ((Ht.out.carry (hbr.mono hBB)).carry (Below.drew (Below.refl B wr)))
          clear hcell hta1 hta2 hta3
          go_region_with (first
            | (go_at_call 58; refine (itoa_any m _ Htr.out hm0 hm1).mono ?_; rintro e w1 ⟨rfl, hb1⟩)
            | (go_at_call 57; refine (writeString_any _ textType Bb b _ ⟨(Lib.itoa m).toArray⟩ _ (IsBuilder.keep (show Bld wr.drew _ _ _ _ from Hbd.out) hb1) (by omega) (by simp only [ByteArray.size, List.size_toArray]; omega) (Nat.le_trans hBr hb1.size)).mono ?_; rintro e w2 ⟨rfl, hb2, hbe2, hs2⟩))
          have Hb2 := hide (show Bld w2 76 Bb b (l ++ spaced (ws.take 1)) by
            rw [take_snoc' Hx.out]; simpa [spaced, Word.bytes] using hb2)
          have Hs2 := hide ((((Hsp.out.keep (Below.drew (Below.refl _ _))).keep hb1)).trans hs2)
          have hbr2 := hide (((hbr.drew).trans (hb1.mono hBr)).trans hbe2)
          clear hb2 hs2 hbe2 hb1
          go_wp2_with fail
          go_roundw
          case rel => exact ⟨1, by omega, rfl, Hb2.out, hbr2.out, Hs2.out⟩
          case measure => simp [intOf]; omega
        · go_wp2_with fail
          refine (writeByte_any _ textType Bb b _ 32 32 _ rfl Hbd.out (by omega) hBr).mono ?_
          rintro e w0 ⟨rfl, hb0, hbe0, hs0⟩
          have Hb0 := hide hb0
          have Hs0 := hide (Hsp.out.trans hs0)
          have hBr0 := Nat.le_trans hBr hbe0.size
          have hbr0 := hide (hbr.trans hbe0)
          clear hb0 hs0 hbe0 hcell
          go_wp2_with fail
          have Htr := hide ((Ht.out.carry (hbr0.out.mono hBB)).carry (Below.drew (Below.refl B w0)))
          clear hta1 hta2 hta3
          go_region_with (first
            | (go_at_call 58; refine (itoa_any m _ Htr.out hm0 hm1).mono ?_; rintro e w1 ⟨rfl, hb1⟩)
            | (go_at_call 57; refine (writeString_any _ textType Bb b _ ⟨(Lib.itoa m).toArray⟩ _ (IsBuilder.keep (show Bld w0.drew _ _ _ _ from Hb0.out) hb1) (by simp only [List.length_append, List.length_singleton] at hlen ⊢; omega) (by simp only [ByteArray.size, List.size_toArray]; omega) (Nat.le_trans hBr0 hb1.size)).mono ?_; rintro e w2 ⟨rfl, hb2, hbe2, hs2⟩))
          have Hb2 := hide (show Bld w2 76 Bb b (l ++ spaced (ws.take (k + 1))) by
            rw [take_snoc' Hx.out, spaced_snoc, if_neg (by intro h9; have h8 := congrArg List.length h9; simp only [List.length_take, List.length_nil] at h8; have := hn'.out; omega)]
            simpa [Word.bytes] using hb2)
          have Hs2 := hide ((((Hs0.out.keep (Below.drew (Below.refl _ _))).keep hb1)).trans hs2)
          have hbr2 := hide (((hbr0.out.drew).trans (hb1.mono hBr0)).trans hbe2)
          clear hb2 hs2 hbe2 hb1
          go_wp2_with fail
          go_roundw
          case rel => exact ⟨k + 1, by omega, by go_num, Hb2.out, hbr2.out, Hs2.out⟩
          case measure => simp [intOf]; omega
    · obtain rfl : k = n := by omega
      have Hb2 := hide (show Bld wr 76 Bb b (l ++ spaced ws) by
        have h9 := Hbd.out
        rwa [List.take_of_length_le (by rw [hn'.out]; exact Nat.le_refl _)] at h9)
      go_wp2_with fail
      refine (writeByte_any _ textType Bb b _ 10 10 _ rfl Hb2.out (by
        have h9 := hlen
        rw [List.take_of_length_le (by rw [hn'.out]; exact Nat.le_refl _)] at h9
        omega) hBr).mono ?_
      rintro e w0 ⟨rfl, hb0, hbe0, hs0⟩
      have Hb0 := hide hb0
      have Hs0 := hide (Hsp.out.trans hs0)
      clear hb0 hs0
      go_wp2_with fail
      go_end0
      exact ⟨rfl, by simpa [lineBytes] using Hb0.out, hbr.trans hbe0, Hs0.out⟩
end Go.Proofs.YtnhmdgkhmkeopaaGreatDoor
