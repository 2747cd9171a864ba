/- The example of the chapter. -/
import Derived.Test.YtkmpddaobncheaaGreatDoorQad
import Derived.Test.YtkmpddaobncheaaGreatDoorQaa
import Derived.BigQuiet
import Derived.Deep.RegionWith
import Derived.Lib.ItoaLen
import Derived.Lib.AppendIntMem
import Derived.Lib.QuietBelow
import Derived.Test.YtkmpddaobncheaaGreatDoorShelf
namespace Go.Proofs.YtkmpddaobncheaaGreatDoor
open Go.RowKit

theorem textType : BldType 80 := ⟨by kernel_rfl, by decide⟩

/-- A word of a line. -/
inductive Word where
  | str (s : ByteArray)
  | num (n : Int)
/-- A word's bytes. -/
def Word.bytes : Word → List UInt8
  | .str s => s.data.toList
  | .num n => Lib.itoa n
def Word.val : Word → Value
  | .str s => .iface 9 (.string s)
  | .num n => .iface 3 (.int .i64 n)
def Word.ok : Word → Prop
  | .str s => s.size ≤ 1000000
  | .num n => -9223372036854775808 ≤ n ∧ n ≤ 9223372036854775807
/-- Words with single blanks between them. -/
def spaced : List Word → List UInt8
  | [] => []
  | [x] => x.bytes
  | x :: y :: r => x.bytes ++ 32 :: spaced (y :: r)
def lineBytes (l : List Word) : List UInt8 := spaced l ++ [10]
theorem spaced_snoc (l : List Word) (x : Word) : spaced (l ++ [x]) = if l = [] then x.bytes else spaced l ++ 32 :: x.bytes := by
  induction l with
  | nil => rfl
  | cons y r ih =>
    cases r with
    | nil => simp [spaced]
    | cons z r => simp only [List.cons_append, spaced, List.cons_ne_nil, if_false] at ih ⊢; rw [ih]; simp
theorem bytes_len {x : Word} (h : x.ok) : x.bytes.length ≤ 1000000 := by
  cases x with
  | str s => simpa [Word.bytes, Word.ok] using h
  | num n =>
    have := Lib.itoa_length_le n h.1 h.2
    simp only [Word.bytes]
    omega
theorem spaced_len : ∀ (l : List Word), (∀ x ∈ l, x.ok) → (spaced l).length ≤ 1000001 * l.length := by
  intro l
  induction l with
  | nil => intro _; simp [spaced]
  | cons y r ih =>
    intro h
    have h1 := bytes_len (h y (List.mem_cons_self ..))
    have h2 := ih (fun x hx => h x (List.mem_cons_of_mem _ hx))
    cases r with
    | nil => simp only [spaced, List.length_cons, List.length_nil]; omega
    | cons z r => simp only [spaced, List.length_append, List.length_cons] at h2 ⊢; omega
/-- The table that Itoa reads lies below block B. -/
def TB (B : Nat) (w : World) : Prop := Lib.TabBelow Tryz.prog B w "internal/strconv.uint64pow10" .u64 Lib.pow10Tab
theorem TB.carry {B : Nat} {w w' : World} (h : TB B w) (hb : Below B w w') : TB B w' := fun v hv => h v (hb.trans hv)

set_option maxHeartbeats 400000 in
theorem itoa_any (n : Int) (w : World) {B : Nat} (ht : TB B w) (h0 : -9223372036854775808 ≤ n) (h1 : n ≤ 9223372036854775807) :
    Calls Tryz.prog 12 #[.int .i64 n] w fun e w' => e = .returned (.string ⟨(Lib.itoa n).toArray⟩) ∧ Below w.heap.size w w' :=
  (Tryz.strconv_Itoa n h0 h1 w ht.here).mono fun e w' ⟨he, k, os, hw⟩ => ⟨he, by rw [hw]; exact Lib.below_grow _ _ (Nat.le_refl _) _ _⟩

theorem assert_ss (s : ByteArray) (w : World) : (Instr.typeAssert (.iface 9 (.string s)) 20 9 true).run Tryz.prog w = .ok (.tuple #[.string s, .bool true]) w := by kernel_rfl
theorem assert_is (n : Int) (w : World) : (Instr.typeAssert (.iface 3 (.int .i64 n)) 20 9 true).run Tryz.prog w = .ok (.tuple #[.string .empty, .bool false]) w := by kernel_rfl
theorem assert_ii (n : Int) (w : World) : (Instr.typeAssert (.iface 3 (.int .i64 n)) 20 3 true).run Tryz.prog w = .ok (.tuple #[.int .i64 n, .bool true]) w := by kernel_rfl

set_option maxHeartbeats 2000000 in
set_option maxRecDepth 100000 in
theorem line_any (ws : List Word) (g n c : Nat) (cs : Array Value) (B Bb b : Nat) (l : List UInt8) (w : World) (hb : Bld w 80 Bb b l) (hBw : Bb ≤ w.heap.size) (hBB : B ≤ Bb) (ht : TB B w)
    (hg : Blk w g 20 cs) (hn : n = ws.length) (hcs : ∀ (j : Nat) (x : Word), ws[j]? = some x → cs[j]? = some (Word.val x)) (hok : ∀ x ∈ ws, x.ok) (hn1 : n ≤ 1000) (hl : l.length ≤ 50000000000) :
    Calls Tryz.prog 22 #[.pointer (some ⟨b, 0, none⟩), .slice (some ⟨g, 0, none⟩) n c] w fun e w' => e = .returned (.tuple #[]) ∧ Bld w' 80 Bb b (l ++ lineBytes ws) ∧ Below Bb w w' ∧ Spares b w w' := by
  have hn' := hide hn
  have Hcs := hide hcs
  have Hok := hide hok
  have Hb := hide hb
  have Ht := hide ht
  have Hg := hide hg
  have hgb : g ≠ b := by
    rintro rfl
    rcases hb with ⟨_, v, hk, _⟩ | ⟨_, v, hk, _⟩
    all_goals
      unfold Blk at hg
      rw [hg] at hk
      injection hk with hk
      injection hk with _ hk
      exact absurd hk (by decide)
  clear hn hcs hok hb ht hg
  go_enter Tryz.func22, Tryz.ntmps22
  go_wp2_with fail
  go_loopw [10] (fun i wr => ∃ k : Nat, k ≤ n ∧ i = .int .i64 k ∧ Bld wr 80 Bb b (l ++ spaced (ws.take k)) ∧ Below Bb w wr ∧ Spares b w wr) (fun i _ => n - (intOf i).toNat)
  case atStart => exact ⟨0, Nat.zero_le _, rfl, by simpa [spaced] using Hb.out, Below.refl _ _, Spares.refl _ _⟩
  case round =>
    obtain ⟨k, hk, rfl, hbd, hbr, hsp⟩ := hrel
    have Hbd := hide hbd
    have Hsp := hide hsp
    have hBr := Nat.le_trans hBw hbr.size
    have hlen : (l ++ spaced (ws.take k)).length ≤ 60000000000 := by
      have := spaced_len (ws.take k) (fun x hx => Hok.out x (List.mem_of_mem_take hx))
      simp only [List.length_append, List.length_take] at this ⊢
      omega
    clear hbd hsp
    by_cases hlt : k < n
    · obtain ⟨x, hx⟩ : ∃ x, ws[k]? = some x := ⟨_, List.getElem?_eq_getElem (by rw [← hn'.out]; exact hlt)⟩
      have hxok := Hok.out x (mem_of_get hx)
      have hcell := ((Hsp.out _ _ _ hgb (by decide) Hg.out).cell k).trans (Hcs.out k x hx)
      have Hx := hide hx
      have Hxok := hide hxok
      clear hx hxok
      have hta1 := assert_ss
      have hta2 := assert_is
      have hta3 := assert_ii
      cases x with
      | str s =>
        simp only [Word.val] at hcell
        have hsl : s.size ≤ 1000000 := Hxok.out
        by_cases hk0 : k = 0
        · subst hk0
          go_wp2_with fail
          refine (writeString_any _ textType Bb b _ s _ Hbd.out (by omega) (by omega) hBr).mono ?_
          rintro e w1 ⟨rfl, hb1, hbe1, hs1⟩
          have Hb1 := hide (show Bld w1 80 Bb b (l ++ spaced (ws.take 1)) by
            rw [take_snoc' Hx.out]; simpa [spaced, Word.bytes] using hb1)
          have Hs1 := hide (Hsp.out.trans hs1)
          clear hb1 hs1 hta1 hta2 hta3
          go_wp2_with fail
          go_roundw
          case rel => exact ⟨1, by omega, rfl, Hb1.out, hbr.trans hbe1, Hs1.out⟩
          case measure => simp [intOf]; omega
        · go_wp2_with fail
          refine (writeByte_any _ textType Bb b _ 32 32 _ rfl Hbd.out (by omega) hBr).mono ?_
          rintro e w0 ⟨rfl, hb0, hbe0, hs0⟩
          have Hb0 := hide hb0
          have Hs0 := hide (Hsp.out.trans hs0)
          have hBr0 := Nat.le_trans hBr hbe0.size
          have hbr0 := hide (hbr.trans hbe0)
          clear hb0 hs0 hbe0 hcell
          go_wp2_with fail
          refine (writeString_any _ textType Bb b _ s _ Hb0.out (by simp only [List.length_append, List.length_singleton] at hlen ⊢; omega) (by omega) hBr0).mono ?_
          rintro e w1 ⟨rfl, hb1, hbe1, hs1⟩
          have Hb1 := hide (show Bld w1 80 Bb b (l ++ spaced (ws.take (k + 1))) by
            rw [take_snoc' Hx.out, spaced_snoc, if_neg (by intro h9; have h8 := congrArg List.length h9; simp only [List.length_take, List.length_nil] at h8; have := hn'.out; omega)]
            simpa [Word.bytes] using hb1)
          have Hs1 := hide (Hs0.out.trans hs1)
          have hbr1 := hide (hbr0.out.trans hbe1)
          clear hb1 hs1 hta1 hta2 hta3 hbe1
          go_wp2_with fail
          go_roundw
          case rel => exact ⟨k + 1, by omega, by go_num, Hb1.out, hbr1.out, Hs1.out⟩
          case measure => simp [intOf]; omega
      | num m =>
        simp only [Word.val] at hcell
        obtain ⟨hm0, hm1⟩ := Hxok.out
        have hit := Lib.itoa_length_le m hm0 hm1
        by_cases hk0 : k = 0
        · subst hk0
          go_wp2_with fail
          have Htr := hide ((Ht.out.carry (hbr.mono hBB)).carry (Below.drew (Below.refl B wr)))
          clear hcell hta1 hta2 hta3
          go_region_with (first
            | (go_at_call 12; refine (itoa_any m _ Htr.out hm0 hm1).mono ?_; rintro e w1 ⟨rfl, hb1⟩)
            | (go_at_call 49; refine (writeString_any _ textType Bb b _ ⟨(Lib.itoa m).toArray⟩ _ (IsBuilder.keep (show Bld wr.drew _ _ _ _ from Hbd.out) hb1) (by omega) (by simp only [ByteArray.size, List.size_toArray]; omega) (Nat.le_trans hBr hb1.size)).mono ?_; rintro e w2 ⟨rfl, hb2, hbe2, hs2⟩))
          have Hb2 := hide (show Bld w2 80 Bb b (l ++ spaced (ws.take 1)) by
            rw [take_snoc' Hx.out]; simpa [spaced, Word.bytes] using hb2)
          have Hs2 := hide ((((Hsp.out.keep (Below.drew (Below.refl _ _))).keep hb1)).trans hs2)
          have hbr2 := hide (((hbr.drew).trans (hb1.mono hBr)).trans hbe2)
          clear hb2 hs2 hbe2 hb1
          go_wp2_with fail
          go_roundw
          case rel => exact ⟨1, by omega, rfl, Hb2.out, hbr2.out, Hs2.out⟩
          case measure => simp [intOf]; omega
        · go_wp2_with fail
          refine (writeByte_any _ textType Bb b _ 32 32 _ rfl Hbd.out (by omega) hBr).mono ?_
          rintro e w0 ⟨rfl, hb0, hbe0, hs0⟩
          have Hb0 := hide hb0
          have Hs0 := hide (Hsp.out.trans hs0)
          have hBr0 := Nat.le_trans hBr hbe0.size
          have hbr0 := hide (hbr.trans hbe0)
          clear hb0 hs0 hbe0 hcell
          go_wp2_with fail
          have Htr := hide ((Ht.out.carry (hbr0.out.mono hBB)).carry (Below.drew (Below.refl B w0)))
          clear hta1 hta2 hta3
          go_region_with (first
            | (go_at_call 12; refine (itoa_any m _ Htr.out hm0 hm1).mono ?_; rintro e w1 ⟨rfl, hb1⟩)
            | (go_at_call 49; refine (writeString_any _ textType Bb b _ ⟨(Lib.itoa m).toArray⟩ _ (IsBuilder.keep (show Bld w0.drew _ _ _ _ from Hb0.out) hb1) (by simp only [List.length_append, List.length_singleton] at hlen ⊢; omega) (by simp only [ByteArray.size, List.size_toArray]; omega) (Nat.le_trans hBr0 hb1.size)).mono ?_; rintro e w2 ⟨rfl, hb2, hbe2, hs2⟩))
          have Hb2 := hide (show Bld w2 80 Bb b (l ++ spaced (ws.take (k + 1))) by
            rw [take_snoc' Hx.out, spaced_snoc, if_neg (by intro h9; have h8 := congrArg List.length h9; simp only [List.length_take, List.length_nil] at h8; have := hn'.out; omega)]
            simpa [Word.bytes] using hb2)
          have Hs2 := hide ((((Hs0.out.keep (Below.drew (Below.refl _ _))).keep hb1)).trans hs2)
          have hbr2 := hide (((hbr0.out.drew).trans (hb1.mono hBr0)).trans hbe2)
          clear hb2 hs2 hbe2 hb1
          go_wp2_with fail
          go_roundw
          case rel => exact ⟨k + 1, by omega, by go_num, Hb2.out, hbr2.out, Hs2.out⟩
          case measure => simp [intOf]; omega
    · obtain rfl : k = n := by omega
      have Hb2 := hide (show Bld wr 80 Bb b (l ++ spaced ws) by
        have h9 := Hbd.out
        rwa [List.take_of_length_le (by rw [hn'.out]; exact Nat.le_refl _)] at h9)
      go_wp2_with fail
      refine (writeByte_any _ textType Bb b _ 10 10 _ rfl Hb2.out (by
        have h9 := hlen
        rw [List.take_of_length_le (by rw [hn'.out]; exact Nat.le_refl _)] at h9
        omega) hBr).mono ?_
      rintro e w0 ⟨rfl, hb0, hbe0, hs0⟩
      have Hb0 := hide hb0
      have Hs0 := hide (Hsp.out.trans hs0)
      clear hb0 hs0
      go_wp2_with fail
      go_end0
      exact ⟨rfl, by simpa [lineBytes] using Hb0.out, hbr.trans hbe0, Hs0.out⟩
end Go.Proofs.YtkmpddaobncheaaGreatDoor
namespace Go.Proofs.YtkmpddaobncheaaGreatDoor
open Go.RowKit

def wSize : ByteArray := ⟨#[115, 105, 122, 101]⟩
def wBars : ByteArray := ⟨#[98, 97, 114, 115]⟩
def wMass : ByteArray := ⟨#[109, 97, 115, 115]⟩
def wAll : ByteArray := ⟨#[97, 108, 108]⟩
def sizeWords (l : List BarD) (p : Int × Int) : List Word := [.str wSize, .num p.1, .str wBars, .num (sumOf BarD.count l p.1), .str wMass, .num p.2]
def allWords (l : List BarD) : List Word := [.str wAll, .str wBars, .num (sumCount l), .str wMass, .num (total (massList l))]
def sizeLines (l : List BarD) (ms : List (Int × Int)) : List UInt8 := ms.flatMap fun p => lineBytes (sizeWords l p)
/-- The report of a valid schedule. -/
def steelText (l : List BarD) : List UInt8 := sizeLines l (massSteps l steelSizes) ++ lineBytes (allWords l)

theorem fresh_text (w : World) : Bld (w.alloc (.cells #[.pointer none, .slice none 0 0] 80)) 80 w.heap.size w.heap.size [] :=
  .inl ⟨Nat.le_refl _, .slice none 0 0, heap_alloc_new w _, World.ownsRow_nil _ _ _ _, by simp [Value.ownBlock]⟩
theorem sumCount_range {l : List BarD} (h : ∀ x ∈ l, barOk x = true) : 0 ≤ sumCount l ∧ sumCount l ≤ 1000 * l.length := by
  have := foldl_range (fun s (x : BarD) => s + x.count) 1000 l (fun s x hx => by
    have := (barGood_of (h x hx)).count
    omega) 0
  unfold sumCount
  omega
theorem sumOfCount_range {l : List BarD} (h : ∀ x ∈ l, barOk x = true) (d : Int) : 0 ≤ sumOf BarD.count l d ∧ sumOf BarD.count l d ≤ 1000 * l.length := by
  have := foldl_range (fun s (x : BarD) => if x.size = d then s + x.count else s) 1000 l (fun s x hx => by
    have := (barGood_of (h x hx)).count
    split <;> omega) 0
  unfold sumOf
  omega
theorem total_range {l : List BarD} (hok : schedOk l = true) : 0 ≤ total (massList l) ∧ total (massList l) ≤ 3000000000000 := by
  have h60 := schedOk_len hok
  have := foldl_range (fun s (n : Int) => s + n) 318000000000 (massList l) (fun s m hm => by
    obtain ⟨d, _, rfl⟩ := List.mem_map.1 hm
    have := sumMass_range (schedOk_mem hok) d
    omega) 0
  have hl : (massList l).length = 9 := by simp [massList, steelSizes]
  rw [hl] at this
  unfold total
  omega
theorem steps_mem {l : List BarD} {ds : List Int} {p : Int × Int} (h : p ∈ massSteps l ds) : p.1 ∈ ds ∧ p.2 = sumOf lineMass l p.1 := by
  unfold massSteps at h
  obtain ⟨d, hd, rfl⟩ := List.mem_map.1 h
  exact ⟨(List.mem_filter.1 hd).1, rfl⟩
theorem sizeLines_snoc (l : List BarD) (ms : List (Int × Int)) (p : Int × Int) : sizeLines l (ms ++ [p]) = sizeLines l ms ++ lineBytes (sizeWords l p) := by
  simp [sizeLines, List.flatMap_append]
theorem lineBytes_len {l : List Word} (h : ∀ x ∈ l, x.ok) : (lineBytes l).length ≤ 1000001 * l.length + 1 := by
  have := spaced_len l h
  simp [lineBytes]; omega

theorem sizeWords_ok {l : List BarD} (hok : schedOk l = true) {p : Int × Int} (hp : p ∈ massSteps l steelSizes) : ∀ x ∈ sizeWords l p, x.ok := by
  obtain ⟨h1, h2⟩ := steps_mem hp
  have h60 := schedOk_len hok
  have hm := sumMass_range (schedOk_mem hok) p.1
  have hc := sumOfCount_range (schedOk_mem hok) p.1
  have hd : 6 ≤ p.1 ∧ p.1 ≤ 40 := by simp [steelSizes] at h1; omega
  intro x hx
  simp [sizeWords] at hx
  rcases hx with rfl | rfl | rfl | rfl | rfl | rfl
  · simp [Word.ok, wSize, ByteArray.size]
  · simp only [Word.ok]; omega
  · simp [Word.ok, wBars, ByteArray.size]
  · simp only [Word.ok]; omega
  · simp [Word.ok, wMass, ByteArray.size]
  · simp only [Word.ok]; omega
theorem allWords_ok {l : List BarD} (hok : schedOk l = true) : ∀ x ∈ allWords l, x.ok := by
  have h60 := schedOk_len hok
  have hm := total_range hok
  have hc := sumCount_range (schedOk_mem hok)
  intro x hx
  simp [allWords] at hx
  rcases hx with rfl | rfl | rfl | rfl | rfl
  · simp [Word.ok, wAll, ByteArray.size]
  · simp [Word.ok, wBars, ByteArray.size]
  · simp only [Word.ok]; omega
  · simp [Word.ok, wMass, ByteArray.size]
  · simp only [Word.ok]; omega
theorem sizeLines_len {l : List BarD} (hok : schedOk l = true) : ∀ (ms : List (Int × Int)), (∀ p ∈ ms, p ∈ massSteps l steelSizes) → (sizeLines l ms).length ≤ 6000007 * ms.length := by
  intro ms
  induction ms with
  | nil => intro _; simp [sizeLines]
  | cons p r ih =>
    intro h
    have h1 := lineBytes_len (sizeWords_ok hok (h p (List.mem_cons_self ..)))
    have h2 := ih (fun q hq => h q (List.mem_cons_of_mem _ hq))
    have h3 : (sizeWords l p).length = 6 := rfl
    simp only [sizeLines, List.flatMap_cons, List.length_append, List.length_cons] at h2 ⊢
    omega
theorem massSteps_len (l : List BarD) : (massSteps l steelSizes).length ≤ 9 := by
  unfold massSteps
  rw [List.length_map]
  exact List.length_filter_le _ _

set_option maxHeartbeats 4000000 in
set_option maxRecDepth 100000 in
theorem repSteel_ok (A : Option Addr) (l : List BarD) (n c : Nat) (w : World) {B : Nat} (h : BarsAt w B A l) (hB : B ≤ w.heap.size) (hn : n = l.length) (hg : Tame l) (hok : schedOk l = true) (ht : TB B w) :
    Calls Tryz.prog 17 #[.slice A n c] w fun e w' => e = .returned (.tuple #[.string ⟨(steelText l).toArray⟩, .int .i64 0]) ∧ Below w.heap.size w w' := by
  have hn' := hide hn
  have Hg := hide hg
  have hms9 := massSteps_len l
  have hm : n ≤ 60 := by have := schedOk_len hok; omega
  have Hok := hide hok
  have Hmem := hide (schedOk_mem hok)
  have hq1 := hide (show qVal (schedOk l) (total (massList l)) = total (massList l) by rw [hok]; rfl)
  have hq2 := hide (show qErr (schedOk l) 1 = 0 by rw [hok]; rfl)
  have hq3 := hide (show qVal (schedOk l) (sumCount l) = sumCount l by rw [hok]; rfl)
  have Ht := hide ht
  clear hn hg hok ht
  go_enter Tryz.func17, Tryz.ntmps17
  go_wp2_with fail
  refine (quantMasses_ok A l n c _ h hB hn'.out Hg.out Hok.out).mono ?_
  rintro e w1 ⟨M, mc, rfl, hM, hb1⟩
  have h1 := hide (h.carry (hb1.mono hB) (Nat.le_refl _))
  have hB1 := Nat.le_trans hB hb1.size
  have HM := hide hM
  have Hb1 := hide hb1
  clear h hM hb1
  go_wp2_with fail
  refine (quantTotal_any A l n c _ h1.out hB1 hn'.out Hg.out (by omega)).mono ?_
  rintro e w2 ⟨rfl, hb2⟩
  rw [hq1.out, hq2.out]
  have h2 := hide (h1.out.carry (hb2.mono hB1) (Nat.le_refl _))
  have hB2 := Nat.le_trans hB1 hb2.size
  have HM2 := hide (SlOf.carry (Flat.carried _) HM.out hb2 (Nat.le_refl _))
  have Hb2 := hide (below_step Hb1.out hb2 (Nat.le_refl _))
  have hm2 := hb2.size
  clear hb2 h1 HM Hb1
  go_wp2_with fail
  refine (schedTotal_any A l n c _ h2.out hB2 hn'.out Hg.out (by omega)).mono ?_
  rintro e w3 ⟨rfl, hb3⟩
  rw [hq3.out, hq2.out]
  have h3 := hide (h2.out.carry (hb3.mono hB2) (Nat.le_refl _))
  have hB3 := Nat.le_trans hB2 hb3.size
  have HM3 := hide (SlOf.carry (Flat.carried _) HM2.out (hb3.mono hm2) (Nat.le_trans hm2 hb3.size))
  have Hb3 := hide (below_step Hb2.out hb3 (Nat.le_refl _))
  have Ht3 := hide (Ht.out.carry (Hb3.out.mono hB))
  have Hbd := hide (fresh_text w3)
  clear hb3 h2 HM2 Hb2 hq1 hq2 hq3 hm2
  go_wp2_with fail
  have hbt := hide (below_new w3 (.cells #[.pointer none, .slice none 0 0] 80))
  go_loopw [40] (fun i wr => ∃ k : Nat, k ≤ (massSteps l steelSizes).length ∧ i = .int .i64 k ∧ Bld wr 80 w3.heap.size w3.heap.size (sizeLines l ((massSteps l steelSizes).take k)) ∧ Below w3.heap.size w3 wr) (fun i _ => (massSteps l steelSizes).length - (intOf i).toNat)
  case atStart => exact ⟨0, Nat.zero_le _, rfl, Hbd.out, hbt.out⟩
  case round =>
    clear Hbd hbt
    obtain ⟨k, hk, rfl, hbd, hbr⟩ := hrel
    have Hbd := hide hbd
    have hBr := hbr.size
    clear hbd
    by_cases hlt : k < (massSteps l steelSizes).length
    · obtain ⟨b, off, ⟨d, m⟩, vs, hMM, hbl, hx, _, hr, hc⟩ := HM3.out.at_ (k := k) hlt
      have hr' : vs = encStep (d, m) := hr
      subst hr'
      subst hMM
      have hc0 := (hbr.cell (p := ⟨b, off + k * 2, none⟩) hbl).trans (by simpa using hc 0 _ rfl)
      have hc1 := (hbr.cell (p := ⟨b, off + k * 2 + 1, none⟩) hbl).trans (by simpa using hc 1 _ rfl)
      have Hx := hide hx
      clear hc hr
      have hmd := steps_mem (mem_of_get hx)
      obtain ⟨hm1, hm2⟩ := hmd
      simp only at hm1 hm2
      have Hm2 := hide hm2
      have hmr := sumMass_range Hmem.out d
      have hdr : 6 ≤ d ∧ d ≤ 40 := by simp [steelSizes] at hm1; omega
      have hl60 : l.length ≤ 60 := by rw [← hn'.out]; exact hm
      have Hok' := hide (show -9223372036854775808 ≤ m ∧ m ≤ 9223372036854775807 by omega)
      clear hm1 hm2 hx
      go_wp2_with fail
      obtain ⟨wo, rfl⟩ : ∃ wo : World, wo = wr := ⟨_, rfl⟩
      have B4 := hide (Blk.new wo 112 #[.int .i64 d, .int .i64 m])
      have Hbd4 := hide (IsBuilder.keep Hbd.out (below_new wo (.cells #[.int .i64 d, .int .i64 m] 112)))
      have hb4 := hide (hbr.alloc hBr (.cells #[.int .i64 d, .int .i64 m] 112))
      have hsz4 : wo.heap.size < (wo.alloc (.cells #[.int .i64 d, .int .i64 m] 112)).heap.size := B4.out.lt
      clear hc0 hc1
      generalize wo.alloc (.cells #[.int .i64 d, .int .i64 m] 112) = w4 at *
      have hB4 := Nat.le_trans hB3 hb4.out.size
      go_loopw [11, 46] (fun s i wi => ∃ j : Nat, j ≤ n ∧ i = .int .i64 j ∧ (∃ t : Int, 0 ≤ t ∧ t ≤ 1000 * j ∧ s = .int .i64 t ∧ Hid (t = sumOf BarD.count (l.take j) d)) ∧ Below w4.heap.size w4 wi) (fun _ i _ => n - (intOf i).toNat)
      case atStart => exact ⟨0, Nat.zero_le _, rfl, ⟨0, by omega, by omega, rfl, hide rfl⟩, Below.refl _ _⟩
      case round =>
        obtain ⟨j, hj, rfl, ⟨t, ht0, ht1, rfl, ht⟩, hbi⟩ := hrel
        by_cases hjt : j < n
        · obtain ⟨b2, off2, x, A', c', hA, hbl2, hx2, hi2, e0, e1, e2, e3, e4⟩ := BarsAt.get (k := j) (h3.out.carry ((hb4.out.trans (hbi.mono hb4.out.size)).mono hB3) (Nat.le_refl _)) (by rw [← hn'.out]; exact hjt)
          obtain ⟨hx0, hx1⟩ := (barGood_of (Hmem.out x (mem_of_get hx2))).count
          have Hx2 := hide hx2
          have cs0 := (B4.out.keep hbi).cell 0
          simp at cs0
          have hlt4 : wo.heap.size < wr.heap.size := Nat.lt_of_lt_of_le hsz4 hbi.size
          subst hA
          clear hx2 hi2 hbl2
          by_cases hxd : x.size = d
          · have hq : (x.size == d) = true := by simpa using hxd
            have Hxd := hide hxd
            clear hxd
            go_wp2_with fail
            go_roundw
            case rel => exact ⟨j + 1, by omega, by go_num, ⟨t + x.count, by omega, by omega, rfl, hide (by rw [take_snoc' Hx2.out, sumOf_snoc, if_pos Hxd.out, ← ht.out])⟩, hbi.alloc hbi.size _⟩
            case measure => simp [intOf]; omega
          · have hq : (x.size == d) = false := by simpa using hxd
            have Hxd := hide hxd
            clear hxd
            go_wp2_with fail
            go_roundw
            case rel => exact ⟨j + 1, by omega, by go_num, ⟨t, by omega, by omega, rfl, hide (by rw [take_snoc' Hx2.out, sumOf_snoc, if_neg Hxd.out, ← ht.out])⟩, hbi.alloc hbi.size _⟩
            case measure => simp [intOf]; omega
        · obtain rfl : j = n := by omega
          have ht' := hide (show t = sumOf BarD.count l d by rw [ht.out, hn'.out, List.take_length])
          have B5 := hide (B4.out.keep hbi)
          have cs0 := B5.out.cell 0
          have cs1 := B5.out.cell 1
          simp at cs0 cs1
          have Hbd5 := hide (IsBuilder.keep Hbd4.out hbi)
          have hb5 := hide (hb4.out.trans (hbi.mono hb4.out.size))
          have Ht5 := hide (Ht3.out.carry (hb5.out.mono hB3))
          clear ht hbi B4 Hbd4 hb4 B5
          have hl9 := hide (show (sizeLines l ((massSteps l steelSizes).take k)).length ≤ 50000000000 by
            have h9 := sizeLines_len Hok.out ((massSteps l steelSizes).take k) (fun p hp => List.mem_of_mem_take hp)
            have h8 := massSteps_len l
            rw [List.length_take] at h9
            omega)
          have hwk := hide (show sizeWords l (d, m) = [.str wSize, .num d, .str wBars, .num t, .str wMass, .num m] by rw [ht'.out]; rfl)
          have hwok := hide (show ∀ x ∈ [Word.str wSize, .num d, .str wBars, .num t, .str wMass, .num m], x.ok by rw [← hwk.out]; exact sizeWords_ok Hok.out (mem_of_get Hx.out))
          go_wp2_with fail
          refine (line_any [.str wSize, .num d, .str wBars, .num t, .str wMass, .num m] wr.heap.size 6 6 _ B w3.heap.size w3.heap.size _ _ (IsBuilder.keep Hbd5.out (below_new wr _)) (le_alloc hb5.out.size _) hB3
            (Ht5.out.carry ((Below.refl B wr).alloc (Nat.le_trans hB3 hb5.out.size) _)) (Blk.new wr _ _) rfl ?_ hwok.out (by omega) hl9.out).mono ?_
          · intro i x hi
            rcases i with _ | _ | _ | _ | _ | _ | i <;> simp at hi <;> (try subst hi) <;> rfl
          rintro e w6 ⟨rfl, hb6, hbe6, _⟩
          have Hb6 := hide hb6
          clear hb6 cs0 cs1
          go_wp2_with fail
          go_roundw
          case rel => exact ⟨k + 1, by omega, by go_num, by rw [take_snoc' Hx.out, sizeLines_snoc, hwk.out]; exact Hb6.out, (hb5.out.alloc hb5.out.size _).trans hbe6⟩
          case measure => simp [intOf]; omega
    · obtain rfl : k = (massSteps l steelSizes).length := by omega
      have Ht5 := hide (Ht3.out.carry (hbr.mono hB3))
      have Hbd5 := hide (show Bld wr 80 w3.heap.size w3.heap.size (sizeLines l (massSteps l steelSizes)) by have h9 := Hbd.out; rwa [List.take_length] at h9)
      have hl9 := hide (show (sizeLines l (massSteps l steelSizes)).length ≤ 50000000000 by
            have h9 := sizeLines_len Hok.out (massSteps l steelSizes) (fun p hp => hp)
            have h8 := massSteps_len l
            omega)
      clear Hbd
      go_wp2_with fail
      refine (line_any (allWords l) wr.heap.size 5 5 _ B w3.heap.size w3.heap.size _ _ (IsBuilder.keep Hbd5.out (below_new wr _)) (le_alloc hBr _) hB3
            (Ht5.out.carry ((Below.refl B wr).alloc (Nat.le_trans hB3 hBr) _)) (Blk.new wr _ _) rfl ?_ (allWords_ok Hok.out) (by omega) hl9.out).mono ?_
      · intro i x hi
        simp only [allWords] at hi
        rcases i with _ | _ | _ | _ | _ | i <;> simp at hi <;> (try subst hi) <;> rfl
      rintro e w6 ⟨rfl, hb6, hbe6, _⟩
      have Hb6 := hide hb6
      have hb36 := hide ((hbr.alloc hBr _).trans hbe6)
      clear hb6 hbe6
      go_wp2_with fail
      refine (builderString_some 80 w3.heap.size w3.heap.size _ _ Hb6.out (by simp [lineBytes])).mono ?_
      rintro e w7 ⟨rfl, hb7⟩
      go_wp2_with fail
      go_ret2
      exact ⟨rfl, below_step Hb3.out (hb36.out.trans hb7) (Nat.le_refl _)⟩
end Go.Proofs.YtkmpddaobncheaaGreatDoor
namespace Go.Proofs.YtkmpddaobncheaaGreatDoor
open Go.RowKit

set_option maxHeartbeats 400000 in
theorem indexFuncFin_any (A : Option Addr) (l : List FinD) (n c : Nat) (fid : FuncId) (p : FinD → Bool) (w : World) {B : Nat} (h : FinsAt w B A l) (hB : B ≤ w.heap.size) (hn : n = l.length) (hm : n ≤ 300000)
    (hc : ∀ args w, (callFunc fid args).run Tryz.prog w = .ok (.enter fid args) w)
    (hf : ∀ x (W : World), x ∈ l → Calls Tryz.prog fid #[.agg #[.int .i64 x.kind, .string x.name]] W fun e W' => e = .returned (.bool (p x)) ∧ Below W.heap.size W W') :
    Calls Tryz.prog 72 #[.slice A n c, .func (.func fid) #[] #[]] w fun e w' => e = .returned (.int .i64 (idx p l)) ∧ Below w.heap.size w w' := by
  have Hf := hide hf
  have hn' := hide hn
  have Hs := hide h
  clear hf hn h
  go_enter Tryz.func72, Tryz.ntmps72
  go_wp2_with fail
  go_loopw [8] (fun i wr => ∃ k : Nat, k ≤ n ∧ i = .int .i64 k ∧ NoneTo p l k ∧ Below w.heap.size w wr) (fun i _ => n - (intOf i).toNat)
  case atStart => exact ⟨0, Nat.zero_le _, rfl, NoneTo.zero _ _, Below.refl _ _⟩
  case round =>
    obtain ⟨k, hk, rfl, hw, hb⟩ := hrel
    by_cases hlt : k < n
    · obtain ⟨b, off, x, rfl, hbl, hx, h0, h1⟩ := FinsAt.get (k := k) (SlOf.carry (Flat.carried _) Hs.out (hb.mono hB) (Nat.le_refl _)) (by rw [← hn'.out]; exact hlt)
      have Hx := hide hx
      clear hx hbl
      go_wp2_with fail
      refine (Hf.out x _ (mem_of_get Hx.out)).mono ?_
      rintro e w1 ⟨rfl, hb1⟩
      clear h0 h1
      have hb2 := below_step hb hb1 (Nat.le_refl _)
      cases hp : p x
      · have Hp := hide hp
        clear hp
        go_wp2_with fail
        go_roundw
        case rel => exact ⟨k + 1, by omega, by go_num, hw.succ Hx.out Hp.out, hb2⟩
        case measure => simp [intOf]; omega
      · have Hp := hide hp
        clear hp
        go_wp2_with fail
        go_ret
        exact ⟨ret_int (hw.hit Hx.out Hp.out).symm, hb2⟩
    · obtain rfl : k = n := by omega
      go_wp2_with fail
      go_ret
      exact ⟨ret_int (NoneTo.miss (by rw [← hn'.out]; exact hw)).symm, hb⟩

set_option maxHeartbeats 400000 in
theorem containsFuncFin_any (A : Option Addr) (l : List FinD) (n c : Nat) (fid : FuncId) (p : FinD → Bool) (w : World) {B : Nat} (h : FinsAt w B A l) (hB : B ≤ w.heap.size) (hn : n = l.length) (hm : n ≤ 300000)
    (hc : ∀ args w, (callFunc fid args).run Tryz.prog w = .ok (.enter fid args) w)
    (hf : ∀ x (W : World), x ∈ l → Calls Tryz.prog fid #[.agg #[.int .i64 x.kind, .string x.name]] W fun e W' => e = .returned (.bool (p x)) ∧ Below W.heap.size W W') :
    Calls Tryz.prog 44 #[.slice A n c, .func (.func fid) #[] #[]] w fun e w' => e = .returned (.bool (anyOf p l)) ∧ Below w.heap.size w w' := by
  have Hf := hide hf
  have hn' := hide hn
  have Hc := hide hc
  clear hf hn hc
  go_enter Tryz.func44, Tryz.ntmps44
  go_wp2_with fail
  refine (indexFuncFin_any A l n c fid p w h hB hn'.out hm Hc.out Hf.out).mono ?_
  rintro e w1 ⟨rfl, hb⟩
  go_wp2_with fail
  go_ret
  exact ⟨ret_bool (by rw [idx_any]; rfl), hb⟩

def finBad (x : FinD) : Bool := decide (x.kind < 0) || decide (1000000 < x.kind) || !isName x.name
set_option maxHeartbeats 1000000 in
theorem findings1_any (x : FinD) (w : World) (hm : x.name.size ≤ maxLen) :
    Calls Tryz.prog 45 #[.agg #[.int .i64 x.kind, .string x.name]] w fun e w' => e = .returned (.bool (finBad x)) ∧ Below w.heap.size w w' := by
  obtain ⟨kind, name⟩ := x
  simp only at hm ⊢
  by_cases h0 : kind < 0
  · have hf := hide (show finBad ⟨kind, name⟩ = true by simp [finBad, h0])
    have d0 : decide (kind < 0) = true := by simpa using h0
    clear h0
    go_enter Tryz.func45, Tryz.ntmps45
    go_wp2_with fail
    go_ret
    exact ⟨ret_bool hf.out.symm, below_new _ _⟩
  by_cases h1 : 1000000 < kind
  · have hf := hide (show finBad ⟨kind, name⟩ = true by simp [finBad, h1])
    have d0 : decide (kind < 0) = false := by simpa using h0
    have d1 : decide (1000000 < kind) = true := by simpa using h1
    clear h0 h1
    go_enter Tryz.func45, Tryz.ntmps45
    go_wp2_with fail
    go_ret
    exact ⟨ret_bool hf.out.symm, below_new _ _⟩
  have hf := hide (show finBad ⟨kind, name⟩ = !isName name by simp [finBad, h0, h1])
  have d0 : decide (kind < 0) = false := by simpa using h0
  have d1 : decide (1000000 < kind) = false := by simpa using h1
  clear h0 h1
  go_enter Tryz.func45, Tryz.ntmps45
  go_wp2_with (go_at_call 46; refine (isName_any _ _ hm).mono ?_; rintro e w' ⟨rfl, rfl⟩)
  go_ret
  exact ⟨ret_bool hf.out.symm, below_new _ _⟩

def finWords (x : FinD) : List Word := [.num x.kind, .str x.name]
def finLines (l : List FinD) : List UInt8 := l.flatMap fun x => lineBytes (finWords x)
theorem finLines_snoc (l : List FinD) (x : FinD) : finLines (l ++ [x]) = finLines l ++ lineBytes (finWords x) := by simp [finLines]
theorem finGood {x : FinD} (h : finBad x = false) : (0 ≤ x.kind ∧ x.kind ≤ 1000000) ∧ x.name.size ≤ 20 := by
  simp only [finBad, Bool.or_eq_false_iff, decide_eq_false_iff_not, Bool.not_eq_false'] at h
  obtain ⟨⟨h0, h1⟩, h2⟩ := h
  simp only [isName, Bool.and_eq_true, decide_eq_true_eq] at h2
  refine ⟨by omega, ?_⟩
  omega

theorem finWords_ok {x : FinD} (h : finBad x = false) : ∀ y ∈ finWords x, y.ok := by
  obtain ⟨h0, h1⟩ := finGood h
  intro y hy
  simp [finWords] at hy
  rcases hy with rfl | rfl <;> simp [Word.ok] <;> omega
theorem finLines_len : ∀ (l : List FinD), (∀ x ∈ l, finBad x = false) → (finLines l).length ≤ 2000003 * l.length := by
  intro l
  induction l with
  | nil => intro _; simp [finLines]
  | cons y r ih =>
    intro h
    have h1 := spaced_len (finWords y) (finWords_ok (h y (List.mem_cons_self ..)))
    have h2 := ih (fun x hx => h x (List.mem_cons_of_mem _ hx))
    simp only [finLines, List.flatMap_cons, List.length_append, lineBytes, List.length_cons, finWords, List.length_nil] at h1 h2 ⊢
    omega

set_option maxHeartbeats 4000000 in
set_option maxRecDepth 100000 in
theorem repFindings_ok (A : Option Addr) (l : List FinD) (n c : Nat) (w : World) {B : Nat} (h : FinsAt w B A l) (hB : B ≤ w.heap.size) (hn : n = l.length) (hm : n ≤ 1000) (hne : l ≠ []) (hok : ∀ x ∈ l, finBad x = false) (ht : TB B w) :
    Calls Tryz.prog 18 #[.slice A n c] w fun e w' => e = .returned (.tuple #[.string ⟨(finLines l).toArray⟩, .int .i64 0]) ∧ Below w.heap.size w w' := by
  have hn' := hide hn
  have Hok := hide hok
  have Ht := hide ht
  have Hs := hide h
  have Hne := hide hne
  have Hc := hide (show anyOf finBad l = false by
    rw [anyOf, List.any_eq_false]
    intro x hx
    rw [hok x hx]
    simp)
  clear hn hok ht h hne
  go_enter Tryz.func18, Tryz.ntmps18
  go_wp2_with fail
  refine (containsFuncFin_any A l n c 45 finBad w Hs.out hB hn'.out (by omega) Tryz.call45 (fun x W hx => findings1_any x W (by have := (finGood (Hok.out x hx)).2; unfold maxLen; omega))).mono ?_
  rintro e w3 ⟨rfl, hb3⟩
  rw [Hc.out]
  have hB3 := Nat.le_trans hB hb3.size
  have Hb3 := hide hb3
  have Ht3 := hide (Ht.out.carry (Hb3.out.mono hB))
  have HM3 := hide (SlOf.carry (Flat.carried _) Hs.out (hb3.mono hB) (Nat.le_refl B))
  have Hbd := hide (fresh_text w3)
  clear hb3
  go_wp2_with fail
  have hbt := hide (below_new w3 (.cells #[.pointer none, .slice none 0 0] 80))
  go_loopw [16] (fun i wr => ∃ k : Nat, k ≤ n ∧ i = .int .i64 k ∧ Bld wr 80 w3.heap.size w3.heap.size (finLines (l.take k)) ∧ Below w3.heap.size w3 wr) (fun i _ => n - (intOf i).toNat)
  case atStart => exact ⟨0, Nat.zero_le _, rfl, Hbd.out, hbt.out⟩
  case round =>
    clear Hbd hbt
    obtain ⟨k, hk, rfl, hbd, hbr⟩ := hrel
    have Hbd := hide hbd
    have hBr := hbr.size
    clear hbd
    by_cases hlt : k < n
    · obtain ⟨b, off, x, hA, hbl, hx, hc0, hc1⟩ := FinsAt.get (k := k) (SlOf.carry (Flat.carried _) HM3.out (hbr.mono hB3) (Nat.le_refl B)) (by rw [← hn'.out]; exact hlt)
      subst hA
      have Hx := hide hx
      have hxo := Hok.out x (mem_of_get hx)
      have Hwok := hide (finWords_ok hxo)
      have hl9 := hide (show (finLines (l.take k)).length ≤ 50000000000 by
        have h9 := finLines_len (l.take k) (fun p hp => Hok.out p (List.mem_of_mem_take hp))
        rw [List.length_take] at h9
        omega)
      have Ht5 := hide (Ht3.out.carry (hbr.mono hB3))
      clear hx hxo hbl
      go_wp2_with fail
      refine (line_any (finWords x) (wr.heap.size + 1) 2 2 _ B w3.heap.size w3.heap.size _ _ (IsBuilder.keep Hbd.out (below_new2 wr _ _)) (le_alloc (le_alloc hBr _) _) hB3
        (Ht5.out.carry (((Below.refl B wr).alloc (Nat.le_trans hB3 hBr) _).alloc (le_alloc (Nat.le_trans hB3 hBr) _) _)) (Blk.new1 wr _ _ _) rfl ?_ Hwok.out (by omega) hl9.out).mono ?_
      · intro i y hi
        simp only [finWords] at hi
        rcases i with _ | _ | i <;> simp at hi <;> (try subst hi) <;> rfl
      rintro e w6 ⟨rfl, hb6, hbe6, _⟩
      have Hb6 := hide hb6
      clear hb6 hc0 hc1
      go_wp2_with fail
      go_roundw
      case rel => exact ⟨k + 1, by omega, by go_num, by rw [take_snoc' Hx.out, finLines_snoc]; exact Hb6.out, ((hbr.alloc hBr _).alloc (le_alloc hBr _) _).trans hbe6⟩
      case measure => simp [intOf]; omega
    · obtain rfl : k = n := by omega
      have Hbd5 := hide (show Bld wr 80 w3.heap.size w3.heap.size (finLines l) by have h9 := Hbd.out; rwa [hn'.out, List.take_length] at h9)
      have Hl0 := hide (show finLines l ≠ [] by
        cases h : l with
        | nil => exact absurd h Hne.out
        | cons y r => simp [finLines, lineBytes])
      clear Hbd
      go_wp2_with fail
      refine (builderString_some 80 w3.heap.size w3.heap.size _ _ Hbd5.out Hl0.out).mono ?_
      rintro e w7 ⟨rfl, hb7⟩
      go_wp2_with fail
      go_ret2
      exact ⟨rfl, below_step Hb3.out (hbr.trans hb7) (Nat.le_refl _)⟩
end Go.Proofs.YtkmpddaobncheaaGreatDoor
namespace Go.Proofs.YtkmpddaobncheaaGreatDoor
open Go.RowKit

def bar0 : BarD := ⟨⟨#[97]⟩, 10, 4, 0, [1000]⟩
def fin0 : FinD := ⟨3, ⟨#[97]⟩⟩
theorem bar0_ok : schedOk [bar0] = true := by decide +kernel
theorem fin0_ok : finBad fin0 = false := by decide +kernel
theorem itoa_small {n : Int} (h0 : 0 ≤ n) : Lib.itoa n = Lib.decDigits n.toNat := by
  obtain ⟨k, rfl⟩ := Int.eq_ofNat_of_zero_le h0
  rw [Lib.itoa_nonneg]
  rfl
theorem dd4 : Lib.decDigits 4 = [52] := Lib.decDigits_one (by omega)
theorem dd3 : Lib.decDigits 3 = [51] := Lib.decDigits_one (by omega)
theorem dd10 : Lib.decDigits 10 = [49, 48] := by
  rw [Lib.decDigits, dif_neg (by omega), show 10 / 10 = 1 from rfl, Lib.decDigits_one (by omega)]
  rfl
theorem dd2468 : Lib.decDigits 2468 = [50, 52, 54, 56] := by
  rw [Lib.decDigits, dif_neg (by omega), show 2468 / 10 = 246 from rfl, Lib.decDigits, dif_neg (by omega), show 246 / 10 = 24 from rfl, Lib.decDigits, dif_neg (by omega), show 24 / 10 = 2 from rfl, Lib.decDigits_one (by omega)]
  rfl
theorem steps0 : massSteps [bar0] steelSizes = [(10, 2468)] := by decide +kernel
theorem count0 : sumOf BarD.count [bar0] 10 = 4 := by decide +kernel
theorem all0 : sumCount [bar0] = 4 := by decide +kernel
theorem total0 : total (massList [bar0]) = 2468 := by decide +kernel
theorem text0 : (⟨(steelText [bar0]).toArray⟩ : ByteArray) = ⟨#[115, 105, 122, 101, 32, 49, 48, 32, 98, 97, 114, 115, 32, 52, 32, 109, 97, 115, 115, 32, 50, 52, 54, 56, 10, 97, 108, 108, 32, 98, 97, 114, 115, 32, 52, 32, 109, 97, 115, 115, 32, 50, 52, 54, 56, 10]⟩ := by
  rw [steelText, steps0]
  simp only [sizeLines, List.flatMap_cons, List.flatMap_nil, sizeWords, allWords, count0, all0, total0, lineBytes, spaced, Word.bytes, itoa_small (show (0:Int) ≤ 10 by omega), itoa_small (show (0:Int) ≤ 4 by omega), itoa_small (show (0:Int) ≤ 2468 by omega)]
  rw [show (10 : Int).toNat = 10 from rfl, show (4 : Int).toNat = 4 from rfl, show (2468 : Int).toNat = 2468 from rfl, dd10, dd4, dd2468]
  rfl
theorem ftext0 : (⟨(finLines [fin0]).toArray⟩ : ByteArray) = ⟨#[51, 32, 97, 10]⟩ := by
  simp only [finLines, List.flatMap_cons, List.flatMap_nil, finWords, lineBytes, spaced, Word.bytes, fin0, itoa_small (show (0:Int) ≤ 3 by omega)]
  rw [show (3 : Int).toNat = 3 from rfl, dd3]
  rfl

theorem TB.raise {B B' : Nat} {w : World} (h : TB B w) (hB : B ≤ B') : TB B' w := fun v hv => h v (hv.mono hB)

set_option maxHeartbeats 4000000 in
set_option maxRecDepth 100000 in
theorem awake_any (w : World) {B : Nat} (hB : B ≤ w.heap.size) (ht : TB B w) :
    Calls Tryz.prog 5 #[] w fun e w' => e = .returned (.bool true) ∧ Below w.heap.size w w' := by
  have hq1 := hide (show ((⟨#[115, 105, 122, 101, 32, 49, 48, 32, 98, 97, 114, 115, 32, 52, 32, 109, 97, 115, 115, 32, 50, 52, 54, 56, 10, 97, 108, 108, 32, 98, 97, 114, 115, 32, 52, 32, 109, 97, 115, 115, 32, 50, 52, 54, 56, 10]⟩ : ByteArray).toList == (⟨#[115, 105, 122, 101, 32, 49, 48, 32, 98, 97, 114, 115, 32, 52, 32, 109, 97, 115, 115, 32, 50, 52, 54, 56, 10, 97, 108, 108, 32, 98, 97, 114, 115, 32, 52, 32, 109, 97, 115, 115, 32, 50, 52, 54, 56, 10]⟩ : ByteArray).toList) = true by simp)
  have Ht := hide ht
  clear ht
  have hbars := hide (show BarsAt ((w.alloc (.cells #[.int .i64 1000] 3)).alloc (.cells #[.string ⟨#[97]⟩, .int .i64 10, .int .i64 4, .int .i64 0, .slice (some ⟨w.heap.size, 0, none⟩) 1 1] 68)) (w.heap.size + 2) (some ⟨w.heap.size + 1, 0, none⟩) [bar0] by
    have b0 := (Blk.new w 3 #[.int .i64 1000]).alloc (.cells #[.string ⟨#[97]⟩, .int .i64 10, .int .i64 4, .int .i64 0, .slice (some ⟨w.heap.size, 0, none⟩) 1 1] 68)
    have b1 := Blk.new1 w (.cells #[.int .i64 1000] 3) 68 #[.string ⟨#[97]⟩, .int .i64 10, .int .i64 4, .int .i64 0, .slice (some ⟨w.heap.size, 0, none⟩) 1 1]
    refine SlOf.of_row (xs := [.string ⟨#[97]⟩, .int .i64 10, .int .i64 4, .int .i64 0, .slice (some ⟨w.heap.size, 0, none⟩) 1 1]) (by omega) (fun j u hu => by rw [b1.cell j]; simpa using hu) ?_
    intro k x hx
    cases k with
    | zero =>
      simp at hx
      subst hx
      exact ⟨[.string ⟨#[97]⟩, .int .i64 10, .int .i64 4, .int .i64 0, .slice (some ⟨w.heap.size, 0, none⟩) 1 1], rfl, ⟨_, _, rfl, Ints.of_blk (l := [1000]) b0 (by omega)⟩, fun j v hj => by simpa using hj⟩
    | succ k => simp at hx)
  go_enter Tryz.func5, Tryz.ntmps5
  go_wp2_with fail
  refine (repSteel_ok _ [bar0] 1 1 _ hbars.out (by simp) rfl (by intro x hx; simp at hx; subst hx; exact ⟨by decide, by decide⟩) bar0_ok ?_).mono ?_
  · exact ((Ht.out.carry (((Below.refl B w).alloc hB _).alloc (le_alloc hB _) _)).raise (by omega))
  rintro e w1 ⟨rfl, hb1⟩
  rw [text0]
  have hw1 := hide (below_step (below_new2 w _ _) hb1 (Nat.le_refl _))
  have hBw := Nat.le_trans hB hw1.out.size
  have hfins := hide (show FinsAt (w1.alloc (.cells #[.int .i64 3, .string ⟨#[97]⟩] 71)) (w1.heap.size + 1) (some ⟨w1.heap.size, 0, none⟩) [fin0] from SlOf.lit encFin_len w1 71 #[.int .i64 3, .string ⟨#[97]⟩] [fin0] rfl (by omega))
  clear hb1
  go_wp2_with fail
  refine (repFindings_ok _ [fin0] 1 1 _ hfins.out (by simp) rfl (by omega) (by simp) (by intro x hx; simp at hx; subst hx; exact fin0_ok) ?_).mono ?_
  · exact ((Ht.out.carry ((hw1.out.mono hB).alloc hBw _)).raise (by omega))
  rintro e w2 ⟨rfl, hb2⟩
  rw [ftext0]
  have hw2 := hide (below_step (hw1.out.alloc hw1.out.size _) hb2 (Nat.le_refl _))
  clear hb2
  go_wp2_with fail
  go_ret
  exact ⟨rfl, hw2.out⟩
end Go.Proofs.YtkmpddaobncheaaGreatDoor
