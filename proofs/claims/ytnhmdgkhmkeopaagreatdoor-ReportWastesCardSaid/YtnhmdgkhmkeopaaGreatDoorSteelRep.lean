/- The report of a schedule. -/
import Derived.Test.YtnhmdgkhmkeopaaGreatDoorMasses
import Derived.Test.YtnhmdgkhmkeopaaGreatDoorLine
namespace Go.Proofs.YtnhmdgkhmkeopaaGreatDoor
open Go.RowKit

def wSize : ByteArray := ⟨#[115, 105, 122, 101]⟩
def wBars : ByteArray := ⟨#[98, 97, 114, 115]⟩
def wMass : ByteArray := ⟨#[109, 97, 115, 115]⟩
def wAll : ByteArray := ⟨#[97, 108, 108]⟩
def sizeWords (l : List BarD) (p : Int × Int) : List Word := [.str wSize, .num p.1, .str wBars, .num (sumOf BarD.count l p.1), .str wMass, .num p.2]
def allWords (l : List BarD) : List Word := [.str wAll, .str wBars, .num (sumCount l), .str wMass, .num (total (massList l))]
def sizeLines (l : List BarD) (ms : List (Int × Int)) : List UInt8 := ms.flatMap fun p => lineBytes (sizeWords l p)
/-- The report of a valid schedule. -/
def steelText (l : List BarD) : List UInt8 := sizeLines l (massSteps l steelSizes) ++ lineBytes (allWords l)

theorem fresh_text (w : World) : Bld (w.alloc (.cells #[.pointer none, .slice none 0 0] 76)) 76 w.heap.size w.heap.size [] :=
  .inl ⟨Nat.le_refl _, .slice none 0 0, heap_alloc_new w _, World.ownsRow_nil _ _ _ _, by simp [Value.ownBlock]⟩
theorem sumCount_range {l : List BarD} (h : ∀ x ∈ l, barOk x = true) : 0 ≤ sumCount l ∧ sumCount l ≤ 1000 * l.length := by
  have := foldl_range (fun s (x : BarD) => s + x.count) 1000 l (fun s x hx => by
    have := (barGood_of (h x hx)).count
    omega) 0
  unfold sumCount
  omega
theorem sumOfCount_range {l : List BarD} (h : ∀ x ∈ l, barOk x = true) (d : Int) : 0 ≤ sumOf BarD.count l d ∧ sumOf BarD.count l d ≤ 1000 * l.length := by
  have := foldl_range (fun s (x : BarD) => if x.size = d then s + x.count else s) 1000 l (fun s x hx => by
    have := (barGood_of (h x hx)).count
    split <;> omega) 0
  unfold sumOf
  omega
theorem total_range {l : List BarD} (hok : schedOk l = true) : 0 ≤ total (massList l) ∧ total (massList l) ≤ 3000000000000 := by
  have h60 := schedOk_len hok
  have := foldl_range (fun s (n : Int) => s + n) 318000000000 (massList l) (fun s m hm => by
    obtain ⟨d, _, rfl⟩ := List.mem_map.1 hm
    have := sumMass_range (schedOk_mem hok) d
    omega) 0
  have hl : (massList l).length = 9 := by simp [massList, steelSizes]
  rw [hl] at this
  unfold total
  omega
theorem steps_mem {l : List BarD} {ds : List Int} {p : Int × Int} (h : p ∈ massSteps l ds) : p.1 ∈ ds ∧ p.2 = sumOf lineMass l p.1 := by
  unfold massSteps at h
  obtain ⟨d, hd, rfl⟩ := List.mem_map.1 h
  exact ⟨(List.mem_filter.1 hd).1, rfl⟩
theorem sizeLines_snoc (l : List BarD) (ms : List (Int × Int)) (p : Int × Int) : sizeLines l (ms ++ [p]) = sizeLines l ms ++ lineBytes (sizeWords l p) := by
  simp [sizeLines, List.flatMap_append]
theorem lineBytes_len {l : List Word} (h : ∀ x ∈ l, x.ok) : (lineBytes l).length ≤ 1000001 * l.length + 1 := by
  have := spaced_len l h
  simp [lineBytes]; omega

theorem sizeWords_ok {l : List BarD} (hok : schedOk l = true) {p : Int × Int} (hp : p ∈ massSteps l steelSizes) : ∀ x ∈ sizeWords l p, x.ok := by
  obtain ⟨h1, h2⟩ := steps_mem hp
  have h60 := schedOk_len hok
  have hm := sumMass_range (schedOk_mem hok) p.1
  have hc := sumOfCount_range (schedOk_mem hok) p.1
  have hd : 6 ≤ p.1 ∧ p.1 ≤ 40 := by simp [steelSizes] at h1; omega
  intro x hx
  simp [sizeWords] at hx
  rcases hx with rfl | rfl | rfl | rfl | rfl | rfl
  · simp [Word.ok, wSize, ByteArray.size]
  · simp only [Word.ok]; omega
  · simp [Word.ok, wBars, ByteArray.size]
  · simp only [Word.ok]; omega
  · simp [Word.ok, wMass, ByteArray.size]
  · simp only [Word.ok]; omega
theorem allWords_ok {l : List BarD} (hok : schedOk l = true) : ∀ x ∈ allWords l, x.ok := by
  have h60 := schedOk_len hok
  have hm := total_range hok
  have hc := sumCount_range (schedOk_mem hok)
  intro x hx
  simp [allWords] at hx
  rcases hx with rfl | rfl | rfl | rfl | rfl
  · simp [Word.ok, wAll, ByteArray.size]
  · simp [Word.ok, wBars, ByteArray.size]
  · simp only [Word.ok]; omega
  · simp [Word.ok, wMass, ByteArray.size]
  · simp only [Word.ok]; omega
theorem sizeLines_len {l : List BarD} (hok : schedOk l = true) : ∀ (ms : List (Int × Int)), (∀ p ∈ ms, p ∈ massSteps l steelSizes) → (sizeLines l ms).length ≤ 6000007 * ms.length := by
  intro ms
  induction ms with
  | nil => intro _; simp [sizeLines]
  | cons p r ih =>
    intro h
    have h1 := lineBytes_len (sizeWords_ok hok (h p (List.mem_cons_self ..)))
    have h2 := ih (fun q hq => h q (List.mem_cons_of_mem _ hq))
    have h3 : (sizeWords l p).length = 6 := rfl
    simp only [sizeLines, List.flatMap_cons, List.length_append, List.length_cons] at h2 ⊢
    omega
theorem massSteps_len (l : List BarD) : (massSteps l steelSizes).length ≤ 9 := by
  unfold massSteps
  rw [List.length_map]
  exact List.length_filter_le _ _

set_option maxHeartbeats 400000 in
theorem repSteel_bad (A : Option Addr) (l : List BarD) (n c : Nat) (w : World) {B : Nat} (h : BarsAt w B A l) (hB : B ≤ w.heap.size) (hn : n = l.length) (hg : Tame l) (hm : n ≤ 60000) (hok : schedOk l = false) :
    Calls Tryz.prog 9 #[.slice A n c] w fun e w' => e = .returned (.tuple #[.string ⟨#[]⟩, .int .i64 1]) ∧ Below w.heap.size w w' := by
  have hn' := hide hn
  have Hg := hide hg
  have Hok := hide hok
  clear hn hg hok
  go_enter Tryz.func9, Tryz.ntmps9
  go_wp2_with fail
  refine (quantMasses_bad A l n c _ h hB hn'.out Hg.out hm Hok.out).mono ?_
  rintro e w1 ⟨rfl, hb1⟩
  go_wp2_with fail
  go_ret2
  exact ⟨rfl, hb1⟩

set_option maxHeartbeats 4000000 in
set_option maxRecDepth 100000 in
theorem repSteel_ok (A : Option Addr) (l : List BarD) (n c : Nat) (w : World) {B : Nat} (h : BarsAt w B A l) (hB : B ≤ w.heap.size) (hn : n = l.length) (hg : Tame l) (hok : schedOk l = true) (ht : TB B w) :
    Calls Tryz.prog 9 #[.slice A n c] w fun e w' => e = .returned (.tuple #[.string ⟨(steelText l).toArray⟩, .int .i64 0]) ∧ Below w.heap.size w w' := by
  have hn' := hide hn
  have Hg := hide hg
  have hms9 := massSteps_len l
  have hm : n ≤ 60 := by have := schedOk_len hok; omega
  have Hok := hide hok
  have Hmem := hide (schedOk_mem hok)
  have hq1 := hide (show qVal (schedOk l) (total (massList l)) = total (massList l) by rw [hok]; rfl)
  have hq2 := hide (show qErr (schedOk l) 1 = 0 by rw [hok]; rfl)
  have hq3 := hide (show qVal (schedOk l) (sumCount l) = sumCount l by rw [hok]; rfl)
  have Ht := hide ht
  clear hn hg hok ht
  go_enter Tryz.func9, Tryz.ntmps9
  go_wp2_with fail
  refine (quantMasses_ok A l n c _ h hB hn'.out Hg.out Hok.out).mono ?_
  rintro e w1 ⟨M, mc, rfl, hM, hb1⟩
  have h1 := hide (h.carry (hb1.mono hB) (Nat.le_refl _))
  have hB1 := Nat.le_trans hB hb1.size
  have HM := hide hM
  have Hb1 := hide hb1
  clear h hM hb1
  go_wp2_with fail
  refine (quantTotal_any A l n c _ h1.out hB1 hn'.out Hg.out (by omega)).mono ?_
  rintro e w2 ⟨rfl, hb2⟩
  rw [hq1.out, hq2.out]
  have h2 := hide (h1.out.carry (hb2.mono hB1) (Nat.le_refl _))
  have hB2 := Nat.le_trans hB1 hb2.size
  have HM2 := hide (SlOf.carry (Flat.carried _) HM.out hb2 (Nat.le_refl _))
  have Hb2 := hide (below_step Hb1.out hb2 (Nat.le_refl _))
  have hm2 := hb2.size
  clear hb2 h1 HM Hb1
  go_wp2_with fail
  refine (schedTotal_any A l n c _ h2.out hB2 hn'.out Hg.out (by omega)).mono ?_
  rintro e w3 ⟨rfl, hb3⟩
  rw [hq3.out, hq2.out]
  have h3 := hide (h2.out.carry (hb3.mono hB2) (Nat.le_refl _))
  have hB3 := Nat.le_trans hB2 hb3.size
  have HM3 := hide (SlOf.carry (Flat.carried _) HM2.out (hb3.mono hm2) (Nat.le_trans hm2 hb3.size))
  have Hb3 := hide (below_step Hb2.out hb3 (Nat.le_refl _))
  have Ht3 := hide (Ht.out.carry (Hb3.out.mono hB))
  have Hbd := hide (fresh_text w3)
  clear hb3 h2 HM2 Hb2 hq1 hq2 hq3 hm2
  go_wp2_with fail
  have hbt := hide (below_new w3 (.cells #[.pointer none, .slice none 0 0] 76))
  go_loopw [40] (fun i wr => ∃ k : Nat, k ≤ (massSteps l steelSizes).length ∧ i = .int .i64 k ∧ Bld wr 76 w3.heap.size w3.heap.size (sizeLines l ((massSteps l steelSizes).take k)) ∧ Below w3.heap.size w3 wr) (fun i _ => (massSteps l steelSizes).length - (intOf i).toNat)
  case atStart => exact ⟨0, Nat.zero_le _, rfl, Hbd.out, hbt.out⟩
  case round =>
    clear Hbd hbt
    obtain ⟨k, hk, rfl, hbd, hbr⟩ := hrel
    have Hbd := hide hbd
    have hBr := hbr.size
    clear hbd
    by_cases hlt : k < (massSteps l steelSizes).length
    · obtain ⟨b, off, ⟨d, m⟩, vs, hMM, hbl, hx, _, hr, hc⟩ := HM3.out.at_ (k := k) hlt
      have hr' : vs = encStep (d, m) := hr
      subst hr'
      subst hMM
      have hc0 := (hbr.cell (p := ⟨b, off + k * 2, none⟩) hbl).trans (by simpa using hc 0 _ rfl)
      have hc1 := (hbr.cell (p := ⟨b, off + k * 2 + 1, none⟩) hbl).trans (by simpa using hc 1 _ rfl)
      have Hx := hide hx
      clear hc hr
      have hmd := steps_mem (mem_of_get hx)
      obtain ⟨hm1, hm2⟩ := hmd
      simp only at hm1 hm2
      have Hm2 := hide hm2
      have hmr := sumMass_range Hmem.out d
      have hdr : 6 ≤ d ∧ d ≤ 40 := by simp [steelSizes] at hm1; omega
      have hl60 : l.length ≤ 60 := by rw [← hn'.out]; exact hm
      have Hok' := hide (show -9223372036854775808 ≤ m ∧ m ≤ 9223372036854775807 by omega)
      clear hm1 hm2 hx
      go_wp2_with fail
      obtain ⟨wo, rfl⟩ : ∃ wo : World, wo = wr := ⟨_, rfl⟩
      have B4 := hide (Blk.new wo 78 #[.int .i64 d, .int .i64 m])
      have Hbd4 := hide (IsBuilder.keep Hbd.out (below_new wo (.cells #[.int .i64 d, .int .i64 m] 78)))
      have hb4 := hide (hbr.alloc hBr (.cells #[.int .i64 d, .int .i64 m] 78))
      have hsz4 : wo.heap.size < (wo.alloc (.cells #[.int .i64 d, .int .i64 m] 78)).heap.size := B4.out.lt
      clear hc0 hc1
      generalize wo.alloc (.cells #[.int .i64 d, .int .i64 m] 78) = w4 at *
      have hB4 := Nat.le_trans hB3 hb4.out.size
      go_loopw [11, 46] (fun s i wi => ∃ j : Nat, j ≤ n ∧ i = .int .i64 j ∧ (∃ t : Int, 0 ≤ t ∧ t ≤ 1000 * j ∧ s = .int .i64 t ∧ Hid (t = sumOf BarD.count (l.take j) d)) ∧ Below w4.heap.size w4 wi) (fun _ i _ => n - (intOf i).toNat)
      case atStart => exact ⟨0, Nat.zero_le _, rfl, ⟨0, by omega, by omega, rfl, hide rfl⟩, Below.refl _ _⟩
      case round =>
        obtain ⟨j, hj, rfl, ⟨t, ht0, ht1, rfl, ht⟩, hbi⟩ := hrel
        by_cases hjt : j < n
        · obtain ⟨b2, off2, x, A', c', hA, hbl2, hx2, hi2, e0, e1, e2, e3, e4⟩ := BarsAt.get (k := j) (h3.out.carry ((hb4.out.trans (hbi.mono hb4.out.size)).mono hB3) (Nat.le_refl _)) (by rw [← hn'.out]; exact hjt)
          obtain ⟨hx0, hx1⟩ := (barGood_of (Hmem.out x (mem_of_get hx2))).count
          have Hx2 := hide hx2
          have cs0 := (B4.out.keep hbi).cell 0
          simp at cs0
          have hlt4 : wo.heap.size < wr.heap.size := Nat.lt_of_lt_of_le hsz4 hbi.size
          subst hA
          clear hx2 hi2 hbl2
          by_cases hxd : x.size = d
          · have hq : (x.size == d) = true := by simpa using hxd
            have Hxd := hide hxd
            clear hxd
            go_wp2_with fail
            go_roundw
            case rel => exact ⟨j + 1, by omega, by go_num, ⟨t + x.count, by omega, by omega, rfl, hide (by rw [take_snoc' Hx2.out, sumOf_snoc, if_pos Hxd.out, ← ht.out])⟩, hbi.alloc hbi.size _⟩
            case measure => simp [intOf]; omega
          · have hq : (x.size == d) = false := by simpa using hxd
            have Hxd := hide hxd
            clear hxd
            go_wp2_with fail
            go_roundw
            case rel => exact ⟨j + 1, by omega, by go_num, ⟨t, by omega, by omega, rfl, hide (by rw [take_snoc' Hx2.out, sumOf_snoc, if_neg Hxd.out, ← ht.out])⟩, hbi.alloc hbi.size _⟩
            case measure => simp [intOf]; omega
        · obtain rfl : j = n := by omega
          have ht' := hide (show t = sumOf BarD.count l d by rw [ht.out, hn'.out, List.take_length])
          have B5 := hide (B4.out.keep hbi)
          have cs0 := B5.out.cell 0
          have cs1 := B5.out.cell 1
          simp at cs0 cs1
          have Hbd5 := hide (IsBuilder.keep Hbd4.out hbi)
          have hb5 := hide (hb4.out.trans (hbi.mono hb4.out.size))
          have Ht5 := hide (Ht3.out.carry (hb5.out.mono hB3))
          clear ht hbi B4 Hbd4 hb4 B5
          have hl9 := hide (show (sizeLines l ((massSteps l steelSizes).take k)).length ≤ 50000000000 by
            have h9 := sizeLines_len Hok.out ((massSteps l steelSizes).take k) (fun p hp => List.mem_of_mem_take hp)
            have h8 := massSteps_len l
            rw [List.length_take] at h9
            omega)
          have hwk := hide (show sizeWords l (d, m) = [.str wSize, .num d, .str wBars, .num t, .str wMass, .num m] by rw [ht'.out]; rfl)
          have hwok := hide (show ∀ x ∈ [Word.str wSize, .num d, .str wBars, .num t, .str wMass, .num m], x.ok by rw [← hwk.out]; exact sizeWords_ok Hok.out (mem_of_get Hx.out))
          go_wp2_with fail
          refine (line_any [.str wSize, .num d, .str wBars, .num t, .str wMass, .num m] wr.heap.size 6 6 _ B w3.heap.size w3.heap.size _ _ (IsBuilder.keep Hbd5.out (below_new wr _)) (le_alloc hb5.out.size _) hB3
            (Ht5.out.carry ((Below.refl B wr).alloc (Nat.le_trans hB3 hb5.out.size) _)) (Blk.new wr _ _) rfl ?_ hwok.out (by omega) hl9.out).mono ?_
          · intro i x hi
            rcases i with _ | _ | _ | _ | _ | _ | i <;> simp at hi <;> (try subst hi) <;> rfl
          rintro e w6 ⟨rfl, hb6, hbe6, _⟩
          have Hb6 := hide hb6
          clear hb6 cs0 cs1
          go_wp2_with fail
          go_roundw
          case rel => exact ⟨k + 1, by omega, by go_num, by rw [take_snoc' Hx.out, sizeLines_snoc, hwk.out]; exact Hb6.out, (hb5.out.alloc hb5.out.size _).trans hbe6⟩
          case measure => simp [intOf]; omega
    · obtain rfl : k = (massSteps l steelSizes).length := by omega
      have Ht5 := hide (Ht3.out.carry (hbr.mono hB3))
      have Hbd5 := hide (show Bld wr 76 w3.heap.size w3.heap.size (sizeLines l (massSteps l steelSizes)) by have h9 := Hbd.out; rwa [List.take_length] at h9)
      have hl9 := hide (show (sizeLines l (massSteps l steelSizes)).length ≤ 50000000000 by
            have h9 := sizeLines_len Hok.out (massSteps l steelSizes) (fun p hp => hp)
            have h8 := massSteps_len l
            omega)
      clear Hbd
      go_wp2_with fail
      refine (line_any (allWords l) wr.heap.size 5 5 _ B w3.heap.size w3.heap.size _ _ (IsBuilder.keep Hbd5.out (below_new wr _)) (le_alloc hBr _) hB3
            (Ht5.out.carry ((Below.refl B wr).alloc (Nat.le_trans hB3 hBr) _)) (Blk.new wr _ _) rfl ?_ (allWords_ok Hok.out) (by omega) hl9.out).mono ?_
      · intro i x hi
        simp only [allWords] at hi
        rcases i with _ | _ | _ | _ | _ | i <;> simp at hi <;> (try subst hi) <;> rfl
      rintro e w6 ⟨rfl, hb6, hbe6, _⟩
      have Hb6 := hide hb6
      have hb36 := hide ((hbr.alloc hBr _).trans hbe6)
      clear hb6 hbe6
      go_wp2_with fail
      refine (builderString_some 76 w3.heap.size w3.heap.size _ _ Hb6.out (by simp [lineBytes])).mono ?_
      rintro e w7 ⟨rfl, hb7⟩
      go_wp2_with fail
      go_ret2
      exact ⟨rfl, below_step Hb3.out (hb36.out.trans hb7) (Nat.le_refl _)⟩
end Go.Proofs.YtnhmdgkhmkeopaaGreatDoor
