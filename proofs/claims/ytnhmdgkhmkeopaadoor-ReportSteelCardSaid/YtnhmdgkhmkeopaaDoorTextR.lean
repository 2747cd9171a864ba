/- The reference of layer 50: the report of a schedule. -/
import Derived.Test.YtnhmdgkhmkeopaaDoorStepsR
import Derived.Test.YtnhmdgkhmkeopaaDoorSteelRep
namespace Go.Proofs.YtnhmdgkhmkeopaaDoor
open Go.RowKit

def numB (n : Int) : ByteArray := ⟨(Lib.itoa n).toArray⟩
theorem numB_len {n : Int} (h0 : 0 ≤ n) (h1 : n ≤ 1000000000000000) : (numB n).size ≤ 30 := by
  have := Lib.itoa_length_le n (by omega) (by omega)
  simp [numB, ByteArray.size]
  omega
theorem refInt_any (n : Int) (w : World) (h0 : 0 ≤ n) (h1 : n ≤ 1000000000000000) :
    Calls Tryd.prog 18 #[.int .i64 n] w fun e w' => e = .returned (.string (numB n)) ∧ Below w.heap.size w w' := by
  obtain ⟨k, rfl⟩ := Int.eq_ofNat_of_zero_le h0
  go_enter Tryd.func18, Tryd.ntmps18
  go_wp2_with fail
  refine (refFormat_any k _ (by omega)).mono ?_
  rintro e w1 ⟨rfl, hb⟩
  go_wp2_with fail
  go_ret
  exact ⟨rfl, hb⟩

def cSize : ByteArray := ⟨#[115, 105, 122, 101, 32]⟩
def cBars : ByteArray := ⟨#[32, 98, 97, 114, 115, 32]⟩
def cMass : ByteArray := ⟨#[32, 109, 97, 115, 115, 32]⟩
def cAll : ByteArray := ⟨#[97, 108, 108, 32, 98, 97, 114, 115, 32]⟩
def cEnd : ByteArray := ⟨#[10]⟩
theorem sizeLine_eq (l : List BarD) (p : Int × Int) (s : List UInt8) :
    (⟨s.toArray⟩ : ByteArray) ++ cSize ++ numB p.1 ++ cBars ++ numB (sumOf BarD.count l p.1) ++ cMass ++ numB p.2 ++ cEnd = ⟨(s ++ lineBytes (sizeWords l p)).toArray⟩ := by
  simp only [numB, cSize, cBars, cMass, cEnd, ByteArray.mk_append_mk]
  congr 1
  simp [lineBytes, sizeWords, spaced, Word.bytes, wSize, wBars, wMass]
theorem allLine_eq (l : List BarD) (s : List UInt8) :
    (⟨s.toArray⟩ : ByteArray) ++ cAll ++ numB (sumCount l) ++ cMass ++ numB (total (massList l)) ++ cEnd = ⟨(s ++ lineBytes (allWords l)).toArray⟩ := by
  simp only [numB, cAll, cMass, cEnd, ByteArray.mk_append_mk]
  congr 1
  simp [lineBytes, allWords, spaced, Word.bytes, wAll, wBars, wMass]

/-- The sum of the masses of all sizes is the sum of the masses of all lines. -/
theorem total_map_add (f g : Int → Int) (ds : List Int) : total (ds.map fun d => f d + g d) = total (ds.map f) + total (ds.map g) := by
  have key : ∀ (ds : List Int) (a b : Int), (ds.map fun d => f d + g d).foldl (fun s n => s + n) (a + b) = (ds.map f).foldl (fun s n => s + n) a + (ds.map g).foldl (fun s n => s + n) b := by
    intro ds
    induction ds with
    | nil => intro a b; rfl
    | cons y r ih =>
      intro a b
      simp only [List.map_cons, List.foldl_cons]
      rw [← ih]
      congr 1
      omega
  exact key ds 0 0
theorem total_one {e m : Int} : ∀ (ds : List Int) (s : Int), ds.Nodup → e ∈ ds → (ds.map fun d => if e = d then m else 0).foldl (fun s n => s + n) s = s + m := by
  have hno : ∀ (ds : List Int) (s : Int), e ∉ ds → (ds.map fun d => if e = d then m else 0).foldl (fun s n => s + n) s = s := by
    intro ds
    induction ds with
    | nil => intro s _; rfl
    | cons y r ih =>
      intro s h
      simp only [List.mem_cons, not_or] at h
      simp only [List.map_cons, List.foldl_cons, if_neg h.1, Int.add_zero]
      exact ih s h.2
  intro ds
  induction ds with
  | nil => intro s _ h; cases h
  | cons y r ih =>
    intro s hn h
    rw [List.nodup_cons] at hn
    simp only [List.map_cons, List.foldl_cons]
    rcases List.mem_cons.1 h with rfl | hr
    · rw [if_pos rfl, hno r _ hn.1]
    · rw [if_neg (by rintro rfl; exact hn.1 hr), Int.add_zero]
      exact ih s hn.2 hr
theorem total_masses (l : List BarD) (h : ∀ x ∈ l, barOk x = true) : total (massList l) = l.foldl (fun s x => s + lineMass x) 0 := by
  have key : ∀ (r : List BarD) (f : Int → Int) (s : Int), (∀ x ∈ r, barOk x = true) → total (steelSizes.map f) = s →
      total (steelSizes.map fun d => r.foldl (fun t x => if x.size = d then t + lineMass x else t) (f d)) = r.foldl (fun t x => t + lineMass x) s := by
    intro r
    induction r with
    | nil => intro f s _ hs; exact hs
    | cons y r ih =>
      intro f s hr hs
      simp only [List.foldl_cons]
      refine ih (fun d => if y.size = d then f d + lineMass y else f d) (s + lineMass y) (fun x hx => hr x (List.mem_cons_of_mem _ hx)) ?_
      have e : (fun d => if y.size = d then f d + lineMass y else f d) = fun d => f d + (if y.size = d then lineMass y else 0) := by
        funext d
        split <;> omega
      rw [e, total_map_add f (fun d => if y.size = d then lineMass y else 0), hs]
      congr 1
      have := total_one (e := y.size) (m := lineMass y) steelSizes 0 (by decide) (isSize_mem (barGood_of (hr y (List.mem_cons_self ..))).size)
      unfold total
      rw [this]
      omega
  exact key l (fun _ => 0) 0 h (by decide)

theorem massSteps_mem {l : List BarD} (hok : schedOk l = true) {p : Int × Int} (h : p ∈ massSteps l steelSizes) : (0 ≤ p.1 ∧ p.1 ≤ 40) ∧ (0 ≤ p.2 ∧ p.2 ≤ 318000000000) := by
  obtain ⟨d, hd, rfl⟩ := List.mem_map.1 h
  have h1 := (List.mem_filter.1 hd).1
  have h2 := sumMass_range (schedOk_mem hok) d
  have h3 := schedOk_len hok
  have h4 : 0 ≤ d ∧ d ≤ 40 := by
    simp [steelSizes] at h1
    omega
  exact ⟨h4, by simp only; omega⟩

set_option maxHeartbeats 4000000 in
set_option maxRecDepth 100000 in
theorem refSteel_ok (A : Option Addr) (l : List BarD) (n c : Nat) (w : World) {B : Nat} (h : BarsAt w B A l) (hB : B ≤ w.heap.size) (hn : n = l.length) (hok : schedOk l = true) :
    Calls Tryd.prog 8 #[.slice A n c] w fun e w' => e = .returned (.string ⟨(steelText l).toArray⟩) ∧ Below w.heap.size w w' := by
  have hn' := hide hn
  have hm9 := massSteps_len l
  have Hok := hide hok
  have Hm := fun p hp => hide (massSteps_mem hok (p := p) hp)
  have hcr := sumCount_range (schedOk_mem hok)
  have hl60 := schedOk_len hok
  obtain ⟨hcr0, hcr1⟩ := hcr
  have htr : 0 ≤ total (massList l) ∧ total (massList l) ≤ 318000000000 := by
    rw [total_masses l (schedOk_mem hok)]
    have := foldl_range (fun s (x : BarD) => s + lineMass x) 5300000000 l (fun s x hx => by
      have := lineMass_range (schedOk_mem hok x hx)
      omega) 0
    omega
  obtain ⟨htr0, htr1⟩ := htr
  have Htot := hide (total_masses l (schedOk_mem hok))
  have Hcnt := fun d => hide (sumOfCount_range (schedOk_mem hok) d)
  have Hs := hide h
  clear hn hok h
  go_enter Tryd.func8, Tryd.ntmps8
  go_wp2_with fail
  refine (refMasses_ok A l n c _ Hs.out hB hn'.out Hok.out).mono ?_
  rintro e w1 ⟨M, mc, rfl, hM, hb1⟩
  have HM := hide hM
  clear hM
  go_wp2_with fail
  go_loopw [4, 5] (fun s i wr => ∃ k : Nat, k ≤ (massSteps l steelSizes).length ∧ i = .int .i64 k ∧ (∃ st : ByteArray, s = .string st ∧ st.size ≤ 200 * k ∧ Hid (st = ⟨(sizeLines l ((massSteps l steelSizes).take k)).toArray⟩)) ∧ Below w1.heap.size w1 wr) (fun _ i _ => (massSteps l steelSizes).length - (intOf i).toNat)
  case atStart => exact ⟨0, Nat.zero_le _, rfl, ⟨.empty, rfl, by simp, hide rfl⟩, Below.refl _ _⟩
  case round =>
    obtain ⟨k, hk, rfl, ⟨st, rfl, hst, hse⟩, hbr⟩ := hrel
    have hBr := Nat.le_trans (Nat.le_trans hB hb1.size) hbr.size
    have HR := hide (Hs.out.carry ((hb1.mono hB).trans (hbr.mono (Nat.le_trans hB hb1.size))) (Nat.le_refl B))
    have hbw := hide (below_step hb1 hbr (Nat.le_refl _))
    by_cases hlt : k < (massSteps l steelSizes).length
    · obtain ⟨b, off, p, vs, hA, hbl, hx, _, hr, hc⟩ := HM.out.at_ hlt
      obtain rfl : vs = encStep p := hr
      have e0 := hc 0 _ rfl
      have e1 := hc 1 _ rfl
      subst hA
      simp only [Nat.add_zero] at e0
      rw [← hbr.cell (by exact hbl)] at e0 e1
      have d0 := cell_regrown e0
      have d1 := cell_regrown e1
      obtain ⟨⟨hp0, hp1⟩, hp2, hp3⟩ := (Hm p (mem_of_get hx)).out
      obtain ⟨hq0, hq1⟩ := (Hcnt p.1).out
      have Hx := hide hx
      have i0 := fun W => hide (refInt_any p.1 W hp0 (by omega))
      have i1 := fun W => hide (refInt_any (sumOf BarD.count l p.1) W hq0 (by omega))
      have i2 := fun W => hide (refInt_any p.2 W hp2 (by omega))
      have ib := fun W (h : Below wr.heap.size wr W) => hide (refBars_ok A l n c p.1 W (HR.out.carry (h.mono hBr) (Nat.le_refl B)) hn'.out Hok.out)
      have z0 := numB_len hp0 (by omega)
      have z1 := numB_len hq0 (by omega)
      have z2 := numB_len hp2 (by omega)
      have hfin := hide (sizeLine_eq l p (sizeLines l ((massSteps l steelSizes).take k)))
      clear hx hbl hc hp0 hp1 hp2 hp3 hq0 hq1
      go_wp2_with fail
      refine wp_region_quiet_below (by kernel_rfl) (by kernel_rfl) ?_
      repeat (go_big_quiet_step (first
        | (go_at_call 18; first | exact Calls.regrown_of (i0 _).out | exact Calls.regrown_of (i1 _).out | exact Calls.regrown_of (i2 _).out)
        | (go_at_call 19; exact regrown_same (ib _ (below_regrown _ _ _)).out)))
      refine wpQuiet_nil ?_
      intro w2 hw'
      have hbq := hide (show Below _ _ w2 by obtain ⟨p, rfl⟩ := hw'; exact below_regrown _ _ _)
      clear hw'
      have hb2 := hide (below_step hbr hbq.out (Nat.le_refl _))
      clear d0 d1 e0 e1 hbq i0 i1 i2 ib
      go_wp2_with fail
      go_roundw
      case rel =>
        refine ⟨k + 1, by omega, by go_num, ⟨_, rfl, ?_, hide ?_⟩, hb2.out⟩
        · have l1 : (⟨#[115, 105, 122, 101, 32]⟩ : ByteArray).size = 5 := rfl
          have l2 : (⟨#[32, 98, 97, 114, 115, 32]⟩ : ByteArray).size = 6 := rfl
          have l3 : (⟨#[32, 109, 97, 115, 115, 32]⟩ : ByteArray).size = 6 := rfl
          have l4 : (⟨#[10]⟩ : ByteArray).size = 1 := rfl
          simp only [ByteArray.size_append, l1, l2, l3, l4]
          omega
        · rw [take_snoc' Hx.out, sizeLines, List.flatMap_append, ← sizeLines, List.flatMap_singleton, ← hfin.out, hse.out]
          rfl
      case measure => simp [intOf]; omega
    · obtain rfl : k = (massSteps l steelSizes).length := by omega
      have hse' := hide (show st = ⟨(sizeLines l (massSteps l steelSizes)).toArray⟩ by rw [hse.out, List.take_length])
      have hfin := hide (allLine_eq l (sizeLines l (massSteps l steelSizes)))
      have z0 := numB_len hcr0 (by omega)
      have z1 := numB_len htr0 (by omega)
      rw [Htot.out] at z1 htr0 htr1
      have i0 := fun W => hide (refInt_any (sumCount l) W hcr0 (by omega))
      have i1 := fun W => hide (refInt_any (l.foldl (fun s x => s + lineMass x) 0) W htr0 (by omega))
      have hfin' := hide (by have h := hfin.out; rw [Htot.out] at h; exact h)
      clear hse
      go_wp2_with fail
      refine (refTotal_ok A l n c _ HR.out hn'.out Hok.out).mono ?_
      rintro e w2 ⟨rfl, rfl⟩
      go_wp2_with fail
      refine (i0 _).out.mono ?_
      rintro e w2 ⟨rfl, hb2⟩
      have hb2' := hide (below_step hbw.out hb2 (Nat.le_refl _))
      have HR2 := hide (Hs.out.carry (hb2'.out.mono hB) (Nat.le_refl B))
      clear hb2
      go_wp2_with fail
      refine (refMassTotal_ok A l n c _ HR2.out (Nat.le_trans hB hb2'.out.size) hn'.out Hok.out).mono ?_
      rintro e w3 ⟨rfl, hb3⟩
      have hb3' := hide (below_step hb2'.out hb3 (Nat.le_refl _))
      clear hb3
      go_wp2_with fail
      refine (i1 _).out.mono ?_
      rintro e w4 ⟨rfl, hb4⟩
      have hb4' := hide (below_step hb3'.out hb4 (Nat.le_refl _))
      clear hb4
      go_wp2_with fail
      go_ret
      refine ⟨ret_str ?_, hb4'.out⟩
      rw [hse'.out, steelText, ← hfin'.out]
      rfl
end Go.Proofs.YtnhmdgkhmkeopaaDoor
