/- The masses of a schedule, by size. -/
import Derived.Test.YtnhmdgkhmkeopaaGreatDoorQuant
import Derived.Deep.RegionHeld3
import Derived.BigQuiet
namespace Go.Proofs.YtnhmdgkhmkeopaaGreatDoor
open Go.RowKit

def anyOf {α : Type} (p : α → Bool) (l : List α) : Bool := l.any p

set_option maxHeartbeats 400000 in
theorem containsFuncBar_any (A : Option Addr) (l : List BarD) (n c : Nat) (fid : FuncId) (caps : Array Value) (p : BarD → Bool) (w : World) {B : Nat} (h : BarsAt w B A l) (hB : B ≤ w.heap.size) (hn : n = l.length) (hm : n ≤ 60000)
    (hc : ∀ args w, (callFunc fid args).run Tryz.prog w = .ok (.enter fid args) w)
    (hf : ∀ x A' c' (W : World), x ∈ l → Below w.heap.size w W → Ints W B A' x.dims →
      Calls Tryz.prog fid (#[.agg #[.string x.mark, .int .i64 x.size, .int .i64 x.count, .int .i64 x.code, .slice A' x.dims.length c']] ++ caps) W fun e W' => e = .returned (.bool (p x)) ∧ Below W.heap.size W W') :
    Calls Tryz.prog 54 #[.slice A n c, .func (.func fid) #[] caps] w fun e w' => e = .returned (.bool (anyOf p l)) ∧ Below w.heap.size w w' := by
  have Hf := hide hf
  have hn' := hide hn
  have Hc := hide hc
  clear hf hn hc
  go_enter Tryz.func54, Tryz.ntmps54
  go_wp2_with fail
  refine (indexFuncBar_any A l n c fid caps p w h hB hn'.out hm Hc.out Hf.out).mono ?_
  rintro e w1 ⟨rfl, hb⟩
  go_wp2_with fail
  go_ret
  exact ⟨ret_bool (by rw [idx_any]; rfl), hb⟩

def encStep (p : Int × Int) : List Value := [.int .i64 p.1, .int .i64 p.2]
theorem encStep_len (p : Int × Int) : (encStep p).length = 2 := rfl
theorem encStep_one (p : Int × Int) : ∀ u ∈ encStep p, u.oneCell' = true := by
  intro u hu
  simp [encStep] at hu
  rcases hu with rfl | rfl <;> rfl
abbrev StepsAt (w : World) (B : Nat) (A : Option Addr) (l : List (Int × Int)) : Prop := SlOf w B 2 (Flat encStep) A l
def hasSize (l : List BarD) (d : Int) : Bool := anyOf (fun x => x.size == d) l
def massSteps (l : List BarD) (ds : List Int) : List (Int × Int) := (ds.filter (hasSize l)).map fun d => (d, sumOf lineMass l d)
theorem massSteps_snoc (l : List BarD) (ds : List Int) (d : Int) : massSteps l (ds ++ [d]) = if hasSize l d then massSteps l ds ++ [(d, sumOf lineMass l d)] else massSteps l ds := by
  unfold massSteps
  rw [List.filter_append]
  cases h : hasSize l d <;> simp [h]

set_option maxHeartbeats 1000000 in
theorem quantMasses_ok (A : Option Addr) (l : List BarD) (n c : Nat) (w : World) {B : Nat} (h : BarsAt w B A l) (hB : B ≤ w.heap.size) (hn : n = l.length) (hg : Tame l) (hok : schedOk l = true) :
    Calls Tryz.prog 27 #[.slice A n c] w fun e w' => ∃ A' c', e = .returned (.tuple #[.slice A' (massSteps l steelSizes).length c', .int .i64 0]) ∧ StepsAt w' w'.heap.size A' (massSteps l steelSizes) ∧ Below w.heap.size w w' := by
  have hn' := hide hn
  have Hg := hide hg
  have hm : n ≤ 60000 := by have := schedOk_len hok; omega
  have Hok := hide hok
  clear hn hg hok
  go_enter Tryz.func27, Tryz.ntmps27
  go_wp2_with fail
  refine (schedValid_any A l n c _ h hB hn'.out Hg.out hm).mono ?_
  rintro e w1 ⟨rfl, hb1⟩
  rw [Hok.out]
  have h1 := hide (h.carry (hb1.mono hB) (Nat.le_refl _))
  have hB1 := Nat.le_trans hB hb1.size
  clear h
  go_wp2_with fail
  refine (masses_ok A l n c _ h1.out hB1 hn'.out Hg.out Hok.out).mono ?_
  rintro e w2 ⟨M, rfl, hM, hb2⟩
  have h2 := hide (h1.out.carry (hb2.mono hB1) (Nat.le_refl _))
  have hB2 := Nat.le_trans hB1 hb2.size
  have hw2 := hide (below_step hb1 hb2 (Nat.le_refl _))
  clear hb1 hb2 h1
  go_wp2_with fail
  refine (sizes_any _).mono ?_
  rintro e w3 ⟨S, rfl, hS, hb3⟩
  have h3 := hide (h2.out.carry (hb3.mono hB2) (Nat.le_refl _))
  have hM3 := hide (hM.carry hb3 hb3.size)
  have hB3 := Nat.le_trans hB2 hb3.size
  have hw3 := hide (below_step hw2.out hb3 (Nat.le_refl _))
  have HS := hide hS
  clear hb3 h2 hM hw2 hS
  go_wp2_with fail
  go_loopw [5, 15] (fun v i wr => ∃ k : Nat, k ≤ 9 ∧ i = .int .i64 k ∧ (∃ acc, acc.length ≤ k ∧ Row wr w3.heap.size 78 2 encStep v acc ∧ Hid (acc = massSteps l (steelSizes.take k))) ∧ Below w3.heap.size w3 wr) (fun _ i _ => 9 - (intOf i).toNat)
  case atStart => exact ⟨0, Nat.zero_le _, rfl, ⟨[], Nat.le_refl _, Row.nil _ _ _ _ _, hide rfl⟩, Below.refl _ _⟩
  case round =>
    obtain ⟨k, hk, rfl, ⟨acc, hal, hrow, hacc⟩, hbr⟩ := hrel
    obtain ⟨A0, c0, rfl⟩ := hrow.val
    by_cases hlt : k < 9
    · obtain ⟨b, off, d, rfl, hbl, hx, hc0⟩ := HS.out.get (k := k) hlt
      obtain ⟨b', off', m, hM', hbl', hm', hcm⟩ := hM3.out.get (k := k) (by simpa [massList, steelSizes] using hlt)
      subst hM'
      rw [← hbr.cell (by exact hbl)] at hc0
      rw [← hbr.cell (by exact hbl')] at hcm
      have hmd : m = sumOf lineMass l d := by
        simp [massList, hx] at hm'
        exact hm'.symm
      have Hx := hide hx
      have Hmd := hide hmd
      have hl' : b' < wr.heap.size := Nat.lt_of_lt_of_le hbl' hbr.size
      have Hrow := hide hrow
      have hr := hide (h3.out.carry ((hbr.alloc hbr.size (.cells #[.int .i64 d] 3)).mono hB3) (Nat.le_refl _))
      have hBr := hide (Nat.le_trans hB3 (le_alloc hbr.size (.cells #[.int .i64 d] 3)))
      clear hx hbl hm' hmd hrow hM3
      go_wp2_with fail
      refine (containsFuncBar_any A l n c 55 #[.pointer (some ⟨wr.heap.size, 0, none⟩)] (fun x => x.size == d) _ hr.out hBr.out hn'.out hm Tryz.call55 (fun x A' c' W _ hb _ => masses1_any x A' c' d wr.heap.size W (by have h0 := ((Blk.new wr 3 #[.int .i64 d]).keep hb).cell 0; simpa using h0))).mono ?_
      rintro e w4 ⟨rfl, hb4⟩
      have B4 := hide ((Blk.new wr 3 #[.int .i64 d]).keep hb4)
      have hc4 := B4.out.cell 0
      simp at hc4
      have hcm4 : w4.cell? ⟨b', off' + k, none⟩ = some (.int .i64 m) := by
        rw [hb4.cell (by simp; omega), World.cell?_alloc_lt _ _ _ (by exact hl')]; exact hcm
      have hrow4 := hide ((Hrow.out.alloc _).keep hb4)
      have hb43 := hide ((hbr.alloc hbr.size _).trans (hb4.mono (le_alloc hbr.size _)))
      have hlt5 : b' < w3.heap.size := hbl'
      have hl4 : b' < w4.heap.size := Nat.lt_of_lt_of_le hl' (Nat.le_trans (by simp) hb4.size)
      have hl5 : wr.heap.size < w4.heap.size := B4.out.lt
      clear hcm hc0 hb4 hr hBr
      cases hh : anyOf (fun x : BarD => x.size == d) l
      · have Hh := hide hh
        clear hh
        go_wp2_with fail
        go_roundw
        case rel => exact ⟨k + 1, by omega, by go_num, ⟨acc, by omega, hrow4.out, hide (by rw [take_snoc' Hx.out, massSteps_snoc, hasSize, Hh.out]; exact hacc.out)⟩, hb43.out⟩
        case measure => simp [intOf]; omega
      · have Hh := hide hh
        clear hh
        go_wp2_with fail
        go_region_held3 (fun w' => w'.cell? ⟨wr.heap.size, 0, none⟩ = some (.int .i64 d) ∧ w'.cell? ⟨b', off' + k, none⟩ = some (.int .i64 m)) (first | go_keep | (exact ⟨by have h9 := (hkeep5 _ _ _ (by decide) ((B4.out.drew).alloc _)).cell 0; simpa using h9, by rw [hb5.cell (by exact hlt5)]; simp [World.cell?_drew, World.cell?_alloc_lt, hl4, hcm4]⟩))
          ((refine step_append1 (by rfl) (.tmp 23) (.tmp 30) 68 (by rfl) w3.heap.size 78 (.agg #[.int .i64 0, .int .i64 0]) 2 16 encStep Tryz.underlying68 (by kernel_rfl) rfl (by omega) encStep_len encStep_one _ acc (d, m) (by rfl) ((hrow4.out.drew).alloc _) _ (by rfl) (Blk.new _ _ _) (by omega) (by omega) (le_alloc hb43.out.size _) ?_; intro A1 c1 w5 hrow5 hb5 hkeep5))
        have hb53 := hide (((hb43.out.alloc hb43.out.size _).drew).trans hb5)
        clear hkeep5 hb5
        go_wp2_with fail
        go_roundw
        case rel => exact ⟨k + 1, by omega, by go_num, ⟨acc ++ [(d, m)], by simp; omega, hrow5, hide (by rw [take_snoc' Hx.out, massSteps_snoc, hasSize, Hh.out, ← Hmd.out, ← hacc.out]; rfl)⟩, hb53.out⟩
        case measure => simp [intOf]; omega
    · obtain rfl : k = 9 := by omega
      have hacc' : acc = massSteps l steelSizes := by rw [hacc.out]; rfl
      subst hacc'
      have Hrow := hide hrow
      clear hrow
      go_wp2_with fail
      go_ret2
      exact ⟨_, _, rfl, Row.read Hrow.out encStep_len (by omega), below_step hw3.out hbr (Nat.le_refl _)⟩

set_option maxHeartbeats 400000 in
theorem quantMasses_bad (A : Option Addr) (l : List BarD) (n c : Nat) (w : World) {B : Nat} (h : BarsAt w B A l) (hB : B ≤ w.heap.size) (hn : n = l.length) (hg : Tame l) (hm : n ≤ 60000) (hok : schedOk l = false) :
    Calls Tryz.prog 27 #[.slice A n c] w fun e w' => e = .returned (.tuple #[.slice none 0 0, .int .i64 1]) ∧ Below w.heap.size w w' := by
  have hn' := hide hn
  have Hg := hide hg
  have Hok := hide hok
  clear hn hg hok
  go_enter Tryz.func27, Tryz.ntmps27
  go_wp2_with fail
  refine (schedValid_any A l n c _ h hB hn'.out Hg.out hm).mono ?_
  rintro e w1 ⟨rfl, hb1⟩
  rw [Hok.out]
  go_wp2_with fail
  go_ret2
  exact ⟨rfl, hb1⟩
end Go.Proofs.YtnhmdgkhmkeopaaGreatDoor
