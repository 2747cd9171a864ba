/- Bending schedules: the place of a mark, whether a schedule is valid, and the sum of its counts. -/
import Derived.Test.YtnhmdgkhmkeopaaGreatDoorShape
namespace Go.Proofs.YtnhmdgkhmkeopaaGreatDoor
open Go.RowKit

def barR : World → Nat → List Value → BarD → Prop := fun w B vs x => ∃ A c, vs = [.string x.mark, .int .i64 x.size, .int .i64 x.count, .int .i64 x.code, .slice A x.dims.length c] ∧ Ints w B A x.dims
theorem barR_carried : Carried barR := fun _ _ _ _ _ _ hb hB ⟨A, c, h, hi⟩ => ⟨A, c, h, hi.carry hb hB⟩
abbrev BarsAt (w : World) (B : Nat) (A : Option Addr) (l : List BarD) : Prop := SlOf w B 5 barR A l
theorem BarsAt.carry {w w' : World} {B B' : Nat} {A : Option Addr} {l : List BarD} (h : BarsAt w B A l) (hb : Below B w w') (hB : B ≤ B') : BarsAt w' B' A l := SlOf.carry barR_carried h hb hB
theorem BarsAt.get {w : World} {B : Nat} {A : Option Addr} {l : List BarD} (h : BarsAt w B A l) {k : Nat} (hk : k < l.length) :
    ∃ b off x A' c', A = some ⟨b, off, none⟩ ∧ b < B ∧ l[k]? = some x ∧ Ints w B A' x.dims ∧ w.cell? ⟨b, off + k * 5, none⟩ = some (.string x.mark) ∧ w.cell? ⟨b, off + k * 5 + 1, none⟩ = some (.int .i64 x.size) ∧
      w.cell? ⟨b, off + k * 5 + 2, none⟩ = some (.int .i64 x.count) ∧ w.cell? ⟨b, off + k * 5 + 3, none⟩ = some (.int .i64 x.code) ∧ w.cell? ⟨b, off + k * 5 + 4, none⟩ = some (.slice A' x.dims.length c') := by
  obtain ⟨b, off, x, vs, hA, hb, hx, _, ⟨A', c', rfl, hi⟩, hc⟩ := h.at_ hk
  exact ⟨b, off, x, A', c', hA, hb, hx, hi, by simpa using hc 0 _ rfl, by simpa using hc 1 _ rfl, by simpa using hc 2 _ rfl, by simpa using hc 3 _ rfl, by simpa using hc 4 _ rfl⟩
/-- A bar as a value. -/
def barV (x : BarD) (A : Option Addr) (c : Nat) : Value := .agg #[.string x.mark, .int .i64 x.size, .int .i64 x.count, .int .i64 x.code, .slice A x.dims.length c]

set_option maxHeartbeats 400000 in
theorem indexFuncBar_any (A : Option Addr) (l : List BarD) (n c : Nat) (fid : FuncId) (caps : Array Value) (p : BarD → Bool) (w : World) {B : Nat} (h : BarsAt w B A l) (hB : B ≤ w.heap.size) (hn : n = l.length) (hm : n ≤ 60000)
    (hc : ∀ args w, (callFunc fid args).run Tryz.prog w = .ok (.enter fid args) w)
    (hf : ∀ x A' c' (W : World), x ∈ l → Below w.heap.size w W → Ints W B A' x.dims →
      Calls Tryz.prog fid (#[.agg #[.string x.mark, .int .i64 x.size, .int .i64 x.count, .int .i64 x.code, .slice A' x.dims.length c']] ++ caps) W fun e W' => e = .returned (.bool (p x)) ∧ Below W.heap.size W W') :
    Calls Tryz.prog 85 #[.slice A n c, .func (.func fid) #[] caps] w fun e w' => e = .returned (.int .i64 (idx p l)) ∧ Below w.heap.size w w' := by
  have Hf := hide hf
  have hn' := hide hn
  clear hf hn
  go_enter Tryz.func85, Tryz.ntmps85
  go_wp2_with fail
  go_loopw [8] (fun i wr => ∃ k : Nat, k ≤ n ∧ i = .int .i64 k ∧ NoneTo p l k ∧ Below w.heap.size w wr) (fun i _ => n - (intOf i).toNat)
  case atStart => exact ⟨0, Nat.zero_le _, rfl, NoneTo.zero _ _, Below.refl _ _⟩
  case round =>
    obtain ⟨k, hk, rfl, hw, hb⟩ := hrel
    by_cases hlt : k < n
    · obtain ⟨b, off, x, A', c', rfl, hbl, hx, hi, h0, h1, h2, h3, h4⟩ := BarsAt.get (k := k) (h.carry (hb.mono hB) (Nat.le_refl _)) (by rw [← hn'.out]; exact hlt)
      have Hx := hide hx
      have Hi := hide hi
      clear hx hi h hbl
      go_wp2_with fail
      refine (Hf.out x A' c' _ (mem_of_get Hx.out) hb Hi.out).mono ?_
      rintro e w1 ⟨rfl, hb1⟩
      clear h0 h1 h2 h3 h4
      have hb2 := below_step hb hb1 (Nat.le_refl _)
      cases hp : p x
      · have Hp := hide hp
        clear hp
        go_wp2_with fail
        go_roundw
        case rel => exact ⟨k + 1, by omega, by go_num, hw.succ Hx.out Hp.out, hb2⟩
        case measure => simp [intOf]; omega
      · have Hp := hide hp
        clear hp
        go_wp2_with fail
        go_ret
        exact ⟨ret_int (hw.hit Hx.out Hp.out).symm, hb2⟩
    · obtain rfl : k = n := by omega
      go_wp2_with fail
      go_ret
      exact ⟨ret_int (NoneTo.miss (by rw [← hn'.out]; exact hw)).symm, hb⟩

def markIs (m : ByteArray) (x : BarD) : Bool := x.mark.toList == m.toList

set_option maxHeartbeats 400000 in
theorem index1_any (x : BarD) (A : Option Addr) (c : Nat) (m : ByteArray) (g : Nat) (w : World) (h0 : w.cell? ⟨g, 0, none⟩ = some (.string m)) :
    Calls Tryz.prog 90 #[.agg #[.string x.mark, .int .i64 x.size, .int .i64 x.count, .int .i64 x.code, .slice A x.dims.length c], .pointer (some ⟨g, 0, none⟩)] w fun e w' => e = .returned (.bool (markIs m x)) ∧ Below w.heap.size w w' := by
  have hg : g < w.heap.size := by
    have := World.block_lt_of_cell? w _ h0
    exact this
  have h1 := fun o => (World.cell?_alloc_lt w o ⟨g, 0, none⟩ hg).trans h0
  go_enter Tryz.func90, Tryz.ntmps90
  go_wp2_with fail
  go_ret
  exact ⟨ret_bool (by rfl), below_new _ _⟩

set_option maxHeartbeats 400000 in
theorem schedIndex_any (A : Option Addr) (l : List BarD) (n c : Nat) (m : ByteArray) (w : World) {B : Nat} (h : BarsAt w B A l) (hB : B ≤ w.heap.size) (hn : n = l.length) (hm : n ≤ 60000) :
    Calls Tryz.prog 60 #[.slice A n c, .string m] w fun e w' => e = .returned (.int .i64 (idx (markIs m) l)) ∧ Below w.heap.size w w' := by
  have hn' := hide hn
  have h1 := hide (h.carry ((Below.refl B w).alloc hB (.cells #[.string m] 9)) (Nat.le_refl B))
  have h2 := hide (le_alloc hB (.cells #[.string m] 9))
  clear hn
  go_enter Tryz.func60, Tryz.ntmps60
  go_wp2_with fail
  refine (indexFuncBar_any A l n c 90 #[.pointer (some ⟨w.heap.size, 0, none⟩)] (markIs m) _ h1.out h2.out hn'.out hm Tryz.call90 (fun x A' c' W _ hb _ => index1_any x A' c' m w.heap.size W (by have h0 := ((Blk.new w 9 #[.string m]).keep hb).cell 0; simpa using h0))).mono ?_
  rintro e w1 ⟨rfl, hb⟩
  go_wp2_with fail
  go_ret
  exact ⟨rfl, below_step (below_new _ _) hb (Nat.le_refl _)⟩

/-- Marks and dimensions are no longer than a machine's list. -/
def Tame (l : List BarD) : Prop := ∀ x ∈ l, x.mark.size ≤ maxLen ∧ x.dims.length ≤ 60000
def schedFrom (l : List BarD) : Nat → List BarD → Bool
  | _, [] => true
  | k, x :: r => barOk x && decide (idx (markIs x.mark) l = k) && schedFrom l (k + 1) r
def schedOk (l : List BarD) : Bool := decide (l.length ≤ 60) && schedFrom l 0 l

set_option maxHeartbeats 1000000 in
theorem schedValid_any (A : Option Addr) (l : List BarD) (n c : Nat) (w : World) {B : Nat} (h : BarsAt w B A l) (hB : B ≤ w.heap.size) (hn : n = l.length) (hg : Tame l) (hm : n ≤ 60000) :
    Calls Tryz.prog 30 #[.slice A n c] w fun e w' => e = .returned (.bool (schedOk l)) ∧ Below w.heap.size w w' := by
  have hn' := hide hn
  have Hg := hide hg
  by_cases h60 : n ≤ 60
  · have hs : schedOk l = schedFrom l 0 l := by simp [schedOk, ← hn, h60]
    rw [hs]
    clear hs hn hg hm
    go_enter Tryz.func30, Tryz.ntmps30
    go_wp2_with fail
    go_loopw [10] (fun i wr => ∃ k : Nat, k ≤ n ∧ i = .int .i64 k ∧ Hid (schedFrom l 0 l = schedFrom l k (l.drop k)) ∧ Below w.heap.size w wr) (fun i _ => n - (intOf i).toNat)
    case atStart => exact ⟨0, Nat.zero_le _, rfl, hide rfl, Below.refl _ _⟩
    case round =>
      obtain ⟨k, hk, rfl, hw, hb⟩ := hrel
      by_cases hlt : k < n
      · have HR := hide (h.carry (hb.mono hB) (Nat.le_refl _))
        have hBr := Nat.le_trans hB hb.size
        obtain ⟨b, off, x, A', c', hA, hbl, hx, hi, h0, h1, h2, h3, h4⟩ := BarsAt.get (k := k) HR.out (by rw [← hn'.out]; exact hlt)
        have HA := hide hA
        subst hA
        have Hx := hide hx
        have hgx := Hg.out x (mem_of_get hx)
        have Hw := hide (hw.out.trans (by rw [drop_at' hx, schedFrom]))
        have Hi := hide hi
        have hbo := fun o => hide ((Below.refl B wr).alloc hBr o)
        clear hx hi h hbl hw
        go_wp2_with fail
        refine (barValid_any x A' c' _ (Hi.out.carry (hbo _).out (Nat.le_refl _)) (le_alloc hBr _) hgx.1 hgx.2).mono ?_
        rintro e w1 ⟨rfl, hb1⟩
        have b0 := (Blk.new wr 67 #[.string x.mark, .int .i64 x.size, .int .i64 x.count, .int .i64 x.code, .slice A' x.dims.length c']).keep hb1
        have c0 := b0.cell 0
        simp at c0
        have hbw1 := hide (below_step (below_step hb (below_new wr _) (Nat.le_refl _)) hb1 (Nat.le_refl _))
        have hB1 := hide (HR.out.carry (((hbo _).out).trans (hb1.mono (le_alloc hBr _))) (Nat.le_refl _))
        have hs1 := Nat.le_trans hB hbw1.out.size
        clear b0 h0 h1 h2 h3 h4 hbo hb1 HR Hi
        cases hp : barOk x
        · have Hp := hide hp
          clear hp
          go_wp2_with fail
          go_ret
          exact ⟨ret_bool (by rw [Hw.out, Hp.out]; rfl), hbw1.out⟩
        · have Hp := hide hp
          clear hp
          go_wp2_with fail
          refine (schedIndex_any _ l n c x.mark _ hB1.out hs1 hn'.out (by omega)).mono ?_
          rintro e w2 ⟨rfl, hb2⟩
          have hbw2 := hide (below_step hbw1.out hb2 (Nat.le_refl _))
          clear hb2 c0
          cases hq : decide (idx (markIs x.mark) l = k)
          · have Hq := hide hq
            have hq' : (idx (markIs x.mark) l != (k : Int)) = true := by simpa using hq
            clear hq
            go_wp2_with fail
            go_ret
            exact ⟨ret_bool (by rw [Hw.out, Hp.out, Hq.out]; rfl), hbw2.out⟩
          · have Hq := hide hq
            have hq' : (idx (markIs x.mark) l != (k : Int)) = false := by simpa using hq
            clear hq
            go_wp2_with fail
            go_roundw
            case rel => exact ⟨k + 1, by omega, by go_num, hide (by rw [Hw.out, Hp.out, Hq.out]; rfl), hbw2.out⟩
            case measure => simp [intOf]; omega
      · obtain rfl : k = n := by omega
        go_wp2_with fail
        go_ret
        exact ⟨ret_bool (by rw [hw.out, List.drop_of_length_le (by rw [← hn'.out]; exact Nat.le_refl _)]; rfl), hb⟩
  · have hs : schedOk l = false := by simp [schedOk, ← hn, h60]
    rw [hs]
    clear hs hn hg
    go_enter Tryz.func30, Tryz.ntmps30
    go_wp2_with fail
    go_ret
    exact ⟨rfl, Below.refl _ _⟩
end Go.Proofs.YtnhmdgkhmkeopaaGreatDoor
