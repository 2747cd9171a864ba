/- The text of findings. -/
import Derived.Test.YtnhmdgkhmkeopaaGreatDoorSteelRep
import Derived.Test.YtnhmdgkhmkeopaaGreatDoorDec
namespace Go.Proofs.YtnhmdgkhmkeopaaGreatDoor
open Go.RowKit

/-- A finding. -/
structure FinD where
  kind : Int
  name : ByteArray
def encFin (x : FinD) : List Value := [.int .i64 x.kind, .string x.name]
theorem encFin_len (x : FinD) : (encFin x).length = 2 := rfl
abbrev FinsAt (w : World) (B : Nat) (A : Option Addr) (l : List FinD) : Prop := SlOf w B 2 (Flat encFin) A l
theorem FinsAt.get {w : World} {B : Nat} {A : Option Addr} {l : List FinD} (h : FinsAt w B A l) {k : Nat} (hk : k < l.length) :
    ∃ b off x, A = some ⟨b, off, none⟩ ∧ b < B ∧ l[k]? = some x ∧ w.cell? ⟨b, off + k * 2, none⟩ = some (.int .i64 x.kind) ∧ w.cell? ⟨b, off + k * 2 + 1, none⟩ = some (.string x.name) := by
  obtain ⟨b, off, x, vs, hA, hb, hx, _, hr, hc⟩ := h.at_ hk
  have hr' : vs = encFin x := hr
  subst hr'
  exact ⟨b, off, x, hA, hb, hx, by simpa using hc 0 _ rfl, by simpa using hc 1 _ rfl⟩

set_option maxHeartbeats 400000 in
theorem indexFuncFin_any (A : Option Addr) (l : List FinD) (n c : Nat) (fid : FuncId) (p : FinD → Bool) (w : World) {B : Nat} (h : FinsAt w B A l) (hB : B ≤ w.heap.size) (hn : n = l.length) (hm : n ≤ 300000)
    (hc : ∀ args w, (callFunc fid args).run Tryz.prog w = .ok (.enter fid args) w)
    (hf : ∀ x (W : World), x ∈ l → Calls Tryz.prog fid #[.agg #[.int .i64 x.kind, .string x.name]] W fun e W' => e = .returned (.bool (p x)) ∧ Below W.heap.size W W') :
    Calls Tryz.prog 43 #[.slice A n c, .func (.func fid) #[] #[]] w fun e w' => e = .returned (.int .i64 (idx p l)) ∧ Below w.heap.size w w' := by
  have Hf := hide hf
  have hn' := hide hn
  have Hs := hide h
  clear hf hn h
  go_enter Tryz.func43, Tryz.ntmps43
  go_wp2_with fail
  go_loopw [8] (fun i wr => ∃ k : Nat, k ≤ n ∧ i = .int .i64 k ∧ NoneTo p l k ∧ Below w.heap.size w wr) (fun i _ => n - (intOf i).toNat)
  case atStart => exact ⟨0, Nat.zero_le _, rfl, NoneTo.zero _ _, Below.refl _ _⟩
  case round =>
    obtain ⟨k, hk, rfl, hw, hb⟩ := hrel
    by_cases hlt : k < n
    · obtain ⟨b, off, x, rfl, hbl, hx, h0, h1⟩ := FinsAt.get (k := k) (SlOf.carry (Flat.carried _) Hs.out (hb.mono hB) (Nat.le_refl _)) (by rw [← hn'.out]; exact hlt)
      have Hx := hide hx
      clear hx hbl
      go_wp2_with fail
      refine (Hf.out x _ (mem_of_get Hx.out)).mono ?_
      rintro e w1 ⟨rfl, hb1⟩
      clear h0 h1
      have hb2 := below_step hb hb1 (Nat.le_refl _)
      cases hp : p x
      · have Hp := hide hp
        clear hp
        go_wp2_with fail
        go_roundw
        case rel => exact ⟨k + 1, by omega, by go_num, hw.succ Hx.out Hp.out, hb2⟩
        case measure => simp [intOf]; omega
      · have Hp := hide hp
        clear hp
        go_wp2_with fail
        go_ret
        exact ⟨ret_int (hw.hit Hx.out Hp.out).symm, hb2⟩
    · obtain rfl : k = n := by omega
      go_wp2_with fail
      go_ret
      exact ⟨ret_int (NoneTo.miss (by rw [← hn'.out]; exact hw)).symm, hb⟩

set_option maxHeartbeats 400000 in
theorem containsFuncFin_any (A : Option Addr) (l : List FinD) (n c : Nat) (fid : FuncId) (p : FinD → Bool) (w : World) {B : Nat} (h : FinsAt w B A l) (hB : B ≤ w.heap.size) (hn : n = l.length) (hm : n ≤ 300000)
    (hc : ∀ args w, (callFunc fid args).run Tryz.prog w = .ok (.enter fid args) w)
    (hf : ∀ x (W : World), x ∈ l → Calls Tryz.prog fid #[.agg #[.int .i64 x.kind, .string x.name]] W fun e W' => e = .returned (.bool (p x)) ∧ Below W.heap.size W W') :
    Calls Tryz.prog 35 #[.slice A n c, .func (.func fid) #[] #[]] w fun e w' => e = .returned (.bool (anyOf p l)) ∧ Below w.heap.size w w' := by
  have Hf := hide hf
  have hn' := hide hn
  have Hc := hide hc
  clear hf hn hc
  go_enter Tryz.func35, Tryz.ntmps35
  go_wp2_with fail
  refine (indexFuncFin_any A l n c fid p w h hB hn'.out hm Hc.out Hf.out).mono ?_
  rintro e w1 ⟨rfl, hb⟩
  go_wp2_with fail
  go_ret
  exact ⟨ret_bool (by rw [idx_any]; rfl), hb⟩

def finBad (x : FinD) : Bool := decide (x.kind < 0) || decide (1000000 < x.kind) || !isName x.name
set_option maxHeartbeats 1000000 in
theorem findings1_any (x : FinD) (w : World) (hm : x.name.size ≤ maxLen) :
    Calls Tryz.prog 37 #[.agg #[.int .i64 x.kind, .string x.name]] w fun e w' => e = .returned (.bool (finBad x)) ∧ Below w.heap.size w w' := by
  obtain ⟨kind, name⟩ := x
  simp only at hm ⊢
  by_cases h0 : kind < 0
  · have hf := hide (show finBad ⟨kind, name⟩ = true by simp [finBad, h0])
    have d0 : decide (kind < 0) = true := by simpa using h0
    clear h0
    go_enter Tryz.func37, Tryz.ntmps37
    go_wp2_with fail
    go_ret
    exact ⟨ret_bool hf.out.symm, below_new _ _⟩
  by_cases h1 : 1000000 < kind
  · have hf := hide (show finBad ⟨kind, name⟩ = true by simp [finBad, h1])
    have d0 : decide (kind < 0) = false := by simpa using h0
    have d1 : decide (1000000 < kind) = true := by simpa using h1
    clear h0 h1
    go_enter Tryz.func37, Tryz.ntmps37
    go_wp2_with fail
    go_ret
    exact ⟨ret_bool hf.out.symm, below_new _ _⟩
  have hf := hide (show finBad ⟨kind, name⟩ = !isName name by simp [finBad, h0, h1])
  have d0 : decide (kind < 0) = false := by simpa using h0
  have d1 : decide (1000000 < kind) = false := by simpa using h1
  clear h0 h1
  go_enter Tryz.func37, Tryz.ntmps37
  go_wp2_with (go_at_call 38; refine (isName_any _ _ hm).mono ?_; rintro e w' ⟨rfl, rfl⟩)
  go_ret
  exact ⟨ret_bool hf.out.symm, below_new _ _⟩

def finWords (x : FinD) : List Word := [.num x.kind, .str x.name]
def finLines (l : List FinD) : List UInt8 := l.flatMap fun x => lineBytes (finWords x)
theorem finLines_snoc (l : List FinD) (x : FinD) : finLines (l ++ [x]) = finLines l ++ lineBytes (finWords x) := by simp [finLines]
theorem finGood {x : FinD} (h : finBad x = false) : (0 ≤ x.kind ∧ x.kind ≤ 1000000) ∧ x.name.size ≤ 20 := by
  simp only [finBad, Bool.or_eq_false_iff, decide_eq_false_iff_not, Bool.not_eq_false'] at h
  obtain ⟨⟨h0, h1⟩, h2⟩ := h
  simp only [isName, Bool.and_eq_true, decide_eq_true_eq] at h2
  refine ⟨by omega, ?_⟩
  omega

theorem finWords_ok {x : FinD} (h : finBad x = false) : ∀ y ∈ finWords x, y.ok := by
  obtain ⟨h0, h1⟩ := finGood h
  intro y hy
  simp [finWords] at hy
  rcases hy with rfl | rfl <;> simp [Word.ok] <;> omega
theorem finLines_len : ∀ (l : List FinD), (∀ x ∈ l, finBad x = false) → (finLines l).length ≤ 2000003 * l.length := by
  intro l
  induction l with
  | nil => intro _; simp [finLines]
  | cons y r ih =>
    intro h
    have h1 := spaced_len (finWords y) (finWords_ok (h y (List.mem_cons_self ..)))
    have h2 := ih (fun x hx => h x (List.mem_cons_of_mem _ hx))
    simp only [finLines, List.flatMap_cons, List.length_append, lineBytes, List.length_cons, finWords, List.length_nil] at h1 h2 ⊢
    omega

set_option maxHeartbeats 4000000 in
set_option maxRecDepth 100000 in
theorem repFindings_ok (A : Option Addr) (l : List FinD) (n c : Nat) (w : World) {B : Nat} (h : FinsAt w B A l) (hB : B ≤ w.heap.size) (hn : n = l.length) (hm : n ≤ 1000) (hne : l ≠ []) (hok : ∀ x ∈ l, finBad x = false) (ht : TB B w) :
    Calls Tryz.prog 16 #[.slice A n c] w fun e w' => e = .returned (.tuple #[.string ⟨(finLines l).toArray⟩, .int .i64 0]) ∧ Below w.heap.size w w' := by
  have hn' := hide hn
  have Hok := hide hok
  have Ht := hide ht
  have Hs := hide h
  have Hne := hide hne
  have Hc := hide (show anyOf finBad l = false by
    rw [anyOf, List.any_eq_false]
    intro x hx
    rw [hok x hx]
    simp)
  clear hn hok ht h hne
  go_enter Tryz.func16, Tryz.ntmps16
  go_wp2_with fail
  refine (containsFuncFin_any A l n c 37 finBad w Hs.out hB hn'.out (by omega) Tryz.call37 (fun x W hx => findings1_any x W (by have := (finGood (Hok.out x hx)).2; unfold maxLen; omega))).mono ?_
  rintro e w3 ⟨rfl, hb3⟩
  rw [Hc.out]
  have hB3 := Nat.le_trans hB hb3.size
  have Hb3 := hide hb3
  have Ht3 := hide (Ht.out.carry (Hb3.out.mono hB))
  have HM3 := hide (SlOf.carry (Flat.carried _) Hs.out (hb3.mono hB) (Nat.le_refl B))
  have Hbd := hide (fresh_text w3)
  clear hb3
  go_wp2_with fail
  have hbt := hide (below_new w3 (.cells #[.pointer none, .slice none 0 0] 76))
  go_loopw [16] (fun i wr => ∃ k : Nat, k ≤ n ∧ i = .int .i64 k ∧ Bld wr 76 w3.heap.size w3.heap.size (finLines (l.take k)) ∧ Below w3.heap.size w3 wr) (fun i _ => n - (intOf i).toNat)
  case atStart => exact ⟨0, Nat.zero_le _, rfl, Hbd.out, hbt.out⟩
  case round =>
    clear Hbd hbt
    obtain ⟨k, hk, rfl, hbd, hbr⟩ := hrel
    have Hbd := hide hbd
    have hBr := hbr.size
    clear hbd
    by_cases hlt : k < n
    · obtain ⟨b, off, x, hA, hbl, hx, hc0, hc1⟩ := FinsAt.get (k := k) (SlOf.carry (Flat.carried _) HM3.out (hbr.mono hB3) (Nat.le_refl B)) (by rw [← hn'.out]; exact hlt)
      subst hA
      have Hx := hide hx
      have hxo := Hok.out x (mem_of_get hx)
      have Hwok := hide (finWords_ok hxo)
      have hl9 := hide (show (finLines (l.take k)).length ≤ 50000000000 by
        have h9 := finLines_len (l.take k) (fun p hp => Hok.out p (List.mem_of_mem_take hp))
        rw [List.length_take] at h9
        omega)
      have Ht5 := hide (Ht3.out.carry (hbr.mono hB3))
      clear hx hxo hbl
      go_wp2_with fail
      refine (line_any (finWords x) (wr.heap.size + 1) 2 2 _ B w3.heap.size w3.heap.size _ _ (IsBuilder.keep Hbd.out (below_new2 wr _ _)) (le_alloc (le_alloc hBr _) _) hB3
        (Ht5.out.carry (((Below.refl B wr).alloc (Nat.le_trans hB3 hBr) _).alloc (le_alloc (Nat.le_trans hB3 hBr) _) _)) (Blk.new1 wr _ _ _) rfl ?_ Hwok.out (by omega) hl9.out).mono ?_
      · intro i y hi
        simp only [finWords] at hi
        rcases i with _ | _ | i <;> simp at hi <;> (try subst hi) <;> rfl
      rintro e w6 ⟨rfl, hb6, hbe6, _⟩
      have Hb6 := hide hb6
      clear hb6 hc0 hc1
      go_wp2_with fail
      go_roundw
      case rel => exact ⟨k + 1, by omega, by go_num, by rw [take_snoc' Hx.out, finLines_snoc]; exact Hb6.out, ((hbr.alloc hBr _).alloc (le_alloc hBr _) _).trans hbe6⟩
      case measure => simp [intOf]; omega
    · obtain rfl : k = n := by omega
      have Hbd5 := hide (show Bld wr 76 w3.heap.size w3.heap.size (finLines l) by have h9 := Hbd.out; rwa [hn'.out, List.take_length] at h9)
      have Hl0 := hide (show finLines l ≠ [] by
        cases h : l with
        | nil => exact absurd h Hne.out
        | cons y r => simp [finLines, lineBytes])
      clear Hbd
      go_wp2_with fail
      refine (builderString_some 76 w3.heap.size w3.heap.size _ _ Hbd5.out Hl0.out).mono ?_
      rintro e w7 ⟨rfl, hb7⟩
      go_wp2_with fail
      go_ret2
      exact ⟨rfl, below_step Hb3.out (hbr.trans hb7) (Nat.le_refl _)⟩
end Go.Proofs.YtnhmdgkhmkeopaaGreatDoor
