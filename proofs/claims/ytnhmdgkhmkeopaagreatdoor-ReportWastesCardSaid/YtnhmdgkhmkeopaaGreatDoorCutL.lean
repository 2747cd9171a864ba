/- Whether the pieces of a pattern fit into a length. -/
import Derived.Test.YtnhmdgkhmkeopaaGreatDoorCutA
import Derived.IntWalk
namespace Go.Proofs.YtnhmdgkhmkeopaaGreatDoor
open Go.RowKit

theorem tdiv_range {L d m : Int} (h0 : 0 ≤ L) (h1 : L ≤ 1048576) (hd : 1 ≤ d) (hm0 : 0 ≤ m) : 0 ≤ L.tdiv d ∧ L.tdiv d ≤ 1048576 ∧ (m ≤ L.tdiv d → 0 ≤ L - m * d ∧ m * d ≤ 1048576 ∧ 0 ≤ m * d) := by
  rw [Int.tdiv_eq_ediv_of_nonneg h0]
  have a : 0 ≤ L / d := Int.ediv_nonneg h0 (by omega)
  have b : L / d ≤ L := Int.ediv_le_self _ h0
  refine ⟨a, by omega, fun hm => ?_⟩
  have c : m * d ≤ L / d * d := Int.mul_le_mul_of_nonneg_right hm (by omega)
  have e : L / d * d ≤ L := Int.ediv_mul_le _ (by omega)
  have f : 0 ≤ m * d := Int.mul_nonneg hm0 (by omega)
  omega
set_option maxHeartbeats 1000000 in
theorem left_any (len : Int) (A : Option Addr) (l : List PieD) (n c : Nat) (A2 : Option Addr) (p : List Int) (n2 c2 : Nat) (w : World) {B : Nat} (h : PiesAt w B A l) (hi : Ints w B A2 p) (hn : n = l.length) (hn2 : n2 = p.length) (hpl : p.length = l.length)
    (hok : ordOk l = true) (hl : 1 ≤ len ∧ len ≤ 1048576) :
    Calls Tryz.prog 115 #[.int .i64 len, .slice A n c, .slice A2 n2 c2] w fun e w' => (∃ r : Int, e = .returned (.tuple #[.int .i64 r, .bool (fitsFrom len l p)])) ∧ w = w' := by
  have hm : n ≤ 200 := by rw [hn]; exact ordOk_len hok
  obtain rfl : n2 = n := by omega
  have Hmem := hide (fun (x : PieD) (hx : x ∈ l) => ordOk_mem hok hx)
  have Hs := hide h
  have Hi := hide hi
  have hn' := hide hn
  have hn2' := hide hn2
  clear hn hn2 h hok hi hpl
  go_enter Tryz.func115, Tryz.ntmps115
  go_wp2_with fail
  go_loop [0, 12] (fun v i => ∃ k : Nat, k ≤ n2 ∧ i = .int .i64 k ∧ ∃ L : Int, 0 ≤ L ∧ L ≤ 1048576 ∧ v = .int .i64 L ∧ Hid (fitsFrom len l p = fitsFrom L (l.drop k) (p.drop k))) (fun _ i => n2 - (intOf i).toNat)
  case atStart => exact ⟨0, Nat.zero_le _, rfl, len, by omega, by omega, rfl, hide rfl⟩
  case round =>
    obtain ⟨k, hk, rfl, L, hL0, hL1, rfl, hq⟩ := hrel
    by_cases hlt : k < n2
    · obtain ⟨b, off, x, rfl, hbl, hx, h0, h1⟩ := PiesAt.get (k := k) Hs.out (by rw [← hn'.out]; exact hlt)
      obtain ⟨b2, off2, m, rfl, hbl2, hx2, e0⟩ := Ints.get (k := k) Hi.out (by rw [← hn2'.out]; exact hlt)
      obtain ⟨c1, c2, c3, c4⟩ := Hmem.out x (mem_of_get hx)
      have Hq := hide (hq.out.trans (fits_at L hx hx2))
      clear hx hx2 hbl hbl2 hq
      obtain ⟨xl, xc⟩ := x
      simp only at c1 c2 c3 c4 h0 h1 Hq
      by_cases p0 : m < 0
      · have q0 : decide (m < 0) = true := by simpa using p0
        have Hr := hide (show fitsFrom len l p = false by rw [Hq.out, q0]; rfl)
        clear p0
        go_wp2_with fail
        go_ret2
        exact ⟨⟨_, by rw [Hr.out]; rfl⟩, rfl⟩
      have q0 : decide (m < 0) = false := by simpa using p0
      by_cases p1 : xc < m
      · have q1 : decide (xc < m) = true := by simpa using p1
        have Hr := hide (show fitsFrom len l p = false by rw [Hq.out, q0, q1]; rfl)
        clear p0 p1
        go_wp2_with fail
        go_ret2
        exact ⟨⟨_, by rw [Hr.out]; rfl⟩, rfl⟩
      have q1 : decide (xc < m) = false := by simpa using p1
      obtain ⟨t0, t1, t2⟩ := tdiv_range hL0 hL1 c1 (m := m) (by omega)
      have z0 : ¬ xl = 0 := by omega
      have Ht2 := hide t2
      clear t2
      generalize htd : L.tdiv xl = td at *
      have s0 : IntKind.i64.wrap td = td := IntWalk.i64_in _ (by omega)
      by_cases p2 : td < m
      · have q2 : decide (td < m) = true := by simpa using p2
        have Hr := hide (show fitsFrom len l p = false by rw [Hq.out, q0, q1, q2]; rfl)
        clear p0 p1 p2
        go_wp2_with fail
        go_ret2
        exact ⟨⟨_, by rw [Hr.out]; rfl⟩, rfl⟩
      have q2 : decide (td < m) = false := by simpa using p2
      obtain ⟨u0, u1, u2⟩ := Ht2.out (by omega)
      have Hr := hide (show fitsFrom len l p = fitsFrom (L - m * xl) (l.drop (k + 1)) (p.drop (k + 1)) by rw [Hq.out, q0, q1, q2]; rfl)
      clear p0 p1 p2 Hq
      go_wp2_with fail
      go_round
      case rel => exact ⟨k + 1, by omega, by go_num, L - m * xl, by omega, by omega, rfl, Hr⟩
      case measure => simp [intOf]; omega
    · obtain rfl : k = n2 := by omega
      have hfull := hide (show fitsFrom len l p = true by rw [hq.out, List.drop_of_length_le (by have := hn'.out; omega), List.drop_of_length_le (by have := hn2'.out; omega)]; rfl)
      go_wp2_with fail
      go_ret2
      exact ⟨⟨_, by rw [hfull.out]; rfl⟩, rfl⟩
set_option maxHeartbeats 1000000 in
theorem patValid_any (len : Int) (A : Option Addr) (l : List PieD) (n c : Nat) (A2 : Option Addr) (p : List Int) (n2 c2 : Nat) (w : World) {B : Nat} (h : PiesAt w B A l) (hi : Ints w B A2 p) (hB : B ≤ w.heap.size) (hn : n = l.length) (hn2 : n2 = p.length)
    (hok : ordOk l = true) (hl : 1 ≤ len ∧ len ≤ 1048576) :
    Calls Tryz.prog 83 #[.int .i64 len, .slice A n c, .slice A2 n2 c2] w fun e w' => (e = .returned (.tuple #[.bool (fitsFrom len l p), .int .i64 0]) ∧ p.length = l.length ∨ e = .returned (.tuple #[.bool false, .int .i64 3]) ∧ p.length ≠ l.length) ∧ Below w.heap.size w w' := by
  have HG := hide (given_any len A l n c n2 w h hB hn hok hl)
  by_cases hpl : p.length = l.length
  · have Hpl := hide hpl
    rw [if_pos (by omega)] at HG
    have HL := hide (fun (wz : World) (hz : Below w.heap.size w wz) => left_any len A l n c A2 p n2 c2 wz (h.carry (Flat.carried _) (hz.mono hB) (Nat.le_refl _)) (hi.carry (hz.mono hB) (Nat.le_refl _)) hn hn2 hpl hok hl)
    clear h hi hB hn hn2 hok hl hpl
    go_enter Tryz.func83, Tryz.ntmps83
    go_wp2_with fail
    refine HG.out.mono ?_
    rintro e w2 ⟨rfl, hb2⟩
    clear HG
    go_wp2_with fail
    refine (HL.out _ hb2).mono ?_
    rintro e w3 ⟨⟨r, rfl⟩, rfl⟩
    clear HL
    go_wp2_with fail
    go_ret2
    exact ⟨.inl ⟨rfl, Hpl.out⟩, hb2⟩
  · have Hpl := hide hpl
    rw [if_neg (by omega)] at HG
    clear h hi hB hn hn2 hok hl hpl
    go_enter Tryz.func83, Tryz.ntmps83
    go_wp2_with fail
    refine HG.out.mono ?_
    rintro e w2 ⟨rfl, hb2⟩
    clear HG
    go_wp2_with fail
    go_ret2
    exact ⟨.inr ⟨rfl, Hpl.out⟩, hb2⟩
def validB (len : Int) (l : List PieD) (p : List Int) : Bool := decide (p.length = l.length) && fitsFrom len l p
def validE (l : List PieD) (p : List Int) : Int := if p.length = l.length then 0 else 3
theorem patFits_eq (s : List StkD) (l : List PieD) (x : PatD) : patFits s l x = validB (lenAt s x.stock) l x.pieces := rfl
theorem patValid_eq (len : Int) (A : Option Addr) (l : List PieD) (n c : Nat) (A2 : Option Addr) (p : List Int) (n2 c2 : Nat) (w : World) {B : Nat} (h : PiesAt w B A l) (hi : Ints w B A2 p) (hB : B ≤ w.heap.size) (hn : n = l.length) (hn2 : n2 = p.length)
    (hok : ordOk l = true) (hl : 1 ≤ len ∧ len ≤ 1048576) :
    Calls Tryz.prog 83 #[.int .i64 len, .slice A n c, .slice A2 n2 c2] w fun e w' => e = .returned (.tuple #[.bool (validB len l p), .int .i64 (validE l p)]) ∧ Below w.heap.size w w' := by
  refine (patValid_any len A l n c A2 p n2 c2 w h hi hB hn hn2 hok hl).mono ?_
  rintro e w' ⟨⟨rfl, hp⟩ | ⟨rfl, hp⟩, hb⟩
  · exact ⟨by rw [validB, validE, if_pos hp, decide_eq_true hp]; rfl, hb⟩
  · exact ⟨by rw [validB, validE, if_neg hp, decide_eq_false hp]; rfl, hb⟩
end Go.Proofs.YtnhmdgkhmkeopaaGreatDoor
