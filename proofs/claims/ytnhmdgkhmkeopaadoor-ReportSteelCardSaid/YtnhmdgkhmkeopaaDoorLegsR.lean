/- The reference of layer 12: the legs of a valid bar. -/
import Derived.Test.YtnhmdgkhmkeopaaDoorMoves
import Derived.Deep.RegionHeld3
namespace Go.Proofs.YtnhmdgkhmkeopaaDoor
open Go.RowKit

theorem len1 {l : List Int} (h : l.length = 1) : ∃ a, l = [a] := by
  rcases l with _ | ⟨a, _ | ⟨b, r⟩⟩ <;> simp at h
  exact ⟨a, rfl⟩
theorem len2 {l : List Int} (h : l.length = 2) : ∃ a b, l = [a, b] := by
  rcases l with _ | ⟨a, r⟩
  · simp at h
  · obtain ⟨b, rfl⟩ := len1 (l := r) (by simpa using h)
    exact ⟨a, b, rfl⟩
theorem len3 {l : List Int} (h : l.length = 3) : ∃ a b c, l = [a, b, c] := by
  rcases l with _ | ⟨a, r⟩
  · simp at h
  · obtain ⟨b, c, rfl⟩ := len2 (l := r) (by simpa using h)
    exact ⟨a, b, c, rfl⟩
theorem len5 {l : List Int} (h : l.length = 5) : ∃ a b c d e, l = [a, b, c, d, e] := by
  rcases l with _ | ⟨a, _ | ⟨b, r⟩⟩
  · simp at h
  · simp at h
  · obtain ⟨c, d, e, rfl⟩ := len3 (l := r) (by simpa using h)
    exact ⟨a, b, c, d, e, rfl⟩

theorem refMoves_ok (x : BarD) (A : Option Addr) (c : Nat) (w : World) {B : Nat} (hA : Ints w B A x.dims) (hB : B ≤ w.heap.size) (hok : barOk x = true) :
    Calls Tryd.prog 86 #[.agg #[.string x.mark, .int .i64 x.size, .int .i64 x.count, .int .i64 x.code, .slice A x.dims.length c]] w fun e w' =>
      ∃ A', e = .returned (.slice A' (legsLen x.code) (legsLen x.code)) ∧ PtsAt w' w'.heap.size A' (movesOf x) ∧ Below w.heap.size w w' := by
  have hg := barGood_of hok
  have hc : legsOf x.code ≠ [] := by
    intro he
    exact hg.legs (by simp [legLens, he])
  rw [barOk_pre] at hok
  simp only [Bool.and_eq_true, barPre, decide_eq_true_eq] at hok
  obtain ⟨⟨_, h5⟩, h6⟩ := hok
  obtain ⟨mark, size, count, code, dims⟩ := x
  simp only at h5 h6 hc hA ⊢
  clear hg
  have hb := fits_mem h6
  clear h6
  rcases code_cases hc with rfl | rfl | rfl | rfl | rfl | rfl | rfl | rfl
  · obtain ⟨d0, rfl⟩ := len1 (l := dims) (by have h : (dims.length : Int) = 1 := h5; omega)
    have h := refMoves0 mark size count d0 A c w hA hB (hb _ (by simp))
    exact h
  · obtain ⟨d0, d1, rfl⟩ := len2 (l := dims) (by have h : (dims.length : Int) = 2 := h5; omega)
    have h := refMoves11 mark size count d0 d1 A c w hA hB (hb _ (by simp)) (hb _ (by simp))
    exact h
  · obtain ⟨d0, d1, d2, rfl⟩ := len3 (l := dims) (by have h : (dims.length : Int) = 3 := h5; omega)
    have h := refMoves21 mark size count d0 d1 d2 A c w hA hB (hb _ (by simp)) (hb _ (by simp)) (hb _ (by simp))
    exact h
  · obtain ⟨d0, d1, d2, rfl⟩ := len3 (l := dims) (by have h : (dims.length : Int) = 3 := h5; omega)
    have h := refMoves26 mark size count d0 d1 d2 A c w hA hB (hb _ (by simp)) (hb _ (by simp)) (hb _ (by simp))
    exact h
  · obtain ⟨d0, d1, d2, rfl⟩ := len3 (l := dims) (by have h : (dims.length : Int) = 3 := h5; omega)
    have h := refMoves31 mark size count d0 d1 d2 A c w hA hB (hb _ (by simp)) (hb _ (by simp)) (hb _ (by simp))
    exact h
  · obtain ⟨d0, d1, d2, d3, d4, rfl⟩ := len5 (l := dims) (by have h : (dims.length : Int) = 5 := h5; omega)
    have h := refMoves41 mark size count d0 d1 d2 d3 d4 A c w hA hB (hb _ (by simp)) (hb _ (by simp)) (hb _ (by simp)) (hb _ (by simp)) (hb _ (by simp))
    exact h
  · obtain ⟨d0, d1, d2, rfl⟩ := len3 (l := dims) (by have h : (dims.length : Int) = 3 := h5; omega)
    have h := refMoves51 mark size count d0 d1 d2 A c w hA hB (hb _ (by simp)) (hb _ (by simp)) (hb _ (by simp))
    exact h
  · obtain ⟨d0, d1, d2, rfl⟩ := len3 (l := dims) (by have h : (dims.length : Int) = 3 := h5; omega)
    have h := refMoves98 mark size count d0 d1 d2 A c w hA hB (hb _ (by simp)) (hb _ (by simp)) (hb _ (by simp))
    exact h

theorem ptOf_range {y v : Int} (h : 1 ≤ v ∧ v ≤ 262144) : ∀ a ∈ [(ptOf y v).1, (ptOf y v).2.1, (ptOf y v).2.2], -262144 ≤ a ∧ a ≤ 262144 := by
  unfold ptOf
  intro a ha
  (repeat' split at ha) <;> simp at ha <;> omega
def absI (n : Int) : Int := if n < 0 then 0 - n else n
theorem absI_range {n : Int} (h : -262144 ≤ n ∧ n ≤ 262144) : 0 ≤ absI n ∧ absI n ≤ 262144 := by unfold absI; split <;> omega
theorem absI_pt {y v : Int} (h : 1 ≤ v ∧ v ≤ 262144) : absI (ptOf y v).1 + absI (ptOf y v).2.1 + absI (ptOf y v).2.2 = v := by
  unfold ptOf absI
  (repeat' split) <;> simp_all <;> omega
set_option maxHeartbeats 400000 in
theorem refAbs_any (n : Int) (w : World) (h : -262144 ≤ n ∧ n ≤ 262144) :
    Calls Tryd.prog 87 #[.int .i64 n] w fun e w' => e = .returned (.int .i64 (absI n)) ∧ w = w' := by
  obtain ⟨h0, h1⟩ := h
  go_enter Tryd.func87, Tryd.ntmps87
  go_wp2_with fail
  · go_ret
    exact ⟨ret_int (by unfold absI; rw [if_pos (by omega)]; omega), rfl⟩
  · go_ret
    exact ⟨ret_int (by unfold absI; rw [if_neg (by omega)]), rfl⟩

theorem PtsAt.get {w : World} {B : Nat} {A : Option Addr} {l : List (Int × Int × Int)} (h : PtsAt w B A l) {k : Nat} (hk : k < l.length) :
    ∃ b off p, A = some ⟨b, off, none⟩ ∧ b < B ∧ l[k]? = some p ∧ w.cell? ⟨b, off + k * 3, none⟩ = some (.int .i64 p.1) ∧ w.cell? ⟨b, off + k * 3 + 1, none⟩ = some (.int .i64 p.2.1) ∧ w.cell? ⟨b, off + k * 3 + 2, none⟩ = some (.int .i64 p.2.2) := by
  obtain ⟨b, off, p, vs, hA, hb, hx, _, hr, hc⟩ := h.at_ hk
  have hr' : vs = encPt p := hr
  subst hr'
  exact ⟨b, off, p, hA, hb, hx, by simpa using hc 0 _ rfl, by simpa using hc 1 _ rfl, by simpa using hc 2 _ rfl⟩
theorem movesOf_get {x : BarD} (hg : BarGood x) {k : Nat} {p : Int × Int × Int} (h : (movesOf x)[k]? = some p) :
    (-262144 ≤ p.1 ∧ p.1 ≤ 262144) ∧ (-262144 ≤ p.2.1 ∧ p.2.1 ≤ 262144) ∧ (-262144 ≤ p.2.2 ∧ p.2.2 ≤ 262144) ∧ (legLens x)[k]? = some (absI p.1 + absI p.2.1 + absI p.2.2) := by
  simp only [movesOf, List.getElem?_map, Option.map_eq_some_iff] at h
  obtain ⟨q, hq, rfl⟩ := h
  obtain ⟨_, _, _, h3, h4⟩ := hg.leg q (mem_of_get hq)
  have hr := ptOf_range (y := q.2) ⟨h3, h4⟩
  refine ⟨hr _ (by simp), hr _ (by simp), hr _ (by simp), ?_⟩
  rw [absI_pt ⟨h3, h4⟩]
  simp [legLens, hq]

set_option maxHeartbeats 2000000 in
set_option maxRecDepth 100000 in
theorem refLegs_ok (x : BarD) (A : Option Addr) (c : Nat) (w : World) {B : Nat} (hA : Ints w B A x.dims) (hB : B ≤ w.heap.size) (hok : barOk x = true) :
    Calls Tryd.prog 76 #[.agg #[.string x.mark, .int .i64 x.size, .int .i64 x.count, .int .i64 x.code, .slice A x.dims.length c]] w fun e w' =>
      ∃ A' c', e = .returned (.slice A' (legLens x).length c') ∧ Ints w' w'.heap.size A' (legLens x) ∧ Below w.heap.size w w' := by
  have Hg := hide (barGood_of hok)
  have Hok := hide hok
  have hle := legsLen_le x.code
  have hbo := fun o => hide ((Below.refl B w).alloc hB o)
  clear hok
  go_enter Tryd.func76, Tryd.ntmps76
  go_wp2_with fail
  refine (refMoves_ok x A c _ (hA.carry (hbo _).out (Nat.le_refl _)) (le_alloc hB _) Hok.out).mono ?_
  rintro e w1 ⟨M, rfl, hM, hb1⟩
  have hw1 := hide (below_step (below_new w _) hb1 (Nat.le_refl _))
  have HM := hide hM
  clear hA hb1 hbo hM
  go_wp2_with fail
  go_loopw [4, 5] (fun v i wr => ∃ k : Nat, k ≤ legsLen x.code ∧ i = .int .i64 k ∧ (∃ acc, acc.length ≤ 1000 ∧ Row wr w1.heap.size 3 1 encInt v acc ∧ Hid (acc = (legLens x).take k)) ∧ Below w1.heap.size w1 wr) (fun _ i _ => legsLen x.code - (intOf i).toNat)
  case atStart => exact ⟨0, Nat.zero_le _, rfl, ⟨[], by simp, Row.nil _ _ _ _ _, hide rfl⟩, Below.refl _ _⟩
  case round =>
    obtain ⟨k, hk, rfl, ⟨acc, hal, hrow, hacc⟩, hbr⟩ := hrel
    obtain ⟨A0, c0, rfl⟩ := hrow.val
    by_cases hlt : k < legsLen x.code
    · obtain ⟨b, off, p, rfl, hbl, hx, h0, h1, h2⟩ := PtsAt.get (k := k) (SlOf.carry (Flat.carried _) HM.out hbr (Nat.le_refl _)) (by simp [movesOf]; exact hlt)
      obtain ⟨r0, r1, r2, hx'⟩ := movesOf_get Hg.out hx
      have Hx := hide hx'
      have Hrow := hide hrow
      obtain ⟨p0, p1, p2⟩ := p
      simp only at h0 h1 h2 r0 r1 r2 hx'
      have a0 := absI_range r0
      have a1 := absI_range r1
      have a2 := absI_range r2
      have R0 := hide r0
      have R1 := hide r1
      have R2 := hide r2
      have s1 := IntWalk.i64_in (absI p0 + absI p1) (by omega)
      have s2 := IntWalk.i64_in (absI p0 + absI p1 + absI p2) (by omega)
      have hl1 : b < wr.heap.size := Nat.lt_of_lt_of_le hbl hbr.size
      clear hx hx' hrow HM r0 r1 r2
      go_wp2_with fail
      go_region_held3 (fun w' => w'.cell? ⟨b, off + k * 3, none⟩ = some (.int .i64 p0) ∧ w'.cell? ⟨b, off + k * 3 + 1, none⟩ = some (.int .i64 p1) ∧ w'.cell? ⟨b, off + k * 3 + 2, none⟩ = some (.int .i64 p2))
        (first | go_keep | (exact ⟨by rw [hb5.cell (by exact hbl)]; simp [World.cell?_drew, World.cell?_alloc_lt, hl1, h0], by rw [hb5.cell (by exact hbl)]; simp [World.cell?_drew, World.cell?_alloc_lt, hl1, h1], by rw [hb5.cell (by exact hbl)]; simp [World.cell?_drew, World.cell?_alloc_lt, hl1, h2]⟩))
        (first
          | (go_at_call 87; refine (refAbs_any p0 _ R0.out).mono ?_; rintro e w' ⟨rfl, rfl⟩)
          | (go_at_call 87; refine (refAbs_any p1 _ R1.out).mono ?_; rintro e w' ⟨rfl, rfl⟩)
          | (go_at_call 87; refine (refAbs_any p2 _ R2.out).mono ?_; rintro e w' ⟨rfl, rfl⟩)
          | (refine step_append1 (by rfl) (.tmp 14) (.tmp 35) 30 (by rfl) w1.heap.size 3 (.int .i64 0) 1 8 encInt Tryd.underlying30 (by kernel_rfl) rfl (by omega) encInt_len encInt_one _ acc (absI p0 + absI p1 + absI p2) (by rfl) ((Hrow.out.drew).alloc _) _ (by rfl) (Blk.new _ _ _) (by omega) (by omega) (le_alloc hbr.size _) ?_; intro A1 c1 w5 hrow5 hb5 hkeep5))
      have hb53 := hide ((((hbr.alloc hbr.size _).drew)).trans hb5)
      clear hkeep5 hb5
      go_wp2_with fail
      go_roundw
      case rel =>
        have hk2 : acc.length ≤ k := by rw [hacc.out]; simp; omega
        exact ⟨k + 1, by omega, by go_num, ⟨acc ++ [absI p0 + absI p1 + absI p2], by simp; omega, hrow5, hide (by rw [take_snoc' Hx.out, ← hacc.out])⟩, hb53.out⟩
      case measure => simp [intOf]; omega
    · obtain rfl : k = legsLen x.code := by omega
      have hacc' : acc = legLens x := by rw [hacc.out, List.take_of_length_le (by simp [legLens, legsLen])]
      subst hacc'
      have Hrow := hide hrow
      clear hrow
      go_wp2_with fail
      go_ret
      exact ⟨_, _, rfl, Row.read Hrow.out encInt_len (by omega), below_step hw1.out hbr (Nat.le_refl _)⟩
end Go.Proofs.YtnhmdgkhmkeopaaDoor
