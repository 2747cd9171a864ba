/- Developed and cutting lengths, and masses of valid bars. -/
import Derived.Test.YtnhmdgkhmkeopaaGreatDoorLegs
import Derived.Test.YtnhmdgkhmkeopaaGreatDoorSteel
namespace Go.Proofs.YtnhmdgkhmkeopaaGreatDoor
open Go.RowKit

theorem steelBend_range {d : Int} (h : isSize d = true) : 15 ≤ steelBend d ∧ steelBend d ≤ 160 := by
  have := isSize_range h
  unfold steelBend
  split <;> omega
def upDiv (n d : Int) : Int := (n + d - 1) / d
set_option maxHeartbeats 400000 in
theorem bendUp_any (n d : Int) (w : World) (hn0 : 0 ≤ n) (hn1 : n ≤ 1000000000000) (hd0 : 1 ≤ d) (hd1 : d ≤ 1000000) :
    Calls Tryz.prog 121 #[.int .i64 n, .int .i64 d] w fun e w' => e = .returned (.int .i64 (upDiv n d)) ∧ w = w' := by
  go_enter Tryz.func121, Tryz.ntmps121
  go_wp2_with fail
  go_ret
  exact ⟨rfl, rfl⟩
def arcLo (d : Int) : Int := 500 * steelBend d * 333 / 106
def arcHi (d : Int) : Int := upDiv (500 * steelBend d * 355) 113

set_option maxHeartbeats 400000 in
theorem arc_ok (d : Int) (w : World) (hd : isSize d = true) :
    Calls Tryz.prog 154 #[.int .i64 d] w fun e w' => e = .returned (.tuple #[.agg #[.int .i64 (arcLo d), .int .i64 (arcHi d)], .int .i64 0]) ∧ Below w.heap.size w w' := by
  have Hd := hide hd
  obtain ⟨hr0, hr1⟩ := steelBend_range hd
  clear hd
  go_enter Tryz.func154, Tryz.ntmps154
  go_wp2_with fail
  refine (bend_ok _ _ Hd.out).mono ?_
  rintro e w1 ⟨rfl, hb⟩
  have b0 := (Blk.new w _ _).keep hb
  have c0 := b0.cell 0
  have c1 := b0.cell 1
  have f0 := b0.frozen 0
  have f1 := b0.frozen 1
  simp at c0 c1
  have HB := hide (below_step (below_new w _) hb (Nat.le_refl _))
  have B0 := hide b0
  clear b0 hb
  go_wp2_with (go_at_call 121; refine (bendUp_any _ _ _ (by omega) (by omega) (by omega) (by omega)).mono ?_; rintro e w' ⟨rfl, rfl⟩)
  refine bodyPost_ret (results_ct rfl rfl ((B0.out.set_ 0 _).set_ 1 _) Tryz.underlying169 rfl (by kernel_rfl)) rfl ?_
  exact ⟨rfl, (HB.out.setCell (by simp) _).setCell (by simp) _⟩

def allowLo (d : Int) : Int := 2000 * steelBend d - arcHi d
def allowHi (d : Int) : Int := 2000 * steelBend d - arcLo d
theorem arc_range {d : Int} (h : isSize d = true) : 0 ≤ arcLo d ∧ arcLo d ≤ 300000 ∧ 0 ≤ arcHi d ∧ arcHi d ≤ 300000 := by
  have := steelBend_range h
  unfold arcLo arcHi upDiv
  omega

set_option maxHeartbeats 400000 in
theorem allowance_ok (d : Int) (w : World) (hd : isSize d = true) :
    Calls Tryz.prog 142 #[.int .i64 d] w fun e w' => e = .returned (.tuple #[.agg #[.int .i64 (allowLo d), .int .i64 (allowHi d)], .int .i64 0]) ∧ Below w.heap.size w w' := by
  have Hd := hide hd
  obtain ⟨hr0, hr1⟩ := steelBend_range hd
  obtain ⟨ha0, ha1, ha2, ha3⟩ := arc_range hd
  clear hd
  go_enter Tryz.func142, Tryz.ntmps142
  go_wp2_with fail
  refine (arc_ok _ _ Hd.out).mono ?_
  rintro e w1 ⟨rfl, hb⟩
  have B0 := hide ((Blk.new w _ _).keep hb)
  have HB := hide (below_step (below_new w _) hb (Nat.le_refl _))
  have hl := B0.out.lt
  clear hb
  go_wp2_with fail
  refine (bend_ok _ _ Hd.out).mono ?_
  rintro e w2 ⟨rfl, hb⟩
  have B1 := hide ((B0.out.alloc _).keep hb)
  have B2 := hide ((Blk.new w1 _ _).keep hb)
  have HB2 := hide (below_step (HB.out.alloc HB.out.size _) hb (Nat.le_refl _))
  have c0 := B1.out.cell 0
  have c1 := B1.out.cell 1
  have d0 := B2.out.cell 0
  have d1 := B2.out.cell 1
  have f0 := B1.out.frozen 0
  have f1 := B1.out.frozen 1
  simp at c0 c1 d0 d1
  clear hb
  go_wp2_with fail
  refine bodyPost_ret (results_ct rfl rfl ((B1.out.set_ 0 _).set_ 1 _) Tryz.underlying169 rfl (by kernel_rfl)) rfl ?_
  exact ⟨rfl, (HB2.out.setCell (by simp) _).setCell (by simp) _⟩

theorem allow_range {d : Int} (h : isSize d = true) : -300000 ≤ allowLo d ∧ allowLo d ≤ 320000 ∧ -300000 ≤ allowHi d ∧ allowHi d ≤ 320000 := by
  have := steelBend_range h
  have := arc_range h
  unfold allowLo allowHi
  omega

/-- The sum of the legs, in micrometres. -/
def legSum (l : List Int) : Int := l.foldl (fun s n => s + 1000 * n) 0
def devLo (x : BarD) : Int := legSum (legLens x) - ((legLens x).length - 1 : Int) * allowHi x.size
def devHi (x : BarD) : Int := legSum (legLens x) - ((legLens x).length - 1 : Int) * allowLo x.size
theorem legLens_mem {x : BarD} (h : BarGood x) : ∀ n ∈ legLens x, 1 ≤ n ∧ n ≤ 262144 := by
  intro n hn
  obtain ⟨p, hp, rfl⟩ := List.mem_map.1 hn
  exact ⟨(h.leg p hp).2.2.2.1, (h.leg p hp).2.2.2.2⟩
theorem legLens_len (x : BarD) : (legLens x).length = legsLen x.code := by simp [legLens, legsLen]

theorem prod_range {n : Nat} {b : Int} (h1 : 1 ≤ n) (h6 : n ≤ 6) (hb0 : -300000 ≤ b) (hb1 : b ≤ 320000) : -10000000 ≤ ((n : Int) - 1) * b ∧ ((n : Int) - 1) * b ≤ 10000000 := by
  have : n = 1 ∨ n = 2 ∨ n = 3 ∨ n = 4 ∨ n = 5 ∨ n = 6 := by omega
  rcases this with rfl | rfl | rfl | rfl | rfl | rfl <;> simp <;> omega

set_option maxHeartbeats 1000000 in
theorem developed_ok (x : BarD) (A : Option Addr) (c : Nat) (w : World) {B : Nat} (hA : Ints w B A x.dims) (hB : B ≤ w.heap.size) (hm : x.mark.size ≤ maxLen) (hd : x.dims.length ≤ 60000) (hok : barOk x = true) :
    Calls Tryz.prog 120 #[.agg #[.string x.mark, .int .i64 x.size, .int .i64 x.count, .int .i64 x.code, .slice A x.dims.length c]] w fun e w' =>
      e = .returned (.tuple #[.agg #[.int .i64 (devLo x), .int .i64 (devHi x)], .int .i64 0]) ∧ Below w.heap.size w w' := by
  have Hg := hide (barGood_of hok)
  have hle : (legLens x).length ≤ 6 := by rw [legLens_len]; exact legsLen_le _
  have h1 : 1 ≤ (legLens x).length := by
    have := Hg.out.legs
    cases h : legLens x with
    | nil => exact absurd h this
    | cons _ _ => simp
  obtain ⟨ha0, ha1, ha2, ha3⟩ := allow_range Hg.out.size
  have hbo := fun o => hide ((Below.refl B w).alloc hB o)
  have hok' := hide hok
  clear hok
  go_enter Tryz.func120, Tryz.ntmps120
  go_wp2_with fail
  refine (barLegs_ok x A c _ ((hA.carry (hbo _).out (Nat.le_refl _)).carry ((Below.refl B _).alloc (le_alloc hB _) _) (Nat.le_refl _)) (le_alloc (le_alloc hB _) _) hm hd hok'.out).mono ?_
  rintro e w1 ⟨L, lc, rfl, hL, hb1⟩
  have B0 := hide (((Blk.new w 67 #[.string x.mark, .int .i64 x.size, .int .i64 x.count, .int .i64 x.code, .slice A x.dims.length c]).alloc _).keep hb1)
  have B1 := hide ((Blk.new1 w _ _ _).keep hb1)
  have HB := hide (below_step (below_new2 w _ _) hb1 (Nat.le_refl _))
  have c1 := B0.out.cell 1
  simp at c1
  have l0 := B0.out.lt
  have l1 := B1.out.lt
  clear hb1 hbo hA
  go_wp2_with fail
  go_loop [6, 22] (fun s i => ∃ k : Nat, k ≤ (legLens x).length ∧ i = .int .i64 k ∧ ∃ t : Int, 0 ≤ t ∧ t ≤ 262144000 * k ∧ s = .int .i64 t ∧ Hid (t = legSum ((legLens x).take k))) (fun _ i => (legLens x).length - (intOf i).toNat)
  case atStart => exact ⟨0, Nat.zero_le _, rfl, 0, by omega, by omega, rfl, hide rfl⟩
  case round =>
    obtain ⟨k, hk, rfl, t, ht0, ht1, rfl, ht⟩ := hrel
    by_cases hlt : k < (legLens x).length
    · obtain ⟨b, off, y, rfl, hbl, hy, hc⟩ := hL.get (k := k) hlt
      obtain ⟨hy0, hy1⟩ := legLens_mem Hg.out y (mem_of_get hy)
      have Hy := hide hy
      clear hy hbl hL
      go_wp2_with fail
      go_round
      case rel => exact ⟨k + 1, by omega, by go_num, t + 1000 * y, by omega, by omega, rfl, hide (by rw [take_snoc' Hy.out, legSum, List.foldl_append, ← legSum, ← ht.out]; rfl)⟩
      case measure => simp [intOf]; omega
    · obtain rfl : k = (legLens x).length := by omega
      have ht' := hide (show t = legSum (legLens x) by rw [ht.out, List.take_length])
      clear ht hL
      go_wp2_with fail
      refine (allowance_ok _ _ Hg.out.size).mono ?_
      rintro e w2 ⟨rfl, hb2⟩
      have p0 := prod_range (b := allowHi x.size) h1 hle ha2 ha3
      have p1 := prod_range (b := allowLo x.size) h1 hle ha0 ha1
      obtain ⟨p00, p01⟩ := p0
      obtain ⟨p10, p11⟩ := p1
      have B2 := hide (B1.out.keep hb2)
      have l2 : w.heap.size + 1 < w2.heap.size := B2.out.lt
      have HB2 := hide (below_step HB.out hb2 (Nat.le_refl _))
      have ht2 : t ≤ 1572864000 := by omega
      have c0 := B2.out.cell 0
      have c1' := B2.out.cell 1
      have f0 := B2.out.frozen 0
      have f1 := B2.out.frozen 1
      simp at c0 c1'
      clear hb2 c1 ht1
      go_wp2_with fail
      refine bodyPost_ret (results_ct rfl rfl (((B2.out.set_ 0 _).set_ 1 _).alloc _) Tryz.underlying169 rfl (by kernel_rfl)) rfl ?_
      refine ⟨?_, ((HB2.out.setCell (by simp) _).setCell (by simp) _).alloc (by simpa [World.setCell] using HB2.out.size) _⟩
      rw [devLo, devHi, ← ht'.out]
      rfl

/-- The cutting length. -/
def cutLen (x : BarD) : Int := max 5 (5 * upDiv (max 0 (devHi x)) 5000)
theorem legSum_eq (l : List Int) : legSum l = 1000 * l.foldl (fun s n => s + n) 0 := by
  have key : ∀ (l : List Int) (s t : Int), s = 1000 * t → l.foldl (fun s n => s + 1000 * n) s = 1000 * l.foldl (fun s n => s + n) t := by
    intro l
    induction l with
    | nil => intro s t h; simpa using h
    | cons y r ih => intro s t h; simp only [List.foldl_cons]; exact ih _ _ (by omega)
  exact key l 0 0 (by omega)
theorem dev_range {x : BarD} (hok : barOk x = true) : -2000000000 ≤ devHi x ∧ devHi x ≤ 534288000 := by
  have h := barGood_of hok
  have h1 := legs_sum hok
  have hle : (legLens x).length ≤ 6 := by rw [legLens_len]; exact legsLen_le _
  have hl : 1 ≤ (legLens x).length := by
    have := h.legs
    cases hh : legLens x with
    | nil => exact absurd hh this
    | cons _ _ => simp
  have ha := allow_range h.size
  have := prod_range (b := allowLo x.size) hl hle ha.1 ha.2.1
  have h0 : 0 ≤ (legLens x).foldl (fun s n => s + n) 0 := by
    have key : ∀ (l : List Int) (s : Int), (∀ n ∈ l, 1 ≤ n ∧ n ≤ 262144) → 0 ≤ s → 0 ≤ l.foldl (fun s n => s + n) s := by
      intro l
      induction l with
      | nil => intro s _ hs; exact hs
      | cons y r ih => intro s hl hs; have := hl y (List.mem_cons_self ..); exact ih (s + y) (fun n hn => hl n (List.mem_cons_of_mem _ hn)) (by omega)
    exact key _ _ (legLens_mem h) (by omega)
  unfold devHi
  rw [legSum_eq]
  omega
theorem cutLen_range {x : BarD} (h : barOk x = true) : 5 ≤ cutLen x ∧ cutLen x ≤ 534300 := by
  have := dev_range h
  unfold cutLen upDiv
  omega

set_option maxHeartbeats 400000 in
theorem cut_ok (x : BarD) (A : Option Addr) (c : Nat) (w : World) {B : Nat} (hA : Ints w B A x.dims) (hB : B ≤ w.heap.size) (hm : x.mark.size ≤ maxLen) (hd : x.dims.length ≤ 60000) (hok : barOk x = true) :
    Calls Tryz.prog 91 #[.agg #[.string x.mark, .int .i64 x.size, .int .i64 x.count, .int .i64 x.code, .slice A x.dims.length c]] w fun e w' =>
      e = .returned (.tuple #[.int .i64 (cutLen x), .int .i64 0]) ∧ Below w.heap.size w w' := by
  have Hg := hide (barGood_of hok)
  obtain ⟨hr0, hr1⟩ := dev_range hok
  have hbo := fun o => hide ((Below.refl B w).alloc hB o)
  have hok' := hide hok
  clear hok
  go_enter Tryz.func91, Tryz.ntmps91
  go_wp2_with fail
  refine (developed_ok x A c _ (hA.carry (hbo _).out (Nat.le_refl _)) (le_alloc hB _) hm hd hok'.out).mono ?_
  rintro e w1 ⟨rfl, hb1⟩
  have HB := hide (below_step (below_new w _) hb1 (Nat.le_refl _))
  clear hb1 hbo hA
  by_cases h0 : 0 < devHi x
  · have q0 : 0 ≤ upDiv (devHi x) 5000 := by unfold upDiv; omega
    have q1 : upDiv (devHi x) 5000 ≤ 400002 := by unfold upDiv; omega
    go_wp2_with (go_at_call 121; refine (bendUp_any _ _ _ (by omega) (by omega) (by omega) (by omega)).mono ?_; rintro e w' ⟨rfl, rfl⟩)
    all_goals
      go_ret2
      exact ⟨ret_ii (by rw [cutLen, show max 0 (devHi x) = devHi x by omega]; omega) rfl, HB.out.alloc HB.out.size _⟩
  · have q0 : upDiv 0 5000 = 0 := by unfold upDiv; omega
    go_wp2_with (go_at_call 121; refine (bendUp_any _ _ _ (by omega) (by omega) (by omega) (by omega)).mono ?_; rintro e w' ⟨rfl, rfl⟩)
    all_goals
      go_ret2
      exact ⟨ret_ii (by rw [cutLen, show max 0 (devHi x) = 0 by omega, q0]; omega) rfl, HB.out.alloc HB.out.size _⟩

/-- The mass of a line. -/
def lineMass (x : BarD) : Int := x.count * steelMass x.size (cutLen x)
theorem steelMass_range {d n : Int} (hd : isSize d = true) (h0 : 0 ≤ n) (h1 : n ≤ 534300) : 0 ≤ steelMass d n ∧ steelMass d n ≤ 5300000 := by
  have hm := isSize_mem hd
  simp [steelSizes] at hm
  unfold steelMass
  rcases hm with rfl | rfl | rfl | rfl | rfl | rfl | rfl | rfl | rfl <;> omega
theorem lineMass_range {x : BarD} (h : barOk x = true) : 0 ≤ lineMass x ∧ lineMass x ≤ 5300000000 := by
  have hg := barGood_of h
  have hc := cutLen_range h
  have hm := steelMass_range hg.size (n := cutLen x) (by omega) hc.2
  have h1 := hg.count
  unfold lineMass
  refine ⟨Int.mul_nonneg (by omega) hm.1, ?_⟩
  have := Int.mul_le_mul h1.2 hm.2 hm.1 (by omega)
  omega

set_option maxHeartbeats 400000 in
theorem bendMass_ok (x : BarD) (A : Option Addr) (c : Nat) (w : World) {B : Nat} (hA : Ints w B A x.dims) (hB : B ≤ w.heap.size) (hm : x.mark.size ≤ maxLen) (hd : x.dims.length ≤ 60000) (hok : barOk x = true) :
    Calls Tryz.prog 61 #[.agg #[.string x.mark, .int .i64 x.size, .int .i64 x.count, .int .i64 x.code, .slice A x.dims.length c]] w fun e w' =>
      e = .returned (.tuple #[.int .i64 (lineMass x), .int .i64 0]) ∧ Below w.heap.size w w' := by
  have Hg := hide (barGood_of hok)
  have hc := cutLen_range hok
  have hbo := fun o => hide ((Below.refl B w).alloc hB o)
  have hok' := hide hok
  clear hok
  go_enter Tryz.func61, Tryz.ntmps61
  go_wp2_with fail
  refine (cut_ok x A c _ (hA.carry (hbo _).out (Nat.le_refl _)) (le_alloc hB _) hm hd hok'.out).mono ?_
  rintro e w1 ⟨rfl, hb1⟩
  have HB := hide (below_step (below_new w _) hb1 (Nat.le_refl _))
  have B0 := hide ((Blk.new w 67 #[.string x.mark, .int .i64 x.size, .int .i64 x.count, .int .i64 x.code, .slice A x.dims.length c]).keep hb1)
  have c1 := B0.out.cell 1
  simp at c1
  clear hb1 hbo hA
  go_wp2_with fail
  have hm := lineMass_range hok'.out
  unfold lineMass at hm
  obtain ⟨hm0, hm1⟩ := hm
  refine (mass_ok x.size (cutLen x) _ Hg.out.size (by omega) (by omega)).mono ?_
  rintro e w2 ⟨rfl, hb2⟩
  have HB2 := hide (below_step HB.out hb2 (Nat.le_refl _))
  have c2 := (B0.out.keep hb2).cell 2
  simp at c2
  clear c1 hb2
  go_wp2_with fail
  go_ret2
  exact ⟨rfl, HB2.out⟩
end Go.Proofs.YtnhmdgkhmkeopaaGreatDoor
