/- Developed and cutting lengths, and masses of valid bars. Quantities of a schedule: its masses by size, their sum, and the sum of its counts. The masses of a schedule, by size. strings.Builder, whatever struct it lies in first: its methods at a builder that the call itself has made. (After the guide's own walks, turned to a block of any type T.) -/
import Derived.Test.YtkmpddaobncheaaGreatDoorQaf
import Derived.Test.YtkmpddaobncheaaGreatDoorQaa
import Derived.Deep.RegionHeld3
import Derived.BigQuiet
import Derived.Lib.Builder
import Derived.Lib.AppendStr
import Derived.Lib.UnsafeStr
import Derived.Laws.Externs
import Derived.RegionTactic
import Derived.BigRegion
namespace Go.Proofs.YtkmpddaobncheaaGreatDoor
open Go.RowKit

theorem steelBend_range {d : Int} (h : isSize d = true) : 15 ≤ steelBend d ∧ steelBend d ≤ 160 := by
  have := isSize_range h
  unfold steelBend
  split <;> omega
def upDiv (n d : Int) : Int := (n + d - 1) / d
set_option maxHeartbeats 400000 in
theorem bendUp_any (n d : Int) (w : World) (hn0 : 0 ≤ n) (hn1 : n ≤ 1000000000000) (hd0 : 1 ≤ d) (hd1 : d ≤ 1000000) :
    Calls Tryz.prog 230 #[.int .i64 n, .int .i64 d] w fun e w' => e = .returned (.int .i64 (upDiv n d)) ∧ w = w' := by
  go_enter Tryz.func230, Tryz.ntmps230
  go_wp2_with fail
  go_ret
  exact ⟨rfl, rfl⟩
def arcLo (d : Int) : Int := 500 * steelBend d * 333 / 106
def arcHi (d : Int) : Int := upDiv (500 * steelBend d * 355) 113

set_option maxHeartbeats 400000 in
theorem arc_ok (d : Int) (w : World) (hd : isSize d = true) :
    Calls Tryz.prog 298 #[.int .i64 d] w fun e w' => e = .returned (.tuple #[.agg #[.int .i64 (arcLo d), .int .i64 (arcHi d)], .int .i64 0]) ∧ Below w.heap.size w w' := by
  have Hd := hide hd
  obtain ⟨hr0, hr1⟩ := steelBend_range hd
  clear hd
  go_enter Tryz.func298, Tryz.ntmps298
  go_wp2_with fail
  refine (bend_ok _ _ Hd.out).mono ?_
  rintro e w1 ⟨rfl, hb⟩
  have b0 := (Blk.new w _ _).keep hb
  have c0 := b0.cell 0
  have c1 := b0.cell 1
  have f0 := b0.frozen 0
  have f1 := b0.frozen 1
  simp at c0 c1
  have HB := hide (below_step (below_new w _) hb (Nat.le_refl _))
  have B0 := hide b0
  clear b0 hb
  go_wp2_with (go_at_call 230; refine (bendUp_any _ _ _ (by omega) (by omega) (by omega) (by omega)).mono ?_; rintro e w' ⟨rfl, rfl⟩)
  refine bodyPost_ret (results_ct rfl rfl ((B0.out.set_ 0 _).set_ 1 _) Tryz.underlying89 rfl (by kernel_rfl)) rfl ?_
  exact ⟨rfl, (HB.out.setCell (by simp) _).setCell (by simp) _⟩

def allowLo (d : Int) : Int := 2000 * steelBend d - arcHi d
def allowHi (d : Int) : Int := 2000 * steelBend d - arcLo d
theorem arc_range {d : Int} (h : isSize d = true) : 0 ≤ arcLo d ∧ arcLo d ≤ 300000 ∧ 0 ≤ arcHi d ∧ arcHi d ≤ 300000 := by
  have := steelBend_range h
  unfold arcLo arcHi upDiv
  omega

set_option maxHeartbeats 400000 in
theorem allowance_ok (d : Int) (w : World) (hd : isSize d = true) :
    Calls Tryz.prog 271 #[.int .i64 d] w fun e w' => e = .returned (.tuple #[.agg #[.int .i64 (allowLo d), .int .i64 (allowHi d)], .int .i64 0]) ∧ Below w.heap.size w w' := by
  have Hd := hide hd
  obtain ⟨hr0, hr1⟩ := steelBend_range hd
  obtain ⟨ha0, ha1, ha2, ha3⟩ := arc_range hd
  clear hd
  go_enter Tryz.func271, Tryz.ntmps271
  go_wp2_with fail
  refine (arc_ok _ _ Hd.out).mono ?_
  rintro e w1 ⟨rfl, hb⟩
  have B0 := hide ((Blk.new w _ _).keep hb)
  have HB := hide (below_step (below_new w _) hb (Nat.le_refl _))
  have hl := B0.out.lt
  clear hb
  go_wp2_with fail
  refine (bend_ok _ _ Hd.out).mono ?_
  rintro e w2 ⟨rfl, hb⟩
  have B1 := hide ((B0.out.alloc _).keep hb)
  have B2 := hide ((Blk.new w1 _ _).keep hb)
  have HB2 := hide (below_step (HB.out.alloc HB.out.size _) hb (Nat.le_refl _))
  have c0 := B1.out.cell 0
  have c1 := B1.out.cell 1
  have d0 := B2.out.cell 0
  have d1 := B2.out.cell 1
  have f0 := B1.out.frozen 0
  have f1 := B1.out.frozen 1
  simp at c0 c1 d0 d1
  clear hb
  go_wp2_with fail
  refine bodyPost_ret (results_ct rfl rfl ((B1.out.set_ 0 _).set_ 1 _) Tryz.underlying89 rfl (by kernel_rfl)) rfl ?_
  exact ⟨rfl, (HB2.out.setCell (by simp) _).setCell (by simp) _⟩

theorem allow_range {d : Int} (h : isSize d = true) : -300000 ≤ allowLo d ∧ allowLo d ≤ 320000 ∧ -300000 ≤ allowHi d ∧ allowHi d ≤ 320000 := by
  have := steelBend_range h
  have := arc_range h
  unfold allowLo allowHi
  omega

/-- The sum of the legs, in micrometres. -/
def legSum (l : List Int) : Int := l.foldl (fun s n => s + 1000 * n) 0
def devLo (x : BarD) : Int := legSum (legLens x) - ((legLens x).length - 1 : Int) * allowHi x.size
def devHi (x : BarD) : Int := legSum (legLens x) - ((legLens x).length - 1 : Int) * allowLo x.size
theorem legLens_mem {x : BarD} (h : BarGood x) : ∀ n ∈ legLens x, 1 ≤ n ∧ n ≤ 262144 := by
  intro n hn
  obtain ⟨p, hp, rfl⟩ := List.mem_map.1 hn
  exact ⟨(h.leg p hp).2.2.2.1, (h.leg p hp).2.2.2.2⟩
theorem legLens_len (x : BarD) : (legLens x).length = legsLen x.code := by simp [legLens, legsLen]

theorem prod_range {n : Nat} {b : Int} (h1 : 1 ≤ n) (h6 : n ≤ 6) (hb0 : -300000 ≤ b) (hb1 : b ≤ 320000) : -10000000 ≤ ((n : Int) - 1) * b ∧ ((n : Int) - 1) * b ≤ 10000000 := by
  have : n = 1 ∨ n = 2 ∨ n = 3 ∨ n = 4 ∨ n = 5 ∨ n = 6 := by omega
  rcases this with rfl | rfl | rfl | rfl | rfl | rfl <;> simp <;> omega

set_option maxHeartbeats 1000000 in
theorem developed_ok (x : BarD) (A : Option Addr) (c : Nat) (w : World) {B : Nat} (hA : Ints w B A x.dims) (hB : B ≤ w.heap.size) (hm : x.mark.size ≤ maxLen) (hd : x.dims.length ≤ 60000) (hok : barOk x = true) :
    Calls Tryz.prog 229 #[.agg #[.string x.mark, .int .i64 x.size, .int .i64 x.count, .int .i64 x.code, .slice A x.dims.length c]] w fun e w' =>
      e = .returned (.tuple #[.agg #[.int .i64 (devLo x), .int .i64 (devHi x)], .int .i64 0]) ∧ Below w.heap.size w w' := by
  have Hg := hide (barGood_of hok)
  have hle : (legLens x).length ≤ 6 := by rw [legLens_len]; exact legsLen_le _
  have h1 : 1 ≤ (legLens x).length := by
    have := Hg.out.legs
    cases h : legLens x with
    | nil => exact absurd h this
    | cons _ _ => simp
  obtain ⟨ha0, ha1, ha2, ha3⟩ := allow_range Hg.out.size
  have hbo := fun o => hide ((Below.refl B w).alloc hB o)
  have hok' := hide hok
  clear hok
  go_enter Tryz.func229, Tryz.ntmps229
  go_wp2_with fail
  refine (barLegs_ok x A c _ ((hA.carry (hbo _).out (Nat.le_refl _)).carry ((Below.refl B _).alloc (le_alloc hB _) _) (Nat.le_refl _)) (le_alloc (le_alloc hB _) _) hm hd hok'.out).mono ?_
  rintro e w1 ⟨L, lc, rfl, hL, hb1⟩
  have B0 := hide (((Blk.new w 68 #[.string x.mark, .int .i64 x.size, .int .i64 x.count, .int .i64 x.code, .slice A x.dims.length c]).alloc _).keep hb1)
  have B1 := hide ((Blk.new1 w _ _ _).keep hb1)
  have HB := hide (below_step (below_new2 w _ _) hb1 (Nat.le_refl _))
  have c1 := B0.out.cell 1
  simp at c1
  have l0 := B0.out.lt
  have l1 := B1.out.lt
  clear hb1 hbo hA
  go_wp2_with fail
  go_loop [6, 22] (fun s i => ∃ k : Nat, k ≤ (legLens x).length ∧ i = .int .i64 k ∧ ∃ t : Int, 0 ≤ t ∧ t ≤ 262144000 * k ∧ s = .int .i64 t ∧ Hid (t = legSum ((legLens x).take k))) (fun _ i => (legLens x).length - (intOf i).toNat)
  case atStart => exact ⟨0, Nat.zero_le _, rfl, 0, by omega, by omega, rfl, hide rfl⟩
  case round =>
    obtain ⟨k, hk, rfl, t, ht0, ht1, rfl, ht⟩ := hrel
    by_cases hlt : k < (legLens x).length
    · obtain ⟨b, off, y, rfl, hbl, hy, hc⟩ := hL.get (k := k) hlt
      obtain ⟨hy0, hy1⟩ := legLens_mem Hg.out y (mem_of_get hy)
      have Hy := hide hy
      clear hy hbl hL
      go_wp2_with fail
      go_round
      case rel => exact ⟨k + 1, by omega, by go_num, t + 1000 * y, by omega, by omega, rfl, hide (by rw [take_snoc' Hy.out, legSum, List.foldl_append, ← legSum, ← ht.out]; rfl)⟩
      case measure => simp [intOf]; omega
    · obtain rfl : k = (legLens x).length := by omega
      have ht' := hide (show t = legSum (legLens x) by rw [ht.out, List.take_length])
      clear ht hL
      go_wp2_with fail
      refine (allowance_ok _ _ Hg.out.size).mono ?_
      rintro e w2 ⟨rfl, hb2⟩
      have p0 := prod_range (b := allowHi x.size) h1 hle ha2 ha3
      have p1 := prod_range (b := allowLo x.size) h1 hle ha0 ha1
      obtain ⟨p00, p01⟩ := p0
      obtain ⟨p10, p11⟩ := p1
      have B2 := hide (B1.out.keep hb2)
      have l2 : w.heap.size + 1 < w2.heap.size := B2.out.lt
      have HB2 := hide (below_step HB.out hb2 (Nat.le_refl _))
      have ht2 : t ≤ 1572864000 := by omega
      have c0 := B2.out.cell 0
      have c1' := B2.out.cell 1
      have f0 := B2.out.frozen 0
      have f1 := B2.out.frozen 1
      simp at c0 c1'
      clear hb2 c1 ht1
      go_wp2_with fail
      refine bodyPost_ret (results_ct rfl rfl (((B2.out.set_ 0 _).set_ 1 _).alloc _) Tryz.underlying89 rfl (by kernel_rfl)) rfl ?_
      refine ⟨?_, ((HB2.out.setCell (by simp) _).setCell (by simp) _).alloc (by simpa [World.setCell] using HB2.out.size) _⟩
      rw [devLo, devHi, ← ht'.out]
      rfl

/-- The cutting length. -/
def cutLen (x : BarD) : Int := max 5 (5 * upDiv (max 0 (devHi x)) 5000)
theorem legSum_eq (l : List Int) : legSum l = 1000 * l.foldl (fun s n => s + n) 0 := by
  have key : ∀ (l : List Int) (s t : Int), s = 1000 * t → l.foldl (fun s n => s + 1000 * n) s = 1000 * l.foldl (fun s n => s + n) t := by
    intro l
    induction l with
    | nil => intro s t h; simpa using h
    | cons y r ih => intro s t h; simp only [List.foldl_cons]; exact ih _ _ (by omega)
  exact key l 0 0 (by omega)
theorem dev_range {x : BarD} (hok : barOk x = true) : -2000000000 ≤ devHi x ∧ devHi x ≤ 534288000 := by
  have h := barGood_of hok
  have h1 := legs_sum hok
  have hle : (legLens x).length ≤ 6 := by rw [legLens_len]; exact legsLen_le _
  have hl : 1 ≤ (legLens x).length := by
    have := h.legs
    cases hh : legLens x with
    | nil => exact absurd hh this
    | cons _ _ => simp
  have ha := allow_range h.size
  have := prod_range (b := allowLo x.size) hl hle ha.1 ha.2.1
  have h0 : 0 ≤ (legLens x).foldl (fun s n => s + n) 0 := by
    have key : ∀ (l : List Int) (s : Int), (∀ n ∈ l, 1 ≤ n ∧ n ≤ 262144) → 0 ≤ s → 0 ≤ l.foldl (fun s n => s + n) s := by
      intro l
      induction l with
      | nil => intro s _ hs; exact hs
      | cons y r ih => intro s hl hs; have := hl y (List.mem_cons_self ..); exact ih (s + y) (fun n hn => hl n (List.mem_cons_of_mem _ hn)) (by omega)
    exact key _ _ (legLens_mem h) (by omega)
  unfold devHi
  rw [legSum_eq]
  omega
theorem cutLen_range {x : BarD} (h : barOk x = true) : 5 ≤ cutLen x ∧ cutLen x ≤ 534300 := by
  have := dev_range h
  unfold cutLen upDiv
  omega

set_option maxHeartbeats 400000 in
theorem cut_ok (x : BarD) (A : Option Addr) (c : Nat) (w : World) {B : Nat} (hA : Ints w B A x.dims) (hB : B ≤ w.heap.size) (hm : x.mark.size ≤ maxLen) (hd : x.dims.length ≤ 60000) (hok : barOk x = true) :
    Calls Tryz.prog 168 #[.agg #[.string x.mark, .int .i64 x.size, .int .i64 x.count, .int .i64 x.code, .slice A x.dims.length c]] w fun e w' =>
      e = .returned (.tuple #[.int .i64 (cutLen x), .int .i64 0]) ∧ Below w.heap.size w w' := by
  have Hg := hide (barGood_of hok)
  obtain ⟨hr0, hr1⟩ := dev_range hok
  have hbo := fun o => hide ((Below.refl B w).alloc hB o)
  have hok' := hide hok
  clear hok
  go_enter Tryz.func168, Tryz.ntmps168
  go_wp2_with fail
  refine (developed_ok x A c _ (hA.carry (hbo _).out (Nat.le_refl _)) (le_alloc hB _) hm hd hok'.out).mono ?_
  rintro e w1 ⟨rfl, hb1⟩
  have HB := hide (below_step (below_new w _) hb1 (Nat.le_refl _))
  clear hb1 hbo hA
  by_cases h0 : 0 < devHi x
  · have q0 : 0 ≤ upDiv (devHi x) 5000 := by unfold upDiv; omega
    have q1 : upDiv (devHi x) 5000 ≤ 400002 := by unfold upDiv; omega
    go_wp2_with (go_at_call 230; refine (bendUp_any _ _ _ (by omega) (by omega) (by omega) (by omega)).mono ?_; rintro e w' ⟨rfl, rfl⟩)
    all_goals
      go_ret2
      exact ⟨ret_ii (by rw [cutLen, show max 0 (devHi x) = devHi x by omega]; omega) rfl, HB.out.alloc HB.out.size _⟩
  · have q0 : upDiv 0 5000 = 0 := by unfold upDiv; omega
    go_wp2_with (go_at_call 230; refine (bendUp_any _ _ _ (by omega) (by omega) (by omega) (by omega)).mono ?_; rintro e w' ⟨rfl, rfl⟩)
    all_goals
      go_ret2
      exact ⟨ret_ii (by rw [cutLen, show max 0 (devHi x) = 0 by omega, q0]; omega) rfl, HB.out.alloc HB.out.size _⟩

/-- The mass of a line. -/
def lineMass (x : BarD) : Int := x.count * steelMass x.size (cutLen x)
theorem steelMass_range {d n : Int} (hd : isSize d = true) (h0 : 0 ≤ n) (h1 : n ≤ 534300) : 0 ≤ steelMass d n ∧ steelMass d n ≤ 5300000 := by
  have hm := isSize_mem hd
  simp [steelSizes] at hm
  unfold steelMass
  rcases hm with rfl | rfl | rfl | rfl | rfl | rfl | rfl | rfl | rfl <;> omega
theorem lineMass_range {x : BarD} (h : barOk x = true) : 0 ≤ lineMass x ∧ lineMass x ≤ 5300000000 := by
  have hg := barGood_of h
  have hc := cutLen_range h
  have hm := steelMass_range hg.size (n := cutLen x) (by omega) hc.2
  have h1 := hg.count
  unfold lineMass
  refine ⟨Int.mul_nonneg (by omega) hm.1, ?_⟩
  have := Int.mul_le_mul h1.2 hm.2 hm.1 (by omega)
  omega

set_option maxHeartbeats 400000 in
theorem bendMass_ok (x : BarD) (A : Option Addr) (c : Nat) (w : World) {B : Nat} (hA : Ints w B A x.dims) (hB : B ≤ w.heap.size) (hm : x.mark.size ≤ maxLen) (hd : x.dims.length ≤ 60000) (hok : barOk x = true) :
    Calls Tryz.prog 116 #[.agg #[.string x.mark, .int .i64 x.size, .int .i64 x.count, .int .i64 x.code, .slice A x.dims.length c]] w fun e w' =>
      e = .returned (.tuple #[.int .i64 (lineMass x), .int .i64 0]) ∧ Below w.heap.size w w' := by
  have Hg := hide (barGood_of hok)
  have hc := cutLen_range hok
  have hbo := fun o => hide ((Below.refl B w).alloc hB o)
  have hok' := hide hok
  clear hok
  go_enter Tryz.func116, Tryz.ntmps116
  go_wp2_with fail
  refine (cut_ok x A c _ (hA.carry (hbo _).out (Nat.le_refl _)) (le_alloc hB _) hm hd hok'.out).mono ?_
  rintro e w1 ⟨rfl, hb1⟩
  have HB := hide (below_step (below_new w _) hb1 (Nat.le_refl _))
  have B0 := hide ((Blk.new w 68 #[.string x.mark, .int .i64 x.size, .int .i64 x.count, .int .i64 x.code, .slice A x.dims.length c]).keep hb1)
  have c1 := B0.out.cell 1
  simp at c1
  clear hb1 hbo hA
  go_wp2_with fail
  have hm := lineMass_range hok'.out
  unfold lineMass at hm
  obtain ⟨hm0, hm1⟩ := hm
  refine (mass_ok x.size (cutLen x) _ Hg.out.size (by omega) (by omega)).mono ?_
  rintro e w2 ⟨rfl, hb2⟩
  have HB2 := hide (below_step HB.out hb2 (Nat.le_refl _))
  have c2 := (B0.out.keep hb2).cell 2
  simp at c2
  clear c1 hb2
  go_wp2_with fail
  go_ret2
  exact ⟨rfl, HB2.out⟩
end Go.Proofs.YtkmpddaobncheaaGreatDoor
namespace Go.Proofs.YtkmpddaobncheaaGreatDoor
open Go.RowKit

theorem schedOk_len {l : List BarD} (h : schedOk l = true) : l.length ≤ 60 := by
  simp [schedOk] at h; exact h.1
theorem schedFrom_mem {l : List BarD} : ∀ {r : List BarD} {k : Nat}, schedFrom l k r = true → ∀ x ∈ r, barOk x = true := by
  intro r
  induction r with
  | nil => intro k _ x hx; cases hx
  | cons y r ih =>
    intro k h x hx
    simp only [schedFrom, Bool.and_eq_true] at h
    rcases List.mem_cons.1 hx with rfl | hx
    · exact h.1.1
    · exact ih h.2 x hx
theorem schedOk_mem {l : List BarD} (h : schedOk l = true) : ∀ x ∈ l, barOk x = true := by
  simp only [schedOk, Bool.and_eq_true] at h
  exact schedFrom_mem h.2

/-- What a function adds up to over the bars of a size. -/
def sumOf (f : BarD → Int) (l : List BarD) (d : Int) : Int := l.foldl (fun s x => if x.size = d then s + f x else s) 0
def massList (l : List BarD) : List Int := steelSizes.map (sumOf lineMass l)
theorem sumOf_snoc (f : BarD → Int) (l : List BarD) (x : BarD) (d : Int) : sumOf f (l ++ [x]) d = if x.size = d then sumOf f l d + f x else sumOf f l d := by
  simp [sumOf, List.foldl_append]
theorem foldl_range {α : Type} (f : Int → α → Int) (m : Int) (l : List α) (h : ∀ s x, x ∈ l → s ≤ f s x ∧ f s x ≤ s + m) : ∀ s : Int, s ≤ l.foldl f s ∧ l.foldl f s ≤ s + m * l.length := by
  induction l with
  | nil => intro s; simp
  | cons y r ih =>
    intro s
    have h1 := h s y (List.mem_cons_self ..)
    have h2 := ih (fun s x hx => h s x (List.mem_cons_of_mem _ hx)) (f s y)
    simp only [List.foldl_cons, List.length_cons]
    have : m * ((r.length + 1 : Nat) : Int) = m * r.length + m := by rw [Int.natCast_add, Int.mul_add]; simp
    omega
theorem sumMass_range {l : List BarD} (h : ∀ x ∈ l, barOk x = true) (d : Int) : 0 ≤ sumOf lineMass l d ∧ sumOf lineMass l d ≤ 5300000000 * l.length := by
  have := foldl_range (fun s (x : BarD) => if x.size = d then s + lineMass x else s) 5300000000 l (fun s x hx => by
    have := lineMass_range (h x hx)
    split <;> omega) 0
  unfold sumOf
  omega
theorem map_set_nodup (f : Int → Int) (n d : Int) : ∀ (l : List Int) (j : Nat), l.Nodup → l[j]? = some d → (l.map f).set j (f d + n) = l.map (fun e => if d = e then f e + n else f e) := by
  intro l
  induction l with
  | nil => intro j _ h; simp at h
  | cons y r ih =>
    intro j hn h
    rw [List.nodup_cons] at hn
    cases j with
    | zero =>
      simp at h
      subst h
      simp only [List.map_cons, List.set_cons_zero, if_true]
      congr 1
      refine List.map_congr_left fun e he => ?_
      rw [if_neg (by rintro rfl; exact hn.1 he)]
    | succ j =>
      simp at h
      have hne : d ≠ y := by rintro rfl; exact hn.1 (mem_of_get h)
      simp only [List.map_cons, List.set_cons_succ, if_neg hne, ih j hn.2 h]
theorem massList_step {l : List BarD} {x : BarD} {j : Nat} {m : Int} (hj : steelSizes[j]? = some x.size) (hm : (massList l)[j]? = some m) : (massList l).set j (m + lineMass x) = massList (l ++ [x]) := by
  have hm' : m = sumOf lineMass l x.size := by
    simp [massList, hj] at hm
    exact hm.symm
  subst hm'
  rw [massList, map_set_nodup _ _ _ _ _ (by decide) hj, massList]
  refine List.map_congr_left fun e _ => ?_
  rw [sumOf_snoc]

set_option maxHeartbeats 1000000 in
theorem masses_ok (A : Option Addr) (l : List BarD) (n c : Nat) (w : World) {B : Nat} (h : BarsAt w B A l) (hB : B ≤ w.heap.size) (hn : n = l.length) (hg : Tame l) (hok : schedOk l = true) :
    Calls Tryz.prog 68 #[.slice A n c] w fun e w' => ∃ A', e = .returned (.slice A' 9 9) ∧ Ints w' w'.heap.size A' (massList l) ∧ Below w.heap.size w w' := by
  have hn' := hide hn
  have hl60 := schedOk_len hok
  have Hok := hide (schedOk_mem hok)
  have Hg := hide hg
  have hn60 : n ≤ 60 := by omega
  have hmk : ∀ w, (Instr.makeSlice 66 (.int .i64 9) (.int .i64 9)).run Tryz.prog w = .ok (.slice (some ⟨w.heap.size, 0, none⟩) 9 9) (w.alloc (.cells (intCells [0, 0, 0, 0, 0, 0, 0, 0, 0]) 3)) := fun _ => by kernel_rfl
  clear hn hok hg
  go_enter Tryz.func68, Tryz.ntmps68
  go_wp2_with fail
  refine (sizes_any _).mono ?_
  rintro e w1 ⟨S, rfl, hS, hb1⟩
  have h1 := hide (h.carry (hb1.mono hB) (Nat.le_refl _))
  have hB1 := Nat.le_trans hB hb1.size
  have b2 := hide (Blk.new w1 3 (intCells [0, 0, 0, 0, 0, 0, 0, 0, 0]))
  clear h
  go_wp2_with fail
  have hb2 := hide ((Below.refl w1.heap.size w1).alloc (Nat.le_refl _) (.cells (intCells [0, 0, 0, 0, 0, 0, 0, 0, 0]) 3))
  go_loopw [15] (fun i wr => ∃ k : Nat, k ≤ n ∧ i = .int .i64 k ∧ (∃ ms : List Int, Blk wr w1.heap.size 3 (intCells ms) ∧ Hid (ms = massList (l.take k))) ∧ Below w1.heap.size w1 wr) (fun i _ => n - (intOf i).toNat)
  case atStart => exact ⟨0, Nat.zero_le _, rfl, ⟨_, b2.out, hide rfl⟩, hb2.out⟩
  case round =>
    clear b2 hb2 hmk
    obtain ⟨k, hk, rfl, ⟨ms, hbk, hms⟩, hbr⟩ := hrel
    by_cases hlt : k < n
    · have Hr := hide (h1.out.carry (hbr.mono hB1) (Nat.le_refl _))
      obtain ⟨b, off, x, A', c', rfl, hbl, hx, hi, e0, e1, e2, e3, e4⟩ := BarsAt.get (k := k) Hr.out (by rw [← hn'.out]; exact hlt)
      have hbx := Hok.out x (mem_of_get hx)
      have hgx := Hg.out x (mem_of_get hx)
      have hx0 := lineMass_range hbx
      have hBr := Nat.le_trans hB1 hbr.size
      have hbo := fun o => hide ((Below.refl B wr).alloc hBr o)
      have Hx := hide hx
      have Hi := hide hi
      have Hbx := hide hbx
      have Hbk := hide hbk
      have hS2 := hide (hS.carry (hbr) (Nat.le_refl _))
      have hg1 : w1.heap.size < wr.heap.size := hbk.lt
      clear hx hi hbl hbx hbk
      go_wp2_with fail
      refine (bendMass_ok x A' c' _ (Hi.out.carry (hbo _).out (Nat.le_refl _)) (le_alloc hBr _) hgx.1 hgx.2 Hbx.out).mono ?_
      rintro e w3 ⟨rfl, hb3⟩
      have hsz := isSize_mem (barGood_of Hbx.out).size
      obtain ⟨j, hj⟩ := List.getElem?_of_mem hsz
      have hjl := lt_of_get hj
      have hidx := hide (idx_at (x := x.size) (l := steelSizes) (by decide) hj)
      have Hj := hide hj
      have hmj : ∃ m, ms[j]? = some m := by rw [hms.out]; simp [massList, hj]
      obtain ⟨m, hm⟩ := hmj
      have hm0 : 0 ≤ m ∧ m ≤ 318000000000 := by
        have hr := sumMass_range (l := l.take k) (fun y hy => Hok.out y (List.mem_of_mem_take hy)) x.size
        have : m = sumOf lineMass (l.take k) x.size := by
          have h9 := hm
          rw [hms.out] at h9
          simp [massList, hj] at h9
          exact h9.symm
        have hlen : (l.take k).length ≤ 60 := by simp; omega
        omega
      have Hm := hide hm
      have b3 := hide ((Hbk.out.alloc _).keep hb3)
      have hb13 := hide ((hbr.alloc hbr.size _).trans (hb3.mono (le_alloc hbr.size _)))
      have hS3 := hide (hS.carry hb13.out (Nat.le_refl _))
      have c1 := ((Blk.new wr 68 #[.string x.mark, .int .i64 x.size, .int .i64 x.count, .int .i64 x.code, .slice A' x.dims.length c']).keep hb3).cell 1
      simp at c1
      have cj := (b3.out.cell j).trans (intCells_get hm)
      have fj := b3.out.frozen j
      have hj9 : j < 9 := hjl
      clear hsz hj hm hb3 hbo e0 e1 e2 e3 e4 hS hS2
      go_wp2_with fail
      refine (index_any S steelSizes 9 9 x.size _ hS3.out rfl (by omega)).mono ?_
      rintro e w4 ⟨rfl, rfl⟩
      rw [hidx.out]
      go_wp2_with fail
      go_roundw
      case rel => exact ⟨k + 1, by omega, by go_num, ⟨ms.set j (m + lineMass x), by rw [← intCells_set]; exact b3.out.set_ j _, hide (by
        rw [take_snoc' Hx.out, ← massList_step Hj.out (by rw [← hms.out]; exact Hm.out), ← hms.out])⟩, hb13.out.setCell (Nat.le_refl _) _⟩
      case measure => simp [intOf]; omega
    · obtain rfl : k = n := by omega
      have Hbk := hide hbk
      clear hbk
      go_wp2_with fail
      go_ret
      refine ⟨_, rfl, ?_, below_step hb1 hbr (Nat.le_refl _)⟩
      have hms' : ms = massList l := by rw [hms.out, hn'.out, List.take_length]
      rw [← hms']
      exact Ints.of_blk Hbk.out Hbk.out.lt
def qVal (b : Bool) (v : Int) : Int := if b then v else 0
def qErr (b : Bool) (e : Int) : Int := if b then 0 else e
/-- The sum of a list. -/
def total (l : List Int) : Int := l.foldl (fun s n => s + n) 0
theorem total_snoc (l : List Int) (n : Int) : total (l ++ [n]) = total l + n := by simp [total, List.foldl_append]

set_option maxHeartbeats 1000000 in
theorem quantTotal_any (A : Option Addr) (l : List BarD) (n c : Nat) (w : World) {B : Nat} (h : BarsAt w B A l) (hB : B ≤ w.heap.size) (hn : n = l.length) (hg : Tame l) (hm : n ≤ 60000) :
    Calls Tryz.prog 42 #[.slice A n c] w fun e w' => e = .returned (.tuple #[.int .i64 (qVal (schedOk l) (total (massList l))), .int .i64 (qErr (schedOk l) 1)]) ∧ Below w.heap.size w w' := by
  have hn' := hide hn
  have Hg := hide hg
  cases hok : schedOk l
  · have Hok := hide hok
    clear hn hg hok
    go_enter Tryz.func42, Tryz.ntmps42
    go_wp2_with fail
    refine (schedValid_any A l n c _ h hB hn'.out Hg.out hm).mono ?_
    rintro e w1 ⟨rfl, hb1⟩
    rw [Hok.out]
    go_wp2_with fail
    go_ret2
    exact ⟨rfl, hb1⟩
  · have Hok := hide hok
    have hr : ∀ m ∈ massList l, 0 ≤ m ∧ m ≤ 318000000000 := by
      intro m hmm
      obtain ⟨d, _, rfl⟩ := List.mem_map.1 hmm
      have := sumMass_range (schedOk_mem hok) d
      have := schedOk_len hok
      omega
    have Hr := hide hr
    clear hn hg hok hr
    go_enter Tryz.func42, Tryz.ntmps42
    go_wp2_with fail
    refine (schedValid_any A l n c _ h hB hn'.out Hg.out hm).mono ?_
    rintro e w1 ⟨rfl, hb1⟩
    rw [Hok.out]
    have h1 := hide (h.carry (hb1.mono hB) (Nat.le_refl _))
    have hB1 := Nat.le_trans hB hb1.size
    clear h
    go_wp2_with fail
    refine (masses_ok A l n c _ h1.out hB1 hn'.out Hg.out Hok.out).mono ?_
    rintro e w2 ⟨M, rfl, hM, hb2⟩
    have hb := hide (below_step hb1 hb2 (Nat.le_refl _))
    clear hb1 hb2
    go_wp2_with fail
    go_loop [4, 13] (fun s i => ∃ k : Nat, k ≤ 9 ∧ i = .int .i64 k ∧ ∃ t : Int, 0 ≤ t ∧ t ≤ 318000000000 * k ∧ s = .int .i64 t ∧ Hid (t = total ((massList l).take k))) (fun _ i => 9 - (intOf i).toNat)
    case atStart => exact ⟨0, Nat.zero_le _, rfl, 0, by omega, by omega, rfl, hide rfl⟩
    case round =>
      obtain ⟨k, hk, rfl, t, ht0, ht1, rfl, ht⟩ := hrel
      by_cases hlt : k < 9
      · obtain ⟨b, off, y, rfl, hbl, hy, hc⟩ := hM.get (k := k) (by simpa [massList, steelSizes] using hlt)
        obtain ⟨hy0, hy1⟩ := Hr.out y (mem_of_get hy)
        have Hy := hide hy
        clear hy hbl hM
        go_wp2_with fail
        go_round
        case rel => exact ⟨k + 1, by omega, by go_num, t + y, by omega, by omega, rfl, hide (by rw [take_snoc' Hy.out, total_snoc, ← ht.out])⟩
        case measure => simp [intOf]; omega
      · obtain rfl : k = 9 := by omega
        have ht' := hide (show t = qVal true (total (massList l)) by rw [ht.out, List.take_of_length_le (by simp [massList, steelSizes])]; rfl)
        clear ht hM
        go_wp2_with fail
        go_ret2
        exact ⟨ret_ii ht'.out rfl, hb.out⟩
def sumCount (l : List BarD) : Int := l.foldl (fun s x => s + x.count) 0
theorem sumCount_snoc (l : List BarD) (x : BarD) : sumCount (l ++ [x]) = sumCount l + x.count := by simp [sumCount, List.foldl_append]

set_option maxHeartbeats 1000000 in
theorem schedTotal_any (A : Option Addr) (l : List BarD) (n c : Nat) (w : World) {B : Nat} (h : BarsAt w B A l) (hB : B ≤ w.heap.size) (hn : n = l.length) (hg : Tame l) (hm : n ≤ 60000) :
    Calls Tryz.prog 43 #[.slice A n c] w fun e w' => e = .returned (.tuple #[.int .i64 (qVal (schedOk l) (sumCount l)), .int .i64 (qErr (schedOk l) 1)]) ∧ Below w.heap.size w w' := by
  have hn' := hide hn
  have Hg := hide hg
  cases hok : schedOk l
  · have Hok := hide hok
    clear hn hg hok
    go_enter Tryz.func43, Tryz.ntmps43
    go_wp2_with fail
    refine (schedValid_any A l n c _ h hB hn'.out Hg.out hm).mono ?_
    rintro e w1 ⟨rfl, hb1⟩
    rw [Hok.out]
    go_wp2_with fail
    go_ret2
    exact ⟨rfl, hb1⟩
  · have Hok := hide hok
    have Hm := hide (schedOk_mem hok)
    clear hn hg hok
    go_enter Tryz.func43, Tryz.ntmps43
    go_wp2_with fail
    refine (schedValid_any A l n c _ h hB hn'.out Hg.out hm).mono ?_
    rintro e w1 ⟨rfl, hb1⟩
    rw [Hok.out]
    have h1 := hide (h.carry (hb1.mono hB) (Nat.le_refl _))
    have hB1 := Nat.le_trans hB hb1.size
    clear h
    go_wp2_with fail
    go_loopw [4, 12] (fun s i wr => ∃ k : Nat, k ≤ n ∧ i = .int .i64 k ∧ (∃ t : Int, 0 ≤ t ∧ t ≤ 1000 * k ∧ s = .int .i64 t ∧ Hid (t = sumCount (l.take k))) ∧ Below w1.heap.size w1 wr) (fun _ i _ => n - (intOf i).toNat)
    case atStart => exact ⟨0, Nat.zero_le _, rfl, ⟨0, by omega, by omega, rfl, hide rfl⟩, Below.refl _ _⟩
    case round =>
      obtain ⟨k, hk, rfl, ⟨t, ht0, ht1, rfl, ht⟩, hbr⟩ := hrel
      by_cases hlt : k < n
      · obtain ⟨b, off, x, A', c', hA, hbl, hx, hi, e0, e1, e2, e3, e4⟩ := BarsAt.get (k := k) (h1.out.carry (hbr.mono hB1) (Nat.le_refl _)) (by rw [← hn'.out]; exact hlt)
        obtain ⟨hx0, hx1⟩ := (barGood_of (Hm.out x (mem_of_get hx))).count
        have Hx := hide hx
        subst hA
        clear hx hi hbl
        go_wp2_with fail
        go_roundw
        case rel => exact ⟨k + 1, by omega, by go_num, ⟨t + x.count, by omega, by omega, rfl, hide (by rw [take_snoc' Hx.out, sumCount_snoc, ← ht.out])⟩, hbr.alloc hbr.size _⟩
        case measure => simp [intOf]; omega
      · obtain rfl : k = n := by omega
        have ht' := hide (show t = qVal true (sumCount l) by rw [ht.out, hn'.out, List.take_length]; rfl)
        clear ht
        go_wp2_with fail
        go_ret2
        exact ⟨ret_ii ht'.out rfl, below_step hb1 hbr (Nat.le_refl _)⟩

set_option maxHeartbeats 400000 in
theorem masses1_any (x : BarD) (A : Option Addr) (c : Nat) (d : Int) (g : Nat) (w : World) (h0 : w.cell? ⟨g, 0, none⟩ = some (.int .i64 d)) :
    Calls Tryz.prog 71 #[.agg #[.string x.mark, .int .i64 x.size, .int .i64 x.count, .int .i64 x.code, .slice A x.dims.length c], .pointer (some ⟨g, 0, none⟩)] w fun e w' => e = .returned (.bool (x.size == d)) ∧ Below w.heap.size w w' := by
  have hg : g < w.heap.size := World.block_lt_of_cell? w _ h0
  have h1 := fun o => (World.cell?_alloc_lt w o ⟨g, 0, none⟩ hg).trans h0
  go_enter Tryz.func71, Tryz.ntmps71
  go_wp2_with fail
  go_ret
  exact ⟨ret_bool (by rfl), below_new _ _⟩
end Go.Proofs.YtkmpddaobncheaaGreatDoor
namespace Go.Proofs.YtkmpddaobncheaaGreatDoor
open Go.RowKit

def anyOf {α : Type} (p : α → Bool) (l : List α) : Bool := l.any p

set_option maxHeartbeats 400000 in
theorem containsFuncBar_any (A : Option Addr) (l : List BarD) (n c : Nat) (fid : FuncId) (caps : Array Value) (p : BarD → Bool) (w : World) {B : Nat} (h : BarsAt w B A l) (hB : B ≤ w.heap.size) (hn : n = l.length) (hm : n ≤ 60000)
    (hc : ∀ args w, (callFunc fid args).run Tryz.prog w = .ok (.enter fid args) w)
    (hf : ∀ x A' c' (W : World), x ∈ l → Below w.heap.size w W → Ints W B A' x.dims →
      Calls Tryz.prog fid (#[.agg #[.string x.mark, .int .i64 x.size, .int .i64 x.count, .int .i64 x.code, .slice A' x.dims.length c']] ++ caps) W fun e W' => e = .returned (.bool (p x)) ∧ Below W.heap.size W W') :
    Calls Tryz.prog 70 #[.slice A n c, .func (.func fid) #[] caps] w fun e w' => e = .returned (.bool (anyOf p l)) ∧ Below w.heap.size w w' := by
  have Hf := hide hf
  have hn' := hide hn
  have Hc := hide hc
  clear hf hn hc
  go_enter Tryz.func70, Tryz.ntmps70
  go_wp2_with fail
  refine (indexFuncBar_any A l n c fid caps p w h hB hn'.out hm Hc.out Hf.out).mono ?_
  rintro e w1 ⟨rfl, hb⟩
  go_wp2_with fail
  go_ret
  exact ⟨ret_bool (by rw [idx_any]; rfl), hb⟩

def encStep (p : Int × Int) : List Value := [.int .i64 p.1, .int .i64 p.2]
theorem encStep_len (p : Int × Int) : (encStep p).length = 2 := rfl
theorem encStep_one (p : Int × Int) : ∀ u ∈ encStep p, u.oneCell' = true := by
  intro u hu
  simp [encStep] at hu
  rcases hu with rfl | rfl <;> rfl
abbrev StepsAt (w : World) (B : Nat) (A : Option Addr) (l : List (Int × Int)) : Prop := SlOf w B 2 (Flat encStep) A l
def hasSize (l : List BarD) (d : Int) : Bool := anyOf (fun x => x.size == d) l
def massSteps (l : List BarD) (ds : List Int) : List (Int × Int) := (ds.filter (hasSize l)).map fun d => (d, sumOf lineMass l d)
theorem massSteps_snoc (l : List BarD) (ds : List Int) (d : Int) : massSteps l (ds ++ [d]) = if hasSize l d then massSteps l ds ++ [(d, sumOf lineMass l d)] else massSteps l ds := by
  unfold massSteps
  rw [List.filter_append]
  cases h : hasSize l d <;> simp [h]

set_option maxHeartbeats 1000000 in
theorem quantMasses_ok (A : Option Addr) (l : List BarD) (n c : Nat) (w : World) {B : Nat} (h : BarsAt w B A l) (hB : B ≤ w.heap.size) (hn : n = l.length) (hg : Tame l) (hok : schedOk l = true) :
    Calls Tryz.prog 41 #[.slice A n c] w fun e w' => ∃ A' c', e = .returned (.tuple #[.slice A' (massSteps l steelSizes).length c', .int .i64 0]) ∧ StepsAt w' w'.heap.size A' (massSteps l steelSizes) ∧ Below w.heap.size w w' := by
  have hn' := hide hn
  have Hg := hide hg
  have hm : n ≤ 60000 := by have := schedOk_len hok; omega
  have Hok := hide hok
  clear hn hg hok
  go_enter Tryz.func41, Tryz.ntmps41
  go_wp2_with fail
  refine (schedValid_any A l n c _ h hB hn'.out Hg.out hm).mono ?_
  rintro e w1 ⟨rfl, hb1⟩
  rw [Hok.out]
  have h1 := hide (h.carry (hb1.mono hB) (Nat.le_refl _))
  have hB1 := Nat.le_trans hB hb1.size
  clear h
  go_wp2_with fail
  refine (masses_ok A l n c _ h1.out hB1 hn'.out Hg.out Hok.out).mono ?_
  rintro e w2 ⟨M, rfl, hM, hb2⟩
  have h2 := hide (h1.out.carry (hb2.mono hB1) (Nat.le_refl _))
  have hB2 := Nat.le_trans hB1 hb2.size
  have hw2 := hide (below_step hb1 hb2 (Nat.le_refl _))
  clear hb1 hb2 h1
  go_wp2_with fail
  refine (sizes_any _).mono ?_
  rintro e w3 ⟨S, rfl, hS, hb3⟩
  have h3 := hide (h2.out.carry (hb3.mono hB2) (Nat.le_refl _))
  have hM3 := hide (hM.carry hb3 hb3.size)
  have hB3 := Nat.le_trans hB2 hb3.size
  have hw3 := hide (below_step hw2.out hb3 (Nat.le_refl _))
  have HS := hide hS
  clear hb3 h2 hM hw2 hS
  go_wp2_with fail
  go_loopw [5, 15] (fun v i wr => ∃ k : Nat, k ≤ 9 ∧ i = .int .i64 k ∧ (∃ acc, acc.length ≤ k ∧ Row wr w3.heap.size 112 2 encStep v acc ∧ Hid (acc = massSteps l (steelSizes.take k))) ∧ Below w3.heap.size w3 wr) (fun _ i _ => 9 - (intOf i).toNat)
  case atStart => exact ⟨0, Nat.zero_le _, rfl, ⟨[], Nat.le_refl _, Row.nil _ _ _ _ _, hide rfl⟩, Below.refl _ _⟩
  case round =>
    obtain ⟨k, hk, rfl, ⟨acc, hal, hrow, hacc⟩, hbr⟩ := hrel
    obtain ⟨A0, c0, rfl⟩ := hrow.val
    by_cases hlt : k < 9
    · obtain ⟨b, off, d, rfl, hbl, hx, hc0⟩ := HS.out.get (k := k) hlt
      obtain ⟨b', off', m, hM', hbl', hm', hcm⟩ := hM3.out.get (k := k) (by simpa [massList, steelSizes] using hlt)
      subst hM'
      rw [← hbr.cell (by exact hbl)] at hc0
      rw [← hbr.cell (by exact hbl')] at hcm
      have hmd : m = sumOf lineMass l d := by
        simp [massList, hx] at hm'
        exact hm'.symm
      have Hx := hide hx
      have Hmd := hide hmd
      have hl' : b' < wr.heap.size := Nat.lt_of_lt_of_le hbl' hbr.size
      have Hrow := hide hrow
      have hr := hide (h3.out.carry ((hbr.alloc hbr.size (.cells #[.int .i64 d] 3)).mono hB3) (Nat.le_refl _))
      have hBr := hide (Nat.le_trans hB3 (le_alloc hbr.size (.cells #[.int .i64 d] 3)))
      clear hx hbl hm' hmd hrow hM3
      go_wp2_with fail
      refine (containsFuncBar_any A l n c 71 #[.pointer (some ⟨wr.heap.size, 0, none⟩)] (fun x => x.size == d) _ hr.out hBr.out hn'.out hm Tryz.call71 (fun x A' c' W _ hb _ => masses1_any x A' c' d wr.heap.size W (by have h0 := ((Blk.new wr 3 #[.int .i64 d]).keep hb).cell 0; simpa using h0))).mono ?_
      rintro e w4 ⟨rfl, hb4⟩
      have B4 := hide ((Blk.new wr 3 #[.int .i64 d]).keep hb4)
      have hc4 := B4.out.cell 0
      simp at hc4
      have hcm4 : w4.cell? ⟨b', off' + k, none⟩ = some (.int .i64 m) := by
        rw [hb4.cell (by simp; omega), World.cell?_alloc_lt _ _ _ (by exact hl')]; exact hcm
      have hrow4 := hide ((Hrow.out.alloc _).keep hb4)
      have hb43 := hide ((hbr.alloc hbr.size _).trans (hb4.mono (le_alloc hbr.size _)))
      have hlt5 : b' < w3.heap.size := hbl'
      have hl4 : b' < w4.heap.size := Nat.lt_of_lt_of_le hl' (Nat.le_trans (by simp) hb4.size)
      have hl5 : wr.heap.size < w4.heap.size := B4.out.lt
      clear hcm hc0 hb4 hr hBr
      cases hh : anyOf (fun x : BarD => x.size == d) l
      · have Hh := hide hh
        clear hh
        go_wp2_with fail
        go_roundw
        case rel => exact ⟨k + 1, by omega, by go_num, ⟨acc, by omega, hrow4.out, hide (by rw [take_snoc' Hx.out, massSteps_snoc, hasSize, Hh.out]; exact hacc.out)⟩, hb43.out⟩
        case measure => simp [intOf]; omega
      · have Hh := hide hh
        clear hh
        go_wp2_with fail
        go_region_held3 (fun w' => w'.cell? ⟨wr.heap.size, 0, none⟩ = some (.int .i64 d) ∧ w'.cell? ⟨b', off' + k, none⟩ = some (.int .i64 m)) (first | go_keep | (exact ⟨by have h9 := (hkeep5 _ _ _ (by decide) ((B4.out.drew).alloc _)).cell 0; simpa using h9, by rw [hb5.cell (by exact hlt5)]; simp [World.cell?_drew, World.cell?_alloc_lt, hl4, hcm4]⟩))
          ((refine step_append1 (by rfl) (.tmp 23) (.tmp 30) 52 (by rfl) w3.heap.size 112 (.agg #[.int .i64 0, .int .i64 0]) 2 16 encStep Tryz.underlying52 (by kernel_rfl) rfl (by omega) encStep_len encStep_one _ acc (d, m) (by rfl) ((hrow4.out.drew).alloc _) _ (by rfl) (Blk.new _ _ _) (by omega) (by omega) (le_alloc hb43.out.size _) ?_; intro A1 c1 w5 hrow5 hb5 hkeep5))
        have hb53 := hide (((hb43.out.alloc hb43.out.size _).drew).trans hb5)
        clear hkeep5 hb5
        go_wp2_with fail
        go_roundw
        case rel => exact ⟨k + 1, by omega, by go_num, ⟨acc ++ [(d, m)], by simp; omega, hrow5, hide (by rw [take_snoc' Hx.out, massSteps_snoc, hasSize, Hh.out, ← Hmd.out, ← hacc.out]; rfl)⟩, hb53.out⟩
        case measure => simp [intOf]; omega
    · obtain rfl : k = 9 := by omega
      have hacc' : acc = massSteps l steelSizes := by rw [hacc.out]; rfl
      subst hacc'
      have Hrow := hide hrow
      clear hrow
      go_wp2_with fail
      go_ret2
      exact ⟨_, _, rfl, Row.read Hrow.out encStep_len (by omega), below_step hw3.out hbr (Nat.le_refl _)⟩

end Go.Proofs.YtkmpddaobncheaaGreatDoor
namespace Go.Proofs.YtkmpddaobncheaaGreatDoor
open Go.RowKit

theorem IsBuilder.keep {T e B b : Nat} {bs : List Value} {w w' : World} (h : Lib.IsBuilder T e B b bs w) (hb : Below w.heap.size w w') : Lib.IsBuilder T e B b bs w' := by
  rcases h with ⟨h1, v, hbk, hown, hne⟩ | ⟨h1, v, hbk, hown, hne⟩
  · exact .inl ⟨h1, v, (hb.block b (Blk.lt (cs := _) hbk)).trans hbk, hown.kept (row := none) ⟨hb.os, hb.tape, hb.output, hb.size, fun k hk _ => hb.block k hk⟩ (by cases v.ownBlock <;> simp), hne⟩
  · exact .inr ⟨h1, v, (hb.block b (Blk.lt (cs := _) hbk)).trans hbk, hown.kept (row := none) ⟨hb.os, hb.tape, hb.output, hb.size, fun k hk _ => hb.block k hk⟩ (by cases v.ownBlock <;> simp), hne⟩
theorem IsBuilder.lt {T e B b : Nat} {bs : List Value} {w : World} (h : Lib.IsBuilder T e B b bs w) : b < w.heap.size := by
  rcases h with h | h <;> exact h.lt
/-- The builder of block b, of type T, with the bytes l. -/
abbrev Bld (w : World) (T B b : Nat) (l : List UInt8) : Prop := Lib.IsBuilder T 5 B b (Lib.byteCells l) w
/-- Whatever is no byte row and not block b is as it was. -/
def Spares (b : Nat) (w w' : World) : Prop := ∀ g t cs, g ≠ b → t ≠ 5 → Blk w g t cs → Blk w' g t cs
theorem Spares.refl (b : Nat) (w : World) : Spares b w w := fun _ _ _ _ _ h => h
theorem Spares.trans {b : Nat} {u v w : World} (h : Spares b u v) (k : Spares b v w) : Spares b u w := fun g t cs h1 h2 h3 => k g t cs h1 h2 (h g t cs h1 h2 h3)
theorem Spares.set {b : Nat} {u w : World} (h : Spares b u w) (i : Nat) (v : Value) : Spares b u (w.setCell ⟨b, i, none⟩ v) := fun g t cs h1 h2 h3 => (h g t cs h1 h2 h3).far (p := ⟨b, i, none⟩) h1 v
theorem Spares.keep {b : Nat} {u w w' : World} (h : Spares b u w) (hb : Below w.heap.size w w') : Spares b u w' := fun g t cs h1 h2 h3 => (h g t cs h1 h2 h3).keep hb
theorem Spares.grown {b : Nat} {u w w' : World} {v : Value} {B n : Nat} {xs : List Value} (h : Spares b u w) (hown : w.ownsRow B 5 1 v n xs) (hg : w.grownBy w' v.ownBlock) : Spares b u w' :=
  fun g t cs h1 h2 h3 => (h g t cs h1 h2 h3).grown hg (fun he => Lib.ownBlock_ne hown (h g t cs h1 h2 h3) h2 he.symm)
/-- What is asked of the type of the block in which a builder lies first. -/
structure BldType (T : Nat) : Prop where
  lies : liesAt Tryz.prog (Tryz.prog).depth T (2 / (Tryz.prog).cellsOf T) 0 78 1 = true
  ne : T ≠ 5
theorem Tryz.sizeBuilder : ((Tryz.prog).info? 78).map (·.size) = some 2 := by kernel_rfl
theorem Tryz.infoByte : ((Tryz.prog).info? 5).map (fun i => (i.zero, i.size, i.bytes)) = some (some (.int .u8 0), 1, 1) := by kernel_rfl

set_option maxHeartbeats 1000000 in
set_option maxRecDepth 100000 in
theorem copyCheck_used (b : Nat) (w : World) (h0 : w.cell? ⟨b, 0, none⟩ = some (.pointer (some ⟨b, 0, none⟩))) :
    Calls Tryz.prog 75 #[.pointer (some ⟨b, 0, none⟩)] w fun e w' => e = .returned (.tuple #[]) ∧ w' = w := by
  obtain ⟨j, hj, _⟩ := Option.map_eq_some_iff.1 Tryz.sizeBuilder
  go_enter Tryz.func75, Tryz.ntmps75
  go_wp2
  rw [Lib.run_neq_ptr_same w _ Tryz.underlying75 hj]
  go_wp2
  go_end0
  exact ⟨rfl, rfl⟩

set_option maxHeartbeats 1000000 in
set_option maxRecDepth 100000 in
theorem copyCheck_fresh (T : Nat) (hT : BldType T) (b : Nat) (w : World) (h0 : w.cell? ⟨b, 0, none⟩ = some (.pointer none)) (hsh : w.shape? b = some (T, 2)) (hfz : w.frozen? ⟨b, 0, none⟩ = false) :
    Calls Tryz.prog 75 #[.pointer (some ⟨b, 0, none⟩)] w fun e w' => e = .returned (.tuple #[]) ∧ w' = w.setCell ⟨b, 0, none⟩ (.pointer (some ⟨b, 0, none⟩)) := by
  obtain ⟨j, hj, hjs⟩ := Option.map_eq_some_iff.1 Tryz.sizeBuilder
  go_enter Tryz.func75, Tryz.ntmps75
  go_wp2
  rw [Lib.run_to_unsafe w ⟨b, 0, none⟩ Tryz.underlying75 Tryz.underlying193 hj (by rw [hjs]; decide) hsh (Nat.zero_lt_succ 1)]
  simp only [Result.andThen]
  rw [Oper.upon_value]
  go_wp2
  rw [run_callFunc_extern Tryz.func120 (by kernel_rfl) (by kernel_rfl) (by kernel_rfl) (e := Extern.AbiNoEscape.same) (by kernel_rfl)]
  rw [Lib.run_noEscape]
  simp only [Result.andThen]
  rw [Oper.upon_value]
  go_wp2
  rw [Lib.run_from_unsafe w ⟨b, 0, none⟩ Tryz.underlying193 Tryz.underlying75 hj hsh hT.lies]
  simp only [Result.andThen]
  rw [Oper.upon_value]
  go_wp2
  go_end0
  exact ⟨rfl, rfl⟩
theorem copyCheck_any (T : Nat) (hT : BldType T) (B b : Nat) (bs : List Value) (w : World) (h : Lib.IsBuilder T 5 B b bs w) :
    Calls Tryz.prog 75 #[.pointer (some ⟨b, 0, none⟩)] w fun e w' => e = .returned (.tuple #[]) ∧ (Lib.BuilderAt T 5 B b (.pointer (some ⟨b, 0, none⟩)) bs w' ∧ Below B w w' ∧ Spares b w w') := by
  rcases h with h | h
  · refine (copyCheck_fresh T hT b w h.cell0 h.shape h.frozen0).mono ?_
    rintro e w' ⟨rfl, rfl⟩
    exact ⟨rfl, h.used _, (Below.refl B w).setCell (p := ⟨b, 0, none⟩) h.1 _, (Spares.refl b w).set _ _⟩
  · refine (copyCheck_used b w h.cell0).mono ?_
    rintro e w' ⟨rfl, rfl⟩
    exact ⟨rfl, h, Below.refl B _, Spares.refl b _⟩

set_option maxHeartbeats 2000000 in
set_option maxRecDepth 100000 in
theorem writeByte_any (T : Nat) (hT : BldType T) (B b : Nat) (l : List UInt8) (c : UInt8) (cn : Int) (w : World) (hcn : (c.toNat : Int) = cn) (h : Bld w T B b l) (hlen : l.length ≤ 100000000000) (hBw : B ≤ w.heap.size) :
    Calls Tryz.prog 48 #[.pointer (some ⟨b, 0, none⟩), .int .u8 cn] w fun e w' => e = .returned .nilIface ∧ Bld w' T B b (l ++ [c]) ∧ Below B w w' ∧ Spares b w w' := by
  subst hcn
  obtain ⟨i0, hi, hz0, hz1, hz2⟩ := info_parts Tryz.infoByte
  have hbl := Lib.byteCells_length l
  go_enter Tryz.func48, Tryz.ntmps48
  go_wp2_with (go_at_call 75; refine (copyCheck_any T hT B b _ _ h).mono ?_)
  rintro e w1 ⟨rfl, h1, hb1, hsp1⟩
  have Hsp := hide hsp1
  clear hsp1
  obtain ⟨hB, v, hbk, hown, hne⟩ := h1
  have c0 : w1.cell? ⟨b, 0, none⟩ = some (.pointer (some ⟨b, 0, none⟩)) := by rw [Lib.cell_of_heap hbk]; rfl
  have c1 : w1.cell? ⟨b, 1, none⟩ = some v := by rw [Lib.cell_of_heap hbk]; rfl
  go_wp2_with (at_builtin; refine wpList_append_own _ rfl _ _ 76 rfl B 5 i0 (.int .u8 0) 1 1 Tryz.underlying76 hi hz0 hz1 hz2 rfl (by decide) _ _ _ rfl (hown.alloc _) ⟨w1.heap.size, 0, none⟩ 1 1 [.int .u8 c.toNat] rfl rfl ?c1 ?c2 ?c3 ?c4 ?c5 ?_)
  case c1 =>
    intro j u hj
    match j, hj with
    | 0, hj => simp at hj; subst hj; simp [Addr.add]
  case c2 => intro u hu; simp at hu; subst hu; rfl
  case c3 => unfold maxLen; omega
  case c4 => omega
  case c5 => have := hb1.size; simp; omega
  intro v' w2 hown' hgrow _
  have hlt : b < w1.heap.size := Blk.lt (cs := _) hbk
  have hb2 : w2.heap[b]? = some (.cells #[.pointer (some ⟨b, 0, none⟩), v] T (0, 0)) := by
    rw [hgrow.block b (by simp; omega) (fun e => hne e.symm), Lib.alloc_old w1 _ b hlt]
    exact hbk
  have d0 : w2.cell? ⟨b, 0, none⟩ = some (.pointer (some ⟨b, 0, none⟩)) := by rw [Lib.cell_of_heap hb2]; rfl
  have d1 : w2.cell? ⟨b, 1, none⟩ = some v := by rw [Lib.cell_of_heap hb2]; rfl
  have f1 : w2.frozen? ⟨b, 1, none⟩ = false := Lib.frozen_of_heap hb2 1
  obtain ⟨g, cap, rfl⟩ : ∃ g cap, v' = .slice (some ⟨g, 0, none⟩) (l.length + 1) cap := by
    rcases hown'.2 with ⟨_, h0⟩ | ⟨g, cap, cur, hv, _⟩
    · omega
    · exact ⟨g, cap, hv⟩
  go_wp2
  go_ret
  refine ⟨rfl, .inr ?_, ?_, ?_⟩
  · exact Lib.BuilderAt.put (T := T) (e := 5) hB hb2 (bs' := Lib.byteCells (l ++ [c])) (by simpa [Lib.byteCells] using hown') hT.ne
  · exact ((hb1.alloc (by have := hb1.size; omega) _).grown hgrow (by have := hb1.size; simp; omega) (fun k hk => (hown.lt k hk).1)).setCell (p := ⟨b, 1, none⟩) hB _
  · exact ((Hsp.out.keep (below_new _ _)).grown (hown.alloc _) hgrow).set _ _

set_option maxHeartbeats 2000000 in
set_option maxRecDepth 100000 in
theorem writeString_any (T : Nat) (hT : BldType T) (B b : Nat) (l : List UInt8) (s : ByteArray) (w : World) (h : Bld w T B b l) (hlen : l.length ≤ 100000000000) (hs : s.size ≤ 10000000000) (hBw : B ≤ w.heap.size) :
    Calls Tryz.prog 49 #[.pointer (some ⟨b, 0, none⟩), .string s] w fun e w' => e = .returned (.tuple #[.int .i64 s.size, .nilIface]) ∧ Bld w' T B b (l ++ s.data.toList) ∧ Below B w w' ∧ Spares b w w' := by
  obtain ⟨i0, hi, hz0, hz1, hz2⟩ := info_parts Tryz.infoByte
  have hbl := Lib.byteCells_length l
  go_enter Tryz.func49, Tryz.ntmps49
  go_wp2_with (go_at_call 75; refine (copyCheck_any T hT B b _ _ h).mono ?_)
  rintro e w1 ⟨rfl, h1, hb1, hsp1⟩
  have Hsp := hide hsp1
  clear hsp1
  obtain ⟨hB, v, hbk, hown, hne⟩ := h1
  have c0 : w1.cell? ⟨b, 0, none⟩ = some (.pointer (some ⟨b, 0, none⟩)) := by rw [Lib.cell_of_heap hbk]; rfl
  have c1 : w1.cell? ⟨b, 1, none⟩ = some v := by rw [Lib.cell_of_heap hbk]; rfl
  go_wp2_with (at_builtin; refine Lib.wpList_append_own_string _ rfl _ _ 76 9 rfl B 5 i0 Tryz.underlying76 Tryz.underlying9 hi hz0 hz1 hz2 _ _ _ rfl hown s rfl ?c3 ?c4 ?c5 ?_)
  case c3 => unfold maxLen; omega
  case c4 => omega
  case c5 => have := hb1.size; omega
  intro v' w2 hown' hgrow _
  have hlt : b < w1.heap.size := Blk.lt (cs := _) hbk
  have hb2 : w2.heap[b]? = some (.cells #[.pointer (some ⟨b, 0, none⟩), v] T (0, 0)) := by
    rw [hgrow.block b hlt (fun e => hne e.symm)]
    exact hbk
  have d0 : w2.cell? ⟨b, 0, none⟩ = some (.pointer (some ⟨b, 0, none⟩)) := by rw [Lib.cell_of_heap hb2]; rfl
  have d1 : w2.cell? ⟨b, 1, none⟩ = some v := by rw [Lib.cell_of_heap hb2]; rfl
  have f1 : w2.frozen? ⟨b, 1, none⟩ = false := Lib.frozen_of_heap hb2 1
  obtain ⟨ao, n', cap, rfl⟩ : ∃ ao n' cap, v' = .slice ao n' cap := by
    rcases hown'.2 with ⟨hv, _⟩ | ⟨g, cap, cur, hv, _⟩
    · exact ⟨_, _, _, hv⟩
    · exact ⟨_, _, _, hv⟩
  go_wp2
  go_ret2
  refine ⟨rfl, .inr ?_, ?_, ?_⟩
  · exact Lib.BuilderAt.put (T := T) (e := 5) hB hb2 (bs' := Lib.byteCells (l ++ s.data.toList)) (by simpa [Lib.byteCells, Lib.strCells, Lib.strCells_length] using hown') hT.ne
  · exact (hb1.grown hgrow (by have := hb1.size; omega) (fun k hk => (hown.lt k hk).1)).setCell (p := ⟨b, 1, none⟩) hB _
  · exact (Hsp.out.grown hown hgrow).set _ _

set_option maxHeartbeats 2000000 in
set_option maxRecDepth 100000 in
theorem builderString_some (T : Nat) (B b : Nat) (l : List UInt8) (w : World) (h : Bld w T B b l) (h0 : l ≠ []) :
    Calls Tryz.prog 23 #[.pointer (some ⟨b, 0, none⟩)] w fun e w' => e = .returned (.string ⟨l.toArray⟩) ∧ Below B w w' := by
  obtain ⟨p, hB, v, hbk, hown, hne⟩ : ∃ p, Lib.BuilderAt T 5 B b p (Lib.byteCells l) w := by
    rcases h with h | h
    · exact ⟨_, h⟩
    · exact ⟨_, h⟩
  have hl0 : l.length ≠ 0 := by simpa using h0
  rw [Lib.byteCells_length] at hown
  obtain ⟨g, cap, cur, rfl, hbg, hg, hnc, hcm, hcs, htake⟩ : ∃ g cap cur, v = .slice (some ⟨g, 0, none⟩) l.length cap ∧ B ≤ g ∧ w.heap[g]? = some (.cells cur 5 (0, 0)) ∧ l.length ≤ cap ∧ cap ≤ maxLen ∧ cur.size = cap * 1 ∧ cur.toList.take (l.length * 1) = Lib.byteCells l := by
    rcases hown.2 with ⟨_, hz⟩ | ⟨g, cap, cur, hv, r⟩
    · exact absurd hz hl0
    · exact ⟨g, cap, cur, hv, r⟩
  have c1 : w.drew.cell? ⟨b, 1, none⟩ = some (.slice (some ⟨g, 0, none⟩) l.length cap) := by
    have : w.drew.heap[b]? = some (.cells #[p, .slice (some ⟨g, 0, none⟩) l.length cap] T (0, 0)) := hbk
    rw [Lib.cell_of_heap this]; rfl
  have hSD : (Builtin.unsafeSliceData_ #[76] 127 #[.slice (some ⟨g, 0, none⟩) l.length cap]).run Tryz.prog w.drew = .ok (.pointer (some ⟨g, 0, none⟩)) w.drew :=
    Lib.run_unsafeSliceData_row _ _ _ _ _ _ (by omega)
  have hUS : (Builtin.unsafeString_ #[127, 3] 9 #[.pointer (some ⟨g, 0, none⟩), .int .i64 l.length]).run Tryz.prog w.drew = .ok (.string ⟨l.toArray⟩) (w.drew.freeze ⟨g, 0, none⟩ l.length) := by
    refine Lib.run_unsafeString_row w.drew 127 3 9 5 Tryz.underlying127 (by kernel_rfl) g cur.size (by have hg' : w.drew.heap[g]? = some (.cells cur 5 (0, 0)) := hg; simp [World.shape?, hg']) l h0 (by omega) (by unfold maxLen at hcm; omega) ?_
    intro j x hx
    have := hown.cells (g := g) rfl j (.int .u8 x.toNat) (by simp [Lib.byteCells, hx])
    exact this
  go_enter Tryz.func23, Tryz.ntmps23
  go_wp2
  go_region
  all_goals (go_wp2; go_ret; exact ⟨rfl, Lib.below_freeze (Below.drew (Below.refl B w)) (p := ⟨g, 0, none⟩) hbg _⟩)
end Go.Proofs.YtkmpddaobncheaaGreatDoor
