/- Plain: what boxes cover; a binary search; the cover of a leg. -/
import Derived.Test.YtpaanfjjnjjoeaaGreatRQbc
import Derived.Lib.SlicesCompact
import Derived.Test.YtpaanfjjnjjoeaaGreatRQaa
import Derived.Test.YtpaanfjjnjjoeaaGreatRQae
import Derived.Deep.QuietTactic
import Derived.BigQuiet
import Derived.Test.YtpaanfjjnjjoeaaGreatRQag
import Derived.Test.YtpaanfjjnjjoeaaGreatRQaw
import Derived.Test.YtpaanfjjnjjoeaaGreatRQbd
import Derived.StillTailTactics
namespace Go.Proofs.YtpaanfjjnjjoeaaGreat
open Go.RowKit
def betw (u v : Int) (n : Int) : Bool := decide (u < n) && decide (n < v)
def endsAt (k : Nat) (b : BoxD) : List Int := match (axes b)[k]? with | some p => [p.1, p.2] | none => []
def cutAt (l : List BoxD) (k : Nat) (u v : Int) : List Int := (l.flatMap (endsAt k)).filter (betw u v)
def pairsOf : List Int → List (Int × Int)
 | a :: b :: r => (a, b) :: pairsOf (b :: r)
 | _ => []
def partsAt (l : List BoxD) (k : Nat) (u v : Int) : List (Int × Int) := if u = v then [(u, u)] else pairsOf (Lib.compact (((u :: v :: cutAt l k u v)).mergeSort (· ≤ ·)))
def partBox (x y z : Int × Int) : BoxD := ⟨(x.1, y.1, z.1), (x.2, y.2, z.2)⟩
def coversB (l : List BoxD) (b : BoxD) : Bool :=
 (partsAt l 0 b.lo.1 b.hi.1).all fun x => (partsAt l 1 b.lo.2.1 b.hi.2.1).all fun y => (partsAt l 2 b.lo.2.2 b.hi.2.2).all fun z => l.any (holdsAt (partBox x y z))
def heldB (bs hs : List BoxD) (b : BoxD) : Bool := boxOk b && (!someOf (opensAt b) hs && coversB bs b)
def searchIn (p : Nat → Bool) : Nat → Nat → Nat → Nat
 | 0, i, _ => i
 | f + 1, i, j => if i < j then (if p ((i + j) / 2) then searchIn p f i ((i + j) / 2) else searchIn p f ((i + j) / 2 + 1) j) else i
theorem search_pos (p : Nat → Bool) (h0 : p 0 = false) : ∀ f i j, j - i ≤ f → i ≤ j → (0 < i ∨ 0 < j) → 0 < searchIn p f i j := by
 intro f
 induction f with
 | zero =>
  intro i j h1 h2 h3
  rw [searchIn]
  omega
 | succ f ih =>
  intro i j h1 h2 h3
  rw [searchIn]
  by_cases hij : i < j
  ·rw [if_pos hij]
   by_cases hp : p ((i + j) / 2) = true
   ·rw [if_pos hp]
    have hne : (i + j) / 2 ≠ 0 := by
     intro h
     rw [h, h0] at hp
     cases hp
    exact ih _ _ (by omega) (by omega) (by omega)
   ·rw [if_neg hp]
    exact ih _ _ (by omega) (by omega) (by omega)
  ·rw [if_neg hij]
   omega
theorem search_more (p : Nat → Bool) : ∀ f i j, j - i ≤ f → ∀ g, j - i ≤ g → searchIn p f i j = searchIn p g i j := by
 intro f
 induction f with
 | zero =>
  intro i j h g hg
  cases g with
  | zero => rfl
  | succ g => rw [searchIn, searchIn, if_neg (by omega)]
 | succ f ih =>
  intro i j h g hg
  cases g with
  | zero => rw [searchIn, searchIn, if_neg (by omega)]
  | succ g =>
   rw [searchIn, searchIn]
   by_cases hij : i < j
   ·rw [if_pos hij, if_pos hij, ih i ((i + j) / 2) (by omega) g (by omega), ih ((i + j) / 2 + 1) j (by omega) g (by omega)]
   ·rw [if_neg hij, if_neg hij]
theorem search_le (p : Nat → Bool) : ∀ f i j, i ≤ j → i ≤ searchIn p f i j ∧ searchIn p f i j ≤ j := by
 intro f
 induction f with
 | zero => intro i j h; rw [searchIn]; omega
 | succ f ih =>
  intro i j h
  rw [searchIn]
  by_cases hij : i < j
  ·rw [if_pos hij]
   by_cases hp : p ((i + j) / 2) = true
   ·rw [if_pos hp]
    have := ih i ((i + j) / 2) (by omega)
    omega
   ·rw [if_neg hp]
    have := ih ((i + j) / 2 + 1) j (by omega)
    omega
  ·rw [if_neg hij]
   omega
def searchB (p : Nat → Bool) (n : Nat) : Nat := searchIn p n 0 n
def growBy (b : BoxD) (c : Int) : BoxD := ⟨(b.lo.1 - c, b.lo.2.1 - c, b.lo.2.2 - c), (b.hi.1 + c, b.hi.2.1 + c, b.hi.2.2 + c)⟩
def roundOf (d : Int) : Int := (d + 1) / 2
def notHeld (m : MemD) (b : BoxD) (c : Nat) : Bool := !heldB m.boxes m.holes (growBy b c)
def coverAt (m : MemD) (b : BoxD) : Int := (searchB (notHeld m b) 2097153 : Nat) - 1
def coverOf (m : MemD) (d : Int) (leg : BoxD) : Int := if boxOk (growBy leg (roundOf d)) then coverAt m (growBy leg (roundOf d)) else -1
def leastOf (m : MemD) (d : Int) (legs : List BoxD) : Int := legs.foldl (fun a l => min a (coverOf m d l)) 2097152
structure FinD where
 kind : Int
 name : ByteArray
def coverFin (m : MemD) (x : LaidD) : List FinD := if leastOf m x.bar.size (legsOfPts x.pts) < m.cover then [⟨1, x.bar.mark⟩] else []
def coverAll (m : MemD) (l : List LaidD) : List FinD := l.flatMap (coverFin m)
theorem cover_pos {m : MemD} {b : BoxD} (h : heldB m.boxes m.holes (growBy b 0) = true) : 0 ≤ coverAt m b := by
 have h1 := search_pos (notHeld m b) (by simp [notHeld, h]) 2097153 0 2097153 (by omega) (by omega) (by omega)
 show 0 ≤ ((searchIn (notHeld m b) 2097153 0 2097153 : Nat) : Int) - 1
 omega
theorem pairs_mem : ∀ l : List Int, l.Pairwise (· < ·) → ∀ p ∈ pairsOf l, p.1 ∈ l ∧ p.2 ∈ l ∧ p.1 < p.2 ∧ ∀ s ∈ l, ¬ (p.1 < s ∧ s < p.2)
 | [], _, p, hp => by simp [pairsOf] at hp
 | [a], _, p, hp => by simp [pairsOf] at hp
 | a :: b :: r, h, p, hp => by
  rw [List.pairwise_cons] at h
  obtain ⟨h1, h2⟩ := h
  rw [pairsOf, List.mem_cons] at hp
  rcases hp with rfl | hp
  ·refine ⟨by simp, by simp, h1 b (by simp), fun s hs => ?_⟩
   have h3 := (List.pairwise_cons.1 h2).1
   rcases List.mem_cons.1 hs with rfl | hs
   ·simp
   rcases List.mem_cons.1 hs with rfl | hs
   ·simp
   ·have := h3 s hs
    simp only
    omega
  ·obtain ⟨g1, g2, g3, g4⟩ := pairs_mem (b :: r) h2 p hp
   refine ⟨List.mem_cons_of_mem _ g1, List.mem_cons_of_mem _ g2, g3, fun s hs => ?_⟩
   rcases List.mem_cons.1 hs with rfl | hs
   ·have := h1 _ g1
    omega
   ·exact g4 s hs
theorem pairs_cover : ∀ (l : List Int) (t : Int), l.Pairwise (· < ·) → 2 ≤ l.length → (∃ s ∈ l, 2 * s ≤ t) → (∃ s ∈ l, t ≤ 2 * s) → ∃ p ∈ pairsOf l, 2 * p.1 ≤ t ∧ t ≤ 2 * p.2
 | [], _, _, h, _, _ => by simp at h
 | [a], _, _, h, _, _ => by simp at h
 | a :: b :: r, t, h, _, ⟨s, hs, h1⟩, ⟨q, hq, h2⟩ => by
  rw [List.pairwise_cons] at h
  obtain ⟨h3, h4⟩ := h
  by_cases hb : t ≤ 2 * b
  ·refine ⟨(a, b), by simp [pairsOf], ?_, hb⟩
   rcases List.mem_cons.1 hs with rfl | hs
   ·exact h1
   ·have := h3 s hs
    simp only
    omega
  ·cases r with
   | nil =>
    exfalso
    rcases List.mem_cons.1 hq with rfl | hq
    ·have := h3 b (by simp)
     omega
    ·simp at hq
     subst hq
     omega
   | cons c r =>
    have hq2 : q ∈ b :: c :: r := by
     rcases List.mem_cons.1 hq with rfl | hq
     ·have := h3 b (by simp)
      omega
     ·exact hq
    obtain ⟨p, hp, g⟩ := pairs_cover (b :: c :: r) t h4 (by simp) ⟨b, by simp, by omega⟩ ⟨q, hq2, h2⟩
    exact ⟨p, by rw [pairsOf]; exact List.mem_cons_of_mem _ hp, g⟩
theorem cut_mem {l : List BoxD} {k : Nat} {u v n : Int} : n ∈ cutAt l k u v ↔ (∃ b ∈ l, n ∈ endsAt k b) ∧ u < n ∧ n < v := by
 simp [cutAt, betw, List.mem_filter, List.mem_flatMap]
theorem parts_cover {l : List BoxD} {k : Nat} {u v t : Int} (_h : u ≤ v) (h1 : 2 * u ≤ t) (h2 : t ≤ 2 * v) : ∃ p ∈ partsAt l k u v, 2 * p.1 ≤ t ∧ t ≤ 2 * p.2 := by
 unfold partsAt
 by_cases huv : u = v
 ·rw [if_pos huv]
  exact ⟨(u, u), by simp, h1, by simp only; omega⟩
 ·rw [if_neg huv]
  obtain ⟨g1, g2⟩ := compact_sorted (u :: v :: cutAt l k u v)
  have hu := (g2 u).2 (by simp)
  have hv := (g2 v).2 (by simp)
  refine pairs_cover _ t g1 ?_ ⟨u, hu, h1⟩ ⟨v, hv, h2⟩
  cases hS : Lib.compact ((u :: v :: cutAt l k u v).mergeSort fun x y => decide (x ≤ y)) with
  | nil => rw [hS] at hu; cases hu
  | cons a r =>
   cases r with
   | nil =>
    rw [hS] at hu hv
    simp at hu hv
    omega
   | cons b r => simp
theorem parts_mem {l : List BoxD} {k : Nat} {u v : Int} (h : u ≤ v) {p : Int × Int} (hp : p ∈ partsAt l k u v) : u ≤ p.1 ∧ p.1 ≤ p.2 ∧ p.2 ≤ v ∧ ∀ b ∈ l, ∀ n ∈ endsAt k b, ¬ (p.1 < n ∧ n < p.2) := by
 unfold partsAt at hp
 by_cases huv : u = v
 ·rw [if_pos huv] at hp
  simp at hp
  subst hp
  refine ⟨Int.le_refl _, Int.le_refl _, h, fun b _ n _ => ?_⟩
  simp only
  omega
 ·rw [if_neg huv] at hp
  obtain ⟨g1, g2⟩ := compact_sorted (u :: v :: cutAt l k u v)
  obtain ⟨m1, m2, m3, m4⟩ := pairs_mem _ g1 p hp
  have key : ∀ n, n ∈ u :: v :: cutAt l k u v → u ≤ n ∧ n ≤ v := by
   intro n hn
   rcases List.mem_cons.1 hn with rfl | hn
   ·omega
   rcases List.mem_cons.1 hn with rfl | hn
   ·omega
   ·have := (cut_mem.1 hn).2
    omega
  have k1 := key _ ((g2 _).1 m1)
  have k2 := key _ ((g2 _).1 m2)
  refine ⟨k1.1, by omega, k2.2, fun b hb n hn hlt => ?_⟩
  exact m4 n ((g2 n).2 (List.mem_cons_of_mem _ (List.mem_cons_of_mem _ (cut_mem.2 ⟨⟨b, hb, hn⟩, by omega, by omega⟩)))) hlt
def hasPt (a : BoxD) (t : Pt) : Prop := (2 * a.lo.1 ≤ t.1 ∧ t.1 ≤ 2 * a.hi.1) ∧ (2 * a.lo.2.1 ≤ t.2.1 ∧ t.2.1 ≤ 2 * a.hi.2.1) ∧ (2 * a.lo.2.2 ≤ t.2.2 ∧ t.2.2 ≤ 2 * a.hi.2.2)
def orderly (b : BoxD) : Prop := b.lo.1 ≤ b.hi.1 ∧ b.lo.2.1 ≤ b.hi.2.1 ∧ b.lo.2.2 ≤ b.hi.2.2
theorem covers_iff {l : List BoxD} {b : BoxD} (h : orderly b) : coversB l b = true ↔ ∀ t, hasPt b t → ∃ a ∈ l, hasPt a t := by
 obtain ⟨o1, o2, o3⟩ := h
 simp only [coversB, List.all_eq_true, List.any_eq_true, holdsAt, holdsB, partBox, Bool.and_eq_true, zzJ]
 constructor
 ·rintro hc t ⟨⟨a1, a2⟩, ⟨b1, b2⟩, c1, c2⟩
  obtain ⟨x, hx, x1, x2⟩ := parts_cover (l := l) (k := 0) o1 a1 a2
  obtain ⟨y, hy, y1, y2⟩ := parts_cover (l := l) (k := 1) o2 b1 b2
  obtain ⟨z, hz, z1, z2⟩ := parts_cover (l := l) (k := 2) o3 c1 c2
  obtain ⟨a, ha, g⟩ := hc x hx y hy z hz
  exact ⟨a, ha, ⟨by omega, by omega⟩, ⟨by omega, by omega⟩, by omega, by omega⟩
 ·intro hc x hx y hy z hz
  obtain ⟨x1, x2, x3, x4⟩ := parts_mem o1 hx
  obtain ⟨y1, y2, y3, y4⟩ := parts_mem o2 hy
  obtain ⟨z1, z2, z3, z4⟩ := parts_mem o3 hz
  obtain ⟨a, ha, ⟨a1, a2⟩, ⟨b1, b2⟩, c1, c2⟩ := hc (x.1 + x.2, y.1 + y.2, z.1 + z.2) ⟨⟨by simp only; omega, by simp only; omega⟩, ⟨by simp only; omega, by simp only; omega⟩, by simp only; omega, by simp only; omega⟩
  simp only at a1 a2 b1 b2 c1 c2
  have e0 : a.lo.1 ∈ endsAt 0 a ∧ a.hi.1 ∈ endsAt 0 a := by simp [endsAt, axes]
  have e1 : a.lo.2.1 ∈ endsAt 1 a ∧ a.hi.2.1 ∈ endsAt 1 a := by simp [endsAt, axes]
  have e2 : a.lo.2.2 ∈ endsAt 2 a ∧ a.hi.2.2 ∈ endsAt 2 a := by simp [endsAt, axes]
  have f1 := x4 a ha _ e0.1
  have f2 := x4 a ha _ e0.2
  have f3 := y4 a ha _ e1.1
  have f4 := y4 a ha _ e1.2
  have f5 := z4 a ha _ e2.1
  have f6 := z4 a ha _ e2.2
  refine ⟨a, ha, ?_⟩
  simp only [and_assoc]
  refine ⟨by omega, by omega, by omega, by omega, by omega, by omega⟩
theorem boxOk_orderly {b : BoxD} (h : boxOk b = true) : orderly b := by
 have := boxOk_iff.1 h
 exact ⟨this.1.1, this.2.1.1, this.2.2.1⟩
def inside (a b : BoxD) : Prop := (b.lo.1 ≤ a.lo.1 ∧ a.hi.1 ≤ b.hi.1) ∧ (b.lo.2.1 ≤ a.lo.2.1 ∧ a.hi.2.1 ≤ b.hi.2.1) ∧ (b.lo.2.2 ≤ a.lo.2.2 ∧ a.hi.2.2 ≤ b.hi.2.2)
def bendR (d : Int) : Int := if d ≤ 16 then 5 * d / 2 else 4 * d
def bendOne (x : BarD) (n : Nat) (p : Int × Nat) : List FinD :=
 if p.2 = 0 ∨ p.2 + 1 = n then (if p.1 < bendR x.size + 5 * x.size then [⟨1, x.mark⟩] else []) else (if p.1 < 2 * bendR x.size then [⟨2, x.mark⟩] else [])
def bendFins (x : BarD) : List FinD := if (legLens x).length = 1 then [] else (legLens x).zipIdx.flatMap (bendOne x (legLens x).length)
def runIs (m : ByteArray) (r : RunD) : Bool := r.mark.toList == m.toList
def laidBy (runs : List RunD) (m : ByteArray) : Int := countRuns (runs.filter (runIs m))
def balOne (runs : List RunD) (x : BarD) : List FinD := if 0 < x.count - laidBy runs x.mark then [⟨1, x.mark⟩] else if x.count - laidBy runs x.mark < 0 then [⟨2, x.mark⟩] else []
def balFins (bars : List BarD) (runs : List RunD) : List FinD := bars.flatMap (balOne runs)
def covFins (x : DetD) : List FinD := coverAll x.mem (laidAll x.bars x.runs)
def moreF (k : Int) (f : FinD) : FinD := ⟨f.kind + k, f.name⟩
def detFins (x : DetD) (lp sc : List FinD) : List FinD :=
 x.bars.flatMap bendFins ++ (balFins x.bars x.runs).map (moreF 2) ++ (covFins x).map (moreF 4) ++ lp.map (moreF 5) ++ sc.map (moreF 7)
theorem bend_kind {x : BarD} : ∀ f ∈ bendFins x, f.kind = 1 ∨ f.kind = 2 := by
 intro f hf
 unfold bendFins at hf
 split at hf
 ·cases hf
 ·rw [List.mem_flatMap] at hf
  obtain ⟨p, _, hp⟩ := hf
  unfold bendOne at hp
  split at hp <;> split at hp <;> simp at hp <;> subst hp <;> simp
theorem bal_kind {bars : List BarD} {runs : List RunD} : ∀ f ∈ balFins bars runs, f.kind = 1 ∨ f.kind = 2 := by
 intro f hf
 rw [balFins, List.mem_flatMap] at hf
 obtain ⟨p, _, hp⟩ := hf
 unfold balOne at hp
 split at hp
 ·simp at hp; subst hp; simp
 ·split at hp <;> simp at hp
  subst hp; simp
theorem cov_kind {x : DetD} : ∀ f ∈ covFins x, f.kind = 1 := by
 intro f hf
 rw [covFins, coverAll, List.mem_flatMap] at hf
 obtain ⟨p, _, hp⟩ := hf
 unfold coverFin at hp
 split at hp <;> simp at hp
 subst hp; rfl
def exMk : ByteArray := ⟨#[97]⟩
def exBar : BarD := ⟨exMk, 12, 1, 0, [2000]⟩
def exN (n : Nat) : DetD := ⟨⟨⟨#[109]⟩, [⟨(0, 0, 0), (3000, 200, 400)⟩], [], 0, 20, 40⟩, [exBar], if n = 0 then [] else [⟨exMk, 1, 2, (100, 50, 50), (0, 50, 0), n⟩], [], [], ⟨40, 1, 10, 7, 7, 10, 3, 2, 100⟩⟩
theorem exN_ok0 : detOk (exN 0) = true := by decide +kernel
theorem exN_ok1 : detOk (exN 1) = true := by decide +kernel
theorem exN_ok2 : detOk (exN 2) = true := by decide +kernel
theorem exN_bend : bendFins exBar = [] := by decide +kernel
theorem exN_bal0 : balFins (exN 0).bars (exN 0).runs = [⟨1, exMk⟩] := by kernel_rfl
theorem exN_bal1 : balFins (exN 1).bars (exN 1).runs = [] := by decide +kernel
theorem exN_bal2 : balFins (exN 2).bars (exN 2).runs = [⟨2, exMk⟩] := by kernel_rfl
def encFin (x : FinD) : List Value := [.int .i64 x.kind, .string x.name]
theorem encFin_len (x : FinD) : (encFin x).length = 2 := rfl
theorem encFin_one (x : FinD) : ∀ u ∈ encFin x, u.oneCell' = true := by
 intro u hu
 simp only [encFin, List.mem_cons, List.not_mem_nil, or_false] at hu
 rcases hu with rfl | rfl <;> rfl
abbrev FinsAt (w : World) (B : Nat) (A : Option Addr) (l : List FinD) : Prop := SlOf w B 2 (Flat encFin) A l
theorem FinsAt.get {w : World} {B : Nat} {A : Option Addr} {l : List FinD} (h : FinsAt w B A l) {k : Nat} (hk : k < l.length) :
  ∃ b off x, A = some ⟨b, off, none⟩ ∧ b < B ∧ l[k]? = some x ∧ w.cell? ⟨b, off + k * 2, none⟩ = some (.int .i64 x.kind) ∧ w.cell? ⟨b, off + k * 2 + 1, none⟩ = some (.string x.name) := by
 obtain ⟨b, off, x, vs, hA, hb, hx, _, hr, hc⟩ := h.at_ hk
 have hr' : vs = encFin x := hr
 subst hr'
 exact ⟨b, off, x, hA, hb, hx, by simpa using hc 0 _ rfl, by simpa using hc 1 _ rfl⟩
theorem rowLow {α : Type} {w : World} {base base' : Nat} {e : TypeId} {size : Nat} {enc : α → List Value} {v : Value} {l : List α} (hb : base' ≤ base) (h : Row w base e size enc v l) : Row w base' e size enc v l := by
 refine ⟨h.1, ?_⟩
 rcases h.2 with h | ⟨g, cap, cur, h1, h2, h3, r⟩
 ·exact .inl h
 ·exact .inr ⟨g, cap, cur, h1, Nat.le_trans hb h2, h3, r⟩
abbrev FinRow (base : Nat) (w : World) (A : Option Addr) (n c : Nat) (l : List FinD) : Prop := Row w base 47 2 encFin (.slice A n c) l
theorem FinRow.read {base : Nat} {w : World} {A : Option Addr} {n c : Nat} {l : List FinD} (h : FinRow base w A n c l) : FinsAt w w.heap.size A l := Row.read h encFin_len (by omega)
set_option maxHeartbeats 1000000 in
theorem opens_any (h b : BoxD) (w : World) :
  Calls Tryz.prog 301 #[bx h, bx b] w fun e w' => e = .returned (.bool (opensB h b)) ∧ Below w.heap.size w w' := by
 obtain ⟨⟨h1, h2, h3⟩, h4, h5, h6⟩ := h
 obtain ⟨⟨b1, b2, b3⟩, b4, b5, b6⟩ := b
 have hr : opensB ⟨(h1, h2, h3), (h4, h5, h6)⟩ ⟨(b1, b2, b3), (b4, b5, b6)⟩ = (decide (b1 < h4) && decide (h1 < b4) && decide (b2 < h5) && decide (h2 < b5) && decide (b3 < h6) && decide (h3 < b6)) := rfl
 have hcase : (decide (b1 < h4) = false ∧ opensB ⟨(h1, h2, h3), (h4, h5, h6)⟩ ⟨(b1, b2, b3), (b4, b5, b6)⟩ = false) ∨ (decide (b1 < h4) = true ∧ decide (h1 < b4) = false ∧ opensB ⟨(h1, h2, h3), (h4, h5, h6)⟩ ⟨(b1, b2, b3), (b4, b5, b6)⟩ = false) ∨ (decide (b1 < h4) = true ∧ decide (h1 < b4) = true ∧ decide (b2 < h5) = false ∧ opensB ⟨(h1, h2, h3), (h4, h5, h6)⟩ ⟨(b1, b2, b3), (b4, b5, b6)⟩ = false) ∨ (decide (b1 < h4) = true ∧ decide (h1 < b4) = true ∧ decide (b2 < h5) = true ∧ decide (h2 < b5) = false ∧ opensB ⟨(h1, h2, h3), (h4, h5, h6)⟩ ⟨(b1, b2, b3), (b4, b5, b6)⟩ = false) ∨ (decide (b1 < h4) = true ∧ decide (h1 < b4) = true ∧ decide (b2 < h5) = true ∧ decide (h2 < b5) = true ∧ decide (b3 < h6) = false ∧ opensB ⟨(h1, h2, h3), (h4, h5, h6)⟩ ⟨(b1, b2, b3), (b4, b5, b6)⟩ = false) ∨ (decide (b1 < h4) = true ∧ decide (h1 < b4) = true ∧ decide (b2 < h5) = true ∧ decide (h2 < b5) = true ∧ decide (b3 < h6) = true ∧ decide (h3 < b6) = false ∧ opensB ⟨(h1, h2, h3), (h4, h5, h6)⟩ ⟨(b1, b2, b3), (b4, b5, b6)⟩ = false) ∨ (decide (b1 < h4) = true ∧ decide (h1 < b4) = true ∧ decide (b2 < h5) = true ∧ decide (h2 < b5) = true ∧ decide (b3 < h6) = true ∧ decide (h3 < b6) = true ∧ opensB ⟨(h1, h2, h3), (h4, h5, h6)⟩ ⟨(b1, b2, b3), (b4, b5, b6)⟩ = true) := by
  rw [hr]
  cases decide (b1 < h4) <;> cases decide (h1 < b4) <;> cases decide (b2 < h5) <;> cases decide (h2 < b5) <;> cases decide (b3 < h6) <;> cases decide (h3 < b6) <;> simp
 clear hr
 have HW := hide (below_new2 w (.cells #[.int .i64 h1, .int .i64 h2, .int .i64 h3, .int .i64 h4, .int .i64 h5, .int .i64 h6] 62) (.cells #[.int .i64 b1, .int .i64 b2, .int .i64 b3, .int .i64 b4, .int .i64 b5, .int .i64 b6] 62))
 rcases hcase with ⟨q0, hR⟩ | ⟨q0, q1, hR⟩ | ⟨q0, q1, q2, hR⟩ | ⟨q0, q1, q2, q3, hR⟩ | ⟨q0, q1, q2, q3, q4, hR⟩ | ⟨q0, q1, q2, q3, q4, q5, hR⟩ | ⟨q0, q1, q2, q3, q4, q5, hR⟩
 all_goals
  have HR := hide hR
  clear hR
  go_enter Tryz.func301, Tryz.ntmps301
  go_wp2_with fail
  go_ret
  exact ⟨ret_bool HR.out.symm, HW.out⟩
set_option maxHeartbeats 1000000 in
theorem opensAt_any (h b : BoxD) (g : Nat) (w : World) (hg : Blk w g 62 #[.int .i64 b.lo.1, .int .i64 b.lo.2.1, .int .i64 b.lo.2.2, .int .i64 b.hi.1, .int .i64 b.hi.2.1, .int .i64 b.hi.2.2]) :
  Calls Tryz.prog 300 #[bx h, .pointer (some ⟨g, 0, none⟩)] w fun e w' => e = .returned (.bool (opensAt b h)) ∧ Below w.heap.size w w' := by
 have HO := hide (fun W => opens_any h b W)
 have Hr := hide (show opensAt b h = opensB h b from rfl)
 obtain ⟨t, ht⟩ : ∃ t, t = opensB h b := ⟨_, rfl⟩
 rw [← ht] at HO Hr
 obtain ⟨⟨b1, b2, b3⟩, b4, b5, b6⟩ := b
 obtain ⟨⟨h1, h2, h3⟩, h4, h5, h6⟩ := h
 have c0 := hg.cell 0
 have c1 := hg.cell 1
 have c2 := hg.cell 2
 have c3 := hg.cell 3
 have c4 := hg.cell 4
 have c5 := hg.cell 5
 simp at c0 c1 c2 c3 c4 c5
 have lg := hg.lt
 clear hg ht
 have HW := hide (below_new w (.cells #[.int .i64 h1, .int .i64 h2, .int .i64 h3, .int .i64 h4, .int .i64 h5, .int .i64 h6] 62))
 go_enter Tryz.func300, Tryz.ntmps300
 go_wp2_with fail
 refine (HO.out _).mono ?_
 rintro e w2 ⟨rfl, hb⟩
 have HB := hide (below_step HW.out hb (Nat.le_refl _))
 clear hb c0 c1 c2 c3 c4 c5 HO
 go_wp2_with fail
 go_ret
 exact ⟨ret_bool Hr.out.symm, HB.out⟩
def axPair (q : (Int × Int) × (Int × Int)) : Bool := decide (q.1.1 ≤ q.2.1) && decide (q.2.2 ≤ q.1.2)
theorem holdsB_zip (a b : BoxD) : holdsB a b = (((axes a).zip (axes b)).drop 0).all axPair := by
 simp [holdsB, axes, axPair, Bool.and_assoc]
set_option maxHeartbeats 2000000 in
theorem holdsB_any (a b : BoxD) (w : World) :
  Calls Tryz.prog 323 #[bx a, bx b] w fun e w' => e = .returned (.bool (holdsB a b)) ∧ Below w.heap.size w w' := by
 have HE := hide (fun (k : Nat) (p : Int × Int) (h : (axes a)[k]? = some p) (w : World) => ends_any a k p h w)
 have HF := hide (fun (k : Nat) (p : Int × Int) (h : (axes b)[k]? = some p) (w : World) => ends_any b k p h w)
 have Hok := hide (holdsB_zip a b)
 have HL := hide (show (axes a).length = 3 from rfl)
 have HM := hide (show (axes b).length = 3 from rfl)
 obtain ⟨⟨x, y, z⟩, ⟨x2, y2, z2⟩⟩ := a
 obtain ⟨⟨u, v, t⟩, ⟨u2, v2, t2⟩⟩ := b
 generalize axes ⟨(x, y, z), (x2, y2, z2)⟩ = ax at *
 generalize axes ⟨(u, v, t), (u2, v2, t2)⟩ = bx' at *
 obtain ⟨rb, hrb⟩ : ∃ rb, rb = holdsB ⟨(x, y, z), (x2, y2, z2)⟩ ⟨(u, v, t), (u2, v2, t2)⟩ := ⟨_, rfl⟩
 rw [← hrb] at Hok ⊢
 clear hrb
 go_enter Tryz.func323, Tryz.ntmps323
 go_wp2_with fail
 obtain ⟨w1, hw1⟩ : ∃ w1, w1 = (w.alloc (.cells #[.int .i64 x, .int .i64 y, .int .i64 z, .int .i64 x2, .int .i64 y2, .int .i64 z2] 62)).alloc (.cells #[.int .i64 u, .int .i64 v, .int .i64 t, .int .i64 u2, .int .i64 v2, .int .i64 t2] 62) := ⟨_, rfl⟩
 have hb := hide ((Blk.new w 62 #[.int .i64 x, .int .i64 y, .int .i64 z, .int .i64 x2, .int .i64 y2, .int .i64 z2]).alloc (.cells #[.int .i64 u, .int .i64 v, .int .i64 t, .int .i64 u2, .int .i64 v2, .int .i64 t2] 62))
 have hc := hide (Blk.new1 w (.cells #[.int .i64 x, .int .i64 y, .int .i64 z, .int .i64 x2, .int .i64 y2, .int .i64 z2] 62) 62 #[.int .i64 u, .int .i64 v, .int .i64 t, .int .i64 u2, .int .i64 v2, .int .i64 t2])
 have hw := hide (below_new2 w (.cells #[.int .i64 x, .int .i64 y, .int .i64 z, .int .i64 x2, .int .i64 y2, .int .i64 z2] 62) (.cells #[.int .i64 u, .int .i64 v, .int .i64 t, .int .i64 u2, .int .i64 v2, .int .i64 t2] 62))
 rw [← hw1] at hb hc hw ⊢
 clear hw1
 go_loopw [10] (fun i wr => ∃ k : Nat, k ≤ 3 ∧ i = .int .i64 k ∧ Hid (rb = ((ax.zip bx').drop k).all axPair) ∧ Below w1.heap.size w1 wr) (fun i _ => 3 - (intOf i).toNat)
 case atStart => exact ⟨0, Nat.zero_le _, rfl, Hok, Below.refl _ _⟩
 case round =>
  obtain ⟨k, hk, rfl, hq, hbr⟩ := hrel
  by_cases hlt : k < 3
  ·obtain ⟨p, hp⟩ : ∃ p, ax[k]? = some p := ⟨_, List.getElem?_eq_getElem (by rw [HL.out]; exact hlt)⟩
   obtain ⟨r, hr⟩ : ∃ p, bx'[k]? = some p := ⟨_, List.getElem?_eq_getElem (by rw [HM.out]; exact hlt)⟩
   have hz : (ax.zip bx')[k]? = some (p, r) := by simp [List.getElem?_zip_eq_some, hp, hr]
   have hbk := hb.out.below hbr hb.out.lt
   have hck := hide (hc.out.below hbr hc.out.lt)
   have c0 := hbk.cell 0
   have c1 := hbk.cell 1
   have c2 := hbk.cell 2
   have c3 := hbk.cell 3
   have c4 := hbk.cell 4
   have c5 := hbk.cell 5
   simp at c0 c1 c2 c3 c4 c5
   have He := hide (HE.out k p hp wr)
   have Hf := hide (fun W => HF.out k r hr W)
   have Hn := hide (hq.out.trans (by rw [drop_at' hz, List.all_cons]))
   have Hbr := hide hbr
   clear hbk hp hr hz hq hbr
   obtain ⟨lo, hi⟩ := p
   obtain ⟨ff, tt⟩ := r
   simp only at He Hf Hn
   go_wp2_with fail
   refine He.out.mono ?_
   rintro e w2 ⟨rfl, hb2⟩
   have hck2 := hck.out.keep hb2
   have d0 := hck2.cell 0
   have d1 := hck2.cell 1
   have d2 := hck2.cell 2
   have d3 := hck2.cell 3
   have d4 := hck2.cell 4
   have d5 := hck2.cell 5
   simp at d0 d1 d2 d3 d4 d5
   have Hb2 := hide (below_step Hbr.out hb2 (Nat.le_refl _))
   clear hck2 hck hb2 c0 c1 c2 c3 c4 c5 Hbr He
   go_wp2_with fail
   refine (Hf.out _).mono ?_
   rintro e w3 ⟨rfl, hb3⟩
   have Hb3 := hide (below_step Hb2.out hb3 (Nat.le_refl _))
   clear hb3 d0 d1 d2 d3 d4 d5 Hb2 Hf
   have hcase : (axPair ((lo, hi), (ff, tt)) = true ∧ decide (ff < lo) = false ∧ decide (hi < tt) = false) ∨ (axPair ((lo, hi), (ff, tt)) = false ∧ decide (ff < lo) = true) ∨ (axPair ((lo, hi), (ff, tt)) = false ∧ decide (ff < lo) = false ∧ decide (hi < tt) = true) := by
    simp only [axPair, Bool.and_eq_true, Bool.and_eq_false_iff, zzJ, zzI]
    omega
   rcases hcase with ⟨ha, q0, q1⟩ | ⟨ha, q0⟩ | ⟨ha, q0, q1⟩
   ·have Hn2 := hide (Hn.out.trans (by rw [ha, Bool.true_and]))
    clear ha Hn
    go_wp2_with fail
    go_roundw
    case rel => exact ⟨k + 1, by omega, by go_num, Hn2, Hb3.out⟩
    case measure => simp [intOf]; omega
   all_goals
    have hres := hide (show rb = false by rw [Hn.out, ha]; rfl)
    clear ha Hn
    go_wp2_with fail
    go_ret
    exact ⟨ret_bool hres.out.symm, below_step hw.out Hb3.out (Nat.le_refl _)⟩
  ·obtain rfl : k = 3 := by omega
   have hfull := hide (show rb = true by rw [hq.out, List.drop_of_length_le (by rw [List.length_zip, HL.out, HM.out]; decide)]; rfl)
   go_wp2_with fail
   go_ret
   exact ⟨ret_bool hfull.out.symm, below_step hw.out hbr (Nat.le_refl _)⟩
set_option maxHeartbeats 1000000 in
theorem holdsAt_any (a b : BoxD) (g : Nat) (w : World) (hg : Blk w g 62 #[.int .i64 b.lo.1, .int .i64 b.lo.2.1, .int .i64 b.lo.2.2, .int .i64 b.hi.1, .int .i64 b.hi.2.1, .int .i64 b.hi.2.2]) :
  Calls Tryz.prog 322 #[bx a, .pointer (some ⟨g, 0, none⟩)] w fun e w' => e = .returned (.bool (holdsAt b a)) ∧ Below w.heap.size w w' := by
 have HO := hide (fun W => holdsB_any a b W)
 have Hr := hide (show holdsAt b a = holdsB a b from rfl)
 obtain ⟨t, ht⟩ : ∃ t, t = holdsB a b := ⟨_, rfl⟩
 rw [← ht] at HO Hr
 obtain ⟨⟨b1, b2, b3⟩, b4, b5, b6⟩ := b
 obtain ⟨⟨h1, h2, h3⟩, h4, h5, h6⟩ := a
 have c0 := hg.cell 0
 have c1 := hg.cell 1
 have c2 := hg.cell 2
 have c3 := hg.cell 3
 have c4 := hg.cell 4
 have c5 := hg.cell 5
 simp at c0 c1 c2 c3 c4 c5
 have lg := hg.lt
 clear hg ht
 have HW := hide (below_new w (.cells #[.int .i64 h1, .int .i64 h2, .int .i64 h3, .int .i64 h4, .int .i64 h5, .int .i64 h6] 62))
 go_enter Tryz.func322, Tryz.ntmps322
 go_wp2_with fail
 refine (HO.out _).mono ?_
 rintro e w2 ⟨rfl, hb⟩
 have HB := hide (below_step HW.out hb (Nat.le_refl _))
 clear hb c0 c1 c2 c3 c4 c5 HO
 go_wp2_with fail
 go_ret
 exact ⟨ret_bool Hr.out.symm, HB.out⟩
theorem pairs_len : ∀ l : List Int, (pairsOf l).length = l.length - 1 := by
 intro l
 induction l with
 | nil => rfl
 | cons p r ih =>
  cases r with
  | nil => rfl
  | cons q r => rw [pairsOf, List.length_cons, ih]; simp
theorem pairs_at : ∀ (l : List Int) (k : Nat) (p q : Int), l[k]? = some p → l[k + 1]? = some q → (pairsOf l)[k]? = some (p, q) := by
 intro l
 induction l with
 | nil => intro k p q h _; simp at h
 | cons x r ih =>
  intro k p q hp hq
  cases r with
  | nil => simp at hq
  | cons y r =>
   cases k with
   | zero =>
    simp only [List.getElem?_cons_zero, Option.some.injEq, List.getElem?_cons_succ] at hp hq
    subst hp; subst hq
    rfl
   | succ k =>
    rw [pairsOf, List.getElem?_cons_succ]
    exact ih k p q hp hq
def cutTo (l : List BoxD) (k : Nat) (u v : Int) (q : Nat) : List Int := cutAt (l.take q) k u v
theorem ends_two {x : BoxD} {k : Nat} {lo hi : Int} (h : (axes x)[k]? = some (lo, hi)) : endsAt k x = [lo, hi] := by rw [endsAt, h]
theorem cutTo_zero (l : List BoxD) (k : Nat) (u v : Int) : cutTo l k u v 0 = [] := rfl
theorem cutTo_succ {l : List BoxD} {k q : Nat} {u v lo hi : Int} {x : BoxD} (hx : l[q]? = some x) (h : (axes x)[k]? = some (lo, hi)) : cutTo l k u v (q + 1) = cutTo l k u v q ++ [lo, hi].filter (betw u v) := by
 rw [cutTo, cutTo, take_snoc' hx, cutAt, cutAt, List.flatMap_append, List.filter_append]
 congr 1
 simp [ends_two h]
theorem endsAt_len (k : Nat) (b : BoxD) : (endsAt k b).length ≤ 2 := by
 unfold endsAt
 split <;> simp
theorem flat_len (k : Nat) : ∀ l : List BoxD, (l.flatMap (endsAt k)).length ≤ 2 * l.length := by
 intro l
 induction l with
 | nil => simp
 | cons b l ih =>
  rw [List.flatMap_cons, List.length_append, List.length_cons]
  have := endsAt_len k b
  omega
theorem cutAt_len (l : List BoxD) (k : Nat) (u v : Int) : (cutAt l k u v).length ≤ 2 * l.length := Nat.le_trans (List.length_filter_le _ _) (flat_len k l)
theorem cutTo_len (l : List BoxD) (k : Nat) (u v : Int) (q : Nat) (hq : q ≤ l.length) : (cutTo l k u v q).length ≤ 2 * q := by
 have := cutAt_len (l.take q) k u v
 rw [List.length_take] at this
 unfold cutTo
 omega
theorem cutTo_all (l : List BoxD) (k : Nat) (u v : Int) : cutTo l k u v l.length = cutAt l k u v := by rw [cutTo, List.take_length]
def placesAt (l : List BoxD) (k : Nat) (u v : Int) : List Int := Lib.compact ((u :: v :: cutAt l k u v).mergeSort fun x y => decide (x ≤ y))
theorem parts_places {l : List BoxD} {k : Nat} {u v : Int} (h : u ≠ v) : partsAt l k u v = pairsOf (placesAt l k u v) := by
 rw [partsAt, if_neg h]
 rfl
theorem places_len {l : List BoxD} {k : Nat} {u v : Int} (hl : l.length ≤ 40) : (placesAt l k u v).length ≤ 82 := by
 have h1 := Lib.compact_length_le ((u :: v :: cutAt l k u v).mergeSort fun x y => decide (x ≤ y))
 rw [List.length_mergeSort] at h1
 have := cutAt_len l k u v
 simp only [List.length_cons] at h1
 unfold placesAt
 omega
theorem places_ne {l : List BoxD} {k : Nat} {u v : Int} : 1 ≤ (placesAt l k u v).length := by
 obtain ⟨_, g2⟩ := compact_sorted (u :: v :: cutAt l k u v)
 have hu := (g2 u).2 (by simp)
 have := List.length_pos_of_mem hu
 exact this
theorem parts_len {l : List BoxD} {k : Nat} {u v : Int} (hl : l.length ≤ 40) : (partsAt l k u v).length ≤ 82 := by
 by_cases h : u = v
 ·rw [partsAt, if_pos h]
  simp
 ·rw [parts_places h, pairs_len]
  have := places_len (k := k) (u := u) (v := v) hl
  omega
theorem search_yes {p : Nat → Bool} {n i j : Nat} (h : searchIn p (j - i) i j = searchB p n) (hij : i < j) (hp : p ((i + j) / 2) = true) : searchIn p ((i + j) / 2 - i) i ((i + j) / 2) = searchB p n := by
 rw [← h]
 obtain ⟨f, hf⟩ : ∃ f, j - i = f + 1 := ⟨j - i - 1, by omega⟩
 rw [hf, searchIn, if_pos hij, if_pos hp]
 exact search_more p _ _ _ (Nat.le_refl _) _ (by omega)
theorem search_no {p : Nat → Bool} {n i j : Nat} (h : searchIn p (j - i) i j = searchB p n) (hij : i < j) (hp : p ((i + j) / 2) = false) : searchIn p (j - ((i + j) / 2 + 1)) ((i + j) / 2 + 1) j = searchB p n := by
 rw [← h]
 obtain ⟨f, hf⟩ : ∃ f, j - i = f + 1 := ⟨j - i - 1, by omega⟩
 rw [hf, searchIn, if_pos hij, if_neg (by rw [hp]; simp)]
 exact search_more p _ _ _ (Nat.le_refl _) _ (by omega)
theorem search_end {p : Nat → Bool} {n i : Nat} (h : searchIn p (i - i) i i = searchB p n) : searchB p n = i := by
 rw [← h, Nat.sub_self, searchIn]
set_option maxHeartbeats 2000000 in
theorem search_any (p : Nat → Bool) (n : Nat) (fid : FuncId) (caps : Array Value) (w : World) (hn : n ≤ 3000000)
  (hf : ∀ (k : Nat) (W : World), k < n → Below w.heap.size w W → Calls Tryz.prog fid (#[.int .i64 (k : Int)] ++ caps) W fun e W' => e = .returned (.bool (p k)) ∧ Below W.heap.size W W')
  (hc : ∀ args w, (callFunc fid args).run Tryz.prog w = .ok (.enter fid args) w) :
  Calls Tryz.prog 238 #[.int .i64 (n : Int), .func (.func fid) #[] caps] w fun e w' => e = .returned (.int .i64 (searchB p n : Nat)) ∧ Below w.heap.size w w' := by
 have Hf := hide hf
 clear hf
 go_enter Tryz.func238, Tryz.ntmps238
 go_wp2_with fail
 go_loopw [5, 6] (fun iv jv wr => ∃ i j : Nat, iv = .int .i64 (i : Int) ∧ jv = .int .i64 (j : Int) ∧ i ≤ j ∧ j ≤ n ∧ Hid (searchIn p (j - i) i j = searchB p n) ∧ Below w.heap.size w wr) (fun iv jv _ => (intOf jv - intOf iv).toNat)
 case atStart => exact ⟨0, n, rfl, rfl, Nat.zero_le _, Nat.le_refl _, hide rfl, Below.refl _ _⟩
 case round =>
  obtain ⟨i, j, rfl, rfl, hij, hjn, hs, hb⟩ := hrel
  by_cases hlt : i < j
  ·have z1 : IntKind.i64.wrap ((i : Int) + (j : Int)) = (i : Int) + (j : Int) := IntWalk.i64_in _ (by omega)
   have dk : decide ((i : Int) < (j : Int)) = true := by simp; omega
   have HF := hide (fun (W : World) (hz : Below w.heap.size w W) => Hf.out ((i + j) / 2) W (by omega) hz)
   have Hy := hide (fun (h : p ((i + j) / 2) = true) => search_yes hs.out hlt h)
   have Hn := hide (fun (h : p ((i + j) / 2) = false) => search_no hs.out hlt h)
   clear hs
   obtain ⟨m, hm⟩ : ∃ m, m = (i + j) / 2 := ⟨_, rfl⟩
   rw [← hm] at HF Hy Hn
   have hmz : ((i : Int) + (j : Int)) / 2 = (m : Int) := by omega
   have hm1 : i ≤ m := by omega
   have hm2 : m < j := by omega
   have z2 : IntKind.i64.wrap ((m : Int) + 1) = (m : Int) + 1 := IntWalk.i64_in _ (by omega)
   clear hm
   go_wp2_with fail
   refine (HF.out _ hb).mono ?_
   rintro e w1 ⟨rfl, hb1⟩
   have Hb1 := hide (below_step hb hb1 (Nat.le_refl _))
   clear hb hb1 HF
   cases hp : p m
   ·have Hs := hide (Hn.out hp)
    clear hp Hn Hy
    go_wp2_with fail
    go_roundw
    case rel => exact ⟨m + 1, j, by go_num, rfl, by omega, hjn, Hs, Hb1.out⟩
    case measure => simp [intOf]; omega
   ·have Hs := hide (Hy.out hp)
    clear hp Hn Hy
    go_wp2_with fail
    go_roundw
    case rel => exact ⟨i, m, rfl, rfl, hm1, by omega, Hs, Hb1.out⟩
    case measure => simp [intOf]; omega
  ·obtain rfl : i = j := by omega
   have dk : decide ((i : Int) < (i : Int)) = false := by simp
   have Hr := hide (search_end hs.out)
   clear hs
   go_wp2_with fail
   go_ret
   exact ⟨ret_int (by rw [Hr.out]), hb⟩
theorem still_load_row {P : Program} {ops : Array Oper} {rest : List Oper} {o : Oper} {a : Act} {w : World} {Q : Act → Prop} (hgd : o.guard = none) (ty : TypeId) (x : Operand) (ho : o.op = .load ty x)
  (g : Nat) (hx : a.eval x = .pointer (some ⟨g, 0, none⟩)) (t : TypeId) (cs : Array Value) (fr : Nat × Nat) (d : TypeDesc) (hg : w.heap[g]? = some (.cells cs t fr))
  (hu : P.underlying ty = some d) (hd : (match d with | .struct _ | .array _ _ => true | _ => false) = true) (hi : (P.info? ty).map (·.size) = some cs.size)
  (h : wpStill P ops w Q rest (a.put o.dst (.agg cs))) : wpStill P ops w Q (o :: rest) a := by
 have hw : Region.wanted o (yielded ops a.tmps) = true := by simp [Region.wanted, hgd]
 show if _ then _ else _
 rw [if_pos hw]
 unfold Oper.still execOp
 simp only [ho, hx, Instr.loadAt, Instr.sureAddr, Sem.run_bind, Sem.run_pure, Result.andThen_ok, run_loadVar_row w g t ty cs fr d hg hu hd hi, Oper.stillUpon]
 exact ⟨trivial, h⟩
def legI (o : Option BoxD) : BoxD := o.getD ⟨(0, 0, 0), (0, 0, 0)⟩
theorem mainT_eq (o : Option BoxD) : mainT o = #[bxV (legI o), .bool o.isSome] := by cases o <;> rfl
def lapLegs (a b : Option BoxD) : Bool := a.isSome && (b.isSome && (decide ((legI a).lo.1 < (legI b).lo.1) && (decide ((legI a).hi.1 < (legI b).hi.1) && decide ((legI b).lo.1 ≤ (legI a).hi.1))))
theorem lapsFit_in {ms : List (Option BoxD)} {j : JoinD} {p q : Nat} (hp : j.first = p) (hq : j.second = q) {a b : Option BoxD} (ha : ms[p]? = some a) (hb : ms[q]? = some b) : lapsFit ms j = lapLegs a b := by
 have h1 := lt_of_get ha
 have h2 := lt_of_get hb
 rw [lapsFit, hp, hq, decide_eq_true (show (0 : Int) ≤ (p : Int) by omega), decide_eq_true (show (0 : Int) ≤ (q : Int) by omega), decide_eq_true (show (p : Int) < (ms.length : Nat) by omega), decide_eq_true (show (q : Int) < (ms.length : Nat) by omega)]
 simp only [Int.toNat_natCast, List.getD_eq_getElem?_getD, ha, hb, Option.getD_some]
 cases a <;> cases b <;> simp [lapLegs, legI, Bool.and_assoc] <;> rfl
theorem lapsFit_out {ms : List (Option BoxD)} {j : JoinD} (h : j.first < 0 ∨ (ms.length : Int) ≤ j.first ∨ j.second < 0 ∨ (ms.length : Int) ≤ j.second) : lapsFit ms j = false := by
 rw [lapsFit]
 rcases h with h | h | h | h
 ·rw [decide_eq_false (show ¬ (0 : Int) ≤ j.first by omega)]; simp
 ·rw [decide_eq_false (show ¬ j.first < (ms.length : Nat) by omega)]; simp
 ·rw [decide_eq_false (show ¬ (0 : Int) ≤ j.second by omega)]; simp
 ·rw [decide_eq_false (show ¬ j.second < (ms.length : Nat) by omega)]; simp
set_option maxHeartbeats 4000000 in
theorem refCount25_ok (x : DetD) (s : DetS) (w : World) {B : Nat} (h : DetAt w B x s) (hB : B ≤ w.heap.size) (hf : DetFit x s) (hok : laidOk x.bars x.runs = true) :
  Calls Tryz.prog 93 #[detV x s] w fun e w' => e = .returned (.int .i64 (countRuns x.runs)) ∧ Below w.heap.size w w' := by
 obtain ⟨_, hlen, hruns⟩ := laidOk_mem hok
 have l4 := hf.l4
 have HC := hide (fun (W : World) (hz : Below w.heap.size w W) => count16_any s.a4 x.runs s.n4 s.c4 W (h.h4.carry (Flat.carried _) (hz.mono hB) (Nat.le_refl _)) (Nat.le_trans hB hz.size) hf.l4 (by omega) (fun r hr => runOk_count (hruns r hr)))
 have K0 := hide (Blk.new w 34 (detCells x.mem x.rule s))
 have HW := hide (below_new w (.cells (detCells x.mem x.rule s) 34))
 generalize countRuns x.runs = t at *
 obtain ⟨mem, bars, runs, laps, dems, rule⟩ := x
 obtain ⟨a1, n1, c1, a2, n2, c2, a3, n3, c3, a4, n4, c4, a5, n5, c5, a6, n6, c6⟩ := s
 obtain ⟨name, boxes, holes, cover, agg, poker⟩ := mem
 obtain ⟨r1, r2, r3, r4, r5, r6, r7, r8, r9⟩ := rule
 simp only [detCells] at K0 HW
 simp only at HC
 have e7 := K0.out.cell 7
 simp at e7
 have lk := K0.out.lt
 clear h hf hB hok hruns hlen l4
 show Calls Tryz.prog 93 #[.agg #[.string name, .slice a1 n1 c1, .slice a2 n2 c2, .int .i64 cover, .int .i64 agg, .int .i64 poker, .slice a3 n3 c3, .slice a4 n4 c4, .slice a5 n5 c5, .slice a6 n6 c6, .int .i64 r1, .int .i64 r2, .int .i64 r3, .int .i64 r4, .int .i64 r5, .int .i64 r6, .int .i64 r7, .int .i64 r8, .int .i64 r9]] w _
 go_enter Tryz.func93, Tryz.ntmps93
 go_wp2_with fail
 refine (HC.out _ HW.out).mono ?_
 rintro e w2 ⟨rfl, hb2⟩
 have HW2 := hide (below_step HW.out hb2 (Nat.le_refl _))
 clear hb2 HC HW K0 e7
 go_wp2_with fail
 go_ret
 exact ⟨rfl, HW2.out⟩
set_option maxHeartbeats 8000000 in
set_option maxRecDepth 100000 in
theorem refJoint_any (x : DetD) (s : DetS) (j : JoinD) (w : World) {B : Nat} (h : DetAt w B x s) (hB : B ≤ w.heap.size) (hf : DetFit x s) (hok : laidOk x.bars x.runs = true) :
  Calls Tryz.prog 44 #[detV x s, .agg #[.int .i64 j.first, .int .i64 j.second]] w fun e w' => e = .returned (.bool (lapsFit ((laidAll x.bars x.runs).map mainLeg) j)) ∧ Below w.heap.size w w' := by
 have HC := hide (fun (W : World) (hz : Below w.heap.size w W) => refCount25_ok x s W (h.carry (hz.mono hB) (Nat.le_refl _)) (Nat.le_trans hB hz.size) hf hok)
 have HM := hide (fun (i : Nat) (ld : LaidD) (hi : (laidAll x.bars x.runs)[i]? = some ld) (W : World) (hz : Below w.heap.size w W) => refMain25_ok x s i ld W (h.carry (hz.mono hB) (Nat.le_refl _)) (Nat.le_trans hB hz.size) hf hok hi)
 have hcl := (laidOk_len hok).1
 have hcl2 := (laidOk_len hok).2
 have Hi := hide (show (Tryz.prog.info? 34).map (·.size) = some 19 by kernel_rfl)
 have K0 := hide ((Blk.new w 34 (detCells x.mem x.rule s)).alloc (.cells #[.int .i64 j.first, .int .i64 j.second] 73))
 have KJ := hide (Blk.new1 w (.cells (detCells x.mem x.rule s) 34) 73 #[.int .i64 j.first, .int .i64 j.second])
 have HW := hide (below_new2 w (.cells (detCells x.mem x.rule s) 34) (.cells #[.int .i64 j.first, .int .i64 j.second] 73))
 have Hin := hide (fun (p q : Nat) (la lb : LaidD) (hp : j.first = p) (hq : j.second = q) (ha : (laidAll x.bars x.runs)[p]? = some la) (hb : (laidAll x.bars x.runs)[q]? = some lb) => lapsFit_in (ms := (laidAll x.bars x.runs).map mainLeg) hp hq (a := mainLeg la) (b := mainLeg lb) (by simp [ha]) (by simp [hb]))
 have Hout := hide (fun (hh : j.first < 0 ∨ countRuns x.runs ≤ j.first ∨ j.second < 0 ∨ countRuns x.runs ≤ j.second) => lapsFit_out (ms := (laidAll x.bars x.runs).map mainLeg) (j := j) (by rw [List.length_map, hcl]; exact hh))
 generalize laidAll x.bars x.runs = LA at *
 obtain ⟨res, hres⟩ : ∃ res, res = lapsFit (LA.map mainLeg) j := ⟨_, rfl⟩
 rw [← hres] at Hin Hout ⊢
 generalize countRuns x.runs = t at *
 obtain ⟨f, g⟩ := j
 obtain ⟨mem, bars, runs, laps, dems, rule⟩ := x
 obtain ⟨a1, n1, c1, a2, n2, c2, a3, n3, c3, a4, n4, c4, a5, n5, c5, a6, n6, c6⟩ := s
 obtain ⟨name, boxes, holes, cover, agg, poker⟩ := mem
 obtain ⟨r1, r2, r3, r4, r5, r6, r7, r8, r9⟩ := rule
 simp only [detCells] at K0 KJ HW
 simp only at Hin Hout
 clear h hf hB hok hres
 show Calls Tryz.prog 44 #[.agg #[.string name, .slice a1 n1 c1, .slice a2 n2 c2, .int .i64 cover, .int .i64 agg, .int .i64 poker, .slice a3 n3 c3, .slice a4 n4 c4, .slice a5 n5 c5, .slice a6 n6 c6, .int .i64 r1, .int .i64 r2, .int .i64 r3, .int .i64 r4, .int .i64 r5, .int .i64 r6, .int .i64 r7, .int .i64 r8, .int .i64 r9], .agg #[.int .i64 f, .int .i64 g]] w _
 go_enter Tryz.func44, Tryz.ntmps44
 go_wp2_with (refine wpList_load_row rfl 34 (.tmp 2) rfl w.heap.size rfl 34 _ (0, 0) _ K0.out Tryz.underlying34 rfl Hi.out ?_)
 refine (HC.out _ HW.out).mono ?_
 rintro e w2 ⟨rfl, hb2⟩
 have K2 := hide (K0.out.keep hb2)
 have J2 := hide (KJ.out.keep hb2)
 have HW2 := hide (below_step HW.out hb2 (Nat.le_refl _))
 clear hb2 HC HW K0 KJ
 have e0 := J2.out.cell 0
 have e1 := J2.out.cell 1
 simp at e0 e1
 have lj := J2.out.lt
 have hways : decide (f < 0) = true ∨ (decide (f < 0) = false ∧ decide (t ≤ f) = true) ∨ (decide (f < 0) = false ∧ decide (t ≤ f) = false ∧ decide (g < 0) = true) ∨ (decide (f < 0) = false ∧ decide (t ≤ f) = false ∧ decide (g < 0) = false ∧ decide (t ≤ g) = true) ∨ (decide (f < 0) = false ∧ decide (t ≤ f) = false ∧ decide (g < 0) = false ∧ decide (t ≤ g) = false) := by
  cases decide (f < 0) <;> cases decide (t ≤ f) <;> cases decide (g < 0) <;> cases decide (t ≤ g) <;> simp
 rcases hways with q0 | ⟨q0, q1⟩ | ⟨q0, q1, q2⟩ | ⟨q0, q1, q2, q3⟩ | ⟨q0, q1, q2, q3⟩
 ·have Hr := hide (Hout.out (.inl (by simpa using q0)))
  clear Hin Hout HM hcl hcl2
  go_wp2_with fail
  go_ret
  exact ⟨ret_bool Hr.out.symm, HW2.out⟩
 ·have Hr := hide (Hout.out (.inr (.inl (by simpa using q1))))
  clear Hin Hout HM hcl hcl2
  go_wp2_with fail
  go_ret
  exact ⟨ret_bool Hr.out.symm, HW2.out⟩
 ·have Hr := hide (Hout.out (.inr (.inr (.inl (by simpa using q2)))))
  clear Hin Hout HM hcl hcl2
  go_wp2_with fail
  go_ret
  exact ⟨ret_bool Hr.out.symm, HW2.out⟩
 ·have Hr := hide (Hout.out (.inr (.inr (.inr (by simpa using q3)))))
  clear Hin Hout HM hcl hcl2
  go_wp2_with fail
  go_ret
  exact ⟨ret_bool Hr.out.symm, HW2.out⟩
 have f0 : 0 ≤ f := by simpa using q0
 have f1 : f < t := by simpa using q1
 have g0 : 0 ≤ g := by simpa using q2
 have g1 : g < t := by simpa using q3
 obtain ⟨p, rfl⟩ := Int.eq_ofNat_of_zero_le f0
 obtain ⟨q, rfl⟩ := Int.eq_ofNat_of_zero_le g0
 obtain ⟨la, hla⟩ : ∃ la, LA[p]? = some la := ⟨_, List.getElem?_eq_getElem (by omega)⟩
 obtain ⟨lb, hlb⟩ : ∃ lb, LA[q]? = some lb := ⟨_, List.getElem?_eq_getElem (by omega)⟩
 have Hr := Hin.out p q la lb rfl rfl hla hlb
 have HMa := HM.out p la hla
 have HMb := HM.out q lb hlb
 rw [mainT_eq] at HMa HMb
 unfold lapLegs at Hr
 generalize (mainLeg la).isSome = ta at *
 generalize (mainLeg lb).isSome = tb at *
 generalize legI (mainLeg la) = A at *
 generalize legI (mainLeg lb) = C at *
 obtain ⟨⟨A1, A2, A3⟩, A4, A5, A6⟩ := A
 obtain ⟨⟨C1, C2, C3⟩, C4, C5, C6⟩ := C
 simp only [bxV] at HMa HMb Hr
 have Hr := hide Hr
 have HMa := hide HMa
 have HMb := hide HMb
 have K0 := K2
 have KJ := J2
 clear Hin Hout HM hcl hcl2 hla hlb f0 f1 g0 g1 K2 J2
 go_wp2_with (refine wpList_load_row rfl 34 (.tmp 2) rfl w.heap.size rfl 34 _ (0, 0) _ K0.out Tryz.underlying34 rfl Hi.out ?_)
 refine (HMa.out _ HW2.out).mono ?_
 rintro e w3 ⟨rfl, hb3⟩
 have K0 := hide ((K0.out.keep hb3).alloc (.cells #[.int .i64 A1, .int .i64 A2, .int .i64 A3, .int .i64 A4, .int .i64 A5, .int .i64 A6] 62))
 have KJ := hide ((KJ.out.keep hb3).alloc (.cells #[.int .i64 A1, .int .i64 A2, .int .i64 A3, .int .i64 A4, .int .i64 A5, .int .i64 A6] 62))
 have KA := hide (Blk.new w3 62 #[.int .i64 A1, .int .i64 A2, .int .i64 A3, .int .i64 A4, .int .i64 A5, .int .i64 A6])
 have HW3' := below_step HW2.out hb3 (Nat.le_refl _)
 have HW3 := hide (HW3'.alloc HW3'.size (.cells #[.int .i64 A1, .int .i64 A2, .int .i64 A3, .int .i64 A4, .int .i64 A5, .int .i64 A6] 62))
 clear hb3 HMa HW2 HW3' e0 e1 lj
 have e1 := KJ.out.cell 1
 simp at e1
 have lj := KJ.out.lt
 go_wp2_with (refine wpList_load_row rfl 34 (.tmp 2) rfl w.heap.size rfl 34 _ (0, 0) _ K0.out Tryz.underlying34 rfl Hi.out ?_)
 refine (HMb.out _ HW3.out).mono ?_
 rintro e w4 ⟨rfl, hb4⟩
 have KA := hide ((KA.out.keep hb4).alloc (.cells #[.int .i64 C1, .int .i64 C2, .int .i64 C3, .int .i64 C4, .int .i64 C5, .int .i64 C6] 62))
 have KC := hide (Blk.new w4 62 #[.int .i64 C1, .int .i64 C2, .int .i64 C3, .int .i64 C4, .int .i64 C5, .int .i64 C6])
 have HW4' := below_step HW3.out hb4 (Nat.le_refl _)
 have HW4 := hide (HW4'.alloc HW4'.size (.cells #[.int .i64 C1, .int .i64 C2, .int .i64 C3, .int .i64 C4, .int .i64 C5, .int .i64 C6] 62))
 clear hb4 HMb HW3 HW4' e1 lj K0 KJ Hi
 have u0 := KA.out.cell 0
 have u3 := KA.out.cell 3
 have v0 := KC.out.cell 0
 simp at u0 u3 v0
 have v3 := KC.out.cell 3
 simp at v3
 have la' := KA.out.lt
 have lc' := KC.out.lt
 cases ta
 ·go_wp2_with fail
  go_ret
  exact ⟨ret_bool (by rw [Hr.out]; rfl), HW4.out⟩
 cases tb
 ·go_wp2_with fail
  go_ret
  exact ⟨ret_bool (by rw [Hr.out]; rfl), HW4.out⟩
 cases x0 : decide (A1 < C1)
 ·go_wp2_with fail
  go_ret
  exact ⟨ret_bool (by rw [Hr.out, x0]; rfl), HW4.out⟩
 cases x1 : decide (A4 < C4)
 ·go_wp2_with fail
  go_ret
  exact ⟨ret_bool (by rw [Hr.out, x0, x1]; rfl), HW4.out⟩
 cases x2 : decide (C1 ≤ A4)
 all_goals
  go_wp2_with fail
  go_ret
  exact ⟨ret_bool (by rw [Hr.out, x0, x1, x2]; rfl), HW4.out⟩
def lapClash (j i : JoinD) : Bool := decide (i.first = j.first) || decide (i.second = j.second)
theorem lapNew_any (done : List JoinD) (j : JoinD) : lapNew done j = !done.any (lapClash j) := rfl
theorem lapsBy_at {ms : List (Option BoxD)} {l : List JoinD} {k : Nat} {j : JoinD} (h : l[k]? = some j) : lapsBy ms (l.take k) (l.drop k) = (lapsFit ms j && (lapNew (l.take k) j && lapsBy ms (l.take (k + 1)) (l.drop (k + 1)))) := by
 rw [drop_at' h, lapsBy, take_snoc' h, Bool.and_assoc]
theorem lapNew_true {l : List JoinD} {j : JoinD} {k : Nat} (h : NoneTo (lapClash j) l k) : lapNew (l.take k) j = true := by
 rw [lapNew_any]
 have : (l.take k).any (lapClash j) = false := by
  rw [List.any_eq_false]
  intro z hz
  obtain ⟨u, hu, rfl⟩ := List.getElem_of_mem hz
  rw [List.length_take] at hu
  rw [h u (l.take k)[u] (by omega) (by rw [List.getElem_take]; exact List.getElem?_eq_getElem (by omega))]
  simp
 rw [this]
 rfl
theorem lapNew_false {l : List JoinD} {i j : JoinD} {k t : Nat} (ht : t < k) (hi : l[t]? = some i) (hc : lapClash j i = true) : lapNew (l.take k) j = false := by
 rw [lapNew_any]
 have : (l.take k).any (lapClash j) = true := by
  rw [List.any_eq_true]
  refine ⟨i, ?_, hc⟩
  have : (l.take k)[t]? = some i := by rw [List.getElem?_take_of_lt ht]; exact hi
  exact mem_of_get this
 rw [this]
 rfl
set_option maxHeartbeats 8000000 in
set_option maxRecDepth 100000 in
theorem refValid25_any (x : DetD) (s : DetS) (w : World) {B : Nat} (h : DetAt w B x s) (hB : B ≤ w.heap.size) (hf : DetFit x s) (hd : ∀ d ∈ x.dems, d.name.size ≤ maxLen ∧ d.steps.length ≤ 60000) :
    Calls Tryz.prog 14 #[detV x s] w fun e w' => e = .returned (.bool (detOk x)) ∧ Below w.heap.size w w' := by
  have H1 := hide (fun (W : World) (hz : Below w.heap.size w W) => refMember_any x.mem s.a1 s.a2 s.n1 s.n2 s.c1 s.c2 W (h.h1.carry (Flat.carried _) (hz.mono hB) (Nat.le_refl _)) (h.h2.carry (Flat.carried _) (hz.mono hB) (Nat.le_refl _)) (Nat.le_trans hB hz.size) hf.l1 hf.l2 hf.name)
  have H2 := hide (fun (W : World) (hz : Below w.heap.size w W) => refLaid_any s.a3 s.a4 x.bars x.runs s.n3 s.c3 s.n4 s.c4 W (h.h3.carry (hz.mono hB) (Nat.le_refl _)) (h.h4.carry (Flat.carried _) (hz.mono hB) (Nat.le_refl _)) (Nat.le_trans hB hz.size) hf.l3 hf.l4 hf.m3 hf.tame)
  have H3 := hide (fun (W : World) (hz : Below w.heap.size w W) => refDems_any s.a6 x.dems s.n6 s.c6 W (SlOf.carry demR_carried h.h6 (hz.mono hB) (Nat.le_refl _)) (Nat.le_trans hB hz.size) hf.l6 hf.m6 hd)
  have H4 := hide (fun (W : World) => refRule_any x.rule W)
  have HJ := fun (hok : laidOk x.bars x.runs = true) (j : JoinD) (W : World) (hz : Below w.heap.size w W) => refJoint_any x s j W (h.carry (hz.mono hB) (Nat.le_refl _)) (Nat.le_trans hB hz.size) hf hok
  have Hr := hide (detOk_ref x)
  have HL := hide h.h5
  have L5 := hide hf.l5
  have HB := hide hB
  have m5 := hf.m5
  have Hi := hide (show (Tryz.prog.info? 34).map (·.size) = some 19 by kernel_rfl)
  have K0 := hide (Blk.new w 34 (detCells x.mem x.rule s))
  have HW := hide (below_new w (.cells (detCells x.mem x.rule s) 34))
  obtain ⟨b1, hb1⟩ : ∃ b, b = memOk x.mem := ⟨_, rfl⟩
  obtain ⟨b2, hb2⟩ : ∃ b, b = laidOk x.bars x.runs := ⟨_, rfl⟩
  obtain ⟨b3, hb3⟩ : ∃ b, b = demsOk x.dems := ⟨_, rfl⟩
  obtain ⟨b4, hb4⟩ : ∃ b, b = ruleOk x.rule := ⟨_, rfl⟩
  rw [← hb1, ← hb2, ← hb3, ← hb4] at Hr
  rw [← hb1] at H1
  rw [← hb2] at H2 HJ
  rw [← hb3] at H3
  rw [← hb4] at H4
  have HJ := hide HJ
  generalize (laidAll x.bars x.runs).map mainLeg = ms at *
  generalize detOk x = res at *
  obtain ⟨mem, bars, runs, laps, dems, rule⟩ := x
  obtain ⟨a1, n1, c1, a2, n2, c2, a3, n3, c3, a4, n4, c4, a5, n5, c5, a6, n6, c6⟩ := s
  obtain ⟨name, boxes, holes, cover, agg, poker⟩ := mem
  obtain ⟨r1, r2, r3, r4, r5, r6, r7, r8, r9⟩ := rule
  simp only [detCells] at K0 HW
  simp only at H1 H2 H3 H4 HL L5 m5 Hr
  clear h hf hd hB hb1 hb2 hb3 hb4
  show Calls Tryz.prog 14 #[.agg #[.string name, .slice a1 n1 c1, .slice a2 n2 c2, .int .i64 cover, .int .i64 agg, .int .i64 poker, .slice a3 n3 c3, .slice a4 n4 c4, .slice a5 n5 c5, .slice a6 n6 c6, .int .i64 r1, .int .i64 r2, .int .i64 r3, .int .i64 r4, .int .i64 r5, .int .i64 r6, .int .i64 r7, .int .i64 r8, .int .i64 r9]] w _
  go_enter Tryz.func14, Tryz.ntmps14
  go_wp2_with fail
  refine (H1.out _ HW.out).mono ?_
  rintro e w2 ⟨rfl, hb2⟩
  have K0 := hide (K0.out.keep hb2)
  have HW := hide (below_step HW.out hb2 (Nat.le_refl _))
  clear hb2
  cases b1
  · go_wp2_with fail
    go_ret
    exact ⟨ret_bool (by rw [Hr.out]; rfl), HW.out⟩
  have e6 := K0.out.cell 6
  have e7 := K0.out.cell 7
  simp at e6 e7
  go_wp2_with fail
  refine (H2.out _ HW.out).mono ?_
  rintro e w2 ⟨rfl, hb2⟩
  have K0 := hide (K0.out.keep hb2)
  have HW := hide (below_step HW.out hb2 (Nat.le_refl _))
  clear hb2
  clear e6 e7
  cases b2
  · go_wp2_with fail
    go_ret
    exact ⟨ret_bool (by rw [Hr.out]; rfl), HW.out⟩
  have HJJ := hide (HJ.out rfl)
  clear HJ
  have e9 := K0.out.cell 9
  simp at e9
  go_wp2_with fail
  refine (H3.out _ HW.out).mono ?_
  rintro e w2 ⟨rfl, hb2⟩
  have K0 := hide (K0.out.keep hb2)
  have HW := hide (below_step HW.out hb2 (Nat.le_refl _))
  clear hb2
  clear e9
  cases b3
  · go_wp2_with fail
    go_ret
    exact ⟨ret_bool (by rw [Hr.out]; rfl), HW.out⟩
  have e10 := K0.out.cell 10
  have e11 := K0.out.cell 11
  have e12 := K0.out.cell 12
  have e13 := K0.out.cell 13
  have e14 := K0.out.cell 14
  have e15 := K0.out.cell 15
  have e16 := K0.out.cell 16
  have e17 := K0.out.cell 17
  have e18 := K0.out.cell 18
  simp at e10 e11 e12 e13 e14 e15 e16 e17 e18
  go_wp2_with fail
  refine (H4.out _).mono ?_
  rintro e w2 ⟨rfl, hb2⟩
  have K0 := hide (K0.out.keep hb2)
  have HW := hide (below_step HW.out hb2 (Nat.le_refl _))
  clear hb2
  clear e10 e11 e12 e13 e14 e15 e16 e17 e18
  cases b4
  · go_wp2_with fail
    go_ret
    exact ⟨ret_bool (by rw [Hr.out]; rfl), HW.out⟩
  have e8 := K0.out.cell 8
  simp at e8
  by_cases hlen : 1000 < n5
  · have d0 : decide (1000 < (n5 : Int)) = true := by simp; omega
    have Hr := hide (show res = false by rw [Hr.out, decide_eq_false (show ¬ laps.length ≤ 1000 by rw [← L5.out]; omega)]; rfl)
    go_wp2_with fail
    go_ret
    exact ⟨ret_bool Hr.out.symm, HW.out⟩
  have d0 : decide (1000 < (n5 : Int)) = false := by simp; omega
  have Hr := hide (show res = lapsBy ms (laps.take 0) (laps.drop 0) by rw [Hr.out, decide_eq_true (show laps.length ≤ 1000 by rw [← L5.out]; omega)] <;> rfl)
  clear hlen H1 H2 H3 H4
  go_wp2_with fail
  clear e8
  go_loopw [3] (fun iv wr => ∃ k : Nat, k ≤ n5 ∧ iv = .int .i64 k ∧ Hid (lapsBy ms (laps.take 0) (laps.drop 0) = lapsBy ms (laps.take k) (laps.drop k)) ∧ Hid (Blk wr w.heap.size 34 #[.string name, .slice a1 n1 c1, .slice a2 n2 c2, .int .i64 cover, .int .i64 agg, .int .i64 poker, .slice a3 n3 c3, .slice a4 n4 c4, .slice a5 n5 c5, .slice a6 n6 c6, .int .i64 r1, .int .i64 r2, .int .i64 r3, .int .i64 r4, .int .i64 r5, .int .i64 r6, .int .i64 r7, .int .i64 r8, .int .i64 r9]) ∧ Hid (Below w.heap.size w wr)) (fun iv _ => n5 - (intOf iv).toNat)
  case atStart => exact ⟨0, Nat.zero_le _, rfl, hide rfl, K0, HW⟩
  case round =>
    clear K0 HW
    rename World => wo
    obtain ⟨k, hk, rfl, hq, hK, hbr⟩ := hrel
    have e8 := hK.out.cell 8
    simp at e8
    have lk := hK.out.lt
    by_cases hlt : k < n5
    · obtain ⟨b, off, j, rfl, hbl, hx, g0, g1⟩ := JoinsAt.get (k := k) (HL.out.carry (Flat.carried _) (hbr.out.mono HB.out) (Nat.le_refl _)) (by rw [← L5.out]; exact hlt)
      have Hx := hide hx
      have Hq := hide (hq.out.trans (lapsBy_at hx))
      have HJj := HJJ.out j
      obtain ⟨a, ha⟩ : ∃ a, a = lapsFit ms j := ⟨_, rfl⟩
      rw [← ha] at HJj Hq
      have HJj := hide HJj
      obtain ⟨f, g⟩ := j
      simp only at g0 g1 HJj
      have hblt := hbl
      clear hx hbl hq ha
      have HQ0 := hide (HL.out.carry (Flat.carried _) (hbr.out.mono HB.out) (Nat.le_refl B))
      have hbw : b < w.heap.size := Nat.lt_of_lt_of_le hblt HB.out
      go_wp2_with fail
      refine wp_region_still_tail 6 (by kernel_rfl) (by kernel_rfl) ?_
      simp only [List.take_succ_cons, List.take_zero, List.drop_succ_cons, List.drop_zero]
      refine still_load_row rfl 34 (.tmp 1) rfl w.heap.size rfl 34 _ (0, 0) _ hK.out Tryz.underlying34 rfl Hi.out ?_
      repeat still_step
      try refine wpStill_nil ?_
      change wpList _ _ _ _ _ (World.drew wo)
      go_wp2_with fail
      refine (HJj.out _ hbr.out.drew).mono ?_
      rintro e w2 ⟨rfl, hb2⟩
      have hK2 := hide ((hK.out.drew).keep hb2)
      have hbr2 := hide (below_step hbr.out.drew hb2 (Nat.le_refl _))
      clear hb2 HJj g0 g1 e8 lk
      cases a
      · have Hr := hide (show res = false by rw [Hr.out, Hq.out]; rfl)
        go_wp2_with fail
        go_ret
        exact ⟨ret_bool Hr.out.symm, hbr2.out⟩
      go_wp2_with fail
      go_loopw [4] (fun iv wr => ∃ t : Nat, t ≤ k ∧ iv = .int .i64 t ∧ NoneTo (lapClash ⟨f, g⟩) laps t ∧ Hid (Blk wr w.heap.size 34 #[.string name, .slice a1 n1 c1, .slice a2 n2 c2, .int .i64 cover, .int .i64 agg, .int .i64 poker, .slice a3 n3 c3, .slice a4 n4 c4, .slice (some ⟨b, off, none⟩) n5 c5, .slice a6 n6 c6, .int .i64 r1, .int .i64 r2, .int .i64 r3, .int .i64 r4, .int .i64 r5, .int .i64 r6, .int .i64 r7, .int .i64 r8, .int .i64 r9]) ∧ Hid (Below w.heap.size w wr)) (fun iv _ => k - (intOf iv).toNat)
      case atStart => exact ⟨0, Nat.zero_le _, rfl, NoneTo.zero _ _, hK2, hbr2⟩
      case round =>
        clear hK hbr hK2 hbr2 HQ0
        rename World => wi
        obtain ⟨t, ht, rfl, hno, hK, hbr⟩ := hrel
        have e8 := hK.out.cell 8
        simp at e8
        have lk := hK.out.lt
        by_cases hlj : t < k
        · have HQ := HL.out.carry (Flat.carried _) (hbr.out.mono HB.out) (Nat.le_refl B)
          obtain ⟨b', off', i, hA', _, hy, f0, f1⟩ := JoinsAt.get (k := t) HQ (by rw [← L5.out]; omega)
          injection hA' with hA'
          injection hA' with z1 z2
          subst z1 z2
          obtain ⟨b', off', i', hA', _, hx', g0, g1⟩ := JoinsAt.get (k := k) HQ (by rw [← L5.out]; omega)
          injection hA' with hA'
          injection hA' with z1 z2
          subst z1 z2
          rw [Hx.out] at hx'
          injection hx' with hx'
          subst hx'
          have Hy := hide hy
          obtain ⟨p, q⟩ := i
          simp only at f0 f1 g0 g1
          clear HQ hy
          cases e1 : (p == f)
          · cases e2 : (q == g)
            · have Hc := hide (show lapClash ⟨f, g⟩ ⟨p, q⟩ = false by
                have h1 : p ≠ f := by simpa using e1
                have h2 : q ≠ g := by simpa using e2
                simp [lapClash, h1, h2])
              have Hno := hide (hno.succ Hy.out Hc.out)
              clear hno
              go_wp2_with fail
              go_quiet (fail)
              go_wp2_with fail
              go_roundw
              case rel => exact ⟨t + 1, by omega, by go_num, Hno.out, hide (hK.out.drewN _), hide (below_drewN' hbr.out _)⟩
              case measure => simp [intOf]; omega
            · have Hr := hide (show res = false by
                rw [Hr.out, Hq.out, lapNew_false hlj Hy.out (by have h2 : q = g := by simpa using e2
                                                                simp [lapClash, h2])]
                rfl)
              clear hno
              go_wp2_with fail
              go_quiet (fail)
              go_wp2_with fail
              go_ret
              exact ⟨ret_bool Hr.out.symm, below_drewN' hbr.out _⟩
          · have Hr := hide (show res = false by
              rw [Hr.out, Hq.out, lapNew_false hlj Hy.out (by have h2 : p = f := by simpa using e1
                                                              simp [lapClash, h2])]
              rfl)
            clear hno
            go_wp2_with fail
            go_quiet (fail)
            go_wp2_with fail
            go_ret
            exact ⟨ret_bool Hr.out.symm, below_drewN' hbr.out _⟩
        · obtain rfl : t = k := by omega
          have Hq2 := hide (show lapsBy ms (laps.take 0) (laps.drop 0) = lapsBy ms (laps.take (t + 1)) (laps.drop (t + 1)) by rw [Hq.out, lapNew_true hno]; rfl)
          clear hno
          go_wp2_with fail
          go_roundw
          case rel => exact ⟨t + 1, by omega, by go_num, Hq2, hK, hbr⟩
          case measure => simp [intOf]; omega
    · obtain rfl : k = n5 := by omega
      have Hr := hide (show res = true by rw [Hr.out, hq.out, List.drop_of_length_le (by rw [← L5.out]; exact Nat.le_refl _)]; rfl)
      go_wp2_with fail
      go_ret
      exact ⟨ret_bool Hr.out.symm, hbr.out⟩
end Go.Proofs.YtpaanfjjnjjoeaaGreat
