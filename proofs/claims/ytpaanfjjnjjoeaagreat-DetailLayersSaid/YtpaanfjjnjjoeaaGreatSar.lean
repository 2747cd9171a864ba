/- Plain: what boxes cover; a binary search; the cover of a leg. -/
import Derived.Test.YtpaanfjjnjjoeaaGreatSaq
import Derived.Test.YtpaanfjjnjjoeaaGreatSao
import Derived.Deep.RegionLaw
set_option maxHeartbeats 8000000
set_option maxRecDepth 100000
namespace Go.Proofs.YtpaanfjjnjjoeaaGreat
open Go.RowKit
def zjg (u v : Int) (n : Int) : Bool := decide (u < n) && decide (n < v)
def zc4 (k : Nat) (b : BoxD) : List Int := match (zbI b)[k]? with | some p => [p.1, p.2] | none => []
def zdV (l : List BoxD) (k : Nat) (u v : Int) : List Int := (l.flatMap (zc4 k)).filter (zjg u v)
def zcH : List Int → List (Int × Int)
 | a :: b :: r => (a, b) :: zcH (b :: r)
 | _ => []
def zbr (l : List BoxD) (k : Nat) (u v : Int) : List (Int × Int) := if u = v then [(u, u)] else zcH (Lib.compact (((u :: v :: zdV l k u v)).mergeSort (· ≤ ·)))
def zhu (x y z : Int × Int) : BoxD := ⟨(x.1, y.1, z.1), (x.2, y.2, z.2)⟩
def zea (l : List BoxD) (b : BoxD) : Bool :=
 (zbr l 0 b.lo.1 b.hi.1).all fun x => (zbr l 1 b.lo.2.1 b.hi.2.1).all fun y => (zbr l 2 b.lo.2.2 b.hi.2.2).all fun z => l.any (zfT (zhu x y z))
def zht (bs hs : List BoxD) (b : BoxD) : Bool := zad b && (!za5 (zfg b) hs && zea bs b)
def zaN (p : Nat → Bool) : Nat → Nat → Nat → Nat
 | 0, i, _ => i
 | f + 1, i, j => if i < j then (if p ((i + j) / 2) then zaN p f i ((i + j) / 2) else zaN p f ((i + j) / 2 + 1) j) else i
theorem zou (p : Nat → Bool) (h0 : p 0 = false) : ∀ f i j, j - i ≤ f → i ≤ j → (0 < i ∨ 0 < j) → 0 < zaN p f i j := by
 intro f
 induction f with
 | zero =>
  intro i j h1 h2 h3;rw [zaN];omega
 | succ f ih =>
  intro i j h1 h2 h3;rw [zaN];by_cases hij : i < j
  ·rw [if_pos hij];by_cases hp : p ((i + j) / 2) = true
   ·rw [if_pos hp];have hne : (i + j) / 2 ≠ 0 := by
     intro h;rw [h, h0] at hp;cases hp
    exact ih _ _ (by omega) (by omega) (by omega)
   ·rw [if_neg hp];exact ih _ _ (by omega) (by omega) (by omega)
  ·rw [if_neg hij];omega
theorem ziD (p : Nat → Bool) : ∀ f i j, j - i ≤ f → ∀ g, j - i ≤ g → zaN p f i j = zaN p g i j := by
 intro f
 induction f with
 | zero =>
  intro i j h g hg;cases g with
  | zero => rfl
  | succ g => rw [zaN, zaN, if_neg (by omega)]
 | succ f ih =>
  intro i j h g hg;cases g with
  | zero => rw [zaN, zaN, if_neg (by omega)]
  | succ g =>
   rw [zaN, zaN];by_cases hij : i < j
   ·rw [if_pos hij, if_pos hij, ih i ((i + j) / 2) (by omega) g (by omega), ih ((i + j) / 2 + 1) j (by omega) g (by omega)]
   ·rw [if_neg hij, if_neg hij]
theorem zkT (p : Nat → Bool) : ∀ f i j, i ≤ j → i ≤ zaN p f i j ∧ zaN p f i j ≤ j := by
 intro f
 induction f with
 | zero => intro i j h; rw [zaN]; omega
 | succ f ih =>
  intro i j h;rw [zaN];by_cases hij : i < j
  ·rw [if_pos hij];by_cases hp : p ((i + j) / 2) = true
   ·rw [if_pos hp];have := ih i ((i + j) / 2) (by omega);omega
   ·rw [if_neg hp];have := ih ((i + j) / 2 + 1) j (by omega);omega
  ·rw [if_neg hij];omega
def zb7 (p : Nat → Bool) (n : Nat) : Nat := zaN p n 0 n
def zaY (b : BoxD) (c : Int) : BoxD := ⟨(b.lo.1 - c, b.lo.2.1 - c, b.lo.2.2 - c), (b.hi.1 + c, b.hi.2.1 + c, b.hi.2.2 + c)⟩
def zbl (d : Int) : Int := (d + 1) / 2
def zdJ (m : MemD) (b : BoxD) (c : Nat) : Bool := !zht m.boxes m.holes (zaY b c)
def zgR (m : MemD) (b : BoxD) : Int := (zb7 (zdJ m b) 2097153 : Nat) - 1
def zcJ (m : MemD) (d : Int) (leg : BoxD) : Int := if zad (zaY leg (zbl d)) then zgR m (zaY leg (zbl d)) else -1
def zd8 (m : MemD) (d : Int) (legs : List BoxD) : Int := legs.foldl (fun a l => min a (zcJ m d l)) 2097152
structure FinD where
 kind : Int
 name : ByteArray
def zel (m : MemD) (x : LaidD) : List FinD := if zd8 m x.bar.size (zy x.pts) < m.cover then [⟨1, x.bar.mark⟩] else []
def zbE (m : MemD) (l : List LaidD) : List FinD := l.flatMap (zel m)
theorem zrm {m : MemD} {b : BoxD} (h : zht m.boxes m.holes (zaY b 0) = true) : 0 ≤ zgR m b := by
 have h1 := zou (zdJ m b) (by simp [zdJ, h]) 2097153 0 2097153 (by omega) (by omega) (by omega)
 show 0 ≤ ((zaN (zdJ m b) 2097153 0 2097153 : Nat) : Int) - 1
 omega
theorem zkZ : ∀ l : List Int, l.Pairwise (· < ·) → ∀ p ∈ zcH l, p.1 ∈ l ∧ p.2 ∈ l ∧ p.1 < p.2 ∧ ∀ s ∈ l, ¬ (p.1 < s ∧ s < p.2)
 | [], _, p, hp => by simp [zcH] at hp
 | [a], _, p, hp => by simp [zcH] at hp
 | a :: b :: r, h, p, hp => by
  rw [List.pairwise_cons] at h;obtain ⟨h1, h2⟩ := h;rw [zcH, List.mem_cons] at hp;rcases hp with rfl | hp
  ·refine ⟨by simp, by simp, h1 b (by simp), fun s hs => ?_⟩;have h3 := (List.pairwise_cons.1 h2).1;rcases List.mem_cons.1 hs with rfl | hs
   ·simp
   rcases List.mem_cons.1 hs with rfl | hs
   ·simp
   ·have := h3 s hs;simp only;omega
  ·obtain ⟨g1, g2, g3, g4⟩ := zkZ (b :: r) h2 p hp;refine ⟨zZ _ g1, zZ _ g2, g3, fun s hs => ?_⟩;rcases List.mem_cons.1 hs with rfl | hs
   ·have := h1 _ g1;omega
   ·exact g4 s hs
theorem ziK : ∀ (l : List Int) (t : Int), l.Pairwise (· < ·) → 2 ≤ l.length → (∃ s ∈ l, 2 * s ≤ t) → (∃ s ∈ l, t ≤ 2 * s) → ∃ p ∈ zcH l, 2 * p.1 ≤ t ∧ t ≤ 2 * p.2
 | [], _, _, h, _, _ => by simp at h
 | [a], _, _, h, _, _ => by simp at h
 | a :: b :: r, t, h, _, ⟨s, hs, h1⟩, ⟨q, hq, h2⟩ => by
  rw [List.pairwise_cons] at h;obtain ⟨h3, h4⟩ := h;by_cases hb : t ≤ 2 * b
  ·refine ⟨(a, b), by simp [zcH], ?_, hb⟩;rcases List.mem_cons.1 hs with rfl | hs
   ·exact h1
   ·have := h3 s hs;simp only;omega
  ·cases r with
   | nil =>
    exfalso;rcases List.mem_cons.1 hq with rfl | hq
    ·have := h3 b (by simp);omega
    ·simp at hq;subst hq;omega
   | cons c r =>
    have hq2 : q ∈ b :: c :: r := by
     rcases List.mem_cons.1 hq with rfl | hq
     ·have := h3 b (by simp);omega
     ·exact hq
    obtain ⟨p, hp, g⟩ := ziK (b :: c :: r) t h4 (by simp) ⟨b, by simp, by omega⟩ ⟨q, hq2, h2⟩;exact ⟨p, by rw [zcH]; exact zZ _ hp, g⟩
theorem zpT {l : List BoxD} {k : Nat} {u v n : Int} : n ∈ zdV l k u v ↔ (∃ b ∈ l, n ∈ zc4 k b) ∧ u < n ∧ n < v := by
 simp [zdV, zjg, List.mem_filter]
theorem zgG {l : List BoxD} {k : Nat} {u v t : Int} (_h : u ≤ v) (h1 : 2 * u ≤ t) (h2 : t ≤ 2 * v) : ∃ p ∈ zbr l k u v, 2 * p.1 ≤ t ∧ t ≤ 2 * p.2 := by
 unfold zbr;by_cases huv : u = v
 ·rw [if_pos huv];exact ⟨(u, u), by simp, h1, by simp only; omega⟩
 ·rw [if_neg huv];obtain ⟨g1, g2⟩ := zdS (u :: v :: zdV l k u v);have hu := (g2 u).2 (by simp);have hv := (g2 v).2 (by simp);refine ziK _ t g1 ?_ ⟨u, hu, h1⟩ ⟨v, hv, h2⟩;cases hS : Lib.compact ((u :: v :: zdV l k u v).mergeSort fun x y => decide (x ≤ y)) with
  | nil => rw [hS] at hu; cases hu
  | cons a r =>
   cases r with
   | nil =>
    rw [hS] at hu hv;simp at hu hv;omega
   | cons b r => simp
theorem zie {l : List BoxD} {k : Nat} {u v : Int} (h : u ≤ v) {p : Int × Int} (hp : p ∈ zbr l k u v) : u ≤ p.1 ∧ p.1 ≤ p.2 ∧ p.2 ≤ v ∧ ∀ b ∈ l, ∀ n ∈ zc4 k b, ¬ (p.1 < n ∧ n < p.2) := by
 unfold zbr at hp;by_cases huv : u = v
 ·rw [if_pos huv] at hp;simp at hp;subst hp;refine ⟨Int.le_refl _, Int.le_refl _, h, fun b _ n _ => ?_⟩;simp only;omega
 ·rw [if_neg huv] at hp;obtain ⟨g1, g2⟩ := zdS (u :: v :: zdV l k u v);obtain ⟨m1, m2, m3, m4⟩ := zkZ _ g1 p hp;have key : ∀ n, n ∈ u :: v :: zdV l k u v → u ≤ n ∧ n ≤ v := by
   intro n hn;rcases List.mem_cons.1 hn with rfl | hn
   ·omega
   rcases List.mem_cons.1 hn with rfl | hn
   ·omega
   ·have := (zpT.1 hn).2;omega
  have k1 := key _ ((g2 _).1 m1);have k2 := key _ ((g2 _).1 m2);refine ⟨k1.1, by omega, k2.2, fun b hb n hn hlt => ?_⟩;exact m4 n ((g2 n).2 (zZ _ (zZ _ (zpT.2 ⟨⟨b, hb, hn⟩, by omega, by omega⟩)))) hlt
def ztD (a : BoxD) (t : Pt) : Prop := (2 * a.lo.1 ≤ t.1 ∧ t.1 ≤ 2 * a.hi.1) ∧ (2 * a.lo.2.1 ≤ t.2.1 ∧ t.2.1 ≤ 2 * a.hi.2.1) ∧ (2 * a.lo.2.2 ≤ t.2.2 ∧ t.2.2 ≤ 2 * a.hi.2.2)
def zpO (b : BoxD) : Prop := b.lo.1 ≤ b.hi.1 ∧ b.lo.2.1 ≤ b.hi.2.1 ∧ b.lo.2.2 ≤ b.hi.2.2
theorem zps {l : List BoxD} {b : BoxD} (h : zpO b) : zea l b = true ↔ ∀ t, ztD b t → ∃ a ∈ l, ztD a t := by
 obtain ⟨o1, o2, o3⟩ := h;simp only [zea, List.all_eq_true, List.any_eq_true, zfT, zdF, zhu, zm, zzJ]
 constructor
 ·rintro hc t ⟨⟨a1, a2⟩, ⟨b1, b2⟩, c1, c2⟩;obtain ⟨x, hx, x1, x2⟩ := zgG (l := l) (k := 0) o1 a1 a2;obtain ⟨y, hy, y1, y2⟩ := zgG (l := l) (k := 1) o2 b1 b2;obtain ⟨z, hz, z1, z2⟩ := zgG (l := l) (k := 2) o3 c1 c2;obtain ⟨a, ha, g⟩ := hc x hx y hy z hz;exact ⟨a, ha, ⟨by omega, by omega⟩, ⟨by omega, by omega⟩, by omega, by omega⟩
 ·intro hc x hx y hy z hz;obtain ⟨x1, x2, x3, x4⟩ := zie o1 hx;obtain ⟨y1, y2, y3, y4⟩ := zie o2 hy;obtain ⟨z1, z2, z3, z4⟩ := zie o3 hz;obtain ⟨a, ha, ⟨a1, a2⟩, ⟨b1, b2⟩, c1, c2⟩ := hc (x.1 + x.2, y.1 + y.2, z.1 + z.2) ⟨⟨by simp only; omega, by simp only; omega⟩, ⟨by simp only; omega, by simp only; omega⟩, by simp only; omega, by simp only; omega⟩;simp only at a1 a2 b1 b2 c1 c2;have e0 : a.lo.1 ∈ zc4 0 a ∧ a.hi.1 ∈ zc4 0 a := by simp [zc4, zbI]
  have e1 : a.lo.2.1 ∈ zc4 1 a ∧ a.hi.2.1 ∈ zc4 1 a := by simp [zc4, zbI]
  have e2 : a.lo.2.2 ∈ zc4 2 a ∧ a.hi.2.2 ∈ zc4 2 a := by simp [zc4, zbI]
  have f1 := x4 a ha _ e0.1;have f2 := x4 a ha _ e0.2;have f3 := y4 a ha _ e1.1;have f4 := y4 a ha _ e1.2;have f5 := z4 a ha _ e2.1;have f6 := z4 a ha _ e2.2;refine ⟨a, ha, ?_⟩;simp only [and_assoc];refine ⟨by omega, by omega, by omega, by omega, by omega, by omega⟩
theorem zkE {b : BoxD} (h : zad b = true) : zpO b := by
 have := zbo.1 h;exact ⟨this.1.1, this.2.1.1, this.2.2.1⟩
def zob (a b : BoxD) : Prop := (b.lo.1 ≤ a.lo.1 ∧ a.hi.1 ≤ b.hi.1) ∧ (b.lo.2.1 ≤ a.lo.2.1 ∧ a.hi.2.1 ≤ b.hi.2.1) ∧ (b.lo.2.2 ≤ a.lo.2.2 ∧ a.hi.2.2 ≤ b.hi.2.2)
def zrH (d : Int) : Int := if d ≤ 16 then 5 * d / 2 else 4 * d
def zcX (x : BarD) (n : Nat) (p : Int × Nat) : List FinD :=
 if p.2 = 0 ∨ p.2 + 1 = n then (if p.1 < zrH x.size + 5 * x.size then [⟨1, x.mark⟩] else []) else (if p.1 < 2 * zrH x.size then [⟨2, x.mark⟩] else [])
def zbh (x : BarD) : List FinD := if (zaq x).length = 1 then [] else (zaq x).zipIdx.flatMap (zcX x (zaq x).length)
def zkG (m : ByteArray) (r : RunD) : Bool := r.mark.toList == m.toList
def zgu (runs : List RunD) (m : ByteArray) : Int := zD (runs.filter (zkG m))
def zfz (runs : List RunD) (x : BarD) : List FinD := if 0 < x.count - zgu runs x.mark then [⟨1, x.mark⟩] else if x.count - zgu runs x.mark < 0 then [⟨2, x.mark⟩] else []
def zbt (bars : List BarD) (runs : List RunD) : List FinD := bars.flatMap (zfz runs)
def zag (x : DetD) : List FinD := zbE x.mem (zx x.bars x.runs)
def zcp (k : Int) (f : FinD) : FinD := ⟨f.kind + k, f.name⟩
def zbn (x : DetD) (lp sc : List FinD) : List FinD :=
 x.bars.flatMap zbh ++ (zbt x.bars x.runs).map (zcp 2) ++ (zag x).map (zcp 4) ++ lp.map (zcp 5) ++ sc.map (zcp 7)
def zjm (a b : Int) (f : FinD) : Bool := decide (a ≤ f.kind) && decide (f.kind ≤ b)
def zay (a b : Int) (l : List FinD) : Nat := (l.filter (zjm a b)).length
theorem zk8 (a b : Int) (l m : List FinD) : zay a b (l ++ m) = zay a b l + zay a b m := by simp [zay]
theorem zcR {a b : Int} {l : List FinD} (h : ∀ f ∈ l, a ≤ f.kind ∧ f.kind ≤ b) : zay a b l = l.length := by
 rw [zay, List.filter_eq_self.2];intro f hf;simp [zjm, h f hf]
theorem zaV {a b : Int} {l : List FinD} (h : ∀ f ∈ l, f.kind < a ∨ b < f.kind) : zay a b l = 0 := by
 rw [zay, List.filter_eq_nil_iff.2]
 ·rfl
 ·intro f hf;have := h f hf;simp [zjm];omega
theorem zli {x : BarD} : ∀ f ∈ zbh x, f.kind = 1 ∨ f.kind = 2 := by
 intro f hf;unfold zbh at hf
 split at hf
 ·cases hf
 ·rw [zcB] at hf;obtain ⟨p, _, hp⟩ := hf;unfold zcX at hp
  split at hp <;> split at hp <;> simp at hp <;> subst hp <;> simp
theorem zm1 {bars : List BarD} {runs : List RunD} : ∀ f ∈ zbt bars runs, f.kind = 1 ∨ f.kind = 2 := by
 intro f hf;rw [zbt, zcB] at hf;obtain ⟨p, _, hp⟩ := hf;unfold zfz at hp
 split at hp
 ·simp at hp; subst hp; simp
 ·split at hp <;> simp at hp
  subst hp; simp
theorem zmZ {x : DetD} : ∀ f ∈ zag x, f.kind = 1 := by
 intro f hf;rw [zag, zbE, zcB] at hf;obtain ⟨p, _, hp⟩ := hf;unfold zel at hp
 split at hp <;> simp at hp
 subst hp; rfl
theorem zgV {k : Int} {l : List FinD} {P : Int → Prop} (h : ∀ f ∈ l, P (f.kind + k)) : ∀ f ∈ l.map (zcp k), P f.kind := by
 intro f hf;rw [zeT] at hf;obtain ⟨g, hg, rfl⟩ := hf;exact h g hg
theorem zle {x : DetD} {lp sc : List FinD} (hl : ∀ f ∈ lp, f.kind = 1 ∨ f.kind = 2) (hs : ∀ f ∈ sc, f.kind = 1) :
  zay 1 2 (zbn x lp sc) = (x.bars.flatMap zbh).length ∧ zay 3 4 (zbn x lp sc) = (zbt x.bars x.runs).length ∧ zay 5 5 (zbn x lp sc) = (zag x).length ∧
   zay 6 7 (zbn x lp sc) = lp.length ∧ zay 8 8 (zbn x lp sc) = sc.length ∧ zay 1 8 (zbn x lp sc) = (zbn x lp sc).length := by
 have b1 : ∀ f ∈ x.bars.flatMap zbh, f.kind = 1 ∨ f.kind = 2 := by
  intro f hf;obtain ⟨y, _, hy⟩ := List.mem_flatMap.1 hf;exact zli f hy
 have b2 : ∀ f ∈ (zbt x.bars x.runs).map (zcp 2), f.kind = 3 ∨ f.kind = 4 := zgV (P := fun k => k = 3 ∨ k = 4) (fun f hf => by have := zm1 f hf; omega);have b3 : ∀ f ∈ (zag x).map (zcp 4), f.kind = 5 := zgV (P := fun k => k = 5) (fun f hf => by have := zmZ f hf; omega);have b4 : ∀ f ∈ lp.map (zcp 5), f.kind = 6 ∨ f.kind = 7 := zgV (P := fun k => k = 6 ∨ k = 7) (fun f hf => by have := hl f hf; omega);have b5 : ∀ f ∈ sc.map (zcp 7), f.kind = 8 := zgV (P := fun k => k = 8) (fun f hf => by have := hs f hf; omega);have n2 : ((zbt x.bars x.runs).map (zcp 2)).length = (zbt x.bars x.runs).length := zw ..;have n3 : ((zag x).map (zcp 4)).length = (zag x).length := zw ..;have n4 : (lp.map (zcp 5)).length = lp.length := zw ..;have n5 : (sc.map (zcp 7)).length = sc.length := zw ..;unfold zbn;generalize x.bars.flatMap zbh = l1 at *;generalize (zbt x.bars x.runs).map (zcp 2) = l2 at *;generalize (zag x).map (zcp 4) = l3 at *;generalize lp.map (zcp 5) = l4 at *;generalize sc.map (zcp 7) = l5 at *;simp only [zk8, zC];refine ⟨?_, ?_, ?_, ?_, ?_, ?_⟩
 ·rw [zcR (a := 1) (b := 2) (l := l1) (fun f hf => by have := b1 f hf; omega), zaV (l := l2) (fun f hf => by have := b2 f hf; omega), zaV (l := l3) (fun f hf => by have := b3 f hf; omega), zaV (l := l4) (fun f hf => by have := b4 f hf; omega), zaV (l := l5) (fun f hf => by have := b5 f hf; omega)];omega
 ·rw [zaV (l := l1) (fun f hf => by have := b1 f hf; omega), zcR (a := 3) (b := 4) (l := l2) (fun f hf => by have := b2 f hf; omega), zaV (l := l3) (fun f hf => by have := b3 f hf; omega), zaV (l := l4) (fun f hf => by have := b4 f hf; omega), zaV (l := l5) (fun f hf => by have := b5 f hf; omega)];omega
 ·rw [zaV (l := l1) (fun f hf => by have := b1 f hf; omega), zaV (l := l2) (fun f hf => by have := b2 f hf; omega), zcR (a := 5) (b := 5) (l := l3) (fun f hf => by have := b3 f hf; omega), zaV (l := l4) (fun f hf => by have := b4 f hf; omega), zaV (l := l5) (fun f hf => by have := b5 f hf; omega)];omega
 ·rw [zaV (l := l1) (fun f hf => by have := b1 f hf; omega), zaV (l := l2) (fun f hf => by have := b2 f hf; omega), zaV (l := l3) (fun f hf => by have := b3 f hf; omega), zcR (a := 6) (b := 7) (l := l4) (fun f hf => by have := b4 f hf; omega), zaV (l := l5) (fun f hf => by have := b5 f hf; omega)];omega
 ·rw [zaV (l := l1) (fun f hf => by have := b1 f hf; omega), zaV (l := l2) (fun f hf => by have := b2 f hf; omega), zaV (l := l3) (fun f hf => by have := b3 f hf; omega), zaV (l := l4) (fun f hf => by have := b4 f hf; omega), zcR (a := 8) (b := 8) (l := l5) (fun f hf => by have := b5 f hf; omega)];omega
 ·rw [zcR (l := l1) (fun f hf => by have := b1 f hf; omega), zcR (l := l2) (fun f hf => by have := b2 f hf; omega), zcR (l := l3) (fun f hf => by have := b3 f hf; omega), zcR (l := l4) (fun f hf => by have := b4 f hf; omega), zcR (l := l5) (fun f hf => by have := b5 f hf; omega)]
def zi0 : ByteArray := ⟨#[97]⟩
def zix : BarD := ⟨zi0, 12, 1, 0, [2000]⟩
def exN (n : Nat) : DetD := ⟨⟨⟨#[109]⟩, [⟨(0, 0, 0), (3000, 200, 400)⟩], [], 0, 20, 40⟩, [zix], if n = 0 then [] else [⟨zi0, 1, 2, (100, 50, 50), (0, 50, 0), n⟩], [], [], ⟨40, 1, 10, 7, 7, 10, 3, 2, 100⟩⟩
theorem ztn : zah (exN 0) = true := by decide +kernel
theorem ztm : zah (exN 1) = true := by decide +kernel
theorem ztl : zah (exN 2) = true := by decide +kernel
theorem zjy : zbh zix = [] := by decide +kernel
theorem zsI : zbt (exN 0).bars (exN 0).runs = [⟨1, zi0⟩] := by kernel_rfl
theorem zsH : zbt (exN 1).bars (exN 1).runs = [] := by decide +kernel
theorem zsG : zbt (exN 2).bars (exN 2).runs = [⟨2, zi0⟩] := by kernel_rfl
def zbB (x : FinD) : List Value := [.int .i64 x.kind, .string x.name]
theorem zbv (x : FinD) : (zbB x).length = 2 := rfl
theorem zb6 (x : FinD) : ∀ u ∈ zbB x, u.oneCell' = true := by
 intro u hu;simp only [zbB, List.mem_cons, List.not_mem_nil, or_false] at hu;rcases hu with rfl | rfl <;> rfl
abbrev FinsAt (w : World) (B : Nat) (A : Option Addr) (l : List FinD) : Prop := SlOf w B 2 (Flat zbB) A l
theorem FinsAt.get {w : World} {B : Nat} {A : Option Addr} {l : List FinD} (h : FinsAt w B A l) {k : Nat} (hk : k < l.length) :
  ∃ b off x, A = some ⟨b, off, none⟩ ∧ b < B ∧ l[k]? = some x ∧ w.cell? ⟨b, off + k * 2, none⟩ = some (.int .i64 x.kind) ∧ w.cell? ⟨b, off + k * 2 + 1, none⟩ = some (.string x.name) := by
 obtain ⟨b, off, x, vs, hA, hb, hx, _, hr, hc⟩ := h.at_ hk;have hr' : vs = zbB x := hr;subst hr';exact ⟨b, off, x, hA, hb, hx, by simpa using hc 0 _ rfl, by simpa using hc 1 _ rfl⟩
theorem zg8 {α : Type} {w : World} {base base' : Nat} {e : TypeId} {size : Nat} {enc : α → List Value} {v : Value} {l : List α} (hb : base' ≤ base) (h : Row w base e size enc v l) : Row w base' e size enc v l := by
 refine ⟨h.1, ?_⟩;rcases h.2 with h | ⟨g, cap, cur, h1, h2, h3, r⟩
 ·exact .inl h
 ·exact .inr ⟨g, cap, cur, h1, zh hb h2, h3, r⟩
abbrev FinRow (base : Nat) (w : World) (A : Option Addr) (n c : Nat) (l : List FinD) : Prop := Row w base 47 2 zbB (.slice A n c) l
theorem FinRow.read {base : Nat} {w : World} {A : Option Addr} {n c : Nat} {l : List FinD} (h : FinRow base w A n c l) : FinsAt w w.heap.size A l := Row.read h zbv (by omega)
theorem zqw (h b : BoxD) (w : World) :
  Calls Tryz.prog 301 #[bx h, bx b] w fun e w' => e = .returned (.bool (zet h b)) ∧ Below w.heap.size w w' := by
 obtain ⟨⟨h1, h2, h3⟩, h4, h5, h6⟩ := h;obtain ⟨⟨b1, b2, b3⟩, b4, b5, b6⟩ := b;have hr : zet ⟨(h1, h2, h3), (h4, h5, h6)⟩ ⟨(b1, b2, b3), (b4, b5, b6)⟩ = (decide (b1 < h4) && decide (h1 < b4) && decide (b2 < h5) && decide (h2 < b5) && decide (b3 < h6) && decide (h3 < b6)) := rfl;have hcase : (decide (b1 < h4) = false ∧ zet ⟨(h1, h2, h3), (h4, h5, h6)⟩ ⟨(b1, b2, b3), (b4, b5, b6)⟩ = false) ∨ (decide (b1 < h4) = true ∧ decide (h1 < b4) = false ∧ zet ⟨(h1, h2, h3), (h4, h5, h6)⟩ ⟨(b1, b2, b3), (b4, b5, b6)⟩ = false) ∨ (decide (b1 < h4) = true ∧ decide (h1 < b4) = true ∧ decide (b2 < h5) = false ∧ zet ⟨(h1, h2, h3), (h4, h5, h6)⟩ ⟨(b1, b2, b3), (b4, b5, b6)⟩ = false) ∨ (decide (b1 < h4) = true ∧ decide (h1 < b4) = true ∧ decide (b2 < h5) = true ∧ decide (h2 < b5) = false ∧ zet ⟨(h1, h2, h3), (h4, h5, h6)⟩ ⟨(b1, b2, b3), (b4, b5, b6)⟩ = false) ∨ (decide (b1 < h4) = true ∧ decide (h1 < b4) = true ∧ decide (b2 < h5) = true ∧ decide (h2 < b5) = true ∧ decide (b3 < h6) = false ∧ zet ⟨(h1, h2, h3), (h4, h5, h6)⟩ ⟨(b1, b2, b3), (b4, b5, b6)⟩ = false) ∨ (decide (b1 < h4) = true ∧ decide (h1 < b4) = true ∧ decide (b2 < h5) = true ∧ decide (h2 < b5) = true ∧ decide (b3 < h6) = true ∧ decide (h3 < b6) = false ∧ zet ⟨(h1, h2, h3), (h4, h5, h6)⟩ ⟨(b1, b2, b3), (b4, b5, b6)⟩ = false) ∨ (decide (b1 < h4) = true ∧ decide (h1 < b4) = true ∧ decide (b2 < h5) = true ∧ decide (h2 < b5) = true ∧ decide (b3 < h6) = true ∧ decide (h3 < b6) = true ∧ zet ⟨(h1, h2, h3), (h4, h5, h6)⟩ ⟨(b1, b2, b3), (b4, b5, b6)⟩ = true) := by
  rw [hr];cases decide (b1 < h4) <;> cases decide (h1 < b4) <;> cases decide (b2 < h5) <;> cases decide (h2 < b5) <;> cases decide (b3 < h6) <;> cases decide (h3 < b6) <;> simp
 clear hr;have HW := zf (zH w (.cells #[.int .i64 h1, .int .i64 h2, .int .i64 h3, .int .i64 h4, .int .i64 h5, .int .i64 h6] 62) (.cells #[.int .i64 b1, .int .i64 b2, .int .i64 b3, .int .i64 b4, .int .i64 b5, .int .i64 b6] 62));rcases hcase with ⟨q0, hR⟩ | ⟨q0, q1, hR⟩ | ⟨q0, q1, q2, hR⟩ | ⟨q0, q1, q2, q3, hR⟩ | ⟨q0, q1, q2, q3, q4, hR⟩ | ⟨q0, q1, q2, q3, q4, q5, hR⟩ | ⟨q0, q1, q2, q3, q4, q5, hR⟩
 all_goals
  have HR := zf hR;clear hR;go_enter Tryz.func301, Tryz.ntmps301;go_wp2;go_ret;exact ⟨zo HR.out.symm, HW.out⟩
theorem zns (h b : BoxD) (g : Nat) (w : World) (hg : Blk w g 62 #[.int .i64 b.lo.1, .int .i64 b.lo.2.1, .int .i64 b.lo.2.2, .int .i64 b.hi.1, .int .i64 b.hi.2.1, .int .i64 b.hi.2.2]) :
  Calls Tryz.prog 300 #[bx h, .pointer (some ⟨g, 0, none⟩)] w fun e w' => e = .returned (.bool (zfg b h)) ∧ Below w.heap.size w w' := by
 have HO := zf (fun W => zqw h b W);have Hr := zf (show zfg b h = zet h b from rfl);obtain ⟨t, ht⟩ : ∃ t, t = zet h b := ⟨_, rfl⟩;rw [← ht] at HO Hr;obtain ⟨⟨b1, b2, b3⟩, b4, b5, b6⟩ := b;obtain ⟨⟨h1, h2, h3⟩, h4, h5, h6⟩ := h;have c0 := hg.cell 0;have c1 := hg.cell 1;have c2 := hg.cell 2;have c3 := hg.cell 3;have c4 := hg.cell 4;have c5 := hg.cell 5;simp at c0 c1 c2 c3 c4 c5;have lg := hg.lt;clear hg ht;have HW := zf (zk w (.cells #[.int .i64 h1, .int .i64 h2, .int .i64 h3, .int .i64 h4, .int .i64 h5, .int .i64 h6] 62));go_enter Tryz.func300, Tryz.ntmps300;go_wp2_with fail;refine (HO.out _).mono ?_;rintro e w2 ⟨rfl, hb⟩;have HB := zf (zg HW.out hb (ze _));clear hb c0 c1 c2 c3 c4 c5 HO;go_wp2;go_ret;exact ⟨zo Hr.out.symm, HB.out⟩
def zhd (q : (Int × Int) × (Int × Int)) : Bool := decide (q.1.1 ≤ q.2.1) && decide (q.2.2 ≤ q.1.2)
theorem zo9 (a b : BoxD) : zdF a b = (((zbI a).zip (zbI b)).drop 0).all zhd := by
 simp [zdF, zbI, zhd, Bool.and_assoc]
theorem zjU (a b : BoxD) (w : World) :
  Calls Tryz.prog 323 #[bx a, bx b] w fun e w' => e = .returned (.bool (zdF a b)) ∧ Below w.heap.size w w' := by
 have HE := zf (fun (k : Nat) (p : Int × Int) (h : (zbI a)[k]? = some p) (w : World) => zek a k p h w);have HF := zf (fun (k : Nat) (p : Int × Int) (h : (zbI b)[k]? = some p) (w : World) => zek b k p h w);have Hok := zf (zo9 a b);have HL := zf (show (zbI a).length = 3 from rfl);have HM := zf (show (zbI b).length = 3 from rfl);obtain ⟨⟨x, y, z⟩, ⟨x2, y2, z2⟩⟩ := a;obtain ⟨⟨u, v, t⟩, ⟨u2, v2, t2⟩⟩ := b;generalize zbI ⟨(x, y, z), (x2, y2, z2)⟩ = ax at *;generalize zbI ⟨(u, v, t), (u2, v2, t2)⟩ = bx' at *;obtain ⟨rb, hrb⟩ : ∃ rb, rb = zdF ⟨(x, y, z), (x2, y2, z2)⟩ ⟨(u, v, t), (u2, v2, t2)⟩ := ⟨_, rfl⟩;rw [← hrb] at Hok ⊢;clear hrb;go_enter Tryz.func323, Tryz.ntmps323;go_wp2_with fail;obtain ⟨w1, hw1⟩ : ∃ w1, w1 = (w.alloc (.cells #[.int .i64 x, .int .i64 y, .int .i64 z, .int .i64 x2, .int .i64 y2, .int .i64 z2] 62)).alloc (.cells #[.int .i64 u, .int .i64 v, .int .i64 t, .int .i64 u2, .int .i64 v2, .int .i64 t2] 62) := ⟨_, rfl⟩;have hb := zf ((Blk.new w 62 #[.int .i64 x, .int .i64 y, .int .i64 z, .int .i64 x2, .int .i64 y2, .int .i64 z2]).alloc (.cells #[.int .i64 u, .int .i64 v, .int .i64 t, .int .i64 u2, .int .i64 v2, .int .i64 t2] 62));have hc := zf (Blk.new1 w (.cells #[.int .i64 x, .int .i64 y, .int .i64 z, .int .i64 x2, .int .i64 y2, .int .i64 z2] 62) 62 #[.int .i64 u, .int .i64 v, .int .i64 t, .int .i64 u2, .int .i64 v2, .int .i64 t2]);have hw := zf (zH w (.cells #[.int .i64 x, .int .i64 y, .int .i64 z, .int .i64 x2, .int .i64 y2, .int .i64 z2] 62) (.cells #[.int .i64 u, .int .i64 v, .int .i64 t, .int .i64 u2, .int .i64 v2, .int .i64 t2] 62));rw [← hw1] at hb hc hw ⊢;clear hw1;go_loopw [10] (fun i wr => ∃ k : Nat, k ≤ 3 ∧ i = .int .i64 k ∧ Hid (rb = ((ax.zip bx').drop k).all zhd) ∧ Below w1.heap.size w1 wr) (fun i _ => 3 - (intOf i).toNat)
 case atStart => exact ⟨0, zu _, rfl, Hok, Below.refl _ _⟩
 case round =>
  obtain ⟨k, hk, rfl, hq, hbr⟩ := hrel;by_cases hlt : k < 3
  ·obtain ⟨p, hp⟩ : ∃ p, ax[k]? = some p := ⟨_, zi (by rw [HL.out]; exact hlt)⟩;obtain ⟨r, hr⟩ : ∃ p, bx'[k]? = some p := ⟨_, zi (by rw [HM.out]; exact hlt)⟩;have hz : (ax.zip bx')[k]? = some (p, r) := by simp [List.getElem?_zip_eq_some, hp, hr]
   have hbk := hb.out.below hbr hb.out.lt;have hck := zf (hc.out.below hbr hc.out.lt);have c0 := hbk.cell 0;have c1 := hbk.cell 1;have c2 := hbk.cell 2;have c3 := hbk.cell 3;have c4 := hbk.cell 4;have c5 := hbk.cell 5;simp at c0 c1 c2 c3 c4 c5;have He := zf (HE.out k p hp wr);have Hf := zf (fun W => HF.out k r hr W);have Hn := zf (hq.out.trans (by rw [zaX hz, List.all_cons]));have Hbr := zf hbr;clear hbk hp hr hz hq hbr;obtain ⟨lo, hi⟩ := p;obtain ⟨ff, tt⟩ := r;simp only at He Hf Hn;go_wp2_with fail;refine He.out.mono ?_;rintro e w2 ⟨rfl, hb2⟩;have hck2 := hck.out.keep hb2;have d0 := hck2.cell 0;have d1 := hck2.cell 1;have d2 := hck2.cell 2;have d3 := hck2.cell 3;have d4 := hck2.cell 4;have d5 := hck2.cell 5;simp at d0 d1 d2 d3 d4 d5;have Hb2 := zf (zg Hbr.out hb2 (ze _));clear hck2 hck hb2 c0 c1 c2 c3 c4 c5 Hbr He;go_wp2_with fail;refine (Hf.out _).mono ?_;rintro e w3 ⟨rfl, hb3⟩;have Hb3 := zf (zg Hb2.out hb3 (ze _));clear hb3 d0 d1 d2 d3 d4 d5 Hb2 Hf;have hcase : (zhd ((lo, hi), (ff, tt)) = true ∧ decide (ff < lo) = false ∧ decide (hi < tt) = false) ∨ (zhd ((lo, hi), (ff, tt)) = false ∧ decide (ff < lo) = true) ∨ (zhd ((lo, hi), (ff, tt)) = false ∧ decide (ff < lo) = false ∧ decide (hi < tt) = true) := by
    simp only [zhd, zm, Bool.and_eq_false_iff, zzJ, zzI];omega
   rcases hcase with ⟨ha, q0, q1⟩ | ⟨ha, q0⟩ | ⟨ha, q0, q1⟩
   ·have Hn2 := zf (Hn.out.trans (by rw [ha, Bool.true_and]));clear ha Hn;go_wp2;go_roundw
    case rel => exact ⟨k + 1, by omega, by go_num, Hn2, Hb3.out⟩
    case measure => simp [intOf]; omega
   all_goals
    have hres := zf (show rb = false by rw [Hn.out, ha]; rfl);clear ha Hn;go_wp2;go_ret;exact ⟨zo hres.out.symm, zg hw.out Hb3.out (ze _)⟩
  ·obtain rfl : k = 3 := by omega
   have hfull := zf (show rb = true by rw [hq.out, List.drop_of_length_le (by rw [List.length_zip, HL.out, HM.out]; decide)]; rfl);go_wp2;go_ret;exact ⟨zo hfull.out.symm, zg hw.out hbr (ze _)⟩
theorem znM (a b : BoxD) (g : Nat) (w : World) (hg : Blk w g 62 #[.int .i64 b.lo.1, .int .i64 b.lo.2.1, .int .i64 b.lo.2.2, .int .i64 b.hi.1, .int .i64 b.hi.2.1, .int .i64 b.hi.2.2]) :
  Calls Tryz.prog 322 #[bx a, .pointer (some ⟨g, 0, none⟩)] w fun e w' => e = .returned (.bool (zfT b a)) ∧ Below w.heap.size w w' := by
 have HO := zf (fun W => zjU a b W);have Hr := zf (show zfT b a = zdF a b from rfl);obtain ⟨t, ht⟩ : ∃ t, t = zdF a b := ⟨_, rfl⟩;rw [← ht] at HO Hr;obtain ⟨⟨b1, b2, b3⟩, b4, b5, b6⟩ := b;obtain ⟨⟨h1, h2, h3⟩, h4, h5, h6⟩ := a;have c0 := hg.cell 0;have c1 := hg.cell 1;have c2 := hg.cell 2;have c3 := hg.cell 3;have c4 := hg.cell 4;have c5 := hg.cell 5;simp at c0 c1 c2 c3 c4 c5;have lg := hg.lt;clear hg ht;have HW := zf (zk w (.cells #[.int .i64 h1, .int .i64 h2, .int .i64 h3, .int .i64 h4, .int .i64 h5, .int .i64 h6] 62));go_enter Tryz.func322, Tryz.ntmps322;go_wp2_with fail;refine (HO.out _).mono ?_;rintro e w2 ⟨rfl, hb⟩;have HB := zf (zg HW.out hb (ze _));clear hb c0 c1 c2 c3 c4 c5 HO;go_wp2;go_ret;exact ⟨zo Hr.out.symm, HB.out⟩
theorem zk0 : ∀ l : List Int, (zcH l).length = l.length - 1 := by
 intro l
 induction l with
 | nil => rfl
 | cons p r ih =>
  cases r with
  | nil => rfl
  | cons q r => rw [zcH, zac, ih]; simp
theorem zsj : ∀ (l : List Int) (k : Nat) (p q : Int), l[k]? = some p → l[k + 1]? = some q → (zcH l)[k]? = some (p, q) := by
 intro l
 induction l with
 | nil => intro k p q h _; simp at h
 | cons x r ih =>
  intro k p q hp hq;cases r with
  | nil => simp at hq
  | cons y r =>
   cases k with
   | zero =>
    simp only [List.getElem?_cons_zero, Option.some.injEq, List.getElem?_cons_succ] at hp hq;subst hp; subst hq
    rfl
   | succ k =>
    rw [zcH, List.getElem?_cons_succ];exact ih k p q hp hq
def zgr (l : List BoxD) (k : Nat) (u v : Int) (q : Nat) : List Int := zdV (l.take q) k u v
theorem zsJ {x : BoxD} {k : Nat} {lo hi : Int} (h : (zbI x)[k]? = some (lo, hi)) : zc4 k x = [lo, hi] := by rw [zc4, h]
theorem zpq (l : List BoxD) (k : Nat) (u v : Int) : zgr l k u v 0 = [] := rfl
theorem zpr {l : List BoxD} {k q : Nat} {u v lo hi : Int} {x : BoxD} (hx : l[q]? = some x) (h : (zbI x)[k]? = some (lo, hi)) : zgr l k u v (q + 1) = zgr l k u v q ++ [lo, hi].filter (zjg u v) := by
 rw [zgr, zgr, zQ hx, zdV, zdV, zae, zbw]
 congr 1
 simp [zsJ h]
theorem zpk (k : Nat) (b : BoxD) : (zc4 k b).length ≤ 2 := by
 unfold zc4
 split <;> simp
theorem zsD (k : Nat) : ∀ l : List BoxD, (l.flatMap (zc4 k)).length ≤ 2 * l.length := by
 intro l
 induction l with
 | nil => simp
 | cons b l ih =>
  rw [zaf, zC, zac];have := zpk k b;omega
theorem zlf (l : List BoxD) (k : Nat) (u v : Int) : (zdV l k u v).length ≤ 2 * l.length := zh (zal _ _) (zsD k l)
theorem zrj (l : List BoxD) (k : Nat) (u v : Int) (q : Nat) (hq : q ≤ l.length) : (zgr l k u v q).length ≤ 2 * q := by
 have := zlf (l.take q) k u v;rw [zG] at this;unfold zgr;omega
theorem zrk (l : List BoxD) (k : Nat) (u v : Int) : zgr l k u v l.length = zdV l k u v := by rw [zgr, zF]
def zeh (l : List BoxD) (k : Nat) (u v : Int) : List Int := Lib.compact ((u :: v :: zdV l k u v).mergeSort fun x y => decide (x ≤ y))
theorem zhP {l : List BoxD} {k : Nat} {u v : Int} (h : u ≠ v) : zbr l k u v = zcH (zeh l k u v) := by
 rw [zbr, if_neg h]
 rfl
theorem zjL {l : List BoxD} {k : Nat} {u v : Int} (hl : l.length ≤ 40) : (zeh l k u v).length ≤ 82 := by
 have h1 := Lib.compact_length_le ((u :: v :: zdV l k u v).mergeSort fun x y => decide (x ≤ y));rw [List.length_mergeSort] at h1;have := zlf l k u v;simp only [zac] at h1;unfold zeh;omega
theorem zqt {l : List BoxD} {k : Nat} {u v : Int} : 1 ≤ (zeh l k u v).length := by
 obtain ⟨_, g2⟩ := zdS (u :: v :: zdV l k u v);have hu := (g2 u).2 (by simp);have := List.length_pos_of_mem hu;exact this
theorem zif {l : List BoxD} {k : Nat} {u v : Int} (hl : l.length ≤ 40) : (zbr l k u v).length ≤ 82 := by
 by_cases h : u = v
 ·rw [zbr, if_pos h];simp
 ·rw [zhP h, zk0];have := zjL (k := k) (u := u) (v := v) hl;omega
theorem zot {p : Nat → Bool} {n i j : Nat} (h : zaN p (j - i) i j = zb7 p n) (hij : i < j) (hp : p ((i + j) / 2) = true) : zaN p ((i + j) / 2 - i) i ((i + j) / 2) = zb7 p n := by
 rw [← h];obtain ⟨f, hf⟩ : ∃ f, j - i = f + 1 := ⟨j - i - 1, by omega⟩;rw [hf, zaN, if_pos hij, if_pos hp];exact ziD p _ _ _ (ze _) _ (by omega)
theorem zqf {p : Nat → Bool} {n i j : Nat} (h : zaN p (j - i) i j = zb7 p n) (hij : i < j) (hp : p ((i + j) / 2) = false) : zaN p (j - ((i + j) / 2 + 1)) ((i + j) / 2 + 1) j = zb7 p n := by
 rw [← h];obtain ⟨f, hf⟩ : ∃ f, j - i = f + 1 := ⟨j - i - 1, by omega⟩;rw [hf, zaN, if_pos hij, if_neg (by rw [hp]; simp)];exact ziD p _ _ _ (ze _) _ (by omega)
theorem zov {p : Nat → Bool} {n i : Nat} (h : zaN p (i - i) i i = zb7 p n) : zb7 p n = i := by
 rw [← h, Nat.sub_self, zaN]
theorem zjH (p : Nat → Bool) (n : Nat) (fid : FuncId) (caps : Array Value) (w : World) (hn : n ≤ 3000000)
  (hf : ∀ (k : Nat) (W : World), k < n → Below w.heap.size w W → Calls Tryz.prog fid (#[.int .i64 (k : Int)] ++ caps) W fun e W' => e = .returned (.bool (p k)) ∧ Below W.heap.size W W')
  (hc : ∀ args w, (callFunc fid args).run Tryz.prog w = .ok (.enter fid args) w) :
  Calls Tryz.prog 238 #[.int .i64 (n : Int), .func (.func fid) #[] caps] w fun e w' => e = .returned (.int .i64 (zb7 p n : Nat)) ∧ Below w.heap.size w w' := by
 have Hf := zf hf;clear hf;go_enter Tryz.func238, Tryz.ntmps238;go_wp2;go_loopw [5, 6] (fun iv jv wr => ∃ i j : Nat, iv = .int .i64 (i : Int) ∧ jv = .int .i64 (j : Int) ∧ i ≤ j ∧ j ≤ n ∧ Hid (zaN p (j - i) i j = zb7 p n) ∧ Below w.heap.size w wr) (fun iv jv _ => (intOf jv - intOf iv).toNat)
 case atStart => exact ⟨0, n, rfl, rfl, zu _, ze _, zf rfl, Below.refl _ _⟩
 case round =>
  obtain ⟨i, j, rfl, rfl, hij, hjn, hs, hb⟩ := hrel;by_cases hlt : i < j
  ·have z1 : IntKind.i64.wrap ((i : Int) + (j : Int)) = (i : Int) + (j : Int) := zr _ (by omega);have dk : decide ((i : Int) < (j : Int)) = true := by simp; omega
   have HF := zf (fun (W : World) (hz : Below w.heap.size w W) => Hf.out ((i + j) / 2) W (by omega) hz);have Hy := zf (fun (h : p ((i + j) / 2) = true) => zot hs.out hlt h);have Hn := zf (fun (h : p ((i + j) / 2) = false) => zqf hs.out hlt h);clear hs;obtain ⟨m, hm⟩ : ∃ m, m = (i + j) / 2 := ⟨_, rfl⟩;rw [← hm] at HF Hy Hn;have hmz : ((i : Int) + (j : Int)) / 2 = (m : Int) := by omega
   have hm1 : i ≤ m := by omega
   have hm2 : m < j := by omega
   have z2 : IntKind.i64.wrap ((m : Int) + 1) = (m : Int) + 1 := zr _ (by omega);clear hm;go_wp2_with fail;refine (HF.out _ hb).mono ?_;rintro e w1 ⟨rfl, hb1⟩;have Hb1 := zf (zg hb hb1 (ze _));clear hb hb1 HF;cases hp : p m
   ·have Hs := zf (Hn.out hp);clear hp Hn Hy;go_wp2;go_roundw
    case rel => exact ⟨m + 1, j, by go_num, rfl, by omega, hjn, Hs, Hb1.out⟩
    case measure => simp [intOf]; omega
   ·have Hs := zf (Hy.out hp);clear hp Hn Hy;go_wp2;go_roundw
    case rel => exact ⟨i, m, rfl, rfl, hm1, by omega, Hs, Hb1.out⟩
    case measure => simp [intOf]; omega
  ·obtain rfl : i = j := by omega
   have dk : decide ((i : Int) < (i : Int)) = false := by simp
   have Hr := zf (zov hs.out);clear hs;go_wp2;go_ret;exact ⟨zam (by rw [Hr.out]), hb⟩
theorem zj6 {P : Program} {ops : Array Oper} {rest : List Oper} {o : Oper} {a : Act} {w : World} {Q : Act → Prop} (hgd : o.guard = none) (ty : TypeId) (x : Operand) (ho : o.op = .load ty x)
  (g : Nat) (hx : a.eval x = .pointer (some ⟨g, 0, none⟩)) (t : TypeId) (cs : Array Value) (fr : Nat × Nat) (d : TypeDesc) (hg : w.heap[g]? = some (.cells cs t fr))
  (hu : P.underlying ty = some d) (hd : (match d with | .struct _ | .array _ _ => true | _ => false) = true) (hi : (P.info? ty).map (·.size) = some cs.size)
  (h : wpStill P ops w Q rest (a.put o.dst (.agg cs))) : wpStill P ops w Q (o :: rest) a := by
 have hw : Region.wanted o (yielded ops a.tmps) = true := by simp [Region.wanted, hgd]
 show if _ then _ else _
 rw [if_pos hw];unfold Oper.still execOp;simp only [ho, hx, Instr.loadAt, Instr.sureAddr, Sem.run_bind, Sem.run_pure, Result.andThen_ok, run_loadVar_row w g t ty cs fr d hg hu hd hi, Oper.stillUpon];exact ⟨trivial, h⟩
def zki (o : Option BoxD) : BoxD := o.getD ⟨(0, 0, 0), (0, 0, 0)⟩
theorem zsq (o : Option BoxD) : ztB o = #[bxV (zki o), .bool o.isSome] := by cases o <;> rfl
def zlG (a b : Option BoxD) : Bool := a.isSome && (b.isSome && (decide ((zki a).lo.1 < (zki b).lo.1) && (decide ((zki a).hi.1 < (zki b).hi.1) && decide ((zki b).lo.1 ≤ (zki a).hi.1))))
theorem zo0 {ms : List (Option BoxD)} {j : JoinD} {p q : Nat} (hp : j.first = p) (hq : j.second = q) {a b : Option BoxD} (ha : ms[p]? = some a) (hb : ms[q]? = some b) : zbA ms j = zlG a b := by
 have h1 := zaa ha;have h2 := zaa hb;rw [zbA, hp, hq, zI (show (0 : Int) ≤ (p : Int) by omega), zI (show (0 : Int) ≤ (q : Int) by omega), zI (show (p : Int) < (ms.length : Nat) by omega), zI (show (q : Int) < (ms.length : Nat) by omega)];simp only [zaz, zY, ha, hb, Option.getD_some];cases a <;> cases b <;> simp [zlG, zki, Bool.and_assoc] <;> rfl
theorem znD {ms : List (Option BoxD)} {j : JoinD} (h : j.first < 0 ∨ (ms.length : Int) ≤ j.first ∨ j.second < 0 ∨ (ms.length : Int) ≤ j.second) : zbA ms j = false := by
 rw [zbA];rcases h with h | h | h | h
 ·rw [zE (show ¬ (0 : Int) ≤ j.first by omega)]; simp
 ·rw [zE (show ¬ j.first < (ms.length : Nat) by omega)]; simp
 ·rw [zE (show ¬ (0 : Int) ≤ j.second by omega)]; simp
 ·rw [zE (show ¬ j.second < (ms.length : Nat) by omega)]; simp
theorem zkr (x : DetD) (s : DetS) (w : World) {B : Nat} (h : DetAt w B x s) (hB : B ≤ w.heap.size) (hf : DetFit x s) (hok : zaj x.bars x.runs = true) :
  Calls Tryz.prog 93 #[zcZ x s] w fun e w' => e = .returned (.int .i64 (zD x.runs)) ∧ Below w.heap.size w w' := by
 obtain ⟨_, hlen, hruns⟩ := zap hok;have l4 := hf.l4;have HC := zf (fun (W : World) (hz : Below w.heap.size w W) => ziX s.a4 x.runs s.n4 s.c4 W (h.h4.carry (Flat.carried _) (hz.mono hB) (ze _)) (zh hB hz.size) hf.l4 (by omega) (fun r hr => zaw (hruns r hr)));have K0 := zf (Blk.new w 34 (zp x.mem x.rule s));have HW := zf (zk w (.cells (zp x.mem x.rule s) 34));generalize zD x.runs = t at *;obtain ⟨mem, bars, runs, laps, dems, rule⟩ := x;obtain ⟨a1, n1, c1, a2, n2, c2, a3, n3, c3, a4, n4, c4, a5, n5, c5, a6, n6, c6⟩ := s;obtain ⟨name, boxes, holes, cover, agg, poker⟩ := mem;obtain ⟨r1, r2, r3, r4, r5, r6, r7, r8, r9⟩ := rule;simp only [zp] at K0 HW;simp only at HC;have e7 := K0.out.cell 7;simp at e7;have lk := K0.out.lt;clear h hf hB hok hruns hlen l4
 show Calls Tryz.prog 93 #[.agg #[.string name, .slice a1 n1 c1, .slice a2 n2 c2, .int .i64 cover, .int .i64 agg, .int .i64 poker, .slice a3 n3 c3, .slice a4 n4 c4, .slice a5 n5 c5, .slice a6 n6 c6, .int .i64 r1, .int .i64 r2, .int .i64 r3, .int .i64 r4, .int .i64 r5, .int .i64 r6, .int .i64 r7, .int .i64 r8, .int .i64 r9]] w _
 go_enter Tryz.func93, Tryz.ntmps93;go_wp2_with fail;refine (HC.out _ HW.out).mono ?_;rintro e w2 ⟨rfl, hb2⟩;have HW2 := zf (zg HW.out hb2 (ze _));clear hb2 HC HW K0 e7;go_wp2;go_ret;exact ⟨rfl, HW2.out⟩
theorem zl5 (x : DetD) (s : DetS) (j : JoinD) (w : World) {B : Nat} (h : DetAt w B x s) (hB : B ≤ w.heap.size) (hf : DetFit x s) (hok : zaj x.bars x.runs = true) :
  Calls Tryz.prog 44 #[zcZ x s, .agg #[.int .i64 j.first, .int .i64 j.second]] w fun e w' => e = .returned (.bool (zbA ((zx x.bars x.runs).map zaR) j)) ∧ Below w.heap.size w w' := by
 have HC := zf (fun (W : World) (hz : Below w.heap.size w W) => zkr x s W (h.carry (hz.mono hB) (ze _)) (zh hB hz.size) hf hok);have HM := zf (fun (i : Nat) (ld : LaidD) (hi : (zx x.bars x.runs)[i]? = some ld) (W : World) (hz : Below w.heap.size w W) => zl4 x s i ld W (h.carry (hz.mono hB) (ze _)) (zh hB hz.size) hf hok hi);have hcl := (zat hok).1;have hcl2 := (zat hok).2;have Hi := zf (show (Tryz.prog.info? 34).map (·.size) = some 19 by kernel_rfl);have K0 := zf ((Blk.new w 34 (zp x.mem x.rule s)).alloc (.cells #[.int .i64 j.first, .int .i64 j.second] 73));have KJ := zf (Blk.new1 w (.cells (zp x.mem x.rule s) 34) 73 #[.int .i64 j.first, .int .i64 j.second]);have HW := zf (zH w (.cells (zp x.mem x.rule s) 34) (.cells #[.int .i64 j.first, .int .i64 j.second] 73));have Hin := zf (fun (p q : Nat) (la lb : LaidD) (hp : j.first = p) (hq : j.second = q) (ha : (zx x.bars x.runs)[p]? = some la) (hb : (zx x.bars x.runs)[q]? = some lb) => zo0 (ms := (zx x.bars x.runs).map zaR) hp hq (a := zaR la) (b := zaR lb) (by simp [ha]) (by simp [hb]));have Hout := zf (fun (hh : j.first < 0 ∨ zD x.runs ≤ j.first ∨ j.second < 0 ∨ zD x.runs ≤ j.second) => znD (ms := (zx x.bars x.runs).map zaR) (j := j) (by rw [zw, hcl]; exact hh));generalize zx x.bars x.runs = LA at *;obtain ⟨res, hres⟩ : ∃ res, res = zbA (LA.map zaR) j := ⟨_, rfl⟩;rw [← hres] at Hin Hout ⊢;generalize zD x.runs = t at *;obtain ⟨f, g⟩ := j;obtain ⟨mem, bars, runs, laps, dems, rule⟩ := x;obtain ⟨a1, n1, c1, a2, n2, c2, a3, n3, c3, a4, n4, c4, a5, n5, c5, a6, n6, c6⟩ := s;obtain ⟨name, boxes, holes, cover, agg, poker⟩ := mem;obtain ⟨r1, r2, r3, r4, r5, r6, r7, r8, r9⟩ := rule;simp only [zp] at K0 KJ HW;simp only at Hin Hout;clear h hf hB hok hres
 show Calls Tryz.prog 44 #[.agg #[.string name, .slice a1 n1 c1, .slice a2 n2 c2, .int .i64 cover, .int .i64 agg, .int .i64 poker, .slice a3 n3 c3, .slice a4 n4 c4, .slice a5 n5 c5, .slice a6 n6 c6, .int .i64 r1, .int .i64 r2, .int .i64 r3, .int .i64 r4, .int .i64 r5, .int .i64 r6, .int .i64 r7, .int .i64 r8, .int .i64 r9], .agg #[.int .i64 f, .int .i64 g]] w _
 go_enter Tryz.func44, Tryz.ntmps44;go_wp2_with (refine wpList_load_row rfl 34 (.tmp 2) rfl w.heap.size rfl 34 _ (0, 0) _ K0.out Tryz.underlying34 rfl Hi.out ?_);refine (HC.out _ HW.out).mono ?_;rintro e w2 ⟨rfl, hb2⟩;have K2 := zf (K0.out.keep hb2);have J2 := zf (KJ.out.keep hb2);have HW2 := zf (zg HW.out hb2 (ze _));clear hb2 HC HW K0 KJ;have e0 := J2.out.cell 0;have e1 := J2.out.cell 1;simp at e0 e1;have lj := J2.out.lt;have hways : decide (f < 0) = true ∨ (decide (f < 0) = false ∧ decide (t ≤ f) = true) ∨ (decide (f < 0) = false ∧ decide (t ≤ f) = false ∧ decide (g < 0) = true) ∨ (decide (f < 0) = false ∧ decide (t ≤ f) = false ∧ decide (g < 0) = false ∧ decide (t ≤ g) = true) ∨ (decide (f < 0) = false ∧ decide (t ≤ f) = false ∧ decide (g < 0) = false ∧ decide (t ≤ g) = false) := by
  cases decide (f < 0) <;> cases decide (t ≤ f) <;> cases decide (g < 0) <;> cases decide (t ≤ g) <;> simp
 rcases hways with q0 | ⟨q0, q1⟩ | ⟨q0, q1, q2⟩ | ⟨q0, q1, q2, q3⟩ | ⟨q0, q1, q2, q3⟩
 ·have Hr := zf (Hout.out (.inl (by simpa using q0)));clear Hin Hout HM hcl hcl2;go_wp2;go_ret;exact ⟨zo Hr.out.symm, HW2.out⟩
 ·have Hr := zf (Hout.out (.inr (.inl (by simpa using q1))));clear Hin Hout HM hcl hcl2;go_wp2;go_ret;exact ⟨zo Hr.out.symm, HW2.out⟩
 ·have Hr := zf (Hout.out (.inr (.inr (.inl (by simpa using q2)))));clear Hin Hout HM hcl hcl2;go_wp2;go_ret;exact ⟨zo Hr.out.symm, HW2.out⟩
 ·have Hr := zf (Hout.out (.inr (.inr (.inr (by simpa using q3)))));clear Hin Hout HM hcl hcl2;go_wp2;go_ret;exact ⟨zo Hr.out.symm, HW2.out⟩
 have f0 : 0 ≤ f := by simpa using q0
 have f1 : f < t := by simpa using q1
 have g0 : 0 ≤ g := by simpa using q2
 have g1 : g < t := by simpa using q3
 obtain ⟨p, rfl⟩ := Int.eq_ofNat_of_zero_le f0;obtain ⟨q, rfl⟩ := Int.eq_ofNat_of_zero_le g0;obtain ⟨la, hla⟩ : ∃ la, LA[p]? = some la := ⟨_, zi (by omega)⟩;obtain ⟨lb, hlb⟩ : ∃ lb, LA[q]? = some lb := ⟨_, zi (by omega)⟩;have Hr := Hin.out p q la lb rfl rfl hla hlb;have HMa := HM.out p la hla;have HMb := HM.out q lb hlb;rw [zsq] at HMa HMb;unfold zlG at Hr;generalize (zaR la).isSome = ta at *;generalize (zaR lb).isSome = tb at *;generalize zki (zaR la) = A at *;generalize zki (zaR lb) = C at *;obtain ⟨⟨A1, A2, A3⟩, A4, A5, A6⟩ := A;obtain ⟨⟨C1, C2, C3⟩, C4, C5, C6⟩ := C;simp only [bxV] at HMa HMb Hr;have Hr := zf Hr;have HMa := zf HMa;have HMb := zf HMb;have K0 := K2;have KJ := J2;clear Hin Hout HM hcl hcl2 hla hlb f0 f1 g0 g1 K2 J2;go_wp2_with (refine wpList_load_row rfl 34 (.tmp 2) rfl w.heap.size rfl 34 _ (0, 0) _ K0.out Tryz.underlying34 rfl Hi.out ?_);refine (HMa.out _ HW2.out).mono ?_;rintro e w3 ⟨rfl, hb3⟩;have K0 := zf ((K0.out.keep hb3).alloc (.cells #[.int .i64 A1, .int .i64 A2, .int .i64 A3, .int .i64 A4, .int .i64 A5, .int .i64 A6] 62));have KJ := zf ((KJ.out.keep hb3).alloc (.cells #[.int .i64 A1, .int .i64 A2, .int .i64 A3, .int .i64 A4, .int .i64 A5, .int .i64 A6] 62));have KA := zf (Blk.new w3 62 #[.int .i64 A1, .int .i64 A2, .int .i64 A3, .int .i64 A4, .int .i64 A5, .int .i64 A6]);have HW3' := zg HW2.out hb3 (ze _);have HW3 := zf (HW3'.alloc HW3'.size (.cells #[.int .i64 A1, .int .i64 A2, .int .i64 A3, .int .i64 A4, .int .i64 A5, .int .i64 A6] 62));clear hb3 HMa HW2 HW3' e0 e1 lj;have e1 := KJ.out.cell 1;simp at e1;have lj := KJ.out.lt;go_wp2_with (refine wpList_load_row rfl 34 (.tmp 2) rfl w.heap.size rfl 34 _ (0, 0) _ K0.out Tryz.underlying34 rfl Hi.out ?_);refine (HMb.out _ HW3.out).mono ?_;rintro e w4 ⟨rfl, hb4⟩;have KA := zf ((KA.out.keep hb4).alloc (.cells #[.int .i64 C1, .int .i64 C2, .int .i64 C3, .int .i64 C4, .int .i64 C5, .int .i64 C6] 62));have KC := zf (Blk.new w4 62 #[.int .i64 C1, .int .i64 C2, .int .i64 C3, .int .i64 C4, .int .i64 C5, .int .i64 C6]);have HW4' := zg HW3.out hb4 (ze _);have HW4 := zf (HW4'.alloc HW4'.size (.cells #[.int .i64 C1, .int .i64 C2, .int .i64 C3, .int .i64 C4, .int .i64 C5, .int .i64 C6] 62));clear hb4 HMb HW3 HW4' e1 lj K0 KJ Hi;have u0 := KA.out.cell 0;have u3 := KA.out.cell 3;have v0 := KC.out.cell 0;simp at u0 u3 v0;have v3 := KC.out.cell 3;simp at v3;have la' := KA.out.lt;have lc' := KC.out.lt;cases ta
 ·go_wp2;go_ret;exact ⟨zo (by rw [Hr.out]; rfl), HW4.out⟩
 cases tb
 ·go_wp2;go_ret;exact ⟨zo (by rw [Hr.out]; rfl), HW4.out⟩
 cases x0 : decide (A1 < C1)
 ·go_wp2;go_ret;exact ⟨zo (by rw [Hr.out, x0]; rfl), HW4.out⟩
 cases x1 : decide (A4 < C4)
 ·go_wp2;go_ret;exact ⟨zo (by rw [Hr.out, x0, x1]; rfl), HW4.out⟩
 cases x2 : decide (C1 ≤ A4)
 all_goals
  go_wp2;go_ret;exact ⟨zo (by rw [Hr.out, x0, x1, x2]; rfl), HW4.out⟩
def zdo (j i : JoinD) : Bool := decide (i.first = j.first) || decide (i.second = j.second)
theorem zjS (done : List JoinD) (j : JoinD) : zg9 done j = !done.any (zdo j) := rfl
theorem zqF {ms : List (Option BoxD)} {l : List JoinD} {k : Nat} {j : JoinD} (h : l[k]? = some j) : zew ms (l.take k) (l.drop k) = (zbA ms j && (zg9 (l.take k) j && zew ms (l.take (k + 1)) (l.drop (k + 1)))) := by
 rw [zaX h, zew, zQ h, Bool.and_assoc]
theorem znE {l : List JoinD} {j : JoinD} {k : Nat} (h : NoneTo (zdo j) l k) : zg9 (l.take k) j = true := by
 rw [zjS];have : (l.take k).any (zdo j) = false := by
  rw [List.any_eq_false];intro z hz;obtain ⟨u, hu, rfl⟩ := List.getElem_of_mem hz;rw [zG] at hu;rw [h u (l.take k)[u] (by omega) (by rw [List.getElem_take]; exact zi (by omega))];simp
 rw [this]
 rfl
theorem zhR {l : List JoinD} {i j : JoinD} {k t : Nat} (ht : t < k) (hi : l[t]? = some i) (hc : zdo j i = true) : zg9 (l.take k) j = false := by
 rw [zjS];have : (l.take k).any (zdo j) = true := by
  rw [List.any_eq_true];refine ⟨i, ?_, hc⟩;have : (l.take k)[t]? = some i := by rw [List.getElem?_take_of_lt ht]; exact hi
  exact zv this
 rw [this]
 rfl
theorem zka (x : DetD) (s : DetS) (w : World) {B : Nat} (h : DetAt w B x s) (hB : B ≤ w.heap.size) (hf : DetFit x s) (hd : ∀ d ∈ x.dems, d.name.size ≤ maxLen ∧ d.steps.length ≤ 60000) :
    Calls Tryz.prog 14 #[zcZ x s] w fun e w' => e = .returned (.bool (zah x)) ∧ Below w.heap.size w w' := by
  have H1 := zf (fun (W : World) (hz : Below w.heap.size w W) => zkq x.mem s.a1 s.a2 s.n1 s.n2 s.c1 s.c2 W (h.h1.carry (Flat.carried _) (hz.mono hB) (ze _)) (h.h2.carry (Flat.carried _) (hz.mono hB) (ze _)) (zh hB hz.size) hf.l1 hf.l2 hf.name);have H2 := zf (fun (W : World) (hz : Below w.heap.size w W) => znn s.a3 s.a4 x.bars x.runs s.n3 s.c3 s.n4 s.c4 W (h.h3.carry (hz.mono hB) (ze _)) (h.h4.carry (Flat.carried _) (hz.mono hB) (ze _)) (zh hB hz.size) hf.l3 hf.l4 hf.m3 hf.tame);have H3 := zf (fun (W : World) (hz : Below w.heap.size w W) => zno s.a6 x.dems s.n6 s.c6 W (SlOf.carry zba h.h6 (hz.mono hB) (ze _)) (zh hB hz.size) hf.l6 hf.m6 hd);have H4 := zf (fun (W : World) => znj x.rule W);have HJ := fun (hok : zaj x.bars x.runs = true) (j : JoinD) (W : World) (hz : Below w.heap.size w W) => zl5 x s j W (h.carry (hz.mono hB) (ze _)) (zh hB hz.size) hf hok;have Hr := zf (zre x);have HL := zf h.h5;have L5 := zf hf.l5;have HB := zf hB;have m5 := hf.m5;have Hi := zf (show (Tryz.prog.info? 34).map (·.size) = some 19 by kernel_rfl);have K0 := zf (Blk.new w 34 (zp x.mem x.rule s));have HW := zf (zk w (.cells (zp x.mem x.rule s) 34));obtain ⟨b1, hb1⟩ : ∃ b, b = zdj x.mem := ⟨_, rfl⟩;obtain ⟨b2, hb2⟩ : ∃ b, b = zaj x.bars x.runs := ⟨_, rfl⟩;obtain ⟨b3, hb3⟩ : ∃ b, b = zb0 x.dems := ⟨_, rfl⟩;obtain ⟨b4, hb4⟩ : ∃ b, b = zbH x.rule := ⟨_, rfl⟩;rw [← hb1, ← hb2, ← hb3, ← hb4] at Hr;rw [← hb1] at H1;rw [← hb2] at H2 HJ;rw [← hb3] at H3;rw [← hb4] at H4;have HJ := zf HJ;generalize (zx x.bars x.runs).map zaR = ms at *;generalize zah x = res at *;obtain ⟨mem, bars, runs, laps, dems, rule⟩ := x;obtain ⟨a1, n1, c1, a2, n2, c2, a3, n3, c3, a4, n4, c4, a5, n5, c5, a6, n6, c6⟩ := s;obtain ⟨name, boxes, holes, cover, agg, poker⟩ := mem;obtain ⟨r1, r2, r3, r4, r5, r6, r7, r8, r9⟩ := rule;simp only [zp] at K0 HW;simp only at H1 H2 H3 H4 HL L5 m5 Hr;clear h hf hd hB hb1 hb2 hb3 hb4
  show Calls Tryz.prog 14 #[.agg #[.string name, .slice a1 n1 c1, .slice a2 n2 c2, .int .i64 cover, .int .i64 agg, .int .i64 poker, .slice a3 n3 c3, .slice a4 n4 c4, .slice a5 n5 c5, .slice a6 n6 c6, .int .i64 r1, .int .i64 r2, .int .i64 r3, .int .i64 r4, .int .i64 r5, .int .i64 r6, .int .i64 r7, .int .i64 r8, .int .i64 r9]] w _
  go_enter Tryz.func14, Tryz.ntmps14;go_wp2_with fail;refine (H1.out _ HW.out).mono ?_;rintro e w2 ⟨rfl, hb2⟩;have K0 := zf (K0.out.keep hb2);have HW := zf (zg HW.out hb2 (ze _));clear hb2;cases b1
  · go_wp2
    go_ret;exact ⟨zo (by rw [Hr.out]; rfl), HW.out⟩
  have e6 := K0.out.cell 6;have e7 := K0.out.cell 7;simp at e6 e7;go_wp2_with fail;refine (H2.out _ HW.out).mono ?_;rintro e w2 ⟨rfl, hb2⟩;have K0 := zf (K0.out.keep hb2);have HW := zf (zg HW.out hb2 (ze _));clear hb2;clear e6 e7;cases b2
  · go_wp2
    go_ret;exact ⟨zo (by rw [Hr.out]; rfl), HW.out⟩
  have HJJ := zf (HJ.out rfl);clear HJ;have e9 := K0.out.cell 9;simp at e9;go_wp2_with fail;refine (H3.out _ HW.out).mono ?_;rintro e w2 ⟨rfl, hb2⟩;have K0 := zf (K0.out.keep hb2);have HW := zf (zg HW.out hb2 (ze _));clear hb2;clear e9;cases b3
  · go_wp2
    go_ret;exact ⟨zo (by rw [Hr.out]; rfl), HW.out⟩
  have e10 := K0.out.cell 10;have e11 := K0.out.cell 11;have e12 := K0.out.cell 12;have e13 := K0.out.cell 13;have e14 := K0.out.cell 14;have e15 := K0.out.cell 15;have e16 := K0.out.cell 16;have e17 := K0.out.cell 17;have e18 := K0.out.cell 18;simp at e10 e11 e12 e13 e14 e15 e16 e17 e18;go_wp2_with fail;refine (H4.out _).mono ?_;rintro e w2 ⟨rfl, hb2⟩;have K0 := zf (K0.out.keep hb2);have HW := zf (zg HW.out hb2 (ze _));clear hb2;clear e10 e11 e12 e13 e14 e15 e16 e17 e18;cases b4
  · go_wp2
    go_ret;exact ⟨zo (by rw [Hr.out]; rfl), HW.out⟩
  have e8 := K0.out.cell 8;simp at e8;by_cases hlen : 1000 < n5
  · have d0 : decide (1000 < (n5 : Int)) = true := by simp; omega
    have Hr := zf (show res = false by rw [Hr.out, zE (show ¬ laps.length ≤ 1000 by rw [← L5.out]; omega)]; rfl);go_wp2;go_ret;exact ⟨zo Hr.out.symm, HW.out⟩
  have d0 : decide (1000 < (n5 : Int)) = false := by simp; omega
  have Hr := zf (show res = zew ms (laps.take 0) (laps.drop 0) by rw [Hr.out, zI (show laps.length ≤ 1000 by rw [← L5.out]; omega)] <;> rfl);clear hlen H1 H2 H3 H4;go_wp2_with fail;clear e8;go_loopw [3] (fun iv wr => ∃ k : Nat, k ≤ n5 ∧ iv = .int .i64 k ∧ Hid (zew ms (laps.take 0) (laps.drop 0) = zew ms (laps.take k) (laps.drop k)) ∧ Hid (Blk wr w.heap.size 34 #[.string name, .slice a1 n1 c1, .slice a2 n2 c2, .int .i64 cover, .int .i64 agg, .int .i64 poker, .slice a3 n3 c3, .slice a4 n4 c4, .slice a5 n5 c5, .slice a6 n6 c6, .int .i64 r1, .int .i64 r2, .int .i64 r3, .int .i64 r4, .int .i64 r5, .int .i64 r6, .int .i64 r7, .int .i64 r8, .int .i64 r9]) ∧ Hid (Below w.heap.size w wr)) (fun iv _ => n5 - (intOf iv).toNat)
  case atStart => exact ⟨0, zu _, rfl, zf rfl, K0, HW⟩
  case round =>
    clear K0 HW;rename World => wo;obtain ⟨k, hk, rfl, hq, hK, hbr⟩ := hrel;have e8 := hK.out.cell 8;simp at e8;have lk := hK.out.lt;by_cases hlt : k < n5
    · obtain ⟨b, off, j, rfl, hbl, hx, g0, g1⟩ := JoinsAt.get (k := k) (HL.out.carry (Flat.carried _) (hbr.out.mono HB.out) (ze _)) (by rw [← L5.out]; exact hlt)
      have Hx := zf hx;have Hq := zf (hq.out.trans (zqF hx));have HJj := HJJ.out j;obtain ⟨a, ha⟩ : ∃ a, a = zbA ms j := ⟨_, rfl⟩;rw [← ha] at HJj Hq;have HJj := zf HJj;obtain ⟨f, g⟩ := j;simp only at g0 g1 HJj;have hblt := hbl;clear hx hbl hq ha;have HQ0 := zf (HL.out.carry (Flat.carried _) (hbr.out.mono HB.out) (ze B));have hbw : b < w.heap.size := zt hblt HB.out;go_wp2_with fail;refine wp_region_still_tail 6 (by kernel_rfl) (by kernel_rfl) ?_;simp only [List.take_succ_cons, List.take_zero, List.drop_succ_cons, List.drop_zero];refine zj6 rfl 34 (.tmp 1) rfl w.heap.size rfl 34 _ (0, 0) _ hK.out Tryz.underlying34 rfl Hi.out ?_
      repeat still_step
      try refine wpStill_nil ?_
      change wpList _ _ _ _ _ (World.drew wo);go_wp2_with fail;refine (HJj.out _ hbr.out.drew).mono ?_;rintro e w2 ⟨rfl, hb2⟩;have hK2 := zf ((hK.out.drew).keep hb2);have hbr2 := zf (zg hbr.out.drew hb2 (ze _));clear hb2 HJj g0 g1 e8 lk;cases a
      · have Hr := zf (show res = false by rw [Hr.out, Hq.out]; rfl)
        go_wp2;go_ret;exact ⟨zo Hr.out.symm, hbr2.out⟩
      go_wp2;go_loopw [4] (fun iv wr => ∃ t : Nat, t ≤ k ∧ iv = .int .i64 t ∧ NoneTo (zdo ⟨f, g⟩) laps t ∧ Hid (Blk wr w.heap.size 34 #[.string name, .slice a1 n1 c1, .slice a2 n2 c2, .int .i64 cover, .int .i64 agg, .int .i64 poker, .slice a3 n3 c3, .slice a4 n4 c4, .slice (some ⟨b, off, none⟩) n5 c5, .slice a6 n6 c6, .int .i64 r1, .int .i64 r2, .int .i64 r3, .int .i64 r4, .int .i64 r5, .int .i64 r6, .int .i64 r7, .int .i64 r8, .int .i64 r9]) ∧ Hid (Below w.heap.size w wr)) (fun iv _ => k - (intOf iv).toNat)
      case atStart => exact ⟨0, zu _, rfl, NoneTo.zero _ _, hK2, hbr2⟩
      case round =>
        clear hK hbr hK2 hbr2 HQ0;rename World => wi;obtain ⟨t, ht, rfl, hno, hK, hbr⟩ := hrel;have e8 := hK.out.cell 8;simp at e8;have lk := hK.out.lt;by_cases hlj : t < k
        · have HQ := HL.out.carry (Flat.carried _) (hbr.out.mono HB.out) (ze B)
          obtain ⟨b', off', i, hA', _, hy, f0, f1⟩ := JoinsAt.get (k := t) HQ (by rw [← L5.out]; omega);injection hA' with hA'
          injection hA' with z1 z2
          subst z1 z2;obtain ⟨b', off', i', hA', _, hx', g0, g1⟩ := JoinsAt.get (k := k) HQ (by rw [← L5.out]; omega);injection hA' with hA'
          injection hA' with z1 z2
          subst z1 z2;rw [Hx.out] at hx';injection hx' with hx'
          subst hx';have Hy := zf hy;obtain ⟨p, q⟩ := i;simp only at f0 f1 g0 g1;clear HQ hy;cases e1 : (p == f)
          · cases e2 : (q == g)
            · have Hc := zf (show zdo ⟨f, g⟩ ⟨p, q⟩ = false by
                have h1 : p ≠ f := by simpa using e1
                have h2 : q ≠ g := by simpa using e2
                simp [zdo, h1, h2])
              have Hno := zf (hno.succ Hy.out Hc.out);clear hno;go_wp2_with fail;go_quiet (fail)
              go_wp2;go_roundw
              case rel => exact ⟨t + 1, by omega, by go_num, Hno.out, zf (hK.out.drewN _), zf (zaT hbr.out _)⟩
              case measure => simp [intOf]; omega
            · have Hr := zf (show res = false by
                rw [Hr.out, Hq.out, zhR hlj Hy.out (by have h2 : q = g := by simpa using e2
                                                       simp [zdo, h2])]
                rfl)
              clear hno;go_wp2_with fail;go_quiet (fail)
              go_wp2;go_ret;exact ⟨zo Hr.out.symm, zaT hbr.out _⟩
          · have Hr := zf (show res = false by
              rw [Hr.out, Hq.out, zhR hlj Hy.out (by have h2 : p = f := by simpa using e1
                                                     simp [zdo, h2])]
              rfl)
            clear hno;go_wp2_with fail;go_quiet (fail)
            go_wp2;go_ret;exact ⟨zo Hr.out.symm, zaT hbr.out _⟩
        · obtain rfl : t = k := by omega
          have Hq2 := zf (show zew ms (laps.take 0) (laps.drop 0) = zew ms (laps.take (t + 1)) (laps.drop (t + 1)) by rw [Hq.out, znE hno]; rfl);clear hno;go_wp2;go_roundw
          case rel => exact ⟨t + 1, by omega, by go_num, Hq2, hK, hbr⟩
          case measure => simp [intOf]; omega
    · obtain rfl : k = n5 := by omega
      have Hr := zf (show res = true by rw [Hr.out, hq.out, List.drop_of_length_le (by rw [← L5.out]; exact ze _)]; rfl);go_wp2;go_ret;exact ⟨zo Hr.out.symm, hbr.out⟩
theorem zk9 (a b : Int) (A : Option Addr) (l : List FinD) (n c : Nat) (w : World) {B : Nat} (h : FinsAt w B A l) (hB : B ≤ w.heap.size) (hn : n = l.length) (hm : n ≤ 300000) :
  Calls Tryz.prog 23 #[.slice A n c, .int .i64 a, .int .i64 b] w fun e w' => e = .returned (.int .i64 (zay a b l : Nat)) ∧ Below w.heap.size w w' := by
 have HL := zf (fun (W : World) (hz : Below w.heap.size w W) => SlOf.carry (Flat.carried _) h (hz.mono hB) (ze B));have HB := zf hB;have Hn := zf hn;obtain ⟨KT, hKT⟩ : ∃ KT : Nat → Nat, KT = fun k => zay a b (l.take k) := ⟨_, rfl⟩;have hk0 : KT 0 = 0 := by rw [hKT]; rfl
 have Hks := zf (fun (k : Nat) (y : FinD) (hy : l[k]? = some y) => show KT (k + 1) = KT k + (if decide (a ≤ y.kind) && decide (y.kind ≤ b) then 1 else 0) by
  rw [hKT]
  show zay a b (l.take (k + 1)) = _
  rw [zQ hy, zk8]
  congr 1
  have e9 : zjm a b y = (decide (a ≤ y.kind) && decide (y.kind ≤ b)) := rfl;rw [← e9, zay];cases h9 : zjm a b y
  ·rw [List.filter_cons_of_neg (by rw [h9]; simp)]; rfl
  ·rw [List.filter_cons_of_pos h9]; rfl)
 have Hkl := zf (fun (k : Nat) => show KT k ≤ k by
  rw [hKT]
  show (zay a b (l.take k)) ≤ k
  refine zh (zal _ _) ?_;rw [zG];omega)
 have Hkn := zf (show zay a b l = KT n by rw [hKT, hn]; show _ = zay a b (l.take l.length); rw [zF]);rw [Hkn.out];clear h hB hn hKT Hkn;go_enter Tryz.func23, Tryz.ntmps23;go_wp2;go_loopw [7, 12] (fun v iv wr => ∃ k : Nat, k ≤ n ∧ iv = .int .i64 k ∧ v = .int .i64 (KT k : Nat) ∧ Below w.heap.size w wr) (fun _ iv _ => n - (intOf iv).toNat)
 case atStart => exact ⟨0, zu _, rfl, by rw [hk0]; rfl, Below.refl _ _⟩
 case round =>
  clear hk0;obtain ⟨k, hk, rfl, rfl, hb⟩ := hrel;rename World => wr;by_cases hlt : k < n
  ·obtain ⟨b', off, y, rfl, hbl, hy, e0, e1⟩ := FinsAt.get (k := k) (HL.out _ hb) (by rw [← Hn.out]; exact hlt);have Hs := zf (Hks.out k y hy);have hkl := Hkl.out k;have lb : b' < wr.heap.size := zt hbl (zh HB.out hb.size);obtain ⟨kind, name⟩ := y;simp only at e0 e1 Hs;have HX := zf (hb.alloc hb.size (.cells #[.int .i64 kind, .string name] 47));clear hy hbl hb;cases q1 : decide (a ≤ kind)
   ·rw [q1] at Hs;go_wp2;go_roundw
    case rel => exact ⟨k + 1, by omega, by go_num, by rw [Hs.out]; rfl, HX.out⟩
    case measure => simp [intOf]; omega
   ·rw [q1] at Hs;cases q2 : decide (kind ≤ b)
    ·rw [q2] at Hs;go_wp2;go_roundw
     case rel => exact ⟨k + 1, by omega, by go_num, by rw [Hs.out]; rfl, HX.out⟩
     case measure => simp [intOf]; omega
    ·rw [q2] at Hs;have Hs2 := zf (show KT (k + 1) = KT k + 1 by rw [Hs.out]; rfl);go_wp2;go_roundw
     case rel => exact ⟨k + 1, by omega, by go_num, by rw [Hs2.out]; go_num, HX.out⟩
     case measure => simp [intOf]; omega
  ·obtain rfl : k = n := by omega
   go_wp2;go_ret;exact ⟨rfl, hb⟩
theorem zf7 {α : Type} {w : World} {base size : Nat} {e : TypeId} {enc : α → List Value} {v : Value} {l : List α} (h : Row w base e size enc v l) {g : Nat} {t : TypeId} {cs : Array Value} (hg : Blk w g t cs) (hne : t ≠ e) : zeE v g := by
 intro he;rcases h.2 with ⟨hv, _⟩ | ⟨g2, cap, cur, hv, _, hh, _⟩
 ·rw [hv] at he; simp [Value.ownBlock] at he
 ·rw [hv] at he;simp [Value.ownBlock] at he;subst he;unfold Blk at hg;rw [hh] at hg;injection hg with hg
  injection hg with _ ht
  exact hne ht.symm
theorem zpM {α : Type} {w : World} {base size : Nat} {e : TypeId} {enc : α → List Value} {v : Value} {l : List α} (h : Row w base e size enc v l) {a : Addr} (ha : a.block < base) (u : Value) : Row (w.setCell a u) base e size enc v l := ownsRow_setCell_below h ha u
theorem zkk {α : Type} {P : Program} {w : World} {ops : Array Oper} {o : Oper} {a : Act} {K : Act → World → Prop} {Q : Exit → Act → World → Prop} {E : Prop} (hgd : o.guard = none) (s x : Operand) (t : TypeId)
  (ho : o.op = .call { callee := .builtin .append, args := #[s, x], argTypes := #[t, t] }) (base : Nat) (e : TypeId) (z : Value) (size bytes : Nat) (enc : α → List Value)
  (ht : P.underlying t = some (.slice e)) (hi : (P.info? e).map (fun i => (i.zero, i.size, i.bytes)) = some (some z, size, bytes)) (hzs : z.cells.size = size) (hsz : 0 < size) (he : ∀ x, (enc x).length = size) (h1 : ∀ x, ∀ u ∈ enc x, u.oneCell' = true)
  (v : Value) (l : List α) (y : α) (hs : a.eval s = v) (hown : Row w base e size enc v l) (g : Nat) (hx : a.eval x = .slice (some ⟨g, 0, none⟩) 1 1) (hblk : Blk w g e (enc y).toArray)
  (hn : l.length ≤ 1000000) (hby : bytes ≤ 1000) (hbase : base ≤ w.heap.size)
  (h : ∀ A c w', Row w' base e size enc (.slice A (l.length + 1) c) (l ++ [y]) → Below base w w' → (∀ g' t' cs', zeE v g' → Blk w g' t' cs' → Blk w' g' t' cs') → (∀ g', g' < w.heap.size → zeE v g' → zeE (.slice A (l.length + 1) c) g') → K (a.put o.dst (.slice A (l.length + 1) c)) w') : if Region.wanted o (yielded ops a.tmps) = true then Oper.wp P o a w K Q else E := by
 have hw : Region.wanted o (yielded ops a.tmps) = true := by simp [Region.wanted, hgd]
 rw [if_pos hw];obtain ⟨i, hi0, hz, h2, h3⟩ := info_parts hi;have hm : (l.length + 1) * bytes ≤ 1000001 * 1000 := Nat.mul_le_mul (by omega) hby
 obtain ⟨v', w', hr, hown', hg, _, hat⟩ := run_append_own_at (P := P) w base t o.type e i z size bytes ht hi0 hz h2 h3 hzs hsz v l.length (l.flatMap enc) hown ⟨g, 0, none⟩ 1 1 (enc y) (by rw [he]; omega) (by
  intro j u hu;have hadd : (⟨g, 0, none⟩ : Addr).add j = ⟨g, j, none⟩ := by unfold Addr.add; split <;> simp_all
  rw [hadd, hblk.cell]
  simpa using hu) (h1 y) (by unfold maxLen; omega) (by omega) hbase
 unfold Oper.wp execOp;simp only [ho, resolve, invoke, builtin, Sem.run_bind, Sem.run_pure, Result.andThen_ok, List.map_toArray, List.map_cons, List.map_nil, hs, hx, hr];have hR : Row w' base e size enc v' (l ++ [y]) := by
  unfold Row;rw [zae]
  simpa using hown'
 obtain ⟨A, c, hv⟩ := hR.val;rw [zC, za7] at hv;subst hv;refine h A c w' hR ((Below.refl base w).grown hg hbase (fun k hk => (hown.lt k hk).1)) (fun g' t' cs' hne hb' => hb'.grown hg (fun he' => hne he'.symm)) (fun g' hlt hne he' => ?_);rcases hat with h9 | h9
 ·exact hne (h9.symm.trans he')
 ·have := h9.symm.trans he';injection this with this
  omega
def zdy (acc l : List FinD) (more : Int) (k : Nat) : List FinD := acc ++ (l.take k).map (zcp more)
theorem zpF {acc l : List FinD} {more : Int} {k : Nat} {f : FinD} (h : l[k]? = some f) : zdy acc l more (k + 1) = zdy acc l more k ++ [zcp more f] := by
 rw [zdy, zdy, zQ h, zV, zaI]
 rfl
theorem zjr (g : Nat) (Av : Option Addr) (cv : Nat) (acc : List FinD) (A : Option Addr) (n c : Nat) (l : List FinD) (er more : Int) (base lb B : Nat) (w : World) (hg : Blk w g 94 #[.slice Av acc.length cv, .int .i64 0]) (hrow : Row w base 47 2 zbB (.slice Av acc.length cv) acc) (hl : FinRow lb w A n c l) (hn : n = l.length)
  (hap : ∀ k, A = some ⟨k, 0, none⟩ → zeE (.slice Av acc.length cv) k) (hgb : g < base) (hbw : base ≤ w.heap.size) (hB : B ≤ g) (hm : acc.length + l.length ≤ 100000) (hk : ∀ f ∈ l, 0 ≤ f.kind ∧ f.kind ≤ 10) (h0 : 0 ≤ more) (h1 : more ≤ 10) :
  Calls Tryz.prog 39 #[.pointer (some ⟨g, 0, none⟩), .slice A n c, .int .i64 er, .int .i64 more] w fun e w' => ∃ A' c', e = .returned (.tuple #[]) ∧ Blk w' g 94 #[.slice A' (zdy acc l more n).length c', .int .i64 er] ∧ Row w' base 47 2 zbB (.slice A' (zdy acc l more n).length c') (zdy acc l more n) ∧ Below B w w' := by
 have hgw := hg.lt;have hn1 : n ≤ 100000 := by omega
 have h00 : zdy acc l more 0 = acc := by simp [zdy]
 have KG := zf hg;have c1 := KG.out.cell 1;simp at c1;have f1 := KG.out.frozen 1;obtain ⟨w2, hw2⟩ : ∃ q, q = w.setCell ⟨g, 1, none⟩ (.int .i64 er) := ⟨_, rfl⟩;have kg2 := KG.out.set_ 1 (.int .i64 er);have hr2 := zpM hrow (show (⟨g, 1, none⟩ : Addr).block < base from hgb) (.int .i64 er);have hb2 := (Below.refl B w).setCell (p := ⟨g, 1, none⟩) hB (.int .i64 er);have hs2 : w2.heap.size = w.heap.size := by rw [hw2, zzG]
 simp only [zzD, zzE, zzF] at kg2;have hlb : n = 0 ∨ ∃ gl cs, A = some ⟨gl, 0, none⟩ ∧ Blk w2 gl 47 cs ∧ Hid (∀ (j : Nat) (u : Value), (l.flatMap zbB)[j]? = some u → cs[j]? = some u) := by
  by_cases hz : n = 0
  ·exact .inl hz
  ·obtain ⟨gl, cs, hA, hgl, hbk, hcs⟩ := zi8 hl (by omega);refine .inr ⟨gl, cs, hA, ?_, zf hcs⟩;rw [hw2];refine hbk.far (p := ⟨g, 1, none⟩) (fun he => ?_) _;have he' : gl = g := he;subst he';unfold Blk at hbk hg;rw [hbk] at hg;injection hg with hg
   injection hg with _ ht
   exact absurd ht (by decide)
 rw [← hw2] at kg2 hr2 hb2;have KG2 := zf kg2;have HR2 := zf hr2;have HB2 := zf hb2;have HW2 := zf hw2;have Hn := zf hn;have Hap := zf hap;have Hk := zf hk;have Hts := zf (fun (k : Nat) (f : FinD) (h : l[k]? = some f) => zpF (acc := acc) (more := more) h);have Htl := zf (fun (k : Nat) (hk : k ≤ l.length) => show (zdy acc l more k).length = acc.length + k by rw [zdy, zC, zw, zG, Nat.min_eq_left hk]);have H00 := zf h00;generalize zdy acc l more = AT at *;have hbw2 : base ≤ w2.heap.size := by rw [hs2]; exact hbw
 clear hg hrow hl hn hap hk h00 KG hw2 kg2 hr2 hb2 hs2;rcases hlb with h9 | ⟨gl, cs, hA, hbk, hcs⟩
 ·subst h9;have hat := H00.out;go_enter Tryz.func39, Tryz.ntmps39;go_wp2_with fail;rw [← HW2.out];refine wp_loop_rounds 1 ?_;rw [rounds_succ];go_wp2_with fail;refine bodyPost_end (v := .tuple #[]) (by kernel_rfl) rfl ?_;rw [hat];exact ⟨Av, cv, rfl, KG2.out, HR2.out, HB2.out⟩
 ·have Hcs := zf hcs.out;have Hbk := zf hbk;have HA := zf (Hap.out gl hA);subst hA;clear hbk hcs Hap;have hBb : B ≤ base := by omega
  go_enter Tryz.func39, Tryz.ntmps39;go_wp2_with fail;rw [← HW2.out];clear c1 f1 HW2;go_loopw [21] (fun iv wr => ∃ k : Nat, k ≤ n ∧ iv = .int .i64 k ∧ (∃ (A1 : Option Addr) (c1 : Nat), Hid (Blk wr g 94 #[.slice A1 (AT k).length c1, .int .i64 er]) ∧ Hid (Row wr base 47 2 zbB (.slice A1 (AT k).length c1) (AT k)) ∧ Hid (zeE (.slice A1 (AT k).length c1) gl)) ∧ Hid (Blk wr gl 47 cs) ∧ Hid (Below B w wr) ∧ Hid (base ≤ wr.heap.size)) (fun iv _ => n - (intOf iv).toNat)
  case atStart => exact ⟨0, zu _, rfl, ⟨Av, cv, by rw [H00.out]; exact KG2, by rw [H00.out]; exact HR2, by rw [H00.out]; exact HA⟩, Hbk, HB2, zf hbw2⟩
  case round =>
   clear KG2 HR2 HA Hbk HB2;obtain ⟨k, hk, rfl, ⟨A1, c1, KG, HR, HA⟩, Hbk, HB, hbb⟩ := hrel;by_cases hlt : k < n
   ·obtain ⟨b', o', f, hA9, hbl, hf, e0, e1⟩ := FinsAt.get (k := k) (zhc (B := gl + 1) zbv Hbk.out Hcs.out (by omega)) (by rw [← Hn.out]; exact hlt);injection hA9 with hA9
    injection hA9 with hA7 hA8
    subst hA7;subst hA8;obtain ⟨hk0, hk1⟩ := Hk.out f (zv hf);have Hnx := zf (Hts.out k f hf);have hlen := Htl.out k (by rw [← Hn.out]; exact hk);have hal : (AT k).length ≤ 100000 := by have := Hn.out; omega
    clear hlen;have hng := zf7 HR.out KG.out (by decide);have HAg := zf hng;obtain ⟨kind, nam⟩ := f;simp only [Nat.zero_add] at e0 e1 hk0 hk1 Hnx;have lgl := Hbk.out.lt;have hbs := hbb.out;have K3 := zf (KG.out.alloc (.cells #[.int .i64 kind, .string nam] 47));have KT := zf (Blk.new wr 47 #[.int .i64 kind, .string nam]);have R3 := zf (HR.out.alloc (.cells #[.int .i64 kind, .string nam] 47));have L3 := zf (Hbk.out.alloc (.cells #[.int .i64 kind, .string nam] 47));have hsB : B ≤ wr.heap.size := by omega
    have B3 := zf (HB.out.alloc hsB (.cells #[.int .i64 kind, .string nam] 47));obtain ⟨w3, hw3⟩ : ∃ q, q = wr.alloc (.cells #[.int .i64 kind, .string nam] 47) := ⟨_, rfl⟩;obtain ⟨gT, hgT⟩ : ∃ q, q = wr.heap.size := ⟨_, rfl⟩;have hs3 : base ≤ w3.heap.size := by rw [hw3]; exact zM hbs _
    have hl3 : gl < w3.heap.size := by rw [hw3]; exact zt lgl (by simp)
    rw [← hw3] at K3 KT R3 L3 B3;rw [← hgT] at KT;clear hf hbl hng KG HR Hbk HB hbb;go_upto_region 5 with fail
    rw [← hw3, ← hgT];clear hw3 hgT e0 e1 lgl hbs hsB;have g0 := K3.out.cell 0;have t0 := KT.out.cell 0;have t1 := KT.out.cell 1;simp at g0 t0 t1;have lg := K3.out.lt;have lt := KT.out.lt;have z1 : IntKind.i64.wrap (kind + more) = kind + more := zr _ (by omega);have R3 := zf (R3.out.drew);have K3 := zf (K3.out.drew);have L3 := zf (L3.out.drew);have B3 := zf (B3.out.drew);have hs3 : base ≤ w3.drew.heap.size := hs3;have hl3 : gl < w3.drew.heap.size := hl3
    go_region_law ((refine zkk (by rfl) (.tmp 29) (.tmp 37) 37 (by rfl) base 47 (.agg #[.int .i64 0, .string .empty]) 2 24 zbB Tryz.underlying37 (by kernel_rfl) rfl (by omega) zbv zb6 _ (AT k) ⟨kind + more, nam⟩ (by rfl) (R3.out.alloc _) _ (by rfl) (Blk.new _ _ _) (by omega) (by omega) (zM hs3 _) ?_; intro A9 c9 w9 hrow9 hb9 hkeep9 hap9; have KG9 := zf (hkeep9 g 94 _ HAg.out (K3.out.alloc _)); have c9x := KG9.out.cell 0; simp at c9x; have f9x := KG9.out.frozen 0; have l9x := KG9.out.lt))
    all_goals
     have hL : (AT (k + 1)).length = (AT k).length + 1 := by rw [Hnx.out]; simp
     have kg := KG9.out.set_ 0 (.slice A9 ((AT k).length + 1) c9);simp only [zzD, zzE] at kg;have KGn := zf (show Blk (w9.setCell ⟨g, 0, none⟩ (.slice A9 ((AT k).length + 1) c9)) g 94 #[.slice A9 (AT (k + 1)).length c9, .int .i64 er] by rw [hL]; exact kg);have HRn := zf (show Row (w9.setCell ⟨g, 0, none⟩ (.slice A9 ((AT k).length + 1) c9)) base 47 2 zbB (.slice A9 (AT (k + 1)).length c9) (AT (k + 1)) by rw [hL, Hnx.out]; exact zpM hrow9 (show (⟨g, 0, none⟩ : Addr).block < base from hgb) _);have HAn := zf (show zeE (.slice A9 (AT (k + 1)).length c9) gl by rw [hL]; exact hap9 gl (by simp; omega) HA.out);have hne : gl ≠ g := by
      intro he;have h1 := L3.out;have h2 := K3.out;subst he;unfold Blk at h1 h2;rw [h1] at h2;injection h2 with h2
      injection h2 with _ ht
      exact absurd ht (by decide)
     have HLn := zf ((hkeep9 gl _ _ HA.out (L3.out.alloc _)).far (p := ⟨g, 0, none⟩) hne (.slice A9 ((AT k).length + 1) c9));have hs9 := zh (zM hs3 (.cells #[.int .i64 (kind + more), .string nam] 47)) hb9.size;have HBn := zf (((B3.out.alloc (zh hBb hs3) (.cells #[.int .i64 (kind + more), .string nam] 47)).trans (hb9.mono hBb)).setCell (p := ⟨g, 0, none⟩) hB (.slice A9 ((AT k).length + 1) c9));have hfs := zf (show base ≤ (w9.setCell ⟨g, 0, none⟩ (.slice A9 ((AT k).length + 1) c9)).heap.size by rw [zzG]; exact hs9);clear hrow9 hb9 hkeep9 hap9 kg KG9 c9x f9x l9x hs9 hL;go_wp2;go_roundw
     case rel => exact ⟨k + 1, by omega, by go_num, ⟨A9, c9, KGn, HRn, HAn⟩, HLn, HBn, hfs⟩
     case measure => simp [intOf]; omega
   ·obtain rfl : k = n := by omega
    go_wp2_with fail;refine bodyPost_end (v := .tuple #[]) (by kernel_rfl) rfl ?_;exact ⟨A1, c1, rfl, KG.out, HR.out, HB.out⟩
end Go.Proofs.YtpaanfjjnjjoeaaGreat
