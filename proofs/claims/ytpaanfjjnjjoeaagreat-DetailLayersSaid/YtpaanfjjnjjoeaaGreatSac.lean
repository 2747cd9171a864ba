/- Legs of valid bars: plain facts. -/
import Derived.Test.YtpaanfjjnjjoeaaGreatSab
import Derived.BigRegion
import Derived.Deep.RegionHeld3
import Derived.StillTailTactics
set_option maxHeartbeats 8000000
set_option maxRecDepth 100000
namespace Go.Proofs.YtpaanfjjnjjoeaaGreat
open Go.RowKit
theorem zmS {rest : Int} {l : List Int} (h : zfb rest l = true) : ∀ d ∈ l, 1 ≤ d ∧ d ≤ rest := by
 induction l generalizing rest with
 | nil => intro d hd; cases hd
 | cons y r ih =>
  simp only [zfb, zm, zzJ] at h;intro d hd;rcases List.mem_cons.1 hd with rfl | hd
  ·omega
  ·have := ih h.2 d hd;omega
theorem zmg (l : List (Int × Int)) (a : Int) : a ≤ l.foldl (fun a p => max a p.1) a ∧ ∀ p ∈ l, p.1 ≤ l.foldl (fun a p => max a p.1) a := by
 induction l generalizing a with
 | nil => simp
 | cons y r ih =>
  have := ih (max a y.1);refine ⟨by simp only [List.foldl_cons]; omega, fun p hp => ?_⟩;rcases List.mem_cons.1 hp with rfl | hp
  ·simp only [List.foldl_cons]; omega
  ·exact this.2 p hp
def zev (x : BarD) (p : Int × Int) : Int := x.dims.getD p.1.toNat 0
def zaq (x : BarD) : List Int := (zbb x.code).map (zev x)
structure BarGood (x : BarD) : Prop where
 size : za1 x.size = true
 count : 1 ≤ x.count ∧ x.count ≤ 1000
 leg : ∀ p ∈ zbb x.code, 0 ≤ p.1 ∧ p.1.toNat < x.dims.length ∧ x.dims[p.1.toNat]? = some (zev x p) ∧ 1 ≤ zev x p ∧ zev x p ≤ 262144
 legs : zaq x ≠ []
theorem zdb {x : BarD} (h : zcr x = true) : BarGood x := by
 rw [zfK] at h;simp only [zm, zgv, zzJ] at h;obtain ⟨⟨⟨⟨⟨⟨h0, h1⟩, h2⟩, h3⟩, h4⟩, h5⟩, h6⟩ := h;refine ⟨h2, ⟨h3, h4⟩, fun p hp => ?_, ?_⟩
 ·have hd := zk5 _ p hp;have hm := (zmg (zbb x.code) (-1)).2 p hp;have hl : p.1.toNat < x.dims.length := by unfold zcq at h5; omega
  have hg : x.dims[p.1.toNat]? = some (zev x p) := by rw [zev, zY, zi hl]; rfl
  exact ⟨hd.1, hl, hg, zmS h6 _ (zv hg)⟩
 ·intro he;have : zbb x.code = [] := by simpa [zaq] using he
  rw [zed, zcq, this] at h0;simp at h0
theorem zf6 {code : Int} (h : zbb code ≠ []) : code = 0 ∨ code = 11 ∨ code = 21 ∨ code = 26 ∨ code = 31 ∨ code = 41 ∨ code = 51 ∨ code = 98 := by
 unfold zbb at h;refine Decidable.byContradiction fun hn => ?_;simp only [not_or] at hn;obtain ⟨h0, h1, h2, h3, h4, h5, h6, h7⟩ := hn;simp [h0, h1, h2, h3, h4, h5, h6, h7] at h
abbrev Pt := Int × Int × Int
def zh8 (y v : Int) : Int × Int × Int := if y = 120 then (v, 0, 0) else if y = 121 then (0, v, 0) else if y = 122 then (0, 0, v) else if y = 88 then (-v, 0, 0) else (0, -v, 0)
def zfi (x : BarD) : List (Int × Int × Int) := (zbb x.code).map fun p => zh8 p.2 (zev x p)
structure BoxD where
 lo : Pt
 hi : Pt
structure MemD where
 name : ByteArray
 boxes : List BoxD
 holes : List BoxD
 cover : Int
 aggregate : Int
 poker : Int
structure RunD where
 mark : ByteArray
 tx : Int
 ty : Int
 place : Pt
 step : Pt
 count : Int
structure JoinD where
 first : Int
 second : Int
structure DemD where
 name : ByteArray
 zone : BoxD
 steps : List (Int × Int)
structure RuleD where
 num : Int
 den : Int
 poorNum : Int
 poorDen : Int
 bendNum : Int
 bendDen : Int
 lapNum : Int
 lapDen : Int
 least : Int
structure DetD where
 mem : MemD
 bars : List BarD
 runs : List RunD
 laps : List JoinD
 dems : List DemD
 rule : RuleD
def zaS (n : Int) : Bool := decide (-1048576 ≤ n) && decide (n ≤ 1048576)
def zfA (lo hi : Int) : Bool := decide (lo ≤ hi) && decide (-1048576 ≤ lo) && decide (hi ≤ 1048576)
def zbI (b : BoxD) : List (Int × Int) := [(b.lo.1, b.hi.1), (b.lo.2.1, b.hi.2.1), (b.lo.2.2, b.hi.2.2)]
def zdp (p : Int × Int) : Bool := zfA p.1 p.2
def zad (b : BoxD) : Bool := (zbI b).all zdp
def zbd (b : BoxD) : Bool := zad b && decide (b.lo.1 < b.hi.1) && decide (b.lo.2.1 < b.hi.2.1) && decide (b.lo.2.2 < b.hi.2.2)
def zaZ (bs hs : List BoxD) : Bool := decide (1 ≤ bs.length) && decide (bs.length ≤ 20) && decide (hs.length ≤ 20) && bs.all zbd && hs.all zbd
def within (n lo hi : Int) : Bool := decide (lo ≤ n) && decide (n ≤ hi)
def zdj (m : MemD) : Bool := zb8 m.name && zaZ m.boxes m.holes && within m.cover 0 200 && within m.aggregate 1 100 && within m.poker 1 200
def zc0 (n : Int) : Bool := !decide (n = 0) && decide (-3 ≤ n) && decide (n ≤ 3)
def zav (x y : Int) : Bool := zc0 x && zc0 y && !decide (x = y) && !decide (x = -y)
def zaQ (n : Int) : Pt := if n = 1 then (1, 0, 0) else if n = 2 then (0, 1, 0) else if n = 3 then (0, 0, 1) else if n = -1 then (-1, 0, 0) else if n = -2 then (0, -1, 0) else (0, 0, -1)
def zdw (a b : Pt) : Pt := (a.2.1 * b.2.2 - a.2.2 * b.2.1, a.2.2 * b.1 - a.1 * b.2.2, a.1 * b.2.1 - a.2.1 * b.1)
def zoa (a b c p : Pt) : Pt := (a.1 * p.1 + b.1 * p.2.1 + c.1 * p.2.2, a.2.1 * p.1 + b.2.1 * p.2.1 + c.2.1 * p.2.2, a.2.2 * p.1 + b.2.2 * p.2.1 + c.2.2 * p.2.2)
def zeF (x y : Int) (p : Pt) : Pt := zoa (zaQ x) (zaQ y) (zdw (zaQ x) (zaQ y)) p
def zbf (p q : Pt) : Pt := (p.1 + q.1, p.2.1 + q.2.1, p.2.2 + q.2.2)
def zbe (k : Int) (p : Pt) : Pt := (k * p.1, k * p.2.1, k * p.2.2)
def zdn (o : Pt) : List Pt → List Pt
 | [] => [o]
 | m :: r => o :: zdn (zbf o m) r
def zai (x : BarD) : List Pt := zdn (0, 0, 0) (zfi x)
def zJ (m : Int) (p : Pt) : Bool := within p.1 (-m) m && within p.2.1 (-m) m && within p.2.2 (-m) m
def zbJ (x : BarD) (r : RunD) (k : Int) : List Pt := (zai x).map fun p => zbf (zbf (zeF r.tx r.ty p) r.place) (zbe k r.step)
def zft (p : Pt) : Bool := decide (p.1 = 0) && decide (p.2.1 = 0) && decide (p.2.2 = 0)
def zdD (bars : List BarD) (r : RunD) : Option BarD := bars.find? (zaJ r.mark)
def zds (bars : List BarD) (r : RunD) : Bool :=
 decide (0 ≤ idx (zaJ r.mark) bars) && zav r.tx r.ty && decide (1 ≤ r.count) && decide (r.count ≤ 1000) && zJ 1048576 r.place && (decide (r.count ≤ 1) || (!zft r.step && zJ 2097152 r.step))
def zg7 (bars : List BarD) (r : RunD) (k : Int) : List Pt := match zdD bars r with | some x => zbJ x r k | none => []
def zaC (bars : List BarD) (r : RunD) : Bool := zds bars r && (zg7 bars r 0).all (zJ 1048576) && (zg7 bars r (r.count - 1)).all (zJ 1048576)
def zcG (bars : List BarD) : Int → List RunD → Bool
 | _, [] => true
 | rest, r :: l => zaC bars r && decide (r.count ≤ rest) && zcG bars (rest - r.count) l
def zaj (bars : List BarD) (runs : List RunD) : Bool := zbz bars && decide (runs.length ≤ 60) && zcG bars 2000 runs
def za3 : Option Int → List (Int × Int) → Bool
 | _, [] => true
 | last, s :: r => zaS s.1 && within s.2 0 1099511627776 && (match last with | none => true | some p => decide (p < s.1)) && za3 (some s.1) r
def zau (l : List (Int × Int)) : Bool := decide (l.length ≤ 200) && za3 none l
def zeC (d : DemD) : Bool := zb8 d.name && zad d.zone && zau d.steps
def zc2 (m : ByteArray) (d : DemD) : Bool := d.name.toList == m.toList
def zc7 : List DemD → List DemD → Bool
 | _, [] => true
 | done, d :: r => zeC d && !done.any (zc2 d.name) && zc7 (done ++ [d]) r
def zb0 (l : List DemD) : Bool := decide (l.length ≤ 20) && zc7 [] l
def zcM (n : Int) : Bool := within n 1 1000
def zbH (r : RuleD) : Bool :=
 [r.num, r.den, r.poorNum, r.poorDen, r.bendNum, r.bendDen, r.lapNum, r.lapDen].all zcM && decide (r.poorDen ≤ r.poorNum) && decide (r.lapDen ≤ r.lapNum) && decide (r.bendNum ≤ r.bendDen) && within r.least 0 1000
def zmz (p q : Pt) : Pt := (min p.1 q.1, min p.2.1 q.2.1, min p.2.2 q.2.2)
def zmA (p q : Pt) : Pt := (max p.1 q.1, max p.2.1 q.2.1, max p.2.2 q.2.2)
def zbZ (p q : Pt) : BoxD := ⟨zmz p q, zmA p q⟩
def zy : List Pt → List BoxD
 | p :: q :: r => zbZ p q :: zy (q :: r)
 | _ => []
def zbT (b : BoxD) : Bool := decide (b.lo.1 < b.hi.1) && decide (b.lo.2.1 = b.hi.2.1) && decide (b.lo.2.2 = b.hi.2.2)
structure LaidD where
 bar : BarD
 pts : List Pt
def zd9 (bars : List BarD) (r : RunD) : List LaidD := match zdD bars r with
 | some x => (List.range r.count.toNat).map fun (k : Nat) => ⟨x, zbJ x r k⟩
 | none => []
def zx (bars : List BarD) (runs : List RunD) : List LaidD := runs.flatMap (zd9 bars)
def zaR (x : LaidD) : Option BoxD := (zy x.pts).find? zbT
def zbA (ms : List (Option BoxD)) (j : JoinD) : Bool :=
 decide (0 ≤ j.first) && decide (j.first < ms.length) && decide (0 ≤ j.second) && decide (j.second < ms.length) &&
 (match ms.getD j.first.toNat none, ms.getD j.second.toNat none with
  | some a, some b => decide (a.lo.1 < b.lo.1) && decide (a.hi.1 < b.hi.1) && decide (b.lo.1 ≤ a.hi.1)
  | _, _ => false)
def zbD (ms : List (Option BoxD)) : List Int → List Int → List JoinD → Bool
 | _, _, [] => true
 | f, s, j :: r => zbA ms j && !f.contains j.first && !s.contains j.second && zbD ms (j.first :: f) (j.second :: s) r
def zcI (x : DetD) : Bool := zdj x.mem && zaj x.bars x.runs && zb0 x.dems && zbH x.rule && decide (x.laps.length ≤ 1000)
def zah (x : DetD) : Bool := zcI x && zbD ((zx x.bars x.runs).map zaR) [] [] x.laps
/-! In memory. -/
def zbF (p : Pt) : List Value := [.int .i64 p.1, .int .i64 p.2.1, .int .i64 p.2.2]
theorem zbc (p : Pt) : (zbF p).length = 3 := rfl
theorem zdh (p : Pt) : ∀ u ∈ zbF p, u.oneCell' = true := by
 intro u hu;simp only [zbF, List.mem_cons, List.not_mem_nil, or_false] at hu;rcases hu with rfl | rfl | rfl <;> rfl
def zdm (b : BoxD) : List Value := [.int .i64 b.lo.1, .int .i64 b.lo.2.1, .int .i64 b.lo.2.2, .int .i64 b.hi.1, .int .i64 b.hi.2.1, .int .i64 b.hi.2.2]
theorem zcN (b : BoxD) : (zdm b).length = 6 := rfl
theorem zfI (b : BoxD) : ∀ u ∈ zdm b, u.oneCell' = true := by
 intro u hu;simp only [zdm, List.mem_cons, List.not_mem_nil, or_false] at hu;rcases hu with rfl | rfl | rfl | rfl | rfl | rfl <;> rfl
def zcw (r : RunD) : List Value := [.string r.mark, .int .i64 r.tx, .int .i64 r.ty, .int .i64 r.place.1, .int .i64 r.place.2.1, .int .i64 r.place.2.2, .int .i64 r.step.1, .int .i64 r.step.2.1, .int .i64 r.step.2.2, .int .i64 r.count]
theorem zcL (r : RunD) : (zcw r).length = 10 := rfl
def zcs (j : JoinD) : List Value := [.int .i64 j.first, .int .i64 j.second]
theorem zgJ (j : JoinD) : (zcs j).length = 2 := rfl
def zaF (p : Int × Int) : List Value := [.int .i64 p.1, .int .i64 p.2]
theorem zbi (p : Int × Int) : (zaF p).length = 2 := rfl
abbrev PtsAt (w : World) (B : Nat) (A : Option Addr) (l : List Pt) : Prop := SlOf w B 3 (Flat zbF) A l
abbrev BoxesAt (w : World) (B : Nat) (A : Option Addr) (l : List BoxD) : Prop := SlOf w B 6 (Flat zdm) A l
abbrev RunsAt (w : World) (B : Nat) (A : Option Addr) (l : List RunD) : Prop := SlOf w B 10 (Flat zcw) A l
abbrev JoinsAt (w : World) (B : Nat) (A : Option Addr) (l : List JoinD) : Prop := SlOf w B 2 (Flat zcs) A l
abbrev StpsAt (w : World) (B : Nat) (A : Option Addr) (l : List (Int × Int)) : Prop := SlOf w B 2 (Flat zaF) A l
def ztJ : World → Nat → List Value → DemD → Prop := fun w B vs d => ∃ A c, vs = [.string d.name] ++ zdm d.zone ++ [.slice A d.steps.length c] ∧ StpsAt w B A d.steps
theorem zba : zfX ztJ := fun _ _ _ _ _ _ hb hB ⟨A, c, h, hi⟩ => ⟨A, c, h, hi.carry (Flat.carried _) hb hB⟩
abbrev DemsAt (w : World) (B : Nat) (A : Option Addr) (l : List DemD) : Prop := SlOf w B 8 ztJ A l
section
variable {w : World} {B : Nat} {A : Option Addr}
theorem PtsAt.get {l : List Pt} (h : PtsAt w B A l) {k : Nat} (hk : k < l.length) :
  ∃ b off x, A = some ⟨b, off, none⟩ ∧ b < B ∧ l[k]? = some x ∧ w.cell? ⟨b, off + k * 3, none⟩ = some (.int .i64 x.1) ∧ w.cell? ⟨b, off + k * 3 + 1, none⟩ = some (.int .i64 x.2.1) ∧ w.cell? ⟨b, off + k * 3 + 2, none⟩ = some (.int .i64 x.2.2) := by
 obtain ⟨b, off, x, vs, hA, hb, hx, _, hr, hc⟩ := h.at_ hk;have hr' : vs = zbF x := hr;subst hr';exact ⟨b, off, x, hA, hb, hx, by simpa using hc 0 _ rfl, by simpa using hc 1 _ rfl, by simpa using hc 2 _ rfl⟩
theorem BoxesAt.get {l : List BoxD} (h : BoxesAt w B A l) {k : Nat} (hk : k < l.length) :
  ∃ b off x, A = some ⟨b, off, none⟩ ∧ b < B ∧ l[k]? = some x ∧ w.cell? ⟨b, off + k * 6, none⟩ = some (.int .i64 x.lo.1) ∧ w.cell? ⟨b, off + k * 6 + 1, none⟩ = some (.int .i64 x.lo.2.1) ∧ w.cell? ⟨b, off + k * 6 + 2, none⟩ = some (.int .i64 x.lo.2.2) ∧
   w.cell? ⟨b, off + k * 6 + 3, none⟩ = some (.int .i64 x.hi.1) ∧ w.cell? ⟨b, off + k * 6 + 4, none⟩ = some (.int .i64 x.hi.2.1) ∧ w.cell? ⟨b, off + k * 6 + 5, none⟩ = some (.int .i64 x.hi.2.2) := by
 obtain ⟨b, off, x, vs, hA, hb, hx, _, hr, hc⟩ := h.at_ hk;have hr' : vs = zdm x := hr;subst hr';exact ⟨b, off, x, hA, hb, hx, by simpa using hc 0 _ rfl, by simpa using hc 1 _ rfl, by simpa using hc 2 _ rfl, by simpa using hc 3 _ rfl, by simpa using hc 4 _ rfl, by simpa using hc 5 _ rfl⟩
theorem RunsAt.get {l : List RunD} (h : RunsAt w B A l) {k : Nat} (hk : k < l.length) :
  ∃ b off x, A = some ⟨b, off, none⟩ ∧ b < B ∧ l[k]? = some x ∧ ∀ j v, (zcw x)[j]? = some v → w.cell? ⟨b, off + k * 10 + j, none⟩ = some v := by
 obtain ⟨b, off, x, vs, hA, hb, hx, _, hr, hc⟩ := h.at_ hk;have hr' : vs = zcw x := hr;subst hr';exact ⟨b, off, x, hA, hb, hx, hc⟩
theorem JoinsAt.get {l : List JoinD} (h : JoinsAt w B A l) {k : Nat} (hk : k < l.length) :
  ∃ b off x, A = some ⟨b, off, none⟩ ∧ b < B ∧ l[k]? = some x ∧ w.cell? ⟨b, off + k * 2, none⟩ = some (.int .i64 x.first) ∧ w.cell? ⟨b, off + k * 2 + 1, none⟩ = some (.int .i64 x.second) := by
 obtain ⟨b, off, x, vs, hA, hb, hx, _, hr, hc⟩ := h.at_ hk;have hr' : vs = zcs x := hr;subst hr';exact ⟨b, off, x, hA, hb, hx, by simpa using hc 0 _ rfl, by simpa using hc 1 _ rfl⟩
theorem StpsAt.get {l : List (Int × Int)} (h : StpsAt w B A l) {k : Nat} (hk : k < l.length) :
  ∃ b off x, A = some ⟨b, off, none⟩ ∧ b < B ∧ l[k]? = some x ∧ w.cell? ⟨b, off + k * 2, none⟩ = some (.int .i64 x.1) ∧ w.cell? ⟨b, off + k * 2 + 1, none⟩ = some (.int .i64 x.2) := by
 obtain ⟨b, off, x, vs, hA, hb, hx, _, hr, hc⟩ := h.at_ hk;have hr' : vs = zaF x := hr;subst hr';exact ⟨b, off, x, hA, hb, hx, by simpa using hc 0 _ rfl, by simpa using hc 1 _ rfl⟩
theorem DemsAt.get {l : List DemD} (h : DemsAt w B A l) {k : Nat} (hk : k < l.length) :
  ∃ b off x A' c', A = some ⟨b, off, none⟩ ∧ b < B ∧ l[k]? = some x ∧ StpsAt w B A' x.steps ∧ ∀ j v, ([.string x.name] ++ zdm x.zone ++ [.slice A' x.steps.length c'])[j]? = some v → w.cell? ⟨b, off + k * 8 + j, none⟩ = some v := by
 obtain ⟨b, off, x, vs, hA, hb, hx, _, ⟨A', c', hv, hi⟩, hc⟩ := h.at_ hk;subst hv;exact ⟨b, off, x, A', c', hA, hb, hx, hi, hc⟩
end
abbrev bx (b : BoxD) : Value := .agg #[.int .i64 b.lo.1, .int .i64 b.lo.2.1, .int .i64 b.lo.2.2, .int .i64 b.hi.1, .int .i64 b.hi.2.1, .int .i64 b.hi.2.2]
theorem ztH (a b c : Value) (w : World) : (Instr.index 276 (.agg #[a, b, c]) (.int .i64 0)).run Tryz.prog w = .ok a w := by kernel_rfl
theorem ztG (a b c : Value) (w : World) : (Instr.index 276 (.agg #[a, b, c]) (.int .i64 1)).run Tryz.prog w = .ok b w := by kernel_rfl
theorem ztF (a b c : Value) (w : World) : (Instr.index 276 (.agg #[a, b, c]) (.int .i64 2)).run Tryz.prog w = .ok c w := by kernel_rfl
theorem zhp (x y z : Int) (w : World) :
  Calls Tryz.prog 247 #[.agg #[.int .i64 x, .int .i64 y, .int .i64 z]] w fun e w' => e = .returned (.agg #[.int .i64 x, .int .i64 y, .int .i64 z]) ∧ Below w.heap.size w w' := by
 go_enter Tryz.func247, Tryz.ntmps247;go_wp2_with fail;refine bodyPost_ret (zaU rfl rfl (Blk.new1 w _ _ _) Tryz.underlying276 rfl (by kernel_rfl)) rfl ?_;exact ⟨rfl, zH w _ _⟩
theorem zrb (b : BoxD) (w : World) :
  Calls Tryz.prog 191 #[bx b, .int .i64 0] w fun e w' => e = .returned (.tuple #[.int .i64 b.lo.1, .int .i64 b.hi.1]) ∧ Below w.heap.size w w' := by
 obtain ⟨⟨x, y, z⟩, ⟨x2, y2, z2⟩⟩ := b;have i0 := fun (a b c : Value) (w : World) => ztH a b c w;go_enter Tryz.func191, Tryz.ntmps191;go_wp2_with fail;obtain ⟨w1, hw1⟩ : ∃ w1, w1 = w.alloc (.cells #[.int .i64 x, .int .i64 y, .int .i64 z, .int .i64 x2, .int .i64 y2, .int .i64 z2] 62) := ⟨_, rfl⟩;have hb := Blk.new w 62 #[.int .i64 x, .int .i64 y, .int .i64 z, .int .i64 x2, .int .i64 y2, .int .i64 z2];have hw := zf (zk w (.cells #[.int .i64 x, .int .i64 y, .int .i64 z, .int .i64 x2, .int .i64 y2, .int .i64 z2] 62));rw [← hw1] at hb hw ⊢;have c0 := cell_regrown (hb.cell 0);have c1 := cell_regrown (hb.cell 1);have c2 := cell_regrown (hb.cell 2);have c3 := cell_regrown (hb.cell 3);have c4 := cell_regrown (hb.cell 4);have c5 := cell_regrown (hb.cell 5);clear hb hw1;refine wp_region_quiet_below (by kernel_rfl) (by kernel_rfl) ?_
 repeat (go_big_quiet_step (first
  | (go_at_call 247; exact Calls.regrown_of (zhp _ _ _ _))))
 refine wpQuiet_nil ?_;intro w2 hw';have hbq := zf (show Below _ _ w2 by obtain ⟨p, rfl⟩ := hw'; exact below_regrown _ _ _);clear hw' c0 c1 c2 c3 c4 c5;go_wp2;go_ret2;exact ⟨rfl, zg hw.out hbq.out (ze _)⟩
theorem zra (b : BoxD) (w : World) :
  Calls Tryz.prog 191 #[bx b, .int .i64 1] w fun e w' => e = .returned (.tuple #[.int .i64 b.lo.2.1, .int .i64 b.hi.2.1]) ∧ Below w.heap.size w w' := by
 obtain ⟨⟨x, y, z⟩, ⟨x2, y2, z2⟩⟩ := b;have i0 := fun (a b c : Value) (w : World) => ztG a b c w;go_enter Tryz.func191, Tryz.ntmps191;go_wp2_with fail;obtain ⟨w1, hw1⟩ : ∃ w1, w1 = w.alloc (.cells #[.int .i64 x, .int .i64 y, .int .i64 z, .int .i64 x2, .int .i64 y2, .int .i64 z2] 62) := ⟨_, rfl⟩;have hb := Blk.new w 62 #[.int .i64 x, .int .i64 y, .int .i64 z, .int .i64 x2, .int .i64 y2, .int .i64 z2];have hw := zf (zk w (.cells #[.int .i64 x, .int .i64 y, .int .i64 z, .int .i64 x2, .int .i64 y2, .int .i64 z2] 62));rw [← hw1] at hb hw ⊢;have c0 := cell_regrown (hb.cell 0);have c1 := cell_regrown (hb.cell 1);have c2 := cell_regrown (hb.cell 2);have c3 := cell_regrown (hb.cell 3);have c4 := cell_regrown (hb.cell 4);have c5 := cell_regrown (hb.cell 5);clear hb hw1;refine wp_region_quiet_below (by kernel_rfl) (by kernel_rfl) ?_
 repeat (go_big_quiet_step (first
  | (go_at_call 247; exact Calls.regrown_of (zhp _ _ _ _))))
 refine wpQuiet_nil ?_;intro w2 hw';have hbq := zf (show Below _ _ w2 by obtain ⟨p, rfl⟩ := hw'; exact below_regrown _ _ _);clear hw' c0 c1 c2 c3 c4 c5;go_wp2;go_ret2;exact ⟨rfl, zg hw.out hbq.out (ze _)⟩
theorem zq9 (b : BoxD) (w : World) :
  Calls Tryz.prog 191 #[bx b, .int .i64 2] w fun e w' => e = .returned (.tuple #[.int .i64 b.lo.2.2, .int .i64 b.hi.2.2]) ∧ Below w.heap.size w w' := by
 obtain ⟨⟨x, y, z⟩, ⟨x2, y2, z2⟩⟩ := b;have i0 := fun (a b c : Value) (w : World) => ztF a b c w;go_enter Tryz.func191, Tryz.ntmps191;go_wp2_with fail;obtain ⟨w1, hw1⟩ : ∃ w1, w1 = w.alloc (.cells #[.int .i64 x, .int .i64 y, .int .i64 z, .int .i64 x2, .int .i64 y2, .int .i64 z2] 62) := ⟨_, rfl⟩;have hb := Blk.new w 62 #[.int .i64 x, .int .i64 y, .int .i64 z, .int .i64 x2, .int .i64 y2, .int .i64 z2];have hw := zf (zk w (.cells #[.int .i64 x, .int .i64 y, .int .i64 z, .int .i64 x2, .int .i64 y2, .int .i64 z2] 62));rw [← hw1] at hb hw ⊢;have c0 := cell_regrown (hb.cell 0);have c1 := cell_regrown (hb.cell 1);have c2 := cell_regrown (hb.cell 2);have c3 := cell_regrown (hb.cell 3);have c4 := cell_regrown (hb.cell 4);have c5 := cell_regrown (hb.cell 5);clear hb hw1;refine wp_region_quiet_below (by kernel_rfl) (by kernel_rfl) ?_
 repeat (go_big_quiet_step (first
  | (go_at_call 247; exact Calls.regrown_of (zhp _ _ _ _))))
 refine wpQuiet_nil ?_;intro w2 hw';have hbq := zf (show Below _ _ w2 by obtain ⟨p, rfl⟩ := hw'; exact below_regrown _ _ _);clear hw' c0 c1 c2 c3 c4 c5;go_wp2;go_ret2;exact ⟨rfl, zg hw.out hbq.out (ze _)⟩
theorem zek (b : BoxD) (k : Nat) (p : Int × Int) (h : (zbI b)[k]? = some p) (w : World) :
  Calls Tryz.prog 191 #[bx b, .int .i64 k] w fun e w' => e = .returned (.tuple #[.int .i64 p.1, .int .i64 p.2]) ∧ Below w.heap.size w w' := by
 rcases k with _ | _ | _ | k
 ·simp [zbI] at h; subst h; exact zrb b w
 ·simp [zbI] at h; subst h; exact zra b w
 ·simp [zbI] at h; subst h; exact zq9 b w
 ·simp [zbI] at h
theorem za0 (b : BoxD) (w : World) :
  Calls Tryz.prog 122 #[bx b] w fun e w' => e = .returned (.bool (zad b)) ∧ Below w.heap.size w w' := by
 have HE := zf (fun (k : Nat) (p : Int × Int) (h : (zbI b)[k]? = some p) (w : World) => zek b k p h w);have HL := zf (show (zbI b).length = 3 from rfl);have Hok := zf (show zad b = ((zbI b).drop 0).all zdp from rfl);obtain ⟨⟨x, y, z⟩, ⟨x2, y2, z2⟩⟩ := b;obtain ⟨ax, hax⟩ : ∃ ax, ax = zbI ⟨(x, y, z), (x2, y2, z2)⟩ := ⟨_, rfl⟩;obtain ⟨rb, hrb⟩ : ∃ rb, rb = zad ⟨(x, y, z), (x2, y2, z2)⟩ := ⟨_, rfl⟩;rw [← hax] at HE HL Hok;rw [← hrb] at Hok ⊢;clear hax hrb;go_enter Tryz.func122, Tryz.ntmps122;go_wp2_with fail;obtain ⟨w1, hw1⟩ : ∃ w1, w1 = w.alloc (.cells #[.int .i64 x, .int .i64 y, .int .i64 z, .int .i64 x2, .int .i64 y2, .int .i64 z2] 62) := ⟨_, rfl⟩;have hb := zf (Blk.new w 62 #[.int .i64 x, .int .i64 y, .int .i64 z, .int .i64 x2, .int .i64 y2, .int .i64 z2]);have hw := zf (zk w (.cells #[.int .i64 x, .int .i64 y, .int .i64 z, .int .i64 x2, .int .i64 y2, .int .i64 z2] 62));rw [← hw1] at hb hw ⊢;clear hw1;go_loopw [6] (fun i wr => ∃ k : Nat, k ≤ 3 ∧ i = .int .i64 k ∧ Hid (rb = (ax.drop k).all zdp) ∧ Below w1.heap.size w1 wr) (fun i _ => 3 - (intOf i).toNat)
 case atStart => exact ⟨0, zu _, rfl, Hok, Below.refl _ _⟩
 case round =>
  obtain ⟨k, hk, rfl, hq, hbr⟩ := hrel;by_cases hlt : k < 3
  ·obtain ⟨p, hp⟩ : ∃ p, ax[k]? = some p := ⟨_, zi (by rw [HL.out]; exact hlt)⟩;have hbk := hb.out.below hbr hb.out.lt;have c0 := hbk.cell 0;have c1 := hbk.cell 1;have c2 := hbk.cell 2;have c3 := hbk.cell 3;have c4 := hbk.cell 4;have c5 := hbk.cell 5;simp at c0 c1 c2 c3 c4 c5;have He := zf (HE.out k p hp wr);have Hn := zf (hq.out.trans (by rw [zaX hp, List.all_cons]));clear hbk hp hq;obtain ⟨lo, hi⟩ := p;simp only at He Hn;cases ha : zfA lo hi
   ·have hres := zf (show rb = false by rw [Hn.out, zdp, ha]; rfl);have hcase : decide (hi < lo) = true ∨ (decide (hi < lo) = false ∧ decide (lo < -1048576) = true) ∨ (decide (hi < lo) = false ∧ decide (lo < -1048576) = false ∧ decide (1048576 < hi) = true) := by
     simp only [zfA, Bool.and_eq_false_iff, zzI] at ha;simp only [zzJ, zzI];omega
    clear ha Hn;rcases hcase with q0 | ⟨q0, q1⟩ | ⟨q0, q1, q2⟩
    all_goals
     go_wp2_with (go_at_call 191; refine He.out.mono ?_; rintro e w2 ⟨rfl, hb2⟩);go_ret;exact ⟨zo hres.out.symm, zg hw.out (hbr.trans (hb2.mono hbr.size)) (ze _)⟩
   ·have Hn2 := zf (Hn.out.trans (by rw [zdp, ha, Bool.true_and]));have q0 : decide (hi < lo) = false := by simp [zfA] at ha; simp; omega
    have q1 : decide (lo < -1048576) = false := by simp [zfA] at ha; simp; omega
    have q2 : decide (1048576 < hi) = false := by simp [zfA] at ha; simp; omega
    clear ha Hn;go_wp2_with (go_at_call 191; refine He.out.mono ?_; rintro e w2 ⟨rfl, hb2⟩);have hb3 := zf (hbr.trans (hb2.mono hbr.size));clear hb2;go_roundw
    case rel => exact ⟨k + 1, by omega, by go_num, Hn2, hb3.out⟩
    case measure => simp [intOf]; omega
  ·obtain rfl : k = 3 := by omega
   have hfull := zf (show rb = true by rw [hq.out, ← HL.out, zar]; rfl);go_wp2;go_ret;exact ⟨zo hfull.out.symm, zg hw.out hbr (ze _)⟩
theorem zab {m : Int} {p : Pt} : zJ m p = true ↔ (-m ≤ p.1 ∧ p.1 ≤ m) ∧ (-m ≤ p.2.1 ∧ p.2.1 ≤ m) ∧ (-m ≤ p.2.2 ∧ p.2.2 ≤ m) := by
 simp [zJ, within, and_assoc]
theorem zak {m n : Int} {p : Pt} (h : zJ m p = true) (hm : m ≤ n) : zJ n p = true := by
 rw [zab] at h ⊢;omega
theorem zl9 (o : Pt) (l : List Pt) : (zdn o l).length = l.length + 1 := by
 induction l generalizing o with
 | nil => rfl
 | cons m r ih => rw [zdn, zac, ih, zac]
theorem zb4 (x : BarD) : (zai x).length = (zbb x.code).length + 1 := by rw [zai, zl9, zfi, zw]
theorem zc9 (code : Int) : (zbb code).length ≤ 6 := by
 unfold zbb
 repeat' split
 all_goals decide
theorem zeU {x : BarD} (h : zcr x = true) : ∀ p ∈ zai x, zJ 524288 p = true := by
 have hg := zdb h;have hc : zbb x.code ≠ [] := by
  intro he;exact hg.legs (by simp [zaq, he])
 rw [zfK] at h;simp only [zm, zgv, zzJ] at h;obtain ⟨⟨_, h5⟩, h6⟩ := h;obtain ⟨mark, size, count, code, dims⟩ := x;simp only at h5 h6 hc;clear hg;rcases zf6 hc with rfl | rfl | rfl | rfl | rfl | rfl | rfl | rfl
 all_goals
  simp [zcq, zbb] at h5;rcases dims with _ | ⟨a, _ | ⟨b, _ | ⟨c, _ | ⟨d, _ | ⟨e, _ | ⟨f, r⟩⟩⟩⟩⟩⟩ <;> simp at h5 <;> (try omega)
  all_goals
   simp [zfb] at h6;intro p hp;simp [zai, zfi, zbb, zh8, zev, zdn, zbf] at hp;rw [zab];rcases hp with rfl | rfl | rfl | rfl | rfl | rfl | rfl <;> simp <;> omega
theorem zfm {k c s : Int} (h0 : 0 ≤ k) (h1 : k ≤ c) : (0 ≤ s → 0 ≤ k * s ∧ k * s ≤ c * s) ∧ (s ≤ 0 → c * s ≤ k * s ∧ k * s ≤ 0) := by
 refine ⟨fun hs => ⟨Int.mul_nonneg h0 hs, Int.mul_le_mul_of_nonneg_right h1 hs⟩, fun hs => ⟨?_, ?_⟩⟩
 ·have := Int.mul_le_mul_of_nonneg_right h1 (show 0 ≤ -s by omega);rw [Int.mul_neg, Int.mul_neg] at this;omega
 ·have := Int.mul_nonneg h0 (show 0 ≤ -s by omega);rw [Int.mul_neg] at this;omega
theorem zlK {k c s p m : Int} (h0 : 0 ≤ k) (h1 : k ≤ c) (a : -m ≤ p + 0 * s ∧ p + 0 * s ≤ m) (b : -m ≤ p + c * s ∧ p + c * s ≤ m) : -m ≤ p + k * s ∧ p + k * s ≤ m := by
 obtain ⟨f, g⟩ := zfm (s := s) h0 h1;rcases Int.le_total 0 s with hs | hs
 ·have := f hs; omega
 ·have := g hs; omega
theorem zma {k c : Int} {p s : Pt} {m : Int} (h0 : 0 ≤ k) (h1 : k ≤ c) (a : zJ m (zbf p (zbe 0 s)) = true) (b : zJ m (zbf p (zbe c s)) = true) : zJ m (zbf p (zbe k s)) = true := by
 rw [zab] at a b ⊢;simp only [zbf, zbe] at a b ⊢;exact ⟨zlK h0 h1 a.1 b.1, zlK h0 h1 a.2.1 b.2.1, zlK h0 h1 a.2.2 b.2.2⟩
theorem zr8 {x : BarD} {r : RunD} {m k : Int} (h0 : (zbJ x r 0).all (zJ m) = true) (h1 : (zbJ x r (r.count - 1)).all (zJ m) = true) (hk : 0 ≤ k) (hk1 : k ≤ r.count - 1) : ∀ p ∈ zbJ x r k, zJ m p = true := by
 intro p hp;obtain ⟨q, hq, rfl⟩ := List.mem_map.1 hp;exact zma hk hk1 (List.all_eq_true.1 h0 _ (List.mem_map.2 ⟨q, hq, rfl⟩)) (List.all_eq_true.1 h1 _ (List.mem_map.2 ⟨q, hq, rfl⟩))
theorem zhk (p q : Pt) : zbT (zbZ p q) = (!decide (p.1 = q.1) && decide (p.2.1 = q.2.1) && decide (p.2.2 = q.2.2)) := by
 rw [Bool.eq_iff_iff];simp only [zbT, zbZ, zmz, zmA, zm, zzJ, Bool.not_eq_true', zzI];obtain ⟨p1, p2, p3⟩ := p;obtain ⟨q1, q2, q3⟩ := q;simp only [Int.min_def, Int.max_def]
 repeat' split
 all_goals
  simp only [zzJ];omega
theorem zco : ∀ l : List Pt, (zy l).length = l.length - 1 := by
 intro l
 induction l with
 | nil => rfl
 | cons p r ih =>
  cases r with
  | nil => rfl
  | cons q r => rw [zy, zac, ih]; simp
theorem zeO : ∀ (l : List Pt) (k : Nat) (p q : Pt), l[k]? = some p → l[k + 1]? = some q → (zy l)[k]? = some (zbZ p q) := by
 intro l
 induction l with
 | nil => intro k p q h _; simp at h
 | cons x r ih =>
  intro k p q hp hq;cases r with
  | nil => simp at hq
  | cons y r =>
   cases k with
   | zero =>
    simp only [List.getElem?_cons_zero, Option.some.injEq, List.getElem?_cons_succ] at hp hq;subst hp; subst hq
    rfl
   | succ k =>
    rw [zy, List.getElem?_cons_succ];exact ih k p q hp hq
theorem ziJ : ∀ (l : List Pt) (o : Pt) (k : Nat) (p m : Pt), (zdn o l)[k]? = some p → l[k]? = some m → (zdn o l)[k + 1]? = some (zbf p m) := by
 intro l
 induction l with
 | nil => intro o k p m _ h; simp at h
 | cons x r ih =>
  intro o k p m hp hm;cases k with
  | zero =>
   simp only [zdn, List.getElem?_cons_zero, Option.some.injEq] at hp;simp only [List.getElem?_cons_zero, Option.some.injEq] at hm;subst hp; subst hm;rw [zdn, List.getElem?_cons_succ];cases r <;> rfl
  | succ k =>
   rw [zdn, List.getElem?_cons_succ] at hp ⊢;exact ih _ k p m hp (by simpa using hm)
theorem zen (x : BarD) : (zai x)[0]? = some (0, 0, 0) := by
 rw [zai];cases zfi x <;> rfl
theorem znq {x : BarD} {k : Nat} {o : Pt} {p : Int × Int} (ho : (zai x)[k]? = some o) (hp : (zbb x.code)[k]? = some p) : (zai x)[k + 1]? = some (zbf o (zh8 p.2 (zev x p))) :=
 ziJ _ _ k o _ ho (by rw [zfi, zaH, hp]; rfl)
theorem zqA (code : Int) : ∀ p ∈ zbb code, p.2 = 120 ∨ p.2 = 88 ∨ p.2 = 121 ∨ p.2 = 89 ∨ p.2 = 122 := by
 have h : (zbb code).all (fun p => decide (p.2 = 120 ∨ p.2 = 88 ∨ p.2 = 121 ∨ p.2 = 89 ∨ p.2 = 122)) = true := by
  unfold zbb
  (repeat' split) <;> rfl
 intro p hp;have := List.all_eq_true.1 h p hp
 simpa using this
abbrev zdU := BarD × Option Addr × Nat
def zdg (p : zdU) : List Value := [.string p.1.mark, .int .i64 p.1.size, .int .i64 p.1.count, .int .i64 p.1.code, .slice p.2.1 p.1.dims.length p.2.2]
theorem zfq (p : zdU) : (zdg p).length = 5 := rfl
theorem znV (p : zdU) : ∀ u ∈ zdg p, u.oneCell' = true := by
 intro u hu;simp only [zdg, List.mem_cons, List.not_mem_nil, or_false] at hu;rcases hu with rfl | rfl | rfl | rfl | rfl <;> rfl
abbrev zdT := DemD × Option Addr × Nat
def zdf (p : zdT) : List Value := [.string p.1.name] ++ zdm p.1.zone ++ [.slice p.2.1 p.1.steps.length p.2.2]
theorem zfp (p : zdT) : (zdf p).length = 8 := rfl
theorem znU (p : zdT) : ∀ u ∈ zdf p, u.oneCell' = true := by
 intro u hu;simp only [zdf, zcQ, zP] at hu;rcases hu with (rfl | hu) | rfl
 ·rfl
 ·exact zfI _ u hu
 ·rfl
theorem zjW (p : RunD) : ∀ u ∈ zcw p, u.oneCell' = true := by
 intro u hu;simp only [zcw, List.mem_cons, List.not_mem_nil, or_false] at hu;rcases hu with rfl | rfl | rfl | rfl | rfl | rfl | rfl | rfl | rfl | rfl <;> rfl
theorem ziW (p : JoinD) : ∀ u ∈ zcs p, u.oneCell' = true := by
 intro u hu;simp only [zcs, List.mem_cons, List.not_mem_nil, or_false] at hu;rcases hu with rfl | rfl <;> rfl
theorem zda (p : Int × Int) : ∀ u ∈ zaF p, u.oneCell' = true := by
 intro u hu;simp only [zaF, List.mem_cons, List.not_mem_nil, or_false] at hu;rcases hu with rfl | rfl <;> rfl
theorem zs1 {α β : Type} (f : Nat → β) : ∀ (l : List α) (k : Nat), ((l.zipIdx k).map fun p => (p.1, f p.2)).map (·.1) = l := by
 intro l
 induction l with
 | nil => intro k; rfl
 | cons a l ih => intro k; rw [List.zipIdx_cons, List.map_cons, List.map_cons, ih]
theorem zrJ {α β : Type} (f : Nat → β) {l : List α} {k : Nat} {p : α × β} (h : (l.zipIdx.map fun p => (p.1, f p.2))[k]? = some p) : l[k]? = some p.1 ∧ p.2 = f k := by
 rw [zaH, List.getElem?_zipIdx] at h;cases hx : l[k]? with
 | none => rw [hx] at h; cases h
 | some a =>
  rw [hx] at h;simp at h;rw [← h];exact ⟨rfl, rfl⟩
theorem zjG {α β : Type} {enc : α × β → List Value} {S : World → Nat → α × β → Prop} {w : World} {B size : Nat} {R : World → Nat → List Value → α → Prop} {A : Option Addr} {l : List α}
  (hR : ∀ vs x, R w B vs x → ∃ y, vs = enc (x, y) ∧ S w B (x, y)) [Nonempty β] (h : SlOf w B size R A l) :
  ∃ L : List (α × β), L.map (·.1) = l ∧ SlOf w B size (Flat enc) A L ∧ ∀ p ∈ L, S w B p := by
 by_cases h0 : 0 < l.length
 ·obtain ⟨b, off, hA, hb, hc⟩ := h h0;have key : ∀ k, ∃ y : β, ∀ x, l[k]? = some x → (enc (x, y)).length = size ∧ S w B (x, y) ∧ ∀ j v, (enc (x, y))[j]? = some v → w.cell? ⟨b, off + k * size + j, none⟩ = some v := by
   intro k;cases hx : l[k]? with
   | none => exact ⟨Classical.ofNonempty, fun x hq => by cases hq⟩
   | some x =>
    obtain ⟨vs, hs, hr, hv⟩ := hc k x hx;obtain ⟨y, rfl, hy⟩ := hR vs x hr;exact ⟨y, fun x2 hq => by
     injection hq with hq
     subst hq;exact ⟨hs, hy, hv⟩⟩
  let f := fun k => Classical.choose (key k)
  have hf := fun k => Classical.choose_spec (key k);refine ⟨l.zipIdx.map fun p => (p.1, f p.2), zs1 f l 0, fun _ => ⟨b, off, hA, hb, fun k p hp => ?_⟩, fun p hp => ?_⟩
  ·obtain ⟨h1, h2⟩ := zrJ f hp;obtain ⟨g1, g2, g3⟩ := hf k p.1 h1;have hpe : p = (p.1, Classical.choose (key k)) := by rw [show Classical.choose (key k) = f k from rfl, ← h2]
   rw [hpe];exact ⟨_, g1, rfl, g3⟩
  ·obtain ⟨k, hk, hkp⟩ := List.getElem_of_mem hp;obtain ⟨h1, h2⟩ := zrJ f (show _ = some p by rw [zi hk, hkp]);have hpe : p = (p.1, Classical.choose (key k)) := by rw [show Classical.choose (key k) = f k from rfl, ← h2]
   rw [hpe];exact (hf k p.1 h1).2.1
 ·have hl : l = [] := List.eq_nil_of_length_eq_zero (by omega);subst hl;exact ⟨[], rfl, SlOf.nil _ _ _ _ _, fun p hp => by cases hp⟩
theorem zla {α β : Type} {enc : α × β → List Value} {S : World → Nat → α × β → Prop} {w : World} {B size : Nat} {R : World → Nat → List Value → α → Prop} {A : Option Addr} {L : List (α × β)}
  (hR : ∀ p, S w B p → R w B (enc p) p.1) (h : SlOf w B size (Flat enc) A L) (hS : ∀ p ∈ L, S w B p) : SlOf w B size R A (L.map (·.1)) := by
 intro hl;rw [zw] at hl;obtain ⟨b, off, hA, hb, hc⟩ := h hl;refine ⟨b, off, hA, hb, fun k x hx => ?_⟩;rw [zaH] at hx;cases hp : L[k]? with
 | none => rw [hp] at hx; cases hx
 | some p =>
  rw [hp] at hx;simp at hx;subst hx;obtain ⟨vs, hs, hr, hv⟩ := hc k p hp;have hr' : vs = enc p := hr;subst hr';exact ⟨_, hs, hR p (hS p (zv hp)), hv⟩
theorem zpz {w : World} {B : Nat} {A : Option Addr} {l : List BarD} (h : BarsAt w B A l) : ∃ L : List zdU, L.map (·.1) = l ∧ SlOf w B 5 (Flat zdg) A L ∧ ∀ p ∈ L, Ints w B p.2.1 p.1.dims :=
 zjG (β := Option Addr × Nat) (enc := zdg) (S := fun w B p => Ints w B p.2.1 p.1.dims) (fun _ _ ⟨A', c', hv, hi⟩ => ⟨(A', c'), hv, hi⟩) h
theorem zrx {w : World} {B : Nat} {A : Option Addr} {L : List zdU} (h : SlOf w B 5 (Flat zdg) A L) (hL : ∀ p ∈ L, Ints w B p.2.1 p.1.dims) : BarsAt w B A (L.map (·.1)) :=
 zla (β := Option Addr × Nat) (enc := zdg) (S := fun w B p => Ints w B p.2.1 p.1.dims) (fun p hp => ⟨p.2.1, p.2.2, rfl, hp⟩) h hL
theorem zpo {w : World} {B : Nat} {A : Option Addr} {l : List DemD} (h : DemsAt w B A l) : ∃ L : List zdT, L.map (·.1) = l ∧ SlOf w B 8 (Flat zdf) A L ∧ ∀ p ∈ L, StpsAt w B p.2.1 p.1.steps :=
 zjG (β := Option Addr × Nat) (enc := zdf) (S := fun w B p => StpsAt w B p.2.1 p.1.steps) (fun _ _ ⟨A', c', hv, hi⟩ => ⟨(A', c'), hv, hi⟩) h
theorem zrg {w : World} {B : Nat} {A : Option Addr} {L : List zdT} (h : SlOf w B 8 (Flat zdf) A L) (hL : ∀ p ∈ L, StpsAt w B p.2.1 p.1.steps) : DemsAt w B A (L.map (·.1)) :=
 zla (β := Option Addr × Nat) (enc := zdf) (S := fun w B p => StpsAt w B p.2.1 p.1.steps) (fun p hp => ⟨p.2.1, p.2.2, rfl, hp⟩) h hL
theorem zj4 (x : BarD) (A : Option Addr) (c : Nat) (w : World) {B : Nat} (hA : Ints w B A x.dims) (hB : B ≤ w.heap.size) (hm : x.mark.size ≤ maxLen) (hd : x.dims.length ≤ 60000) (hok : zcr x = true) :
  Calls Tryz.prog 51 #[.agg #[.string x.mark, .int .i64 x.size, .int .i64 x.count, .int .i64 x.code, .slice A x.dims.length c]] w fun e w' =>
   ∃ A' c', e = .returned (.tuple #[.slice A' (zaq x).length c', .int .i64 0]) ∧ Ints w' w'.heap.size A' (zaq x) ∧ Below w.heap.size w w' := by
 have Hg := zf (zdb hok);have Hok := zf hok;have hle := zf2 x.code;have hbo := fun o => zf ((Below.refl B w).alloc hB o);clear hok;go_enter Tryz.func51, Tryz.ntmps51;go_wp2_with fail;refine (zeS x A c _ (hA.carry (hbo _).out (ze _)) (zM hB _) hm hd).mono ?_;rintro e w1 ⟨rfl, hb1⟩;rw [Hok.out];have hw1 := zf (zg (zk w _) hb1 (ze _));have b0 := (Blk.new w 50 #[.string x.mark, .int .i64 x.size, .int .i64 x.count, .int .i64 x.code, .slice A x.dims.length c]).keep hb1;have c3 := b0.cell 3;simp at c3;have hA1 := zf (hA.carry ((hbo _).out.trans (hb1.mono (zM hB _))) (ze _));clear hA hb1 hbo;have B0 := zf b0;clear b0;go_wp2_with fail;refine (zmP _ _).mono ?_;rintro e w2 ⟨L, rfl, hL, hb2⟩;have hw2 := zf (zg hw1.out hb2 (ze _));have B2 := zf (B0.out.keep hb2);have hA2 := zf (hA1.out.carry (hb2.mono (zh hB hw1.out.size)) (ze _));have hB2 := zh hB hw2.out.size;have HL := zf hL;clear hL hb2 B0 hA1 hw1 c3;go_wp2;go_loopw [4, 14] (fun v i wr => ∃ k : Nat, k ≤ zaM x.code ∧ i = .int .i64 k ∧ (∃ acc, Row wr w2.heap.size 3 1 zaP v acc ∧ Hid (acc = ((zbb x.code).take k).map (zev x))) ∧ Below w2.heap.size w2 wr) (fun _ i _ => zaM x.code - (intOf i).toNat)
 case atStart => exact ⟨0, zu _, rfl, ⟨[], Row.nil _ _ _ _ _, zf rfl⟩, Below.refl _ _⟩
 case round =>
  obtain ⟨k, hk, rfl, ⟨acc, hrow, hacc⟩, hbr⟩ := hrel;obtain ⟨A0, c0, rfl⟩ := hrow.val;by_cases hlt : k < zaM x.code
  ·obtain ⟨b, off, d, y, rfl, hbl, hx, hc0, hc1⟩ := HL.out.get (k := k) hlt;obtain ⟨hd0, hd1, hd2, hd3, hd4⟩ := Hg.out.leg _ (zv hx);obtain ⟨b', off', z, rfl, hbl', hz, hcz⟩ := Ints.get (k := d.toNat) (hA2.out.carry (hbr.mono hB2) (ze _)) hd1;rw [← hbr.cell (by exact hbl)] at hc0 hc1;have hz' : z = zev x (d, y) := by simp only [hd2] at hz; injection hz with hz; exact hz.symm
   have Hx := zf hx;have Hz := zf hz';have c4 := (B2.out.below hbr (B2.out.lt)).cell 4;simp at c4;have Hrow := zf hrow;simp only at hd0 hd1;have l0 : w.heap.size < wr.heap.size := zt B2.out.lt hbr.size;have l1 : b' < wr.heap.size := zt hbl' (zh hB2 hbr.size);clear hx hz hz' hbl hbl' hd2 hd3 hd4 hrow HL hA2;have hal : acc.length ≤ 1000000 := by rw [hacc.out]; simp; omega
   have hbs := fun o o' => zf (zM (zM hbr.size o) o');go_wp2_with (at_builtin; refine zO rfl (.tmp 18) (.tmp 25) 48 rfl w2.heap.size 3 (.int .i64 0) 1 8 zaP Tryz.underlying48 (by kernel_rfl) rfl (by omega) zbq zd4 _ acc z rfl ((Hrow.out.alloc _).alloc _) _ rfl (Blk.new1 wr _ _ _) hal (by omega) (hbs _ _).out ?_; intro A1 c1 w3 hrow3 hb3 _);go_roundw
   case rel => exact ⟨k + 1, by omega, by go_num, ⟨acc ++ [z], hrow3, zf (by rw [hacc.out, zQ Hx.out, zV, Hz.out]; rfl)⟩, (((hbr.alloc hbr.size _).alloc (zM hbr.size _) _)).trans hb3⟩
   case measure => simp [intOf]; omega
  ·obtain rfl : k = zaM x.code := by omega
   have hacc' : acc = zaq x := by rw [hacc.out, List.take_of_length_le (by simp [zaM])]; rfl
   subst hacc';have Hrow := zf hrow;clear hrow;go_wp2;go_ret2;exact ⟨_, _, rfl, Row.read Hrow.out zbq (by omega), zg hw2.out hbr (ze _)⟩
def zeu : Int → List Int → Bool
 | s, [] => decide (s ≤ 262144)
 | s, d :: r => decide (1 ≤ d) && decide (d ≤ 1048576) && zeu (s + d) r
theorem zoP : ∀ (l : List Int) (s : Int), 262144 < s → zeu s l = false := by
 intro l
 induction l with
 | nil => intro s h; simp [zeu]; omega
 | cons d r ih =>
  intro s h;rw [zeu];by_cases hd : 1 ≤ d
  ·rw [ih (s + d) (by omega)]; simp
  ·simp [hd]
theorem znt : ∀ (l : List Int) (s : Int), s ≤ 262144 → 0 ≤ s → zeu s l = zfb (262144 - s) l := by
 intro l
 induction l with
 | nil => intro s h _; simp [zeu, zfb, h]
 | cons d r ih =>
  intro s h h0;rw [zeu, zfb];by_cases hd : 1 ≤ d
  ·by_cases hr : d ≤ 262144 - s
   ·rw [ih (s + d) (by omega) (by omega), show 262144 - (s + d) = 262144 - s - d by omega];simp [hd, hr]; omega
   ·rw [zoP r (s + d) (by omega)]; simp [hr]
  ·simp [hd]
theorem zi1 (x : BarD) (A : Option Addr) (c : Nat) (w : World) {B : Nat} (hA : Ints w B A x.dims) (hB : B ≤ w.heap.size) (hm : x.mark.size ≤ maxLen) (hd : x.dims.length ≤ 60000) :
    Calls Tryz.prog 141 #[.agg #[.string x.mark, .int .i64 x.size, .int .i64 x.count, .int .i64 x.code, .slice A x.dims.length c]] w fun e w' => e = .returned (.bool (zcr x)) ∧ Below w.heap.size w w' := by
  rw [zfK];obtain ⟨mark, size, count, code, dims⟩ := x;simp only at hA hm hd ⊢;have b0 := Blk.new w 50 #[.string mark, .int .i64 size, .int .i64 count, .int .i64 code, .slice A dims.length c];have c0 := cell_regrown ((b0.cell 0).trans rfl);have c1 := cell_regrown ((b0.cell 1).trans rfl);have c2 := cell_regrown ((b0.cell 2).trans rfl);have c3 := cell_regrown ((b0.cell 3).trans rfl);have c4 := cell_regrown ((b0.cell 4).trans rfl);have cN := fun W => zfB mark W hm;have cS := fun W => zni size W;have hf : zgv ⟨mark, size, count, code, dims⟩ = (decide (zed code = 0) && zb8 mark && za1 size && decide (1 ≤ count) && decide (count ≤ 1000) && decide ((dims.length : Int) = zcq code)) := rfl;rw [hf];clear b0 hf;have CS := zf cS;cases hN : zb8 mark
  · rw [hN] at cN
    have CN := zf cN;rw [show (decide (zed code = 0) && false && za1 size && decide (1 ≤ count) && decide (count ≤ 1000) && decide ((dims.length : Int) = zcq code) && zfb 262144 dims) = false by simp];clear cN cS hN hA;go_enter Tryz.func141, Tryz.ntmps141;go_wp2_with fail;refine wp_region_quiet_below (by kernel_rfl) (by kernel_rfl) ?_
    repeat (go_big_quiet_step (first
      | (go_at_call 85; exact zW (CN.out _))
      | (go_at_call 203; exact Calls.regrown_of (CS.out _))
      | (go_at_call 204; exact zW (zdc _ _))))
    refine wpQuiet_nil ?_;intro w2 hw';have hbq := zf (show Below _ _ w2 by obtain ⟨p, rfl⟩ := hw'; exact below_regrown _ _ _);clear hw';go_wp2;go_ret;exact ⟨rfl, zg (zk _ _) hbq.out (ze _)⟩
  rw [hN] at cN;have CN := zf cN;clear cN hN;cases hS : za1 size
  · rw [hS] at cS
    have CS := zf cS;rw [show (decide (zed code = 0) && true && false && decide (1 ≤ count) && decide (count ≤ 1000) && decide ((dims.length : Int) = zcq code) && zfb 262144 dims) = false by simp];clear cS hS hA;go_enter Tryz.func141, Tryz.ntmps141;go_wp2_with fail;refine wp_region_quiet_below (by kernel_rfl) (by kernel_rfl) ?_
    repeat (go_big_quiet_step (first
      | (go_at_call 85; exact zW (CN.out _))
      | (go_at_call 203; exact Calls.regrown_of (CS.out _))
      | (go_at_call 204; exact zW (zdc _ _))))
    refine wpQuiet_nil ?_;intro w2 hw';have hbq := zf (show Below _ _ w2 by obtain ⟨p, rfl⟩ := hw'; exact below_regrown _ _ _);clear hw';go_wp2;go_ret;exact ⟨rfl, zg (zk _ _) hbq.out (ze _)⟩
  rw [hS] at cS;have CS := zf cS;clear cS hS;by_cases h3 : count < 1
  · rw [show (decide (zed code = 0) && true && true && decide (1 ≤ count) && decide (count ≤ 1000) && decide ((dims.length : Int) = zcq code) && zfb 262144 dims) = false by rw [show decide (1 ≤ count) = false by simp; omega]; simp]
    have hd3 : decide (count < 1) = true := by simpa using h3
    clear hA;go_enter Tryz.func141, Tryz.ntmps141;go_wp2_with fail;refine wp_region_quiet_below (by kernel_rfl) (by kernel_rfl) ?_
    repeat (go_big_quiet_step (first
      | (go_at_call 85; exact zW (CN.out _))
      | (go_at_call 203; exact Calls.regrown_of (CS.out _))
      | (go_at_call 204; exact zW (zdc _ _))))
    refine wpQuiet_nil ?_;intro w2 hw';have hbq := zf (show Below _ _ w2 by obtain ⟨p, rfl⟩ := hw'; exact below_regrown _ _ _);clear hw';go_wp2;go_ret;exact ⟨rfl, zg (zk _ _) hbq.out (ze _)⟩
  have h3' : 1 ≤ count := by omega
  have hd3 : decide (count < 1) = false := by simp; omega
  clear h3;by_cases h4 : 1000 < count
  · rw [show (decide (zed code = 0) && true && true && decide (1 ≤ count) && decide (count ≤ 1000) && decide ((dims.length : Int) = zcq code) && zfb 262144 dims) = false by rw [show decide (count ≤ 1000) = false by simp; omega]; simp]
    have hd4 : decide (1000 < count) = true := by simpa using h4
    clear hA;go_enter Tryz.func141, Tryz.ntmps141;go_wp2_with fail;refine wp_region_quiet_below (by kernel_rfl) (by kernel_rfl) ?_
    repeat (go_big_quiet_step (first
      | (go_at_call 85; exact zW (CN.out _))
      | (go_at_call 203; exact Calls.regrown_of (CS.out _))
      | (go_at_call 204; exact zW (zdc _ _))))
    refine wpQuiet_nil ?_;intro w2 hw';have hbq := zf (show Below _ _ w2 by obtain ⟨p, rfl⟩ := hw'; exact below_regrown _ _ _);clear hw';go_wp2;go_ret;exact ⟨rfl, zg (zk _ _) hbq.out (ze _)⟩
  have h4' : count ≤ 1000 := by omega
  have hd4 : decide (1000 < count) = false := by simp; omega
  clear h4;by_cases h5 : zcq code = 0
  · rw [show (decide (zed code = 0) && true && true && decide (1 ≤ count) && decide (count ≤ 1000) && decide ((dims.length : Int) = zcq code) && zfb 262144 dims) = false by simp [zed, h5]]
    have h5' : (zcq code == 0) = true := by simpa using h5
    clear hA h5;go_enter Tryz.func141, Tryz.ntmps141;go_wp2_with fail;refine wp_region_quiet_below (by kernel_rfl) (by kernel_rfl) ?_
    repeat (go_big_quiet_step (first
      | (go_at_call 85; exact zW (CN.out _))
      | (go_at_call 203; exact Calls.regrown_of (CS.out _))
      | (go_at_call 204; exact zW (zdc _ _))))
    refine wpQuiet_nil ?_;intro w2 hw';have hbq := zf (show Below _ _ w2 by obtain ⟨p, rfl⟩ := hw'; exact below_regrown _ _ _);clear hw';go_wp2;go_ret;exact ⟨rfl, zg (zk _ _) hbq.out (ze _)⟩
  have h5' : (zcq code == 0) = false := by simpa using h5
  have h5e : zed code = 0 := by simp [zed, h5]
  by_cases h6 : (dims.length : Int) = zcq code
  · have h6' : ((dims.length : Int) != zcq code) = false := by simp [h6]
    rw [show (decide (zed code = 0) && true && true && decide (1 ≤ count) && decide (count ≤ 1000) && decide ((dims.length : Int) = zcq code) && zfb 262144 dims) = zfb 262144 dims by simp [h5e, h3', h4', h6]];have hlen : dims.length ≤ 5 := by
      have : zcq code ≤ 5 := by
        rw [← zjJ]; unfold zi9; (repeat' split) <;> omega
      omega
    clear h5 h5e h6;have hA' := zf hA;clear hA;rw [show zfb 262144 dims = zeu 0 dims by rw [znt _ _ (by omega) (by omega)]; rfl];go_enter Tryz.func141, Tryz.ntmps141;go_wp2_with fail;refine wp_region_quiet_below (by kernel_rfl) (by kernel_rfl) ?_
    repeat (go_big_quiet_step (first
      | (go_at_call 85; exact zW (CN.out _))
      | (go_at_call 203; exact Calls.regrown_of (CS.out _))
      | (go_at_call 204; exact zW (zdc _ _))))
    refine wpQuiet_nil ?_;intro w2 hw';have hbq := zf (show Below _ _ w2 by obtain ⟨p, rfl⟩ := hw'; exact below_regrown _ _ _);clear hw';have hbw := zf (zg (zk w _) hbq.out (ze _));have hA2 := zf (hA'.out.carry (hbw.out.mono hB) (ze _));have d4 := ((Blk.new w 50 #[.string mark, .int .i64 size, .int .i64 count, .int .i64 code, .slice A dims.length c]).keep hbq.out).cell 4;simp at d4;clear c0 c1 c2 c3 c4 hA' hbq;go_wp2;go_loop [3, 4] (fun t i => ∃ k : Nat, k ≤ dims.length ∧ i = .int .i64 k ∧ ∃ s : Int, 0 ≤ s ∧ s ≤ 1048576 * k ∧ t = .int .i64 s ∧ Hid (zeu 0 dims = zeu s (dims.drop k))) (fun _ i => dims.length - (intOf i).toNat)
    case atStart => exact ⟨0, zu _, rfl, 0, by omega, by omega, rfl, zf rfl⟩
    case round =>
      obtain ⟨k, hk, rfl, s, hs0, hs1, rfl, hf⟩ := hrel;by_cases hlt : k < dims.length
      · obtain ⟨b, off, y, rfl, hbl, hy, hc⟩ := hA2.out.get (k := k) hlt
        have Hf := zf (hf.out.trans (by rw [zaX hy, zeu]));clear hy hbl hA2 hf;go_wp2_with fail
        all_goals first
          | (go_ret; exact ⟨zo (by rw [Hf.out]; simp_all <;> omega), hbw.out⟩)
          | (go_round
             case rel => exact ⟨k + 1, by omega, by go_num, s + y, by omega, by omega, rfl, zf (by rw [Hf.out]; simp_all)⟩
             case measure => simp [intOf]; omega)
      · obtain rfl : k = dims.length := by omega
        go_wp2;go_ret;exact ⟨zo (by rw [hf.out]; simp [zeu]), hbw.out⟩
  · have h6' : ((dims.length : Int) != zcq code) = true := by simp [h6]
    rw [show (decide (zed code = 0) && true && true && decide (1 ≤ count) && decide (count ≤ 1000) && decide ((dims.length : Int) = zcq code) && zfb 262144 dims) = false by simp [h6]];clear hA h5 h5e h6;go_enter Tryz.func141, Tryz.ntmps141;go_wp2_with fail;refine wp_region_quiet_below (by kernel_rfl) (by kernel_rfl) ?_
    repeat (go_big_quiet_step (first
      | (go_at_call 85; exact zW (CN.out _))
      | (go_at_call 203; exact Calls.regrown_of (CS.out _))
      | (go_at_call 204; exact zW (zdc _ _))))
    refine wpQuiet_nil ?_;intro w2 hw';have hbq := zf (show Below _ _ w2 by obtain ⟨p, rfl⟩ := hw'; exact below_regrown _ _ _);clear hw';go_wp2;go_ret;exact ⟨rfl, zg (zk _ _) hbq.out (ze _)⟩
theorem zgF (A : Option Addr) (l : List BarD) (n c : Nat) (m : ByteArray) (w : World) {B : Nat} (h : BarsAt w B A l) (hn : n = l.length) (hm : n ≤ 60000) :
  Calls Tryz.prog 142 #[.slice A n c, .string m] w fun e w' => e = .returned (.int .i64 (idx (zaJ m) l)) ∧ w = w' := by
 have hn' := zf hn;have Hs := zf h;clear hn h;go_enter Tryz.func142, Tryz.ntmps142;go_wp2;go_loop [5] (fun i => ∃ k : Nat, k ≤ n ∧ i = .int .i64 k ∧ NoneTo (zaJ m) l k) (fun i => n - (intOf i).toNat)
 case atStart => exact ⟨0, zu _, rfl, NoneTo.zero _ _⟩
 case round =>
  obtain ⟨k, hk, rfl, hw⟩ := hrel;by_cases hlt : k < n
  ·obtain ⟨b, off, x, A', c', hA, hbl, hx, hi, h0, h1, h2, h3, h4⟩ := BarsAt.get (k := k) Hs.out (by rw [← hn'.out]; exact hlt);subst hA;have Hx := zf hx;clear hx hi hbl h1 h2 h3 h4;cases hp : zaJ m x
   ·have Hp := zf hp;have hq : (x.mark.toList == m.toList) = false := hp;clear hp;go_wp2_with fail;go_round
    case rel => exact ⟨k + 1, by omega, by go_num, hw.succ Hx.out Hp.out⟩
    case measure => simp [intOf]; omega
   ·have Hp := zf hp;have hq : (x.mark.toList == m.toList) = true := hp;clear hp;go_wp2;go_ret;exact ⟨zam (hw.hit Hx.out Hp.out).symm, rfl⟩
  ·obtain rfl : k = n := by omega
   go_wp2;go_ret;exact ⟨zam (NoneTo.miss (by rw [← hn'.out]; exact hw)).symm, rfl⟩
theorem zh4 (A : Option Addr) (l : List BarD) (n c : Nat) (w : World) {B : Nat} (h : BarsAt w B A l) (hB : B ≤ w.heap.size) (hn : n = l.length) (hg : zer l) (hm : n ≤ 60000) :
  Calls Tryz.prog 87 #[.slice A n c] w fun e w' => e = .returned (.bool (zbz l)) ∧ Below w.heap.size w w' := by
 have hn' := zf hn;have Hg := zf hg;by_cases h60 : n ≤ 60
 ·have hs : zbz l = zbP l 0 l := by simp [zbz, ← hn, h60]
  rw [hs];clear hs hn hg hm;go_enter Tryz.func87, Tryz.ntmps87;go_wp2;go_loopw [3] (fun i wr => ∃ k : Nat, k ≤ n ∧ i = .int .i64 k ∧ Hid (zbP l 0 l = zbP l k (l.drop k)) ∧ Below w.heap.size w wr) (fun i _ => n - (intOf i).toNat)
  case atStart => exact ⟨0, zu _, rfl, zf rfl, Below.refl _ _⟩
  case round =>
   obtain ⟨k, hk, rfl, hw, hb⟩ := hrel;by_cases hlt : k < n
   ·have HR := zf (h.carry (hb.mono hB) (ze _));have hBr := zh hB hb.size;obtain ⟨b, off, x, A', c', hA, hbl, hx, hi, h0, h1, h2, h3, h4⟩ := BarsAt.get (k := k) HR.out (by rw [← hn'.out]; exact hlt);have HA := zf hA;subst hA;have Hx := zf hx;have hgx := Hg.out x (zv hx);have Hw := zf (hw.out.trans (by rw [zaX hx, zbP]));have Hi := zf hi;clear hx hi h hw;go_wp2_with fail;refine (zi1 x A' c' _ Hi.out hBr hgx.1 hgx.2).mono ?_;rintro e w1 ⟨rfl, hb1⟩;have c0 := (hb1.cell (p := ⟨b, off + k * 5, none⟩) (zt hbl hBr)).trans h0;have hbw1 := zf (zg hb hb1 (ze _));have hB1 := zf (HR.out.carry (hb1.mono hBr) (ze _));clear h0 h1 h2 h3 h4 hb1 HR Hi;cases hp : zcr x
    ·have Hp := zf hp;clear hp;go_wp2;go_ret;exact ⟨zo (by rw [Hw.out, Hp.out]; rfl), hbw1.out⟩
    ·have Hp := zf hp;clear hp;go_wp2_with fail;refine (zgF _ l n c x.mark _ hB1.out hn'.out (by omega)).mono ?_;rintro e w2 ⟨rfl, rfl⟩;clear c0;cases hq : decide (idx (zaJ x.mark) l = k)
     ·have Hq := zf hq;have hq' : (idx (zaJ x.mark) l != (k : Int)) = true := by simpa using hq
      clear hq;go_wp2;go_ret;exact ⟨zo (by rw [Hw.out, Hp.out, Hq.out]; rfl), hbw1.out⟩
     ·have Hq := zf hq;have hq' : (idx (zaJ x.mark) l != (k : Int)) = false := by simpa using hq
      clear hq;go_wp2;go_roundw
      case rel => exact ⟨k + 1, by omega, by go_num, zf (by rw [Hw.out, Hp.out, Hq.out]; rfl), hbw1.out⟩
      case measure => simp [intOf]; omega
   ·obtain rfl : k = n := by omega
    go_wp2;go_ret;exact ⟨zo (by rw [hw.out, List.drop_of_length_le (by rw [← hn'.out]; exact ze _)]; rfl), hb⟩
 ·have hs : zbz l = false := by simp [zbz, ← hn, h60]
  rw [hs];clear hs hn hg;go_enter Tryz.func87, Tryz.ntmps87;go_wp2;go_ret;exact ⟨rfl, Below.refl _ _⟩
theorem zbg {w : World} {B : Nat} {b off k : Nat} {l : List Int} {y : Int} (h : Ints w B (some ⟨b, off, none⟩) l) (hy : l[k]? = some y) : w.cell? ⟨b, off + k, none⟩ = some (.int .i64 y) := by
 obtain ⟨b', off', z, hA, _, hz, hc⟩ := h.get (k := k) (zaa hy);injection hA with hA
 injection hA with h1 h2
 subst h1; subst h2;rw [hy] at hz; injection hz with hz; rw [hz]; exact hc
abbrev za9 (w : World) (d : Nat) : World := { w with drawn := d }
theorem zsf {w : World} {o : Obj} {e : TypeId} {cs : Array Value} {l : List (Int × Int × Int)} {B : Nat} (hcs : cs.toList = l.flatMap zbF) (hB : w.heap.size + 1 < B) :
  PtsAt ((w.alloc o).alloc (.cells cs e)) B (some ⟨w.heap.size + 1, 0, none⟩) l := by
 have h := SlOf.lit zbc (w.alloc o) e cs l hcs (B := B) (by simpa using hB)
 simpa using h
theorem zd0 {w : World} {e : TypeId} {cs : Array Value} {l : List (Int × Int × Int)} (hcs : cs.toList = l.flatMap zbF) :
  PtsAt ((w.alloc (.cells cs e)).drew) (w.alloc (.cells cs e)).drew.heap.size (some ⟨w.heap.size, 0, none⟩) l := by
 have h := SlOf.lit (B := w.heap.size + 1) zbc w e cs l hcs (by simp);have h2 := SlOf.carry (Flat.carried _) h (Below.drew (Below.refl (w.heap.size + 1) _)) (ze (w.heap.size + 1))
 simpa [World.drew] using h2
theorem zqp (mark : ByteArray) (size count : Int) (d0 : Int) (A : Option Addr) (c : Nat) (w : World) {B : Nat} (hA : Ints w B A [d0]) (hB : B ≤ w.heap.size) (h0 : 1 ≤ d0 ∧ d0 ≤ 262144) :
  Calls Tryz.prog 154 #[.agg #[.string mark, .int .i64 size, .int .i64 count, .int .i64 0, .slice A 1 c]] w fun e w' =>
   ∃ A', e = .returned (.slice A' 1 1) ∧ PtsAt w' w'.heap.size A' [(d0, 0, 0)] ∧ Below w.heap.size w w' := by
 have hbo := fun o => hA.carry ((Below.refl B w).alloc hB o) (ze _);obtain ⟨b, off, hA', hbl, _⟩ := hA (by simp);subst hA';have c0 := fun o => zbg (k := 0) (hbo o) rfl;simp only [Nat.add_zero] at c0;have hbl' : b < w.heap.size := by omega
 obtain ⟨l0, u0⟩ := h0;clear hA hbo hbl;go_enter Tryz.func154, Tryz.ntmps154;go_wp2;go_ret;refine ⟨_, rfl, ?_, ?_⟩
 ·exact zsf rfl (by simp)
 ·exact zH w _ _
theorem zoK (mark : ByteArray) (size count : Int) (d0 d1 : Int) (A : Option Addr) (c : Nat) (w : World) {B : Nat} (hA : Ints w B A [d0, d1]) (hB : B ≤ w.heap.size) (h0 : 1 ≤ d0 ∧ d0 ≤ 262144) (h1 : 1 ≤ d1 ∧ d1 ≤ 262144) :
  Calls Tryz.prog 154 #[.agg #[.string mark, .int .i64 size, .int .i64 count, .int .i64 11, .slice A 2 c]] w fun e w' =>
   ∃ A', e = .returned (.slice A' 2 2) ∧ PtsAt w' w'.heap.size A' [(d0, 0, 0), (0, d1, 0)] ∧ Below w.heap.size w w' := by
 have hbo := fun o => hA.carry ((Below.refl B w).alloc hB o) (ze _);obtain ⟨b, off, hA', hbl, _⟩ := hA (by simp);subst hA';have hb0 := hbo (.cells #[.string mark, .int .i64 size, .int .i64 count, .int .i64 11, .slice (some ⟨b, off, none⟩) 2 c] 50);have c0 : ∀ d, (za9 (w.alloc (.cells #[.string mark, .int .i64 size, .int .i64 count, .int .i64 11, .slice (some ⟨b, off, none⟩) 2 c] 50)) d).cell? ⟨b, off, none⟩ = some (.int .i64 d0) := fun _ => zbg (k := 0) hb0 rfl;have c1 : ∀ d, (za9 (w.alloc (.cells #[.string mark, .int .i64 size, .int .i64 count, .int .i64 11, .slice (some ⟨b, off, none⟩) 2 c] 50)) d).cell? ⟨b, off + 1, none⟩ = some (.int .i64 d1) := fun _ => zbg (k := 1) hb0 rfl;obtain ⟨l0, u0⟩ := h0;obtain ⟨l1, u1⟩ := h1;have hbl' : b < w.heap.size := by omega
 clear hA hbo hbl hb0;go_enter Tryz.func154, Tryz.ntmps154;go_wp2_with fail;obtain ⟨W, hW⟩ : ∃ W, W = w.alloc (.cells #[.string mark, .int .i64 size, .int .i64 count, .int .i64 11, .slice (some ⟨b, off, none⟩) 2 c] 50) := ⟨_, rfl⟩;rw [← hW];simp only [← hW, za9] at c0 c1;have HW := zf hW;clear hW
 go_still_tail 8, (by kernel_rfl)
 change wpList _ _ _ _ _ (World.drew W);clear c0 c1;go_wp2_with fail;obtain rfl := HW.out;go_ret;refine ⟨_, rfl, ?_, ?_⟩
 ·exact zd0 rfl
 ·exact (zH w _ _).drew
theorem zoJ (mark : ByteArray) (size count : Int) (d0 d1 d2 : Int) (A : Option Addr) (c : Nat) (w : World) {B : Nat} (hA : Ints w B A [d0, d1, d2]) (hB : B ≤ w.heap.size) (h0 : 1 ≤ d0 ∧ d0 ≤ 262144) (h1 : 1 ≤ d1 ∧ d1 ≤ 262144) (h2 : 1 ≤ d2 ∧ d2 ≤ 262144) :
  Calls Tryz.prog 154 #[.agg #[.string mark, .int .i64 size, .int .i64 count, .int .i64 21, .slice A 3 c]] w fun e w' =>
   ∃ A', e = .returned (.slice A' 3 3) ∧ PtsAt w' w'.heap.size A' [(0, -d0, 0), (d1, 0, 0), (0, d2, 0)] ∧ Below w.heap.size w w' := by
 have hbo := fun o => hA.carry ((Below.refl B w).alloc hB o) (ze _);obtain ⟨b, off, hA', hbl, _⟩ := hA (by simp);subst hA';have hb0 := hbo (.cells #[.string mark, .int .i64 size, .int .i64 count, .int .i64 21, .slice (some ⟨b, off, none⟩) 3 c] 50);have c0 : ∀ d, (za9 (w.alloc (.cells #[.string mark, .int .i64 size, .int .i64 count, .int .i64 21, .slice (some ⟨b, off, none⟩) 3 c] 50)) d).cell? ⟨b, off, none⟩ = some (.int .i64 d0) := fun _ => zbg (k := 0) hb0 rfl;have c1 : ∀ d, (za9 (w.alloc (.cells #[.string mark, .int .i64 size, .int .i64 count, .int .i64 21, .slice (some ⟨b, off, none⟩) 3 c] 50)) d).cell? ⟨b, off + 1, none⟩ = some (.int .i64 d1) := fun _ => zbg (k := 1) hb0 rfl;have c2 : ∀ d, (za9 (w.alloc (.cells #[.string mark, .int .i64 size, .int .i64 count, .int .i64 21, .slice (some ⟨b, off, none⟩) 3 c] 50)) d).cell? ⟨b, off + 2, none⟩ = some (.int .i64 d2) := fun _ => zbg (k := 2) hb0 rfl;obtain ⟨l0, u0⟩ := h0;obtain ⟨l1, u1⟩ := h1;obtain ⟨l2, u2⟩ := h2;have hbl' : b < w.heap.size := by omega
 clear hA hbo hbl hb0;go_enter Tryz.func154, Tryz.ntmps154;go_wp2_with fail;obtain ⟨W, hW⟩ : ∃ W, W = w.alloc (.cells #[.string mark, .int .i64 size, .int .i64 count, .int .i64 21, .slice (some ⟨b, off, none⟩) 3 c] 50) := ⟨_, rfl⟩;rw [← hW];simp only [← hW, za9] at c0 c1 c2;have HW := zf hW;clear hW
 go_still_tail 13, (by kernel_rfl)
 change wpList _ _ _ _ _ (World.drew W);clear c0 c1 c2;go_wp2_with fail;obtain rfl := HW.out;go_ret;refine ⟨_, rfl, ?_, ?_⟩
 ·exact zd0 rfl
 ·exact (zH w _ _).drew
theorem zoI (mark : ByteArray) (size count : Int) (d0 d1 d2 : Int) (A : Option Addr) (c : Nat) (w : World) {B : Nat} (hA : Ints w B A [d0, d1, d2]) (hB : B ≤ w.heap.size) (h0 : 1 ≤ d0 ∧ d0 ≤ 262144) (h1 : 1 ≤ d1 ∧ d1 ≤ 262144) (h2 : 1 ≤ d2 ∧ d2 ≤ 262144) :
  Calls Tryz.prog 154 #[.agg #[.string mark, .int .i64 size, .int .i64 count, .int .i64 26, .slice A 3 c]] w fun e w' =>
   ∃ A', e = .returned (.slice A' 3 3) ∧ PtsAt w' w'.heap.size A' [(d0, 0, 0), (0, d1, 0), (d2, 0, 0)] ∧ Below w.heap.size w w' := by
 have hbo := fun o => hA.carry ((Below.refl B w).alloc hB o) (ze _);obtain ⟨b, off, hA', hbl, _⟩ := hA (by simp);subst hA';have hb0 := hbo (.cells #[.string mark, .int .i64 size, .int .i64 count, .int .i64 26, .slice (some ⟨b, off, none⟩) 3 c] 50);have c0 : ∀ d, (za9 (w.alloc (.cells #[.string mark, .int .i64 size, .int .i64 count, .int .i64 26, .slice (some ⟨b, off, none⟩) 3 c] 50)) d).cell? ⟨b, off, none⟩ = some (.int .i64 d0) := fun _ => zbg (k := 0) hb0 rfl;have c1 : ∀ d, (za9 (w.alloc (.cells #[.string mark, .int .i64 size, .int .i64 count, .int .i64 26, .slice (some ⟨b, off, none⟩) 3 c] 50)) d).cell? ⟨b, off + 1, none⟩ = some (.int .i64 d1) := fun _ => zbg (k := 1) hb0 rfl;have c2 : ∀ d, (za9 (w.alloc (.cells #[.string mark, .int .i64 size, .int .i64 count, .int .i64 26, .slice (some ⟨b, off, none⟩) 3 c] 50)) d).cell? ⟨b, off + 2, none⟩ = some (.int .i64 d2) := fun _ => zbg (k := 2) hb0 rfl;obtain ⟨l0, u0⟩ := h0;obtain ⟨l1, u1⟩ := h1;obtain ⟨l2, u2⟩ := h2;have hbl' : b < w.heap.size := by omega
 clear hA hbo hbl hb0;go_enter Tryz.func154, Tryz.ntmps154;go_wp2_with fail;obtain ⟨W, hW⟩ : ∃ W, W = w.alloc (.cells #[.string mark, .int .i64 size, .int .i64 count, .int .i64 26, .slice (some ⟨b, off, none⟩) 3 c] 50) := ⟨_, rfl⟩;rw [← hW];simp only [← hW, za9] at c0 c1 c2;have HW := zf hW;clear hW
 go_still_tail 12, (by kernel_rfl)
 change wpList _ _ _ _ _ (World.drew W);clear c0 c1 c2;go_wp2_with fail;obtain rfl := HW.out;go_ret;refine ⟨_, rfl, ?_, ?_⟩
 ·exact zd0 rfl
 ·exact (zH w _ _).drew
theorem zoH (mark : ByteArray) (size count : Int) (d0 d1 d2 : Int) (A : Option Addr) (c : Nat) (w : World) {B : Nat} (hA : Ints w B A [d0, d1, d2]) (hB : B ≤ w.heap.size) (h0 : 1 ≤ d0 ∧ d0 ≤ 262144) (h1 : 1 ≤ d1 ∧ d1 ≤ 262144) (h2 : 1 ≤ d2 ∧ d2 ≤ 262144) :
  Calls Tryz.prog 154 #[.agg #[.string mark, .int .i64 size, .int .i64 count, .int .i64 31, .slice A 3 c]] w fun e w' =>
   ∃ A', e = .returned (.slice A' 3 3) ∧ PtsAt w' w'.heap.size A' [(d0, 0, 0), (0, d1, 0), (0, 0, d2)] ∧ Below w.heap.size w w' := by
 have hbo := fun o => hA.carry ((Below.refl B w).alloc hB o) (ze _);obtain ⟨b, off, hA', hbl, _⟩ := hA (by simp);subst hA';have hb0 := hbo (.cells #[.string mark, .int .i64 size, .int .i64 count, .int .i64 31, .slice (some ⟨b, off, none⟩) 3 c] 50);have c0 : ∀ d, (za9 (w.alloc (.cells #[.string mark, .int .i64 size, .int .i64 count, .int .i64 31, .slice (some ⟨b, off, none⟩) 3 c] 50)) d).cell? ⟨b, off, none⟩ = some (.int .i64 d0) := fun _ => zbg (k := 0) hb0 rfl;have c1 : ∀ d, (za9 (w.alloc (.cells #[.string mark, .int .i64 size, .int .i64 count, .int .i64 31, .slice (some ⟨b, off, none⟩) 3 c] 50)) d).cell? ⟨b, off + 1, none⟩ = some (.int .i64 d1) := fun _ => zbg (k := 1) hb0 rfl;have c2 : ∀ d, (za9 (w.alloc (.cells #[.string mark, .int .i64 size, .int .i64 count, .int .i64 31, .slice (some ⟨b, off, none⟩) 3 c] 50)) d).cell? ⟨b, off + 2, none⟩ = some (.int .i64 d2) := fun _ => zbg (k := 2) hb0 rfl;obtain ⟨l0, u0⟩ := h0;obtain ⟨l1, u1⟩ := h1;obtain ⟨l2, u2⟩ := h2;have hbl' : b < w.heap.size := by omega
 clear hA hbo hbl hb0;go_enter Tryz.func154, Tryz.ntmps154;go_wp2_with fail;obtain ⟨W, hW⟩ : ∃ W, W = w.alloc (.cells #[.string mark, .int .i64 size, .int .i64 count, .int .i64 31, .slice (some ⟨b, off, none⟩) 3 c] 50) := ⟨_, rfl⟩;rw [← hW];simp only [← hW, za9] at c0 c1 c2;have HW := zf hW;clear hW
 go_still_tail 12, (by kernel_rfl)
 change wpList _ _ _ _ _ (World.drew W);clear c0 c1 c2;go_wp2_with fail;obtain rfl := HW.out;go_ret;refine ⟨_, rfl, ?_, ?_⟩
 ·exact zd0 rfl
 ·exact (zH w _ _).drew
theorem zoG (mark : ByteArray) (size count : Int) (d0 d1 d2 d3 d4 : Int) (A : Option Addr) (c : Nat) (w : World) {B : Nat} (hA : Ints w B A [d0, d1, d2, d3, d4]) (hB : B ≤ w.heap.size) (h0 : 1 ≤ d0 ∧ d0 ≤ 262144) (h1 : 1 ≤ d1 ∧ d1 ≤ 262144) (h2 : 1 ≤ d2 ∧ d2 ≤ 262144) (h3 : 1 ≤ d3 ∧ d3 ≤ 262144) (h4 : 1 ≤ d4 ∧ d4 ≤ 262144) :
  Calls Tryz.prog 154 #[.agg #[.string mark, .int .i64 size, .int .i64 count, .int .i64 41, .slice A 5 c]] w fun e w' =>
   ∃ A', e = .returned (.slice A' 5 5) ∧ PtsAt w' w'.heap.size A' [(d0, 0, 0), (0, d1, 0), (d2, 0, 0), (0, -d3, 0), (d4, 0, 0)] ∧ Below w.heap.size w w' := by
 have hbo := fun o => hA.carry ((Below.refl B w).alloc hB o) (ze _);obtain ⟨b, off, hA', hbl, _⟩ := hA (by simp);subst hA';have hb0 := hbo (.cells #[.string mark, .int .i64 size, .int .i64 count, .int .i64 41, .slice (some ⟨b, off, none⟩) 5 c] 50);have c0 : ∀ d, (za9 (w.alloc (.cells #[.string mark, .int .i64 size, .int .i64 count, .int .i64 41, .slice (some ⟨b, off, none⟩) 5 c] 50)) d).cell? ⟨b, off, none⟩ = some (.int .i64 d0) := fun _ => zbg (k := 0) hb0 rfl;have c1 : ∀ d, (za9 (w.alloc (.cells #[.string mark, .int .i64 size, .int .i64 count, .int .i64 41, .slice (some ⟨b, off, none⟩) 5 c] 50)) d).cell? ⟨b, off + 1, none⟩ = some (.int .i64 d1) := fun _ => zbg (k := 1) hb0 rfl;have c2 : ∀ d, (za9 (w.alloc (.cells #[.string mark, .int .i64 size, .int .i64 count, .int .i64 41, .slice (some ⟨b, off, none⟩) 5 c] 50)) d).cell? ⟨b, off + 2, none⟩ = some (.int .i64 d2) := fun _ => zbg (k := 2) hb0 rfl;have c3 : ∀ d, (za9 (w.alloc (.cells #[.string mark, .int .i64 size, .int .i64 count, .int .i64 41, .slice (some ⟨b, off, none⟩) 5 c] 50)) d).cell? ⟨b, off + 3, none⟩ = some (.int .i64 d3) := fun _ => zbg (k := 3) hb0 rfl;have c4 : ∀ d, (za9 (w.alloc (.cells #[.string mark, .int .i64 size, .int .i64 count, .int .i64 41, .slice (some ⟨b, off, none⟩) 5 c] 50)) d).cell? ⟨b, off + 4, none⟩ = some (.int .i64 d4) := fun _ => zbg (k := 4) hb0 rfl;obtain ⟨l0, u0⟩ := h0;obtain ⟨l1, u1⟩ := h1;obtain ⟨l2, u2⟩ := h2;obtain ⟨l3, u3⟩ := h3;obtain ⟨l4, u4⟩ := h4;have hbl' : b < w.heap.size := by omega
 clear hA hbo hbl hb0;go_enter Tryz.func154, Tryz.ntmps154;go_wp2_with fail;obtain ⟨W, hW⟩ : ∃ W, W = w.alloc (.cells #[.string mark, .int .i64 size, .int .i64 count, .int .i64 41, .slice (some ⟨b, off, none⟩) 5 c] 50) := ⟨_, rfl⟩;rw [← hW];simp only [← hW, za9] at c0 c1 c2 c3 c4;have HW := zf hW;clear hW
 go_still_tail 21, (by kernel_rfl)
 change wpList _ _ _ _ _ (World.drew W);clear c0 c1 c2 c3 c4;go_wp2_with fail;obtain rfl := HW.out;go_ret;refine ⟨_, rfl, ?_, ?_⟩
 ·exact zd0 rfl
 ·exact (zH w _ _).drew
theorem zoF (mark : ByteArray) (size count : Int) (d0 d1 d2 : Int) (A : Option Addr) (c : Nat) (w : World) {B : Nat} (hA : Ints w B A [d0, d1, d2]) (hB : B ≤ w.heap.size) (h0 : 1 ≤ d0 ∧ d0 ≤ 262144) (h1 : 1 ≤ d1 ∧ d1 ≤ 262144) (h2 : 1 ≤ d2 ∧ d2 ≤ 262144) :
  Calls Tryz.prog 154 #[.agg #[.string mark, .int .i64 size, .int .i64 count, .int .i64 51, .slice A 3 c]] w fun e w' =>
   ∃ A', e = .returned (.slice A' 6 6) ∧ PtsAt w' w'.heap.size A' [(0, -d2, 0), (d0, 0, 0), (0, d1, 0), (-d0, 0, 0), (0, -d1, 0), (d2, 0, 0)] ∧ Below w.heap.size w w' := by
 have hbo := fun o => hA.carry ((Below.refl B w).alloc hB o) (ze _);obtain ⟨b, off, hA', hbl, _⟩ := hA (by simp);subst hA';have hb0 := hbo (.cells #[.string mark, .int .i64 size, .int .i64 count, .int .i64 51, .slice (some ⟨b, off, none⟩) 3 c] 50);have c0 : ∀ d, (za9 (w.alloc (.cells #[.string mark, .int .i64 size, .int .i64 count, .int .i64 51, .slice (some ⟨b, off, none⟩) 3 c] 50)) d).cell? ⟨b, off, none⟩ = some (.int .i64 d0) := fun _ => zbg (k := 0) hb0 rfl;have c1 : ∀ d, (za9 (w.alloc (.cells #[.string mark, .int .i64 size, .int .i64 count, .int .i64 51, .slice (some ⟨b, off, none⟩) 3 c] 50)) d).cell? ⟨b, off + 1, none⟩ = some (.int .i64 d1) := fun _ => zbg (k := 1) hb0 rfl;have c2 : ∀ d, (za9 (w.alloc (.cells #[.string mark, .int .i64 size, .int .i64 count, .int .i64 51, .slice (some ⟨b, off, none⟩) 3 c] 50)) d).cell? ⟨b, off + 2, none⟩ = some (.int .i64 d2) := fun _ => zbg (k := 2) hb0 rfl;obtain ⟨l0, u0⟩ := h0;obtain ⟨l1, u1⟩ := h1;obtain ⟨l2, u2⟩ := h2;have hbl' : b < w.heap.size := by omega
 clear hA hbo hbl hb0;go_enter Tryz.func154, Tryz.ntmps154;go_wp2_with fail;obtain ⟨W, hW⟩ : ∃ W, W = w.alloc (.cells #[.string mark, .int .i64 size, .int .i64 count, .int .i64 51, .slice (some ⟨b, off, none⟩) 3 c] 50) := ⟨_, rfl⟩;rw [← hW];simp only [← hW, za9] at c0 c1 c2;have HW := zf hW;clear hW
 go_still_tail 27, (by kernel_rfl)
 change wpList _ _ _ _ _ (World.drew W);clear c0 c1 c2;go_wp2_with fail;obtain rfl := HW.out;go_ret;refine ⟨_, rfl, ?_, ?_⟩
 ·exact zd0 rfl
 ·exact (zH w _ _).drew
theorem zoE (mark : ByteArray) (size count : Int) (d0 d1 d2 : Int) (A : Option Addr) (c : Nat) (w : World) {B : Nat} (hA : Ints w B A [d0, d1, d2]) (hB : B ≤ w.heap.size) (h0 : 1 ≤ d0 ∧ d0 ≤ 262144) (h1 : 1 ≤ d1 ∧ d1 ≤ 262144) (h2 : 1 ≤ d2 ∧ d2 ≤ 262144) :
  Calls Tryz.prog 154 #[.agg #[.string mark, .int .i64 size, .int .i64 count, .int .i64 98, .slice A 3 c]] w fun e w' =>
   ∃ A', e = .returned (.slice A' 5 5) ∧ PtsAt w' w'.heap.size A' [(0, 0, d0), (0, -d1, 0), (d2, 0, 0), (0, d1, 0), (0, 0, d0)] ∧ Below w.heap.size w w' := by
 have hbo := fun o => hA.carry ((Below.refl B w).alloc hB o) (ze _);obtain ⟨b, off, hA', hbl, _⟩ := hA (by simp);subst hA';have hb0 := hbo (.cells #[.string mark, .int .i64 size, .int .i64 count, .int .i64 98, .slice (some ⟨b, off, none⟩) 3 c] 50);have c0 : ∀ d, (za9 (w.alloc (.cells #[.string mark, .int .i64 size, .int .i64 count, .int .i64 98, .slice (some ⟨b, off, none⟩) 3 c] 50)) d).cell? ⟨b, off, none⟩ = some (.int .i64 d0) := fun _ => zbg (k := 0) hb0 rfl;have c1 : ∀ d, (za9 (w.alloc (.cells #[.string mark, .int .i64 size, .int .i64 count, .int .i64 98, .slice (some ⟨b, off, none⟩) 3 c] 50)) d).cell? ⟨b, off + 1, none⟩ = some (.int .i64 d1) := fun _ => zbg (k := 1) hb0 rfl;have c2 : ∀ d, (za9 (w.alloc (.cells #[.string mark, .int .i64 size, .int .i64 count, .int .i64 98, .slice (some ⟨b, off, none⟩) 3 c] 50)) d).cell? ⟨b, off + 2, none⟩ = some (.int .i64 d2) := fun _ => zbg (k := 2) hb0 rfl;obtain ⟨l0, u0⟩ := h0;obtain ⟨l1, u1⟩ := h1;obtain ⟨l2, u2⟩ := h2;have hbl' : b < w.heap.size := by omega
 clear hA hbo hbl hb0;go_enter Tryz.func154, Tryz.ntmps154;go_wp2_with fail;obtain ⟨W, hW⟩ : ∃ W, W = w.alloc (.cells #[.string mark, .int .i64 size, .int .i64 count, .int .i64 98, .slice (some ⟨b, off, none⟩) 3 c] 50) := ⟨_, rfl⟩;rw [← hW];simp only [← hW, za9] at c0 c1 c2;have HW := zf hW;clear hW
 go_still_tail 21, (by kernel_rfl)
 change wpList _ _ _ _ _ (World.drew W);clear c0 c1 c2;go_wp2_with fail;obtain rfl := HW.out;go_ret;refine ⟨_, rfl, ?_, ?_⟩
 ·exact zd0 rfl
 ·exact (zH w _ _).drew
def za5 {α : Type} (p : α → Bool) (l : List α) : Bool := l.any p
theorem zd5 (A : Option Addr) (l : List BoxD) (n c : Nat) (fid : FuncId) (p : BoxD → Bool) (w : World) {B : Nat} (h : BoxesAt w B A l) (hB : B ≤ w.heap.size) (hn : n = l.length) (hm : n ≤ 300000)
  (hc : ∀ args w, (callFunc fid args).run Tryz.prog w = .ok (.enter fid args) w)
  (hf : ∀ x (W : World), x ∈ l → Calls Tryz.prog fid #[bx x] W fun e W' => e = .returned (.bool (p x)) ∧ Below W.heap.size W W') :
  Calls Tryz.prog 271 #[.slice A n c, .func (.func fid) #[] #[]] w fun e w' => e = .returned (.int .i64 (idx p l)) ∧ Below w.heap.size w w' := by
 have Hf := zf hf;have hn' := zf hn;have Hs := zf h;clear hf hn h;go_enter Tryz.func271, Tryz.ntmps271;go_wp2;go_loopw [8] (fun i wr => ∃ k : Nat, k ≤ n ∧ i = .int .i64 k ∧ NoneTo p l k ∧ Below w.heap.size w wr) (fun i _ => n - (intOf i).toNat)
 case atStart => exact ⟨0, zu _, rfl, NoneTo.zero _ _, Below.refl _ _⟩
 case round =>
  obtain ⟨k, hk, rfl, hw, hb⟩ := hrel;by_cases hlt : k < n
  ·obtain ⟨b, off, x, rfl, hbl, hx, h0, h1, h2, h3, h4, h5⟩ := BoxesAt.get (k := k) (SlOf.carry (Flat.carried _) Hs.out (hb.mono hB) (ze _)) (by rw [← hn'.out]; exact hlt);have Hx := zf hx;clear hx hbl;go_wp2_with fail;refine (Hf.out x _ (zv Hx.out)).mono ?_;rintro e w1 ⟨rfl, hb1⟩;clear h0 h1 h2 h3 h4 h5;have hb2 := zg hb hb1 (ze _);cases hp : p x
   ·have Hp := zf hp;clear hp;go_wp2;go_roundw
    case rel => exact ⟨k + 1, by omega, by go_num, hw.succ Hx.out Hp.out, hb2⟩
    case measure => simp [intOf]; omega
   ·have Hp := zf hp;clear hp;go_wp2;go_ret;exact ⟨zam (hw.hit Hx.out Hp.out).symm, hb2⟩
  ·obtain rfl : k = n := by omega
   go_wp2;go_ret;exact ⟨zam (NoneTo.miss (by rw [← hn'.out]; exact hw)).symm, hb⟩
theorem zct (A : Option Addr) (l : List BoxD) (n c : Nat) (fid : FuncId) (p : BoxD → Bool) (w : World) {B : Nat} (h : BoxesAt w B A l) (hB : B ≤ w.heap.size) (hn : n = l.length) (hm : n ≤ 300000)
  (hc : ∀ args w, (callFunc fid args).run Tryz.prog w = .ok (.enter fid args) w)
  (hf : ∀ x (W : World), x ∈ l → Calls Tryz.prog fid #[bx x] W fun e W' => e = .returned (.bool (p x)) ∧ Below W.heap.size W W') :
  Calls Tryz.prog 233 #[.slice A n c, .func (.func fid) #[] #[]] w fun e w' => e = .returned (.bool (za5 p l)) ∧ Below w.heap.size w w' := by
 have Hf := zf hf;have hn' := zf hn;have Hc := zf hc;clear hf hn hc;go_enter Tryz.func233, Tryz.ntmps233;go_wp2_with fail;refine (zd5 A l n c fid p w h hB hn'.out hm Hc.out Hf.out).mono ?_;rintro e w1 ⟨rfl, hb⟩;go_wp2;go_ret;exact ⟨zo (by rw [zfj]; rfl), hb⟩
theorem zp5 (b : BoxD) (w : World) :
  Calls Tryz.prog 232 #[bx b] w fun e w' => e = .returned (.bool (zbd b)) ∧ Below w.heap.size w w' := by
 have Hv := zf (fun (w : World) => za0 b w);cases hv : zad b
 ·have hr := zf (show zbd b = false by simp [zbd, hv]);rw [hv] at Hv;clear hv;obtain ⟨⟨x, y, z⟩, ⟨x2, y2, z2⟩⟩ := b;go_enter Tryz.func232, Tryz.ntmps232;go_wp2_with (go_at_call 122; refine (Hv.out _).mono ?_; rintro e w2 ⟨rfl, hb2⟩);go_ret;exact ⟨zo hr.out.symm, zg (zk w _) hb2 (ze _)⟩
 ·have hr : zbd b = (decide (b.lo.1 < b.hi.1) && decide (b.lo.2.1 < b.hi.2.1) && decide (b.lo.2.2 < b.hi.2.2)) := by simp [zbd, hv]
  rw [hv] at Hv;clear hv;obtain ⟨⟨x, y, z⟩, ⟨x2, y2, z2⟩⟩ := b;simp only at hr;have hcase : (decide (x < x2) = false ∧ zbd ⟨(x, y, z), (x2, y2, z2)⟩ = false) ∨ (decide (x < x2) = true ∧ decide (y < y2) = false ∧ zbd ⟨(x, y, z), (x2, y2, z2)⟩ = false) ∨ (decide (x < x2) = true ∧ decide (y < y2) = true ∧ decide (z < z2) = false ∧ zbd ⟨(x, y, z), (x2, y2, z2)⟩ = false) ∨ (decide (x < x2) = true ∧ decide (y < y2) = true ∧ decide (z < z2) = true ∧ zbd ⟨(x, y, z), (x2, y2, z2)⟩ = true) := by
   rw [hr];cases decide (x < x2) <;> cases decide (y < y2) <;> cases decide (z < z2) <;> simp
  clear hr;rcases hcase with ⟨q0, hR⟩ | ⟨q0, q1, hR⟩ | ⟨q0, q1, q2, hR⟩ | ⟨q0, q1, q2, hR⟩
  all_goals
   have HR := zf hR;have Hb := zf (Blk.new w 62 #[.int .i64 x, .int .i64 y, .int .i64 z, .int .i64 x2, .int .i64 y2, .int .i64 z2]);clear hR;go_enter Tryz.func232, Tryz.ntmps232;go_wp2_with (go_at_call 122; refine (Hv.out _).mono ?_; rintro e w2 ⟨rfl, hb2⟩; have hb3 := Hb.out.keep hb2; have c0 := hb3.cell 0; have c1 := hb3.cell 1; have c2 := hb3.cell 2; have c3 := hb3.cell 3; have c4 := hb3.cell 4; have c5 := hb3.cell 5; simp at c0 c1 c2 c3 c4 c5; clear hb3);go_ret;exact ⟨zo HR.out.symm, zg (zk w _) hb2 (ze _)⟩
def zjf (b : BoxD) : Bool := !zbd b
theorem zmC (b : BoxD) (w : World) :
  Calls Tryz.prog 231 #[bx b] w fun e w' => e = .returned (.bool (zjf b)) ∧ Below w.heap.size w w' := by
 have Hv := zf (fun (w : World) => zp5 b w);obtain ⟨t, ht⟩ : ∃ t, t = zbd b := ⟨_, rfl⟩;have Hr := zf (show zjf b = !t by rw [zjf, ht]);rw [← ht] at Hv;clear ht;obtain ⟨⟨x, y, z⟩, ⟨x2, y2, z2⟩⟩ := b;go_enter Tryz.func231, Tryz.ntmps231;go_wp2_with (go_at_call 232; refine (Hv.out _).mono ?_; rintro e w2 ⟨rfl, hb2⟩);go_ret;exact ⟨zo Hr.out.symm, zg (zk w _) hb2 (ze _)⟩
def zjq (b : BoxD) : Bool := !zad b
theorem zpD (b : BoxD) (w : World) :
  Calls Tryz.prog 273 #[bx b] w fun e w' => e = .returned (.bool (zjq b)) ∧ Below w.heap.size w w' := by
 have Hv := zf (fun (w : World) => za0 b w);obtain ⟨t, ht⟩ : ∃ t, t = zad b := ⟨_, rfl⟩;have Hr := zf (show zjq b = !t by rw [zjq, ht]);rw [← ht] at Hv;clear ht;obtain ⟨⟨x, y, z⟩, ⟨x2, y2, z2⟩⟩ := b;go_enter Tryz.func273, Tryz.ntmps273;go_wp2_with (go_at_call 122; refine (Hv.out _).mono ?_; rintro e w2 ⟨rfl, hb2⟩);go_ret;exact ⟨zo Hr.out.symm, zg (zk w _) hb2 (ze _)⟩
theorem zgD {α : Type} (p : α → Bool) (l : List α) : l.all p = !za5 (fun x => !p x) l := by
 induction l with
 | nil => rfl
 | cons x r ih => simp only [List.all_cons, za5, List.any_cons, ih, Bool.not_or, Bool.not_not]
abbrev sol (A1 : Option Addr) (n1 c1 : Nat) (A2 : Option Addr) (n2 c2 : Nat) : Value := .agg #[.slice A1 n1 c1, .slice A2 n2 c2]
theorem ze8 (bs hs : List BoxD) (A1 A2 : Option Addr) (n1 n2 c1 c2 : Nat) (w : World) {B : Nat} (h1 : BoxesAt w B A1 bs) (h2 : BoxesAt w B A2 hs) (hB : B ≤ w.heap.size) (hn1 : n1 = bs.length) (hn2 : n2 = hs.length) :
  Calls Tryz.prog 176 #[sol A1 n1 c1 A2 n2 c2] w fun e w' => e = .returned (.bool (zaZ bs hs)) ∧ Below w.heap.size w w' := by
 have Hn1 := zf hn1;have Hn2 := zf hn2;have H1 := zf h1;have H2 := zf h2;have hr : zaZ bs hs = (decide (1 ≤ n1) && decide (n1 ≤ 20) && decide (n2 ≤ 20) && !za5 zjf bs && !za5 zjf hs) := by
  rw [zaZ, zgD, zgD, hn1, hn2]
  rfl
 have Hr := zf hr;clear hn1 hn2 h1 h2 hr;by_cases a1 : n1 < 1
 ·have d0 : decide (1 ≤ (n1 : Int)) = false := by simp; omega
  have hres := zf (show zaZ bs hs = false by rw [Hr.out]; simp; omega);clear a1;go_enter Tryz.func176, Tryz.ntmps176;go_wp2;go_ret;exact ⟨zo hres.out.symm, zk w _⟩
 have d0 : decide (1 ≤ (n1 : Int)) = true := by simp; omega
 by_cases a2 : 20 < n1
 ·have d1 : decide ((n1 : Int) ≤ 20) = false := by simp; omega
  have hres := zf (show zaZ bs hs = false by rw [Hr.out]; simp; omega);clear a1 a2;go_enter Tryz.func176, Tryz.ntmps176;go_wp2;go_ret;exact ⟨zo hres.out.symm, zk w _⟩
 have d1 : decide ((n1 : Int) ≤ 20) = true := by simp; omega
 by_cases a3 : 20 < n2
 ·have d2 : decide ((n2 : Int) ≤ 20) = false := by simp; omega
  have hres := zf (show zaZ bs hs = false by rw [Hr.out]; simp; omega);clear a1 a2 a3;go_enter Tryz.func176, Tryz.ntmps176;go_wp2;go_ret;exact ⟨zo hres.out.symm, zk w _⟩
 have d2 : decide ((n2 : Int) ≤ 20) = true := by simp; omega
 have hr2 : zaZ bs hs = (!za5 zjf bs && !za5 zjf hs) := by
  rw [Hr.out, show decide (1 ≤ n1) = true by simp; omega, show decide (n1 ≤ 20) = true by simp; omega, show decide (n2 ≤ 20) = true by simp; omega]
  rfl
 have g1 : n1 ≤ 300000 := by omega
 have g2 : n2 ≤ 300000 := by omega
 have HF1 := zf (fun (wz : World) (hz : Below w.heap.size w wz) => zct A1 bs n1 c1 231 zjf wz (H1.out.carry (Flat.carried _) (hz.mono hB) (ze B)) (zh hB hz.size) Hn1.out g1 Tryz.call231 (fun x W _ => zmC x W));have HF2 := zf (fun (wz : World) (hz : Below w.heap.size w wz) => zct A2 hs n2 c2 231 zjf wz (H2.out.carry (Flat.carried _) (hz.mono hB) (ze B)) (zh hB hz.size) Hn2.out g2 Tryz.call231 (fun x W _ => zmC x W));obtain ⟨t1, ht1⟩ : ∃ t, t = za5 zjf bs := ⟨_, rfl⟩;obtain ⟨t2, ht2⟩ : ∃ t, t = za5 zjf hs := ⟨_, rfl⟩;rw [← ht1, ← ht2] at hr2;rw [← ht1] at HF1;rw [← ht2] at HF2;have Hres := zf hr2;have Hb := zf (Blk.new w 24 #[.slice A1 n1 c1, .slice A2 n2 c2]);have Hw := zf (zk w (.cells #[.slice A1 n1 c1, .slice A2 n2 c2] 24));clear a1 a2 a3 ht1 ht2 hr2;cases t1
 ·go_enter Tryz.func176, Tryz.ntmps176;go_wp2_with fail;refine (HF1.out _ Hw.out).mono ?_;rintro e w2 ⟨rfl, hb2⟩;have hb := Hb.out.keep hb2;have k0 := hb.cell 0;have k1 := hb.cell 1;simp at k0 k1;have Hw2 := zf (zg Hw.out hb2 (ze _));clear hb hb2;go_wp2_with fail;refine (HF2.out _ Hw2.out).mono ?_;rintro e w3 ⟨rfl, hb3⟩;have Hw3 := zf (zg Hw2.out hb3 (ze _));clear hb3 k0 k1;go_wp2;go_ret;exact ⟨zo (by rw [Hres.out]; simp), Hw3.out⟩
 ·go_enter Tryz.func176, Tryz.ntmps176;go_wp2_with fail;refine (HF1.out _ Hw.out).mono ?_;rintro e w2 ⟨rfl, hb2⟩;have Hw2 := zf (zg Hw.out hb2 (ze _));clear hb2;go_wp2;go_ret;exact ⟨zo (by rw [Hres.out]; simp), Hw2.out⟩
theorem zhf (n lo hi : Int) (w : World) :
  Calls Tryz.prog 175 #[.int .i64 n, .int .i64 lo, .int .i64 hi] w fun e w' => e = .returned (.bool (within n lo hi)) ∧ w = w' := by
 cases h0 : decide (lo ≤ n) <;> cases h1 : decide (n ≤ hi)
 all_goals
  have hr := zf (show within n lo hi = _ by rw [within, h0, h1]);go_enter Tryz.func175, Tryz.ntmps175;go_wp2;go_ret;exact ⟨zo (by rw [hr.out]; rfl), rfl⟩
abbrev zgY (m : MemD) (A1 : Option Addr) (n1 c1 : Nat) (A2 : Option Addr) (n2 c2 : Nat) : Value := .agg #[.string m.name, .slice A1 n1 c1, .slice A2 n2 c2, .int .i64 m.cover, .int .i64 m.aggregate, .int .i64 m.poker]
theorem zfZ (m : MemD) (A1 A2 : Option Addr) (n1 n2 c1 c2 : Nat) (w : World) {B : Nat} (h1 : BoxesAt w B A1 m.boxes) (h2 : BoxesAt w B A2 m.holes) (hB : B ≤ w.heap.size) (hn1 : n1 = m.boxes.length) (hn2 : n2 = m.holes.length) (hm : m.name.size ≤ maxLen) :
  Calls Tryz.prog 113 #[zgY m A1 n1 c1 A2 n2 c2] w fun e w' => e = .returned (.bool (zdj m)) ∧ Below w.heap.size w w' := by
 have HV := zf (fun (wz : World) (hz : Below w.heap.size w wz) => ze8 m.boxes m.holes A1 A2 n1 n2 c1 c2 wz (h1.carry (Flat.carried _) (hz.mono hB) (ze B)) (h2.carry (Flat.carried _) (hz.mono hB) (ze B)) (zh hB hz.size) hn1 hn2);have HN := zf (fun (wz : World) => zf3 m.name wz hm);obtain ⟨tn, htn⟩ : ∃ t, t = zb8 m.name := ⟨_, rfl⟩;obtain ⟨tv, htv⟩ : ∃ t, t = zaZ m.boxes m.holes := ⟨_, rfl⟩;obtain ⟨ta, hta⟩ : ∃ t, t = within m.cover 0 200 := ⟨_, rfl⟩;obtain ⟨tb, htb⟩ : ∃ t, t = within m.aggregate 1 100 := ⟨_, rfl⟩;obtain ⟨tc, htc⟩ : ∃ t, t = within m.poker 1 200 := ⟨_, rfl⟩;have Hr := zf (show zdj m = (tn && tv && ta && tb && tc) by rw [zdj, htn, htv, hta, htb, htc]);have HA := zf (fun (wz : World) => zhf m.cover 0 200 wz);have HB := zf (fun (wz : World) => zhf m.aggregate 1 100 wz);have HC := zf (fun (wz : World) => zhf m.poker 1 200 wz);rw [← htn] at HN;rw [← htv] at HV;rw [← hta] at HA;rw [← htb] at HB;rw [← htc] at HC;clear h1 h2 hn1 hn2 htn htv hta htb htc;obtain ⟨name, boxes, holes, cover, agg, poker⟩ := m;simp only at HN HV HA HB HC;have Hb := zf (Blk.new w 26 #[.string name, .slice A1 n1 c1, .slice A2 n2 c2, .int .i64 cover, .int .i64 agg, .int .i64 poker]);have Hw := zf (zk w (.cells #[.string name, .slice A1 n1 c1, .slice A2 n2 c2, .int .i64 cover, .int .i64 agg, .int .i64 poker] 26));cases tn
 ·go_enter Tryz.func113, Tryz.ntmps113;go_wp2_with (go_at_call 167; refine (HN.out _).mono ?_; rintro e w2 ⟨rfl, rfl⟩);go_ret;exact ⟨zo Hr.out.symm, Hw.out⟩
 cases tv
 ·go_enter Tryz.func113, Tryz.ntmps113;go_wp2_with (first
   | (go_at_call 167; refine (HN.out _).mono ?_; rintro e w2 ⟨rfl, rfl⟩)
   | (go_at_call 176; refine (HV.out _ Hw.out).mono ?_; rintro e w2 ⟨rfl, hb2⟩))
  go_ret;exact ⟨zo Hr.out.symm, zg Hw.out hb2 (ze _)⟩
 cases ta <;> cases tb <;> cases tc
 all_goals
  go_enter Tryz.func113, Tryz.ntmps113;go_wp2_with (first
   | (go_at_call 167; refine (HN.out _).mono ?_; rintro e w2 ⟨rfl, rfl⟩)
   | (go_at_call 176; refine (HV.out _ Hw.out).mono ?_; rintro e w2 ⟨rfl, hb2⟩; have hb3 := Hb.out.keep hb2; have c3 := hb3.cell 3; have c4 := hb3.cell 4; have c5 := hb3.cell 5; simp at c3 c4 c5; clear hb3)
   | (go_at_call 175; (first | (with_reducible refine (HA.out _).mono ?_) | (with_reducible refine (HB.out _).mono ?_) | (with_reducible refine (HC.out _).mono ?_)); rintro e w3 ⟨rfl, rfl⟩))
  go_ret;exact ⟨zo Hr.out.symm, zg Hw.out hb2 (ze _)⟩
theorem zir (A : Option Addr) (l : List Int) (n c : Nat) (fid : FuncId) (p : Int → Bool) (w : World) {B : Nat} (h : Ints w B A l) (_hB : B ≤ w.heap.size) (hn : n = l.length) (hm : n ≤ 300000)
  (hc : ∀ args w, (callFunc fid args).run Tryz.prog w = .ok (.enter fid args) w)
  (hf : ∀ x (W : World), x ∈ l → Calls Tryz.prog fid #[.int .i64 x] W fun e W' => e = .returned (.bool (p x)) ∧ W = W') :
  Calls Tryz.prog 277 #[.slice A n c, .func (.func fid) #[] #[]] w fun e w' => e = .returned (.int .i64 (idx p l)) ∧ w = w' := by
 have Hf := zf hf;have hn' := zf hn;have Hs := zf h;clear hf hn h;go_enter Tryz.func277, Tryz.ntmps277;go_wp2;go_loop [8] (fun i => ∃ k : Nat, k ≤ n ∧ i = .int .i64 k ∧ NoneTo p l k) (fun i => n - (intOf i).toNat)
 case atStart => exact ⟨0, zu _, rfl, NoneTo.zero _ _⟩
 case round =>
  obtain ⟨k, hk, rfl, hw⟩ := hrel;by_cases hlt : k < n
  ·obtain ⟨b, off, x, rfl, hbl, hx, h0⟩ := Ints.get (k := k) Hs.out (by rw [← hn'.out]; exact hlt);have Hx := zf hx;clear hx hbl;go_wp2_with fail;refine (Hf.out x _ (zv Hx.out)).mono ?_;rintro e w1 ⟨rfl, rfl⟩;cases hp : p x
   ·have Hp := zf hp;clear hp;go_wp2_with fail;go_round
    case rel => exact ⟨k + 1, by omega, by go_num, hw.succ Hx.out Hp.out⟩
    case measure => simp [intOf]; omega
   ·have Hp := zf hp;clear hp;go_wp2;go_ret;exact ⟨zam (hw.hit Hx.out Hp.out).symm, rfl⟩
  ·obtain rfl : k = n := by omega
   go_wp2;go_ret;exact ⟨zam (NoneTo.miss (by rw [← hn'.out]; exact hw)).symm, rfl⟩
def zjp (n : Int) : Bool := !zcM n
theorem zpC (n : Int) (w : World) : Calls Tryz.prog 244 #[.int .i64 n] w fun e w' => e = .returned (.bool (zjp n)) ∧ w = w' := by
 go_enter Tryz.func244, Tryz.ntmps244;go_wp2
 all_goals
  go_ret;exact ⟨zo (by rw [Bool.eq_iff_iff]; simp [zjp, zcM, within]; try omega), rfl⟩
theorem ziv (A : Option Addr) (l : List Int) (n c : Nat) (w : World) {B : Nat} (h : Ints w B A l) (hB : B ≤ w.heap.size) (hn : n = l.length) (hm : n ≤ 300000) :
  Calls Tryz.prog 187 #[.slice A n c] w fun e w' => e = .returned (.bool (l.all zcM)) ∧ w = w' := by
 have HF := zf (zir A l n c 244 zjp w h hB hn hm Tryz.call244 (fun x W _ => zpC x W));have Hr := zf (show l.all zcM = !decide (0 ≤ idx zjp l) by rw [zgD, zfj]; rfl);clear h hn;go_enter Tryz.func187, Tryz.ntmps187;go_wp2_with fail;have key : Calls Tryz.prog 243 #[.slice A n c, .func (.func 244) #[] #[]] w fun e w' => e = .returned (.bool (decide (0 ≤ idx zjp l))) ∧ w = w' := by
  go_enter Tryz.func243, Tryz.ntmps243;go_wp2_with fail;refine HF.out.mono ?_;rintro e w1 ⟨rfl, rfl⟩;go_wp2;go_ret;exact ⟨rfl, rfl⟩
 have Key := zf key;clear key;refine Key.out.mono ?_;rintro e w2 ⟨rfl, rfl⟩;go_wp2;go_ret;exact ⟨zo Hr.out.symm, rfl⟩
abbrev rlV (r : RuleD) : Value := .agg #[.int .i64 r.num, .int .i64 r.den, .int .i64 r.poorNum, .int .i64 r.poorDen, .int .i64 r.bendNum, .int .i64 r.bendDen, .int .i64 r.lapNum, .int .i64 r.lapDen, .int .i64 r.least]
theorem zey (r : RuleD) (w : World) :
  Calls Tryz.prog 119 #[rlV r] w fun e w' => e = .returned (.bool (zbH r)) ∧ Below w.heap.size w w' := by
 obtain ⟨a, b, c, d, e, f, g, h, i⟩ := r;simp only [rlV];obtain ⟨ta, hta⟩ : ∃ t, t = [a, b, c, d, e, f, g, h].all zcM := ⟨_, rfl⟩;have Hr := zf (show zbH ⟨a, b, c, d, e, f, g, h, i⟩ = (ta && decide (d ≤ c) && decide (h ≤ g) && decide (e ≤ f) && (decide (0 ≤ i) && decide (i ≤ 1000))) by rw [hta]; rfl);have HA := zf (fun (W : World) (B : Nat) (A : Option Addr) (hA : Ints W B A [a, b, c, d, e, f, g, h]) (hB : B ≤ W.heap.size) => ziv A [a, b, c, d, e, f, g, h] 8 8 W hA hB rfl (by omega));rw [← hta] at HA;clear hta;have hways : (ta = false ∧ Hid (false = zbH ⟨a, b, c, d, e, f, g, h, i⟩)) ∨ (ta = true ∧ decide (d ≤ c) = false ∧ Hid (false = zbH ⟨a, b, c, d, e, f, g, h, i⟩)) ∨ (ta = true ∧ decide (d ≤ c) = true ∧ decide (h ≤ g) = false ∧ Hid (false = zbH ⟨a, b, c, d, e, f, g, h, i⟩)) ∨
   (ta = true ∧ decide (d ≤ c) = true ∧ decide (h ≤ g) = true ∧ decide (e ≤ f) = false ∧ Hid (false = zbH ⟨a, b, c, d, e, f, g, h, i⟩)) ∨ (ta = true ∧ decide (d ≤ c) = true ∧ decide (h ≤ g) = true ∧ decide (e ≤ f) = true ∧ decide (0 ≤ i) = false ∧ Hid (false = zbH ⟨a, b, c, d, e, f, g, h, i⟩)) ∨
   (ta = true ∧ decide (d ≤ c) = true ∧ decide (h ≤ g) = true ∧ decide (e ≤ f) = true ∧ decide (0 ≤ i) = true ∧ decide (i ≤ 1000) = false ∧ Hid (false = zbH ⟨a, b, c, d, e, f, g, h, i⟩)) ∨
   (ta = true ∧ decide (d ≤ c) = true ∧ decide (h ≤ g) = true ∧ decide (e ≤ f) = true ∧ decide (0 ≤ i) = true ∧ decide (i ≤ 1000) = true ∧ Hid (true = zbH ⟨a, b, c, d, e, f, g, h, i⟩)) := by
  have key : ∀ r, (ta && decide (d ≤ c) && decide (h ≤ g) && decide (e ≤ f) && (decide (0 ≤ i) && decide (i ≤ 1000))) = r → Hid (r = zbH ⟨a, b, c, d, e, f, g, h, i⟩) := fun r hr => zf (by rw [Hr.out, hr])
  revert key
  generalize zbH ⟨a, b, c, d, e, f, g, h, i⟩ = R;cases ta <;> cases decide (d ≤ c) <;> cases decide (h ≤ g) <;> cases decide (e ≤ f) <;> cases decide (0 ≤ i) <;> cases decide (i ≤ 1000) <;> intro key <;> simp <;> first | exact zf (key false rfl).out.symm | exact zf (key true rfl).out.symm
 clear Hr;rcases hways with ⟨rfl, hres⟩ | ⟨rfl, q1, hres⟩ | ⟨rfl, q1, q2, hres⟩ | ⟨rfl, q1, q2, q3, hres⟩ | ⟨rfl, q1, q2, q3, q4, hres⟩ | ⟨rfl, q1, q2, q3, q4, q5, hres⟩ | ⟨rfl, q1, q2, q3, q4, q5, hres⟩
 all_goals
  go_enter Tryz.func119, Tryz.ntmps119;go_wp2_with (go_at_call 187; refine (HA.out _ _ _ (Ints.of_blk (l := [a, b, c, d, e, f, g, h]) (Blk.new1 w _ 3 _) (B := w.heap.size + 2) (by omega)) (by simp)).mono ?_; rintro e w2 ⟨rfl, rfl⟩);go_ret;exact ⟨zo hres.out, zH w _ _⟩
end Go.Proofs.YtpaanfjjnjjoeaaGreat
