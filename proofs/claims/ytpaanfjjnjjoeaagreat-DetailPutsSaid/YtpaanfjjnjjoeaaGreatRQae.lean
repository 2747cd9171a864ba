/- Legs of valid bars: plain facts. -/
import Derived.Test.YtpaanfjjnjjoeaaGreatRQac
import Derived.Test.YtpaanfjjnjjoeaaGreatRQaa
import Derived.Lib.QuietBelow
import Derived.BigRegion
import Derived.Deep.RegionHeld3
import Derived.StillTailTactics
namespace Go.Proofs.YtpaanfjjnjjoeaaGreat
open Go.RowKit
theorem fits_mem {rest : Int} {l : List Int} (h : fits rest l = true) : ∀ d ∈ l, 1 ≤ d ∧ d ≤ rest := by
 induction l generalizing rest with
 | nil => intro d hd; cases hd
 | cons y r ih =>
  simp only [fits, Bool.and_eq_true, zzJ] at h
  intro d hd
  rcases List.mem_cons.1 hd with rfl | hd
  ·omega
  ·have := ih h.2 d hd
   omega
theorem foldl_max_ge (l : List (Int × Int)) (a : Int) : a ≤ l.foldl (fun a p => max a p.1) a ∧ ∀ p ∈ l, p.1 ≤ l.foldl (fun a p => max a p.1) a := by
 induction l generalizing a with
 | nil => simp
 | cons y r ih =>
  have := ih (max a y.1)
  refine ⟨by simp only [List.foldl_cons]; omega, fun p hp => ?_⟩
  rcases List.mem_cons.1 hp with rfl | hp
  ·simp only [List.foldl_cons]; omega
  ·exact this.2 p hp
def legDim (x : BarD) (p : Int × Int) : Int := x.dims.getD p.1.toNat 0
def legLens (x : BarD) : List Int := (legsOf x.code).map (legDim x)
structure BarGood (x : BarD) : Prop where
 size : isSize x.size = true
 count : 1 ≤ x.count ∧ x.count ≤ 1000
 leg : ∀ p ∈ legsOf x.code, 0 ≤ p.1 ∧ p.1.toNat < x.dims.length ∧ x.dims[p.1.toNat]? = some (legDim x p) ∧ 1 ≤ legDim x p ∧ legDim x p ≤ 262144
 legs : legLens x ≠ []
theorem barGood_of {x : BarD} (h : barOk x = true) : BarGood x := by
 rw [barOk_pre] at h
 simp only [Bool.and_eq_true, barPre, zzJ] at h
 obtain ⟨⟨⟨⟨⟨⟨h0, h1⟩, h2⟩, h3⟩, h4⟩, h5⟩, h6⟩ := h
 refine ⟨h2, ⟨h3, h4⟩, fun p hp => ?_, ?_⟩
 ·have hd := legs_dims _ p hp
  have hm := (foldl_max_ge (legsOf x.code) (-1)).2 p hp
  have hl : p.1.toNat < x.dims.length := by unfold dimsN at h5; omega
  have hg : x.dims[p.1.toNat]? = some (legDim x p) := by rw [legDim, List.getD_eq_getElem?_getD, List.getElem?_eq_getElem hl]; rfl
  exact ⟨hd.1, hl, hg, fits_mem h6 _ (mem_of_get hg)⟩
 ·intro he
  have : legsOf x.code = [] := by simpa [legLens] using he
  rw [dimsE, dimsN, this] at h0
  simp at h0
theorem code_cases {code : Int} (h : legsOf code ≠ []) : code = 0 ∨ code = 11 ∨ code = 21 ∨ code = 26 ∨ code = 31 ∨ code = 41 ∨ code = 51 ∨ code = 98 := by
 unfold legsOf at h
 refine Decidable.byContradiction fun hn => ?_
 simp only [not_or] at hn
 obtain ⟨h0, h1, h2, h3, h4, h5, h6, h7⟩ := hn
 simp [h0, h1, h2, h3, h4, h5, h6, h7] at h
abbrev Pt := Int × Int × Int
def ptOf (y v : Int) : Int × Int × Int := if y = 120 then (v, 0, 0) else if y = 121 then (0, v, 0) else if y = 122 then (0, 0, v) else if y = 88 then (-v, 0, 0) else (0, -v, 0)
def movesOf (x : BarD) : List (Int × Int × Int) := (legsOf x.code).map fun p => ptOf p.2 (legDim x p)
structure BoxD where
 lo : Pt
 hi : Pt
structure MemD where
 name : ByteArray
 boxes : List BoxD
 holes : List BoxD
 cover : Int
 aggregate : Int
 poker : Int
structure RunD where
 mark : ByteArray
 tx : Int
 ty : Int
 place : Pt
 step : Pt
 count : Int
structure JoinD where
 first : Int
 second : Int
structure DemD where
 name : ByteArray
 zone : BoxD
 steps : List (Int × Int)
structure RuleD where
 num : Int
 den : Int
 poorNum : Int
 poorDen : Int
 bendNum : Int
 bendDen : Int
 lapNum : Int
 lapDen : Int
 least : Int
structure DetD where
 mem : MemD
 bars : List BarD
 runs : List RunD
 laps : List JoinD
 dems : List DemD
 rule : RuleD
def coordOk (n : Int) : Bool := decide (-1048576 ≤ n) && decide (n ≤ 1048576)
def axisOk (lo hi : Int) : Bool := decide (lo ≤ hi) && decide (-1048576 ≤ lo) && decide (hi ≤ 1048576)
def axes (b : BoxD) : List (Int × Int) := [(b.lo.1, b.hi.1), (b.lo.2.1, b.hi.2.1), (b.lo.2.2, b.hi.2.2)]
def axisFine (p : Int × Int) : Bool := axisOk p.1 p.2
def boxOk (b : BoxD) : Bool := (axes b).all axisFine
def thickOk (b : BoxD) : Bool := boxOk b && decide (b.lo.1 < b.hi.1) && decide (b.lo.2.1 < b.hi.2.1) && decide (b.lo.2.2 < b.hi.2.2)
def solidOk (bs hs : List BoxD) : Bool := decide (1 ≤ bs.length) && decide (bs.length ≤ 20) && decide (hs.length ≤ 20) && bs.all thickOk && hs.all thickOk
def within (n lo hi : Int) : Bool := decide (lo ≤ n) && decide (n ≤ hi)
def memOk (m : MemD) : Bool := isName m.name && solidOk m.boxes m.holes && within m.cover 0 200 && within m.aggregate 1 100 && within m.poker 1 200
def axisN (n : Int) : Bool := !decide (n = 0) && decide (-3 ≤ n) && decide (n ≤ 3)
def turnOk (x y : Int) : Bool := axisN x && axisN y && !decide (x = y) && !decide (x = -y)
def unitV (n : Int) : Pt := if n = 1 then (1, 0, 0) else if n = 2 then (0, 1, 0) else if n = 3 then (0, 0, 1) else if n = -1 then (-1, 0, 0) else if n = -2 then (0, -1, 0) else (0, 0, -1)
def crossV (a b : Pt) : Pt := (a.2.1 * b.2.2 - a.2.2 * b.2.1, a.2.2 * b.1 - a.1 * b.2.2, a.1 * b.2.1 - a.2.1 * b.1)
def linV (a b c p : Pt) : Pt := (a.1 * p.1 + b.1 * p.2.1 + c.1 * p.2.2, a.2.1 * p.1 + b.2.1 * p.2.1 + c.2.1 * p.2.2, a.2.2 * p.1 + b.2.2 * p.2.1 + c.2.2 * p.2.2)
def imgV (x y : Int) (p : Pt) : Pt := linV (unitV x) (unitV y) (crossV (unitV x) (unitV y)) p
def addP (p q : Pt) : Pt := (p.1 + q.1, p.2.1 + q.2.1, p.2.2 + q.2.2)
def mulP (k : Int) (p : Pt) : Pt := (k * p.1, k * p.2.1, k * p.2.2)
def pathFrom (o : Pt) : List Pt → List Pt
 | [] => [o]
 | m :: r => o :: pathFrom (addP o m) r
def pathOf (x : BarD) : List Pt := pathFrom (0, 0, 0) (movesOf x)
def nearBy (m : Int) (p : Pt) : Bool := within p.1 (-m) m && within p.2.1 (-m) m && within p.2.2 (-m) m
def ptsOf (x : BarD) (r : RunD) (k : Int) : List Pt := (pathOf x).map fun p => addP (addP (imgV r.tx r.ty p) r.place) (mulP k r.step)
def noStep (p : Pt) : Bool := decide (p.1 = 0) && decide (p.2.1 = 0) && decide (p.2.2 = 0)
def runBar (bars : List BarD) (r : RunD) : Option BarD := bars.find? (markIs r.mark)
def runHead (bars : List BarD) (r : RunD) : Bool :=
 decide (0 ≤ idx (markIs r.mark) bars) && turnOk r.tx r.ty && decide (1 ≤ r.count) && decide (r.count ≤ 1000) && nearBy 1048576 r.place && (decide (r.count ≤ 1) || (!noStep r.step && nearBy 2097152 r.step))
def runPts (bars : List BarD) (r : RunD) (k : Int) : List Pt := match runBar bars r with | some x => ptsOf x r k | none => []
def runOk (bars : List BarD) (r : RunD) : Bool := runHead bars r && (runPts bars r 0).all (nearBy 1048576) && (runPts bars r (r.count - 1)).all (nearBy 1048576)
def runsFit (bars : List BarD) : Int → List RunD → Bool
 | _, [] => true
 | rest, r :: l => runOk bars r && decide (r.count ≤ rest) && runsFit bars (rest - r.count) l
def laidOk (bars : List BarD) (runs : List RunD) : Bool := schedOk bars && decide (runs.length ≤ 60) && runsFit bars 2000 runs
def stepsFrom : Option Int → List (Int × Int) → Bool
 | _, [] => true
 | last, s :: r => coordOk s.1 && within s.2 0 1099511627776 && (match last with | none => true | some p => decide (p < s.1)) && stepsFrom (some s.1) r
def stepsOk (l : List (Int × Int)) : Bool := decide (l.length ≤ 200) && stepsFrom none l
def demOk (d : DemD) : Bool := isName d.name && boxOk d.zone && stepsOk d.steps
def nameIs (m : ByteArray) (d : DemD) : Bool := d.name.toList == m.toList
def demsFrom : List DemD → List DemD → Bool
 | _, [] => true
 | done, d :: r => demOk d && !done.any (nameIs d.name) && demsFrom (done ++ [d]) r
def demsOk (l : List DemD) : Bool := decide (l.length ≤ 20) && demsFrom [] l
def ratOk (n : Int) : Bool := within n 1 1000
def ruleOk (r : RuleD) : Bool :=
 [r.num, r.den, r.poorNum, r.poorDen, r.bendNum, r.bendDen, r.lapNum, r.lapDen].all ratOk && decide (r.poorDen ≤ r.poorNum) && decide (r.lapDen ≤ r.lapNum) && decide (r.bendNum ≤ r.bendDen) && within r.least 0 1000
def minP (p q : Pt) : Pt := (min p.1 q.1, min p.2.1 q.2.1, min p.2.2 q.2.2)
def maxP (p q : Pt) : Pt := (max p.1 q.1, max p.2.1 q.2.1, max p.2.2 q.2.2)
def legBox (p q : Pt) : BoxD := ⟨minP p q, maxP p q⟩
def legsOfPts : List Pt → List BoxD
 | p :: q :: r => legBox p q :: legsOfPts (q :: r)
 | _ => []
def isMain (b : BoxD) : Bool := decide (b.lo.1 < b.hi.1) && decide (b.lo.2.1 = b.hi.2.1) && decide (b.lo.2.2 = b.hi.2.2)
structure LaidD where
 bar : BarD
 pts : List Pt
def laidRun (bars : List BarD) (r : RunD) : List LaidD := match runBar bars r with
 | some x => (List.range r.count.toNat).map fun (k : Nat) => ⟨x, ptsOf x r k⟩
 | none => []
def laidAll (bars : List BarD) (runs : List RunD) : List LaidD := runs.flatMap (laidRun bars)
def mainLeg (x : LaidD) : Option BoxD := (legsOfPts x.pts).find? isMain
def lapsFit (ms : List (Option BoxD)) (j : JoinD) : Bool :=
 decide (0 ≤ j.first) && decide (j.first < ms.length) && decide (0 ≤ j.second) && decide (j.second < ms.length) &&
 (match ms.getD j.first.toNat none, ms.getD j.second.toNat none with
  | some a, some b => decide (a.lo.1 < b.lo.1) && decide (a.hi.1 < b.hi.1) && decide (b.lo.1 ≤ a.hi.1)
  | _, _ => false)
def lapsFrom (ms : List (Option BoxD)) : List Int → List Int → List JoinD → Bool
 | _, _, [] => true
 | f, s, j :: r => lapsFit ms j && !f.contains j.first && !s.contains j.second && lapsFrom ms (j.first :: f) (j.second :: s) r
def detHead (x : DetD) : Bool := memOk x.mem && laidOk x.bars x.runs && demsOk x.dems && ruleOk x.rule && decide (x.laps.length ≤ 1000)
def detOk (x : DetD) : Bool := detHead x && lapsFrom ((laidAll x.bars x.runs).map mainLeg) [] [] x.laps
/-! In memory. -/
def encPt (p : Pt) : List Value := [.int .i64 p.1, .int .i64 p.2.1, .int .i64 p.2.2]
theorem encPt_len (p : Pt) : (encPt p).length = 3 := rfl
theorem encPt_one (p : Pt) : ∀ u ∈ encPt p, u.oneCell' = true := by
 intro u hu
 simp only [encPt, List.mem_cons, List.not_mem_nil, or_false] at hu
 rcases hu with rfl | rfl | rfl <;> rfl
def encB (b : BoxD) : List Value := [.int .i64 b.lo.1, .int .i64 b.lo.2.1, .int .i64 b.lo.2.2, .int .i64 b.hi.1, .int .i64 b.hi.2.1, .int .i64 b.hi.2.2]
theorem encB_len (b : BoxD) : (encB b).length = 6 := rfl
theorem encB_one (b : BoxD) : ∀ u ∈ encB b, u.oneCell' = true := by
 intro u hu
 simp only [encB, List.mem_cons, List.not_mem_nil, or_false] at hu
 rcases hu with rfl | rfl | rfl | rfl | rfl | rfl <;> rfl
def encRun (r : RunD) : List Value := [.string r.mark, .int .i64 r.tx, .int .i64 r.ty, .int .i64 r.place.1, .int .i64 r.place.2.1, .int .i64 r.place.2.2, .int .i64 r.step.1, .int .i64 r.step.2.1, .int .i64 r.step.2.2, .int .i64 r.count]
theorem encRun_len (r : RunD) : (encRun r).length = 10 := rfl
def encJoin (j : JoinD) : List Value := [.int .i64 j.first, .int .i64 j.second]
theorem encJoin_len (j : JoinD) : (encJoin j).length = 2 := rfl
def encStp (p : Int × Int) : List Value := [.int .i64 p.1, .int .i64 p.2]
theorem encStp_len (p : Int × Int) : (encStp p).length = 2 := rfl
abbrev PtsAt (w : World) (B : Nat) (A : Option Addr) (l : List Pt) : Prop := SlOf w B 3 (Flat encPt) A l
abbrev BoxesAt (w : World) (B : Nat) (A : Option Addr) (l : List BoxD) : Prop := SlOf w B 6 (Flat encB) A l
abbrev RunsAt (w : World) (B : Nat) (A : Option Addr) (l : List RunD) : Prop := SlOf w B 10 (Flat encRun) A l
abbrev JoinsAt (w : World) (B : Nat) (A : Option Addr) (l : List JoinD) : Prop := SlOf w B 2 (Flat encJoin) A l
abbrev StpsAt (w : World) (B : Nat) (A : Option Addr) (l : List (Int × Int)) : Prop := SlOf w B 2 (Flat encStp) A l
def demR : World → Nat → List Value → DemD → Prop := fun w B vs d => ∃ A c, vs = [.string d.name] ++ encB d.zone ++ [.slice A d.steps.length c] ∧ StpsAt w B A d.steps
theorem demR_carried : Carried demR := fun _ _ _ _ _ _ hb hB ⟨A, c, h, hi⟩ => ⟨A, c, h, hi.carry (Flat.carried _) hb hB⟩
abbrev DemsAt (w : World) (B : Nat) (A : Option Addr) (l : List DemD) : Prop := SlOf w B 8 demR A l
section
variable {w : World} {B : Nat} {A : Option Addr}
theorem PtsAt.get {l : List Pt} (h : PtsAt w B A l) {k : Nat} (hk : k < l.length) :
  ∃ b off x, A = some ⟨b, off, none⟩ ∧ b < B ∧ l[k]? = some x ∧ w.cell? ⟨b, off + k * 3, none⟩ = some (.int .i64 x.1) ∧ w.cell? ⟨b, off + k * 3 + 1, none⟩ = some (.int .i64 x.2.1) ∧ w.cell? ⟨b, off + k * 3 + 2, none⟩ = some (.int .i64 x.2.2) := by
 obtain ⟨b, off, x, vs, hA, hb, hx, _, hr, hc⟩ := h.at_ hk
 have hr' : vs = encPt x := hr
 subst hr'
 exact ⟨b, off, x, hA, hb, hx, by simpa using hc 0 _ rfl, by simpa using hc 1 _ rfl, by simpa using hc 2 _ rfl⟩
theorem BoxesAt.get {l : List BoxD} (h : BoxesAt w B A l) {k : Nat} (hk : k < l.length) :
  ∃ b off x, A = some ⟨b, off, none⟩ ∧ b < B ∧ l[k]? = some x ∧ w.cell? ⟨b, off + k * 6, none⟩ = some (.int .i64 x.lo.1) ∧ w.cell? ⟨b, off + k * 6 + 1, none⟩ = some (.int .i64 x.lo.2.1) ∧ w.cell? ⟨b, off + k * 6 + 2, none⟩ = some (.int .i64 x.lo.2.2) ∧
   w.cell? ⟨b, off + k * 6 + 3, none⟩ = some (.int .i64 x.hi.1) ∧ w.cell? ⟨b, off + k * 6 + 4, none⟩ = some (.int .i64 x.hi.2.1) ∧ w.cell? ⟨b, off + k * 6 + 5, none⟩ = some (.int .i64 x.hi.2.2) := by
 obtain ⟨b, off, x, vs, hA, hb, hx, _, hr, hc⟩ := h.at_ hk
 have hr' : vs = encB x := hr
 subst hr'
 exact ⟨b, off, x, hA, hb, hx, by simpa using hc 0 _ rfl, by simpa using hc 1 _ rfl, by simpa using hc 2 _ rfl, by simpa using hc 3 _ rfl, by simpa using hc 4 _ rfl, by simpa using hc 5 _ rfl⟩
theorem RunsAt.get {l : List RunD} (h : RunsAt w B A l) {k : Nat} (hk : k < l.length) :
  ∃ b off x, A = some ⟨b, off, none⟩ ∧ b < B ∧ l[k]? = some x ∧ ∀ j v, (encRun x)[j]? = some v → w.cell? ⟨b, off + k * 10 + j, none⟩ = some v := by
 obtain ⟨b, off, x, vs, hA, hb, hx, _, hr, hc⟩ := h.at_ hk
 have hr' : vs = encRun x := hr
 subst hr'
 exact ⟨b, off, x, hA, hb, hx, hc⟩
theorem JoinsAt.get {l : List JoinD} (h : JoinsAt w B A l) {k : Nat} (hk : k < l.length) :
  ∃ b off x, A = some ⟨b, off, none⟩ ∧ b < B ∧ l[k]? = some x ∧ w.cell? ⟨b, off + k * 2, none⟩ = some (.int .i64 x.first) ∧ w.cell? ⟨b, off + k * 2 + 1, none⟩ = some (.int .i64 x.second) := by
 obtain ⟨b, off, x, vs, hA, hb, hx, _, hr, hc⟩ := h.at_ hk
 have hr' : vs = encJoin x := hr
 subst hr'
 exact ⟨b, off, x, hA, hb, hx, by simpa using hc 0 _ rfl, by simpa using hc 1 _ rfl⟩
theorem StpsAt.get {l : List (Int × Int)} (h : StpsAt w B A l) {k : Nat} (hk : k < l.length) :
  ∃ b off x, A = some ⟨b, off, none⟩ ∧ b < B ∧ l[k]? = some x ∧ w.cell? ⟨b, off + k * 2, none⟩ = some (.int .i64 x.1) ∧ w.cell? ⟨b, off + k * 2 + 1, none⟩ = some (.int .i64 x.2) := by
 obtain ⟨b, off, x, vs, hA, hb, hx, _, hr, hc⟩ := h.at_ hk
 have hr' : vs = encStp x := hr
 subst hr'
 exact ⟨b, off, x, hA, hb, hx, by simpa using hc 0 _ rfl, by simpa using hc 1 _ rfl⟩
theorem DemsAt.get {l : List DemD} (h : DemsAt w B A l) {k : Nat} (hk : k < l.length) :
  ∃ b off x A' c', A = some ⟨b, off, none⟩ ∧ b < B ∧ l[k]? = some x ∧ StpsAt w B A' x.steps ∧ ∀ j v, ([.string x.name] ++ encB x.zone ++ [.slice A' x.steps.length c'])[j]? = some v → w.cell? ⟨b, off + k * 8 + j, none⟩ = some v := by
 obtain ⟨b, off, x, vs, hA, hb, hx, _, ⟨A', c', hv, hi⟩, hc⟩ := h.at_ hk
 subst hv
 exact ⟨b, off, x, A', c', hA, hb, hx, hi, hc⟩
end
abbrev bx (b : BoxD) : Value := .agg #[.int .i64 b.lo.1, .int .i64 b.lo.2.1, .int .i64 b.lo.2.2, .int .i64 b.hi.1, .int .i64 b.hi.2.1, .int .i64 b.hi.2.2]
theorem at3_0 (a b c : Value) (w : World) : (Instr.index 276 (.agg #[a, b, c]) (.int .i64 0)).run Tryz.prog w = .ok a w := by kernel_rfl
theorem at3_1 (a b c : Value) (w : World) : (Instr.index 276 (.agg #[a, b, c]) (.int .i64 1)).run Tryz.prog w = .ok b w := by kernel_rfl
theorem at3_2 (a b c : Value) (w : World) : (Instr.index 276 (.agg #[a, b, c]) (.int .i64 2)).run Tryz.prog w = .ok c w := by kernel_rfl
set_option maxHeartbeats 400000 in
theorem coords_any (x y z : Int) (w : World) :
  Calls Tryz.prog 247 #[.agg #[.int .i64 x, .int .i64 y, .int .i64 z]] w fun e w' => e = .returned (.agg #[.int .i64 x, .int .i64 y, .int .i64 z]) ∧ Below w.heap.size w w' := by
 go_enter Tryz.func247, Tryz.ntmps247
 go_wp2_with fail
 refine bodyPost_ret (results_c rfl rfl (Blk.new1 w _ _ _) Tryz.underlying276 rfl (by kernel_rfl)) rfl ?_
 exact ⟨rfl, below_new2 w _ _⟩
set_option maxHeartbeats 1000000 in
theorem ends0_any (b : BoxD) (w : World) :
  Calls Tryz.prog 191 #[bx b, .int .i64 0] w fun e w' => e = .returned (.tuple #[.int .i64 b.lo.1, .int .i64 b.hi.1]) ∧ Below w.heap.size w w' := by
 obtain ⟨⟨x, y, z⟩, ⟨x2, y2, z2⟩⟩ := b
 have i0 := fun (a b c : Value) (w : World) => at3_0 a b c w
 go_enter Tryz.func191, Tryz.ntmps191
 go_wp2_with fail
 obtain ⟨w1, hw1⟩ : ∃ w1, w1 = w.alloc (.cells #[.int .i64 x, .int .i64 y, .int .i64 z, .int .i64 x2, .int .i64 y2, .int .i64 z2] 62) := ⟨_, rfl⟩
 have hb := Blk.new w 62 #[.int .i64 x, .int .i64 y, .int .i64 z, .int .i64 x2, .int .i64 y2, .int .i64 z2]
 have hw := hide (below_new w (.cells #[.int .i64 x, .int .i64 y, .int .i64 z, .int .i64 x2, .int .i64 y2, .int .i64 z2] 62))
 rw [← hw1] at hb hw ⊢
 have c0 := cell_regrown (hb.cell 0)
 have c1 := cell_regrown (hb.cell 1)
 have c2 := cell_regrown (hb.cell 2)
 have c3 := cell_regrown (hb.cell 3)
 have c4 := cell_regrown (hb.cell 4)
 have c5 := cell_regrown (hb.cell 5)
 clear hb hw1
 refine wp_region_quiet_below (by kernel_rfl) (by kernel_rfl) ?_
 repeat (go_big_quiet_step (first
  | (go_at_call 247; exact Calls.regrown_of (coords_any _ _ _ _))))
 refine wpQuiet_nil ?_
 intro w2 hw'
 have hbq := hide (show Below _ _ w2 by obtain ⟨p, rfl⟩ := hw'; exact below_regrown _ _ _)
 clear hw' c0 c1 c2 c3 c4 c5
 go_wp2_with fail
 go_ret2
 exact ⟨rfl, below_step hw.out hbq.out (Nat.le_refl _)⟩
set_option maxHeartbeats 1000000 in
theorem ends1_any (b : BoxD) (w : World) :
  Calls Tryz.prog 191 #[bx b, .int .i64 1] w fun e w' => e = .returned (.tuple #[.int .i64 b.lo.2.1, .int .i64 b.hi.2.1]) ∧ Below w.heap.size w w' := by
 obtain ⟨⟨x, y, z⟩, ⟨x2, y2, z2⟩⟩ := b
 have i0 := fun (a b c : Value) (w : World) => at3_1 a b c w
 go_enter Tryz.func191, Tryz.ntmps191
 go_wp2_with fail
 obtain ⟨w1, hw1⟩ : ∃ w1, w1 = w.alloc (.cells #[.int .i64 x, .int .i64 y, .int .i64 z, .int .i64 x2, .int .i64 y2, .int .i64 z2] 62) := ⟨_, rfl⟩
 have hb := Blk.new w 62 #[.int .i64 x, .int .i64 y, .int .i64 z, .int .i64 x2, .int .i64 y2, .int .i64 z2]
 have hw := hide (below_new w (.cells #[.int .i64 x, .int .i64 y, .int .i64 z, .int .i64 x2, .int .i64 y2, .int .i64 z2] 62))
 rw [← hw1] at hb hw ⊢
 have c0 := cell_regrown (hb.cell 0)
 have c1 := cell_regrown (hb.cell 1)
 have c2 := cell_regrown (hb.cell 2)
 have c3 := cell_regrown (hb.cell 3)
 have c4 := cell_regrown (hb.cell 4)
 have c5 := cell_regrown (hb.cell 5)
 clear hb hw1
 refine wp_region_quiet_below (by kernel_rfl) (by kernel_rfl) ?_
 repeat (go_big_quiet_step (first
  | (go_at_call 247; exact Calls.regrown_of (coords_any _ _ _ _))))
 refine wpQuiet_nil ?_
 intro w2 hw'
 have hbq := hide (show Below _ _ w2 by obtain ⟨p, rfl⟩ := hw'; exact below_regrown _ _ _)
 clear hw' c0 c1 c2 c3 c4 c5
 go_wp2_with fail
 go_ret2
 exact ⟨rfl, below_step hw.out hbq.out (Nat.le_refl _)⟩
set_option maxHeartbeats 1000000 in
theorem ends2_any (b : BoxD) (w : World) :
  Calls Tryz.prog 191 #[bx b, .int .i64 2] w fun e w' => e = .returned (.tuple #[.int .i64 b.lo.2.2, .int .i64 b.hi.2.2]) ∧ Below w.heap.size w w' := by
 obtain ⟨⟨x, y, z⟩, ⟨x2, y2, z2⟩⟩ := b
 have i0 := fun (a b c : Value) (w : World) => at3_2 a b c w
 go_enter Tryz.func191, Tryz.ntmps191
 go_wp2_with fail
 obtain ⟨w1, hw1⟩ : ∃ w1, w1 = w.alloc (.cells #[.int .i64 x, .int .i64 y, .int .i64 z, .int .i64 x2, .int .i64 y2, .int .i64 z2] 62) := ⟨_, rfl⟩
 have hb := Blk.new w 62 #[.int .i64 x, .int .i64 y, .int .i64 z, .int .i64 x2, .int .i64 y2, .int .i64 z2]
 have hw := hide (below_new w (.cells #[.int .i64 x, .int .i64 y, .int .i64 z, .int .i64 x2, .int .i64 y2, .int .i64 z2] 62))
 rw [← hw1] at hb hw ⊢
 have c0 := cell_regrown (hb.cell 0)
 have c1 := cell_regrown (hb.cell 1)
 have c2 := cell_regrown (hb.cell 2)
 have c3 := cell_regrown (hb.cell 3)
 have c4 := cell_regrown (hb.cell 4)
 have c5 := cell_regrown (hb.cell 5)
 clear hb hw1
 refine wp_region_quiet_below (by kernel_rfl) (by kernel_rfl) ?_
 repeat (go_big_quiet_step (first
  | (go_at_call 247; exact Calls.regrown_of (coords_any _ _ _ _))))
 refine wpQuiet_nil ?_
 intro w2 hw'
 have hbq := hide (show Below _ _ w2 by obtain ⟨p, rfl⟩ := hw'; exact below_regrown _ _ _)
 clear hw' c0 c1 c2 c3 c4 c5
 go_wp2_with fail
 go_ret2
 exact ⟨rfl, below_step hw.out hbq.out (Nat.le_refl _)⟩
theorem ends_any (b : BoxD) (k : Nat) (p : Int × Int) (h : (axes b)[k]? = some p) (w : World) :
  Calls Tryz.prog 191 #[bx b, .int .i64 k] w fun e w' => e = .returned (.tuple #[.int .i64 p.1, .int .i64 p.2]) ∧ Below w.heap.size w w' := by
 rcases k with _ | _ | _ | k
 ·simp [axes] at h; subst h; exact ends0_any b w
 ·simp [axes] at h; subst h; exact ends1_any b w
 ·simp [axes] at h; subst h; exact ends2_any b w
 ·simp [axes] at h
set_option maxHeartbeats 1000000 in
theorem boxValid_any (b : BoxD) (w : World) :
  Calls Tryz.prog 122 #[bx b] w fun e w' => e = .returned (.bool (boxOk b)) ∧ Below w.heap.size w w' := by
 have HE := hide (fun (k : Nat) (p : Int × Int) (h : (axes b)[k]? = some p) (w : World) => ends_any b k p h w)
 have HL := hide (show (axes b).length = 3 from rfl)
 have Hok := hide (show boxOk b = ((axes b).drop 0).all axisFine from rfl)
 obtain ⟨⟨x, y, z⟩, ⟨x2, y2, z2⟩⟩ := b
 obtain ⟨ax, hax⟩ : ∃ ax, ax = axes ⟨(x, y, z), (x2, y2, z2)⟩ := ⟨_, rfl⟩
 obtain ⟨rb, hrb⟩ : ∃ rb, rb = boxOk ⟨(x, y, z), (x2, y2, z2)⟩ := ⟨_, rfl⟩
 rw [← hax] at HE HL Hok
 rw [← hrb] at Hok ⊢
 clear hax hrb
 go_enter Tryz.func122, Tryz.ntmps122
 go_wp2_with fail
 obtain ⟨w1, hw1⟩ : ∃ w1, w1 = w.alloc (.cells #[.int .i64 x, .int .i64 y, .int .i64 z, .int .i64 x2, .int .i64 y2, .int .i64 z2] 62) := ⟨_, rfl⟩
 have hb := hide (Blk.new w 62 #[.int .i64 x, .int .i64 y, .int .i64 z, .int .i64 x2, .int .i64 y2, .int .i64 z2])
 have hw := hide (below_new w (.cells #[.int .i64 x, .int .i64 y, .int .i64 z, .int .i64 x2, .int .i64 y2, .int .i64 z2] 62))
 rw [← hw1] at hb hw ⊢
 clear hw1
 go_loopw [6] (fun i wr => ∃ k : Nat, k ≤ 3 ∧ i = .int .i64 k ∧ Hid (rb = (ax.drop k).all axisFine) ∧ Below w1.heap.size w1 wr) (fun i _ => 3 - (intOf i).toNat)
 case atStart => exact ⟨0, Nat.zero_le _, rfl, Hok, Below.refl _ _⟩
 case round =>
  obtain ⟨k, hk, rfl, hq, hbr⟩ := hrel
  by_cases hlt : k < 3
  ·obtain ⟨p, hp⟩ : ∃ p, ax[k]? = some p := ⟨_, List.getElem?_eq_getElem (by rw [HL.out]; exact hlt)⟩
   have hbk := hb.out.below hbr hb.out.lt
   have c0 := hbk.cell 0
   have c1 := hbk.cell 1
   have c2 := hbk.cell 2
   have c3 := hbk.cell 3
   have c4 := hbk.cell 4
   have c5 := hbk.cell 5
   simp at c0 c1 c2 c3 c4 c5
   have He := hide (HE.out k p hp wr)
   have Hn := hide (hq.out.trans (by rw [drop_at' hp, List.all_cons]))
   clear hbk hp hq
   obtain ⟨lo, hi⟩ := p
   simp only at He Hn
   cases ha : axisOk lo hi
   ·have hres := hide (show rb = false by rw [Hn.out, axisFine, ha]; rfl)
    have hcase : decide (hi < lo) = true ∨ (decide (hi < lo) = false ∧ decide (lo < -1048576) = true) ∨ (decide (hi < lo) = false ∧ decide (lo < -1048576) = false ∧ decide (1048576 < hi) = true) := by
     simp only [axisOk, Bool.and_eq_false_iff, zzI] at ha
     simp only [zzJ, zzI]
     omega
    clear ha Hn
    rcases hcase with q0 | ⟨q0, q1⟩ | ⟨q0, q1, q2⟩
    all_goals
     go_wp2_with (go_at_call 191; refine He.out.mono ?_; rintro e w2 ⟨rfl, hb2⟩)
     go_ret
     exact ⟨ret_bool hres.out.symm, below_step hw.out (hbr.trans (hb2.mono hbr.size)) (Nat.le_refl _)⟩
   ·have Hn2 := hide (Hn.out.trans (by rw [axisFine, ha, Bool.true_and]))
    have q0 : decide (hi < lo) = false := by simp [axisOk] at ha; simp; omega
    have q1 : decide (lo < -1048576) = false := by simp [axisOk] at ha; simp; omega
    have q2 : decide (1048576 < hi) = false := by simp [axisOk] at ha; simp; omega
    clear ha Hn
    go_wp2_with (go_at_call 191; refine He.out.mono ?_; rintro e w2 ⟨rfl, hb2⟩)
    have hb3 := hide (hbr.trans (hb2.mono hbr.size))
    clear hb2
    go_roundw
    case rel => exact ⟨k + 1, by omega, by go_num, Hn2, hb3.out⟩
    case measure => simp [intOf]; omega
  ·obtain rfl : k = 3 := by omega
   have hfull := hide (show rb = true by rw [hq.out, ← HL.out, List.drop_length]; rfl)
   go_wp2_with fail
   go_ret
   exact ⟨ret_bool hfull.out.symm, below_step hw.out hbr (Nat.le_refl _)⟩
theorem nearBy_iff {m : Int} {p : Pt} : nearBy m p = true ↔ (-m ≤ p.1 ∧ p.1 ≤ m) ∧ (-m ≤ p.2.1 ∧ p.2.1 ≤ m) ∧ (-m ≤ p.2.2 ∧ p.2.2 ≤ m) := by
 simp [nearBy, within, and_assoc]
theorem nearBy_mono {m n : Int} {p : Pt} (h : nearBy m p = true) (hm : m ≤ n) : nearBy n p = true := by
 rw [nearBy_iff] at h ⊢
 omega
theorem pathFrom_len (o : Pt) (l : List Pt) : (pathFrom o l).length = l.length + 1 := by
 induction l generalizing o with
 | nil => rfl
 | cons m r ih => rw [pathFrom, List.length_cons, ih, List.length_cons]
theorem pathOf_len (x : BarD) : (pathOf x).length = (legsOf x.code).length + 1 := by rw [pathOf, pathFrom_len, movesOf, List.length_map]
theorem legsOf_len (code : Int) : (legsOf code).length ≤ 6 := by
 unfold legsOf
 repeat' split
 all_goals decide
theorem path_near {x : BarD} (h : barOk x = true) : ∀ p ∈ pathOf x, nearBy 524288 p = true := by
 have hg := barGood_of h
 have hc : legsOf x.code ≠ [] := by
  intro he
  exact hg.legs (by simp [legLens, he])
 rw [barOk_pre] at h
 simp only [Bool.and_eq_true, barPre, zzJ] at h
 obtain ⟨⟨_, h5⟩, h6⟩ := h
 obtain ⟨mark, size, count, code, dims⟩ := x
 simp only at h5 h6 hc
 clear hg
 rcases code_cases hc with rfl | rfl | rfl | rfl | rfl | rfl | rfl | rfl
 all_goals
  simp [dimsN, legsOf] at h5
  rcases dims with _ | ⟨a, _ | ⟨b, _ | ⟨c, _ | ⟨d, _ | ⟨e, _ | ⟨f, r⟩⟩⟩⟩⟩⟩ <;> simp at h5 <;> (try omega)
  all_goals
   simp [fits] at h6
   intro p hp
   simp [pathOf, movesOf, legsOf, ptOf, legDim, pathFrom, addP] at hp
   rw [nearBy_iff]
   rcases hp with rfl | rfl | rfl | rfl | rfl | rfl | rfl <;> simp <;> omega
theorem mul_between {k c s : Int} (h0 : 0 ≤ k) (h1 : k ≤ c) : (0 ≤ s → 0 ≤ k * s ∧ k * s ≤ c * s) ∧ (s ≤ 0 → c * s ≤ k * s ∧ k * s ≤ 0) := by
 refine ⟨fun hs => ⟨Int.mul_nonneg h0 hs, Int.mul_le_mul_of_nonneg_right h1 hs⟩, fun hs => ⟨?_, ?_⟩⟩
 ·have := Int.mul_le_mul_of_nonneg_right h1 (show 0 ≤ -s by omega)
  rw [Int.mul_neg, Int.mul_neg] at this
  omega
 ·have := Int.mul_nonneg h0 (show 0 ≤ -s by omega)
  rw [Int.mul_neg] at this
  omega
theorem between {k c s p m : Int} (h0 : 0 ≤ k) (h1 : k ≤ c) (a : -m ≤ p + 0 * s ∧ p + 0 * s ≤ m) (b : -m ≤ p + c * s ∧ p + c * s ≤ m) : -m ≤ p + k * s ∧ p + k * s ≤ m := by
 obtain ⟨f, g⟩ := mul_between (s := s) h0 h1
 rcases Int.le_total 0 s with hs | hs
 ·have := f hs; omega
 ·have := g hs; omega
theorem near_between {k c : Int} {p s : Pt} {m : Int} (h0 : 0 ≤ k) (h1 : k ≤ c) (a : nearBy m (addP p (mulP 0 s)) = true) (b : nearBy m (addP p (mulP c s)) = true) : nearBy m (addP p (mulP k s)) = true := by
 rw [nearBy_iff] at a b ⊢
 simp only [addP, mulP] at a b ⊢
 exact ⟨between h0 h1 a.1 b.1, between h0 h1 a.2.1 b.2.1, between h0 h1 a.2.2 b.2.2⟩
theorem run_near {x : BarD} {r : RunD} {m k : Int} (h0 : (ptsOf x r 0).all (nearBy m) = true) (h1 : (ptsOf x r (r.count - 1)).all (nearBy m) = true) (hk : 0 ≤ k) (hk1 : k ≤ r.count - 1) : ∀ p ∈ ptsOf x r k, nearBy m p = true := by
 intro p hp
 obtain ⟨q, hq, rfl⟩ := List.mem_map.1 hp
 exact near_between hk hk1 (List.all_eq_true.1 h0 _ (List.mem_map.2 ⟨q, hq, rfl⟩)) (List.all_eq_true.1 h1 _ (List.mem_map.2 ⟨q, hq, rfl⟩))
theorem isMain_leg (p q : Pt) : isMain (legBox p q) = (!decide (p.1 = q.1) && decide (p.2.1 = q.2.1) && decide (p.2.2 = q.2.2)) := by
 rw [Bool.eq_iff_iff]
 simp only [isMain, legBox, minP, maxP, Bool.and_eq_true, zzJ, Bool.not_eq_true', zzI]
 obtain ⟨p1, p2, p3⟩ := p
 obtain ⟨q1, q2, q3⟩ := q
 simp only [Int.min_def, Int.max_def]
 repeat' split
 all_goals
  simp only [zzJ]
  omega
theorem legsOfPts_len : ∀ l : List Pt, (legsOfPts l).length = l.length - 1 := by
 intro l
 induction l with
 | nil => rfl
 | cons p r ih =>
  cases r with
  | nil => rfl
  | cons q r => rw [legsOfPts, List.length_cons, ih]; simp
theorem legsOfPts_at : ∀ (l : List Pt) (k : Nat) (p q : Pt), l[k]? = some p → l[k + 1]? = some q → (legsOfPts l)[k]? = some (legBox p q) := by
 intro l
 induction l with
 | nil => intro k p q h _; simp at h
 | cons x r ih =>
  intro k p q hp hq
  cases r with
  | nil => simp at hq
  | cons y r =>
   cases k with
   | zero =>
    simp only [List.getElem?_cons_zero, Option.some.injEq, List.getElem?_cons_succ] at hp hq
    subst hp; subst hq
    rfl
   | succ k =>
    rw [legsOfPts, List.getElem?_cons_succ]
    exact ih k p q hp hq
theorem pathFrom_at : ∀ (l : List Pt) (o : Pt) (k : Nat) (p m : Pt), (pathFrom o l)[k]? = some p → l[k]? = some m → (pathFrom o l)[k + 1]? = some (addP p m) := by
 intro l
 induction l with
 | nil => intro o k p m _ h; simp at h
 | cons x r ih =>
  intro o k p m hp hm
  cases k with
  | zero =>
   simp only [pathFrom, List.getElem?_cons_zero, Option.some.injEq] at hp
   simp only [List.getElem?_cons_zero, Option.some.injEq] at hm
   subst hp; subst hm
   rw [pathFrom, List.getElem?_cons_succ]
   cases r <;> rfl
  | succ k =>
   rw [pathFrom, List.getElem?_cons_succ] at hp ⊢
   exact ih _ k p m hp (by simpa using hm)
theorem pathOf_zero (x : BarD) : (pathOf x)[0]? = some (0, 0, 0) := by
 rw [pathOf]
 cases movesOf x <;> rfl
theorem pathOf_next {x : BarD} {k : Nat} {o : Pt} {p : Int × Int} (ho : (pathOf x)[k]? = some o) (hp : (legsOf x.code)[k]? = some p) : (pathOf x)[k + 1]? = some (addP o (ptOf p.2 (legDim x p))) :=
 pathFrom_at _ _ k o _ ho (by rw [movesOf, List.getElem?_map, hp]; rfl)
theorem legs_ways (code : Int) : ∀ p ∈ legsOf code, p.2 = 120 ∨ p.2 = 88 ∨ p.2 = 121 ∨ p.2 = 89 ∨ p.2 = 122 := by
 have h : (legsOf code).all (fun p => decide (p.2 = 120 ∨ p.2 = 88 ∨ p.2 = 121 ∨ p.2 = 89 ∨ p.2 = 122)) = true := by
  unfold legsOf
  (repeat' split) <;> rfl
 intro p hp
 have := List.all_eq_true.1 h p hp
 simpa using this
abbrev BarX := BarD × Option Addr × Nat
def encBarX (p : BarX) : List Value := [.string p.1.mark, .int .i64 p.1.size, .int .i64 p.1.count, .int .i64 p.1.code, .slice p.2.1 p.1.dims.length p.2.2]
theorem encBarX_len (p : BarX) : (encBarX p).length = 5 := rfl
theorem encBarX_one (p : BarX) : ∀ u ∈ encBarX p, u.oneCell' = true := by
 intro u hu
 simp only [encBarX, List.mem_cons, List.not_mem_nil, or_false] at hu
 rcases hu with rfl | rfl | rfl | rfl | rfl <;> rfl
abbrev DemX := DemD × Option Addr × Nat
def encDemX (p : DemX) : List Value := [.string p.1.name] ++ encB p.1.zone ++ [.slice p.2.1 p.1.steps.length p.2.2]
theorem encDemX_len (p : DemX) : (encDemX p).length = 8 := rfl
theorem encDemX_one (p : DemX) : ∀ u ∈ encDemX p, u.oneCell' = true := by
 intro u hu
 simp only [encDemX, List.mem_append, List.mem_singleton] at hu
 rcases hu with (rfl | hu) | rfl
 ·rfl
 ·exact encB_one _ u hu
 ·rfl
theorem encRun_one (p : RunD) : ∀ u ∈ encRun p, u.oneCell' = true := by
 intro u hu
 simp only [encRun, List.mem_cons, List.not_mem_nil, or_false] at hu
 rcases hu with rfl | rfl | rfl | rfl | rfl | rfl | rfl | rfl | rfl | rfl <;> rfl
theorem encJoin_one (p : JoinD) : ∀ u ∈ encJoin p, u.oneCell' = true := by
 intro u hu
 simp only [encJoin, List.mem_cons, List.not_mem_nil, or_false] at hu
 rcases hu with rfl | rfl <;> rfl
theorem encStp_one (p : Int × Int) : ∀ u ∈ encStp p, u.oneCell' = true := by
 intro u hu
 simp only [encStp, List.mem_cons, List.not_mem_nil, or_false] at hu
 rcases hu with rfl | rfl <;> rfl
theorem zip_fst {α β : Type} (f : Nat → β) : ∀ (l : List α) (k : Nat), ((l.zipIdx k).map fun p => (p.1, f p.2)).map (·.1) = l := by
 intro l
 induction l with
 | nil => intro k; rfl
 | cons a l ih => intro k; rw [List.zipIdx_cons, List.map_cons, List.map_cons, ih]
theorem zip_at {α β : Type} (f : Nat → β) {l : List α} {k : Nat} {p : α × β} (h : (l.zipIdx.map fun p => (p.1, f p.2))[k]? = some p) : l[k]? = some p.1 ∧ p.2 = f k := by
 rw [List.getElem?_map, List.getElem?_zipIdx] at h
 cases hx : l[k]? with
 | none => rw [hx] at h; cases h
 | some a =>
  rw [hx] at h
  simp at h
  rw [← h]
  exact ⟨rfl, rfl⟩
theorem split_rows {α β : Type} {enc : α × β → List Value} {S : World → Nat → α × β → Prop} {w : World} {B size : Nat} {R : World → Nat → List Value → α → Prop} {A : Option Addr} {l : List α}
  (hR : ∀ vs x, R w B vs x → ∃ y, vs = enc (x, y) ∧ S w B (x, y)) [Nonempty β] (h : SlOf w B size R A l) :
  ∃ L : List (α × β), L.map (·.1) = l ∧ SlOf w B size (Flat enc) A L ∧ ∀ p ∈ L, S w B p := by
 by_cases h0 : 0 < l.length
 ·obtain ⟨b, off, hA, hb, hc⟩ := h h0
  have key : ∀ k, ∃ y : β, ∀ x, l[k]? = some x → (enc (x, y)).length = size ∧ S w B (x, y) ∧ ∀ j v, (enc (x, y))[j]? = some v → w.cell? ⟨b, off + k * size + j, none⟩ = some v := by
   intro k
   cases hx : l[k]? with
   | none => exact ⟨Classical.ofNonempty, fun x hq => by cases hq⟩
   | some x =>
    obtain ⟨vs, hs, hr, hv⟩ := hc k x hx
    obtain ⟨y, rfl, hy⟩ := hR vs x hr
    exact ⟨y, fun x2 hq => by
     injection hq with hq
     subst hq
     exact ⟨hs, hy, hv⟩⟩
  let f := fun k => Classical.choose (key k)
  have hf := fun k => Classical.choose_spec (key k)
  refine ⟨l.zipIdx.map fun p => (p.1, f p.2), zip_fst f l 0, fun _ => ⟨b, off, hA, hb, fun k p hp => ?_⟩, fun p hp => ?_⟩
  ·obtain ⟨h1, h2⟩ := zip_at f hp
   obtain ⟨g1, g2, g3⟩ := hf k p.1 h1
   have hpe : p = (p.1, Classical.choose (key k)) := by rw [show Classical.choose (key k) = f k from rfl, ← h2]
   rw [hpe]
   exact ⟨_, g1, rfl, g3⟩
  ·obtain ⟨k, hk, hkp⟩ := List.getElem_of_mem hp
   obtain ⟨h1, h2⟩ := zip_at f (show _ = some p by rw [List.getElem?_eq_getElem hk, hkp])
   have hpe : p = (p.1, Classical.choose (key k)) := by rw [show Classical.choose (key k) = f k from rfl, ← h2]
   rw [hpe]
   exact (hf k p.1 h1).2.1
 ·have hl : l = [] := List.eq_nil_of_length_eq_zero (by omega)
  subst hl
  exact ⟨[], rfl, SlOf.nil _ _ _ _ _, fun p hp => by cases hp⟩
theorem join_rows {α β : Type} {enc : α × β → List Value} {S : World → Nat → α × β → Prop} {w : World} {B size : Nat} {R : World → Nat → List Value → α → Prop} {A : Option Addr} {L : List (α × β)}
  (hR : ∀ p, S w B p → R w B (enc p) p.1) (h : SlOf w B size (Flat enc) A L) (hS : ∀ p ∈ L, S w B p) : SlOf w B size R A (L.map (·.1)) := by
 intro hl
 rw [List.length_map] at hl
 obtain ⟨b, off, hA, hb, hc⟩ := h hl
 refine ⟨b, off, hA, hb, fun k x hx => ?_⟩
 rw [List.getElem?_map] at hx
 cases hp : L[k]? with
 | none => rw [hp] at hx; cases hx
 | some p =>
  rw [hp] at hx
  simp at hx
  subst hx
  obtain ⟨vs, hs, hr, hv⟩ := hc k p hp
  have hr' : vs = enc p := hr
  subst hr'
  exact ⟨_, hs, hR p (hS p (mem_of_get hp)), hv⟩
theorem bars_split {w : World} {B : Nat} {A : Option Addr} {l : List BarD} (h : BarsAt w B A l) : ∃ L : List BarX, L.map (·.1) = l ∧ SlOf w B 5 (Flat encBarX) A L ∧ ∀ p ∈ L, Ints w B p.2.1 p.1.dims :=
 split_rows (β := Option Addr × Nat) (enc := encBarX) (S := fun w B p => Ints w B p.2.1 p.1.dims) (fun _ _ ⟨A', c', hv, hi⟩ => ⟨(A', c'), hv, hi⟩) h
theorem bars_join {w : World} {B : Nat} {A : Option Addr} {L : List BarX} (h : SlOf w B 5 (Flat encBarX) A L) (hL : ∀ p ∈ L, Ints w B p.2.1 p.1.dims) : BarsAt w B A (L.map (·.1)) :=
 join_rows (β := Option Addr × Nat) (enc := encBarX) (S := fun w B p => Ints w B p.2.1 p.1.dims) (fun p hp => ⟨p.2.1, p.2.2, rfl, hp⟩) h hL
theorem dems_split {w : World} {B : Nat} {A : Option Addr} {l : List DemD} (h : DemsAt w B A l) : ∃ L : List DemX, L.map (·.1) = l ∧ SlOf w B 8 (Flat encDemX) A L ∧ ∀ p ∈ L, StpsAt w B p.2.1 p.1.steps :=
 split_rows (β := Option Addr × Nat) (enc := encDemX) (S := fun w B p => StpsAt w B p.2.1 p.1.steps) (fun _ _ ⟨A', c', hv, hi⟩ => ⟨(A', c'), hv, hi⟩) h
theorem dems_join {w : World} {B : Nat} {A : Option Addr} {L : List DemX} (h : SlOf w B 8 (Flat encDemX) A L) (hL : ∀ p ∈ L, StpsAt w B p.2.1 p.1.steps) : DemsAt w B A (L.map (·.1)) :=
 join_rows (β := Option Addr × Nat) (enc := encDemX) (S := fun w B p => StpsAt w B p.2.1 p.1.steps) (fun p hp => ⟨p.2.1, p.2.2, rfl, hp⟩) h hL
set_option maxHeartbeats 1000000 in
theorem barLegs_ok (x : BarD) (A : Option Addr) (c : Nat) (w : World) {B : Nat} (hA : Ints w B A x.dims) (hB : B ≤ w.heap.size) (hm : x.mark.size ≤ maxLen) (hd : x.dims.length ≤ 60000) (hok : barOk x = true) :
  Calls Tryz.prog 51 #[.agg #[.string x.mark, .int .i64 x.size, .int .i64 x.count, .int .i64 x.code, .slice A x.dims.length c]] w fun e w' =>
   ∃ A' c', e = .returned (.tuple #[.slice A' (legLens x).length c', .int .i64 0]) ∧ Ints w' w'.heap.size A' (legLens x) ∧ Below w.heap.size w w' := by
 have Hg := hide (barGood_of hok)
 have Hok := hide hok
 have hle := legsLen_le x.code
 have hbo := fun o => hide ((Below.refl B w).alloc hB o)
 clear hok
 go_enter Tryz.func51, Tryz.ntmps51
 go_wp2_with fail
 refine (barValid_any x A c _ (hA.carry (hbo _).out (Nat.le_refl _)) (le_alloc hB _) hm hd).mono ?_
 rintro e w1 ⟨rfl, hb1⟩
 rw [Hok.out]
 have hw1 := hide (below_step (below_new w _) hb1 (Nat.le_refl _))
 have b0 := (Blk.new w 50 #[.string x.mark, .int .i64 x.size, .int .i64 x.count, .int .i64 x.code, .slice A x.dims.length c]).keep hb1
 have c3 := b0.cell 3
 simp at c3
 have hA1 := hide (hA.carry ((hbo _).out.trans (hb1.mono (le_alloc hB _))) (Nat.le_refl _))
 clear hA hb1 hbo
 have B0 := hide b0
 clear b0
 go_wp2_with fail
 refine (legs_any _ _).mono ?_
 rintro e w2 ⟨L, rfl, hL, hb2⟩
 have hw2 := hide (below_step hw1.out hb2 (Nat.le_refl _))
 have B2 := hide (B0.out.keep hb2)
 have hA2 := hide (hA1.out.carry (hb2.mono (Nat.le_trans hB hw1.out.size)) (Nat.le_refl _))
 have hB2 := Nat.le_trans hB hw2.out.size
 have HL := hide hL
 clear hL hb2 B0 hA1 hw1 c3
 go_wp2_with fail
 go_loopw [4, 14] (fun v i wr => ∃ k : Nat, k ≤ legsLen x.code ∧ i = .int .i64 k ∧ (∃ acc, Row wr w2.heap.size 3 1 encInt v acc ∧ Hid (acc = ((legsOf x.code).take k).map (legDim x))) ∧ Below w2.heap.size w2 wr) (fun _ i _ => legsLen x.code - (intOf i).toNat)
 case atStart => exact ⟨0, Nat.zero_le _, rfl, ⟨[], Row.nil _ _ _ _ _, hide rfl⟩, Below.refl _ _⟩
 case round =>
  obtain ⟨k, hk, rfl, ⟨acc, hrow, hacc⟩, hbr⟩ := hrel
  obtain ⟨A0, c0, rfl⟩ := hrow.val
  by_cases hlt : k < legsLen x.code
  ·obtain ⟨b, off, d, y, rfl, hbl, hx, hc0, hc1⟩ := HL.out.get (k := k) hlt
   obtain ⟨hd0, hd1, hd2, hd3, hd4⟩ := Hg.out.leg _ (mem_of_get hx)
   obtain ⟨b', off', z, rfl, hbl', hz, hcz⟩ := Ints.get (k := d.toNat) (hA2.out.carry (hbr.mono hB2) (Nat.le_refl _)) hd1
   rw [← hbr.cell (by exact hbl)] at hc0 hc1
   have hz' : z = legDim x (d, y) := by simp only [hd2] at hz; injection hz with hz; exact hz.symm
   have Hx := hide hx
   have Hz := hide hz'
   have c4 := (B2.out.below hbr (B2.out.lt)).cell 4
   simp at c4
   have Hrow := hide hrow
   simp only at hd0 hd1
   have l0 : w.heap.size < wr.heap.size := Nat.lt_of_lt_of_le B2.out.lt hbr.size
   have l1 : b' < wr.heap.size := Nat.lt_of_lt_of_le hbl' (Nat.le_trans hB2 hbr.size)
   clear hx hz hz' hbl hbl' hd2 hd3 hd4 hrow HL hA2
   have hal : acc.length ≤ 1000000 := by rw [hacc.out]; simp; omega
   have hbs := fun o o' => hide (le_alloc (le_alloc hbr.size o) o')
   go_wp2_with (at_builtin; refine wpList_append1 rfl (.tmp 18) (.tmp 25) 48 rfl w2.heap.size 3 (.int .i64 0) 1 8 encInt Tryz.underlying48 (by kernel_rfl) rfl (by omega) encInt_len encInt_one _ acc z rfl ((Hrow.out.alloc _).alloc _) _ rfl (Blk.new1 wr _ _ _) hal (by omega) (hbs _ _).out ?_; intro A1 c1 w3 hrow3 hb3 _)
   go_roundw
   case rel => exact ⟨k + 1, by omega, by go_num, ⟨acc ++ [z], hrow3, hide (by rw [hacc.out, take_snoc' Hx.out, List.map_append, Hz.out]; rfl)⟩, (((hbr.alloc hbr.size _).alloc (le_alloc hbr.size _) _)).trans hb3⟩
   case measure => simp [intOf]; omega
  ·obtain rfl : k = legsLen x.code := by omega
   have hacc' : acc = legLens x := by rw [hacc.out, List.take_of_length_le (by simp [legsLen])]; rfl
   subst hacc'
   have Hrow := hide hrow
   clear hrow
   go_wp2_with fail
   go_ret2
   exact ⟨_, _, rfl, Row.read Hrow.out encInt_len (by omega), below_step hw2.out hbr (Nat.le_refl _)⟩
def okFrom : Int → List Int → Bool
 | s, [] => decide (s ≤ 262144)
 | s, d :: r => decide (1 ≤ d) && decide (d ≤ 1048576) && okFrom (s + d) r
theorem okFrom_big : ∀ (l : List Int) (s : Int), 262144 < s → okFrom s l = false := by
 intro l
 induction l with
 | nil => intro s h; simp [okFrom]; omega
 | cons d r ih =>
  intro s h
  rw [okFrom]
  by_cases hd : 1 ≤ d
  ·rw [ih (s + d) (by omega)]; simp
  ·simp [hd]
theorem okFrom_fits : ∀ (l : List Int) (s : Int), s ≤ 262144 → 0 ≤ s → okFrom s l = fits (262144 - s) l := by
 intro l
 induction l with
 | nil => intro s h _; simp [okFrom, fits, h]
 | cons d r ih =>
  intro s h h0
  rw [okFrom, fits]
  by_cases hd : 1 ≤ d
  ·by_cases hr : d ≤ 262144 - s
   ·rw [ih (s + d) (by omega) (by omega), show 262144 - (s + d) = 262144 - s - d by omega]
    simp [hd, hr]; omega
   ·rw [okFrom_big r (s + d) (by omega)]; simp [hr]
  ·simp [hd]
set_option maxHeartbeats 1000000 in
theorem refBarValid_any (x : BarD) (A : Option Addr) (c : Nat) (w : World) {B : Nat} (hA : Ints w B A x.dims) (hB : B ≤ w.heap.size) (hm : x.mark.size ≤ maxLen) (hd : x.dims.length ≤ 60000) :
    Calls Tryz.prog 141 #[.agg #[.string x.mark, .int .i64 x.size, .int .i64 x.count, .int .i64 x.code, .slice A x.dims.length c]] w fun e w' => e = .returned (.bool (barOk x)) ∧ Below w.heap.size w w' := by
  rw [barOk_pre]
  obtain ⟨mark, size, count, code, dims⟩ := x
  simp only at hA hm hd ⊢
  have b0 := Blk.new w 50 #[.string mark, .int .i64 size, .int .i64 count, .int .i64 code, .slice A dims.length c]
  have c0 := cell_regrown ((b0.cell 0).trans rfl)
  have c1 := cell_regrown ((b0.cell 1).trans rfl)
  have c2 := cell_regrown ((b0.cell 2).trans rfl)
  have c3 := cell_regrown ((b0.cell 3).trans rfl)
  have c4 := cell_regrown ((b0.cell 4).trans rfl)
  have cN := fun W => refIsName_any mark W hm
  have cS := fun W => refSize_any size W
  have hf : barPre ⟨mark, size, count, code, dims⟩ = (decide (dimsE code = 0) && isName mark && isSize size && decide (1 ≤ count) && decide (count ≤ 1000) && decide ((dims.length : Int) = dimsN code)) := rfl
  rw [hf]
  clear b0 hf
  have CS := hide cS
  cases hN : isName mark
  · rw [hN] at cN
    have CN := hide cN
    rw [show (decide (dimsE code = 0) && false && isSize size && decide (1 ≤ count) && decide (count ≤ 1000) && decide ((dims.length : Int) = dimsN code) && fits 262144 dims) = false by simp]
    clear cN cS hN hA
    go_enter Tryz.func141, Tryz.ntmps141
    go_wp2_with fail
    refine wp_region_quiet_below (by kernel_rfl) (by kernel_rfl) ?_
    repeat (go_big_quiet_step (first
      | (go_at_call 85; exact regrown_same (CN.out _))
      | (go_at_call 203; exact Calls.regrown_of (CS.out _))
      | (go_at_call 204; exact regrown_same (refDims_any _ _))))
    refine wpQuiet_nil ?_
    intro w2 hw'
    have hbq := hide (show Below _ _ w2 by obtain ⟨p, rfl⟩ := hw'; exact below_regrown _ _ _)
    clear hw'
    go_wp2_with fail
    go_ret
    exact ⟨rfl, below_step (below_new _ _) hbq.out (Nat.le_refl _)⟩
  rw [hN] at cN
  have CN := hide cN
  clear cN hN
  cases hS : isSize size
  · rw [hS] at cS
    have CS := hide cS
    rw [show (decide (dimsE code = 0) && true && false && decide (1 ≤ count) && decide (count ≤ 1000) && decide ((dims.length : Int) = dimsN code) && fits 262144 dims) = false by simp]
    clear cS hS hA
    go_enter Tryz.func141, Tryz.ntmps141
    go_wp2_with fail
    refine wp_region_quiet_below (by kernel_rfl) (by kernel_rfl) ?_
    repeat (go_big_quiet_step (first
      | (go_at_call 85; exact regrown_same (CN.out _))
      | (go_at_call 203; exact Calls.regrown_of (CS.out _))
      | (go_at_call 204; exact regrown_same (refDims_any _ _))))
    refine wpQuiet_nil ?_
    intro w2 hw'
    have hbq := hide (show Below _ _ w2 by obtain ⟨p, rfl⟩ := hw'; exact below_regrown _ _ _)
    clear hw'
    go_wp2_with fail
    go_ret
    exact ⟨rfl, below_step (below_new _ _) hbq.out (Nat.le_refl _)⟩
  rw [hS] at cS
  have CS := hide cS
  clear cS hS
  by_cases h3 : count < 1
  · rw [show (decide (dimsE code = 0) && true && true && decide (1 ≤ count) && decide (count ≤ 1000) && decide ((dims.length : Int) = dimsN code) && fits 262144 dims) = false by rw [show decide (1 ≤ count) = false by simp; omega]; simp]
    have hd3 : decide (count < 1) = true := by simpa using h3
    clear hA
    go_enter Tryz.func141, Tryz.ntmps141
    go_wp2_with fail
    refine wp_region_quiet_below (by kernel_rfl) (by kernel_rfl) ?_
    repeat (go_big_quiet_step (first
      | (go_at_call 85; exact regrown_same (CN.out _))
      | (go_at_call 203; exact Calls.regrown_of (CS.out _))
      | (go_at_call 204; exact regrown_same (refDims_any _ _))))
    refine wpQuiet_nil ?_
    intro w2 hw'
    have hbq := hide (show Below _ _ w2 by obtain ⟨p, rfl⟩ := hw'; exact below_regrown _ _ _)
    clear hw'
    go_wp2_with fail
    go_ret
    exact ⟨rfl, below_step (below_new _ _) hbq.out (Nat.le_refl _)⟩
  have h3' : 1 ≤ count := by omega
  have hd3 : decide (count < 1) = false := by simp; omega
  clear h3
  by_cases h4 : 1000 < count
  · rw [show (decide (dimsE code = 0) && true && true && decide (1 ≤ count) && decide (count ≤ 1000) && decide ((dims.length : Int) = dimsN code) && fits 262144 dims) = false by rw [show decide (count ≤ 1000) = false by simp; omega]; simp]
    have hd4 : decide (1000 < count) = true := by simpa using h4
    clear hA
    go_enter Tryz.func141, Tryz.ntmps141
    go_wp2_with fail
    refine wp_region_quiet_below (by kernel_rfl) (by kernel_rfl) ?_
    repeat (go_big_quiet_step (first
      | (go_at_call 85; exact regrown_same (CN.out _))
      | (go_at_call 203; exact Calls.regrown_of (CS.out _))
      | (go_at_call 204; exact regrown_same (refDims_any _ _))))
    refine wpQuiet_nil ?_
    intro w2 hw'
    have hbq := hide (show Below _ _ w2 by obtain ⟨p, rfl⟩ := hw'; exact below_regrown _ _ _)
    clear hw'
    go_wp2_with fail
    go_ret
    exact ⟨rfl, below_step (below_new _ _) hbq.out (Nat.le_refl _)⟩
  have h4' : count ≤ 1000 := by omega
  have hd4 : decide (1000 < count) = false := by simp; omega
  clear h4
  by_cases h5 : dimsN code = 0
  · rw [show (decide (dimsE code = 0) && true && true && decide (1 ≤ count) && decide (count ≤ 1000) && decide ((dims.length : Int) = dimsN code) && fits 262144 dims) = false by simp [dimsE, h5]]
    have h5' : (dimsN code == 0) = true := by simpa using h5
    clear hA h5
    go_enter Tryz.func141, Tryz.ntmps141
    go_wp2_with fail
    refine wp_region_quiet_below (by kernel_rfl) (by kernel_rfl) ?_
    repeat (go_big_quiet_step (first
      | (go_at_call 85; exact regrown_same (CN.out _))
      | (go_at_call 203; exact Calls.regrown_of (CS.out _))
      | (go_at_call 204; exact regrown_same (refDims_any _ _))))
    refine wpQuiet_nil ?_
    intro w2 hw'
    have hbq := hide (show Below _ _ w2 by obtain ⟨p, rfl⟩ := hw'; exact below_regrown _ _ _)
    clear hw'
    go_wp2_with fail
    go_ret
    exact ⟨rfl, below_step (below_new _ _) hbq.out (Nat.le_refl _)⟩
  have h5' : (dimsN code == 0) = false := by simpa using h5
  have h5e : dimsE code = 0 := by simp [dimsE, h5]
  by_cases h6 : (dims.length : Int) = dimsN code
  · have h6' : ((dims.length : Int) != dimsN code) = false := by simp [h6]
    rw [show (decide (dimsE code = 0) && true && true && decide (1 ≤ count) && decide (count ≤ 1000) && decide ((dims.length : Int) = dimsN code) && fits 262144 dims) = fits 262144 dims by simp [h5e, h3', h4', h6]]
    have hlen : dims.length ≤ 5 := by
      have : dimsN code ≤ 5 := by
        rw [← refDims_eq]; unfold refDims; (repeat' split) <;> omega
      omega
    clear h5 h5e h6
    have hA' := hide hA
    clear hA
    rw [show fits 262144 dims = okFrom 0 dims by rw [okFrom_fits _ _ (by omega) (by omega)]; rfl]
    go_enter Tryz.func141, Tryz.ntmps141
    go_wp2_with fail
    refine wp_region_quiet_below (by kernel_rfl) (by kernel_rfl) ?_
    repeat (go_big_quiet_step (first
      | (go_at_call 85; exact regrown_same (CN.out _))
      | (go_at_call 203; exact Calls.regrown_of (CS.out _))
      | (go_at_call 204; exact regrown_same (refDims_any _ _))))
    refine wpQuiet_nil ?_
    intro w2 hw'
    have hbq := hide (show Below _ _ w2 by obtain ⟨p, rfl⟩ := hw'; exact below_regrown _ _ _)
    clear hw'
    have hbw := hide (below_step (below_new w _) hbq.out (Nat.le_refl _))
    have hA2 := hide (hA'.out.carry (hbw.out.mono hB) (Nat.le_refl _))
    have d4 := ((Blk.new w 50 #[.string mark, .int .i64 size, .int .i64 count, .int .i64 code, .slice A dims.length c]).keep hbq.out).cell 4
    simp at d4
    clear c0 c1 c2 c3 c4 hA' hbq
    go_wp2_with fail
    go_loop [3, 4] (fun t i => ∃ k : Nat, k ≤ dims.length ∧ i = .int .i64 k ∧ ∃ s : Int, 0 ≤ s ∧ s ≤ 1048576 * k ∧ t = .int .i64 s ∧ Hid (okFrom 0 dims = okFrom s (dims.drop k))) (fun _ i => dims.length - (intOf i).toNat)
    case atStart => exact ⟨0, Nat.zero_le _, rfl, 0, by omega, by omega, rfl, hide rfl⟩
    case round =>
      obtain ⟨k, hk, rfl, s, hs0, hs1, rfl, hf⟩ := hrel
      by_cases hlt : k < dims.length
      · obtain ⟨b, off, y, rfl, hbl, hy, hc⟩ := hA2.out.get (k := k) hlt
        have Hf := hide (hf.out.trans (by rw [drop_at' hy, okFrom]))
        clear hy hbl hA2 hf
        go_wp2_with fail
        all_goals first
          | (go_ret; exact ⟨ret_bool (by rw [Hf.out]; simp_all <;> omega), hbw.out⟩)
          | (go_round
             case rel => exact ⟨k + 1, by omega, by go_num, s + y, by omega, by omega, rfl, hide (by rw [Hf.out]; simp_all)⟩
             case measure => simp [intOf]; omega)
      · obtain rfl : k = dims.length := by omega
        go_wp2_with fail
        go_ret
        exact ⟨ret_bool (by rw [hf.out]; simp [okFrom]), hbw.out⟩
  · have h6' : ((dims.length : Int) != dimsN code) = true := by simp [h6]
    rw [show (decide (dimsE code = 0) && true && true && decide (1 ≤ count) && decide (count ≤ 1000) && decide ((dims.length : Int) = dimsN code) && fits 262144 dims) = false by simp [h6]]
    clear hA h5 h5e h6
    go_enter Tryz.func141, Tryz.ntmps141
    go_wp2_with fail
    refine wp_region_quiet_below (by kernel_rfl) (by kernel_rfl) ?_
    repeat (go_big_quiet_step (first
      | (go_at_call 85; exact regrown_same (CN.out _))
      | (go_at_call 203; exact Calls.regrown_of (CS.out _))
      | (go_at_call 204; exact regrown_same (refDims_any _ _))))
    refine wpQuiet_nil ?_
    intro w2 hw'
    have hbq := hide (show Below _ _ w2 by obtain ⟨p, rfl⟩ := hw'; exact below_regrown _ _ _)
    clear hw'
    go_wp2_with fail
    go_ret
    exact ⟨rfl, below_step (below_new _ _) hbq.out (Nat.le_refl _)⟩
set_option maxHeartbeats 400000 in
theorem refFind_any (A : Option Addr) (l : List BarD) (n c : Nat) (m : ByteArray) (w : World) {B : Nat} (h : BarsAt w B A l) (hn : n = l.length) (hm : n ≤ 60000) :
  Calls Tryz.prog 142 #[.slice A n c, .string m] w fun e w' => e = .returned (.int .i64 (idx (markIs m) l)) ∧ w = w' := by
 have hn' := hide hn
 have Hs := hide h
 clear hn h
 go_enter Tryz.func142, Tryz.ntmps142
 go_wp2_with fail
 go_loop [5] (fun i => ∃ k : Nat, k ≤ n ∧ i = .int .i64 k ∧ NoneTo (markIs m) l k) (fun i => n - (intOf i).toNat)
 case atStart => exact ⟨0, Nat.zero_le _, rfl, NoneTo.zero _ _⟩
 case round =>
  obtain ⟨k, hk, rfl, hw⟩ := hrel
  by_cases hlt : k < n
  ·obtain ⟨b, off, x, A', c', hA, hbl, hx, hi, h0, h1, h2, h3, h4⟩ := BarsAt.get (k := k) Hs.out (by rw [← hn'.out]; exact hlt)
   subst hA
   have Hx := hide hx
   clear hx hi hbl h1 h2 h3 h4
   cases hp : markIs m x
   ·have Hp := hide hp
    have hq : (x.mark.toList == m.toList) = false := hp
    clear hp
    go_wp2_with fail
    go_round
    case rel => exact ⟨k + 1, by omega, by go_num, hw.succ Hx.out Hp.out⟩
    case measure => simp [intOf]; omega
   ·have Hp := hide hp
    have hq : (x.mark.toList == m.toList) = true := hp
    clear hp
    go_wp2_with fail
    go_ret
    exact ⟨ret_int (hw.hit Hx.out Hp.out).symm, rfl⟩
  ·obtain rfl : k = n := by omega
   go_wp2_with fail
   go_ret
   exact ⟨ret_int (NoneTo.miss (by rw [← hn'.out]; exact hw)).symm, rfl⟩
set_option maxHeartbeats 1000000 in
theorem refSchedValid_any (A : Option Addr) (l : List BarD) (n c : Nat) (w : World) {B : Nat} (h : BarsAt w B A l) (hB : B ≤ w.heap.size) (hn : n = l.length) (hg : Tame l) (hm : n ≤ 60000) :
  Calls Tryz.prog 87 #[.slice A n c] w fun e w' => e = .returned (.bool (schedOk l)) ∧ Below w.heap.size w w' := by
 have hn' := hide hn
 have Hg := hide hg
 by_cases h60 : n ≤ 60
 ·have hs : schedOk l = schedFrom l 0 l := by simp [schedOk, ← hn, h60]
  rw [hs]
  clear hs hn hg hm
  go_enter Tryz.func87, Tryz.ntmps87
  go_wp2_with fail
  go_loopw [3] (fun i wr => ∃ k : Nat, k ≤ n ∧ i = .int .i64 k ∧ Hid (schedFrom l 0 l = schedFrom l k (l.drop k)) ∧ Below w.heap.size w wr) (fun i _ => n - (intOf i).toNat)
  case atStart => exact ⟨0, Nat.zero_le _, rfl, hide rfl, Below.refl _ _⟩
  case round =>
   obtain ⟨k, hk, rfl, hw, hb⟩ := hrel
   by_cases hlt : k < n
   ·have HR := hide (h.carry (hb.mono hB) (Nat.le_refl _))
    have hBr := Nat.le_trans hB hb.size
    obtain ⟨b, off, x, A', c', hA, hbl, hx, hi, h0, h1, h2, h3, h4⟩ := BarsAt.get (k := k) HR.out (by rw [← hn'.out]; exact hlt)
    have HA := hide hA
    subst hA
    have Hx := hide hx
    have hgx := Hg.out x (mem_of_get hx)
    have Hw := hide (hw.out.trans (by rw [drop_at' hx, schedFrom]))
    have Hi := hide hi
    clear hx hi h hw
    go_wp2_with fail
    refine (refBarValid_any x A' c' _ Hi.out hBr hgx.1 hgx.2).mono ?_
    rintro e w1 ⟨rfl, hb1⟩
    have c0 := (hb1.cell (p := ⟨b, off + k * 5, none⟩) (Nat.lt_of_lt_of_le hbl hBr)).trans h0
    have hbw1 := hide (below_step hb hb1 (Nat.le_refl _))
    have hB1 := hide (HR.out.carry (hb1.mono hBr) (Nat.le_refl _))
    clear h0 h1 h2 h3 h4 hb1 HR Hi
    cases hp : barOk x
    ·have Hp := hide hp
     clear hp
     go_wp2_with fail
     go_ret
     exact ⟨ret_bool (by rw [Hw.out, Hp.out]; rfl), hbw1.out⟩
    ·have Hp := hide hp
     clear hp
     go_wp2_with fail
     refine (refFind_any _ l n c x.mark _ hB1.out hn'.out (by omega)).mono ?_
     rintro e w2 ⟨rfl, rfl⟩
     clear c0
     cases hq : decide (idx (markIs x.mark) l = k)
     ·have Hq := hide hq
      have hq' : (idx (markIs x.mark) l != (k : Int)) = true := by simpa using hq
      clear hq
      go_wp2_with fail
      go_ret
      exact ⟨ret_bool (by rw [Hw.out, Hp.out, Hq.out]; rfl), hbw1.out⟩
     ·have Hq := hide hq
      have hq' : (idx (markIs x.mark) l != (k : Int)) = false := by simpa using hq
      clear hq
      go_wp2_with fail
      go_roundw
      case rel => exact ⟨k + 1, by omega, by go_num, hide (by rw [Hw.out, Hp.out, Hq.out]; rfl), hbw1.out⟩
      case measure => simp [intOf]; omega
   ·obtain rfl : k = n := by omega
    go_wp2_with fail
    go_ret
    exact ⟨ret_bool (by rw [hw.out, List.drop_of_length_le (by rw [← hn'.out]; exact Nat.le_refl _)]; rfl), hb⟩
 ·have hs : schedOk l = false := by simp [schedOk, ← hn, h60]
  rw [hs]
  clear hs hn hg
  go_enter Tryz.func87, Tryz.ntmps87
  go_wp2_with fail
  go_ret
  exact ⟨rfl, Below.refl _ _⟩
theorem int_cell {w : World} {B : Nat} {b off k : Nat} {l : List Int} {y : Int} (h : Ints w B (some ⟨b, off, none⟩) l) (hy : l[k]? = some y) : w.cell? ⟨b, off + k, none⟩ = some (.int .i64 y) := by
 obtain ⟨b', off', z, hA, _, hz, hc⟩ := h.get (k := k) (lt_of_get hy)
 injection hA with hA
 injection hA with h1 h2
 subst h1; subst h2
 rw [hy] at hz; injection hz with hz; rw [hz]; exact hc
abbrev drawnAt (w : World) (d : Nat) : World := { w with drawn := d }
theorem pts_new2 {w : World} {o : Obj} {e : TypeId} {cs : Array Value} {l : List (Int × Int × Int)} {B : Nat} (hcs : cs.toList = l.flatMap encPt) (hB : w.heap.size + 1 < B) :
  PtsAt ((w.alloc o).alloc (.cells cs e)) B (some ⟨w.heap.size + 1, 0, none⟩) l := by
 have h := SlOf.lit encPt_len (w.alloc o) e cs l hcs (B := B) (by simpa using hB)
 simpa using h
theorem pts_drew2 {w : World} {e : TypeId} {cs : Array Value} {l : List (Int × Int × Int)} (hcs : cs.toList = l.flatMap encPt) :
  PtsAt ((w.alloc (.cells cs e)).drew) (w.alloc (.cells cs e)).drew.heap.size (some ⟨w.heap.size, 0, none⟩) l := by
 have h := SlOf.lit (B := w.heap.size + 1) encPt_len w e cs l hcs (by simp)
 have h2 := SlOf.carry (Flat.carried _) h (Below.drew (Below.refl (w.heap.size + 1) _)) (Nat.le_refl (w.heap.size + 1))
 simpa [World.drew] using h2
set_option maxHeartbeats 4000000 in
set_option maxRecDepth 100000 in
theorem refMoves0 (mark : ByteArray) (size count : Int) (d0 : Int) (A : Option Addr) (c : Nat) (w : World) {B : Nat} (hA : Ints w B A [d0]) (hB : B ≤ w.heap.size) (h0 : 1 ≤ d0 ∧ d0 ≤ 262144) :
  Calls Tryz.prog 154 #[.agg #[.string mark, .int .i64 size, .int .i64 count, .int .i64 0, .slice A 1 c]] w fun e w' =>
   ∃ A', e = .returned (.slice A' 1 1) ∧ PtsAt w' w'.heap.size A' [(d0, 0, 0)] ∧ Below w.heap.size w w' := by
 have hbo := fun o => hA.carry ((Below.refl B w).alloc hB o) (Nat.le_refl _)
 obtain ⟨b, off, hA', hbl, _⟩ := hA (by simp)
 subst hA'
 have c0 := fun o => int_cell (k := 0) (hbo o) rfl
 simp only [Nat.add_zero] at c0
 have hbl' : b < w.heap.size := by omega
 obtain ⟨l0, u0⟩ := h0
 clear hA hbo hbl
 go_enter Tryz.func154, Tryz.ntmps154
 go_wp2_with fail
 go_ret
 refine ⟨_, rfl, ?_, ?_⟩
 ·exact pts_new2 rfl (by simp)
 ·exact below_new2 w _ _
set_option maxHeartbeats 4000000 in
set_option maxRecDepth 100000 in
theorem refMoves11 (mark : ByteArray) (size count : Int) (d0 d1 : Int) (A : Option Addr) (c : Nat) (w : World) {B : Nat} (hA : Ints w B A [d0, d1]) (hB : B ≤ w.heap.size) (h0 : 1 ≤ d0 ∧ d0 ≤ 262144) (h1 : 1 ≤ d1 ∧ d1 ≤ 262144) :
  Calls Tryz.prog 154 #[.agg #[.string mark, .int .i64 size, .int .i64 count, .int .i64 11, .slice A 2 c]] w fun e w' =>
   ∃ A', e = .returned (.slice A' 2 2) ∧ PtsAt w' w'.heap.size A' [(d0, 0, 0), (0, d1, 0)] ∧ Below w.heap.size w w' := by
 have hbo := fun o => hA.carry ((Below.refl B w).alloc hB o) (Nat.le_refl _)
 obtain ⟨b, off, hA', hbl, _⟩ := hA (by simp)
 subst hA'
 have hb0 := hbo (.cells #[.string mark, .int .i64 size, .int .i64 count, .int .i64 11, .slice (some ⟨b, off, none⟩) 2 c] 50)
 have c0 : ∀ d, (drawnAt (w.alloc (.cells #[.string mark, .int .i64 size, .int .i64 count, .int .i64 11, .slice (some ⟨b, off, none⟩) 2 c] 50)) d).cell? ⟨b, off, none⟩ = some (.int .i64 d0) := fun _ => int_cell (k := 0) hb0 rfl
 have c1 : ∀ d, (drawnAt (w.alloc (.cells #[.string mark, .int .i64 size, .int .i64 count, .int .i64 11, .slice (some ⟨b, off, none⟩) 2 c] 50)) d).cell? ⟨b, off + 1, none⟩ = some (.int .i64 d1) := fun _ => int_cell (k := 1) hb0 rfl
 obtain ⟨l0, u0⟩ := h0
 obtain ⟨l1, u1⟩ := h1
 have hbl' : b < w.heap.size := by omega
 clear hA hbo hbl hb0
 go_enter Tryz.func154, Tryz.ntmps154
 go_wp2_with fail
 obtain ⟨W, hW⟩ : ∃ W, W = w.alloc (.cells #[.string mark, .int .i64 size, .int .i64 count, .int .i64 11, .slice (some ⟨b, off, none⟩) 2 c] 50) := ⟨_, rfl⟩
 rw [← hW]
 simp only [← hW, drawnAt] at c0 c1
 have HW := hide hW
 clear hW
 go_still_tail 8, (by kernel_rfl)
 change wpList _ _ _ _ _ (World.drew W)
 clear c0 c1
 go_wp2_with fail
 obtain rfl := HW.out
 go_ret
 refine ⟨_, rfl, ?_, ?_⟩
 ·exact pts_drew2 rfl
 ·exact (below_new2 w _ _).drew
set_option maxHeartbeats 4000000 in
set_option maxRecDepth 100000 in
theorem refMoves21 (mark : ByteArray) (size count : Int) (d0 d1 d2 : Int) (A : Option Addr) (c : Nat) (w : World) {B : Nat} (hA : Ints w B A [d0, d1, d2]) (hB : B ≤ w.heap.size) (h0 : 1 ≤ d0 ∧ d0 ≤ 262144) (h1 : 1 ≤ d1 ∧ d1 ≤ 262144) (h2 : 1 ≤ d2 ∧ d2 ≤ 262144) :
  Calls Tryz.prog 154 #[.agg #[.string mark, .int .i64 size, .int .i64 count, .int .i64 21, .slice A 3 c]] w fun e w' =>
   ∃ A', e = .returned (.slice A' 3 3) ∧ PtsAt w' w'.heap.size A' [(0, -d0, 0), (d1, 0, 0), (0, d2, 0)] ∧ Below w.heap.size w w' := by
 have hbo := fun o => hA.carry ((Below.refl B w).alloc hB o) (Nat.le_refl _)
 obtain ⟨b, off, hA', hbl, _⟩ := hA (by simp)
 subst hA'
 have hb0 := hbo (.cells #[.string mark, .int .i64 size, .int .i64 count, .int .i64 21, .slice (some ⟨b, off, none⟩) 3 c] 50)
 have c0 : ∀ d, (drawnAt (w.alloc (.cells #[.string mark, .int .i64 size, .int .i64 count, .int .i64 21, .slice (some ⟨b, off, none⟩) 3 c] 50)) d).cell? ⟨b, off, none⟩ = some (.int .i64 d0) := fun _ => int_cell (k := 0) hb0 rfl
 have c1 : ∀ d, (drawnAt (w.alloc (.cells #[.string mark, .int .i64 size, .int .i64 count, .int .i64 21, .slice (some ⟨b, off, none⟩) 3 c] 50)) d).cell? ⟨b, off + 1, none⟩ = some (.int .i64 d1) := fun _ => int_cell (k := 1) hb0 rfl
 have c2 : ∀ d, (drawnAt (w.alloc (.cells #[.string mark, .int .i64 size, .int .i64 count, .int .i64 21, .slice (some ⟨b, off, none⟩) 3 c] 50)) d).cell? ⟨b, off + 2, none⟩ = some (.int .i64 d2) := fun _ => int_cell (k := 2) hb0 rfl
 obtain ⟨l0, u0⟩ := h0
 obtain ⟨l1, u1⟩ := h1
 obtain ⟨l2, u2⟩ := h2
 have hbl' : b < w.heap.size := by omega
 clear hA hbo hbl hb0
 go_enter Tryz.func154, Tryz.ntmps154
 go_wp2_with fail
 obtain ⟨W, hW⟩ : ∃ W, W = w.alloc (.cells #[.string mark, .int .i64 size, .int .i64 count, .int .i64 21, .slice (some ⟨b, off, none⟩) 3 c] 50) := ⟨_, rfl⟩
 rw [← hW]
 simp only [← hW, drawnAt] at c0 c1 c2
 have HW := hide hW
 clear hW
 go_still_tail 13, (by kernel_rfl)
 change wpList _ _ _ _ _ (World.drew W)
 clear c0 c1 c2
 go_wp2_with fail
 obtain rfl := HW.out
 go_ret
 refine ⟨_, rfl, ?_, ?_⟩
 ·exact pts_drew2 rfl
 ·exact (below_new2 w _ _).drew
set_option maxHeartbeats 4000000 in
set_option maxRecDepth 100000 in
theorem refMoves26 (mark : ByteArray) (size count : Int) (d0 d1 d2 : Int) (A : Option Addr) (c : Nat) (w : World) {B : Nat} (hA : Ints w B A [d0, d1, d2]) (hB : B ≤ w.heap.size) (h0 : 1 ≤ d0 ∧ d0 ≤ 262144) (h1 : 1 ≤ d1 ∧ d1 ≤ 262144) (h2 : 1 ≤ d2 ∧ d2 ≤ 262144) :
  Calls Tryz.prog 154 #[.agg #[.string mark, .int .i64 size, .int .i64 count, .int .i64 26, .slice A 3 c]] w fun e w' =>
   ∃ A', e = .returned (.slice A' 3 3) ∧ PtsAt w' w'.heap.size A' [(d0, 0, 0), (0, d1, 0), (d2, 0, 0)] ∧ Below w.heap.size w w' := by
 have hbo := fun o => hA.carry ((Below.refl B w).alloc hB o) (Nat.le_refl _)
 obtain ⟨b, off, hA', hbl, _⟩ := hA (by simp)
 subst hA'
 have hb0 := hbo (.cells #[.string mark, .int .i64 size, .int .i64 count, .int .i64 26, .slice (some ⟨b, off, none⟩) 3 c] 50)
 have c0 : ∀ d, (drawnAt (w.alloc (.cells #[.string mark, .int .i64 size, .int .i64 count, .int .i64 26, .slice (some ⟨b, off, none⟩) 3 c] 50)) d).cell? ⟨b, off, none⟩ = some (.int .i64 d0) := fun _ => int_cell (k := 0) hb0 rfl
 have c1 : ∀ d, (drawnAt (w.alloc (.cells #[.string mark, .int .i64 size, .int .i64 count, .int .i64 26, .slice (some ⟨b, off, none⟩) 3 c] 50)) d).cell? ⟨b, off + 1, none⟩ = some (.int .i64 d1) := fun _ => int_cell (k := 1) hb0 rfl
 have c2 : ∀ d, (drawnAt (w.alloc (.cells #[.string mark, .int .i64 size, .int .i64 count, .int .i64 26, .slice (some ⟨b, off, none⟩) 3 c] 50)) d).cell? ⟨b, off + 2, none⟩ = some (.int .i64 d2) := fun _ => int_cell (k := 2) hb0 rfl
 obtain ⟨l0, u0⟩ := h0
 obtain ⟨l1, u1⟩ := h1
 obtain ⟨l2, u2⟩ := h2
 have hbl' : b < w.heap.size := by omega
 clear hA hbo hbl hb0
 go_enter Tryz.func154, Tryz.ntmps154
 go_wp2_with fail
 obtain ⟨W, hW⟩ : ∃ W, W = w.alloc (.cells #[.string mark, .int .i64 size, .int .i64 count, .int .i64 26, .slice (some ⟨b, off, none⟩) 3 c] 50) := ⟨_, rfl⟩
 rw [← hW]
 simp only [← hW, drawnAt] at c0 c1 c2
 have HW := hide hW
 clear hW
 go_still_tail 12, (by kernel_rfl)
 change wpList _ _ _ _ _ (World.drew W)
 clear c0 c1 c2
 go_wp2_with fail
 obtain rfl := HW.out
 go_ret
 refine ⟨_, rfl, ?_, ?_⟩
 ·exact pts_drew2 rfl
 ·exact (below_new2 w _ _).drew
set_option maxHeartbeats 4000000 in
set_option maxRecDepth 100000 in
theorem refMoves31 (mark : ByteArray) (size count : Int) (d0 d1 d2 : Int) (A : Option Addr) (c : Nat) (w : World) {B : Nat} (hA : Ints w B A [d0, d1, d2]) (hB : B ≤ w.heap.size) (h0 : 1 ≤ d0 ∧ d0 ≤ 262144) (h1 : 1 ≤ d1 ∧ d1 ≤ 262144) (h2 : 1 ≤ d2 ∧ d2 ≤ 262144) :
  Calls Tryz.prog 154 #[.agg #[.string mark, .int .i64 size, .int .i64 count, .int .i64 31, .slice A 3 c]] w fun e w' =>
   ∃ A', e = .returned (.slice A' 3 3) ∧ PtsAt w' w'.heap.size A' [(d0, 0, 0), (0, d1, 0), (0, 0, d2)] ∧ Below w.heap.size w w' := by
 have hbo := fun o => hA.carry ((Below.refl B w).alloc hB o) (Nat.le_refl _)
 obtain ⟨b, off, hA', hbl, _⟩ := hA (by simp)
 subst hA'
 have hb0 := hbo (.cells #[.string mark, .int .i64 size, .int .i64 count, .int .i64 31, .slice (some ⟨b, off, none⟩) 3 c] 50)
 have c0 : ∀ d, (drawnAt (w.alloc (.cells #[.string mark, .int .i64 size, .int .i64 count, .int .i64 31, .slice (some ⟨b, off, none⟩) 3 c] 50)) d).cell? ⟨b, off, none⟩ = some (.int .i64 d0) := fun _ => int_cell (k := 0) hb0 rfl
 have c1 : ∀ d, (drawnAt (w.alloc (.cells #[.string mark, .int .i64 size, .int .i64 count, .int .i64 31, .slice (some ⟨b, off, none⟩) 3 c] 50)) d).cell? ⟨b, off + 1, none⟩ = some (.int .i64 d1) := fun _ => int_cell (k := 1) hb0 rfl
 have c2 : ∀ d, (drawnAt (w.alloc (.cells #[.string mark, .int .i64 size, .int .i64 count, .int .i64 31, .slice (some ⟨b, off, none⟩) 3 c] 50)) d).cell? ⟨b, off + 2, none⟩ = some (.int .i64 d2) := fun _ => int_cell (k := 2) hb0 rfl
 obtain ⟨l0, u0⟩ := h0
 obtain ⟨l1, u1⟩ := h1
 obtain ⟨l2, u2⟩ := h2
 have hbl' : b < w.heap.size := by omega
 clear hA hbo hbl hb0
 go_enter Tryz.func154, Tryz.ntmps154
 go_wp2_with fail
 obtain ⟨W, hW⟩ : ∃ W, W = w.alloc (.cells #[.string mark, .int .i64 size, .int .i64 count, .int .i64 31, .slice (some ⟨b, off, none⟩) 3 c] 50) := ⟨_, rfl⟩
 rw [← hW]
 simp only [← hW, drawnAt] at c0 c1 c2
 have HW := hide hW
 clear hW
 go_still_tail 12, (by kernel_rfl)
 change wpList _ _ _ _ _ (World.drew W)
 clear c0 c1 c2
 go_wp2_with fail
 obtain rfl := HW.out
 go_ret
 refine ⟨_, rfl, ?_, ?_⟩
 ·exact pts_drew2 rfl
 ·exact (below_new2 w _ _).drew
set_option maxHeartbeats 4000000 in
set_option maxRecDepth 100000 in
theorem refMoves41 (mark : ByteArray) (size count : Int) (d0 d1 d2 d3 d4 : Int) (A : Option Addr) (c : Nat) (w : World) {B : Nat} (hA : Ints w B A [d0, d1, d2, d3, d4]) (hB : B ≤ w.heap.size) (h0 : 1 ≤ d0 ∧ d0 ≤ 262144) (h1 : 1 ≤ d1 ∧ d1 ≤ 262144) (h2 : 1 ≤ d2 ∧ d2 ≤ 262144) (h3 : 1 ≤ d3 ∧ d3 ≤ 262144) (h4 : 1 ≤ d4 ∧ d4 ≤ 262144) :
  Calls Tryz.prog 154 #[.agg #[.string mark, .int .i64 size, .int .i64 count, .int .i64 41, .slice A 5 c]] w fun e w' =>
   ∃ A', e = .returned (.slice A' 5 5) ∧ PtsAt w' w'.heap.size A' [(d0, 0, 0), (0, d1, 0), (d2, 0, 0), (0, -d3, 0), (d4, 0, 0)] ∧ Below w.heap.size w w' := by
 have hbo := fun o => hA.carry ((Below.refl B w).alloc hB o) (Nat.le_refl _)
 obtain ⟨b, off, hA', hbl, _⟩ := hA (by simp)
 subst hA'
 have hb0 := hbo (.cells #[.string mark, .int .i64 size, .int .i64 count, .int .i64 41, .slice (some ⟨b, off, none⟩) 5 c] 50)
 have c0 : ∀ d, (drawnAt (w.alloc (.cells #[.string mark, .int .i64 size, .int .i64 count, .int .i64 41, .slice (some ⟨b, off, none⟩) 5 c] 50)) d).cell? ⟨b, off, none⟩ = some (.int .i64 d0) := fun _ => int_cell (k := 0) hb0 rfl
 have c1 : ∀ d, (drawnAt (w.alloc (.cells #[.string mark, .int .i64 size, .int .i64 count, .int .i64 41, .slice (some ⟨b, off, none⟩) 5 c] 50)) d).cell? ⟨b, off + 1, none⟩ = some (.int .i64 d1) := fun _ => int_cell (k := 1) hb0 rfl
 have c2 : ∀ d, (drawnAt (w.alloc (.cells #[.string mark, .int .i64 size, .int .i64 count, .int .i64 41, .slice (some ⟨b, off, none⟩) 5 c] 50)) d).cell? ⟨b, off + 2, none⟩ = some (.int .i64 d2) := fun _ => int_cell (k := 2) hb0 rfl
 have c3 : ∀ d, (drawnAt (w.alloc (.cells #[.string mark, .int .i64 size, .int .i64 count, .int .i64 41, .slice (some ⟨b, off, none⟩) 5 c] 50)) d).cell? ⟨b, off + 3, none⟩ = some (.int .i64 d3) := fun _ => int_cell (k := 3) hb0 rfl
 have c4 : ∀ d, (drawnAt (w.alloc (.cells #[.string mark, .int .i64 size, .int .i64 count, .int .i64 41, .slice (some ⟨b, off, none⟩) 5 c] 50)) d).cell? ⟨b, off + 4, none⟩ = some (.int .i64 d4) := fun _ => int_cell (k := 4) hb0 rfl
 obtain ⟨l0, u0⟩ := h0
 obtain ⟨l1, u1⟩ := h1
 obtain ⟨l2, u2⟩ := h2
 obtain ⟨l3, u3⟩ := h3
 obtain ⟨l4, u4⟩ := h4
 have hbl' : b < w.heap.size := by omega
 clear hA hbo hbl hb0
 go_enter Tryz.func154, Tryz.ntmps154
 go_wp2_with fail
 obtain ⟨W, hW⟩ : ∃ W, W = w.alloc (.cells #[.string mark, .int .i64 size, .int .i64 count, .int .i64 41, .slice (some ⟨b, off, none⟩) 5 c] 50) := ⟨_, rfl⟩
 rw [← hW]
 simp only [← hW, drawnAt] at c0 c1 c2 c3 c4
 have HW := hide hW
 clear hW
 go_still_tail 21, (by kernel_rfl)
 change wpList _ _ _ _ _ (World.drew W)
 clear c0 c1 c2 c3 c4
 go_wp2_with fail
 obtain rfl := HW.out
 go_ret
 refine ⟨_, rfl, ?_, ?_⟩
 ·exact pts_drew2 rfl
 ·exact (below_new2 w _ _).drew
set_option maxHeartbeats 4000000 in
set_option maxRecDepth 100000 in
theorem refMoves51 (mark : ByteArray) (size count : Int) (d0 d1 d2 : Int) (A : Option Addr) (c : Nat) (w : World) {B : Nat} (hA : Ints w B A [d0, d1, d2]) (hB : B ≤ w.heap.size) (h0 : 1 ≤ d0 ∧ d0 ≤ 262144) (h1 : 1 ≤ d1 ∧ d1 ≤ 262144) (h2 : 1 ≤ d2 ∧ d2 ≤ 262144) :
  Calls Tryz.prog 154 #[.agg #[.string mark, .int .i64 size, .int .i64 count, .int .i64 51, .slice A 3 c]] w fun e w' =>
   ∃ A', e = .returned (.slice A' 6 6) ∧ PtsAt w' w'.heap.size A' [(0, -d2, 0), (d0, 0, 0), (0, d1, 0), (-d0, 0, 0), (0, -d1, 0), (d2, 0, 0)] ∧ Below w.heap.size w w' := by
 have hbo := fun o => hA.carry ((Below.refl B w).alloc hB o) (Nat.le_refl _)
 obtain ⟨b, off, hA', hbl, _⟩ := hA (by simp)
 subst hA'
 have hb0 := hbo (.cells #[.string mark, .int .i64 size, .int .i64 count, .int .i64 51, .slice (some ⟨b, off, none⟩) 3 c] 50)
 have c0 : ∀ d, (drawnAt (w.alloc (.cells #[.string mark, .int .i64 size, .int .i64 count, .int .i64 51, .slice (some ⟨b, off, none⟩) 3 c] 50)) d).cell? ⟨b, off, none⟩ = some (.int .i64 d0) := fun _ => int_cell (k := 0) hb0 rfl
 have c1 : ∀ d, (drawnAt (w.alloc (.cells #[.string mark, .int .i64 size, .int .i64 count, .int .i64 51, .slice (some ⟨b, off, none⟩) 3 c] 50)) d).cell? ⟨b, off + 1, none⟩ = some (.int .i64 d1) := fun _ => int_cell (k := 1) hb0 rfl
 have c2 : ∀ d, (drawnAt (w.alloc (.cells #[.string mark, .int .i64 size, .int .i64 count, .int .i64 51, .slice (some ⟨b, off, none⟩) 3 c] 50)) d).cell? ⟨b, off + 2, none⟩ = some (.int .i64 d2) := fun _ => int_cell (k := 2) hb0 rfl
 obtain ⟨l0, u0⟩ := h0
 obtain ⟨l1, u1⟩ := h1
 obtain ⟨l2, u2⟩ := h2
 have hbl' : b < w.heap.size := by omega
 clear hA hbo hbl hb0
 go_enter Tryz.func154, Tryz.ntmps154
 go_wp2_with fail
 obtain ⟨W, hW⟩ : ∃ W, W = w.alloc (.cells #[.string mark, .int .i64 size, .int .i64 count, .int .i64 51, .slice (some ⟨b, off, none⟩) 3 c] 50) := ⟨_, rfl⟩
 rw [← hW]
 simp only [← hW, drawnAt] at c0 c1 c2
 have HW := hide hW
 clear hW
 go_still_tail 27, (by kernel_rfl)
 change wpList _ _ _ _ _ (World.drew W)
 clear c0 c1 c2
 go_wp2_with fail
 obtain rfl := HW.out
 go_ret
 refine ⟨_, rfl, ?_, ?_⟩
 ·exact pts_drew2 rfl
 ·exact (below_new2 w _ _).drew
set_option maxHeartbeats 4000000 in
set_option maxRecDepth 100000 in
theorem refMoves98 (mark : ByteArray) (size count : Int) (d0 d1 d2 : Int) (A : Option Addr) (c : Nat) (w : World) {B : Nat} (hA : Ints w B A [d0, d1, d2]) (hB : B ≤ w.heap.size) (h0 : 1 ≤ d0 ∧ d0 ≤ 262144) (h1 : 1 ≤ d1 ∧ d1 ≤ 262144) (h2 : 1 ≤ d2 ∧ d2 ≤ 262144) :
  Calls Tryz.prog 154 #[.agg #[.string mark, .int .i64 size, .int .i64 count, .int .i64 98, .slice A 3 c]] w fun e w' =>
   ∃ A', e = .returned (.slice A' 5 5) ∧ PtsAt w' w'.heap.size A' [(0, 0, d0), (0, -d1, 0), (d2, 0, 0), (0, d1, 0), (0, 0, d0)] ∧ Below w.heap.size w w' := by
 have hbo := fun o => hA.carry ((Below.refl B w).alloc hB o) (Nat.le_refl _)
 obtain ⟨b, off, hA', hbl, _⟩ := hA (by simp)
 subst hA'
 have hb0 := hbo (.cells #[.string mark, .int .i64 size, .int .i64 count, .int .i64 98, .slice (some ⟨b, off, none⟩) 3 c] 50)
 have c0 : ∀ d, (drawnAt (w.alloc (.cells #[.string mark, .int .i64 size, .int .i64 count, .int .i64 98, .slice (some ⟨b, off, none⟩) 3 c] 50)) d).cell? ⟨b, off, none⟩ = some (.int .i64 d0) := fun _ => int_cell (k := 0) hb0 rfl
 have c1 : ∀ d, (drawnAt (w.alloc (.cells #[.string mark, .int .i64 size, .int .i64 count, .int .i64 98, .slice (some ⟨b, off, none⟩) 3 c] 50)) d).cell? ⟨b, off + 1, none⟩ = some (.int .i64 d1) := fun _ => int_cell (k := 1) hb0 rfl
 have c2 : ∀ d, (drawnAt (w.alloc (.cells #[.string mark, .int .i64 size, .int .i64 count, .int .i64 98, .slice (some ⟨b, off, none⟩) 3 c] 50)) d).cell? ⟨b, off + 2, none⟩ = some (.int .i64 d2) := fun _ => int_cell (k := 2) hb0 rfl
 obtain ⟨l0, u0⟩ := h0
 obtain ⟨l1, u1⟩ := h1
 obtain ⟨l2, u2⟩ := h2
 have hbl' : b < w.heap.size := by omega
 clear hA hbo hbl hb0
 go_enter Tryz.func154, Tryz.ntmps154
 go_wp2_with fail
 obtain ⟨W, hW⟩ : ∃ W, W = w.alloc (.cells #[.string mark, .int .i64 size, .int .i64 count, .int .i64 98, .slice (some ⟨b, off, none⟩) 3 c] 50) := ⟨_, rfl⟩
 rw [← hW]
 simp only [← hW, drawnAt] at c0 c1 c2
 have HW := hide hW
 clear hW
 go_still_tail 21, (by kernel_rfl)
 change wpList _ _ _ _ _ (World.drew W)
 clear c0 c1 c2
 go_wp2_with fail
 obtain rfl := HW.out
 go_ret
 refine ⟨_, rfl, ?_, ?_⟩
 ·exact pts_drew2 rfl
 ·exact (below_new2 w _ _).drew
end Go.Proofs.YtpaanfjjnjjoeaaGreat
