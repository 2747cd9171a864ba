/- Legs of valid bars: plain facts. Plain: points, boxes, solids, turns, laid bars, demands, rules, and details: what makes them valid. No walk stands here. Boxes: coordinates, ends, whether a box is valid; solids and members. Plain laws of the geometry of laid bars. No walk stands here. Main legs, in memory and plain. No walk stands here. Legs of valid bars. -/
import Derived.Test.YtkmpddaobncheaaGreatDoorQaa
namespace Go.Proofs.YtkmpddaobncheaaGreatDoor
open Go.RowKit

theorem fits_mem {rest : Int} {l : List Int} (h : fits rest l = true) : ∀ d ∈ l, 1 ≤ d ∧ d ≤ rest := by
  induction l generalizing rest with
  | nil => intro d hd; cases hd
  | cons y r ih =>
    simp only [fits, Bool.and_eq_true, decide_eq_true_eq] at h
    intro d hd
    rcases List.mem_cons.1 hd with rfl | hd
    · omega
    · have := ih h.2 d hd
      omega
theorem foldl_max_ge (l : List (Int × Int)) (a : Int) : a ≤ l.foldl (fun a p => max a p.1) a ∧ ∀ p ∈ l, p.1 ≤ l.foldl (fun a p => max a p.1) a := by
  induction l generalizing a with
  | nil => simp
  | cons y r ih =>
    have := ih (max a y.1)
    refine ⟨by simp only [List.foldl_cons]; omega, fun p hp => ?_⟩
    rcases List.mem_cons.1 hp with rfl | hp
    · simp only [List.foldl_cons]; omega
    · exact this.2 p hp
def legDim (x : BarD) (p : Int × Int) : Int := x.dims.getD p.1.toNat 0
def legLens (x : BarD) : List Int := (legsOf x.code).map (legDim x)
structure BarGood (x : BarD) : Prop where
  size : isSize x.size = true
  count : 1 ≤ x.count ∧ x.count ≤ 1000
  leg : ∀ p ∈ legsOf x.code, 0 ≤ p.1 ∧ p.1.toNat < x.dims.length ∧ x.dims[p.1.toNat]? = some (legDim x p) ∧ 1 ≤ legDim x p ∧ legDim x p ≤ 262144
  legs : legLens x ≠ []
theorem barGood_of {x : BarD} (h : barOk x = true) : BarGood x := by
  rw [barOk_pre] at h
  simp only [Bool.and_eq_true, barPre, decide_eq_true_eq] at h
  obtain ⟨⟨⟨⟨⟨⟨h0, h1⟩, h2⟩, h3⟩, h4⟩, h5⟩, h6⟩ := h
  refine ⟨h2, ⟨h3, h4⟩, fun p hp => ?_, ?_⟩
  · have hd := legs_dims _ p hp
    have hm := (foldl_max_ge (legsOf x.code) (-1)).2 p hp
    have hl : p.1.toNat < x.dims.length := by unfold dimsN at h5; omega
    have hg : x.dims[p.1.toNat]? = some (legDim x p) := by rw [legDim, List.getD_eq_getElem?_getD, List.getElem?_eq_getElem hl]; rfl
    exact ⟨hd.1, hl, hg, fits_mem h6 _ (mem_of_get hg)⟩
  · intro he
    have : legsOf x.code = [] := by simpa [legLens] using he
    rw [dimsE, dimsN, this] at h0
    simp at h0

theorem code_cases {code : Int} (h : legsOf code ≠ []) : code = 0 ∨ code = 11 ∨ code = 21 ∨ code = 26 ∨ code = 31 ∨ code = 41 ∨ code = 51 ∨ code = 98 := by
  unfold legsOf at h
  refine Decidable.byContradiction fun hn => ?_
  simp only [not_or] at hn
  obtain ⟨h0, h1, h2, h3, h4, h5, h6, h7⟩ := hn
  simp [h0, h1, h2, h3, h4, h5, h6, h7] at h
/-- The legs have at most twice the length of the dimensions. -/
theorem legs_sum {x : BarD} (h : barOk x = true) : (legLens x).foldl (fun s n => s + n) 0 ≤ 524288 := by
  have hg := barGood_of h
  have hc : legsOf x.code ≠ [] := by
    intro he
    exact hg.legs (by simp [legLens, he])
  rw [barOk_pre] at h
  simp only [Bool.and_eq_true, barPre, decide_eq_true_eq] at h
  obtain ⟨⟨_, h5⟩, h6⟩ := h
  obtain ⟨mark, size, count, code, dims⟩ := x
  simp only at h5 h6 hc
  clear hg
  rcases code_cases hc with rfl | rfl | rfl | rfl | rfl | rfl | rfl | rfl
  all_goals
    simp [dimsN, legsOf] at h5
    rcases dims with _ | ⟨a, _ | ⟨b, _ | ⟨c, _ | ⟨d, _ | ⟨e, _ | ⟨f, r⟩⟩⟩⟩⟩⟩ <;> simp at h5 <;> (try omega)
    all_goals
      simp [fits] at h6
      simp [legLens, legsOf, legDim]
      omega

end Go.Proofs.YtkmpddaobncheaaGreatDoor
namespace Go.Proofs.YtkmpddaobncheaaGreatDoor
open Go.RowKit

abbrev Pt := Int × Int × Int
/-- A move along an axis, or against it: its way as a letter, its length. -/
def ptOf (y v : Int) : Int × Int × Int := if y = 120 then (v, 0, 0) else if y = 121 then (0, v, 0) else if y = 122 then (0, 0, v) else if y = 88 then (-v, 0, 0) else (0, -v, 0)
def movesOf (x : BarD) : List (Int × Int × Int) := (legsOf x.code).map fun p => ptOf p.2 (legDim x p)
structure BoxD where
  lo : Pt
  hi : Pt
structure MemD where
  name : ByteArray
  boxes : List BoxD
  holes : List BoxD
  cover : Int
  aggregate : Int
  poker : Int
structure RunD where
  mark : ByteArray
  tx : Int
  ty : Int
  place : Pt
  step : Pt
  count : Int
structure JoinD where
  first : Int
  second : Int
structure DemD where
  name : ByteArray
  zone : BoxD
  steps : List (Int × Int)
structure RuleD where
  num : Int
  den : Int
  poorNum : Int
  poorDen : Int
  bendNum : Int
  bendDen : Int
  lapNum : Int
  lapDen : Int
  least : Int
structure DetD where
  mem : MemD
  bars : List BarD
  runs : List RunD
  laps : List JoinD
  dems : List DemD
  rule : RuleD

def coordOk (n : Int) : Bool := decide (-1048576 ≤ n) && decide (n ≤ 1048576)
def axisOk (lo hi : Int) : Bool := decide (lo ≤ hi) && decide (-1048576 ≤ lo) && decide (hi ≤ 1048576)
def axes (b : BoxD) : List (Int × Int) := [(b.lo.1, b.hi.1), (b.lo.2.1, b.hi.2.1), (b.lo.2.2, b.hi.2.2)]
def axisFine (p : Int × Int) : Bool := axisOk p.1 p.2
def boxOk (b : BoxD) : Bool := (axes b).all axisFine
def thickOk (b : BoxD) : Bool := boxOk b && decide (b.lo.1 < b.hi.1) && decide (b.lo.2.1 < b.hi.2.1) && decide (b.lo.2.2 < b.hi.2.2)
def solidOk (bs hs : List BoxD) : Bool := decide (1 ≤ bs.length) && decide (bs.length ≤ 20) && decide (hs.length ≤ 20) && bs.all thickOk && hs.all thickOk
def within (n lo hi : Int) : Bool := decide (lo ≤ n) && decide (n ≤ hi)
def memOk (m : MemD) : Bool := isName m.name && solidOk m.boxes m.holes && within m.cover 0 200 && within m.aggregate 1 100 && within m.poker 1 200

def axisN (n : Int) : Bool := !decide (n = 0) && decide (-3 ≤ n) && decide (n ≤ 3)
def turnOk (x y : Int) : Bool := axisN x && axisN y && !decide (x = y) && !decide (x = -y)
def unitV (n : Int) : Pt := if n = 1 then (1, 0, 0) else if n = 2 then (0, 1, 0) else if n = 3 then (0, 0, 1) else if n = -1 then (-1, 0, 0) else if n = -2 then (0, -1, 0) else (0, 0, -1)
def crossV (a b : Pt) : Pt := (a.2.1 * b.2.2 - a.2.2 * b.2.1, a.2.2 * b.1 - a.1 * b.2.2, a.1 * b.2.1 - a.2.1 * b.1)
def linV (a b c p : Pt) : Pt := (a.1 * p.1 + b.1 * p.2.1 + c.1 * p.2.2, a.2.1 * p.1 + b.2.1 * p.2.1 + c.2.1 * p.2.2, a.2.2 * p.1 + b.2.2 * p.2.1 + c.2.2 * p.2.2)
def imgV (x y : Int) (p : Pt) : Pt := linV (unitV x) (unitV y) (crossV (unitV x) (unitV y)) p
def addP (p q : Pt) : Pt := (p.1 + q.1, p.2.1 + q.2.1, p.2.2 + q.2.2)
def mulP (k : Int) (p : Pt) : Pt := (k * p.1, k * p.2.1, k * p.2.2)
def pathFrom (o : Pt) : List Pt → List Pt
  | [] => [o]
  | m :: r => o :: pathFrom (addP o m) r
def pathOf (x : BarD) : List Pt := pathFrom (0, 0, 0) (movesOf x)
def nearBy (m : Int) (p : Pt) : Bool := within p.1 (-m) m && within p.2.1 (-m) m && within p.2.2 (-m) m
def ptsOf (x : BarD) (r : RunD) (k : Int) : List Pt := (pathOf x).map fun p => addP (addP (imgV r.tx r.ty p) r.place) (mulP k r.step)
def noStep (p : Pt) : Bool := decide (p.1 = 0) && decide (p.2.1 = 0) && decide (p.2.2 = 0)
def runBar (bars : List BarD) (r : RunD) : Option BarD := bars.find? (markIs r.mark)
def runHead (bars : List BarD) (r : RunD) : Bool :=
  decide (0 ≤ idx (markIs r.mark) bars) && turnOk r.tx r.ty && decide (1 ≤ r.count) && decide (r.count ≤ 1000) && nearBy 1048576 r.place && (decide (r.count ≤ 1) || (!noStep r.step && nearBy 2097152 r.step))
def runPts (bars : List BarD) (r : RunD) (k : Int) : List Pt := match runBar bars r with | some x => ptsOf x r k | none => []
def runOk (bars : List BarD) (r : RunD) : Bool := runHead bars r && (runPts bars r 0).all (nearBy 1048576) && (runPts bars r (r.count - 1)).all (nearBy 1048576)
def runsFit (bars : List BarD) : Int → List RunD → Bool
  | _, [] => true
  | rest, r :: l => runOk bars r && decide (r.count ≤ rest) && runsFit bars (rest - r.count) l
def laidOk (bars : List BarD) (runs : List RunD) : Bool := schedOk bars && decide (runs.length ≤ 60) && runsFit bars 2000 runs

def stepsFrom : Option Int → List (Int × Int) → Bool
  | _, [] => true
  | last, s :: r => coordOk s.1 && within s.2 0 1099511627776 && (match last with | none => true | some p => decide (p < s.1)) && stepsFrom (some s.1) r
def stepsOk (l : List (Int × Int)) : Bool := decide (l.length ≤ 200) && stepsFrom none l
def demOk (d : DemD) : Bool := isName d.name && boxOk d.zone && stepsOk d.steps
def nameIs (m : ByteArray) (d : DemD) : Bool := d.name.toList == m.toList
def demsFrom : List DemD → List DemD → Bool
  | _, [] => true
  | done, d :: r => demOk d && !done.any (nameIs d.name) && demsFrom (done ++ [d]) r
def demsOk (l : List DemD) : Bool := decide (l.length ≤ 20) && demsFrom [] l
def ratOk (n : Int) : Bool := within n 1 1000
def ruleOk (r : RuleD) : Bool :=
  [r.num, r.den, r.poorNum, r.poorDen, r.bendNum, r.bendDen, r.lapNum, r.lapDen].all ratOk && decide (r.poorDen ≤ r.poorNum) && decide (r.lapDen ≤ r.lapNum) && decide (r.bendNum ≤ r.bendDen) && within r.least 0 1000

def minP (p q : Pt) : Pt := (min p.1 q.1, min p.2.1 q.2.1, min p.2.2 q.2.2)
def maxP (p q : Pt) : Pt := (max p.1 q.1, max p.2.1 q.2.1, max p.2.2 q.2.2)
def legBox (p q : Pt) : BoxD := ⟨minP p q, maxP p q⟩
def legsOfPts : List Pt → List BoxD
  | p :: q :: r => legBox p q :: legsOfPts (q :: r)
  | _ => []
def isMain (b : BoxD) : Bool := decide (b.lo.1 < b.hi.1) && decide (b.lo.2.1 = b.hi.2.1) && decide (b.lo.2.2 = b.hi.2.2)
/-- A laid bar: its line of the schedule, its points. -/
structure LaidD where
  bar : BarD
  pts : List Pt
def laidRun (bars : List BarD) (r : RunD) : List LaidD := match runBar bars r with
  | some x => (List.range r.count.toNat).map fun (k : Nat) => ⟨x, ptsOf x r k⟩
  | none => []
def laidAll (bars : List BarD) (runs : List RunD) : List LaidD := runs.flatMap (laidRun bars)
def mainLeg (x : LaidD) : Option BoxD := (legsOfPts x.pts).find? isMain
def lapsFit (ms : List (Option BoxD)) (j : JoinD) : Bool :=
  decide (0 ≤ j.first) && decide (j.first < ms.length) && decide (0 ≤ j.second) && decide (j.second < ms.length) &&
  (match ms.getD j.first.toNat none, ms.getD j.second.toNat none with
    | some a, some b => decide (a.lo.1 < b.lo.1) && decide (a.hi.1 < b.hi.1) && decide (b.lo.1 ≤ a.hi.1)
    | _, _ => false)
def lapsFrom (ms : List (Option BoxD)) : List Int → List Int → List JoinD → Bool
  | _, _, [] => true
  | f, s, j :: r => lapsFit ms j && !f.contains j.first && !s.contains j.second && lapsFrom ms (j.first :: f) (j.second :: s) r
def detHead (x : DetD) : Bool := memOk x.mem && laidOk x.bars x.runs && demsOk x.dems && ruleOk x.rule && decide (x.laps.length ≤ 1000)
def detOk (x : DetD) : Bool := detHead x && lapsFrom ((laidAll x.bars x.runs).map mainLeg) [] [] x.laps

/-! In memory. -/
def encPt (p : Pt) : List Value := [.int .i64 p.1, .int .i64 p.2.1, .int .i64 p.2.2]
theorem encPt_len (p : Pt) : (encPt p).length = 3 := rfl
theorem encPt_one (p : Pt) : ∀ u ∈ encPt p, u.oneCell' = true := by
  intro u hu
  simp only [encPt, List.mem_cons, List.not_mem_nil, or_false] at hu
  rcases hu with rfl | rfl | rfl <;> rfl
def encB (b : BoxD) : List Value := [.int .i64 b.lo.1, .int .i64 b.lo.2.1, .int .i64 b.lo.2.2, .int .i64 b.hi.1, .int .i64 b.hi.2.1, .int .i64 b.hi.2.2]
theorem encB_len (b : BoxD) : (encB b).length = 6 := rfl
theorem encB_one (b : BoxD) : ∀ u ∈ encB b, u.oneCell' = true := by
  intro u hu
  simp only [encB, List.mem_cons, List.not_mem_nil, or_false] at hu
  rcases hu with rfl | rfl | rfl | rfl | rfl | rfl <;> rfl
def encRun (r : RunD) : List Value := [.string r.mark, .int .i64 r.tx, .int .i64 r.ty, .int .i64 r.place.1, .int .i64 r.place.2.1, .int .i64 r.place.2.2, .int .i64 r.step.1, .int .i64 r.step.2.1, .int .i64 r.step.2.2, .int .i64 r.count]
def encJoin (j : JoinD) : List Value := [.int .i64 j.first, .int .i64 j.second]
def encStp (p : Int × Int) : List Value := [.int .i64 p.1, .int .i64 p.2]
theorem encStp_len (p : Int × Int) : (encStp p).length = 2 := rfl
abbrev PtsAt (w : World) (B : Nat) (A : Option Addr) (l : List Pt) : Prop := SlOf w B 3 (Flat encPt) A l
abbrev BoxesAt (w : World) (B : Nat) (A : Option Addr) (l : List BoxD) : Prop := SlOf w B 6 (Flat encB) A l
abbrev RunsAt (w : World) (B : Nat) (A : Option Addr) (l : List RunD) : Prop := SlOf w B 10 (Flat encRun) A l
abbrev JoinsAt (w : World) (B : Nat) (A : Option Addr) (l : List JoinD) : Prop := SlOf w B 2 (Flat encJoin) A l
abbrev StpsAt (w : World) (B : Nat) (A : Option Addr) (l : List (Int × Int)) : Prop := SlOf w B 2 (Flat encStp) A l
def demR : World → Nat → List Value → DemD → Prop := fun w B vs d => ∃ A c, vs = [.string d.name] ++ encB d.zone ++ [.slice A d.steps.length c] ∧ StpsAt w B A d.steps
theorem demR_carried : Carried demR := fun _ _ _ _ _ _ hb hB ⟨A, c, h, hi⟩ => ⟨A, c, h, hi.carry (Flat.carried _) hb hB⟩
abbrev DemsAt (w : World) (B : Nat) (A : Option Addr) (l : List DemD) : Prop := SlOf w B 8 demR A l
section
variable {w : World} {B : Nat} {A : Option Addr}
theorem PtsAt.get {l : List Pt} (h : PtsAt w B A l) {k : Nat} (hk : k < l.length) :
    ∃ b off x, A = some ⟨b, off, none⟩ ∧ b < B ∧ l[k]? = some x ∧ w.cell? ⟨b, off + k * 3, none⟩ = some (.int .i64 x.1) ∧ w.cell? ⟨b, off + k * 3 + 1, none⟩ = some (.int .i64 x.2.1) ∧ w.cell? ⟨b, off + k * 3 + 2, none⟩ = some (.int .i64 x.2.2) := by
  obtain ⟨b, off, x, vs, hA, hb, hx, _, hr, hc⟩ := h.at_ hk
  have hr' : vs = encPt x := hr
  subst hr'
  exact ⟨b, off, x, hA, hb, hx, by simpa using hc 0 _ rfl, by simpa using hc 1 _ rfl, by simpa using hc 2 _ rfl⟩
theorem BoxesAt.get {l : List BoxD} (h : BoxesAt w B A l) {k : Nat} (hk : k < l.length) :
    ∃ b off x, A = some ⟨b, off, none⟩ ∧ b < B ∧ l[k]? = some x ∧ w.cell? ⟨b, off + k * 6, none⟩ = some (.int .i64 x.lo.1) ∧ w.cell? ⟨b, off + k * 6 + 1, none⟩ = some (.int .i64 x.lo.2.1) ∧ w.cell? ⟨b, off + k * 6 + 2, none⟩ = some (.int .i64 x.lo.2.2) ∧
      w.cell? ⟨b, off + k * 6 + 3, none⟩ = some (.int .i64 x.hi.1) ∧ w.cell? ⟨b, off + k * 6 + 4, none⟩ = some (.int .i64 x.hi.2.1) ∧ w.cell? ⟨b, off + k * 6 + 5, none⟩ = some (.int .i64 x.hi.2.2) := by
  obtain ⟨b, off, x, vs, hA, hb, hx, _, hr, hc⟩ := h.at_ hk
  have hr' : vs = encB x := hr
  subst hr'
  exact ⟨b, off, x, hA, hb, hx, by simpa using hc 0 _ rfl, by simpa using hc 1 _ rfl, by simpa using hc 2 _ rfl, by simpa using hc 3 _ rfl, by simpa using hc 4 _ rfl, by simpa using hc 5 _ rfl⟩
theorem RunsAt.get {l : List RunD} (h : RunsAt w B A l) {k : Nat} (hk : k < l.length) :
    ∃ b off x, A = some ⟨b, off, none⟩ ∧ b < B ∧ l[k]? = some x ∧ ∀ j v, (encRun x)[j]? = some v → w.cell? ⟨b, off + k * 10 + j, none⟩ = some v := by
  obtain ⟨b, off, x, vs, hA, hb, hx, _, hr, hc⟩ := h.at_ hk
  have hr' : vs = encRun x := hr
  subst hr'
  exact ⟨b, off, x, hA, hb, hx, hc⟩
theorem JoinsAt.get {l : List JoinD} (h : JoinsAt w B A l) {k : Nat} (hk : k < l.length) :
    ∃ b off x, A = some ⟨b, off, none⟩ ∧ b < B ∧ l[k]? = some x ∧ w.cell? ⟨b, off + k * 2, none⟩ = some (.int .i64 x.first) ∧ w.cell? ⟨b, off + k * 2 + 1, none⟩ = some (.int .i64 x.second) := by
  obtain ⟨b, off, x, vs, hA, hb, hx, _, hr, hc⟩ := h.at_ hk
  have hr' : vs = encJoin x := hr
  subst hr'
  exact ⟨b, off, x, hA, hb, hx, by simpa using hc 0 _ rfl, by simpa using hc 1 _ rfl⟩
theorem StpsAt.get {l : List (Int × Int)} (h : StpsAt w B A l) {k : Nat} (hk : k < l.length) :
    ∃ b off x, A = some ⟨b, off, none⟩ ∧ b < B ∧ l[k]? = some x ∧ w.cell? ⟨b, off + k * 2, none⟩ = some (.int .i64 x.1) ∧ w.cell? ⟨b, off + k * 2 + 1, none⟩ = some (.int .i64 x.2) := by
  obtain ⟨b, off, x, vs, hA, hb, hx, _, hr, hc⟩ := h.at_ hk
  have hr' : vs = encStp x := hr
  subst hr'
  exact ⟨b, off, x, hA, hb, hx, by simpa using hc 0 _ rfl, by simpa using hc 1 _ rfl⟩
theorem DemsAt.get {l : List DemD} (h : DemsAt w B A l) {k : Nat} (hk : k < l.length) :
    ∃ b off x A' c', A = some ⟨b, off, none⟩ ∧ b < B ∧ l[k]? = some x ∧ StpsAt w B A' x.steps ∧ ∀ j v, ([.string x.name] ++ encB x.zone ++ [.slice A' x.steps.length c'])[j]? = some v → w.cell? ⟨b, off + k * 8 + j, none⟩ = some v := by
  obtain ⟨b, off, x, vs, hA, hb, hx, _, ⟨A', c', hv, hi⟩, hc⟩ := h.at_ hk
  subst hv
  exact ⟨b, off, x, A', c', hA, hb, hx, hi, hc⟩
end
end Go.Proofs.YtkmpddaobncheaaGreatDoor
namespace Go.Proofs.YtkmpddaobncheaaGreatDoor
open Go.RowKit

abbrev bx (b : BoxD) : Value := .agg #[.int .i64 b.lo.1, .int .i64 b.lo.2.1, .int .i64 b.lo.2.2, .int .i64 b.hi.1, .int .i64 b.hi.2.1, .int .i64 b.hi.2.2]
theorem at3_0 (a b c : Value) (w : World) : (Instr.index 297 (.agg #[a, b, c]) (.int .i64 0)).run Tryz.prog w = .ok a w := by kernel_rfl
theorem at3_1 (a b c : Value) (w : World) : (Instr.index 297 (.agg #[a, b, c]) (.int .i64 1)).run Tryz.prog w = .ok b w := by kernel_rfl
theorem at3_2 (a b c : Value) (w : World) : (Instr.index 297 (.agg #[a, b, c]) (.int .i64 2)).run Tryz.prog w = .ok c w := by kernel_rfl
set_option maxHeartbeats 400000 in
theorem coords_any (x y z : Int) (w : World) :
    Calls Tryz.prog 272 #[.agg #[.int .i64 x, .int .i64 y, .int .i64 z]] w fun e w' => e = .returned (.agg #[.int .i64 x, .int .i64 y, .int .i64 z]) ∧ Below w.heap.size w w' := by
  go_enter Tryz.func272, Tryz.ntmps272
  go_wp2_with fail
  refine bodyPost_ret (results_c rfl rfl (Blk.new1 w _ _ _) Tryz.underlying297 rfl (by kernel_rfl)) rfl ?_
  exact ⟨rfl, below_new2 w _ _⟩

set_option maxHeartbeats 1000000 in
theorem ends0_any (b : BoxD) (w : World) :
    Calls Tryz.prog 236 #[bx b, .int .i64 0] w fun e w' => e = .returned (.tuple #[.int .i64 b.lo.1, .int .i64 b.hi.1]) ∧ Below w.heap.size w w' := by
  obtain ⟨⟨x, y, z⟩, ⟨x2, y2, z2⟩⟩ := b
  have i0 := fun (a b c : Value) (w : World) => at3_0 a b c w
  go_enter Tryz.func236, Tryz.ntmps236
  go_wp2_with fail
  obtain ⟨w1, hw1⟩ : ∃ w1, w1 = w.alloc (.cells #[.int .i64 x, .int .i64 y, .int .i64 z, .int .i64 x2, .int .i64 y2, .int .i64 z2] 51) := ⟨_, rfl⟩
  have hb := Blk.new w 51 #[.int .i64 x, .int .i64 y, .int .i64 z, .int .i64 x2, .int .i64 y2, .int .i64 z2]
  have hw := hide (below_new w (.cells #[.int .i64 x, .int .i64 y, .int .i64 z, .int .i64 x2, .int .i64 y2, .int .i64 z2] 51))
  rw [← hw1] at hb hw ⊢
  have c0 := cell_regrown (hb.cell 0)
  have c1 := cell_regrown (hb.cell 1)
  have c2 := cell_regrown (hb.cell 2)
  have c3 := cell_regrown (hb.cell 3)
  have c4 := cell_regrown (hb.cell 4)
  have c5 := cell_regrown (hb.cell 5)
  clear hb hw1
  refine wp_region_quiet_below (by kernel_rfl) (by kernel_rfl) ?_
  repeat (go_big_quiet_step (first
    | (go_at_call 272; exact Calls.regrown_of (coords_any _ _ _ _))))
  refine wpQuiet_nil ?_
  intro w2 hw'
  have hbq := hide (show Below _ _ w2 by obtain ⟨p, rfl⟩ := hw'; exact below_regrown _ _ _)
  clear hw' c0 c1 c2 c3 c4 c5
  go_wp2_with fail
  go_ret2
  exact ⟨rfl, below_step hw.out hbq.out (Nat.le_refl _)⟩
set_option maxHeartbeats 1000000 in
theorem ends1_any (b : BoxD) (w : World) :
    Calls Tryz.prog 236 #[bx b, .int .i64 1] w fun e w' => e = .returned (.tuple #[.int .i64 b.lo.2.1, .int .i64 b.hi.2.1]) ∧ Below w.heap.size w w' := by
  obtain ⟨⟨x, y, z⟩, ⟨x2, y2, z2⟩⟩ := b
  have i0 := fun (a b c : Value) (w : World) => at3_1 a b c w
  go_enter Tryz.func236, Tryz.ntmps236
  go_wp2_with fail
  obtain ⟨w1, hw1⟩ : ∃ w1, w1 = w.alloc (.cells #[.int .i64 x, .int .i64 y, .int .i64 z, .int .i64 x2, .int .i64 y2, .int .i64 z2] 51) := ⟨_, rfl⟩
  have hb := Blk.new w 51 #[.int .i64 x, .int .i64 y, .int .i64 z, .int .i64 x2, .int .i64 y2, .int .i64 z2]
  have hw := hide (below_new w (.cells #[.int .i64 x, .int .i64 y, .int .i64 z, .int .i64 x2, .int .i64 y2, .int .i64 z2] 51))
  rw [← hw1] at hb hw ⊢
  have c0 := cell_regrown (hb.cell 0)
  have c1 := cell_regrown (hb.cell 1)
  have c2 := cell_regrown (hb.cell 2)
  have c3 := cell_regrown (hb.cell 3)
  have c4 := cell_regrown (hb.cell 4)
  have c5 := cell_regrown (hb.cell 5)
  clear hb hw1
  refine wp_region_quiet_below (by kernel_rfl) (by kernel_rfl) ?_
  repeat (go_big_quiet_step (first
    | (go_at_call 272; exact Calls.regrown_of (coords_any _ _ _ _))))
  refine wpQuiet_nil ?_
  intro w2 hw'
  have hbq := hide (show Below _ _ w2 by obtain ⟨p, rfl⟩ := hw'; exact below_regrown _ _ _)
  clear hw' c0 c1 c2 c3 c4 c5
  go_wp2_with fail
  go_ret2
  exact ⟨rfl, below_step hw.out hbq.out (Nat.le_refl _)⟩
set_option maxHeartbeats 1000000 in
theorem ends2_any (b : BoxD) (w : World) :
    Calls Tryz.prog 236 #[bx b, .int .i64 2] w fun e w' => e = .returned (.tuple #[.int .i64 b.lo.2.2, .int .i64 b.hi.2.2]) ∧ Below w.heap.size w w' := by
  obtain ⟨⟨x, y, z⟩, ⟨x2, y2, z2⟩⟩ := b
  have i0 := fun (a b c : Value) (w : World) => at3_2 a b c w
  go_enter Tryz.func236, Tryz.ntmps236
  go_wp2_with fail
  obtain ⟨w1, hw1⟩ : ∃ w1, w1 = w.alloc (.cells #[.int .i64 x, .int .i64 y, .int .i64 z, .int .i64 x2, .int .i64 y2, .int .i64 z2] 51) := ⟨_, rfl⟩
  have hb := Blk.new w 51 #[.int .i64 x, .int .i64 y, .int .i64 z, .int .i64 x2, .int .i64 y2, .int .i64 z2]
  have hw := hide (below_new w (.cells #[.int .i64 x, .int .i64 y, .int .i64 z, .int .i64 x2, .int .i64 y2, .int .i64 z2] 51))
  rw [← hw1] at hb hw ⊢
  have c0 := cell_regrown (hb.cell 0)
  have c1 := cell_regrown (hb.cell 1)
  have c2 := cell_regrown (hb.cell 2)
  have c3 := cell_regrown (hb.cell 3)
  have c4 := cell_regrown (hb.cell 4)
  have c5 := cell_regrown (hb.cell 5)
  clear hb hw1
  refine wp_region_quiet_below (by kernel_rfl) (by kernel_rfl) ?_
  repeat (go_big_quiet_step (first
    | (go_at_call 272; exact Calls.regrown_of (coords_any _ _ _ _))))
  refine wpQuiet_nil ?_
  intro w2 hw'
  have hbq := hide (show Below _ _ w2 by obtain ⟨p, rfl⟩ := hw'; exact below_regrown _ _ _)
  clear hw' c0 c1 c2 c3 c4 c5
  go_wp2_with fail
  go_ret2
  exact ⟨rfl, below_step hw.out hbq.out (Nat.le_refl _)⟩
theorem ends_any (b : BoxD) (k : Nat) (p : Int × Int) (h : (axes b)[k]? = some p) (w : World) :
    Calls Tryz.prog 236 #[bx b, .int .i64 k] w fun e w' => e = .returned (.tuple #[.int .i64 p.1, .int .i64 p.2]) ∧ Below w.heap.size w w' := by
  rcases k with _ | _ | _ | k
  · simp [axes] at h; subst h; exact ends0_any b w
  · simp [axes] at h; subst h; exact ends1_any b w
  · simp [axes] at h; subst h; exact ends2_any b w
  · simp [axes] at h
set_option maxHeartbeats 1000000 in
theorem boxValid_any (b : BoxD) (w : World) :
    Calls Tryz.prog 178 #[bx b] w fun e w' => e = .returned (.bool (boxOk b)) ∧ Below w.heap.size w w' := by
  have HE := hide (fun (k : Nat) (p : Int × Int) (h : (axes b)[k]? = some p) (w : World) => ends_any b k p h w)
  have HL := hide (show (axes b).length = 3 from rfl)
  have Hok := hide (show boxOk b = ((axes b).drop 0).all axisFine from rfl)
  obtain ⟨⟨x, y, z⟩, ⟨x2, y2, z2⟩⟩ := b
  obtain ⟨ax, hax⟩ : ∃ ax, ax = axes ⟨(x, y, z), (x2, y2, z2)⟩ := ⟨_, rfl⟩
  obtain ⟨rb, hrb⟩ : ∃ rb, rb = boxOk ⟨(x, y, z), (x2, y2, z2)⟩ := ⟨_, rfl⟩
  rw [← hax] at HE HL Hok
  rw [← hrb] at Hok ⊢
  clear hax hrb
  go_enter Tryz.func178, Tryz.ntmps178
  go_wp2_with fail
  obtain ⟨w1, hw1⟩ : ∃ w1, w1 = w.alloc (.cells #[.int .i64 x, .int .i64 y, .int .i64 z, .int .i64 x2, .int .i64 y2, .int .i64 z2] 51) := ⟨_, rfl⟩
  have hb := hide (Blk.new w 51 #[.int .i64 x, .int .i64 y, .int .i64 z, .int .i64 x2, .int .i64 y2, .int .i64 z2])
  have hw := hide (below_new w (.cells #[.int .i64 x, .int .i64 y, .int .i64 z, .int .i64 x2, .int .i64 y2, .int .i64 z2] 51))
  rw [← hw1] at hb hw ⊢
  clear hw1
  go_loopw [6] (fun i wr => ∃ k : Nat, k ≤ 3 ∧ i = .int .i64 k ∧ Hid (rb = (ax.drop k).all axisFine) ∧ Below w1.heap.size w1 wr) (fun i _ => 3 - (intOf i).toNat)
  case atStart => exact ⟨0, Nat.zero_le _, rfl, Hok, Below.refl _ _⟩
  case round =>
    obtain ⟨k, hk, rfl, hq, hbr⟩ := hrel
    by_cases hlt : k < 3
    · obtain ⟨p, hp⟩ : ∃ p, ax[k]? = some p := ⟨_, List.getElem?_eq_getElem (by rw [HL.out]; exact hlt)⟩
      have hbk := hb.out.below hbr hb.out.lt
      have c0 := hbk.cell 0
      have c1 := hbk.cell 1
      have c2 := hbk.cell 2
      have c3 := hbk.cell 3
      have c4 := hbk.cell 4
      have c5 := hbk.cell 5
      simp at c0 c1 c2 c3 c4 c5
      have He := hide (HE.out k p hp wr)
      have Hn := hide (hq.out.trans (by rw [drop_at' hp, List.all_cons]))
      clear hbk hp hq
      obtain ⟨lo, hi⟩ := p
      simp only at He Hn
      cases ha : axisOk lo hi
      · have hres := hide (show rb = false by rw [Hn.out, axisFine, ha]; rfl)
        have hcase : decide (hi < lo) = true ∨ (decide (hi < lo) = false ∧ decide (lo < -1048576) = true) ∨ (decide (hi < lo) = false ∧ decide (lo < -1048576) = false ∧ decide (1048576 < hi) = true) := by
          simp only [axisOk, Bool.and_eq_false_iff, decide_eq_false_iff_not] at ha
          simp only [decide_eq_true_eq, decide_eq_false_iff_not]
          omega
        clear ha Hn
        rcases hcase with q0 | ⟨q0, q1⟩ | ⟨q0, q1, q2⟩
        all_goals
          go_wp2_with (go_at_call 236; refine He.out.mono ?_; rintro e w2 ⟨rfl, hb2⟩)
          go_ret
          exact ⟨ret_bool hres.out.symm, below_step hw.out (hbr.trans (hb2.mono hbr.size)) (Nat.le_refl _)⟩
      · have Hn2 := hide (Hn.out.trans (by rw [axisFine, ha, Bool.true_and]))
        have q0 : decide (hi < lo) = false := by simp [axisOk] at ha; simp; omega
        have q1 : decide (lo < -1048576) = false := by simp [axisOk] at ha; simp; omega
        have q2 : decide (1048576 < hi) = false := by simp [axisOk] at ha; simp; omega
        clear ha Hn
        go_wp2_with (go_at_call 236; refine He.out.mono ?_; rintro e w2 ⟨rfl, hb2⟩)
        have hb3 := hide (hbr.trans (hb2.mono hbr.size))
        clear hb2
        go_roundw
        case rel => exact ⟨k + 1, by omega, by go_num, Hn2, hb3.out⟩
        case measure => simp [intOf]; omega
    · obtain rfl : k = 3 := by omega
      have hfull := hide (show rb = true by rw [hq.out, ← HL.out, List.drop_length]; rfl)
      go_wp2_with fail
      go_ret
      exact ⟨ret_bool hfull.out.symm, below_step hw.out hbr (Nat.le_refl _)⟩
end Go.Proofs.YtkmpddaobncheaaGreatDoor
namespace Go.Proofs.YtkmpddaobncheaaGreatDoor
open Go.RowKit

theorem nearBy_iff {m : Int} {p : Pt} : nearBy m p = true ↔ (-m ≤ p.1 ∧ p.1 ≤ m) ∧ (-m ≤ p.2.1 ∧ p.2.1 ≤ m) ∧ (-m ≤ p.2.2 ∧ p.2.2 ≤ m) := by
  simp [nearBy, within, and_assoc]
theorem nearBy_mono {m n : Int} {p : Pt} (h : nearBy m p = true) (hm : m ≤ n) : nearBy n p = true := by
  rw [nearBy_iff] at h ⊢
  omega
theorem pathFrom_len (o : Pt) (l : List Pt) : (pathFrom o l).length = l.length + 1 := by
  induction l generalizing o with
  | nil => rfl
  | cons m r ih => rw [pathFrom, List.length_cons, ih, List.length_cons]
theorem pathOf_len (x : BarD) : (pathOf x).length = (legsOf x.code).length + 1 := by rw [pathOf, pathFrom_len, movesOf, List.length_map]
theorem legsOf_len (code : Int) : (legsOf code).length ≤ 6 := by
  unfold legsOf
  repeat' split
  all_goals decide
/-- The path of a valid bar stays near. -/
theorem path_near {x : BarD} (h : barOk x = true) : ∀ p ∈ pathOf x, nearBy 524288 p = true := by
  have hg := barGood_of h
  have hc : legsOf x.code ≠ [] := by
    intro he
    exact hg.legs (by simp [legLens, he])
  rw [barOk_pre] at h
  simp only [Bool.and_eq_true, barPre, decide_eq_true_eq] at h
  obtain ⟨⟨_, h5⟩, h6⟩ := h
  obtain ⟨mark, size, count, code, dims⟩ := x
  simp only at h5 h6 hc
  clear hg
  rcases code_cases hc with rfl | rfl | rfl | rfl | rfl | rfl | rfl | rfl
  all_goals
    simp [dimsN, legsOf] at h5
    rcases dims with _ | ⟨a, _ | ⟨b, _ | ⟨c, _ | ⟨d, _ | ⟨e, _ | ⟨f, r⟩⟩⟩⟩⟩⟩ <;> simp at h5 <;> (try omega)
    all_goals
      simp [fits] at h6
      intro p hp
      simp [pathOf, movesOf, legsOf, ptOf, legDim, pathFrom, addP] at hp
      rw [nearBy_iff]
      rcases hp with rfl | rfl | rfl | rfl | rfl | rfl | rfl <;> simp <;> omega
theorem mul_between {k c s : Int} (h0 : 0 ≤ k) (h1 : k ≤ c) : (0 ≤ s → 0 ≤ k * s ∧ k * s ≤ c * s) ∧ (s ≤ 0 → c * s ≤ k * s ∧ k * s ≤ 0) := by
  refine ⟨fun hs => ⟨Int.mul_nonneg h0 hs, Int.mul_le_mul_of_nonneg_right h1 hs⟩, fun hs => ⟨?_, ?_⟩⟩
  · have := Int.mul_le_mul_of_nonneg_right h1 (show 0 ≤ -s by omega)
    rw [Int.mul_neg, Int.mul_neg] at this
    omega
  · have := Int.mul_nonneg h0 (show 0 ≤ -s by omega)
    rw [Int.mul_neg] at this
    omega
theorem between {k c s p m : Int} (h0 : 0 ≤ k) (h1 : k ≤ c) (a : -m ≤ p + 0 * s ∧ p + 0 * s ≤ m) (b : -m ≤ p + c * s ∧ p + c * s ≤ m) : -m ≤ p + k * s ∧ p + k * s ≤ m := by
  obtain ⟨f, g⟩ := mul_between (s := s) h0 h1
  rcases Int.le_total 0 s with hs | hs
  · have := f hs; omega
  · have := g hs; omega
theorem near_between {k c : Int} {p s : Pt} {m : Int} (h0 : 0 ≤ k) (h1 : k ≤ c) (a : nearBy m (addP p (mulP 0 s)) = true) (b : nearBy m (addP p (mulP c s)) = true) : nearBy m (addP p (mulP k s)) = true := by
  rw [nearBy_iff] at a b ⊢
  simp only [addP, mulP] at a b ⊢
  exact ⟨between h0 h1 a.1 b.1, between h0 h1 a.2.1 b.2.1, between h0 h1 a.2.2 b.2.2⟩
/-- Between the first and the last bar of a run all lie near. -/
theorem run_near {x : BarD} {r : RunD} {m k : Int} (h0 : (ptsOf x r 0).all (nearBy m) = true) (h1 : (ptsOf x r (r.count - 1)).all (nearBy m) = true) (hk : 0 ≤ k) (hk1 : k ≤ r.count - 1) : ∀ p ∈ ptsOf x r k, nearBy m p = true := by
  intro p hp
  obtain ⟨q, hq, rfl⟩ := List.mem_map.1 hp
  exact near_between hk hk1 (List.all_eq_true.1 h0 _ (List.mem_map.2 ⟨q, hq, rfl⟩)) (List.all_eq_true.1 h1 _ (List.mem_map.2 ⟨q, hq, rfl⟩))
theorem isMain_leg (p q : Pt) : isMain (legBox p q) = (!decide (p.1 = q.1) && decide (p.2.1 = q.2.1) && decide (p.2.2 = q.2.2)) := by
  rw [Bool.eq_iff_iff]
  simp only [isMain, legBox, minP, maxP, Bool.and_eq_true, decide_eq_true_eq, Bool.not_eq_true', decide_eq_false_iff_not]
  obtain ⟨p1, p2, p3⟩ := p
  obtain ⟨q1, q2, q3⟩ := q
  simp only [Int.min_def, Int.max_def]
  repeat' split
  all_goals
    simp only [decide_eq_true_eq]
    omega
theorem legsOfPts_len : ∀ l : List Pt, (legsOfPts l).length = l.length - 1 := by
  intro l
  induction l with
  | nil => rfl
  | cons p r ih =>
    cases r with
    | nil => rfl
    | cons q r => rw [legsOfPts, List.length_cons, ih]; simp
theorem legsOfPts_at : ∀ (l : List Pt) (k : Nat) (p q : Pt), l[k]? = some p → l[k + 1]? = some q → (legsOfPts l)[k]? = some (legBox p q) := by
  intro l
  induction l with
  | nil => intro k p q h _; simp at h
  | cons x r ih =>
    intro k p q hp hq
    cases r with
    | nil => simp at hq
    | cons y r =>
      cases k with
      | zero =>
        simp only [List.getElem?_cons_zero, Option.some.injEq, List.getElem?_cons_succ] at hp hq
        subst hp; subst hq
        rfl
      | succ k =>
        rw [legsOfPts, List.getElem?_cons_succ]
        exact ih k p q hp hq
theorem pathFrom_at : ∀ (l : List Pt) (o : Pt) (k : Nat) (p m : Pt), (pathFrom o l)[k]? = some p → l[k]? = some m → (pathFrom o l)[k + 1]? = some (addP p m) := by
  intro l
  induction l with
  | nil => intro o k p m _ h; simp at h
  | cons x r ih =>
    intro o k p m hp hm
    cases k with
    | zero =>
      simp only [pathFrom, List.getElem?_cons_zero, Option.some.injEq] at hp
      simp only [List.getElem?_cons_zero, Option.some.injEq] at hm
      subst hp; subst hm
      rw [pathFrom, List.getElem?_cons_succ]
      cases r <;> rfl
    | succ k =>
      rw [pathFrom, List.getElem?_cons_succ] at hp ⊢
      exact ih _ k p m hp (by simpa using hm)
theorem pathOf_zero (x : BarD) : (pathOf x)[0]? = some (0, 0, 0) := by
  rw [pathOf]
  cases movesOf x <;> rfl
theorem pathOf_next {x : BarD} {k : Nat} {o : Pt} {p : Int × Int} (ho : (pathOf x)[k]? = some o) (hp : (legsOf x.code)[k]? = some p) : (pathOf x)[k + 1]? = some (addP o (ptOf p.2 (legDim x p))) :=
  pathFrom_at _ _ k o _ ho (by rw [movesOf, List.getElem?_map, hp]; rfl)
theorem legs_ways (code : Int) : ∀ p ∈ legsOf code, p.2 = 120 ∨ p.2 = 88 ∨ p.2 = 121 ∨ p.2 = 89 ∨ p.2 = 122 := by
  have h : (legsOf code).all (fun p => decide (p.2 = 120 ∨ p.2 = 88 ∨ p.2 = 121 ∨ p.2 = 89 ∨ p.2 = 122)) = true := by
    unfold legsOf
    (repeat' split) <;> rfl
  intro p hp
  have := List.all_eq_true.1 h p hp
  simpa using this
end Go.Proofs.YtkmpddaobncheaaGreatDoor
namespace Go.Proofs.YtkmpddaobncheaaGreatDoor
open Go.RowKit

/-- The main leg of a laid bar, as lap.mains keeps it. -/
structure MainD where
  leg : BoxD
  has : Bool
  size : Int
  mark : ByteArray
def encMain (m : MainD) : List Value := encB m.leg ++ [.bool m.has, .int .i64 m.size, .string m.mark]
theorem encMain_len (m : MainD) : (encMain m).length = 9 := rfl
theorem encMain_one (m : MainD) : ∀ u ∈ encMain m, u.oneCell' = true := by
  intro u hu
  rcases List.mem_append.1 hu with hu | hu
  · exact encB_one m.leg u hu
  · simp only [List.mem_cons, List.not_mem_nil, or_false] at hu
    rcases hu with rfl | rfl | rfl <;> rfl
abbrev MainsAt (w : World) (B : Nat) (A : Option Addr) (l : List MainD) : Prop := SlOf w B 9 (Flat encMain) A l
theorem MainsAt.get {w : World} {B : Nat} {A : Option Addr} {l : List MainD} (h : MainsAt w B A l) {k : Nat} (hk : k < l.length) :
    ∃ b off x, A = some ⟨b, off, none⟩ ∧ b < B ∧ l[k]? = some x ∧ ∀ j v, (encMain x)[j]? = some v → w.cell? ⟨b, off + k * 9 + j, none⟩ = some v := by
  obtain ⟨b, off, x, vs, hA, hb, hx, _, hr, hc⟩ := h.at_ hk
  have hr' : vs = encMain x := hr
  subst hr'
  exact ⟨b, off, x, hA, hb, hx, hc⟩
/-- The main leg of a laid bar, as an option. -/
def MainD.opt (m : MainD) : Option BoxD := if m.has then some m.leg else none
def mainOf (x : LaidD) : MainD := match mainLeg x with
  | some b => ⟨b, true, x.bar.size, x.bar.mark⟩
  | none => ⟨⟨(0, 0, 0), (0, 0, 0)⟩, false, x.bar.size, x.bar.mark⟩
theorem mainOf_opt (x : LaidD) : (mainOf x).opt = mainLeg x := by
  unfold mainOf MainD.opt
  cases mainLeg x <;> rfl
theorem mains_opt (l : List LaidD) : (l.map mainOf).map MainD.opt = l.map mainLeg := by
  rw [List.map_map]
  apply List.map_congr_left
  intro x _
  exact mainOf_opt x
/-- Whether a lap is right by itself, over main legs as they are kept. -/
def jointOk (l : List MainD) (j : JoinD) : Bool := lapsFit (l.map MainD.opt) j
theorem jointOk_out {l : List MainD} {j : JoinD} (h : j.first < 0 ∨ (l.length : Int) ≤ j.first ∨ j.second < 0 ∨ (l.length : Int) ≤ j.second) : jointOk l j = false := by
  rw [jointOk, lapsFit, List.length_map]
  rcases h with h | h | h | h
  · rw [decide_eq_false (show ¬ 0 ≤ j.first by omega)]; simp
  · rw [decide_eq_false (show ¬ j.first < (l.length : Int) by omega)]; simp
  · rw [decide_eq_false (show ¬ 0 ≤ j.second by omega)]; simp
  · rw [decide_eq_false (show ¬ j.second < (l.length : Int) by omega)]; simp
theorem jointOk_in {l : List MainD} {p q : Nat} {a b : MainD} (ha : l[p]? = some a) (hb : l[q]? = some b) :
    jointOk l ⟨p, q⟩ = (a.has && b.has && decide (a.leg.lo.1 < b.leg.lo.1) && decide (a.leg.hi.1 < b.leg.hi.1) && decide (b.leg.lo.1 ≤ a.leg.hi.1)) := by
  have h1 := lt_of_get ha
  have h2 := lt_of_get hb
  have e1 : (l.map MainD.opt).getD p none = a.opt := by rw [List.getD_eq_getElem?_getD, List.getElem?_map, ha]; rfl
  have e2 : (l.map MainD.opt).getD q none = b.opt := by rw [List.getD_eq_getElem?_getD, List.getElem?_map, hb]; rfl
  rw [jointOk, lapsFit, List.length_map]
  simp only [Int.toNat_natCast]
  rw [e1, e2, decide_eq_true (show (0 : Int) ≤ (p : Int) by omega), decide_eq_true (show (p : Int) < (l.length : Int) by omega), decide_eq_true (show (0 : Int) ≤ (q : Int) by omega), decide_eq_true (show (q : Int) < (l.length : Int) by omega)]
  obtain ⟨la, ha', sa, ma⟩ := a
  obtain ⟨lb, hb', sb, mb⟩ := b
  cases ha' <;> cases hb' <;> simp [MainD.opt]
end Go.Proofs.YtkmpddaobncheaaGreatDoor
namespace Go.Proofs.YtkmpddaobncheaaGreatDoor
open Go.RowKit

set_option maxHeartbeats 1000000 in
theorem barLegs_ok (x : BarD) (A : Option Addr) (c : Nat) (w : World) {B : Nat} (hA : Ints w B A x.dims) (hB : B ≤ w.heap.size) (hm : x.mark.size ≤ maxLen) (hd : x.dims.length ≤ 60000) (hok : barOk x = true) :
    Calls Tryz.prog 270 #[.agg #[.string x.mark, .int .i64 x.size, .int .i64 x.count, .int .i64 x.code, .slice A x.dims.length c]] w fun e w' =>
      ∃ A' c', e = .returned (.tuple #[.slice A' (legLens x).length c', .int .i64 0]) ∧ Ints w' w'.heap.size A' (legLens x) ∧ Below w.heap.size w w' := by
  have Hg := hide (barGood_of hok)
  have Hok := hide hok
  have hle := legsLen_le x.code
  have hbo := fun o => hide ((Below.refl B w).alloc hB o)
  clear hok
  go_enter Tryz.func270, Tryz.ntmps270
  go_wp2_with fail
  refine (barValid_any x A c _ (hA.carry (hbo _).out (Nat.le_refl _)) (le_alloc hB _) hm hd).mono ?_
  rintro e w1 ⟨rfl, hb1⟩
  rw [Hok.out]
  have hw1 := hide (below_step (below_new w _) hb1 (Nat.le_refl _))
  have b0 := (Blk.new w 68 #[.string x.mark, .int .i64 x.size, .int .i64 x.count, .int .i64 x.code, .slice A x.dims.length c]).keep hb1
  have c3 := b0.cell 3
  simp at c3
  have hA1 := hide (hA.carry ((hbo _).out.trans (hb1.mono (le_alloc hB _))) (Nat.le_refl _))
  clear hA hb1 hbo
  have B0 := hide b0
  clear b0
  go_wp2_with fail
  refine (legs_any _ _).mono ?_
  rintro e w2 ⟨L, rfl, hL, hb2⟩
  have hw2 := hide (below_step hw1.out hb2 (Nat.le_refl _))
  have B2 := hide (B0.out.keep hb2)
  have hA2 := hide (hA1.out.carry (hb2.mono (Nat.le_trans hB hw1.out.size)) (Nat.le_refl _))
  have hB2 := Nat.le_trans hB hw2.out.size
  have HL := hide hL
  clear hL hb2 B0 hA1 hw1 c3
  go_wp2_with fail
  go_loopw [4, 14] (fun v i wr => ∃ k : Nat, k ≤ legsLen x.code ∧ i = .int .i64 k ∧ (∃ acc, Row wr w2.heap.size 3 1 encInt v acc ∧ Hid (acc = ((legsOf x.code).take k).map (legDim x))) ∧ Below w2.heap.size w2 wr) (fun _ i _ => legsLen x.code - (intOf i).toNat)
  case atStart => exact ⟨0, Nat.zero_le _, rfl, ⟨[], Row.nil _ _ _ _ _, hide rfl⟩, Below.refl _ _⟩
  case round =>
    obtain ⟨k, hk, rfl, ⟨acc, hrow, hacc⟩, hbr⟩ := hrel
    obtain ⟨A0, c0, rfl⟩ := hrow.val
    by_cases hlt : k < legsLen x.code
    · obtain ⟨b, off, d, y, rfl, hbl, hx, hc0, hc1⟩ := HL.out.get (k := k) hlt
      obtain ⟨hd0, hd1, hd2, hd3, hd4⟩ := Hg.out.leg _ (mem_of_get hx)
      obtain ⟨b', off', z, rfl, hbl', hz, hcz⟩ := Ints.get (k := d.toNat) (hA2.out.carry (hbr.mono hB2) (Nat.le_refl _)) hd1
      rw [← hbr.cell (by exact hbl)] at hc0 hc1
      have hz' : z = legDim x (d, y) := by simp only [hd2] at hz; injection hz with hz; exact hz.symm
      have Hx := hide hx
      have Hz := hide hz'
      have c4 := (B2.out.below hbr (B2.out.lt)).cell 4
      simp at c4
      have Hrow := hide hrow
      simp only at hd0 hd1
      have l0 : w.heap.size < wr.heap.size := Nat.lt_of_lt_of_le B2.out.lt hbr.size
      have l1 : b' < wr.heap.size := Nat.lt_of_lt_of_le hbl' (Nat.le_trans hB2 hbr.size)
      clear hx hz hz' hbl hbl' hd2 hd3 hd4 hrow HL hA2
      have hal : acc.length ≤ 1000000 := by rw [hacc.out]; simp; omega
      have hbs := fun o o' => hide (le_alloc (le_alloc hbr.size o) o')
      go_wp2_with (at_builtin; refine wpList_append1 rfl (.tmp 18) (.tmp 25) 66 rfl w2.heap.size 3 (.int .i64 0) 1 8 encInt Tryz.underlying66 (by kernel_rfl) rfl (by omega) encInt_len encInt_one _ acc z rfl ((Hrow.out.alloc _).alloc _) _ rfl (Blk.new1 wr _ _ _) hal (by omega) (hbs _ _).out ?_; intro A1 c1 w3 hrow3 hb3 _)
      go_roundw
      case rel => exact ⟨k + 1, by omega, by go_num, ⟨acc ++ [z], hrow3, hide (by rw [hacc.out, take_snoc' Hx.out, List.map_append, Hz.out]; rfl)⟩, (((hbr.alloc hbr.size _).alloc (le_alloc hbr.size _) _)).trans hb3⟩
      case measure => simp [intOf]; omega
    · obtain rfl : k = legsLen x.code := by omega
      have hacc' : acc = legLens x := by rw [hacc.out, List.take_of_length_le (by simp [legsLen])]; rfl
      subst hacc'
      have Hrow := hide hrow
      clear hrow
      go_wp2_with fail
      go_ret2
      exact ⟨_, _, rfl, Row.read Hrow.out encInt_len (by omega), below_step hw2.out hbr (Nat.le_refl _)⟩
end Go.Proofs.YtkmpddaobncheaaGreatDoor
