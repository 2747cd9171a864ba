/- Plain: the cells of a plan, the legs that are seen in them. No walk stands here. Whether a detail is valid, as a Boolean; the cells of a plan. The legs of a laid bar. The reference of layer 16: the points and the legs of a laid bar; of layer 25: its main leg. -/
import Derived.Test.YtpmipoljnchheaaGreatMag
import Derived.Test.YtpmipoljnchheaaGreatMai
import Derived.Test.YtpmipoljnchheaaGreatMan
import Derived.Deep.RegionHeld3
import Derived.Test.YtpmipoljnchheaaGreatMal
import Derived.Test.YtpmipoljnchheaaGreatMam
import Derived.Test.YtpmipoljnchheaaGreatMak
namespace Go.Proofs.YtpmipoljnchheaaGreat
open Go.RowKit

/-- A leg with the index of its line of the schedule. -/
structure RodD where
  leg : BoxD
  line : Int
def encRod (r : RodD) : List Value := encB r.leg ++ [.int .i64 r.line]
theorem encRod_len (r : RodD) : (encRod r).length = 7 := rfl
theorem encRod_one (r : RodD) : ∀ u ∈ encRod r, u.oneCell' = true := by
  intro u hu
  rcases List.mem_append.1 hu with hu | hu
  · exact encB_one r.leg u hu
  · simp only [List.mem_cons, List.not_mem_nil, or_false] at hu
    rcases hu with rfl
    rfl
abbrev RodsAt (w : World) (B : Nat) (A : Option Addr) (l : List RodD) : Prop := SlOf w B 7 (Flat encRod) A l
theorem RodsAt.get {w : World} {B : Nat} {A : Option Addr} {l : List RodD} (h : RodsAt w B A l) {k : Nat} (hk : k < l.length) :
    ∃ b off x, A = some ⟨b, off, none⟩ ∧ b < B ∧ l[k]? = some x ∧ ∀ j v, (encRod x)[j]? = some v → w.cell? ⟨b, off + k * 7 + j, none⟩ = some v := by
  obtain ⟨b, off, x, vs, hA, hb, hx, _, hr, hc⟩ := h.at_ hk
  have hr' : vs = encRod x := hr
  subst hr'
  exact ⟨b, off, x, hA, hb, hx, hc⟩
def rodsOfBar (bars : List BarD) (l : LaidD) : List RodD := (legsOfPts l.pts).map fun b => ⟨b, idx (markIs l.bar.mark) bars⟩
def rodsOf (bars : List BarD) (runs : List RunD) : List RodD := (laidAll bars runs).flatMap (rodsOfBar bars)

structure GridD where
  lo : Pt
  scale : Int
  rows : Int
  cols : Int
def upQ (n s : Int) : Int := (n + s - 1) / s
def gridOf (x : DetD) (s : Int) : GridD := ⟨(hullOf x.mem.boxes).lo, s, upQ ((hullOf x.mem.boxes).hi.2.1 - (hullOf x.mem.boxes).lo.2.1) s, upQ ((hullOf x.mem.boxes).hi.1 - (hullOf x.mem.boxes).lo.1) s⟩
def planErr (x : DetD) (s : Int) : Int := if detOk x = false then 1 else if s < 1 ∨ 1048576 < s then 2 else if 20000 < (gridOf x s).rows * (gridOf x s).cols then 6 else 0
def cellHit (g : GridD) (row col : Int) (b : BoxD) : Bool :=
  decide (b.lo.1 < g.lo.1 + col * g.scale + g.scale) && decide (g.lo.1 + col * g.scale ≤ b.hi.1) && decide (b.lo.2.1 < g.lo.2.1 + row * g.scale + g.scale) && decide (g.lo.2.1 + row * g.scale ≤ b.hi.2.1)
def hitLines (g : GridD) (l : List RodD) (row col : Int) : List Int := (l.filter fun r => cellHit g row col r.leg).map RodD.line
theorem hitLines_snoc (g : GridD) (l : List RodD) (r : RodD) (row col : Int) : hitLines g (l ++ [r]) row col = hitLines g l row col ++ (if cellHit g row col r.leg then [r.line] else []) := by
  simp only [hitLines, List.filter_append, List.map_append, List.filter_cons, List.filter_nil]
  split <;> simp_all
/-- The lines of the schedule that are seen in a cell, ascending. -/
def seenOf (n : Nat) (g : GridD) (l : List RodD) (row col : Int) : List Int := ((List.range n).map fun (k : Nat) => (k : Int)).filter fun k => (hitLines g l row col).contains k

/-! Two ascending lists with the same elements are the same. -/
theorem asc_eq : ∀ (a b : List Int), a.Pairwise (· < ·) → b.Pairwise (· < ·) → (∀ x, x ∈ a ↔ x ∈ b) → a = b := by
  intro a
  induction a with
  | nil =>
    intro b _ _ h
    cases b with
    | nil => rfl
    | cons y b => exact absurd ((h y).2 (by simp)) (by simp)
  | cons x a ih =>
    intro b ha hb h
    cases b with
    | nil => exact absurd ((h x).1 (by simp)) (by simp)
    | cons y b =>
      rw [List.pairwise_cons] at ha hb
      have hxy : x = y := by
        have h1 := (h x).1 (by simp)
        have h2 := (h y).2 (by simp)
        rcases List.mem_cons.1 h1 with h1 | h1
        · exact h1
        rcases List.mem_cons.1 h2 with h2 | h2
        · exact h2.symm
        have := hb.1 x h1
        have := ha.1 y h2
        omega
      subst hxy
      rw [ih b ha.2 hb.2 (fun z => ?_)]
      constructor
      · intro hz
        have h1 := (h z).1 (List.mem_cons_of_mem _ hz)
        rcases List.mem_cons.1 h1 with h1 | h1
        · subst h1
          have := ha.1 _ hz
          omega
        · exact h1
      · intro hz
        have h1 := (h z).2 (List.mem_cons_of_mem _ hz)
        rcases List.mem_cons.1 h1 with h1 | h1
        · subst h1
          have := hb.1 _ hz
          omega
        · exact h1
theorem range_asc (n : Nat) : ((List.range n).map fun (k : Nat) => (k : Int)).Pairwise (· < ·) := by
  rw [List.pairwise_map]
  exact (List.pairwise_lt_range).imp (by intro a b h; omega)
theorem seenOf_asc (n : Nat) (g : GridD) (l : List RodD) (row col : Int) : (seenOf n g l row col).Pairwise (· < ·) := (range_asc n).filter _
theorem mem_seenOf {n : Nat} {g : GridD} {l : List RodD} {row col k : Int} : k ∈ seenOf n g l row col ↔ (0 ≤ k ∧ k < n) ∧ k ∈ hitLines g l row col := by
  simp only [seenOf, List.mem_filter, List.mem_map, List.mem_range, List.contains_iff_mem]
  constructor
  · rintro ⟨⟨a, h, rfl⟩, h2⟩
    exact ⟨⟨by omega, by omega⟩, h2⟩
  · rintro ⟨⟨h1, h2⟩, h3⟩
    exact ⟨⟨k.toNat, by omega, by omega⟩, h3⟩
/-- What is sorted, each once, is what is seen. -/
theorem seen_of {n : Nat} {g : GridD} {l : List RodD} {row col : Int} (hl : ∀ r ∈ l, 0 ≤ r.line ∧ r.line < n) (out : List Int) (ho : out.Pairwise (· < ·)) (hm : ∀ k, k ∈ out ↔ k ∈ hitLines g l row col) : out = seenOf n g l row col := by
  refine asc_eq _ _ ho (seenOf_asc ..) (fun k => ?_)
  rw [mem_seenOf, hm]
  refine ⟨fun h => ⟨?_, h⟩, fun h => h.2⟩
  simp only [hitLines, List.mem_map, List.mem_filter] at h
  obtain ⟨r, ⟨hr, _⟩, rfl⟩ := h
  exact hl r hr
end Go.Proofs.YtpmipoljnchheaaGreat
namespace Go.Proofs.YtpmipoljnchheaaGreat
open Go.RowKit

set_option maxHeartbeats 1000000 in
set_option maxRecDepth 100000 in
theorem lapValid_any (x : DetD) (s : DetS) (w : World) {B : Nat} (h : DetAt w B x s) (hB : B ≤ w.heap.size) (hf : DetFit x s) :
    Calls Tryz.prog 39 #[detV x s] w fun e w' => e = .returned (.bool (detOk x)) ∧ Below w.heap.size w w' := by
  have HL := hide (fun (W : World) (hz : Below w.heap.size w W) => look_any x s W (h.carry (hz.mono hB) (Nat.le_refl _)) (Nat.le_trans hB hz.size) hf)
  have K0 := hide (Blk.new w 34 (detCells x.mem x.rule s))
  have HW := hide (below_new w (.cells (detCells x.mem x.rule s) 34))
  have Hi := hide (show (Tryz.prog.info? 34).map (·.size) = some 19 by kernel_rfl)
  obtain ⟨mem, bars, runs, laps, dems, rule⟩ := x
  obtain ⟨a1, n1, c1, a2, n2, c2, a3, n3, c3, a4, n4, c4, a5, n5, c5, a6, n6, c6⟩ := s
  obtain ⟨name, boxes, holes, cover, agg, poker⟩ := mem
  obtain ⟨r1, r2, r3, r4, r5, r6, r7, r8, r9⟩ := rule
  simp only [detCells] at K0 HW
  clear h hf
  show Calls Tryz.prog 39 #[.agg #[.string name, .slice a1 n1 c1, .slice a2 n2 c2, .int .i64 cover, .int .i64 agg, .int .i64 poker, .slice a3 n3 c3, .slice a4 n4 c4, .slice a5 n5 c5, .slice a6 n6 c6, .int .i64 r1, .int .i64 r2, .int .i64 r3, .int .i64 r4, .int .i64 r5, .int .i64 r6, .int .i64 r7, .int .i64 r8, .int .i64 r9]] w _
  go_enter Tryz.func39, Tryz.ntmps39
  go_wp2_with (refine wpList_load_row rfl 34 (.tmp 1) rfl w.heap.size rfl 34 _ (0, 0) _ K0.out Tryz.underlying34 rfl Hi.out ?_)
  refine (HL.out _ HW.out).mono ?_
  rintro e w2 (⟨hd, rfl, hb2⟩ | ⟨hd, A, c, rfl, _, hb2⟩)
  all_goals
    have Hd := hide hd
    have Hb := hide (below_step HW.out hb2 (Nat.le_refl _))
    clear hd hb2 HL K0 HW Hi
    go_wp2_with fail
    go_ret
    exact ⟨ret_bool Hd.out.symm, Hb.out⟩
set_option maxHeartbeats 1000000 in
theorem made1_any (n s : Int) (g : Nat) (w : World) (h0 : w.cell? ⟨g, 0, none⟩ = some (.int .i64 s)) (hs : 1 ≤ s ∧ s ≤ 1048576) (hn : 0 ≤ n ∧ n ≤ 4194304) :
    Calls Tryz.prog 62 #[.int .i64 n, .pointer (some ⟨g, 0, none⟩)] w fun e w' => e = .returned (.int .i64 (upQ n s)) ∧ w' = w := by
  have z1 : IntKind.i64.wrap (n + s) = n + s := IntWalk.i64_in _ (by omega)
  have z2 : IntKind.i64.wrap (n + s - 1) = n + s - 1 := IntWalk.i64_in _ (by omega)
  go_enter Tryz.func62, Tryz.ntmps62
  go_wp2_with fail
  go_ret
  exact ⟨ret_int rfl, rfl⟩
theorem boxOk_iff {b : BoxD} : boxOk b = true ↔ (b.lo.1 ≤ b.hi.1 ∧ -1048576 ≤ b.lo.1 ∧ b.hi.1 ≤ 1048576) ∧ (b.lo.2.1 ≤ b.hi.2.1 ∧ -1048576 ≤ b.lo.2.1 ∧ b.hi.2.1 ≤ 1048576) ∧ (b.lo.2.2 ≤ b.hi.2.2 ∧ -1048576 ≤ b.lo.2.2 ∧ b.hi.2.2 ≤ 1048576) := by
  simp [boxOk, axes, axisFine, axisOk, and_assoc]
theorem hullOn_ok : ∀ (l : List BoxD) (a : BoxD), boxOk a = true → l.all boxOk = true → boxOk (hullOn a l) = true := by
  intro l
  induction l with
  | nil => intro a h _; exact h
  | cons b l ih =>
    intro a ha hl
    rw [List.all_cons, Bool.and_eq_true] at hl
    refine ih _ ?_ hl.2
    have h1 := boxOk_iff.1 ha
    have h2 := boxOk_iff.1 hl.1
    rw [boxOk_iff]
    simp only [minP, maxP]
    omega
theorem hullOf_ok {l : List BoxD} (hn : 1 ≤ l.length) (h : l.all boxOk = true) : boxOk (hullOf l) = true := by
  cases l with
  | nil => simp at hn
  | cons b l =>
    have h9 := h
    rw [List.all_cons, Bool.and_eq_true] at h9
    exact hullOn_ok (b :: l) b h9.1 h
theorem upQ_range {n s : Int} (h0 : 0 ≤ n) (h1 : n ≤ 4194304) (hs : 1 ≤ s ∧ s ≤ 1048576) : 0 ≤ upQ n s ∧ upQ n s ≤ 8388608 := by
  unfold upQ
  have a := Int.ediv_nonneg (a := n + s - 1) (b := s) (by omega) (by omega)
  have b := Int.ediv_le_self (a := n + s - 1) s (by omega)
  omega
theorem prod_range {a b : Int} (h0 : 0 ≤ a) (h1 : a ≤ 8388608) (h2 : 0 ≤ b) (h3 : b ≤ 8388608) : 0 ≤ a * b ∧ a * b ≤ 70368744177664 := by
  have a1 := Int.mul_nonneg h0 h2
  have a2 := Int.mul_le_mul h1 h3 h2 (by omega)
  omega
theorem detOk_parts {x : DetD} (h : detOk x = true) : memOk x.mem = true ∧ laidOk x.bars x.runs = true ∧ solidOk x.mem.boxes x.mem.holes = true := by
  simp only [detOk, detHead, Bool.and_eq_true] at h
  have hm := h.1.1.1.1.1
  refine ⟨hm, h.1.1.1.1.2, ?_⟩
  simp only [memOk, Bool.and_eq_true] at hm
  exact hm.1.1.1.2
theorem detOk_hull {x : DetD} (h : detOk x = true) : boxOk (hullOf x.mem.boxes) = true := by
  obtain ⟨b1, _, b3⟩ := solid_boxes (detOk_parts h).2.2
  exact hullOf_ok b1 b3
def zeroGrid : GridD := ⟨(0, 0, 0), 0, 0, 0⟩
def planGrid (x : DetD) (s : Int) : GridD := if planErr x s = 0 then gridOf x s else zeroGrid
abbrev gridCells (g : GridD) : Array Value := #[.int .i64 g.lo.1, .int .i64 g.lo.2.1, .int .i64 g.lo.2.2, .int .i64 g.scale, .int .i64 g.rows, .int .i64 g.cols]
theorem plan_bad {x : DetD} {s : Int} {e : Int} (h : planErr x s = e) (he : e ≠ 0) : planGrid x s = zeroGrid := by rw [planGrid, h, if_neg he]
theorem plan_ok {x : DetD} {s : Int} (h : planErr x s = 0) : planGrid x s = gridOf x s := by rw [planGrid, if_pos h]
set_option maxHeartbeats 4000000 in
set_option maxRecDepth 100000 in
theorem made_any (x : DetD) (s : DetS) (sc : Int) (w : World) {B : Nat} (h : DetAt w B x s) (hB : B ≤ w.heap.size) (hf : DetFit x s) :
    Calls Tryz.prog 32 #[detV x s, .int .i64 sc] w fun e w' => e = .returned (.tuple #[.agg (gridCells (planGrid x sc)), .int .i64 (planErr x sc)]) ∧ Below w.heap.size w w' := by
  have HV := hide (fun (W : World) (hz : Below w.heap.size w W) => lapValid_any x s W (h.carry (hz.mono hB) (Nat.le_refl _)) (Nat.le_trans hB hz.size) hf)
  have HS := hide (fun (W : World) (hz : Below w.heap.size w W) (hok : solidOk x.mem.boxes x.mem.holes = true) => solidHull_ok x.mem.boxes x.mem.holes s.a1 s.a2 s.n1 s.n2 s.c1 s.c2 W (h.h1.carry (Flat.carried _) (hz.mono hB) (Nat.le_refl _)) (h.h2.carry (Flat.carried _) (hz.mono hB) (Nat.le_refl _)) (Nat.le_trans hB hz.size) hf.l1 hf.l2 hok)
  have Hi := hide (show (Tryz.prog.info? 34).map (·.size) = some 19 by kernel_rfl)
  have K0 := hide (((Blk.new w 34 (detCells x.mem x.rule s)).alloc (.cells #[.int .i64 sc] 3)).alloc (.cells #[.int .i64 0, .int .i64 0, .int .i64 0, .int .i64 0, .int .i64 0, .int .i64 0] 84))
  have KS := hide ((Blk.new1 w (.cells (detCells x.mem x.rule s) 34) 3 #[.int .i64 sc]).alloc (.cells #[.int .i64 0, .int .i64 0, .int .i64 0, .int .i64 0, .int .i64 0, .int .i64 0] 84))
  have KG := hide (Blk.new2 w (.cells (detCells x.mem x.rule s) 34) (.cells #[.int .i64 sc] 3) 84 #[.int .i64 0, .int .i64 0, .int .i64 0, .int .i64 0, .int .i64 0, .int .i64 0])
  have HW := hide ((below_new2 w (.cells (detCells x.mem x.rule s) 34) (.cells #[.int .i64 sc] 3)).alloc (by simp; omega) (.cells #[.int .i64 0, .int .i64 0, .int .i64 0, .int .i64 0, .int .i64 0, .int .i64 0] 84))
  obtain ⟨er, her⟩ : ∃ e, e = planErr x sc := ⟨_, rfl⟩
  obtain ⟨gr, hgr⟩ : ∃ g, g = planGrid x sc := ⟨_, rfl⟩
  obtain ⟨td, htd⟩ : ∃ t, t = detOk x := ⟨_, rfl⟩
  have Hbad := hide (fun (e : Int) (h : er = e) (he : e ≠ 0) => show gr = zeroGrid by rw [hgr]; exact plan_bad (her ▸ h) he)
  have Hgood := hide (fun (h : er = 0) => show gr = gridOf x sc by rw [hgr]; exact plan_ok (her ▸ h))
  have He := hide (show er = if td = false then 1 else if sc < 1 ∨ 1048576 < sc then 2 else if 20000 < (gridOf x sc).rows * (gridOf x sc).cols then 6 else 0 by rw [her, htd]; rfl)
  rw [← htd] at HV
  rw [← her, ← hgr]
  have Hsol := hide (fun (hd : td = true) => (detOk_parts (htd ▸ hd)).2.2)
  have Hhull := hide (fun (hd : td = true) => detOk_hull (htd ▸ hd))
  have Hgr := hide (show gridOf x sc = ⟨(hullOf x.mem.boxes).lo, sc, upQ ((hullOf x.mem.boxes).hi.2.1 - (hullOf x.mem.boxes).lo.2.1) sc, upQ ((hullOf x.mem.boxes).hi.1 - (hullOf x.mem.boxes).lo.1) sc⟩ from rfl)
  obtain ⟨mem, bars, runs, laps, dems, rule⟩ := x
  obtain ⟨a1, n1, c1, a2, n2, c2, a3, n3, c3, a4, n4, c4, a5, n5, c5, a6, n6, c6⟩ := s
  obtain ⟨name, boxes, holes, cover, agg, poker⟩ := mem
  obtain ⟨r1, r2, r3, r4, r5, r6, r7, r8, r9⟩ := rule
  simp only [detCells] at K0 KS KG HW HS Hsol Hhull Hgr
  clear h hf her hgr htd
  show Calls Tryz.prog 32 #[.agg #[.string name, .slice a1 n1 c1, .slice a2 n2 c2, .int .i64 cover, .int .i64 agg, .int .i64 poker, .slice a3 n3 c3, .slice a4 n4 c4, .slice a5 n5 c5, .slice a6 n6 c6, .int .i64 r1, .int .i64 r2, .int .i64 r3, .int .i64 r4, .int .i64 r5, .int .i64 r6, .int .i64 r7, .int .i64 r8, .int .i64 r9], .int .i64 sc] w _
  go_enter Tryz.func32, Tryz.ntmps32
  go_wp2_with (refine wpList_load_row rfl 34 (.tmp 2) rfl w.heap.size rfl 34 _ (0, 0) _ K0.out Tryz.underlying34 rfl Hi.out ?_)
  refine (HV.out _ HW.out).mono ?_
  rintro e w2 ⟨rfl, hb2⟩
  have K0 := hide (K0.out.keep hb2)
  have KS := hide (KS.out.keep hb2)
  have KG := hide (KG.out.keep hb2)
  have HW := hide (below_step HW.out hb2 (Nat.le_refl _))
  clear hb2 HV Hi
  cases td
  · have hres := hide (show er = 1 by rw [He.out, if_pos rfl])
    have hg := hide (Hbad.out _ hres.out (by decide))
    have g0 := KG.out.cell 0
    have g1 := KG.out.cell 1
    have g2 := KG.out.cell 2
    have g3 := KG.out.cell 3
    have g4 := KG.out.cell 4
    have g5 := KG.out.cell 5
    have f0 := KG.out.frozen 0
    have f1 := KG.out.frozen 1
    have f2 := KG.out.frozen 2
    have f3 := KG.out.frozen 3
    have f4 := KG.out.frozen 4
    have f5 := KG.out.frozen 5
    simp at g0 g1 g2 g3 g4 g5
    have gl := KG.out.lt
    go_wp2_with fail
    refine bodyPost_ret (results_ct rfl rfl ((((((KG.out.set_ 0 _).set_ 1 _).set_ 2 _).set_ 3 _).set_ 4 _).set_ 5 _) Tryz.underlying84 rfl (by kernel_rfl)) rfl ?_
    refine ⟨?_, (((((HW.out.setCell (p := ⟨w.heap.size + 2, 0, none⟩) (by simp) _).setCell (p := ⟨w.heap.size + 2, 1, none⟩) (by simp) _).setCell (p := ⟨w.heap.size + 2, 2, none⟩) (by simp) _).setCell (p := ⟨w.heap.size + 2, 3, none⟩) (by simp) _).setCell (p := ⟨w.heap.size + 2, 4, none⟩) (by simp) _).setCell (p := ⟨w.heap.size + 2, 5, none⟩) (by simp) _⟩
    simp only [List.setIfInBounds_toArray, List.set_cons_zero, List.set_cons_succ]
    rw [hg.out, hres.out]
    rfl
  have s0 := KS.out.cell 0
  simp at s0
  have sl := KS.out.lt
  by_cases hs1 : sc < 1
  · have d0 : decide (sc < 1) = true := by simpa using hs1
    have hres := hide (show er = 2 by rw [He.out, if_neg (by decide), if_pos (.inl hs1)])
    have hg := hide (Hbad.out _ hres.out (by decide))
    have g0 := KG.out.cell 0
    have g1 := KG.out.cell 1
    have g2 := KG.out.cell 2
    have g3 := KG.out.cell 3
    have g4 := KG.out.cell 4
    have g5 := KG.out.cell 5
    have f0 := KG.out.frozen 0
    have f1 := KG.out.frozen 1
    have f2 := KG.out.frozen 2
    have f3 := KG.out.frozen 3
    have f4 := KG.out.frozen 4
    have f5 := KG.out.frozen 5
    simp at g0 g1 g2 g3 g4 g5
    have gl := KG.out.lt
    go_wp2_with fail
    refine bodyPost_ret (results_ct rfl rfl ((((((KG.out.set_ 0 _).set_ 1 _).set_ 2 _).set_ 3 _).set_ 4 _).set_ 5 _) Tryz.underlying84 rfl (by kernel_rfl)) rfl ?_
    refine ⟨?_, (((((HW.out.setCell (p := ⟨w.heap.size + 2, 0, none⟩) (by simp) _).setCell (p := ⟨w.heap.size + 2, 1, none⟩) (by simp) _).setCell (p := ⟨w.heap.size + 2, 2, none⟩) (by simp) _).setCell (p := ⟨w.heap.size + 2, 3, none⟩) (by simp) _).setCell (p := ⟨w.heap.size + 2, 4, none⟩) (by simp) _).setCell (p := ⟨w.heap.size + 2, 5, none⟩) (by simp) _⟩
    simp only [List.setIfInBounds_toArray, List.set_cons_zero, List.set_cons_succ]
    rw [hg.out, hres.out]
    rfl
  have d0 : decide (sc < 1) = false := by simpa using hs1
  by_cases hs2 : 1048576 < sc
  · have d1 : decide (1048576 < sc) = true := by simpa using hs2
    have hres := hide (show er = 2 by rw [He.out, if_neg (by decide), if_pos (.inr hs2)])
    have hg := hide (Hbad.out _ hres.out (by decide))
    have g0 := KG.out.cell 0
    have g1 := KG.out.cell 1
    have g2 := KG.out.cell 2
    have g3 := KG.out.cell 3
    have g4 := KG.out.cell 4
    have g5 := KG.out.cell 5
    have f0 := KG.out.frozen 0
    have f1 := KG.out.frozen 1
    have f2 := KG.out.frozen 2
    have f3 := KG.out.frozen 3
    have f4 := KG.out.frozen 4
    have f5 := KG.out.frozen 5
    simp at g0 g1 g2 g3 g4 g5
    have gl := KG.out.lt
    go_wp2_with fail
    refine bodyPost_ret (results_ct rfl rfl ((((((KG.out.set_ 0 _).set_ 1 _).set_ 2 _).set_ 3 _).set_ 4 _).set_ 5 _) Tryz.underlying84 rfl (by kernel_rfl)) rfl ?_
    refine ⟨?_, (((((HW.out.setCell (p := ⟨w.heap.size + 2, 0, none⟩) (by simp) _).setCell (p := ⟨w.heap.size + 2, 1, none⟩) (by simp) _).setCell (p := ⟨w.heap.size + 2, 2, none⟩) (by simp) _).setCell (p := ⟨w.heap.size + 2, 3, none⟩) (by simp) _).setCell (p := ⟨w.heap.size + 2, 4, none⟩) (by simp) _).setCell (p := ⟨w.heap.size + 2, 5, none⟩) (by simp) _⟩
    simp only [List.setIfInBounds_toArray, List.set_cons_zero, List.set_cons_succ]
    rw [hg.out, hres.out]
    rfl
  have d1 : decide (1048576 < sc) = false := by simpa using hs2
  have He2 := hide (show er = if 20000 < (gridOf ⟨⟨name, boxes, holes, cover, agg, poker⟩, bars, runs, laps, dems, ⟨r1, r2, r3, r4, r5, r6, r7, r8, r9⟩⟩ sc).rows * (gridOf ⟨⟨name, boxes, holes, cover, agg, poker⟩, bars, runs, laps, dems, ⟨r1, r2, r3, r4, r5, r6, r7, r8, r9⟩⟩ sc).cols then 6 else 0 by rw [He.out, if_neg (by decide), if_neg (by omega)])
  have hsr : 1 ≤ sc ∧ sc ≤ 1048576 := by omega
  have hhull := Hhull.out rfl
  have hsol := Hsol.out rfl
  have HSs := hide (fun (W : World) (hz : Below w.heap.size w W) => HS.out W hz hsol)
  generalize hullOf boxes = hb at *
  obtain ⟨⟨x1, x2, x3⟩, x4, x5, x6⟩ := hb
  simp only [boxOk_iff] at hhull
  simp only at Hgr
  obtain ⟨⟨u1, u2, u3⟩, ⟨v1, v2, v3⟩, t1, t2, t3⟩ := hhull
  have k1 := K0.out.cell 1
  have k2 := K0.out.cell 2
  simp at k1 k2
  have kl := K0.out.lt
  clear hsol HS Hsol Hhull He hs1 hs2
  go_wp2_with fail
  refine (HSs.out _ HW.out).mono ?_
  rintro e w3 ⟨rfl, hb3⟩
  have KS := hide (KS.out.keep hb3)
  have KG := hide (KG.out.keep hb3)
  have HW := hide (below_step HW.out hb3 (Nat.le_refl _))
  have s0 := KS.out.cell 0
  simp at s0
  have sl := KS.out.lt
  clear hb3 k1 k2 kl K0 HSs
  have z1 : IntKind.i64.wrap (x5 - x2) = x5 - x2 := IntWalk.i64_in _ (by omega)
  have z2 : IntKind.i64.wrap (x4 - x1) = x4 - x1 := IntWalk.i64_in _ (by omega)
  obtain ⟨rw1, hrw⟩ : ∃ r, r = upQ (x5 - x2) sc := ⟨_, rfl⟩
  obtain ⟨cl1, hcl⟩ : ∃ r, r = upQ (x4 - x1) sc := ⟨_, rfl⟩
  have hM1 := fun (W : World) (h0 : W.cell? ⟨w.heap.size + 1, 0, none⟩ = some (.int .i64 sc)) => made1_any (x5 - x2) sc (w.heap.size + 1) W h0 hsr (by omega)
  have hM2 := fun (W : World) (h0 : W.cell? ⟨w.heap.size + 1, 0, none⟩ = some (.int .i64 sc)) => made1_any (x4 - x1) sc (w.heap.size + 1) W h0 hsr (by omega)
  have hr1 := upQ_range (n := x5 - x2) (s := sc) (by omega) (by omega) hsr
  have hr2 := upQ_range (n := x4 - x1) (s := sc) (by omega) (by omega) hsr
  rw [← hrw] at hM1 hr1
  rw [← hcl] at hM2 hr2
  have Hgr2 := hide (Hgr.out.trans (by rw [← hrw, ← hcl] : _ = (⟨(x1, x2, x3), sc, rw1, cl1⟩ : GridD)))
  have HM1 := hide hM1
  have HM2 := hide hM2
  have hpr := prod_range hr1.1 hr1.2 hr2.1 hr2.2
  have z3 : IntKind.i64.wrap (rw1 * cl1) = rw1 * cl1 := IntWalk.i64_in _ (by omega)
  go_wp2_with fail
  obtain ⟨wa, hwa⟩ : ∃ wa, wa = w3.alloc (.cells #[.int .i64 x1, .int .i64 x2, .int .i64 x3, .int .i64 x4, .int .i64 x5, .int .i64 x6] 73) := ⟨_, rfl⟩
  have KB := hide (Blk.new w3 73 #[.int .i64 x1, .int .i64 x2, .int .i64 x3, .int .i64 x4, .int .i64 x5, .int .i64 x6])
  have HWB := hide (HW.out.alloc HW.out.size (.cells #[.int .i64 x1, .int .i64 x2, .int .i64 x3, .int .i64 x4, .int .i64 x5, .int .i64 x6] 73))
  have KGB := hide (KG.out.alloc (.cells #[.int .i64 x1, .int .i64 x2, .int .i64 x3, .int .i64 x4, .int .i64 x5, .int .i64 x6] 73))
  have KSB := hide (KS.out.alloc (.cells #[.int .i64 x1, .int .i64 x2, .int .i64 x3, .int .i64 x4, .int .i64 x5, .int .i64 x6] 73))
  rw [← hwa] at KB HWB KGB KSB ⊢
  have b0 := KB.out.cell 0
  have b1 := KB.out.cell 1
  have b2 := KB.out.cell 2
  have b3 := KB.out.cell 3
  have b4 := KB.out.cell 4
  have b5 := KB.out.cell 5
  have s0 := KSB.out.cell 0
  simp at b0 b1 b2 b3 b4 b5 s0
  have lb := KB.out.lt
  have ls := KSB.out.lt
  clear hM1 hM2 hrw hcl Hgr hwa
  go_cut [9] from 35 (fun s9 wx => s9 = .pointer (some ⟨wa.heap.size, 0, none⟩) ∧ wx = (wa.alloc (.cells #[.int .i64 x1, .int .i64 x2, .int .i64 x3, .int .i64 sc, .int .i64 rw1, .int .i64 cl1] 84)).drew)
  case first =>
    go_region_held3 (fun W => W.cell? ⟨w.heap.size + 1, 0, none⟩ = some (.int .i64 sc) ∧ W.cell? ⟨w3.heap.size, 0, none⟩ = some (.int .i64 x1) ∧ W.cell? ⟨w3.heap.size, 1, none⟩ = some (.int .i64 x2) ∧ W.cell? ⟨w3.heap.size, 2, none⟩ = some (.int .i64 x3) ∧ W.cell? ⟨w3.heap.size, 3, none⟩ = some (.int .i64 x4) ∧ W.cell? ⟨w3.heap.size, 4, none⟩ = some (.int .i64 x5))
      (first | go_keep)
      (first
        | (go_at_call 62; have hS := ‹World.cell? _ ⟨w.heap.size + 1, 0, none⟩ = some (.int .i64 sc) ∧ _ ∧ _ ∧ _ ∧ _ ∧ _›; (first | (with_reducible refine (HM1.out _ hS.1).mono ?_) | (with_reducible refine (HM2.out _ hS.1).mono ?_)); rintro e w' ⟨rfl, rfl⟩))
    all_goals
      go_wp2_with fail
      go_meet
      exact ⟨rfl, rfl⟩
  obtain ⟨rfl, hwb⟩ := hcut
  obtain ⟨gG, hgG⟩ : ∃ g, g = w.heap.size + 1 + 1 := ⟨_, rfl⟩
  have KGB := hide (show Blk wa gG 84 #[.int .i64 0, .int .i64 0, .int .i64 0, .int .i64 0, .int .i64 0, .int .i64 0] by rw [hgG]; exact KGB.out)
  have hwg : w.heap.size ≤ gG := by omega
  rw [← hgG]
  have HgG := hide hgG
  clear hgG
  have HWC := hide ((HWB.out.alloc HWB.out.size (.cells #[.int .i64 x1, .int .i64 x2, .int .i64 x3, .int .i64 sc, .int .i64 rw1, .int .i64 cl1] 84)).drew)
  have KGC := hide ((KGB.out.alloc (.cells #[.int .i64 x1, .int .i64 x2, .int .i64 x3, .int .i64 sc, .int .i64 rw1, .int .i64 cl1] 84)).drew)
  have KN := hide ((Blk.new wa 84 #[.int .i64 x1, .int .i64 x2, .int .i64 x3, .int .i64 sc, .int .i64 rw1, .int .i64 cl1]).drew)
  rw [← hwb] at HWC KGC KN
  have HNG := hide (show wa.heap.size ≠ gG by have := KGB.out.lt; omega)
  obtain ⟨gN, hgN⟩ : ∃ g, g = wa.heap.size := ⟨_, rfl⟩
  rw [← hgN] at KN HNG ⊢
  have g0 := KGC.out.cell 0
  have g1 := KGC.out.cell 1
  have g2 := KGC.out.cell 2
  have g3 := KGC.out.cell 3
  have g4 := KGC.out.cell 4
  have g5 := KGC.out.cell 5
  have f0 := KGC.out.frozen 0
  have f1 := KGC.out.frozen 1
  have f2 := KGC.out.frozen 2
  have f3 := KGC.out.frozen 3
  have f4 := KGC.out.frozen 4
  have f5 := KGC.out.frozen 5
  have n0 := KN.out.cell 0
  have n1 := KN.out.cell 1
  have n2 := KN.out.cell 2
  have n3 := KN.out.cell 3
  have n4 := KN.out.cell 4
  have n5 := KN.out.cell 5
  simp at g0 g1 g2 g3 g4 g5 n0 n1 n2 n3 n4 n5
  clear b0 b1 b2 b3 b4 b5 s0 HM1 HM2 hwb hgN lb ls sl hr1 hr2 hpr z1 z2 u1 u2 u3 v1 v2 v3 t1 t2 t3 KB HWB KGB KSB HW KS KG
  by_cases hbig : 20000 < rw1 * cl1
  · have d2 : decide (20000 < rw1 * cl1) = true := by simpa using hbig
    have hres := hide (show er = 6 by rw [He2.out, Hgr2.out, if_pos hbig])
    have hg := hide (Hbad.out _ hres.out (by decide))
    clear hbig
    go_wp2_with fail
    refine bodyPost_ret (results_ct rfl rfl ((((((KGC.out.set_ 0 _).set_ 1 _).set_ 2 _).set_ 3 _).set_ 4 _).set_ 5 _) Tryz.underlying84 rfl (by kernel_rfl)) rfl ?_
    refine ⟨?_, (((((HWC.out.setCell (p := ⟨gG, 0, none⟩) hwg _).setCell (p := ⟨gG, 1, none⟩) hwg _).setCell (p := ⟨gG, 2, none⟩) hwg _).setCell (p := ⟨gG, 3, none⟩) hwg _).setCell (p := ⟨gG, 4, none⟩) hwg _).setCell (p := ⟨gG, 5, none⟩) hwg _⟩
    simp only [List.setIfInBounds_toArray, List.set_cons_zero, List.set_cons_succ]
    rw [hg.out, hres.out]
    rfl
  · have d2 : decide (20000 < rw1 * cl1) = false := by simpa using hbig
    have hres := hide (show er = 0 by rw [He2.out, Hgr2.out, if_neg hbig])
    have hg := hide ((Hgood.out hres.out).trans Hgr2.out)
    clear hbig
    go_wp2_with fail
    refine bodyPost_ret (results_ct rfl rfl ((((((KGC.out.set_ 0 _).set_ 1 _).set_ 2 _).set_ 3 _).set_ 4 _).set_ 5 _) Tryz.underlying84 rfl (by kernel_rfl)) rfl ?_
    refine ⟨?_, (((((HWC.out.setCell (p := ⟨gG, 0, none⟩) hwg _).setCell (p := ⟨gG, 1, none⟩) hwg _).setCell (p := ⟨gG, 2, none⟩) hwg _).setCell (p := ⟨gG, 3, none⟩) hwg _).setCell (p := ⟨gG, 4, none⟩) hwg _).setCell (p := ⟨gG, 5, none⟩) hwg _⟩
    simp only [List.setIfInBounds_toArray, List.set_cons_zero, List.set_cons_succ]
    rw [hg.out, hres.out]
    rfl
end Go.Proofs.YtpmipoljnchheaaGreat
namespace Go.Proofs.YtpmipoljnchheaaGreat
open Go.RowKit

theorem hull_pair (p q : Pt) : hullOf [ptBox p, ptBox q] = legBox p q := by
  obtain ⟨p1, p2, p3⟩ := p
  obtain ⟨q1, q2, q3⟩ := q
  simp [hullOf, hullOn, ptBox, legBox, minP, maxP]
theorem ptBox_ok {p : Pt} (h : nearBy 1048576 p = true) : boxOk (ptBox p) = true := by
  obtain ⟨a, b, c⟩ := nearBy_iff.1 h
  rw [boxOk_iff]
  simp only [ptBox]
  omega
theorem leg_ok {p q : Pt} (hp : nearBy 1048576 p = true) (hq : nearBy 1048576 q = true) : boxOk (legBox p q) = true := by
  obtain ⟨a, b, c⟩ := nearBy_iff.1 hp
  obtain ⟨d, e, f⟩ := nearBy_iff.1 hq
  rw [boxOk_iff]
  simp only [legBox, minP, maxP]
  omega
/-- Two points next to each other, out of a slice of points. -/
theorem pts_pair {w : World} {B b off : Nat} {l : List Pt} {k : Nat} {p q : Pt} (h : PtsAt w B (some ⟨b, off, none⟩) l) (hp : l[k]? = some p) (hq : l[k + 1]? = some q) : PtsAt w B (some ⟨b, off + k * 3, none⟩) [p, q] := by
  obtain ⟨b', off', hA, hb, hc⟩ := h (by have := lt_of_get hp; omega)
  injection hA with hA
  injection hA with h1 h2
  subst h1
  subst h2
  intro _
  refine ⟨b, off + k * 3, rfl, hb, fun j x hx => ?_⟩
  have hj : l[k + j]? = some x := by
    match j, hx with
    | 0, hx => simp at hx; subst hx; exact hp
    | 1, hx => simp at hx; subst hx; exact hq
    | j + 2, hx => simp at hx
  obtain ⟨vs, hs, hr, hv⟩ := hc (k + j) x hj
  exact ⟨vs, hs, hr, fun i v hi => by
    have := hv i v hi
    rwa [show off + (k + j) * 3 + i = off + k * 3 + j * 3 + i by omega] at this⟩
theorem laid_near {bars : List BarD} : ∀ (runs : List RunD) (i : Nat) (l : LaidD), (∀ r ∈ runs, runOk bars r = true) → (laidAll bars runs)[i]? = some l → (∀ p ∈ l.pts, nearBy 1048576 p = true) ∧ 1 ≤ l.pts.length ∧ l.pts.length ≤ 7 := by
  intro runs
  induction runs with
  | nil => intro i l _ h; simp [laidAll] at h
  | cons r runs ih =>
    intro i l hok h
    obtain ⟨j, x, hj, hx', hx, _⟩ := runOk_bar (hok r (by simp))
    have e : laidAll bars (r :: runs) = laidTo x r r.count.toNat ++ laidAll bars runs := by rw [← laidRun_of hx]; simp [laidAll]
    rw [e] at h
    by_cases hi : i < r.count.toNat
    · rw [List.getElem?_append_left (by rw [laidTo_len]; exact hi)] at h
      simp [laidTo, hi] at h
      subst h
      refine ⟨runOk_near (hok r (by simp)) hx (by omega) (by omega), ?_⟩
      simp only [ptsOf, List.length_map, pathOf_len]
      have := legsOf_len x.code
      omega
    · rw [List.getElem?_append_right (by rw [laidTo_len]; omega)] at h
      exact ih _ l (fun z hz => hok z (List.mem_cons_of_mem _ hz)) h
set_option maxHeartbeats 4000000 in
set_option maxRecDepth 100000 in
theorem laidLegs_row (A3 A4 : Option Addr) (bars : List BarD) (runs : List RunD) (n3 c3 n4 c4 i : Nat) (ld : LaidD) (w : World) {B : Nat} (h3 : BarsAt w B A3 bars) (h4 : RunsAt w B A4 runs) (hB : B ≤ w.heap.size) (l3 : n3 = bars.length) (l4 : n4 = runs.length) (m3 : n3 ≤ 60000) (m4 : n4 ≤ 60000) (htame : Tame bars) (hok : laidOk bars runs = true) (hi : (laidAll bars runs)[i]? = some ld) :
    Calls Tryz.prog 26 #[.slice A3 n3 c3, .slice A4 n4 c4, .int .i64 i] w fun e w' => ∃ A c, e = .returned (.tuple #[.slice A (legsOfPts ld.pts).length c, .int .i64 0]) ∧ Row w' w.heap.size 73 6 encB (.slice A (legsOfPts ld.pts).length c) (legsOfPts ld.pts) ∧ Below w.heap.size w w' := by
  have HP := hide (laidPath_ok A3 A4 bars runs n3 c3 n4 c4 i ld w h3 h4 hB l3 l4 m3 m4 htame hok hi)
  obtain ⟨hnear, hl1, hl7⟩ := laid_near runs i ld (laidOk_mem hok).2.2 hi
  have Hnear := hide hnear
  obtain ⟨pts, hpts⟩ : ∃ pts, pts = ld.pts := ⟨_, rfl⟩
  rw [← hpts] at HP hl1 hl7 Hnear ⊢
  obtain ⟨n, hn⟩ : ∃ n, n = pts.length := ⟨_, rfl⟩
  rw [← hn] at HP hl1 hl7
  have Hn := hide hn
  clear h3 h4 hB l3 l4 m3 m4 htame hok hi hnear hpts hn
  go_enter Tryz.func26, Tryz.ntmps26
  go_wp2_with fail
  refine HP.out.mono ?_
  rintro e w1 ⟨A, rfl, hp, hb1⟩
  have Hp := hide hp
  have Hb1 := hide hb1
  clear HP hp hb1
  go_wp2_with fail
  go_loopw [10, 11] (fun v iv wr => ∃ k : Nat, k + 1 ≤ n ∧ iv = .int .i64 ((k : Int) + 1) ∧ (∃ acc : List BoxD, Row wr w1.heap.size 73 6 encB v acc ∧ Hid (acc = (legsOfPts pts).take k)) ∧ Below w1.heap.size w1 wr) (fun _ iv _ => n - (intOf iv).toNat)
  case atStart => exact ⟨0, hl1, rfl, ⟨[], Row.nil _ _ _ _ _, hide rfl⟩, Below.refl _ _⟩
  case round =>
    obtain ⟨k, hk, rfl, ⟨acc, hrow, hacc⟩, hbr⟩ := hrel
    obtain ⟨A0, c0, rfl⟩ := hrow.val
    have hal : acc.length ≤ 1000 := by rw [hacc.out, List.length_take]; omega
    have Hrow := hide hrow
    clear hrow
    by_cases hlt : k + 1 < n
    · obtain ⟨b, off, p, hA, hbl, hx, e3, e4, e5⟩ := PtsAt.get (k := k) (Hp.out.carry (Flat.carried _) hbr hbr.size) (by rw [← Hn.out]; omega)
      obtain ⟨b', off', q, hA', hbl', hy, e0, e1, e2⟩ := PtsAt.get (k := k + 1) (Hp.out.carry (Flat.carried _) hbr hbr.size) (by rw [← Hn.out]; exact hlt)
      clear hA' hbl' e0 e1 e2 e3 e4 e5
      subst hA
      have hsub : k + 1 + 1 - k = 2 := by omega
      have HPo := hide (fun (W : World) (hz : Below w1.heap.size w1 W) => points_any (some ⟨b, off + k * 3, none⟩) [p, q] 2 (n - k) W (pts_pair (Hp.out.carry (Flat.carried _) hz (Nat.le_refl _)) hx hy) hz.size rfl (by omega))
      have HHu := hide (fun (W : World) (A' : Option Addr) (c' : Nat) (h : BoxesAt W W.heap.size A' ([p, q].map ptBox)) => boxHull_ok A' ([p, q].map ptBox) 2 c' W h (Nat.le_refl _) rfl (by omega) (by omega) (by simp [ptBox_ok (Hnear.out p (mem_of_get hx)), ptBox_ok (Hnear.out q (mem_of_get hy))]))
      have Hhp := hide (show hullOf ([p, q].map ptBox) = legBox p q from hull_pair p q)
      have Hn2 := hide (show (legsOfPts pts).take (k + 1) = acc ++ [legBox p q] by rw [take_snoc' (legsOfPts_at pts k p q hx hy), hacc.out])
      have z1 : IntKind.i64.wrap ((k : Int) + 1 - 1) = (k : Int) := by rw [Int.add_sub_cancel]; exact IntWalk.i64_in _ (by omega)
      have z2 : IntKind.i64.wrap (k : Int) = (k : Int) := IntWalk.i64_in _ (by omega)
      have z3 : IntKind.i64.wrap ((k : Int) + 1 + 1) = (k : Int) + 1 + 1 := IntWalk.i64_in _ (by omega)
      have HB := hide hbr
      clear hx hy hbl hbr
      go_wp2_with fail
      refine (HPo.out _ HB.out).mono ?_
      rintro e w2 ⟨A6, c6, rfl, hbx, hb2⟩
      have HHu2 := hide (HHu.out w2 A6 c6 hbx)
      have HB2 := hide (below_step HB.out hb2 (Nat.le_refl _))
      have Hrow2 := hide (Hrow.out.keep hb2)
      clear hbx hb2 HPo HHu
      go_wp2_with fail
      refine HHu2.out.mono ?_
      rintro e w3 ⟨rfl, hb3⟩
      rw [Hhp.out]
      have HB3 := hide (below_step HB2.out hb3 (Nat.le_refl _))
      have Hrow3 := hide (Hrow2.out.keep hb3)
      generalize legBox p q = lb at *
      obtain ⟨⟨x1, x2, x3⟩, x4, x5, x6⟩ := lb
      have hs3 := HB3.out.size
      clear hb3 HHu2 Hhp
      go_wp2_with (at_builtin; refine wpList_append1 rfl (.tmp 44) (.tmp 46) 22 rfl w1.heap.size 73 (.agg #[.int .i64 0, .int .i64 0, .int .i64 0, .int .i64 0, .int .i64 0, .int .i64 0]) 6 48 encB Tryz.underlying22 (by kernel_rfl) rfl (by omega) encB_len encB_one _ acc ⟨(x1, x2, x3), (x4, x5, x6)⟩ rfl ((Hrow3.out.alloc _).alloc _) _ rfl (Blk.new1 w3 _ _ _) (by omega) (by omega) (le_alloc (le_alloc hs3 _) _) ?_; intro A1 c1 w6 hrow6 hb6 _)
      go_roundw
      case rel => exact ⟨k + 1, by omega, by go_num, ⟨acc ++ [⟨(x1, x2, x3), (x4, x5, x6)⟩], by simpa using hrow6, hide Hn2.out.symm⟩, ((HB3.out.alloc hs3 _).alloc (le_alloc hs3 _) _).trans hb6⟩
      case measure => simp [intOf]; omega
    · have hk9 : k + 1 = n := by omega
      have hf : acc = legsOfPts pts := by
        rw [hacc.out]
        exact List.take_of_length_le (by rw [legsOfPts_len, ← Hn.out]; omega)
      have hlen := hide (show (legsOfPts pts).length = acc.length by rw [hf])
      have Hr := hide (show Row wr w.heap.size 73 6 encB (.slice A0 (legsOfPts pts).length c0) (legsOfPts pts) by rw [← hf]; exact rowBase Hb1.out.size Hrow.out)
      have Hb := hide (below_step Hb1.out hbr (Nat.le_refl _))
      clear hf hacc Hrow hbr
      generalize acc.length = m at *
      go_wp2_with fail
      go_ret2
      exact ⟨A0, c0, by rw [hlen.out]; rfl, Hr.out, Hb.out⟩
theorem laidLegs_ok (A3 A4 : Option Addr) (bars : List BarD) (runs : List RunD) (n3 c3 n4 c4 i : Nat) (ld : LaidD) (w : World) {B : Nat} (h3 : BarsAt w B A3 bars) (h4 : RunsAt w B A4 runs) (hB : B ≤ w.heap.size) (l3 : n3 = bars.length) (l4 : n4 = runs.length) (m3 : n3 ≤ 60000) (m4 : n4 ≤ 60000) (htame : Tame bars) (hok : laidOk bars runs = true) (hi : (laidAll bars runs)[i]? = some ld) :
    Calls Tryz.prog 26 #[.slice A3 n3 c3, .slice A4 n4 c4, .int .i64 i] w fun e w' => ∃ A c, e = .returned (.tuple #[.slice A (legsOfPts ld.pts).length c, .int .i64 0]) ∧ BoxesAt w' w'.heap.size A (legsOfPts ld.pts) ∧ Below w.heap.size w w' :=
  (laidLegs_row A3 A4 bars runs n3 c3 n4 c4 i ld w h3 h4 hB l3 l4 m3 m4 htame hok hi).mono fun _ _ ⟨A, c, he, hr, hb⟩ => ⟨A, c, he, Row.read hr encB_len (by omega), hb⟩
end Go.Proofs.YtpmipoljnchheaaGreat
namespace Go.Proofs.YtpmipoljnchheaaGreat
open Go.RowKit

theorem step_far8 {s : Pt} {k : Int} (h : nearBy 2097152 s = true) (h0 : 0 ≤ k) (h1 : k ≤ 999) : nearBy 4294967296 (mulP k s) = true := by
  obtain ⟨a, b, c⟩ := nearBy_iff.1 h
  have key : ∀ v : Int, -2097152 ≤ v ∧ v ≤ 2097152 → -4294967296 ≤ k * v ∧ k * v ≤ 4294967296 := by
    intro v hv
    obtain ⟨f, g⟩ := mul_between (s := v) h0 h1
    rcases Int.le_total 0 v with hs | hs
    · have := f hs; omega
    · have := g hs; omega
  rw [nearBy_iff, mulP]
  exact ⟨key _ a, key _ b, key _ c⟩
set_option maxHeartbeats 4000000 in
set_option maxRecDepth 100000 in
theorem refPts_ok (A3 A4 : Option Addr) (bars : List BarD) (runs : List RunD) (n3 c3 n4 c4 i : Nat) (ld : LaidD) (w : World) {B : Nat} (h3 : BarsAt w B A3 bars) (h4 : RunsAt w B A4 runs) (hB : B ≤ w.heap.size) (l3 : n3 = bars.length) (l4 : n4 = runs.length) (m3 : n3 ≤ 60000) (hok : laidOk bars runs = true) (hi : (laidAll bars runs)[i]? = some ld) :
    Calls Tryz.prog 83 #[.slice A3 n3 c3, .slice A4 n4 c4, .int .i64 i] w fun e w' => ∃ A c, e = .returned (.slice A ld.pts.length c) ∧ PtsAt w' w'.heap.size A ld.pts ∧ ld.pts.length ≤ c ∧ Below w.heap.size w w' := by
  obtain ⟨hbars, hlen, hruns⟩ := laidOk_mem hok
  have hi9 : i ≤ 100000 := by have := (laidOk_len hok).2; have := lt_of_get hi; omega
  have HP := hide (fun (W : World) (hz : Below w.heap.size w W) => refPlaceL_ok bars A4 runs n4 c4 i ld W (h4.carry (Flat.carried _) (hz.mono hB) (Nat.le_refl _)) l4 (by omega) hruns hi hi9)
  have HBa := hide (fun (W : World) (hz : Below w.heap.size w W) => refBar_ok A3 A4 bars runs n3 c3 n4 c4 i ld W (h3.carry (hz.mono hB) (Nat.le_refl _)) (h4.carry (Flat.carried _) (hz.mono hB) (Nat.le_refl _)) (Nat.le_trans hB hz.size) l3 l4 m3 hok hi)
  have Hbk := hide (fun (k : Nat) (r : RunD) (hk : runs[k]? = some r) (hx : runBar bars r = some ld.bar) => find_bar (hruns r (mem_of_get hk)) hx)
  obtain ⟨bar, pts⟩ := ld
  simp only at HP HBa Hbk ⊢
  have Hro := hide (fun (k : Nat) (r : RunD) (hk : runs[k]? = some r) => hruns r (mem_of_get hk))
  have Hbo := hide hbars
  have H4 := hide h4
  have L4 := hide l4
  have HB := hide hB
  clear h3 h4 l3 l4 hok hi hruns hlen hbars hB
  go_enter Tryz.func83, Tryz.ntmps83
  go_wp2_with fail
  refine (HP.out _ (Below.refl _ _)).mono ?_
  rintro e w1 ⟨k, j, r, rfl, hk, hx, hj, hrb, hpts, rfl⟩
  obtain ⟨q, hq, hy⟩ := Hbk.out k r hx hrb
  have hro := Hro.out k r hx
  have hbo := Hbo.out _ (mem_of_get hy)
  obtain ⟨jj, x', _, _, _, htu⟩ := runOk_bar hro
  have hfar : nearBy 4294967296 (mulP (j : Int) r.step) = true := by
    have h9 := runOk_count hro
    simp only [runOk, runHead, Bool.and_eq_true, Bool.or_eq_true, decide_eq_true_eq] at hro
    rcases hro.1.1.2 with h8 | h8
    · obtain rfl : j = 0 := by omega
      simp [mulP, nearBy_iff]
    · exact step_far8 h8.2 (by omega) (by omega)
  have HPt := hide (fun (A' : Option Addr) (c' : Nat) (W : World) (hdi : Ints W B A' bar.dims) (hz : Below w.heap.size w W) => refPoints_ok bar A' c' r j W hdi (Nat.le_trans HB.out hz.size) hbo htu (runOk_place hro) (by omega) hfar)
  rw [← hpts] at HPt
  obtain ⟨b, off, r', rfl, hbl, hx', hc⟩ := RunsAt.get (k := k) H4.out (by rw [← L4.out]; exact hk)
  rw [hx] at hx'
  injection hx' with hx'
  subst hx'
  have hbw : b < w.heap.size := Nat.lt_of_lt_of_le hbl HB.out
  obtain ⟨mark, tx, ty, ⟨a1, a2, a3⟩, ⟨s1, s2, s3⟩, cnt⟩ := r
  obtain ⟨mk, sz, ct, cd, dims⟩ := bar
  have e0 := hc 0 _ rfl
  have e1 := hc 1 _ rfl
  have e2 := hc 2 _ rfl
  have e3 := hc 3 _ rfl
  have e4 := hc 4 _ rfl
  have e5 := hc 5 _ rfl
  have e6 := hc 6 _ rfl
  have e7 := hc 7 _ rfl
  have e8 := hc 8 _ rfl
  have e9 := hc 9 _ rfl
  simp only [Nat.add_zero] at e0 e1 e2 e3 e4 e5 e6 e7 e8 e9
  simp only [barV] at HBa HPt
  have HC := hide (fun (W : World) (h : Below w.heap.size w W) => show W.cell? ⟨b, off + k * 10, none⟩ = some (.string mark) ∧ W.cell? ⟨b, off + k * 10 + 1, none⟩ = some (.int .i64 tx) ∧ W.cell? ⟨b, off + k * 10 + 2, none⟩ = some (.int .i64 ty) ∧ W.cell? ⟨b, off + k * 10 + 3, none⟩ = some (.int .i64 a1) ∧ W.cell? ⟨b, off + k * 10 + 4, none⟩ = some (.int .i64 a2) ∧ W.cell? ⟨b, off + k * 10 + 5, none⟩ = some (.int .i64 a3) ∧ W.cell? ⟨b, off + k * 10 + 6, none⟩ = some (.int .i64 s1) ∧ W.cell? ⟨b, off + k * 10 + 7, none⟩ = some (.int .i64 s2) ∧ W.cell? ⟨b, off + k * 10 + 8, none⟩ = some (.int .i64 s3) ∧ W.cell? ⟨b, off + k * 10 + 9, none⟩ = some (.int .i64 cnt) from
    ⟨(h.cell (p := ⟨b, off + k * 10, none⟩) hbw).trans e0, (h.cell (p := ⟨b, off + k * 10 + 1, none⟩) hbw).trans e1, (h.cell (p := ⟨b, off + k * 10 + 2, none⟩) hbw).trans e2, (h.cell (p := ⟨b, off + k * 10 + 3, none⟩) hbw).trans e3, (h.cell (p := ⟨b, off + k * 10 + 4, none⟩) hbw).trans e4, (h.cell (p := ⟨b, off + k * 10 + 5, none⟩) hbw).trans e5, (h.cell (p := ⟨b, off + k * 10 + 6, none⟩) hbw).trans e6, (h.cell (p := ⟨b, off + k * 10 + 7, none⟩) hbw).trans e7, (h.cell (p := ⟨b, off + k * 10 + 8, none⟩) hbw).trans e8, (h.cell (p := ⟨b, off + k * 10 + 9, none⟩) hbw).trans e9⟩)
  clear hx hbl hc hq hy hro hbo htu hfar hrb hpts hj HP Hbk Hro Hbo H4 L4
  have hS0 := HC.out _ (Below.drew (Below.refl w.heap.size w))
  have hBx := Below.drew (Below.refl w.heap.size w)
  go_wp2_with fail
  first
    | (go_region_held3 (fun W => W.cell? ⟨b, off + k * 10, none⟩ = some (.string mark) ∧ W.cell? ⟨b, off + k * 10 + 1, none⟩ = some (.int .i64 tx) ∧ W.cell? ⟨b, off + k * 10 + 2, none⟩ = some (.int .i64 ty) ∧ W.cell? ⟨b, off + k * 10 + 3, none⟩ = some (.int .i64 a1) ∧ W.cell? ⟨b, off + k * 10 + 4, none⟩ = some (.int .i64 a2) ∧ W.cell? ⟨b, off + k * 10 + 5, none⟩ = some (.int .i64 a3) ∧ W.cell? ⟨b, off + k * 10 + 6, none⟩ = some (.int .i64 s1) ∧ W.cell? ⟨b, off + k * 10 + 7, none⟩ = some (.int .i64 s2) ∧ W.cell? ⟨b, off + k * 10 + 8, none⟩ = some (.int .i64 s3) ∧ W.cell? ⟨b, off + k * 10 + 9, none⟩ = some (.int .i64 cnt))
        (first | (with_reducible assumption) | go_keep)
        (first
          | (go_at_call 49
             (with_reducible refine (HBa.out _ hBx).mono ?_); rintro e wz ⟨A5, c5, rfl, hdi, hbz⟩
             have hBx := below_step hBx hbz (Nat.le_refl _)
             have hS' := HC.out _ hBx)
          | (go_at_call 107
             (with_reducible refine (HPt.out _ _ _ hdi hBx).mono ?_); rintro e wz ⟨A6, c6, rfl, hp6, hc6, hbz⟩
             have hBx := below_step hBx hbz (Nat.le_refl _)
             have hS' := HC.out _ hBx)))
    | fail
  all_goals
    have Hp6 := hide hp6
    go_wp2_with fail
    go_ret
    exact ⟨A6, c6, rfl, Hp6.out, hc6, hBx⟩
set_option maxHeartbeats 4000000 in
set_option maxRecDepth 100000 in
theorem refLegs_ok (A3 A4 : Option Addr) (bars : List BarD) (runs : List RunD) (n3 c3 n4 c4 i : Nat) (ld : LaidD) (w : World) {B : Nat} (h3 : BarsAt w B A3 bars) (h4 : RunsAt w B A4 runs) (hB : B ≤ w.heap.size) (l3 : n3 = bars.length) (l4 : n4 = runs.length) (m3 : n3 ≤ 60000) (hok : laidOk bars runs = true) (hi : (laidAll bars runs)[i]? = some ld) :
    Calls Tryz.prog 50 #[.slice A3 n3 c3, .slice A4 n4 c4, .int .i64 i] w fun e w' => ∃ A c, e = .returned (.slice A (legsOfPts ld.pts).length c) ∧ BoxesAt w' w'.heap.size A (legsOfPts ld.pts) ∧ Below w.heap.size w w' := by
  have HP := hide (refPts_ok A3 A4 bars runs n3 c3 n4 c4 i ld w h3 h4 hB l3 l4 m3 hok hi)
  obtain ⟨hnear, hl1, hl7⟩ := laid_near runs i ld (laidOk_mem hok).2.2 hi
  obtain ⟨bar, pts⟩ := ld
  simp only at HP hl1 hl7 ⊢
  obtain ⟨n, hn⟩ : ∃ n, n = pts.length := ⟨_, rfl⟩
  rw [← hn] at HP hl1 hl7
  have Hn := hide hn
  clear h3 h4 hB l3 l4 m3 hok hi hnear hn
  go_enter Tryz.func50, Tryz.ntmps50
  go_wp2_with fail
  refine HP.out.mono ?_
  rintro e w1 ⟨A, c, rfl, hp, hcp, hb1⟩
  have Hp := hide hp
  have Hb1 := hide hb1
  clear HP hp hb1
  go_wp2_with fail
  go_loopw [8, 9] (fun v iv wr => ∃ k : Nat, k + 1 ≤ n ∧ iv = .int .i64 ((k : Int) + 1) ∧ (∃ acc : List BoxD, Row wr w1.heap.size 73 6 encB v acc ∧ Hid (acc = (legsOfPts pts).take k)) ∧ Below w1.heap.size w1 wr) (fun _ iv _ => n - (intOf iv).toNat)
  case atStart => exact ⟨0, hl1, rfl, ⟨[], Row.nil _ _ _ _ _, hide rfl⟩, Below.refl _ _⟩
  case round =>
    obtain ⟨k, hk, rfl, ⟨acc, hrow, hacc⟩, hbr⟩ := hrel
    obtain ⟨A0, c0, rfl⟩ := hrow.val
    have hal : acc.length ≤ 1000 := by rw [hacc.out, List.length_take]; omega
    have Hrow := hide hrow
    clear hrow
    by_cases hlt : k + 1 < n
    · obtain ⟨b, off, p, hA, hbl, hx, e3, e4, e5⟩ := PtsAt.get (k := k) (Hp.out.carry (Flat.carried _) hbr hbr.size) (by rw [← Hn.out]; omega)
      obtain ⟨b', off', q, hA', hbl', hy, e0, e1, e2⟩ := PtsAt.get (k := k + 1) (Hp.out.carry (Flat.carried _) hbr hbr.size) (by rw [← Hn.out]; exact hlt)
      clear hA' hbl' e0 e1 e2 e3 e4 e5
      subst hA
      have hsub : k + 1 + 1 - k = 2 := by omega
      have HHu := hide (fun (W : World) (hz : Below w1.heap.size w1 W) => refHull2_any (some ⟨b, off + k * 3, none⟩) p q (c - k) W (pts_pair (Hp.out.carry (Flat.carried _) hz (Nat.le_refl _)) hx hy) hz.size)
      have Hn2 := hide (show (legsOfPts pts).take (k + 1) = acc ++ [legBox p q] by rw [take_snoc' (legsOfPts_at pts k p q hx hy), hacc.out])
      have z1 : IntKind.i64.wrap ((k : Int) + 1 - 1) = (k : Int) := by rw [Int.add_sub_cancel]; exact IntWalk.i64_in _ (by omega)
      have z2 : IntKind.i64.wrap (k : Int) = (k : Int) := IntWalk.i64_in _ (by omega)
      have z3 : IntKind.i64.wrap ((k : Int) + 1 + 1) = (k : Int) + 1 + 1 := IntWalk.i64_in _ (by omega)
      have HB := hide hbr
      have hkc : k + 1 + 1 ≤ c := by omega
      clear hx hy hbl hbr
      go_wp2_with fail
      refine (HHu.out _ HB.out).mono ?_
      rintro e w3 ⟨rfl, hb3⟩
      have HB3 := hide (below_step HB.out hb3 (Nat.le_refl _))
      have Hrow3 := hide (Hrow.out.keep hb3)
      generalize legBox p q = lb at *
      obtain ⟨⟨x1, x2, x3⟩, x4, x5, x6⟩ := lb
      have hs3 := HB3.out.size
      clear hb3 HHu
      go_wp2_with (at_builtin; refine wpList_append1 rfl (.tmp 20) (.tmp 28) 22 rfl w1.heap.size 73 (.agg #[.int .i64 0, .int .i64 0, .int .i64 0, .int .i64 0, .int .i64 0, .int .i64 0]) 6 48 encB Tryz.underlying22 (by kernel_rfl) rfl (by omega) encB_len encB_one _ acc ⟨(x1, x2, x3), (x4, x5, x6)⟩ rfl (Hrow3.out.alloc _) _ rfl (Blk.new w3 _ _) (by omega) (by omega) (le_alloc hs3 _) ?_; intro A1 c1 w6 hrow6 hb6 _)
      go_roundw
      case rel => exact ⟨k + 1, by omega, by go_num, ⟨acc ++ [⟨(x1, x2, x3), (x4, x5, x6)⟩], by simpa using hrow6, hide Hn2.out.symm⟩, (HB3.out.alloc hs3 _).trans hb6⟩
      case measure => simp [intOf]; omega
    · have hk9 : k + 1 = n := by omega
      have hf : acc = legsOfPts pts := by
        rw [hacc.out]
        exact List.take_of_length_le (by rw [legsOfPts_len, ← Hn.out]; omega)
      have hlen := hide (show (legsOfPts pts).length = acc.length by rw [hf])
      have Hr := hide (show BoxesAt wr wr.heap.size A0 (legsOfPts pts) by rw [← hf]; exact Row.read Hrow.out encB_len (by omega))
      have Hb := hide (below_step Hb1.out hbr (Nat.le_refl _))
      clear hf hacc Hrow hbr
      generalize acc.length = m at *
      go_wp2_with fail
      go_ret
      exact ⟨A0, c0, by rw [hlen.out]; rfl, Hr.out, Hb.out⟩
/-- The main leg as the reference gives it. -/
def mainT (o : Option BoxD) : Array Value := match o with
  | some b => #[bxV b, .bool true]
  | none => #[.agg #[.int .i64 0, .int .i64 0, .int .i64 0, .int .i64 0, .int .i64 0, .int .i64 0], .bool false]
set_option maxHeartbeats 4000000 in
set_option maxRecDepth 100000 in
theorem refMain25_ok (x : DetD) (s : DetS) (i : Nat) (ld : LaidD) (w : World) {B : Nat} (h : DetAt w B x s) (hB : B ≤ w.heap.size) (hf : DetFit x s) (hok : laidOk x.bars x.runs = true) (hi : (laidAll x.bars x.runs)[i]? = some ld) :
    Calls Tryz.prog 79 #[detV x s, .int .i64 i] w fun e w' => e = .returned (.tuple (mainT (mainLeg ld))) ∧ Below w.heap.size w w' := by
  have HL := hide (fun (W : World) (hz : Below w.heap.size w W) => refLegs_ok s.a3 s.a4 x.bars x.runs s.n3 s.c3 s.n4 s.c4 i ld W (h.h3.carry (hz.mono hB) (Nat.le_refl _)) (h.h4.carry (Flat.carried _) (hz.mono hB) (Nat.le_refl _)) (Nat.le_trans hB hz.size) hf.l3 hf.l4 hf.m3 hok hi)
  have hl6 : (legsOfPts ld.pts).length ≤ 60000 := by
    obtain ⟨_, hl1, hl7⟩ := laid_near x.runs i ld (laidOk_mem hok).2.2 hi
    rw [legsOfPts_len]
    omega
  have Hml := hide (show mainLeg ld = (legsOfPts ld.pts).find? isMain from rfl)
  generalize legsOfPts ld.pts = LG at *
  obtain ⟨ml, hml⟩ : ∃ ml, ml = mainLeg ld := ⟨_, rfl⟩
  rw [← hml] at Hml ⊢
  have K0 := hide ((Blk.new w 34 (detCells x.mem x.rule s)).alloc (.cells #[.int .i64 0, .int .i64 0, .int .i64 0, .int .i64 0, .int .i64 0, .int .i64 0] 73))
  have KB := hide (Blk.new1 w (.cells (detCells x.mem x.rule s) 34) 73 #[.int .i64 0, .int .i64 0, .int .i64 0, .int .i64 0, .int .i64 0, .int .i64 0])
  have HW := hide (below_new2 w (.cells (detCells x.mem x.rule s) 34) (.cells #[.int .i64 0, .int .i64 0, .int .i64 0, .int .i64 0, .int .i64 0, .int .i64 0] 73))
  obtain ⟨mem, bars, runs, laps, dems, rule⟩ := x
  obtain ⟨a1, n1, c1, a2, n2, c2, a3, n3, c3, a4, n4, c4, a5, n5, c5, a6, n6, c6⟩ := s
  obtain ⟨name, boxes, holes, cover, agg, poker⟩ := mem
  obtain ⟨r1, r2, r3, r4, r5, r6, r7, r8, r9⟩ := rule
  simp only [detCells] at K0 KB HW
  simp only at HL
  have e6 := K0.out.cell 6
  have e7 := K0.out.cell 7
  simp at e6 e7
  clear h hf hB hok hi hml
  show Calls Tryz.prog 79 #[.agg #[.string name, .slice a1 n1 c1, .slice a2 n2 c2, .int .i64 cover, .int .i64 agg, .int .i64 poker, .slice a3 n3 c3, .slice a4 n4 c4, .slice a5 n5 c5, .slice a6 n6 c6, .int .i64 r1, .int .i64 r2, .int .i64 r3, .int .i64 r4, .int .i64 r5, .int .i64 r6, .int .i64 r7, .int .i64 r8, .int .i64 r9], .int .i64 i] w _
  go_enter Tryz.func79, Tryz.ntmps79
  go_wp2_with fail
  refine (HL.out _ HW.out).mono ?_
  rintro e w1 ⟨A1, c1', rfl, hlg, hb1⟩
  have KB := hide (KB.out.keep hb1)
  have HW1 := hide (below_step HW.out hb1 (Nat.le_refl _))
  have HLG := hide hlg
  have HM := hide (refMainLeg_any A1 LG LG.length c1' w1 hlg (Nat.le_refl _) rfl hl6)
  clear hlg hb1 HL HW K0 e6 e7
  go_wp2_with fail
  refine HM.out.mono ?_
  rintro e w2 ⟨rfl, hb2⟩
  have KB := hide (KB.out.keep hb2)
  have HW2 := hide (below_step HW1.out hb2 (Nat.le_refl _))
  have HLG := hide (HLG.out.carry (Flat.carried _) hb2 hb2.size)
  clear hb2 HM HW1
  have u0 := KB.out.cell 0
  have v0 := KB.out.frozen 0
  have u1 := KB.out.cell 1
  have v1 := KB.out.frozen 1
  have u2 := KB.out.cell 2
  have v2 := KB.out.frozen 2
  have u3 := KB.out.cell 3
  have v3 := KB.out.frozen 3
  have u4 := KB.out.cell 4
  have v4 := KB.out.frozen 4
  have u5 := KB.out.cell 5
  have v5 := KB.out.frozen 5
  simp at u0 u1 u2 u3 u4 u5
  have lk := KB.out.lt
  have hrg := idx_range isMain LG
  by_cases hneg : idx isMain LG < 0
  · have d0 : decide (idx isMain LG < 0) = true := by simpa using hneg
    have Hn := hide (show ml = none by
      rw [Hml.out, List.find?_eq_none]
      intro z hz hm
      have h1 := idx_any isMain LG
      rw [List.any_eq_true.2 ⟨z, hz, hm⟩, decide_eq_true_eq] at h1
      omega)
    generalize idx isMain LG = ix at *
    clear Hml hrg hneg
    go_wp2_with fail
    refine bodyPost_ret (results_ct rfl rfl ((((((KB.out.set_ 0 _).set_ 1 _).set_ 2 _).set_ 3 _).set_ 4 _).set_ 5 _) Tryz.underlying73 rfl (by kernel_rfl)) rfl ?_
    refine ⟨?_, ((((((HW2.out.setCell (p := ⟨w.heap.size + 1, 0, none⟩) (Nat.le_succ _) _).setCell (p := ⟨w.heap.size + 1, 1, none⟩) (Nat.le_succ _) _).setCell (p := ⟨w.heap.size + 1, 2, none⟩) (Nat.le_succ _) _).setCell (p := ⟨w.heap.size + 1, 3, none⟩) (Nat.le_succ _) _).setCell (p := ⟨w.heap.size + 1, 4, none⟩) (Nat.le_succ _) _).setCell (p := ⟨w.heap.size + 1, 5, none⟩) (Nat.le_succ _) _)⟩
    simp only [List.setIfInBounds_toArray, List.set_cons_zero, List.set_cons_succ]
    rw [Hn.out]
    rfl
  · obtain ⟨j, hj⟩ := Int.eq_ofNat_of_zero_le (show 0 ≤ idx isMain LG by omega)
    obtain ⟨y, hy, hp, hno⟩ := idx_spec hj
    have Hn := hide (show ml = some y by rw [Hml.out]; exact NoneTo.find hno hy hp)
    obtain ⟨b, off, y', rfl, hbl, hy', f0, f1, f2, f3, f4, f5⟩ := BoxesAt.get (k := j) HLG.out (lt_of_get hy)
    rw [hy] at hy'
    injection hy' with hy'
    subst hy'
    have d0 : decide ((j : Int) < 0) = false := by simp
    have hjl : j < LG.length := lt_of_get hy
    rw [hj]
    obtain ⟨⟨y1, y2, y3⟩, y4, y5, y6⟩ := y
    simp only at f0 f1 f2 f3 f4 f5
    generalize LG.length = ln at *
    clear Hml hrg hneg hj hy hp hno
    go_wp2_with fail
    refine bodyPost_ret (results_ct rfl rfl ((((((KB.out.set_ 0 _).set_ 1 _).set_ 2 _).set_ 3 _).set_ 4 _).set_ 5 _) Tryz.underlying73 rfl (by kernel_rfl)) rfl ?_
    refine ⟨?_, ((((((HW2.out.setCell (p := ⟨w.heap.size + 1, 0, none⟩) (Nat.le_succ _) _).setCell (p := ⟨w.heap.size + 1, 1, none⟩) (Nat.le_succ _) _).setCell (p := ⟨w.heap.size + 1, 2, none⟩) (Nat.le_succ _) _).setCell (p := ⟨w.heap.size + 1, 3, none⟩) (Nat.le_succ _) _).setCell (p := ⟨w.heap.size + 1, 4, none⟩) (Nat.le_succ _) _).setCell (p := ⟨w.heap.size + 1, 5, none⟩) (Nat.le_succ _) _)⟩
    simp only [List.setIfInBounds_toArray, List.set_cons_zero, List.set_cons_succ]
    rw [Hn.out]
    rfl
end Go.Proofs.YtpmipoljnchheaaGreat
