/- The reference of layer 46: whether a leg is in a cell. Plain: the marks of a cell of twice the scale, and of the four cells in its place. No walk stands here. The reference of layer 46: the marks in a cell. The reference of layer 46: the legend and the drawing. -/
import Derived.Test.YtpmipoljnchheaaGreatMau
import Derived.Test.YtpmipoljnchheaaGreatMas
namespace Go.Proofs.YtpmipoljnchheaaGreat
open Go.RowKit

set_option maxHeartbeats 4000000 in
set_option maxRecDepth 100000 in
theorem refIn46_ok (x : DetD) (s : DetS) (sc row col : Int) (b : BoxD) (w : World) {B : Nat} (h : DetAt w B x s) (hB : B ≤ w.heap.size) (hf : DetFit x s) (he : planErr x sc = 0) (hr : 0 ≤ row ∧ row < (gridOf x sc).rows) (hc : 0 ≤ col ∧ col < (gridOf x sc).cols) :
    Calls Tryz.prog 51 #[detV x s, .int .i64 sc, .int .i64 row, .int .i64 col, bxV b] w fun e w' => e = .returned (.bool (cellHit (gridOf x sc) row col b)) ∧ Below w.heap.size w w' := by
  have hpf := plan_facts he
  obtain ⟨hb1, hb2, _⟩ := solid_boxes (detOk_parts hpf.det).2.2
  have hbx := boxOk_iff.1 (detOk_hull hpf.det)
  have HH := hide (fun (W : World) (hz : Below w.heap.size w W) => refHull17_ok x.mem.boxes x.mem.holes s.a1 s.a2 s.n1 s.n2 s.c1 s.c2 W (h.h1.carry (Flat.carried _) (hz.mono hB) (Nat.le_refl _)) (Nat.le_trans hB hz.size) hf.l1 hb1 (by omega))
  have hrow := hpf.row row hr.1 hr.2
  have hcol := hpf.col col hc.1 hc.2
  obtain ⟨hs0, hs1⟩ := hpf.sc
  have Hres := hide (show cellHit (gridOf x sc) row col b = (decide (b.lo.1 < (hullOf x.mem.boxes).lo.1 + col * sc + sc) && (decide ((hullOf x.mem.boxes).lo.1 + col * sc ≤ b.hi.1) && (decide (b.lo.2.1 < (hullOf x.mem.boxes).lo.2.1 + row * sc + sc) && decide ((hullOf x.mem.boxes).lo.2.1 + row * sc ≤ b.hi.2.1)))) by
    rw [cellHit, Bool.and_assoc, Bool.and_assoc]; rfl)
  generalize cellHit (gridOf x sc) row col b = res at *
  generalize hullOf x.mem.boxes = H at *
  obtain ⟨⟨g1, g2, g3⟩, h1, h2, h3⟩ := H
  obtain ⟨⟨y1, y2, y3⟩, y4, y5, y6⟩ := b
  simp only [bxV] at HH Hres hbx
  have K0 := hide ((Blk.new w 34 (detCells x.mem x.rule s)).alloc (.cells #[.int .i64 y1, .int .i64 y2, .int .i64 y3, .int .i64 y4, .int .i64 y5, .int .i64 y6] 73))
  have KL := hide (Blk.new1 w (.cells (detCells x.mem x.rule s) 34) 73 #[.int .i64 y1, .int .i64 y2, .int .i64 y3, .int .i64 y4, .int .i64 y5, .int .i64 y6])
  have HW := hide (below_new2 w (.cells (detCells x.mem x.rule s) 34) (.cells #[.int .i64 y1, .int .i64 y2, .int .i64 y3, .int .i64 y4, .int .i64 y5, .int .i64 y6] 73))
  obtain ⟨mem, bars, runs, laps, dems, rule⟩ := x
  obtain ⟨a1, n1, c1, a2, n2, c2, a3, n3, c3, a4, n4, c4, a5, n5, c5, a6, n6, c6⟩ := s
  obtain ⟨name, boxes, holes, cover, agg, poker⟩ := mem
  obtain ⟨r1, r2, r3, r4, r5, r6, r7, r8, r9⟩ := rule
  simp only [detCells] at K0 KL HW
  simp only at HH
  clear h hf hB hpf he hr hc hb1 hb2
  obtain ⟨q6, hq6⟩ : ∃ q, q = col * sc := ⟨_, rfl⟩
  obtain ⟨q5, hq5⟩ : ∃ q, q = row * sc := ⟨_, rfl⟩
  rw [← hq6] at hcol Hres
  rw [← hq5] at hrow Hres
  obtain ⟨l1, hl1⟩ : ∃ q, q = g1 + q6 := ⟨_, rfl⟩
  obtain ⟨l2, hl2⟩ : ∃ q, q = g2 + q5 := ⟨_, rfl⟩
  rw [← hl1, ← hl2] at Hres
  have z1 : IntKind.i64.wrap q6 = q6 := IntWalk.i64_in _ (by omega)
  have z2 : IntKind.i64.wrap q5 = q5 := IntWalk.i64_in _ (by omega)
  have z3 : IntKind.i64.wrap l1 = l1 := IntWalk.i64_in _ (by omega)
  have z4 : IntKind.i64.wrap l2 = l2 := IntWalk.i64_in _ (by omega)
  have z5 : IntKind.i64.wrap (l1 + sc) = l1 + sc := IntWalk.i64_in _ (by omega)
  have z6 : IntKind.i64.wrap (l2 + sc) = l2 + sc := IntWalk.i64_in _ (by omega)
  have m6 : col * sc = q6 := hq6.symm
  have m5 : row * sc = q5 := hq5.symm
  have m1 : g1 + q6 = l1 := hl1.symm
  have m2 : g2 + q5 = l2 := hl2.symm
  have e1 := K0.out.cell 1
  have e2 := K0.out.cell 2
  simp at e1 e2
  clear hq6 hq5 hl1 hl2 hbx hrow hcol
  show Calls Tryz.prog 51 #[.agg #[.string name, .slice a1 n1 c1, .slice a2 n2 c2, .int .i64 cover, .int .i64 agg, .int .i64 poker, .slice a3 n3 c3, .slice a4 n4 c4, .slice a5 n5 c5, .slice a6 n6 c6, .int .i64 r1, .int .i64 r2, .int .i64 r3, .int .i64 r4, .int .i64 r5, .int .i64 r6, .int .i64 r7, .int .i64 r8, .int .i64 r9], .int .i64 sc, .int .i64 row, .int .i64 col, .agg #[.int .i64 y1, .int .i64 y2, .int .i64 y3, .int .i64 y4, .int .i64 y5, .int .i64 y6]] w _
  go_enter Tryz.func51, Tryz.ntmps51
  go_wp2_with fail
  refine (HH.out _ HW.out).mono ?_
  rintro e w2 ⟨rfl, hb⟩
  have KL2 := hide ((KL.out.keep hb).alloc (.cells #[.int .i64 g1, .int .i64 g2, .int .i64 g3, .int .i64 h1, .int .i64 h2, .int .i64 h3] 73))
  have KB2 := hide (Blk.new w2 73 #[.int .i64 g1, .int .i64 g2, .int .i64 g3, .int .i64 h1, .int .i64 h2, .int .i64 h3])
  have HF := below_step HW.out hb (Nat.le_refl _)
  have HW2 := hide (HF.alloc HF.size (.cells #[.int .i64 g1, .int .i64 g2, .int .i64 g3, .int .i64 h1, .int .i64 h2, .int .i64 h3] 73))
  clear hb HH HW K0 KL e1 e2 HF
  have e0 := KL2.out.cell 0
  have e1 := KL2.out.cell 1
  have e3 := KL2.out.cell 3
  have e4 := KL2.out.cell 4
  have d0 := KB2.out.cell 0
  have d1 := KB2.out.cell 1
  simp at e0 e1 e3 e4 d0 d1
  have lp := KL2.out.lt
  have lb := KB2.out.lt
  go_wp2_with fail
  go_quiet (fail)
  cases x0 : decide (y1 < l1 + sc)
  · go_wp2_with fail
    go_ret
    exact ⟨ret_bool (by rw [Hres.out, x0]; rfl), below_drewN' HW2.out _⟩
  cases x1 : decide (l1 ≤ y4)
  · go_wp2_with fail
    go_ret
    exact ⟨ret_bool (by rw [Hres.out, x0, x1]; rfl), below_drewN' HW2.out _⟩
  cases x2 : decide (y2 < l2 + sc)
  · go_wp2_with fail
    go_ret
    exact ⟨ret_bool (by rw [Hres.out, x0, x1, x2]; rfl), below_drewN' HW2.out _⟩
  cases x3 : decide (l2 ≤ y5)
  all_goals
    go_wp2_with fail
    go_ret
    exact ⟨ret_bool (by rw [Hres.out, x0, x1, x2, x3]; rfl), below_drewN' HW2.out _⟩
end Go.Proofs.YtpmipoljnchheaaGreat
namespace Go.Proofs.YtpmipoljnchheaaGreat
open Go.RowKit

theorem hit_fine {lo : Pt} {s rows cols rows2 cols2 : Int} (hs : 1 ≤ s) {row col r c : Int} {b : BoxD} (hr : r = 2 * row ∨ r = 2 * row + 1) (hc : c = 2 * col ∨ c = 2 * col + 1) (h : cellHit ⟨lo, s, rows, cols⟩ r c b = true) : cellHit ⟨lo, 2 * s, rows2, cols2⟩ row col b = true := by
  simp only [cellHit, Bool.and_eq_true, decide_eq_true_eq] at h ⊢
  have e1 : row * (2 * s) = 2 * (row * s) := by rw [Int.mul_left_comm]
  have e2 : col * (2 * s) = 2 * (col * s) := by rw [Int.mul_left_comm]
  have e3 : r * s = 2 * (row * s) ∨ r * s = 2 * (row * s) + s := by
    rcases hr with rfl | rfl
    · left; rw [Int.mul_assoc]
    · right; rw [Int.add_mul, Int.mul_assoc, Int.one_mul]
  have e4 : c * s = 2 * (col * s) ∨ c * s = 2 * (col * s) + s := by
    rcases hc with rfl | rfl
    · left; rw [Int.mul_assoc]
    · right; rw [Int.add_mul, Int.mul_assoc, Int.one_mul]
  rw [e1, e2]
  omega
theorem hit_coarse {lo : Pt} {s rows cols rows2 cols2 : Int} (_hs : 1 ≤ s) {row col : Int} {b : BoxD} (hb : b.lo.1 ≤ b.hi.1 ∧ b.lo.2.1 ≤ b.hi.2.1) (h : cellHit ⟨lo, 2 * s, rows2, cols2⟩ row col b = true) :
    ∃ r c, (r = 2 * row ∨ r = 2 * row + 1) ∧ (c = 2 * col ∨ c = 2 * col + 1) ∧ cellHit ⟨lo, s, rows, cols⟩ r c b = true := by
  simp only [cellHit, Bool.and_eq_true, decide_eq_true_eq] at h
  have e1 : row * (2 * s) = 2 * (row * s) := by rw [Int.mul_left_comm]
  have e2 : col * (2 * s) = 2 * (col * s) := by rw [Int.mul_left_comm]
  rw [e1, e2] at h
  have e3 : 2 * row * s = 2 * (row * s) := by rw [Int.mul_assoc]
  have e4 : (2 * row + 1) * s = 2 * (row * s) + s := by rw [Int.add_mul, Int.mul_assoc, Int.one_mul]
  have e5 : 2 * col * s = 2 * (col * s) := by rw [Int.mul_assoc]
  have e6 : (2 * col + 1) * s = 2 * (col * s) + s := by rw [Int.add_mul, Int.mul_assoc, Int.one_mul]
  refine ⟨if b.lo.2.1 < lo.2.1 + 2 * (row * s) + s then 2 * row else 2 * row + 1, if b.lo.1 < lo.1 + 2 * (col * s) + s then 2 * col else 2 * col + 1, ?_, ?_, ?_⟩
  · split <;> simp
  · split <;> simp
  · simp only [cellHit, Bool.and_eq_true, decide_eq_true_eq]
    split <;> split <;> simp only [e3, e4, e5, e6] <;> omega
theorem hit_lines {g : GridD} {l : List RodD} {row col k : Int} : k ∈ hitLines g l row col ↔ ∃ r ∈ l, cellHit g row col r.leg = true ∧ r.line = k := by
  simp only [hitLines, List.mem_map, List.mem_filter]
  constructor
  · rintro ⟨r, ⟨h1, h2⟩, h3⟩; exact ⟨r, h1, h2, h3⟩
  · rintro ⟨r, h1, h2, h3⟩; exact ⟨r, ⟨h1, h2⟩, h3⟩
theorem gridOf_eq (x : DetD) (s : Int) : ∃ rows cols, gridOf x s = ⟨(hullOf x.mem.boxes).lo, s, rows, cols⟩ := ⟨_, _, rfl⟩
theorem rod_leg {bars : List BarD} {runs : List RunD} {r : RodD} (h : r ∈ rodsOf bars runs) : r.leg.lo.1 ≤ r.leg.hi.1 ∧ r.leg.lo.2.1 ≤ r.leg.hi.2.1 := by
  simp only [rodsOf, List.mem_flatMap] at h
  obtain ⟨l, _, hr⟩ := h
  simp only [rodsOfBar, List.mem_map] at hr
  obtain ⟨b, hb, rfl⟩ := hr
  exact leg_mem _ _ hb
/-- What a fine cell shows, the coarse one shows. -/
theorem fine_coarse {x : DetD} {s : Int} (hs : 1 ≤ s) {row col r c : Int} (hr : r = 2 * row ∨ r = 2 * row + 1) (hc : c = 2 * col ∨ c = 2 * col + 1) {m : ByteArray} (h : m ∈ marksAt x s r c) : m ∈ marksAt x (2 * s) row col := by
  obtain ⟨k, hk, rfl⟩ := List.mem_map.1 h
  obtain ⟨h1, h2⟩ := mem_seenOf.1 hk
  obtain ⟨d, hd, hh, he⟩ := hit_lines.1 h2
  refine List.mem_map.2 ⟨k, mem_seenOf.2 ⟨h1, hit_lines.2 ⟨d, hd, ?_, he⟩⟩, rfl⟩
  exact hit_fine hs hr hc hh
/-- What the coarse cell shows, one of the fine ones shows. -/
theorem coarse_fine {x : DetD} {s : Int} (hs : 1 ≤ s) {row col : Int} {m : ByteArray} (h : m ∈ marksAt x (2 * s) row col) : ∃ r c, (r = 2 * row ∨ r = 2 * row + 1) ∧ (c = 2 * col ∨ c = 2 * col + 1) ∧ m ∈ marksAt x s r c := by
  obtain ⟨k, hk, rfl⟩ := List.mem_map.1 h
  obtain ⟨h1, h2⟩ := mem_seenOf.1 hk
  obtain ⟨d, hd, hh, he⟩ := hit_lines.1 h2
  obtain ⟨r, c, hr, hc, h3⟩ := hit_coarse (rows := (gridOf x s).rows) (cols := (gridOf x s).cols) hs (rod_leg hd) hh
  exact ⟨r, c, hr, hc, List.mem_map.2 ⟨k, mem_seenOf.2 ⟨h1, hit_lines.2 ⟨d, hd, h3, he⟩⟩, rfl⟩⟩
theorem sched_idx {l : List BarD} : ∀ (r : List BarD) (k : Nat), schedFrom l k r = true → ∀ j y, r[j]? = some y → idx (markIs y.mark) l = ((k + j : Nat) : Int) := by
  intro r
  induction r with
  | nil => intro k _ j y h; simp at h
  | cons x r ih =>
    intro k h j y hj
    simp only [schedFrom, Bool.and_eq_true, decide_eq_true_eq] at h
    cases j with
    | zero =>
      simp only [List.getElem?_cons_zero, Option.some.injEq] at hj
      subst hj
      simpa using h.1.2
    | succ j =>
      rw [ih (k + 1) h.2 j y (by simpa using hj)]
      congr 1
      omega
theorem barMark_inj {bars : List BarD} (h : schedOk bars = true) {a b : Int} (ha : 0 ≤ a ∧ a < (bars.length : Nat)) (hb : 0 ≤ b ∧ b < (bars.length : Nat)) (he : barMark bars a = barMark bars b) : a = b := by
  simp only [schedOk, Bool.and_eq_true] at h
  obtain ⟨i, rfl⟩ := Int.eq_ofNat_of_zero_le ha.1
  obtain ⟨j, rfl⟩ := Int.eq_ofNat_of_zero_le hb.1
  have e1 : bars[i]? = some (bars[i]'(by omega)) := List.getElem?_eq_getElem (by omega)
  have e2 : bars[j]? = some (bars[j]'(by omega)) := List.getElem?_eq_getElem (by omega)
  have h1 := sched_idx bars 0 h.2 i _ e1
  have h2 := sched_idx bars 0 h.2 j _ e2
  simp only [barMark, Int.toNat_natCast, e1, e2] at he
  rw [he, h2] at h1
  simpa using h1.symm
theorem marks_nodup {x : DetD} {s row col : Int} (h : laidOk x.bars x.runs = true) : (marksAt x s row col).Nodup := by
  have hs : schedOk x.bars = true := by
    simp only [laidOk, Bool.and_eq_true] at h
    exact h.1.1
  have key : ∀ l : List Int, l.Pairwise (· < ·) → (∀ k ∈ l, 0 ≤ k ∧ k < (x.bars.length : Nat)) → (l.map (barMark x.bars)).Nodup := by
    intro l
    induction l with
    | nil => intro _ _; simp
    | cons a l ih =>
      intro hp hm
      rw [List.pairwise_cons] at hp
      rw [List.map_cons, List.nodup_cons]
      refine ⟨fun hmem => ?_, ih hp.2 (fun k hk => hm k (List.mem_cons_of_mem _ hk))⟩
      obtain ⟨b, hb, he⟩ := List.mem_map.1 hmem
      have := barMark_inj hs (hm b (List.mem_cons_of_mem _ hb)) (hm a (by simp)) he
      have := hp.1 b hb
      omega
  exact key _ (seenOf_asc ..) (fun k hk => (mem_seenOf.1 hk).1)
theorem marks_len (x : DetD) (s row col : Int) : (marksAt x s row col).length ≤ x.bars.length := by
  unfold marksAt seenAt seenOf
  rw [List.length_map]
  refine Nat.le_trans (List.length_filter_le _ _) ?_
  rw [List.length_map, List.length_range]
  exact Nat.le_refl _
theorem marks_size {x : DetD} (ht : Tame x.bars) {s row col : Int} {m : ByteArray} (h : m ∈ marksAt x s row col) : m.size ≤ maxLen := by
  obtain ⟨k, hk, rfl⟩ := List.mem_map.1 h
  obtain ⟨h1, _⟩ := mem_seenOf.1 hk
  obtain ⟨i, rfl⟩ := Int.eq_ofNat_of_zero_le h1.1
  have e1 : x.bars[i]? = some (x.bars[i]'(by omega)) := List.getElem?_eq_getElem (by omega)
  simp only [barMark, Int.toNat_natCast, e1]
  exact (ht _ (mem_of_get e1)).1
end Go.Proofs.YtpmipoljnchheaaGreat
namespace Go.Proofs.YtpmipoljnchheaaGreat
open Go.RowKit

/-- A laid bar bears a mark and has a leg in a cell. -/
def hitBar (g : GridD) (row col : Int) (m : ByteArray) (ld : LaidD) : Bool := (ld.bar.mark.toList == m.toList) && (legsOfPts ld.pts).any (cellHit g row col)
def hitK (x : DetD) (sc row col : Int) (k : Nat) : Bool := (laidAll x.bars x.runs).any (hitBar (gridOf x sc) row col (barMark x.bars k))
def hitTo (x : DetD) (sc row col : Int) (k : Nat) : List Int := ((List.range k).filter (hitK x sc row col)).map fun (j : Nat) => (j : Int)
theorem barMark_at {bars : List BarD} {k : Nat} {y : BarD} (h : bars[k]? = some y) : barMark bars (k : Int) = y.mark := by simp [barMark, h]
theorem hitK_iff {x : DetD} {sc row col : Int} (hok : schedOk x.bars = true) {k : Nat} (hk : k < x.bars.length) : hitK x sc row col k = true ↔ (k : Int) ∈ hitLines (gridOf x sc) (rodsOf x.bars x.runs) row col := by
  obtain ⟨y, hy⟩ : ∃ y, x.bars[k]? = some y := ⟨_, List.getElem?_eq_getElem hk⟩
  simp only [schedOk, Bool.and_eq_true] at hok
  have hix := sched_idx x.bars 0 hok.2 k y hy
  rw [Nat.zero_add] at hix
  rw [hit_lines, hitK, List.any_eq_true, barMark_at hy]
  simp only [rodsOf, List.mem_flatMap, rodsOfBar, List.mem_map, hitBar, Bool.and_eq_true, List.any_eq_true]
  constructor
  · rintro ⟨ld, hl, hm, b, hb, hh⟩
    have he := toList_inj hm
    exact ⟨_, ⟨ld, hl, b, hb, rfl⟩, hh, by rw [he]; exact hix⟩
  · rintro ⟨r, ⟨ld, hl, b, hb, rfl⟩, hh, hi⟩
    obtain ⟨z, hz, hm, _⟩ := idx_spec hi
    rw [hy] at hz
    injection hz with hz
    subst hz
    exact ⟨ld, hl, by rw [markIs_eq hm]; simp, b, hb, hh⟩
theorem hitTo_all {x : DetD} {sc row col : Int} (hok : schedOk x.bars = true) : hitTo x sc row col x.bars.length = seenAt x sc row col := by
  rw [hitTo, seenAt, seenOf, List.filter_map]
  congr 1
  apply List.filter_congr
  intro k hk
  rw [List.mem_range] at hk
  have h := hitK_iff (sc := sc) (row := row) (col := col) hok hk
  simp only [Function.comp]
  rw [Bool.eq_iff_iff, h, List.contains_iff_mem]
theorem hitTo_succ (x : DetD) (sc row col : Int) (k : Nat) : hitTo x sc row col (k + 1) = if hitK x sc row col k then hitTo x sc row col k ++ [(k : Int)] else hitTo x sc row col k := by
  simp only [hitTo, List.range_succ, List.filter_append, List.map_append, List.filter_cons, List.filter_nil]
  split <;> simp_all
theorem any_succ {α : Type} {p : α → Bool} {l : List α} {k : Nat} {y : α} (h : l[k]? = some y) : (l.take (k + 1)).any p = ((l.take k).any p || p y) := by
  rw [take_snoc' h, List.any_append]
  simp
theorem still_load_row' {P : Program} {ops : Array Oper} {rest : List Oper} {o : Oper} {a : Act} {w : World} {Q : Act → Prop} (hw : Region.wanted o (yielded ops a.tmps) = true) (ty : TypeId) (x : Operand) (ho : o.op = .load ty x)
    (g : Nat) (hx : a.eval x = .pointer (some ⟨g, 0, none⟩)) (t : TypeId) (cs : Array Value) (fr : Nat × Nat) (d : TypeDesc) (hg : w.heap[g]? = some (.cells cs t fr))
    (hu : P.underlying ty = some d) (hd : (match d with | .struct _ | .array _ _ => true | _ => false) = true) (hi : (P.info? ty).map (·.size) = some cs.size)
    (h : wpStill P ops w Q rest (a.put o.dst (.agg cs))) : wpStill P ops w Q (o :: rest) a := by
  show if _ then _ else _
  rw [if_pos hw]
  unfold Oper.still execOp
  simp only [ho, hx, Instr.loadAt, Instr.sureAddr, Sem.run_bind, Sem.run_pure, Result.andThen_ok, run_loadVar_row w g t ty cs fr d hg hu hd hi, Oper.stillUpon]
  exact ⟨trivial, h⟩
theorem field_mark (m : ByteArray) (a b c : Int) (A : Option Addr) (n q : Nat) (w : World) : (Instr.field 65 (.agg #[.string m, .int .i64 a, .int .i64 b, .int .i64 c, .slice A n q]) 0).run Tryz.prog w = .ok (.string m) w := by kernel_rfl
set_option maxHeartbeats 8000000 in
set_option maxRecDepth 100000 in
theorem refAt46_ok (x : DetD) (s : DetS) (sc row col : Int) (w : World) {B : Nat} (h : DetAt w B x s) (hB : B ≤ w.heap.size) (hf : DetFit x s) (he : planErr x sc = 0) (hr : 0 ≤ row ∧ row < (gridOf x sc).rows) (hc : 0 ≤ col ∧ col < (gridOf x sc).cols) :
    Calls Tryz.prog 23 #[detV x s, .int .i64 sc, .int .i64 row, .int .i64 col] w fun e w' => ∃ A c, e = .returned (.slice A (seenAt x sc row col).length c) ∧ Ints w' w'.heap.size A (seenAt x sc row col) ∧ Below w.heap.size w w' := by
  have hpf := plan_facts he
  have hok := hpf.laid
  obtain ⟨hbars, hlen, hruns⟩ := laidOk_mem hok
  have hsch : schedOk x.bars = true := by
    simp only [laidOk, Bool.and_eq_true] at hok
    exact hok.1.1
  have l4 := hf.l4
  have HCo := hide (fun (W : World) (hz : Below w.heap.size w W) => count16_any s.a4 x.runs s.n4 s.c4 W (h.h4.carry (Flat.carried _) (hz.mono hB) (Nat.le_refl _)) (Nat.le_trans hB hz.size) hf.l4 (by omega) (fun r hr => runOk_count (hruns r hr)))
  have HBa := hide (fun (i : Nat) (ld : LaidD) (hi : (laidAll x.bars x.runs)[i]? = some ld) (W : World) (hz : Below w.heap.size w W) => refBar_ok s.a3 s.a4 x.bars x.runs s.n3 s.c3 s.n4 s.c4 i ld W (h.h3.carry (hz.mono hB) (Nat.le_refl _)) (h.h4.carry (Flat.carried _) (hz.mono hB) (Nat.le_refl _)) (Nat.le_trans hB hz.size) hf.l3 hf.l4 hf.m3 hok hi)
  have HLe := hide (fun (i : Nat) (ld : LaidD) (hi : (laidAll x.bars x.runs)[i]? = some ld) (W : World) (hz : Below w.heap.size w W) => refLegs_ok s.a3 s.a4 x.bars x.runs s.n3 s.c3 s.n4 s.c4 i ld W (h.h3.carry (hz.mono hB) (Nat.le_refl _)) (h.h4.carry (Flat.carried _) (hz.mono hB) (Nat.le_refl _)) (Nat.le_trans hB hz.size) hf.l3 hf.l4 hf.m3 hok hi)
  have HIn := hide (fun (b : BoxD) (W : World) (hz : Below w.heap.size w W) => refIn46_ok x s sc row col b W (h.carry (hz.mono hB) (Nat.le_refl _)) (Nat.le_trans hB hz.size) hf he hr hc)
  have Hll := hide (fun (i : Nat) (ld : LaidD) (hi : (laidAll x.bars x.runs)[i]? = some ld) => show (legsOfPts ld.pts).length ≤ 60000 by
    obtain ⟨_, hl1, hl7⟩ := laid_near x.runs i ld hruns hi
    rw [legsOfPts_len]
    omega)
  obtain ⟨hN, hN2⟩ := laidOk_len hok
  rw [← hN] at HCo
  have Hall := hide (hitTo_all (sc := sc) (row := row) (col := col) hsch)
  have Hsu := hide (fun (k : Nat) => hitTo_succ x sc row col k)
  have Hk := hide (fun (k : Nat) (y : BarD) (hy : x.bars[k]? = some y) => show hitK x sc row col k = (laidAll x.bars x.runs).any (hitBar (gridOf x sc) row col y.mark) by rw [hitK, barMark_at hy])
  have Hz := hide (show hitTo x sc row col 0 = [] from rfl)
  have H3 := hide h.h3
  have L3 := hide hf.l3
  have m3 := hf.m3
  have HB := hide hB
  have Hi := hide (show (Tryz.prog.info? 34).map (·.size) = some 19 by kernel_rfl)
  have K0 := hide (Blk.new w 34 (detCells x.mem x.rule s))
  have HW := hide (below_new w (.cells (detCells x.mem x.rule s) 34))
  generalize laidAll x.bars x.runs = LA at *
  generalize gridOf x sc = g at *
  obtain ⟨SE, hSE⟩ : ∃ SE, SE = seenAt x sc row col := ⟨_, rfl⟩
  rw [← hSE] at Hall ⊢
  generalize hitTo x sc row col = T at *
  generalize hitK x sc row col = PK at *
  obtain ⟨mem, bars, runs, laps, dems, rule⟩ := x
  obtain ⟨a1, n1, c1, a2, n2, c2, a3, n3, c3, a4, n4, c4, a5, n5, c5, a6, n6, c6⟩ := s
  obtain ⟨name, boxes, holes, cover, agg, poker⟩ := mem
  obtain ⟨r1, r2, r3, r4, r5, r6, r7, r8, r9⟩ := rule
  simp only [detCells] at K0 HW
  simp only at HCo HBa HLe HIn Hall Hk H3 L3 m3
  clear h hf hB hpf hok hbars hlen hruns hsch l4 he hr hc hN hSE
  obtain ⟨N, hNN⟩ : ∃ N, N = LA.length := ⟨_, rfl⟩
  rw [← hNN] at HCo hN2
  have HN := hide hNN
  obtain ⟨w1, hw1⟩ : ∃ w1, w1 = w.alloc (.cells #[.string name, .slice a1 n1 c1, .slice a2 n2 c2, .int .i64 cover, .int .i64 agg, .int .i64 poker, .slice a3 n3 c3, .slice a4 n4 c4, .slice a5 n5 c5, .slice a6 n6 c6, .int .i64 r1, .int .i64 r2, .int .i64 r3, .int .i64 r4, .int .i64 r5, .int .i64 r6, .int .i64 r7, .int .i64 r8, .int .i64 r9] 34) := ⟨_, rfl⟩
  clear hNN
  show Calls Tryz.prog 23 #[.agg #[.string name, .slice a1 n1 c1, .slice a2 n2 c2, .int .i64 cover, .int .i64 agg, .int .i64 poker, .slice a3 n3 c3, .slice a4 n4 c4, .slice a5 n5 c5, .slice a6 n6 c6, .int .i64 r1, .int .i64 r2, .int .i64 r3, .int .i64 r4, .int .i64 r5, .int .i64 r6, .int .i64 r7, .int .i64 r8, .int .i64 r9], .int .i64 sc, .int .i64 row, .int .i64 col] w _
  go_enter Tryz.func23, Tryz.ntmps23
  go_wp2_with fail
  rw [← hw1] at K0 HW ⊢
  clear hw1
  have Hlw := hide (K0.out.lt)
  go_loopw [9, 10] (fun v kv wr => ∃ k : Nat, k ≤ n3 ∧ kv = .int .i64 k ∧ (∃ acc : List Int, Hid (Row wr w1.heap.size 3 1 encInt v acc) ∧ Hid (acc = T k) ∧ Hid (acc.length ≤ k)) ∧ Hid (Blk wr w.heap.size 34 #[.string name, .slice a1 n1 c1, .slice a2 n2 c2, .int .i64 cover, .int .i64 agg, .int .i64 poker, .slice a3 n3 c3, .slice a4 n4 c4, .slice a5 n5 c5, .slice a6 n6 c6, .int .i64 r1, .int .i64 r2, .int .i64 r3, .int .i64 r4, .int .i64 r5, .int .i64 r6, .int .i64 r7, .int .i64 r8, .int .i64 r9]) ∧ Hid (Below w1.heap.size w1 wr)) (fun _ kv _ => n3 - (intOf kv).toNat)
  case atStart => exact ⟨0, Nat.zero_le _, rfl, ⟨[], hide (Row.nil _ _ _ _ _), hide Hz.out.symm, hide (Nat.le_refl _)⟩, K0, hide (Below.refl _ _)⟩
  case round =>
    rename World => wo
    obtain ⟨k, hk, rfl, ⟨acc, hrow, hacc, hal⟩, hK, hbr⟩ := hrel
    obtain ⟨A0, c0, rfl⟩ := hrow.out.val
    have e6 := hK.out.cell 6
    simp at e6
    have lk := hK.out.lt
    by_cases hlt : k < n3
    · have HWo := hide (below_step HW.out hbr.out (Nat.le_refl _))
      obtain ⟨b, off, y, A', c', hA, hbl, hy, _, f0, f1, f2, f3, f4⟩ := BarsAt.get (k := k) H3.out (by rw [← L3.out]; exact hlt)
      have hbw : b < w.heap.size := Nat.lt_of_lt_of_le hbl HB.out
      have HM := hide (fun (W : World) (hz : Below w.heap.size w W) => (hz.cell (p := ⟨b, off + k * 5, none⟩) hbw).trans f0)
      have HKy := hide (Hk.out k y hy)
      have HSk := hide (Hsu.out k)
      have HFM := hide (fun (a b d : Int) (A : Option Addr) (nq q : Nat) (m : ByteArray) (W : World) => field_mark m a b d A nq q W)
      obtain ⟨my, hmy⟩ : ∃ m, m = y.mark := ⟨_, rfl⟩
      rw [← hmy] at HM HKy
      clear f0 f1 f2 f3 f4 hbl hy hmy
      subst hA
      go_wp2_with fail
      go_loopw [11, 12] (fun bv iv wr => ∃ i : Nat, i ≤ N ∧ iv = .int .i64 i ∧ (∃ t : Bool, bv = .bool t ∧ Hid (t = (LA.take i).any (hitBar g row col my))) ∧ Hid (Row wr w1.heap.size 3 1 encInt (.slice A0 acc.length c0) acc) ∧ Hid (Blk wr w.heap.size 34 #[.string name, .slice a1 n1 c1, .slice a2 n2 c2, .int .i64 cover, .int .i64 agg, .int .i64 poker, .slice (some ⟨b, off, none⟩) n3 c3, .slice a4 n4 c4, .slice a5 n5 c5, .slice a6 n6 c6, .int .i64 r1, .int .i64 r2, .int .i64 r3, .int .i64 r4, .int .i64 r5, .int .i64 r6, .int .i64 r7, .int .i64 r8, .int .i64 r9]) ∧ Hid (Below w1.heap.size w1 wr)) (fun _ iv _ => N - (intOf iv).toNat)
      case atStart => exact ⟨0, Nat.zero_le _, rfl, ⟨false, rfl, hide (by simp)⟩, hrow, hK, hbr⟩
      case round =>
        clear hrow hK hbr HWo e6 lk
        rename World => wi
        obtain ⟨i, hi, rfl, ⟨t, rfl, ht⟩, hrow, hK, hbr⟩ := hrel
        have HWi := hide (below_step HW.out hbr.out (Nat.le_refl _))
        have e7 := hK.out.cell 7
        simp at e7
        have lk := hK.out.lt
        have HCi := hide (HCo.out wi HWi.out)
        go_wp2_with fail
        refine HCi.out.mono ?_
        rintro e w2 ⟨rfl, hb2⟩
        have hK2 := hide (hK.out.keep hb2)
        have hrow2 := hide (hrow.out.keep hb2)
        have hbr2 := hide (hbr.out.trans (hb2.mono hbr.out.size))
        have HW2 := hide (below_step HW.out hbr2.out (Nat.le_refl _))
        clear hb2 HCi HWi hK hrow hbr e7 lk
        by_cases hli : i < N
        · have di : decide ((i : Int) < (N : Int)) = true := by simp; omega
          obtain ⟨ld, hld⟩ : ∃ ld, LA[i]? = some ld := ⟨_, List.getElem?_eq_getElem (by rw [← HN.out]; exact hli)⟩
          have HBi := HBa.out i ld hld
          have HLi := hide (HLe.out i ld hld)
          have HAn := hide (any_succ (p := hitBar g row col my) hld)
          have Hhb := hide (show hitBar g row col my ld = ((ld.bar.mark.toList == my.toList) && (legsOfPts ld.pts).any (cellHit g row col)) from rfl)
          have hll := Hll.out i ld hld
          obtain ⟨⟨mk, sz, ct, cd, dims⟩, pts⟩ := ld
          simp only [barV] at HBi HLi Hhb hll
          generalize legsOfPts pts = LG at *
          have HBi := hide HBi
          have hK2o := hK2.out
          have q6 := hK2o.cell 6
          have q7 := hK2o.cell 7
          simp at q6 q7
          have lk := hK2o.lt
          have HC := hide (fun (W : World) (h : Below w2.heap.size w2 W) => show W.cell? ⟨w.heap.size, 6, none⟩ = some (.slice (some ⟨b, off, none⟩) n3 c3) ∧ W.cell? ⟨w.heap.size, 7, none⟩ = some (.slice a4 n4 c4) ∧ W.cell? ⟨b, off + k * 5, none⟩ = some (.string my) from
            ⟨(h.cell (p := ⟨w.heap.size, 6, none⟩) lk).trans q6, (h.cell (p := ⟨w.heap.size, 7, none⟩) lk).trans q7, HM.out _ (below_step HW2.out h (Nat.le_refl _))⟩)
          have hS0 := HC.out _ (Below.drew (Below.refl w2.heap.size w2))
          have hBx := Below.drew (Below.refl w2.heap.size w2)
          have hfm := HFM.out
          clear hld hK2o
          obtain ⟨te, hte⟩ : ∃ te, te = (mk.toList == my.toList) := ⟨_, rfl⟩
          rw [← hte] at Hhb
          have ht1 := hte.symm
          clear hte
          go_wp2_with fail
          go_cut [42] from 29 to 42 (fun v42 wx => v42 = .bool (!te) ∧ Hid (Below w2.heap.size w2 wx))
          case first =>
            go_region_held3 (fun W => W.cell? ⟨w.heap.size, 6, none⟩ = some (.slice (some ⟨b, off, none⟩) n3 c3) ∧ W.cell? ⟨w.heap.size, 7, none⟩ = some (.slice a4 n4 c4) ∧ W.cell? ⟨b, off + k * 5, none⟩ = some (.string my))
              (first | (with_reducible assumption) | go_keep)
              (first
                | (go_at_call 49; (with_reducible refine (HBi.out _ (below_step HW2.out hBx (Nat.le_refl _))).mono ?_); rintro e wz ⟨A7, c7, rfl, _, hbz⟩; have hBx := below_step hBx hbz (Nat.le_refl _); have hS' := HC.out _ hBx))
            all_goals
              go_wp2_with fail
              go_meet
              exact ⟨rfl, hide hBx⟩
          case rest =>
            obtain ⟨rfl, hbx⟩ := hcut
            rename World => wx
            have hK3 := hide (hK2.out.keep hbx.out)
            have hrow3 := hide (hrow2.out.keep hbx.out)
            have hbr3 := hide (hbr2.out.trans (hbx.out.mono hbr2.out.size))
            have HW3 := hide (below_step HW.out hbr3.out (Nat.le_refl _))
            clear hbx hK2 hrow2 hbr2 HW2 q6 q7 lk HC hS0 hBx hfm ht1 HBi
            cases te
            · have ht3 := hide (show t = (LA.take (i + 1)).any (hitBar g row col my) by rw [HAn.out, Hhb.out, ← ht.out]; simp)
              go_wp2_with fail
              go_roundw
              case rel => exact ⟨i + 1, by omega, by go_num, ⟨t, rfl, ht3⟩, hrow3, hK3, hbr3⟩
              case measure => simp [intOf]; omega
            have hK3o := hK3.out
            have q6 := hK3o.cell 6
            have q7 := hK3o.cell 7
            simp at q6 q7
            have lk := hK3o.lt
            clear hK3o
            obtain ⟨ln, hln⟩ : ∃ n, n = LG.length := ⟨_, rfl⟩
            rw [← hln] at HLi hll
            have Hln := hide hln
            clear hln
            go_wp2_with fail
            refine (HLi.out _ HW3.out).mono ?_
            rintro e w4 ⟨A7, c7, rfl, hlg, hb4⟩
            have HLG := hide hlg
            have hK4 := hide (hK3.out.keep hb4)
            have hrow4 := hide (hrow3.out.keep hb4)
            have hbr4 := hide (hbr3.out.trans (hb4.mono hbr3.out.size))
            clear hb4 hlg HLi hK3 hrow3 hbr3 HW3 q6 q7 lk
            go_wp2_with fail
            go_loopw [11, 14] (fun bv jv wr => ∃ j : Nat, j ≤ ln ∧ jv = .int .i64 j ∧ (∃ t2 : Bool, bv = .bool t2 ∧ Hid (t2 = (t || (LG.take j).any (cellHit g row col)))) ∧ Hid (Row wr w1.heap.size 3 1 encInt (.slice A0 acc.length c0) acc) ∧ Hid (Blk wr w.heap.size 34 #[.string name, .slice a1 n1 c1, .slice a2 n2 c2, .int .i64 cover, .int .i64 agg, .int .i64 poker, .slice (some ⟨b, off, none⟩) n3 c3, .slice a4 n4 c4, .slice a5 n5 c5, .slice a6 n6 c6, .int .i64 r1, .int .i64 r2, .int .i64 r3, .int .i64 r4, .int .i64 r5, .int .i64 r6, .int .i64 r7, .int .i64 r8, .int .i64 r9]) ∧ Hid (Below w1.heap.size w1 wr) ∧ Hid (Below w4.heap.size w4 wr)) (fun _ jv _ => ln - (intOf jv).toNat)
            case atStart => exact ⟨0, Nat.zero_le _, rfl, ⟨t, rfl, hide (by simp)⟩, hrow4, hK4, hbr4, hide (Below.refl _ _)⟩
            case round =>
              clear hrow4 hK4 hbr4
              rename World => wj
              obtain ⟨j, hj, rfl, ⟨t2, rfl, ht2⟩, hrow, hK, hbr, hb4⟩ := hrel
              have HWj := hide (below_step HW.out hbr.out (Nat.le_refl _))
              by_cases hlj : j < ln
              · obtain ⟨bq, oq, z, rfl, hbl, hz, f0, f1, f2, f3, f4, f5⟩ := BoxesAt.get (k := j) (HLG.out.carry (Flat.carried _) hb4.out hb4.out.size) (by rw [← Hln.out]; exact hlj)
                have Hz := hide (any_succ (p := cellHit g row col) hz)
                have HIz := HIn.out z
                obtain ⟨v, hv⟩ : ∃ v, v = cellHit g row col z := ⟨_, rfl⟩
                rw [← hv] at Hz HIz
                obtain ⟨⟨z1, z2, z3⟩, z4, z5, z6⟩ := z
                simp only [bxV] at f0 f1 f2 f3 f4 f5 HIz
                have HIz := hide HIz
                have lk := hK.out.lt
                clear hz hv hbl
                cases t2
                · have ht3 := hide (show v = (t || (LG.take (j + 1)).any (cellHit g row col)) by rw [Hz.out, ← Bool.or_assoc, ← ht2.out]; simp)
                  go_wp2_with fail
                  refine wp_region_still_tail 10 (by kernel_rfl) (by kernel_rfl) ?_
                  simp only [List.take_succ_cons, List.take_zero, List.drop_succ_cons, List.drop_zero]
                  still_step
                  still_step
                  refine still_load_row' (by rfl) 34 (.tmp 4) rfl w.heap.size rfl 34 _ (0, 0) _ hK.out Tryz.underlying34 rfl Hi.out ?_
                  repeat still_step
                  try refine wpStill_nil ?_
                  change wpList _ _ _ _ _ (World.drew wj)
                  go_wp2_with fail
                  refine (HIz.out _ HWj.out.drew).mono ?_
                  rintro e w5 ⟨rfl, hb5⟩
                  have hK5 := hide ((hK.out.drew).keep hb5)
                  have hrow5 := hide ((hrow.out.drew).keep hb5)
                  have hbr5 := hide ((hbr.out.drew).trans (hb5.mono hbr.out.size))
                  have hb45 := hide (below_step hb4.out.drew hb5 (Nat.le_refl _))
                  clear hb5
                  go_wp2_with fail
                  go_roundw
                  case rel => exact ⟨j + 1, by omega, by go_num, ⟨v, by simp, ht3⟩, hrow5, hK5, hbr5, hb45⟩
                  case measure => simp [intOf]; omega
                · have ht3 := hide (show true = (t || (LG.take (j + 1)).any (cellHit g row col)) by rw [Hz.out, ← Bool.or_assoc, ← ht2.out]; simp)
                  go_wp2_with fail
                  go_quiet (fail)
                  go_wp2_with fail
                  go_roundw
                  case rel => exact ⟨j + 1, by omega, by go_num, ⟨true, rfl, ht3⟩, hide hrow.out, hide (hK.out.drewN _), hide (below_drewN' hbr.out _), hide (below_drewN' hb4.out _)⟩
                  case measure => simp [intOf]; omega
              · obtain rfl : j = ln := by omega
                have ht3 := hide (show t2 = (LA.take (i + 1)).any (hitBar g row col my) by
                  rw [HAn.out, Hhb.out, ← ht.out, ht2.out, Hln.out, List.take_length]; simp)
                go_wp2_with fail
                go_roundw
                case rel => exact ⟨i + 1, by omega, by go_num, ⟨t2, rfl, ht3⟩, hrow, hK, hbr⟩
                case measure => simp [intOf]; omega
        · obtain rfl : i = N := by omega
          have di : decide ((i : Int) < (i : Int)) = false := by simp
          have Hpk := hide (show PK k = t by rw [HKy.out, ht.out, HN.out, List.take_length])
          have hal9 := hal.out
          cases t
          · have hacc2 := hide (show acc = T (k + 1) by rw [HSk.out, Hpk.out, if_neg (by decide)]; exact hacc.out)
            go_wp2_with fail
            go_roundw
            case rel => exact ⟨k + 1, by omega, by go_num, ⟨acc, hrow2, hacc2, hide (by omega)⟩, hK2, hbr2⟩
            case measure => simp [intOf]; omega
          · have hacc2 := hide (show acc ++ [(k : Int)] = T (k + 1) by rw [HSk.out, Hpk.out, if_pos rfl, hacc.out])
            have hs2 := hbr2.out.size
            go_wp2_with (at_builtin; refine wpList_append1 rfl (.tmp 68) (.tmp 70) 62 rfl w1.heap.size 3 (.int .i64 0) 1 8 encInt Tryz.underlying62 (by kernel_rfl) rfl (by omega) encInt_len encInt_one _ acc (k : Int) rfl (hrow2.out.alloc _) _ rfl (Blk.new w2 _ _) (by omega) (by omega) (le_alloc hs2 _) ?_; intro A9 c9 w9 hrow9 hb9 hkeep9)
            go_roundw
            case rel => exact ⟨k + 1, by omega, by go_num, ⟨acc ++ [(k : Int)], hide (by simpa using hrow9), hacc2, hide (by simp; omega)⟩, hide ((hK2.out.alloc _).below hb9 Hlw.out), hide ((hbr2.out.alloc hs2 _).trans hb9)⟩
            case measure => simp [intOf]; omega
    · obtain rfl : k = n3 := by omega
      have hfin := hide (show acc = SE by rw [hacc.out, L3.out]; exact Hall.out)
      have hlen := hide (show SE.length = acc.length by rw [hfin.out])
      have Hr := hide (show Ints wo wo.heap.size A0 SE by rw [← hfin.out]; exact Row.read hrow.out encInt_len (by omega))
      have Hb := hide (below_step HW.out hbr.out (Nat.le_refl _))
      clear hacc hrow hbr hK
      generalize acc.length = m at *
      go_wp2_with fail
      go_ret
      exact ⟨A0, c0, by rw [hlen.out]; rfl, Hr.out, Hb.out⟩
end Go.Proofs.YtpmipoljnchheaaGreat
namespace Go.Proofs.YtpmipoljnchheaaGreat
open Go.RowKit

theorem addS (a b : ByteArray) (h : a.size + b.size ≤ 100000000) (W : World) : (Op.stringOp .add a b).run Tryz.prog W = .ok (.string (a ++ b)) W := run_string_add_sum W a b (by omega)
set_option maxHeartbeats 4000000 in
set_option maxRecDepth 100000 in
theorem refLegend46_ok (x : DetD) (s : DetS) (w : World) {B : Nat} (h : DetAt w B x s) (hB : B ≤ w.heap.size) (hf : DetFit x s) (hd : detOk x = true) :
    Calls Tryz.prog 18 #[detV x s] w fun e w' => e = .returned (.string ⟨(legendText x.bars).toArray⟩) ∧ Below w.heap.size w w' := by
  have K0 := hide (Blk.new w 34 (detCells x.mem x.rule s))
  have HW := hide (below_new w (.cells (detCells x.mem x.rule s) 34))
  have H3 := hide h.h3
  have L3 := hide hf.l3
  have HB := hide hB
  have hbars := (laidOk_mem (detOk_parts hd).2.1).1
  have Hmk := hide (fun (y : BarD) (hy : y ∈ x.bars) => show y.mark.size ≤ 20 from mark_size (hbars y hy))
  have hn3 : s.n3 ≤ 60000 := hf.m3
  obtain ⟨LT, hLT⟩ : ∃ LT : Nat → List UInt8, LT = legendTo x.bars := ⟨_, rfl⟩
  have HL0 := hide (show LT 0 = [] by rw [hLT]; rfl)
  have HLn := hide (fun (k : Nat) (y : BarD) (hy : x.bars[k]? = some y) => show LT (k + 1) = LT k ++ legendLine k y.mark by rw [hLT, legendTo_succ]; simp [barMark, hy])
  have HLt := hide (show legendText x.bars = LT s.n3 by rw [hLT, hf.l3]; rfl)
  obtain ⟨mem, bars, runs, laps, dems, rule⟩ := x
  obtain ⟨a1, n1, c1, a2, n2, c2, a3, n3, c3, a4, n4, c4, a5, n5, c5, a6, n6, c6⟩ := s
  obtain ⟨name, boxes, holes, cover, agg, poker⟩ := mem
  obtain ⟨r1, r2, r3, r4, r5, r6, r7, r8, r9⟩ := rule
  simp only [detCells] at K0 HW
  simp only at H3 L3 Hmk hn3 HLn HLt
  clear h hf hB hd hbars hLT
  show Calls Tryz.prog 18 #[.agg #[.string name, .slice a1 n1 c1, .slice a2 n2 c2, .int .i64 cover, .int .i64 agg, .int .i64 poker, .slice a3 n3 c3, .slice a4 n4 c4, .slice a5 n5 c5, .slice a6 n6 c6, .int .i64 r1, .int .i64 r2, .int .i64 r3, .int .i64 r4, .int .i64 r5, .int .i64 r6, .int .i64 r7, .int .i64 r8, .int .i64 r9]] w _
  go_enter Tryz.func18, Tryz.ntmps18
  go_wp2_with fail
  go_loopw [3, 4] (fun v iv wr => ∃ k : Nat, k ≤ n3 ∧ iv = .int .i64 k ∧ (∃ sv : ByteArray, v = .string sv ∧ Hid (sv.data.toList = LT k) ∧ sv.size ≤ 23 * k) ∧ Hid (Blk wr w.heap.size 34 #[.string name, .slice a1 n1 c1, .slice a2 n2 c2, .int .i64 cover, .int .i64 agg, .int .i64 poker, .slice a3 n3 c3, .slice a4 n4 c4, .slice a5 n5 c5, .slice a6 n6 c6, .int .i64 r1, .int .i64 r2, .int .i64 r3, .int .i64 r4, .int .i64 r5, .int .i64 r6, .int .i64 r7, .int .i64 r8, .int .i64 r9]) ∧ Hid (Below w.heap.size w wr)) (fun _ iv _ => n3 - (intOf iv).toNat)
  case atStart => exact ⟨0, Nat.zero_le _, rfl, ⟨⟨#[]⟩, rfl, hide HL0.out.symm, Nat.zero_le _⟩, K0, HW⟩
  case round =>
    clear K0 HW
    rename World => wo
    obtain ⟨k, hk, rfl, ⟨s0, rfl, hs0, hz0⟩, hK, hbr⟩ := hrel
    have e6 := hK.out.cell 6
    simp at e6
    have lk := hK.out.lt
    by_cases hlt : k < n3
    · obtain ⟨b, off, y, A', c', rfl, hbl, hy, _, f0, f1, f2, f3, f4⟩ := BarsAt.get (k := k) (H3.out.carry (hbr.out.mono HB.out) (Nat.le_refl _)) (by rw [← L3.out]; exact hlt)
      have hbw : b < wo.heap.size := by have := hbr.out.size; have := HB.out; omega
      have Hn := hide (HLn.out k y hy)
      have hmz := Hmk.out y (mem_of_get hy)
      have HPL := hide (fun (W : World) => refLetter46_any (k : Int) W (by omega))
      generalize hlb : letterOf (k : Int) = lb at HPL
      obtain ⟨m, hm⟩ : ∃ m, m = y.mark := ⟨_, rfl⟩
      rw [← hm] at f0 hmz Hn
      have hq1 : (⟨#[lb]⟩ : ByteArray).size = 1 := rfl
      have hq2 : (⟨#[32]⟩ : ByteArray).size = 1 := rfl
      have hq3 : (⟨#[10]⟩ : ByteArray).size = 1 := rfl
      obtain ⟨s1, hs1⟩ : ∃ q, q = s0 ++ (⟨#[lb]⟩ : ByteArray) := ⟨_, rfl⟩
      obtain ⟨s2, hs2⟩ : ∃ q, q = s1 ++ (⟨#[32]⟩ : ByteArray) := ⟨_, rfl⟩
      obtain ⟨s3, hs3⟩ : ∃ q, q = s2 ++ m := ⟨_, rfl⟩
      obtain ⟨s4, hs4⟩ : ∃ q, q = s3 ++ (⟨#[10]⟩ : ByteArray) := ⟨_, rfl⟩
      have g1 : s1.size = s0.size + 1 := by rw [hs1, ByteArray.size_append, hq1]
      have g2 : s2.size = s1.size + 1 := by rw [hs2, ByteArray.size_append, hq2]
      have g3 : s3.size = s2.size + m.size := by rw [hs3, ByteArray.size_append]
      have g4 : s4.size = s3.size + 1 := by rw [hs4, ByteArray.size_append, hq3]
      have t1 : ∀ W : World, (Op.stringOp .add s0 (⟨#[lb]⟩ : ByteArray)).run Tryz.prog W = .ok (.string s1) W := fun W => by rw [hs1]; exact addS _ _ (by omega) W
      have t2 : ∀ W : World, (Op.stringOp .add s1 (⟨#[32]⟩ : ByteArray)).run Tryz.prog W = .ok (.string s2) W := fun W => by rw [hs2]; exact addS _ _ (by omega) W
      have t3 : ∀ W : World, (Op.stringOp .add s2 m).run Tryz.prog W = .ok (.string s3) W := fun W => by rw [hs3]; exact addS _ _ (by omega) W
      have t4 : ∀ W : World, (Op.stringOp .add s3 (⟨#[10]⟩ : ByteArray)).run Tryz.prog W = .ok (.string s4) W := fun W => by rw [hs4]; exact addS _ _ (by omega) W
      have Hs4 := hide (show s4.data.toList = LT (k + 1) by
        rw [Hn.out, hs4, hs3, hs2, hs1, legendLine, ← hs0.out, hlb]
        simp)
      have Hz4 := hide (show s4.size ≤ 23 * (k + 1) by omega)
      have HC := hide (fun (W : World) (h : Below wo.heap.size wo W) => show W.cell? ⟨w.heap.size, 6, none⟩ = some (.slice (some ⟨b, off, none⟩) n3 c3) ∧ W.cell? ⟨b, off + k * 5, none⟩ = some (.string m) from
        ⟨(h.cell (p := ⟨w.heap.size, 6, none⟩) lk).trans e6, (h.cell (p := ⟨b, off + k * 5, none⟩) hbw).trans f0⟩)
      have hS0 := HC.out _ (Below.drew (Below.refl wo.heap.size wo))
      have hBx := Below.drew (Below.refl wo.heap.size wo)
      clear hs1 hs2 hs3 hs4 g1 g2 g3 g4 hq1 hq2 hq3 hlb hm f0 f1 f2 f3 f4 hbl hy hs0 hz0 Hn hmz
      go_wp2_with fail
      go_region_held3 (fun W => W.cell? ⟨w.heap.size, 6, none⟩ = some (.slice (some ⟨b, off, none⟩) n3 c3) ∧ W.cell? ⟨b, off + k * 5, none⟩ = some (.string m))
        (first | (with_reducible assumption) | go_keep)
        (first
          | (go_at_call 38; (with_reducible refine (HPL.out _).mono ?_); rintro e wz ⟨rfl, hbz⟩; have hBx := below_step hBx hbz (Nat.le_refl _); have hS' := HC.out _ hBx))
      all_goals
        have hK5 := hide (hK.out.keep hBx)
        have hbr5 := hide (below_step hbr.out hBx (Nat.le_refl _))
        go_wp2_with fail
        go_roundw
        case rel => exact ⟨k + 1, by omega, by go_num, ⟨s4, rfl, Hs4, Hz4.out⟩, hK5, hbr5⟩
        case measure => simp [intOf]; omega
    · obtain rfl : k = n3 := by omega
      have Hfin := hide (show s0 = ⟨(legendText bars).toArray⟩ by
        rw [HLt.out, ← hs0.out])
      go_wp2_with fail
      go_ret
      exact ⟨ret_str Hfin.out, hbr.out⟩
end Go.Proofs.YtpmipoljnchheaaGreat
