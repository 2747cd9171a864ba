/- Plain: the references' words of validity say the same as ours. No walk stands here. The references of layers 16, 17, 24: members, near points, main legs, the place of a laid bar. The reference of layer 16: the points of a bar of a run. The iterator over all laid bars, with their paths: for whatever loop's body keeps its word. -/
import Derived.Test.YtpmipoljnchheaaGreatMag
import Derived.Test.YtpmipoljnchheaaGreatMaj
import Derived.Test.YtpmipoljnchheaaGreatMal
import Derived.Test.YtpmipoljnchheaaGreatMak
import Derived.Deep.RegionWith
import Derived.Test.YtpmipoljnchheaaGreatMai
import Derived.RangeFuncNested
import Derived.RangeFuncBound
import Derived.RangeFuncCalls
import Derived.RangeFuncLeaves
import Derived.Shelf.Abstract
import Derived.Shelf.RegionOpen
import Derived.OwnWalkIn
import Derived.TacticsInMore
import Derived.LoopNIn
import Derived.LoopIn
namespace Go.Proofs.YtpmipoljnchheaaGreat
open Go.RowKit

theorem countRuns_cons (r : RunD) (l : List RunD) : countRuns (r :: l) = r.count + countRuns l := by
  have key : ∀ (l : List RunD) (a : Int), l.foldl (fun s r => s + r.count) a = a + countRuns l := by
    intro l
    induction l with
    | nil => intro a; simp [countRuns]
    | cons x l ih =>
      intro a
      have h1 := ih (a + x.count)
      have h2 := ih x.count
      simp only [countRuns, List.foldl_cons, Int.zero_add] at h1 h2 ⊢
      rw [h1, h2]
      omega
  have h := key l r.count
  simp only [countRuns, List.foldl_cons, Int.zero_add] at h ⊢
  exact h
theorem countRuns_nonneg {bars : List BarD} : ∀ (l : List RunD), l.all (runOk bars) = true → 0 ≤ countRuns l := by
  intro l
  induction l with
  | nil => intro _; simp [countRuns]
  | cons r l ih =>
    intro h
    rw [List.all_cons, Bool.and_eq_true] at h
    have := ih h.2
    have := runOk_count h.1
    rw [countRuns_cons]
    omega
theorem runsFit_all {bars : List BarD} : ∀ (l : List RunD) (rest : Int), 0 ≤ rest → runsFit bars rest l = (l.all (runOk bars) && decide (countRuns l ≤ rest)) := by
  intro l
  induction l with
  | nil => intro rest h; simp [runsFit, countRuns, h]
  | cons r l ih =>
    intro rest h
    rw [runsFit, List.all_cons, countRuns_cons]
    cases h1 : runOk bars r
    · rfl
    have hc := runOk_count h1
    by_cases h2 : r.count ≤ rest
    · rw [decide_eq_true h2, ih _ (by omega), Bool.and_self, Bool.true_and, Bool.true_and]
      congr 1
      exact decide_eq_decide.2 (by omega)
    · rw [decide_eq_false h2]
      cases h3 : l.all (runOk bars)
      · rfl
      have := countRuns_nonneg l h3
      rw [decide_eq_false (by omega)]
      rfl
theorem laidOk_ref (bars : List BarD) (runs : List RunD) : laidOk bars runs = (schedOk bars && decide (runs.length ≤ 60) && runs.all (runOk bars) && decide (countRuns runs ≤ 2000)) := by
  rw [laidOk, runsFit_all _ _ (by decide), Bool.and_assoc, Bool.and_assoc, Bool.and_assoc]
def demsBy (l : List DemD) : Nat → List DemD → Bool
  | _, [] => true
  | k, d :: r => isName d.name && decide (idx (nameIs d.name) l = k) && boxOk d.zone && stepsOk d.steps && demsBy l (k + 1) r
theorem idx_mid {done r : List DemD} {d : DemD} : decide (idx (nameIs d.name) (done ++ d :: r) = (done.length : Nat)) = !done.any (nameIs d.name) := by
  cases h : done.any (nameIs d.name)
  · rw [Bool.not_false, decide_eq_true_eq]
    refine NoneTo.hit (y := d) (fun j y hj hy => ?_) (by simp) (by simp [nameIs])
    rw [List.getElem?_append_left hj] at hy
    rw [List.any_eq_false] at h
    simpa using h y (mem_of_get hy)
  · rw [Bool.not_true, decide_eq_false_iff_not]
    intro h2
    obtain ⟨y, _, _, h3⟩ := idx_spec h2
    obtain ⟨z, hz, hp⟩ := List.any_eq_true.1 h
    obtain ⟨j, hj, rfl⟩ := List.getElem_of_mem hz
    have := h3 j _ hj (by rw [List.getElem?_append_left hj]; exact List.getElem?_eq_getElem hj)
    rw [hp] at this
    cases this
theorem demsBy_eq : ∀ (r done : List DemD), demsBy (done ++ r) done.length r = demsFrom done r := by
  intro r
  induction r with
  | nil => intro done; rfl
  | cons d r ih =>
    intro done
    have h := ih (done ++ [d])
    rw [List.append_assoc, List.singleton_append, List.length_append, List.length_singleton] at h
    rw [demsBy, demsFrom, idx_mid, h, demOk]
    cases isName d.name <;> cases boxOk d.zone <;> cases stepsOk d.steps <;> cases done.any (nameIs d.name) <;> rfl
theorem demsOk_ref (l : List DemD) : demsOk l = (decide (l.length ≤ 20) && demsBy l 0 l) := by
  rw [demsOk, ← demsBy_eq l []]
  rfl
/-- A lap beside those ahead of it. -/
def lapNew (done : List JoinD) (j : JoinD) : Bool := !done.any fun i => decide (i.first = j.first) || decide (i.second = j.second)
def lapsBy (ms : List (Option BoxD)) : List JoinD → List JoinD → Bool
  | _, [] => true
  | done, j :: r => lapsFit ms j && lapNew done j && lapsBy ms (done ++ [j]) r
theorem lapNew_eq (done : List JoinD) (f s : List Int) (j : JoinD) (hf : ∀ n, n ∈ f ↔ ∃ i ∈ done, i.first = n) (hs : ∀ n, n ∈ s ↔ ∃ i ∈ done, i.second = n) : lapNew done j = (!f.contains j.first && !s.contains j.second) := by
  have h1 : (f.contains j.first || s.contains j.second) = done.any fun i => decide (i.first = j.first) || decide (i.second = j.second) := by
    rw [Bool.eq_iff_iff, Bool.or_eq_true, List.contains_iff_mem, List.contains_iff_mem, hf, hs, List.any_eq_true]
    simp only [Bool.or_eq_true, decide_eq_true_eq]
    constructor
    · rintro (⟨i, h1, h2⟩ | ⟨i, h1, h2⟩)
      · exact ⟨i, h1, .inl h2⟩
      · exact ⟨i, h1, .inr h2⟩
    · rintro ⟨i, h1, h2 | h2⟩
      · exact .inl ⟨i, h1, h2⟩
      · exact .inr ⟨i, h1, h2⟩
  rw [lapNew, ← h1, Bool.not_or]
theorem lapsBy_eq (ms : List (Option BoxD)) : ∀ (r done : List JoinD) (f s : List Int), (∀ n, n ∈ f ↔ ∃ i ∈ done, i.first = n) → (∀ n, n ∈ s ↔ ∃ i ∈ done, i.second = n) → lapsBy ms done r = lapsFrom ms f s r := by
  intro r
  induction r with
  | nil => intro done f s _ _; rfl
  | cons j r ih =>
    intro done f s hf hs
    rw [lapsBy, lapsFrom, lapNew_eq done f s j hf hs, ih (done ++ [j]) (j.first :: f) (j.second :: s)]
    · cases lapsFit ms j <;> cases f.contains j.first <;> cases s.contains j.second <;> rfl
    · intro n
      rw [List.mem_cons, hf]
      simp only [List.mem_append, List.mem_singleton]
      constructor
      · rintro (rfl | ⟨i, h1, h2⟩)
        · exact ⟨j, .inr rfl, rfl⟩
        · exact ⟨i, .inl h1, h2⟩
      · rintro ⟨i, h1 | rfl, h2⟩
        · exact .inr ⟨i, h1, h2⟩
        · exact .inl h2.symm
    · intro n
      rw [List.mem_cons, hs]
      simp only [List.mem_append, List.mem_singleton]
      constructor
      · rintro (rfl | ⟨i, h1, h2⟩)
        · exact ⟨j, .inr rfl, rfl⟩
        · exact ⟨i, .inl h1, h2⟩
      · rintro ⟨i, h1 | rfl, h2⟩
        · exact .inr ⟨i, h1, h2⟩
        · exact .inl h2.symm
theorem detOk_ref (x : DetD) : detOk x = (memOk x.mem && laidOk x.bars x.runs && demsOk x.dems && ruleOk x.rule && decide (x.laps.length ≤ 1000) && lapsBy ((laidAll x.bars x.runs).map mainLeg) [] x.laps) := by
  rw [detOk, detHead, lapsBy_eq _ x.laps [] [] [] (by simp) (by simp)]
end Go.Proofs.YtpmipoljnchheaaGreat
namespace Go.Proofs.YtpmipoljnchheaaGreat
open Go.RowKit

set_option maxHeartbeats 4000000 in
theorem refMember_any (m : MemD) (A1 A2 : Option Addr) (n1 n2 c1 c2 : Nat) (w : World) {B : Nat} (h1 : BoxesAt w B A1 m.boxes) (h2 : BoxesAt w B A2 m.holes) (hB : B ≤ w.heap.size) (l1 : n1 = m.boxes.length) (l2 : n2 = m.holes.length) (hnm : m.name.size ≤ maxLen) :
    Calls Tryz.prog 41 #[.agg #[.string m.name, .slice A1 n1 c1, .slice A2 n2 c2, .int .i64 m.cover, .int .i64 m.aggregate, .int .i64 m.poker]] w fun e w' => e = .returned (.bool (memOk m)) ∧ Below w.heap.size w w' := by
  have HI := hide (fun (W : World) => refIsName_any m.name W hnm)
  have HS := hide (fun (W : World) (hz : Below w.heap.size w W) => refSolid_any m.boxes m.holes A1 A2 n1 n2 c1 c2 W (h1.carry (Flat.carried _) (hz.mono hB) (Nat.le_refl _)) (h2.carry (Flat.carried _) (hz.mono hB) (Nat.le_refl _)) (Nat.le_trans hB hz.size) l1 l2)
  have hr : memOk m = (isName m.name && (solidOk m.boxes m.holes && (decide (0 ≤ m.cover) && (decide (m.cover ≤ 200) && (decide (1 ≤ m.aggregate) && (decide (m.aggregate ≤ 100) && (decide (1 ≤ m.poker) && decide (m.poker ≤ 200)))))))) := by
    simp only [memOk, within, Bool.and_assoc]
  rw [hr]
  clear hr h1 h2 l1 l2 hB hnm
  generalize isName m.name = a1 at *
  generalize solidOk m.boxes m.holes = a2 at *
  obtain ⟨name, boxes, holes, cover, agg, poker⟩ := m
  simp only at HI HS ⊢
  have K0 := hide (Blk.new w 26 #[.string name, .slice A1 n1 c1, .slice A2 n2 c2, .int .i64 cover, .int .i64 agg, .int .i64 poker])
  have HW := hide (below_new w (.cells #[.string name, .slice A1 n1 c1, .slice A2 n2 c2, .int .i64 cover, .int .i64 agg, .int .i64 poker] 26))
  go_enter Tryz.func41, Tryz.ntmps41
  go_wp2_with fail
  refine (HI.out _).mono ?_
  rintro e w1 ⟨rfl, rfl⟩
  cases a1
  · go_wp2_with fail
    go_ret
    exact ⟨rfl, HW.out⟩
  go_wp2_with fail
  refine (HS.out _ HW.out).mono ?_
  rintro e w1 ⟨rfl, hb⟩
  have K0 := hide (K0.out.keep hb)
  have HW := hide (below_step HW.out hb (Nat.le_refl _))
  clear hb HS HI
  have e3 := K0.out.cell 3
  have e4 := K0.out.cell 4
  have e5 := K0.out.cell 5
  simp at e3 e4 e5
  have lk := K0.out.lt
  cases a2
  · go_wp2_with fail
    go_ret
    exact ⟨rfl, HW.out⟩
  cases q0 : decide (0 ≤ cover)
  · go_wp2_with fail
    go_ret
    exact ⟨ret_bool (by first | rfl | (rw [q0]; rfl) | (rw [q0, q1]; rfl) | (rw [q0, q1, q2]; rfl) | (rw [q0, q1, q2, q3]; rfl) | (rw [q0, q1, q2, q3, q4]; rfl) | (rw [q0, q1, q2, q3, q4, q5]; rfl)), HW.out⟩
  cases q1 : decide (cover ≤ 200)
  · go_wp2_with fail
    go_ret
    exact ⟨ret_bool (by first | rfl | (rw [q0]; rfl) | (rw [q0, q1]; rfl) | (rw [q0, q1, q2]; rfl) | (rw [q0, q1, q2, q3]; rfl) | (rw [q0, q1, q2, q3, q4]; rfl) | (rw [q0, q1, q2, q3, q4, q5]; rfl)), HW.out⟩
  cases q2 : decide (1 ≤ agg)
  · go_wp2_with fail
    go_ret
    exact ⟨ret_bool (by first | rfl | (rw [q0]; rfl) | (rw [q0, q1]; rfl) | (rw [q0, q1, q2]; rfl) | (rw [q0, q1, q2, q3]; rfl) | (rw [q0, q1, q2, q3, q4]; rfl) | (rw [q0, q1, q2, q3, q4, q5]; rfl)), HW.out⟩
  cases q3 : decide (agg ≤ 100)
  · go_wp2_with fail
    go_ret
    exact ⟨ret_bool (by first | rfl | (rw [q0]; rfl) | (rw [q0, q1]; rfl) | (rw [q0, q1, q2]; rfl) | (rw [q0, q1, q2, q3]; rfl) | (rw [q0, q1, q2, q3, q4]; rfl) | (rw [q0, q1, q2, q3, q4, q5]; rfl)), HW.out⟩
  cases q4 : decide (1 ≤ poker)
  · go_wp2_with fail
    go_ret
    exact ⟨ret_bool (by first | rfl | (rw [q0]; rfl) | (rw [q0, q1]; rfl) | (rw [q0, q1, q2]; rfl) | (rw [q0, q1, q2, q3]; rfl) | (rw [q0, q1, q2, q3, q4]; rfl) | (rw [q0, q1, q2, q3, q4, q5]; rfl)), HW.out⟩
  cases q5 : decide (poker ≤ 200)
  all_goals
    go_wp2_with fail
    go_ret
    exact ⟨ret_bool (by first | rfl | (rw [q0]; rfl) | (rw [q0, q1]; rfl) | (rw [q0, q1, q2]; rfl) | (rw [q0, q1, q2, q3]; rfl) | (rw [q0, q1, q2, q3, q4]; rfl) | (rw [q0, q1, q2, q3, q4, q5]; rfl)), HW.out⟩
theorem nears_at {l : List Pt} {k : Nat} {x : Pt} (h : l[k]? = some x) : (l.drop k).all (nearBy 1048576) = (nearBy 1048576 x && (l.drop (k + 1)).all (nearBy 1048576)) := all_at h
set_option maxHeartbeats 1000000 in
theorem refNears_any (A : Option Addr) (l : List Pt) (n c : Nat) (w : World) {B : Nat} (h : PtsAt w B A l) (hB : B ≤ w.heap.size) (hn : n = l.length) (hm : n ≤ 60000) :
    Calls Tryz.prog 106 #[.slice A n c] w fun e w' => e = .returned (.bool (l.all (nearBy 1048576))) ∧ Below w.heap.size w w' := by
  have hn' := hide hn
  have Hs := hide h
  have hr := hide (show l.all (nearBy 1048576) = (l.drop 0).all (nearBy 1048576) from rfl)
  clear hn h
  go_enter Tryz.func106, Tryz.ntmps106
  go_wp2_with fail
  go_loopw [3] (fun i wr => ∃ k : Nat, k ≤ n ∧ i = .int .i64 k ∧ Hid ((l.drop 0).all (nearBy 1048576) = (l.drop k).all (nearBy 1048576)) ∧ Below w.heap.size w wr) (fun i _ => n - (intOf i).toNat)
  case atStart => exact ⟨0, Nat.zero_le _, rfl, hide rfl, Below.refl _ _⟩
  case round =>
    obtain ⟨k, hk, rfl, hq, hbr⟩ := hrel
    by_cases hlt : k < n
    · obtain ⟨b, off, x, rfl, hbl, hx, f0, f1, f2⟩ := PtsAt.get (k := k) (Hs.out.carry (Flat.carried _) (hbr.mono hB) (Nat.le_refl _)) (by rw [← hn'.out]; exact hlt)
      have Hq := hide (hq.out.trans (nears_at hx))
      have HT := hide (fun W => refNear_any x W)
      generalize nearBy 1048576 x = a at *
      obtain ⟨x1, x2, x3⟩ := x
      simp only [ptA] at f0 f1 f2 HT
      have Hbr := hide hbr
      clear hx hbl hq hbr
      go_wp2_with fail
      refine (HT.out _).mono ?_
      rintro e w1 ⟨rfl, hb⟩
      have Hbr := hide (below_step Hbr.out hb (Nat.le_refl _))
      clear hb HT f0 f1 f2
      cases a
      · go_wp2_with fail
        go_ret
        exact ⟨ret_bool (by rw [hr.out, Hq.out]; rfl), Hbr.out⟩
      · go_wp2_with fail
        go_roundw
        case rel => exact ⟨k + 1, by omega, by go_num, hide (by rw [Hq.out]; rfl), Hbr.out⟩
        case measure => simp [intOf]; omega
    · obtain rfl : k = n := by omega
      go_wp2_with fail
      go_ret
      exact ⟨ret_bool (by rw [hr.out, hq.out, List.drop_of_length_le (by rw [← hn'.out]; exact Nat.le_refl _)]; rfl), hbr⟩
set_option maxHeartbeats 1000000 in
theorem refMain_any (b : BoxD) (w : World) :
    Calls Tryz.prog 156 #[bxV b] w fun e w' => e = .returned (.bool (isMain b)) ∧ Below w.heap.size w w' := by
  obtain ⟨⟨x1, x2, x3⟩, x4, x5, x6⟩ := b
  have hr : isMain ⟨(x1, x2, x3), (x4, x5, x6)⟩ = (decide (x1 < x4) && (decide (x2 = x5) && decide (x3 = x6))) := by simp only [isMain, Bool.and_assoc]
  have h1 : (x2 == x5) = decide (x2 = x5) := rfl
  have h2 : (x3 == x6) = decide (x3 = x6) := rfl
  rw [hr]
  clear hr
  cases q0 : decide (x1 < x4)
  · clear h1 h2
    go_enter Tryz.func156, Tryz.ntmps156
    go_wp2_with fail
    go_ret
    exact ⟨rfl, below_new _ _⟩
  cases q1 : decide (x2 = x5)
  · rw [q1] at h1
    clear h2
    go_enter Tryz.func156, Tryz.ntmps156
    go_wp2_with fail
    go_ret
    exact ⟨rfl, below_new _ _⟩
  cases q2 : decide (x3 = x6)
  all_goals
    rw [q1] at h1
    rw [q2] at h2
    go_enter Tryz.func156, Tryz.ntmps156
    go_wp2_with fail
    go_ret
    exact ⟨rfl, below_new _ _⟩
set_option maxHeartbeats 1000000 in
theorem refMainLeg_any (A : Option Addr) (l : List BoxD) (n c : Nat) (w : World) {B : Nat} (h : BoxesAt w B A l) (hB : B ≤ w.heap.size) (hn : n = l.length) (hm : n ≤ 60000) :
    Calls Tryz.prog 112 #[.slice A n c] w fun e w' => e = .returned (.int .i64 (idx isMain l)) ∧ Below w.heap.size w w' := by
  have hn' := hide hn
  have Hs := hide h
  clear hn h
  go_enter Tryz.func112, Tryz.ntmps112
  go_wp2_with fail
  go_loopw [3] (fun i wr => ∃ k : Nat, k ≤ n ∧ i = .int .i64 k ∧ NoneTo isMain l k ∧ Below w.heap.size w wr) (fun i _ => n - (intOf i).toNat)
  case atStart => exact ⟨0, Nat.zero_le _, rfl, NoneTo.zero _ _, Below.refl _ _⟩
  case round =>
    obtain ⟨k, hk, rfl, hq, hbr⟩ := hrel
    by_cases hlt : k < n
    · obtain ⟨b, off, x, rfl, hbl, hx, f0, f1, f2, f3, f4, f5⟩ := BoxesAt.get (k := k) (Hs.out.carry (Flat.carried _) (hbr.mono hB) (Nat.le_refl _)) (by rw [← hn'.out]; exact hlt)
      have Hx := hide hx
      have HT := hide (fun W => refMain_any x W)
      obtain ⟨a, ha⟩ : ∃ a, a = isMain x := ⟨_, rfl⟩
      rw [← ha] at HT
      have Ha := hide ha.symm
      obtain ⟨⟨x1, x2, x3⟩, x4, x5, x6⟩ := x
      simp only [bxV] at f0 f1 f2 f3 f4 f5 HT
      have Hbr := hide hbr
      clear hx hbl hbr ha
      go_wp2_with fail
      refine (HT.out _).mono ?_
      rintro e w1 ⟨rfl, hb⟩
      have Hbr := hide (below_step Hbr.out hb (Nat.le_refl _))
      clear hb HT f0 f1 f2 f3 f4 f5
      cases a
      · go_wp2_with fail
        go_roundw
        case rel => exact ⟨k + 1, by omega, by go_num, hq.succ Hx.out Ha.out, Hbr.out⟩
        case measure => simp [intOf]; omega
      · go_wp2_with fail
        go_ret
        exact ⟨ret_int (hq.hit Hx.out Ha.out).symm, Hbr.out⟩
    · obtain rfl : k = n := by omega
      go_wp2_with fail
      go_ret
      exact ⟨ret_int (NoneTo.miss (by rw [← hn'.out]; exact hq)).symm, hbr⟩
end Go.Proofs.YtpmipoljnchheaaGreat
namespace Go.Proofs.YtpmipoljnchheaaGreat
open Go.RowKit

theorem near_image {x y : Int} {p : Pt} (h : turnOk x y = true) (hp : nearBy 524288 p = true) : nearBy 1048576 p = true ∧ nearBy 2097152 (imgV x y p) = true :=
  ⟨nearBy_mono hp (by omega), nearBy_mono (img_range h hp (by omega)) (by omega)⟩
theorem ptsOf_len (x : BarD) (r : RunD) (k : Int) : (ptsOf x r k).length = (pathOf x).length := by rw [ptsOf_eq, List.length_map]
theorem ptsOf_at {x : BarD} {r : RunD} {k : Int} {j : Nat} {p : Pt} (h : (pathOf x)[j]? = some p) : (ptsOf x r k)[j]? = some (addP (addP r.place (mulP k r.step)) (imgV r.tx r.ty p)) := by
  rw [ptsOf_eq, List.getElem?_map, h]; rfl
theorem row_cap {α : Type} {w : World} {base size n c : Nat} {e : TypeId} {enc : α → List Value} {A : Option Addr} {l : List α} (h : Row w base e size enc (.slice A n c) l) : l.length ≤ c := by
  rcases h.2 with ⟨hv, h0⟩ | ⟨g, cap, cur, hv, _, _, hnc, _⟩
  · omega
  · injection hv with _ _ h3
    omega
set_option maxHeartbeats 8000000 in
set_option maxRecDepth 100000 in
theorem refPoints_ok (x : BarD) (A : Option Addr) (c : Nat) (r : RunD) (k : Int) (w : World) {B : Nat} (hA : Ints w B A x.dims) (hB : B ≤ w.heap.size) (hok : barOk x = true) (ht : turnOk r.tx r.ty = true) (hpl : nearBy 1048576 r.place = true) (hk : 0 ≤ k) (hst : nearBy 4294967296 (mulP k r.step) = true) :
    Calls Tryz.prog 107 #[.agg #[.string x.mark, .int .i64 x.size, .int .i64 x.count, .int .i64 x.code, .slice A x.dims.length c], runV r, .int .i64 k] w fun e w' =>
      ∃ A' c', e = .returned (.slice A' (ptsOf x r k).length c') ∧ PtsAt w' w'.heap.size A' (ptsOf x r k) ∧ (ptsOf x r k).length ≤ c' ∧ Below w.heap.size w w' := by
  have Hnear := hide (path_near hok)
  have Htu := hide ht
  have HN0 := hide (pathOf_len x)
  have hle := legsOf_len x.code
  have HPT0 := hide (fun (j : Nat) (p : Pt) (h : (pathOf x)[j]? = some p) => ptsOf_at (r := r) (k := k) h)
  have HPl0 := hide (ptsOf_len x r k)
  have Hna0 := hide (nearBy_mono (near_add hpl hst) (show (1048576 + 4294967296 : Int) ≤ 1099511627776 by omega))
  have Hplus := hide (fun (W : World) => refPlus_any r.place (mulP k r.step) W (nearBy_mono hpl (by omega)) (nearBy_mono hst (by omega)))
  have Htim := hide (fun (W : World) => refTimes16_any k r.step W (nearBy_mono hst (by omega)))
  have hbo := fun o o' => ((Below.refl B w).alloc hB o).alloc (le_alloc hB o) o'
  have HM := hide (refPath_ok x A c _ (hA.carry (hbo (.cells #[.string x.mark, .int .i64 x.size, .int .i64 x.count, .int .i64 x.code, .slice A x.dims.length c] 65) (.cells #[.string r.mark, .int .i64 r.tx, .int .i64 r.ty, .int .i64 r.place.1, .int .i64 r.place.2.1, .int .i64 r.place.2.2, .int .i64 r.step.1, .int .i64 r.step.2.1, .int .i64 r.step.2.2, .int .i64 r.count] 79)) (Nat.le_refl _)) (le_alloc (le_alloc hB _) _) hok)
  have HW := hide (below_new2 w (.cells #[.string x.mark, .int .i64 x.size, .int .i64 x.count, .int .i64 x.code, .slice A x.dims.length c] 65) (.cells #[.string r.mark, .int .i64 r.tx, .int .i64 r.ty, .int .i64 r.place.1, .int .i64 r.place.2.1, .int .i64 r.place.2.2, .int .i64 r.step.1, .int .i64 r.step.2.1, .int .i64 r.step.2.2, .int .i64 r.count] 79))
  have KRn := hide (Blk.new1 w (.cells #[.string x.mark, .int .i64 x.size, .int .i64 x.count, .int .i64 x.code, .slice A x.dims.length c] 65) 79 #[.string r.mark, .int .i64 r.tx, .int .i64 r.ty, .int .i64 r.place.1, .int .i64 r.place.2.1, .int .i64 r.place.2.2, .int .i64 r.step.1, .int .i64 r.step.2.1, .int .i64 r.step.2.2, .int .i64 r.count])
  clear hA hB hok ht hbo
  obtain ⟨mark, tx, ty, ⟨q1, q2, q3⟩, ⟨s1, s2, s3⟩, cnt⟩ := r
  obtain ⟨PT, hPT⟩ : ∃ PT, PT = ptsOf x ⟨mark, tx, ty, (q1, q2, q3), (s1, s2, s3), cnt⟩ k := ⟨_, rfl⟩
  obtain ⟨n, hn⟩ : ∃ n, n = (pathOf x).length := ⟨_, rfl⟩
  simp only at HPT0 HPl0 Hna0 Hplus Htim HM HW KRn Htu
  rw [← hPT] at HPT0 HPl0 ⊢
  rw [← hn] at HN0 HPl0 HM
  rw [HPl0.out]
  have HN := hide hn
  have hn7 : n ≤ 7 := by rw [HN0.out]; omega
  clear hPT hn HN0 hpl hst
  go_enter Tryz.func107, Tryz.ntmps107
  go_wp2_with fail
  refine HM.out.mono ?_
  rintro e w1 ⟨A1, c1, rfl, hp1, hb1⟩
  have KRn := hide (KRn.out.keep hb1)
  have HW1 := hide (below_step HW.out hb1 (Nat.le_refl _))
  have HPath := hide hp1
  clear hb1 hp1 HM HW
  have lrn := KRn.out.lt
  by_cases hk0 : 0 < k
  case neg =>
    obtain rfl : k = 0 := by omega
    have hz : addP (q1, q2, q3) (mulP 0 (s1, s2, s3)) = (q1, q2, q3) := by simp [addP, mulP]
    rw [hz] at HPT0 Hna0
    obtain ⟨a1, ha1⟩ : ∃ a, a = q1 := ⟨_, rfl⟩
    obtain ⟨a2, ha2⟩ : ∃ a, a = q2 := ⟨_, rfl⟩
    obtain ⟨a3, ha3⟩ : ∃ a, a = q3 := ⟨_, rfl⟩
    have KAt := hide (Blk.new w1 44 #[.int .i64 q1, .int .i64 q2, .int .i64 q3])
    have KAt := hide (show Blk (w1.alloc (.cells #[.int .i64 q1, .int .i64 q2, .int .i64 q3] 44)) w1.heap.size 44 #[.int .i64 a1, .int .i64 a2, .int .i64 a3] by rw [ha1, ha2, ha3]; exact KAt.out)
    have HWX := hide (below_new w1 (.cells #[.int .i64 q1, .int .i64 q2, .int .i64 q3] 44))
    rw [← ha1, ← ha2, ← ha3] at HPT0 Hna0
    have HPT := HPT0
    have Hna := Hna0
    have u3 := KRn.out.cell 3
    have u4 := KRn.out.cell 4
    have u5 := KRn.out.cell 5
    simp at u3 u4 u5
    clear hz hk0 hk Hplus Htim HPT0 Hna0 ha1 ha2 ha3
    go_wp2_with fail
    go_loopw [9, 10] (fun v iv wr => ∃ j : Nat, j ≤ n ∧ iv = .int .i64 j ∧ (∃ acc : List Pt, Row wr (w1.heap.size + 1) 44 3 encPt v acc ∧ Hid (acc = PT.take j)) ∧ Hid (Blk wr w1.heap.size 44 #[.int .i64 a1, .int .i64 a2, .int .i64 a3]) ∧ Hid (Below w1.heap.size w1 wr)) (fun _ iv _ => n - (intOf iv).toNat)
    case atStart => exact ⟨0, Nat.zero_le _, rfl, ⟨[], Row.nil _ _ _ _ _, hide rfl⟩, KAt, HWX⟩
    case round =>
      obtain ⟨j, hj, rfl, ⟨acc, hrow, hacc⟩, hK, hbr⟩ := hrel
      obtain ⟨A0, c0, rfl⟩ := hrow.val
      have hbs := hbr.out.size
      have hbase : w1.heap.size + 1 ≤ wr.heap.size := hK.out.lt
      by_cases hlt : j < n
      · obtain ⟨b, off, pj, hAe, hbl, hx, g0, g1, g2⟩ := PtsAt.get (k := j) (HPath.out.carry (Flat.carried _) hbr.out (Nat.le_refl w1.heap.size)) (by rw [← HN.out]; exact hlt)
        subst hAe
        have hni := near_image Htu.out (Hnear.out _ (mem_of_get hx))
        have HIm := hide (fun (W : World) => refImage_any tx ty pj W Htu.out hni.1)
        have HPl := hide (fun (W : World) => refPlus_any (a1, a2, a3) (imgV tx ty pj) W Hna.out (nearBy_mono hni.2 (by omega)))
        have HQ := hide (HPT.out j pj hx)
        obtain ⟨im, him⟩ : ∃ im, im = imgV tx ty pj := ⟨_, rfl⟩
        rw [← him] at HIm HPl HQ
        obtain ⟨pj1, pj2, pj3⟩ := pj
        obtain ⟨im1, im2, im3⟩ := im
        simp only [ptA, addP] at HIm HPl HQ g0 g1 g2
        have hal : acc.length ≤ 1000 := by rw [hacc.out, List.length_take]; omega
        have Htk := hide (show PT.take (j + 1) = acc ++ [(a1 + im1, a2 + im2, a3 + im3)] by rw [take_snoc' HQ.out, hacc.out])
        have krn := KRn.out.below hbr.out lrn
        have t1 := krn.cell 1
        have t2 := krn.cell 2
        have e0 := hK.out.cell 0
        have e1 := hK.out.cell 1
        have e2 := hK.out.cell 2
        simp at t1 t2 e0 e1 e2
        have hbl1 : b < w1.heap.size := hbl
        have l1 := krn.lt
        have l2 := hK.out.lt
        have l3 : b < wr.heap.size := Nat.lt_of_lt_of_le hbl hbs
        have ColS := hide (fun (W : World) (h : Below (w1.heap.size + 1) wr W) => show W.cell? ⟨w1.heap.size, 0, none⟩ = some (.int .i64 a1) ∧ W.cell? ⟨w1.heap.size, 1, none⟩ = some (.int .i64 a2) ∧ W.cell? ⟨w1.heap.size, 2, none⟩ = some (.int .i64 a3) ∧ W.cell? ⟨w.heap.size + 1, 1, none⟩ = some (.int .i64 tx) ∧ W.cell? ⟨w.heap.size + 1, 2, none⟩ = some (.int .i64 ty) ∧ W.cell? ⟨b, off + j * 3, none⟩ = some (.int .i64 pj1) ∧ W.cell? ⟨b, off + j * 3 + 1, none⟩ = some (.int .i64 pj2) ∧ W.cell? ⟨b, off + j * 3 + 2, none⟩ = some (.int .i64 pj3) ∧ Below (w1.heap.size + 1) wr W from
          ⟨(h.cell (p := ⟨w1.heap.size, 0, none⟩) (Nat.lt_succ_self _)).trans e0, (h.cell (p := ⟨w1.heap.size, 1, none⟩) (Nat.lt_succ_self _)).trans e1, (h.cell (p := ⟨w1.heap.size, 2, none⟩) (Nat.lt_succ_self _)).trans e2, (h.cell (p := ⟨w.heap.size + 1, 1, none⟩) (Nat.lt_succ_of_lt lrn)).trans t1, (h.cell (p := ⟨w.heap.size + 1, 2, none⟩) (Nat.lt_succ_of_lt lrn)).trans t2, (h.cell (p := ⟨b, off + j * 3, none⟩) (Nat.lt_succ_of_lt hbl1)).trans g0, (h.cell (p := ⟨b, off + j * 3 + 1, none⟩) (Nat.lt_succ_of_lt hbl1)).trans g1, (h.cell (p := ⟨b, off + j * 3 + 2, none⟩) (Nat.lt_succ_of_lt hbl1)).trans g2, h⟩)
        have Hrow := hide hrow
        have hS0 := ColS.out _ (Below.drew (Below.refl (w1.heap.size + 1) wr))
        have hB0 := Below.drew (Below.refl wr.heap.size wr)
        clear hrow hx hbl him hni krn
        go_wp2_with fail
        go_region_held3 (fun W => W.cell? ⟨w1.heap.size, 0, none⟩ = some (.int .i64 a1) ∧ W.cell? ⟨w1.heap.size, 1, none⟩ = some (.int .i64 a2) ∧ W.cell? ⟨w1.heap.size, 2, none⟩ = some (.int .i64 a3) ∧ W.cell? ⟨w.heap.size + 1, 1, none⟩ = some (.int .i64 tx) ∧ W.cell? ⟨w.heap.size + 1, 2, none⟩ = some (.int .i64 ty) ∧ W.cell? ⟨b, off + j * 3, none⟩ = some (.int .i64 pj1) ∧ W.cell? ⟨b, off + j * 3 + 1, none⟩ = some (.int .i64 pj2) ∧ W.cell? ⟨b, off + j * 3 + 2, none⟩ = some (.int .i64 pj3) ∧ Below (w1.heap.size + 1) wr W)
          (first
            | (with_reducible assumption)
            | (refine ColS.out _ (Below.alloc (Below.mono hB hbase) (Nat.le_trans hbase hB.size) _))
            | (refine ColS.out _ (Below.trans (Below.alloc (Below.mono hB hbase) (Nat.le_trans hbase hB.size) _) hb5))
            | go_keep)
          (first
            | (go_at_call 155; (with_reducible refine (HIm.out _).mono ?_); rintro e wz ⟨rfl, hbz⟩; have hB := below_step (by assumption) hbz (Nat.le_refl wr.heap.size); have hS2 := ColS.out _ (Below.mono hB hbase))
            | (go_at_call 153; (with_reducible refine (HPl.out _).mono ?_); rintro e wz ⟨rfl, hbz⟩; have hB := below_step (by assumption) hbz (Nat.le_refl wr.heap.size); have hS2 := ColS.out _ (Below.mono hB hbase))
            | (refine step_append1 (by rfl) (.tmp 29) (.tmp 39) 74 (by rfl) (w1.heap.size + 1) 44 (.agg #[.int .i64 0, .int .i64 0, .int .i64 0]) 3 24 encPt Tryz.underlying74 (by kernel_rfl) rfl (by omega) encPt_len encPt_one _ acc (a1 + im1, a2 + im2, a3 + im3) (by rfl) ((Hrow.out.keep hB).alloc _) _ (by rfl) (Blk.new _ _ _) (by omega) (by omega) (le_alloc (Nat.le_trans hbase hB.size) _) ?_; intro A1 c1 w5 hrow5 hb5 hkeep5))
        go_goals
        have hN5 := hide (((hK.out.keep hB).alloc (.cells #[.int .i64 (a1 + im1), .int .i64 (a2 + im2), .int .i64 (a3 + im3)] 44)).below hb5 (Nat.lt_succ_self _))
        have h1 := hbr.out.trans (hB.mono hbs)
        have hB5 := hide ((h1.alloc h1.size (.cells #[.int .i64 (a1 + im1), .int .i64 (a2 + im2), .int .i64 (a3 + im3)] 44)).trans (hb5.mono (Nat.le_succ _)))
        have hrow6 := hide hrow5
        clear hrow5 hkeep5 hb5 h1
        go_wp2_with fail
        go_roundw
        case rel => exact ⟨j + 1, by omega, by go_num, ⟨acc ++ [(a1 + im1, a2 + im2, a3 + im3)], by simpa using hrow6.out, hide Htk.out.symm⟩, hN5, hB5⟩
        case measure => simp [intOf]; omega
      · obtain rfl : j = n := by omega
        have hf : acc = PT := by rw [hacc.out]; exact List.take_of_length_le (by rw [HPl0.out]; exact Nat.le_refl _)
        have hlen := hide (show j = acc.length by rw [hf, HPl0.out])
        have Hr := hide (show PtsAt wr wr.heap.size A0 PT by rw [← hf]; exact Row.read hrow encPt_len (by omega))
        have Hcp := hide (show j ≤ c0 by rw [hlen.out]; exact row_cap hrow)
        have Hb := hide (below_step HW1.out hbr.out (Nat.le_refl _))
        clear hf hacc hrow
        generalize acc.length = m at *
        go_wp2_with fail
        go_ret
        exact ⟨A0, c0, by rw [hlen.out]; rfl, Hr.out, Hcp.out, Hb.out⟩
  case pos =>
    have d0 : decide (0 < k) = true := by simpa using hk0
    obtain ⟨⟨m1, m2, m3⟩, hm⟩ : ∃ m : Pt, m = mulP k (s1, s2, s3) := ⟨_, rfl⟩
    rw [← hm] at Hplus Htim HPT0 Hna0
    simp only [ptA, addP] at Hplus Htim HPT0 Hna0
    obtain ⟨a1, ha1⟩ : ∃ a, a = q1 + m1 := ⟨_, rfl⟩
    obtain ⟨a2, ha2⟩ : ∃ a, a = q2 + m2 := ⟨_, rfl⟩
    obtain ⟨a3, ha3⟩ : ∃ a, a = q3 + m3 := ⟨_, rfl⟩
    rw [← ha1, ← ha2, ← ha3] at Hplus HPT0 Hna0
    have HPT := hide (fun (j : Nat) (p : Pt) (h : (pathOf x)[j]? = some p) => show PT[j]? = some (addP (a1, a2, a3) (imgV tx ty p)) from HPT0.out j p h)
    have Hna := Hna0
    obtain ⟨wX, hwX⟩ : ∃ wX, wX = w1.alloc (.cells #[.int .i64 q1, .int .i64 q2, .int .i64 q3] 44) := ⟨_, rfl⟩
    have KAt := hide (Blk.new w1 44 #[.int .i64 q1, .int .i64 q2, .int .i64 q3])
    have KR2 := hide (KRn.out.alloc (.cells #[.int .i64 q1, .int .i64 q2, .int .i64 q3] 44))
    have HWX := hide (below_new w1 (.cells #[.int .i64 q1, .int .i64 q2, .int .i64 q3] 44))
    rw [← hwX] at KAt KR2 HWX
    have u3 := KRn.out.cell 3
    have u4 := KRn.out.cell 4
    have u5 := KRn.out.cell 5
    have u6 := KRn.out.cell 6
    have u7 := KRn.out.cell 7
    have u8 := KRn.out.cell 8
    have y6 := KR2.out.cell 6
    have y7 := KR2.out.cell 7
    have y8 := KR2.out.cell 8
    have x0 := KAt.out.cell 0
    have x1 := KAt.out.cell 1
    have x2 := KAt.out.cell 2
    have z0 := KAt.out.frozen 0
    have z1 := KAt.out.frozen 1
    have z2 := KAt.out.frozen 2
    simp at u3 u4 u5 u6 u7 u8 x0 x1 x2 y6 y7 y8
    have lA := KAt.out.lt
    have lR := KR2.out.lt
    have RS := hide (fun (W : World) (h : Below wX.heap.size wX W) => show W.cell? ⟨w1.heap.size, 0, none⟩ = some (.int .i64 q1) ∧ W.cell? ⟨w1.heap.size, 1, none⟩ = some (.int .i64 q2) ∧ W.cell? ⟨w1.heap.size, 2, none⟩ = some (.int .i64 q3) ∧ W.frozen? ⟨w1.heap.size, 0, none⟩ = false ∧ W.frozen? ⟨w1.heap.size, 1, none⟩ = false ∧ W.frozen? ⟨w1.heap.size, 2, none⟩ = false from
      ⟨(h.cell (p := ⟨w1.heap.size, 0, none⟩) lA).trans x0, (h.cell (p := ⟨w1.heap.size, 1, none⟩) lA).trans x1, (h.cell (p := ⟨w1.heap.size, 2, none⟩) lA).trans x2, (h.frozen (p := ⟨w1.heap.size, 0, none⟩) lA).trans z0, (h.frozen (p := ⟨w1.heap.size, 1, none⟩) lA).trans z1, (h.frozen (p := ⟨w1.heap.size, 2, none⟩) lA).trans z2⟩)
    clear hk0 hk HPT0 Hna0 hm ha1 ha2 ha3
    go_wp2_with fail
    rw [← hwX]
    go_cut [8] from 17 (fun s8 wx => s8 = .pointer (some ⟨w1.heap.size, 0, none⟩) ∧ Hid (Blk wx w1.heap.size 44 #[.int .i64 a1, .int .i64 a2, .int .i64 a3]) ∧ Hid (Below w1.heap.size w1 wx))
    case first =>
      have HK := hide (fun (W : World) (h : Below w1.heap.size w1 W) => show W.cell? ⟨w.heap.size + 1, 6, none⟩ = some (.int .i64 s1) ∧ W.cell? ⟨w.heap.size + 1, 7, none⟩ = some (.int .i64 s2) ∧ W.cell? ⟨w.heap.size + 1, 8, none⟩ = some (.int .i64 s3) from
        ⟨(h.cell (p := ⟨w.heap.size + 1, 6, none⟩) lrn).trans u6, (h.cell (p := ⟨w.heap.size + 1, 7, none⟩) lrn).trans u7, (h.cell (p := ⟨w.heap.size + 1, 8, none⟩) lrn).trans u8⟩)
      have hB := Below.drew (Below.refl wX.heap.size wX)
      have hS := HK.out _ (Below.drew HWX.out)
      have hXs := HWX.out.size
      clear y6 y7 y8 u3 u4 u5 u6 u7 u8 hwX
      refine wp_region_held_drew (S := fun W => W.cell? ⟨w.heap.size + 1, 6, none⟩ = some (.int .i64 s1) ∧ W.cell? ⟨w.heap.size + 1, 7, none⟩ = some (.int .i64 s2) ∧ W.cell? ⟨w.heap.size + 1, 8, none⟩ = some (.int .i64 s3)) (by kernel_rfl) hS (fun hHeld => ?_)
      refine wpAnyH_take (i := 1) (v := ?_) rfl (by kernel_rfl) (by kernel_rfl) (by kernel_rfl) (fun _ _ _ h => h) (Or.inl ⟨by rfl, ?_⟩) (by assumption) ?_
      rotate_left
      · intro w hSw
        (try dsimp only at hSw)
        go_simp
        first | done | with_reducible rfl
      (try simp only [List.getElem_toArray, List.getElem_cons_succ, List.getElem_cons_zero, Act.put, List.setIfInBounds_toArray, List.set_cons_zero, List.set_cons_succ])
      refine wpAnyH_take (i := 2) (v := ?_) rfl (by kernel_rfl) (by kernel_rfl) (by kernel_rfl) (fun _ _ _ h => h) (Or.inl ⟨by rfl, ?_⟩) (by assumption) ?_
      rotate_left
      · intro w hSw
        (try dsimp only at hSw)
        go_simp
        first | done | with_reducible rfl
      (try simp only [List.getElem_toArray, List.getElem_cons_succ, List.getElem_cons_zero, Act.put, List.setIfInBounds_toArray, List.set_cons_zero, List.set_cons_succ])
      refine wpAnyH_take (i := 3) (v := ?_) rfl (by kernel_rfl) (by kernel_rfl) (by kernel_rfl) (fun _ _ _ h => h) (Or.inl ⟨by rfl, ?_⟩) (by assumption) ?_
      rotate_left
      · intro w hSw
        (try dsimp only at hSw)
        go_simp
        first | done | with_reducible rfl
      (try simp only [List.getElem_toArray, List.getElem_cons_succ, List.getElem_cons_zero, Act.put, List.setIfInBounds_toArray, List.set_cons_zero, List.set_cons_succ])
      refine wpAnyH_ready (rs := [0, 4]) (by kernel_rfl) (by simp) (AllReadyH.cons rfl (fun K hK => ?_) (AllReadyH.cons rfl (fun K hK => ?_) AllReadyH.nil))
      · skip
        go_simp
        refine hK.out _ _ hS (fun hHeld => ?_)
        clear hK K
        (try simp only [List.getElem_toArray, List.getElem_cons_succ, List.getElem_cons_zero, Act.put, List.setIfInBounds_toArray, List.set_cons_zero, List.set_cons_succ])
        refine wpAnyH_ready (rs := [4]) (by kernel_rfl) (by simp) (AllReadyH.cons rfl (fun K hK => ?_) AllReadyH.nil)
        · skip
          go_simp
          refine (Htim.out _).mono ?_
          rintro e wz ⟨rfl, hbz⟩
          have hB := below_step hB hbz (Nat.le_refl wX.heap.size)
          obtain ⟨d0, d1, d2, e0, e1, e2⟩ := RS.out _ hB
          have hS := HK.out _ (HWX.out.trans (hB.mono hXs))
          go_wp2_with fail
          refine hK.out _ _ hS (fun hHeld => ?_)
          clear hK K
          (try simp only [List.getElem_toArray, List.getElem_cons_succ, List.getElem_cons_zero, Act.put, List.setIfInBounds_toArray, List.set_cons_zero, List.set_cons_succ])
          refine wpAnyH_ready (rs := [5]) (by kernel_rfl) (by simp) (AllReadyH.cons rfl (fun K hK => ?_) AllReadyH.nil)
          · skip
            go_simp
            refine (Hplus.out _).mono ?_
            rintro e wz ⟨rfl, hbz⟩
            have hB := below_step hB hbz (Nat.le_refl wX.heap.size)
            obtain ⟨d0, d1, d2, e0, e1, e2⟩ := RS.out _ hB
            have hS := HK.out _ (HWX.out.trans (hB.mono hXs))
            go_wp2_with fail
            refine hK.out _ _ hS (fun hHeld => ?_)
            clear hK K
            (try simp only [List.getElem_toArray, List.getElem_cons_succ, List.getElem_cons_zero, Act.put, List.setIfInBounds_toArray, List.set_cons_zero, List.set_cons_succ])
            refine wpAnyH_ready (rs := [6]) (by kernel_rfl) (by simp) (AllReadyH.cons rfl (fun K hK => ?_) AllReadyH.nil)
            · skip
              go_simp
              refine hK.out _ _ (HK.out _ (below3 (g := w1.heap.size) (HWX.out.trans (hB.mono hXs)) (Nat.le_refl _) _ _ _)) (fun hHeld => ?_)
              clear hK K
              (try simp only [List.getElem_toArray, List.getElem_cons_succ, List.getElem_cons_zero, Act.put, List.setIfInBounds_toArray, List.set_cons_zero, List.set_cons_succ])
              refine wpAnyH_done (by kernel_rfl) ?_ _
              go_wp2_with fail
              go_meet
              exact ⟨rfl, hide (blk3 (KAt.out.below hB lA) _ _ _), hide (below3 (g := w1.heap.size) (HWX.out.trans (hB.mono hXs)) (Nat.le_refl _) _ _ _)⟩
      · skip
        go_simp
        refine (Htim.out _).mono ?_
        rintro e wz ⟨rfl, hbz⟩
        have hB := below_step hB hbz (Nat.le_refl wX.heap.size)
        obtain ⟨d0, d1, d2, e0, e1, e2⟩ := RS.out _ hB
        have hS := HK.out _ (HWX.out.trans (hB.mono hXs))
        go_wp2_with fail
        refine hK.out _ _ hS (fun hHeld => ?_)
        clear hK K
        (try simp only [List.getElem_toArray, List.getElem_cons_succ, List.getElem_cons_zero, Act.put, List.setIfInBounds_toArray, List.set_cons_zero, List.set_cons_succ])
        refine wpAnyH_ready (rs := [0]) (by kernel_rfl) (by simp) (AllReadyH.cons rfl (fun K hK => ?_) AllReadyH.nil)
        · skip
          go_simp
          refine hK.out _ _ hS (fun hHeld => ?_)
          clear hK K
          (try simp only [List.getElem_toArray, List.getElem_cons_succ, List.getElem_cons_zero, Act.put, List.setIfInBounds_toArray, List.set_cons_zero, List.set_cons_succ])
          refine wpAnyH_ready (rs := [5]) (by kernel_rfl) (by simp) (AllReadyH.cons rfl (fun K hK => ?_) AllReadyH.nil)
          · skip
            go_simp
            refine (Hplus.out _).mono ?_
            rintro e wz ⟨rfl, hbz⟩
            have hB := below_step hB hbz (Nat.le_refl wX.heap.size)
            obtain ⟨d0, d1, d2, e0, e1, e2⟩ := RS.out _ hB
            have hS := HK.out _ (HWX.out.trans (hB.mono hXs))
            go_wp2_with fail
            refine hK.out _ _ hS (fun hHeld => ?_)
            clear hK K
            (try simp only [List.getElem_toArray, List.getElem_cons_succ, List.getElem_cons_zero, Act.put, List.setIfInBounds_toArray, List.set_cons_zero, List.set_cons_succ])
            refine wpAnyH_ready (rs := [6]) (by kernel_rfl) (by simp) (AllReadyH.cons rfl (fun K hK => ?_) AllReadyH.nil)
            · skip
              go_simp
              refine hK.out _ _ (HK.out _ (below3 (g := w1.heap.size) (HWX.out.trans (hB.mono hXs)) (Nat.le_refl _) _ _ _)) (fun hHeld => ?_)
              clear hK K
              (try simp only [List.getElem_toArray, List.getElem_cons_succ, List.getElem_cons_zero, Act.put, List.setIfInBounds_toArray, List.set_cons_zero, List.set_cons_succ])
              refine wpAnyH_done (by kernel_rfl) ?_ _
              go_wp2_with fail
              go_meet
              exact ⟨rfl, hide (blk3 (KAt.out.below hB lA) _ _ _), hide (below3 (g := w1.heap.size) (HWX.out.trans (hB.mono hXs)) (Nat.le_refl _) _ _ _)⟩
    case rest =>
      obtain ⟨rfl, KAt', HWX'⟩ := hcut
      have KAt := KAt'
      have HWX := HWX'
      clear u3 u4 u5 u6 u7 u8 y6 y7 y8 x0 x1 x2 z0 z1 z2 lA lR RS Hplus Htim KR2 hwX
      go_wp2_with fail
      go_loopw [9, 10] (fun v iv wr => ∃ j : Nat, j ≤ n ∧ iv = .int .i64 j ∧ (∃ acc : List Pt, Row wr (w1.heap.size + 1) 44 3 encPt v acc ∧ Hid (acc = PT.take j)) ∧ Hid (Blk wr w1.heap.size 44 #[.int .i64 a1, .int .i64 a2, .int .i64 a3]) ∧ Hid (Below w1.heap.size w1 wr)) (fun _ iv _ => n - (intOf iv).toNat)
      case atStart => exact ⟨0, Nat.zero_le _, rfl, ⟨[], Row.nil _ _ _ _ _, hide rfl⟩, KAt, HWX⟩
      case round =>
        obtain ⟨j, hj, rfl, ⟨acc, hrow, hacc⟩, hK, hbr⟩ := hrel
        obtain ⟨A0, c0, rfl⟩ := hrow.val
        have hbs := hbr.out.size
        have hbase : w1.heap.size + 1 ≤ wr.heap.size := hK.out.lt
        by_cases hlt : j < n
        · obtain ⟨b, off, pj, hAe, hbl, hx, g0, g1, g2⟩ := PtsAt.get (k := j) (HPath.out.carry (Flat.carried _) hbr.out (Nat.le_refl w1.heap.size)) (by rw [← HN.out]; exact hlt)
          subst hAe
          have hni := near_image Htu.out (Hnear.out _ (mem_of_get hx))
          have HIm := hide (fun (W : World) => refImage_any tx ty pj W Htu.out hni.1)
          have HPl := hide (fun (W : World) => refPlus_any (a1, a2, a3) (imgV tx ty pj) W Hna.out (nearBy_mono hni.2 (by omega)))
          have HQ := hide (HPT.out j pj hx)
          obtain ⟨im, him⟩ : ∃ im, im = imgV tx ty pj := ⟨_, rfl⟩
          rw [← him] at HIm HPl HQ
          obtain ⟨pj1, pj2, pj3⟩ := pj
          obtain ⟨im1, im2, im3⟩ := im
          simp only [ptA, addP] at HIm HPl HQ g0 g1 g2
          have hal : acc.length ≤ 1000 := by rw [hacc.out, List.length_take]; omega
          have Htk := hide (show PT.take (j + 1) = acc ++ [(a1 + im1, a2 + im2, a3 + im3)] by rw [take_snoc' HQ.out, hacc.out])
          have krn := KRn.out.below hbr.out lrn
          have t1 := krn.cell 1
          have t2 := krn.cell 2
          have e0 := hK.out.cell 0
          have e1 := hK.out.cell 1
          have e2 := hK.out.cell 2
          simp at t1 t2 e0 e1 e2
          have hbl1 : b < w1.heap.size := hbl
          have l1 := krn.lt
          have l2 := hK.out.lt
          have l3 : b < wr.heap.size := Nat.lt_of_lt_of_le hbl hbs
          have ColS := hide (fun (W : World) (h : Below (w1.heap.size + 1) wr W) => show W.cell? ⟨w1.heap.size, 0, none⟩ = some (.int .i64 a1) ∧ W.cell? ⟨w1.heap.size, 1, none⟩ = some (.int .i64 a2) ∧ W.cell? ⟨w1.heap.size, 2, none⟩ = some (.int .i64 a3) ∧ W.cell? ⟨w.heap.size + 1, 1, none⟩ = some (.int .i64 tx) ∧ W.cell? ⟨w.heap.size + 1, 2, none⟩ = some (.int .i64 ty) ∧ W.cell? ⟨b, off + j * 3, none⟩ = some (.int .i64 pj1) ∧ W.cell? ⟨b, off + j * 3 + 1, none⟩ = some (.int .i64 pj2) ∧ W.cell? ⟨b, off + j * 3 + 2, none⟩ = some (.int .i64 pj3) ∧ Below (w1.heap.size + 1) wr W from
            ⟨(h.cell (p := ⟨w1.heap.size, 0, none⟩) (Nat.lt_succ_self _)).trans e0, (h.cell (p := ⟨w1.heap.size, 1, none⟩) (Nat.lt_succ_self _)).trans e1, (h.cell (p := ⟨w1.heap.size, 2, none⟩) (Nat.lt_succ_self _)).trans e2, (h.cell (p := ⟨w.heap.size + 1, 1, none⟩) (Nat.lt_succ_of_lt lrn)).trans t1, (h.cell (p := ⟨w.heap.size + 1, 2, none⟩) (Nat.lt_succ_of_lt lrn)).trans t2, (h.cell (p := ⟨b, off + j * 3, none⟩) (Nat.lt_succ_of_lt hbl1)).trans g0, (h.cell (p := ⟨b, off + j * 3 + 1, none⟩) (Nat.lt_succ_of_lt hbl1)).trans g1, (h.cell (p := ⟨b, off + j * 3 + 2, none⟩) (Nat.lt_succ_of_lt hbl1)).trans g2, h⟩)
          have Hrow := hide hrow
          have hS0 := ColS.out _ (Below.drew (Below.refl (w1.heap.size + 1) wr))
          have hB0 := Below.drew (Below.refl wr.heap.size wr)
          clear hrow hx hbl him hni krn
          go_wp2_with fail
          go_region_held3 (fun W => W.cell? ⟨w1.heap.size, 0, none⟩ = some (.int .i64 a1) ∧ W.cell? ⟨w1.heap.size, 1, none⟩ = some (.int .i64 a2) ∧ W.cell? ⟨w1.heap.size, 2, none⟩ = some (.int .i64 a3) ∧ W.cell? ⟨w.heap.size + 1, 1, none⟩ = some (.int .i64 tx) ∧ W.cell? ⟨w.heap.size + 1, 2, none⟩ = some (.int .i64 ty) ∧ W.cell? ⟨b, off + j * 3, none⟩ = some (.int .i64 pj1) ∧ W.cell? ⟨b, off + j * 3 + 1, none⟩ = some (.int .i64 pj2) ∧ W.cell? ⟨b, off + j * 3 + 2, none⟩ = some (.int .i64 pj3) ∧ Below (w1.heap.size + 1) wr W)
            (first
              | (with_reducible assumption)
              | (refine ColS.out _ (Below.alloc (Below.mono hB hbase) (Nat.le_trans hbase hB.size) _))
              | (refine ColS.out _ (Below.trans (Below.alloc (Below.mono hB hbase) (Nat.le_trans hbase hB.size) _) hb5))
              | go_keep)
            (first
              | (go_at_call 155; (with_reducible refine (HIm.out _).mono ?_); rintro e wz ⟨rfl, hbz⟩; have hB := below_step (by assumption) hbz (Nat.le_refl wr.heap.size); have hS2 := ColS.out _ (Below.mono hB hbase))
              | (go_at_call 153; (with_reducible refine (HPl.out _).mono ?_); rintro e wz ⟨rfl, hbz⟩; have hB := below_step (by assumption) hbz (Nat.le_refl wr.heap.size); have hS2 := ColS.out _ (Below.mono hB hbase))
              | (refine step_append1 (by rfl) (.tmp 29) (.tmp 39) 74 (by rfl) (w1.heap.size + 1) 44 (.agg #[.int .i64 0, .int .i64 0, .int .i64 0]) 3 24 encPt Tryz.underlying74 (by kernel_rfl) rfl (by omega) encPt_len encPt_one _ acc (a1 + im1, a2 + im2, a3 + im3) (by rfl) ((Hrow.out.keep hB).alloc _) _ (by rfl) (Blk.new _ _ _) (by omega) (by omega) (le_alloc (Nat.le_trans hbase hB.size) _) ?_; intro A1 c1 w5 hrow5 hb5 hkeep5))
          go_goals
          have hN5 := hide (((hK.out.keep hB).alloc (.cells #[.int .i64 (a1 + im1), .int .i64 (a2 + im2), .int .i64 (a3 + im3)] 44)).below hb5 (Nat.lt_succ_self _))
          have h1 := hbr.out.trans (hB.mono hbs)
          have hB5 := hide ((h1.alloc h1.size (.cells #[.int .i64 (a1 + im1), .int .i64 (a2 + im2), .int .i64 (a3 + im3)] 44)).trans (hb5.mono (Nat.le_succ _)))
          have hrow6 := hide hrow5
          clear hrow5 hkeep5 hb5 h1
          go_wp2_with fail
          go_roundw
          case rel => exact ⟨j + 1, by omega, by go_num, ⟨acc ++ [(a1 + im1, a2 + im2, a3 + im3)], by simpa using hrow6.out, hide Htk.out.symm⟩, hN5, hB5⟩
          case measure => simp [intOf]; omega
        · obtain rfl : j = n := by omega
          have hf : acc = PT := by rw [hacc.out]; exact List.take_of_length_le (by rw [HPl0.out]; exact Nat.le_refl _)
          have hlen := hide (show j = acc.length by rw [hf, HPl0.out])
          have Hr := hide (show PtsAt wr wr.heap.size A0 PT by rw [← hf]; exact Row.read hrow encPt_len (by omega))
          have Hcp := hide (show j ≤ c0 by rw [hlen.out]; exact row_cap hrow)
          have Hb := hide (below_step HW1.out hbr.out (Nat.le_refl _))
          clear hf hacc hrow
          generalize acc.length = m at *
          go_wp2_with fail
          go_ret
          exact ⟨A0, c0, by rw [hlen.out]; rfl, Hr.out, Hcp.out, Hb.out⟩
end Go.Proofs.YtpmipoljnchheaaGreat
namespace Go.Proofs.YtpmipoljnchheaaGreat
open Go.RowKit
attribute [local go_sem] Oper.semAt_some

/-! A list of points as the cells of a block. -/
def ptsCells (L : List Pt) : Array Value := (L.flatMap encPt).toArray
theorem ptsCells_get {L : List Pt} {m : Nat} {p : Pt} (h : L[m]? = some p) : (ptsCells L)[m * 3]? = some (.int .i64 p.1) ∧ (ptsCells L)[m * 3 + 1]? = some (.int .i64 p.2.1) ∧ (ptsCells L)[m * 3 + 2]? = some (.int .i64 p.2.2) := by
  have key := flatMap_get encPt_len L m p h
  unfold ptsCells
  simp only [List.getElem?_toArray]
  exact ⟨by simpa using key 0 _ rfl, key 1 _ rfl, key 2 _ rfl⟩
theorem flat_set : ∀ (L : List Pt) (m : Nat) (a b c : Int), m < L.length → (((L.flatMap encPt).set (m * 3) (.int .i64 a)).set (m * 3 + 1) (.int .i64 b)).set (m * 3 + 2) (.int .i64 c) = (L.set m (a, b, c)).flatMap encPt := by
  intro L
  induction L with
  | nil => intro m a b c h; simp at h
  | cons x L ih =>
    intro m a b c h
    cases m with
    | zero => simp [encPt]
    | succ m =>
      have h9 := ih m a b c (by simpa using h)
      rw [List.set_cons_succ, List.flatMap_cons, List.flatMap_cons, ← h9]
      have e1 : (m + 1) * 3 = 3 + m * 3 := by omega
      rw [e1]
      simp only [encPt, List.cons_append, List.nil_append]
      rw [show 3 + m * 3 + 2 = m * 3 + 2 + 1 + 1 + 1 by omega, show 3 + m * 3 + 1 = m * 3 + 1 + 1 + 1 + 1 by omega, show 3 + m * 3 = m * 3 + 1 + 1 + 1 by omega]
      simp only [List.set_cons_succ]
theorem ptsCells_set {L : List Pt} {m : Nat} (h : m < L.length) (a b c : Int) : (((ptsCells L).setIfInBounds (m * 3) (.int .i64 a)).setIfInBounds (m * 3 + 1) (.int .i64 b)).setIfInBounds (m * 3 + 2) (.int .i64 c) = ptsCells (L.set m (a, b, c)) := by
  unfold ptsCells
  rw [← flat_set L m a b c h]
  simp only [List.setIfInBounds_toArray]
theorem made_pts (n : Nat) : madeCells #[.int .i64 0, .int .i64 0, .int .i64 0] (n * 3) = ptsCells (List.replicate n (0, 0, 0)) := by
  have h1 : ∀ k, (List.replicate k ((0, 0, 0) : Pt)).flatMap encPt = List.replicate (k * 3) (Value.int .i64 0) := by
    intro k
    induction k with
    | zero => rfl
    | succ k ih => rw [List.replicate_succ, List.flatMap_cons, ih, show (k + 1) * 3 = k * 3 + 1 + 1 + 1 by omega]; rfl
  unfold ptsCells
  rw [h1]
  apply Array.ext
  · simp [size_madeCells]
  · intro i hi _
    simp only [madeCells, Array.getElem_map, List.getElem_toArray, List.getElem_replicate]
    have : i % 3 < 3 := Nat.mod_lt _ (by omega)
    simp only [Array.getElem_range, List.size_toArray, List.length_cons, List.length_nil]
    rcases (show i % 3 = 0 ∨ i % 3 = 1 ∨ i % 3 = 2 by omega) with h | h | h <;> rw [h] <;> rfl
/-- The first m points final, the others as they were made. -/
def fillTo (F : List Pt) (n m : Nat) : List Pt := F.take m ++ List.replicate (n - m) (0, 0, 0)
theorem fillTo_len {F : List Pt} {n m : Nat} (h : F.length = n) (hm : m ≤ n) : (fillTo F n m).length = n := by simp [fillTo, h]; omega
theorem fillTo_zero (F : List Pt) (n : Nat) : fillTo F n 0 = List.replicate n (0, 0, 0) := by simp [fillTo]
theorem fillTo_all {F : List Pt} {n : Nat} (h : F.length = n) : fillTo F n n = F := by simp [fillTo, ← h]
theorem fillTo_set {F : List Pt} {n m : Nat} {p : Pt} (h : F.length = n) (hp : F[m]? = some p) : (fillTo F n m).set m p = fillTo F n (m + 1) := by
  have hm := lt_of_get hp
  unfold fillTo
  rw [take_snoc' hp, List.set_append_right _ _ (by simp; omega)]
  have e1 : m - (F.take m).length = 0 := by simp; omega
  rw [e1]
  obtain ⟨d, hd⟩ : ∃ d, n - m = d + 1 := ⟨n - m - 1, by omega⟩
  rw [hd, List.replicate_succ, List.set_cons_zero, show n - (m + 1) = d by omega]
  simp
theorem set_set {L : List Pt} {m : Nat} (p q : Pt) : (L.set m p).set m q = L.set m q := by simp

/-! What a round of the loop keeps: but for the loop's own record all lies as it lay. -/
theorem cell_round {W W' : World} {l : Nat} {o : Obj} (hg : W.grownBy W' (some l)) (hl : W.heap[l]? = some o) (ho : o.isCells = false) {a : Addr} {v : Value} (h : W.cell? a = some v) : W'.cell? a = some v :=
  cell_kept h hg (fun r e => by cases e; exact ⟨o, hl, ho⟩)
theorem SlOf.round {α : Type} {enc : α → List Value} {size B : Nat} {A : Option Addr} {L : List α} {W W' : World} {l : Nat} {o : Obj} (h : SlOf W B size (Flat enc) A L) (hg : W.grownBy W' (some l)) (hl : W.heap[l]? = some o) (ho : o.isCells = false) : SlOf W' B size (Flat enc) A L := by
  intro hn
  obtain ⟨b, off, hA, hb, hc⟩ := h hn
  refine ⟨b, off, hA, hb, fun k x hx => ?_⟩
  obtain ⟨vs, hs, hr, hv⟩ := hc k x hx
  exact ⟨vs, hs, hr, fun j v hj => cell_round hg hl ho (hv j v hj)⟩
theorem Blk.round {W W' : World} {l g : Nat} {t : TypeId} {cs : Array Value} {o : Obj} (h : Blk W g t cs) (hg : W.grownBy W' (some l)) (hl : W.heap[l]? = some o) (ho : o.isCells = false) : Blk W' g t cs :=
  h.grown hg (by intro e; cases e; unfold Blk at h; rw [hl] at h; injection h with h; rw [h] at ho; cases ho)
theorem infoPt : (Tryz.prog.info? 44).map (fun i => (i.zero, i.size, i.bytes)) = some (some (.agg #[.int .i64 0, .int .i64 0, .int .i64 0]), 3, 24) := by kernel_rfl
theorem run_make_pts (n : Nat) (hn : n ≤ 1000) (w : World) :
    (Instr.makeSlice 74 (.int .i64 (n : Int)) (.int .i64 (n : Int))).run Tryz.prog w = .ok (.slice (some ⟨w.heap.size, 0, none⟩) n n) (w.alloc (.cells (ptsCells (List.replicate n (0, 0, 0))) 44)) := by
  obtain ⟨i, hi, hz, hs, hb⟩ := info_parts infoPt
  have h := run_make (P := Tryz.prog) (w := w) 74 44 i _ Tryz.underlying74 hi hz .i64 .i64 n n (by omega) (Int.le_refl _) (by rw [hb]; omega) (by omega)
  rw [hs] at h
  simp only [Int.toNat_natCast] at h
  rw [h, ← made_pts]
  rfl
abbrev laidIs (bars : List BarD) (runs : List RunD) (i : Nat) (ld : LaidD) : Prop := (laidAll bars runs)[i]? = some ld
set_option maxHeartbeats 4000000 in
set_option maxRecDepth 100000 in
theorem all1_walk (A3 A4 : Option Addr) (bars : List BarD) (runs : List RunD) (n3 c3 n4 c4 n₀ gB gR l : Nat) (J : Nat → World → Prop) (Jx : World → Prop)
    (hJ : ∀ i W W', J i W → Below W.heap.size W W' → J i W') (hl : ∀ i W, J i W → ∃ o : Obj, W.heap[l]? = some o ∧ o.isCells = false)
    (w : World) (hY : ∀ (i : Nat) (ld : LaidD) (g m c : Nat) (W : World), J i W → (laidAll bars runs)[i]? = some ld → m = ld.pts.length → c = m → w.heap.size ≤ g → PtsAt W W.heap.size (some ⟨g, 0, none⟩) ld.pts →
      YieldAt Fence.wide 2 Tryz.prog l #[.int .i64 i, .slice (some ⟨g, 0, none⟩) m c] W fun e W' => (e = .returned (.bool true) ∧ J (i + 1) W' ∧ W.grownBy W' (some l)) ∨ (e = .returned (.bool false) ∧ Jx W'))
    (h3 : BarsAt w n₀ A3 bars) (h4 : RunsAt w n₀ A4 runs) (hn0 : n₀ ≤ w.heap.size) (hln : n₀ ≤ l) (cB : w.cell? ⟨gB, 0, none⟩ = some (.slice A3 n3 c3)) (cR : w.cell? ⟨gR, 0, none⟩ = some (.slice A4 n4 c4)) (hgB : gB < n₀) (_hgR : gR < n₀)
    (l3 : n3 = bars.length) (l4 : n4 = runs.length) (m3 : n3 ≤ 60000) (htame : Tame bars) (hok : laidOk bars runs = true) (h0 : J 0 w) :
    Calls Tryz.prog 114 #[.func (.yield l) #[] #[], .pointer (some ⟨gR, 0, none⟩), .pointer (some ⟨gB, 0, none⟩)] w fun e w' => (∃ v, e = .returned v) ∧ (J (laidAll bars runs).length w' ∨ Jx w') := by
  obtain ⟨hbars, h60, hruns⟩ := laidOk_mem hok
  have HT := hide (fun (W : World) (hz : Below n₀ w W) (r : RunD) (x : BarD) (j : Nat) (hj : idx (markIs r.mark) bars = (j : Int)) (hx : bars[j]? = some x) (ht : turnOk r.tx r.ty = true) => turned_ok A3 bars n3 c3 r x j W (h3.carry hz (Nat.le_refl _)) (Nat.le_trans hn0 hz.size) l3 m3 htame hj hx (hbars x (mem_of_get hx)) ht)
  have Hruns := hide hruns
  have Hbars := hide hbars
  have H4 := hide h4
  have L4 := hide l4
  have hn60 : n4 ≤ 60 := by rw [l4]; exact h60
  have Hlen := hide (laidOk_len hok).2
  have CB := hide (fun (W : World) (hz : Below n₀ w W) => (hz.cell (p := ⟨gB, 0, none⟩) hgB).trans cB)
  have HJ := hide hJ
  have HL := hide hl
  have HY := hide hY
  have H0 := hide h0
  have hgBw : gB < w.heap.size := by omega
  clear h3 h4 l3 l4 m3 htame hok h0 hbars h60 hruns hJ hl hY cB
  go_enter Tryz.func114, Tryz.ntmps114
  go_wp2_with fail
  go_loopw [4, 14] (fun nv iv wr => ∃ j : Nat, j ≤ n4 ∧ iv = .int .i64 j ∧ (∃ N : Nat, nv = .int .i64 N ∧ Hid (N = (laidAll bars (runs.take j)).length) ∧ J N wr) ∧ Below n₀ w wr) (fun _ iv _ => n4 - (intOf iv).toNat)
  case atStart => exact ⟨0, Nat.zero_le _, rfl, ⟨0, rfl, hide rfl, H0.out⟩, Below.refl _ _⟩
  case round =>
    clear H0 cR
    rename World => wo
    obtain ⟨j, hj, rfl, ⟨N, rfl, hN, hJr⟩, hbr⟩ := hrel
    by_cases hlt : j < n4
    · obtain ⟨b, off, r, rfl, hbl, hx, hc⟩ := RunsAt.get (k := j) (H4.out.carry (Flat.carried _) hbr (Nat.le_refl _)) (by rw [← L4.out]; exact hlt)
      have hrk := Hruns.out r (mem_of_get hx)
      obtain ⟨jj, x, hjj, hxx, hrb, htn⟩ := runOk_bar hrk
      obtain ⟨hcn0, hcn1⟩ := runOk_count hrk
      have hal : (N : Int) + r.count ≤ 2000 := by
        have h9 := Hlen.out
        rw [laidAll_split hx, List.length_append, List.length_append, laidRun_of hrb, laidTo_len] at h9
        rw [hN.out]
        omega
      have Hat := hide (fun (q : Nat) (hq : (q : Int) < r.count) => show laidIs bars runs (N + q) ⟨x, ptsOf x r (q : Int)⟩ by rw [hN.out]; exact laid_at hx hrb hq)
      have Hn := hide (show (laidAll bars (runs.take (j + 1))).length = N + r.count.toNat by rw [laidAll_snoc hx, laidRun_of hrb, List.length_append, laidTo_len, hN.out])
      have HTr := hide (fun (W : World) (hz : Below n₀ w W) => HT.out W hz r x jj hjj hxx htn)
      have Hnear := hide (turned_near (Hbars.out x (mem_of_get hxx)) htn)
      have Hplace := hide (runOk_place hrk)
      have Hmul := hide (fun (q : Int) (h0 : 0 ≤ q) (h1 : q < r.count) => runOk_mul hrk h0 h1)
      have Hpts := hide (fun (q : Int) => ptsOf_turned x r q)
      have Htl := hide (show (turnedOf r x).length ≤ 7 by rw [turnedOf_len, pathOf_len]; have := legsOf_len x.code; omega)
      obtain ⟨tl, htl⟩ : ∃ tl, tl = turnedOf r x := ⟨_, rfl⟩
      rw [← htl] at HTr Hnear Htl
      have Hpts := hide (fun (q : Int) => show ptsOf x r q = tl.map (placeOf r q) by rw [htl]; exact Hpts.out q)
      have Hr := hide (show ∀ q : Int, ∀ p : Pt, placeOf r q p = addP (addP p r.place) (mulP q r.step) from fun _ _ => rfl)
      obtain ⟨FT, hFT⟩ : ∃ FT : Int → List Pt, FT = fun q => ptsOf x r q := ⟨_, rfl⟩
      have HatF := hide (fun (q : Nat) (hq : (q : Int) < r.count) => show laidIs bars runs (N + q) ⟨x, FT (q : Int)⟩ by rw [hFT]; exact Hat.out q hq)
      have HFm := hide (fun (q : Int) => show FT q = tl.map (fun p => addP (addP p r.place) (mulP q r.step)) by rw [hFT]; exact Hpts.out q)
      clear Hat Hpts Hr
      obtain ⟨mark, tx, ty, ⟨p1, p2, p3⟩, ⟨s1, s2, s3⟩, cnt⟩ := r
      have q0 := hc 0 _ rfl
      have q1 := hc 1 _ rfl
      have q2 := hc 2 _ rfl
      have q3 := hc 3 _ rfl
      have q4 := hc 4 _ rfl
      have q5 := hc 5 _ rfl
      have q6 := hc 6 _ rfl
      have q7 := hc 7 _ rfl
      have q8 := hc 8 _ rfl
      have q9 := hc 9 _ rfl
      simp only [Nat.add_zero] at q0 q1 q2 q3 q4 q5 q6 q7 q8 q9 hcn0 hcn1 hal HatF HFm Hn Hplace Hmul HTr
      have hbw : b < wo.heap.size := by have := hbr.size; omega
      have cb := CB.out wo hbr
      have hgw : gB < wo.heap.size := by have := hbr.size; omega
      have hnr : n₀ ≤ wo.heap.size := Nat.le_trans hn0 hbr.size
      have HR := hide (hbr.alloc hnr (.cells #[.string mark, .int .i64 tx, .int .i64 ty, .int .i64 p1, .int .i64 p2, .int .i64 p3, .int .i64 s1, .int .i64 s2, .int .i64 s3, .int .i64 cnt] 79))
      have HJr := hide (HJ.out _ _ _ hJr (below_new wo (.cells #[.string mark, .int .i64 tx, .int .i64 ty, .int .i64 p1, .int .i64 p2, .int .i64 p3, .int .i64 s1, .int .i64 s2, .int .i64 s3, .int .i64 cnt] 79)))
      have hNk := hide hN
      clear hx hbl hc hrk hjj hxx hrb htn htl hFT hN hJr hbr HT
      go_wp2_with fail
      refine (HTr.out _ HR.out).mono ?_
      rintro e w2 ⟨A5, c5, rfl, hpts, hb2⟩
      have K1 := hide ((Blk.new wo 79 #[.string mark, .int .i64 tx, .int .i64 ty, .int .i64 p1, .int .i64 p2, .int .i64 p3, .int .i64 s1, .int .i64 s2, .int .i64 s3, .int .i64 cnt]).keep hb2)
      have HR2 := hide (HR.out.trans (hb2.mono (by simp; omega)))
      have HJ2 := hide (HJ.out _ _ _ HJr.out hb2)
      have Hpts := hide hpts
      have hn2 := hide (Nat.le_trans hn0 HR2.out.size)
      obtain ⟨ln, hlnn⟩ : ∃ ln, ln = tl.length := ⟨_, rfl⟩
      rw [← hlnn]
      have Hln := hide hlnn
      have hl7 : ln ≤ 7 := by rw [hlnn]; exact Htl.out
      have e9 := K1.out.cell 9
      simp at e9
      have lk1 := K1.out.lt
      clear hlnn hb2 hpts HTr q0 q1 q2 q3 q4 q5 q6 q7 q8 q9
      go_wp2_with fail
      go_loopw [4, 23] (fun nv iv wi => ∃ q : Nat, (q : Int) ≤ cnt ∧ iv = .int .i64 q ∧ nv = .int .i64 ((N + q : Nat) : Int) ∧ J (N + q) wi ∧ Blk wi wo.heap.size 79 #[.string mark, .int .i64 tx, .int .i64 ty, .int .i64 p1, .int .i64 p2, .int .i64 p3, .int .i64 s1, .int .i64 s2, .int .i64 s3, .int .i64 cnt] ∧ PtsAt wi w2.heap.size A5 tl ∧ Below n₀ w wi ∧ w2.heap.size ≤ wi.heap.size) (fun _ iv _ => cnt.toNat - (intOf iv).toNat)
      case atStart => exact ⟨0, by omega, rfl, rfl, HJ2.out, K1.out, Hpts.out, HR2.out, Nat.le_refl _⟩
      case round =>
        clear K1 HR2 HJ2 HJr HR Hpts hn2 e9 lk1 cb hgw
        rename World => wq
        obtain ⟨q, hq, rfl, rfl, hJq, k1, hpq, hbq, hszq⟩ := hrel
        have K1 := hide k1
        have HJq := hide hJq
        have Hpq := hide hpq
        have HBq := hide hbq
        clear k1 hJq hpq hbq
        by_cases hql : (q : Int) < cnt
        · have hatq := hide (HatF.out q hql)
          obtain ⟨F, hF⟩ : ∃ F, F = FT (q : Int) := ⟨_, rfl⟩
          rw [← hF] at hatq
          have HFm2 := hide (show F = tl.map (fun p => addP (addP p (p1, p2, p3)) (mulP (q : Int) (s1, s2, s3))) by rw [hF]; exact HFm.out (q : Int))
          have HFl := hide (show F.length = ln by rw [HFm2.out, List.length_map, Hln.out])
          have Hmuq := hide (Hmul.out (q : Int) (by omega) hql)
          have hmk := run_make_pts ln (by omega)
          have hNq : N + q ≤ 2000 := by omega
          have HJo := hide (HJ.out _ _ _ HJq.out (below_new wq (.cells (ptsCells (List.replicate ln (0, 0, 0))) 44)))
          have KO := hide (Blk.new wq 44 (ptsCells (fillTo F ln 0)))
          rw [fillTo_zero] at KO
          clear hF
          go_wp2_with fail
          go_loopw [31] (fun iv wz => ∃ m : Nat, m ≤ ln ∧ iv = .int .i64 m ∧ Blk wz wq.heap.size 44 (ptsCells (fillTo F ln m)) ∧ Below wq.heap.size wq wz ∧ wq.heap.size < wz.heap.size) (fun iv _ => ln - (intOf iv).toNat)
          case atStart => exact ⟨0, Nat.zero_le _, rfl, by rw [fillTo_zero]; exact KO.out, below_new wq _, by simp⟩
          case round =>
            clear KO hmk HJo
            obtain ⟨m, hm, rfl, kO, hbz, hszz⟩ := hrel
            by_cases hml : m < ln
            · obtain ⟨b5, o5, ⟨x1, x2, x3⟩, rfl, hbl5, hx5, x4, x5, x6⟩ := PtsAt.get (k := m) (Hpq.out.carry (Flat.carried _) (hbz.mono hszq) (Nat.le_refl _)) (by rw [← Hln.out]; exact hml)
              have kk := K1.out.below hbz K1.out.lt
              have e3 := kk.cell 3
              have e4 := kk.cell 4
              have e5 := kk.cell 5
              simp at e3 e4 e5
              have lk := kk.lt
              have hbw5 : b5 < wr.heap.size := by omega
              have hFp := hide (show F[m]? = some (addP (addP (x1, x2, x3) (p1, p2, p3)) (mulP (q : Int) (s1, s2, s3))) by rw [HFm2.out, List.getElem?_map, hx5]; rfl)
              have hxn := Hnear.out _ (mem_of_get hx5)
              have HP1 := hide (fun (W : World) => plus_any (x1, x2, x3) (p1, p2, p3) 1 W (nearBy_mono hxn (by omega)) (by rw [mulP_one]; exact nearBy_mono Hplace.out (by omega)))
              have Hzn := hide (nearBy_sum hxn Hplace.out)
              have KK := hide kk
              have KO := hide kO
              have HBz := hide hbz
              simp only at x4 x5 x6
              clear hx5 hbl5 kk kO hbz hxn
              go_wp2_with fail
              refine (HP1.out _).mono ?_
              rintro e w4 ⟨z, rfl, hz, hb4⟩
              have hz2 := hz.out
              rw [mulP_one] at hz2
              rw [← hz2] at hFp Hzn
              have KK := hide ((KK.out.alloc (.cells #[.int .i64 x1, .int .i64 x2, .int .i64 x3] 44)).keep hb4)
              have KO := hide ((KO.out.alloc (.cells #[.int .i64 x1, .int .i64 x2, .int .i64 x3] 44)).keep hb4)
              have HBz := hide (below_step (HBz.out.alloc HBz.out.size (.cells #[.int .i64 x1, .int .i64 x2, .int .i64 x3] 44)) hb4 (Nat.le_refl _))
              obtain ⟨z1, z2, z3⟩ := z
              have hfl := fillTo_len HFl.out hm
              obtain ⟨pz, hpz⟩ : ∃ p, (fillTo F ln m)[m]? = some p := ⟨_, List.getElem?_eq_getElem (by omega)⟩
              obtain ⟨g0, g1, g2⟩ := ptsCells_get hpz
              have c0 := (KO.out.cell (m * 3)).trans g0
              have c1 := (KO.out.cell (m * 3 + 1)).trans g1
              have c2 := (KO.out.cell (m * 3 + 2)).trans g2
              have f0 := KO.out.frozen (m * 3)
              have f1 := KO.out.frozen (m * 3 + 1)
              have f2 := KO.out.frozen (m * 3 + 2)
              have lO := KO.out.lt
              have hset := hide (ptsCells_set (L := fillTo F ln m) (m := m) (by omega) z1 z2 z3)
              have hneq : wo.heap.size ≠ wq.heap.size := by have := K1.out.lt; omega
              clear hz hz2 hb4 g0 g1 g2 hpz HP1 e3 e4 e5 x4 x5 x6
              have HFl2 := hide HFl.out
              have k6 := KK.out.cell 6
              have k7 := KK.out.cell 7
              have k8 := KK.out.cell 8
              simp at k6 k7 k8
              have lk4 := KK.out.lt
              by_cases hq0 : q = 0
              · have d0 : decide (0 < q) = false := by simp; omega
                have hfin := hide (show (fillTo F ln m).set m (z1, z2, z3) = fillTo F ln (m + 1) by
                  refine fillTo_set HFl.out ?_
                  rw [hFp.out, hq0]
                  simp [addP, mulP])
                have KF := ((KO.out.set_ (m * 3) (.int .i64 z1)).set_ (m * 3 + 1) (.int .i64 z2)).set_ (m * 3 + 2) (.int .i64 z3)
                rw [hset.out, hfin.out] at KF
                have KF2 := hide KF
                clear KF hq0 hset hfin k6 k7 k8
                go_wp2_with fail
                go_roundw
                case rel => first | exact ⟨m + 1, by omega, by go_num, KF2.out, ((HBz.out.setCell (p := ⟨wq.heap.size, m * 3, none⟩) (Nat.le_refl _) _).setCell (p := ⟨wq.heap.size, m * 3 + 1, none⟩) (Nat.le_refl _) _).setCell (p := ⟨wq.heap.size, m * 3 + 2, none⟩) (Nat.le_refl _) _, by simp only [World.size_setCell]; exact lO⟩ | ((repeat apply Exists.intro); exact ⟨⟨m + 1, by omega, by go_num, KF2.out, ((HBz.out.setCell (p := ⟨wq.heap.size, m * 3, none⟩) (Nat.le_refl _) _).setCell (p := ⟨wq.heap.size, m * 3 + 1, none⟩) (Nat.le_refl _) _).setCell (p := ⟨wq.heap.size, m * 3 + 2, none⟩) (Nat.le_refl _) _, by simp only [World.size_setCell]; exact lO⟩, rfl⟩)
                case measure => simp [intOf]; omega
              · have d0 : decide (0 < q) = true := by simp; omega
                have KF := ((KO.out.set_ (m * 3) (.int .i64 z1)).set_ (m * 3 + 1) (.int .i64 z2)).set_ (m * 3 + 2) (.int .i64 z3)
                rw [hset.out] at KF
                have HK2 := hide (((KK.out.far (p := ⟨wq.heap.size, m * 3, none⟩) hneq (.int .i64 z1)).far (p := ⟨wq.heap.size, m * 3 + 1, none⟩) hneq (.int .i64 z2)).far (p := ⟨wq.heap.size, m * 3 + 2, none⟩) hneq (.int .i64 z3))
                have HBs := hide (((HBz.out.setCell (p := ⟨wq.heap.size, m * 3, none⟩) (Nat.le_refl _) (.int .i64 z1)).setCell (p := ⟨wq.heap.size, m * 3 + 1, none⟩) (Nat.le_refl _) (.int .i64 z2)).setCell (p := ⟨wq.heap.size, m * 3 + 2, none⟩) (Nat.le_refl _) (.int .i64 z3))
                have KF2 := hide KF
                obtain ⟨w5, hw5⟩ : ∃ w5, w5 = ((w4.setCell ⟨wq.heap.size, m * 3, none⟩ (.int .i64 z1)).setCell ⟨wq.heap.size, m * 3 + 1, none⟩ (.int .i64 z2)).setCell ⟨wq.heap.size, m * 3 + 2, none⟩ (.int .i64 z3) := ⟨_, rfl⟩
                rw [← hw5] at HK2 HBs KF2
                have HP2 := hide (fun (W : World) => plus_any (z1, z2, z3) (s1, s2, s3) (q : Int) W Hzn.out Hmuq.out)
                have hfl2 : ((fillTo F ln m).set m (z1, z2, z3)).length = ln := by rw [List.length_set]; exact hfl
                obtain ⟨g0, g1, g2⟩ := ptsCells_get (show ((fillTo F ln m).set m (z1, z2, z3))[m]? = some (z1, z2, z3) by rw [List.getElem?_set_self (by omega)])
                have HG := hide (And.intro g0 (And.intro g1 g2))
                have c0 := (KF2.out.cell (m * 3)).trans g0
                have c1 := (KF2.out.cell (m * 3 + 1)).trans g1
                have c2 := (KF2.out.cell (m * 3 + 2)).trans g2
                have k6 := HK2.out.cell 6
                have k7 := HK2.out.cell 7
                have k8 := HK2.out.cell 8
                simp at k6 k7 k8
                have l5 := KF2.out.lt
                have l5k := HK2.out.lt
                have Hw5 := hide hw5
                have hset2 := hide (fun (y1 y2 y3 : Int) (hy : F[m]? = some (y1, y2, y3)) => show (((ptsCells ((fillTo F ln m).set m (z1, z2, z3))).setIfInBounds (m * 3) (.int .i64 y1)).setIfInBounds (m * 3 + 1) (.int .i64 y2)).setIfInBounds (m * 3 + 2) (.int .i64 y3) = ptsCells (fillTo F ln (m + 1)) by
                  rw [ptsCells_set (by omega), set_set, fillTo_set HFl.out hy])
                clear KF hset hq0 hw5 g0 g1 g2 KO KK HBz
                go_wp2_with fail
                rw [← Hw5.out]
                go_region_with (go_at_call 116; refine (HP2.out _).mono ?_; rintro e w6 ⟨y, rfl, hy, hb6⟩; obtain ⟨y1, y2, y3⟩ := y; have KF6 := (KF2.out.drew).keep hb6; have c0 := (KF6.cell (m * 3)).trans HG.out.1; have c1 := (KF6.cell (m * 3 + 1)).trans HG.out.2.1; have c2 := (KF6.cell (m * 3 + 2)).trans HG.out.2.2; have f0 := KF6.frozen (m * 3); have f1 := KF6.frozen (m * 3 + 1); have f2 := KF6.frozen (m * 3 + 2); have l6 := KF6.lt; have KF7 := hide KF6; have Hb6 := hide (below_step (HBs.out.drew) hb6 (Nat.le_refl _)); have Hy := hide hy; clear KF6 hb6 hy)
                all_goals
                  have hyf : F[m]? = some (y1, y2, y3) := by rw [hFp.out]; exact congrArg some (Hy.out.out).symm
                  have KF := ((KF7.out.set_ (m * 3) (.int .i64 y1)).set_ (m * 3 + 1) (.int .i64 y2)).set_ (m * 3 + 2) (.int .i64 y3)
                  rw [hset2.out y1 y2 y3 hyf] at KF
                  have KF8 := hide KF
                  clear KF hyf k6 k7 k8
                  go_wp2_with fail
                  go_roundw
                  case rel => first | exact ⟨m + 1, by omega, by go_num, KF8.out, ((Hb6.out.setCell (p := ⟨wq.heap.size, m * 3, none⟩) (Nat.le_refl _) _).setCell (p := ⟨wq.heap.size, m * 3 + 1, none⟩) (Nat.le_refl _) _).setCell (p := ⟨wq.heap.size, m * 3 + 2, none⟩) (Nat.le_refl _) _, by simp only [World.size_setCell]; exact l6⟩ | ((repeat apply Exists.intro); exact ⟨⟨m + 1, by omega, by go_num, KF8.out, ((Hb6.out.setCell (p := ⟨wq.heap.size, m * 3, none⟩) (Nat.le_refl _) _).setCell (p := ⟨wq.heap.size, m * 3 + 1, none⟩) (Nat.le_refl _) _).setCell (p := ⟨wq.heap.size, m * 3 + 2, none⟩) (Nat.le_refl _) _, by simp only [World.size_setCell]; exact l6⟩, rfl⟩)
                  case measure => simp [intOf]; omega
            · obtain rfl : m = ln := by omega
              rw [fillTo_all HFl.out] at kO
              have Hat9 := hide (show PtsAt wr wr.heap.size (some ⟨wq.heap.size, 0, none⟩) F from blk_sl encPt_len kO (fun j u hu => by unfold ptsCells; simpa using hu) hszz)
              have hJ9 := HJ.out _ _ _ HJq.out hbz
              have hwwq : w.heap.size ≤ wq.heap.size := HBq.out.size
              obtain ⟨fn, tmps, assign, body, hy, hR⟩ := HY.out (N + q) ⟨x, F⟩ wq.heap.size m m wr hJ9 hatq.out HFl.out.symm rfl hwwq Hat9.out
              rw [Int.natCast_add] at hy
              go_upto_region 16 with fail
              refine (wpIn_wide (n := 3)).1 ?_
              obtain ⟨o, ho, hoc⟩ := HL.out _ _ hJ9
              have hKr := K1.out.below hbz K1.out.lt
              have hPr := Hpq.out.carry (Flat.carried _) (hbz.mono hszq) (Nat.le_refl _)
              have hnq : n₀ ≤ wq.heap.size := Nat.le_trans hn0 HBq.out.size
              have hBr := HBq.out.trans (hbz.mono hnq)
              have hsr := Nat.le_trans hszq hbz.size
              have hnr : n₀ ≤ wr.heap.size := Nat.le_trans hnq hbz.size
              have HX := hide (And.intro ho (And.intro hoc (And.intro hKr (And.intro hPr (And.intro hBr (And.intro hsr hnr))))))
              clear kO hbz hJ9 ho hoc hKr hPr hBr hsr hnr
              gi_wp2
              refine hR.mono ?_
              rintro e W3 (⟨rfl, hJ3, hk3⟩ | ⟨rfl, hJx3⟩)
              · obtain ⟨ho, hoc, hKr, hPr, hBr, hsr, hnr⟩ := HX.out
                have K1r := hide (hKr.round hk3 ho hoc)
                have Hpr := hide (hPr.round hk3 ho hoc)
                have HBr := hide (hBr.trans ((Below.refl n₀ wr).grown hk3 hnr (fun k e => by cases e; exact hln)))
                have Hsr := hide (Nat.le_trans hsr hk3.size)
                clear ho hoc hKr hPr hBr hsr hnr hk3 HX hR hy
                gi_wp2
                go_wp2_with fail
                go_roundw
                case rel => first | exact ⟨q + 1, by omega, by go_num, by go_num, hJ3, K1r.out, Hpr.out, HBr.out, Hsr.out⟩ | ((repeat apply Exists.intro); exact ⟨⟨q + 1, by omega, by go_num, by go_num, hJ3, K1r.out, Hpr.out, HBr.out, Hsr.out⟩, rfl⟩)
                case measure => simp [intOf]; omega
              · gi_wp2
                go_wp2_with fail
                refine bodyPost_ret (results_none rfl _ _ _) rfl ?_
                exact ⟨⟨_, rfl⟩, .inr hJx3⟩
        · have hq9 : (q : Int) = cnt := by omega
          have hN9 := hide (show (laidAll bars (runs.take (j + 1))).length = N + q by rw [Hn.out]; omega)
          go_wp2_with fail
          go_roundw
          case rel => exact ⟨j + 1, by omega, by go_num, ⟨N + q, by simp, hide hN9.out.symm, HJq.out⟩, HBq.out⟩
          case measure => simp [intOf]; omega
    · obtain rfl : j = n4 := by omega
      have hfin := hide (show N = (laidAll bars runs).length by rw [hN.out, L4.out, List.take_length])
      go_wp2_with fail
      go_end0
      exact ⟨⟨_, rfl⟩, .inl (by rw [← hfin.out]; exact hJr)⟩
end Go.Proofs.YtpmipoljnchheaaGreat
