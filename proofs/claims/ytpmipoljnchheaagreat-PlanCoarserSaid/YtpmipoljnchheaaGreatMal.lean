/- A detail as an argument, in memory. No walk stands here. The iterator over all laid bars, with their paths: for whatever loop's body keeps its word. The path of a laid bar: a range over the iterator of all laid bars. -/
import Derived.Test.YtpmipoljnchheaaGreatMai
import Derived.Test.YtpmipoljnchheaaGreatMaj
import Derived.Test.YtpmipoljnchheaaGreatMak
import Derived.RangeFuncNested
import Derived.RangeFuncBound
import Derived.RangeFuncCalls
import Derived.RangeFuncLeaves
import Derived.Shelf.Abstract
import Derived.Shelf.RegionOpen
import Derived.OwnWalkIn
import Derived.TacticsInMore
import Derived.LoopNIn
import Derived.LoopIn
import Derived.Deep.RegionWith
namespace Go.Proofs.YtpmipoljnchheaaGreat
open Go.RowKit

/-- The six slices of a detail: addresses, lengths, capacities. -/
structure DetS where
  a1 : Option Addr
  n1 : Nat
  c1 : Nat
  a2 : Option Addr
  n2 : Nat
  c2 : Nat
  a3 : Option Addr
  n3 : Nat
  c3 : Nat
  a4 : Option Addr
  n4 : Nat
  c4 : Nat
  a5 : Option Addr
  n5 : Nat
  c5 : Nat
  a6 : Option Addr
  n6 : Nat
  c6 : Nat
abbrev detCells (m : MemD) (r : RuleD) (s : DetS) : Array Value :=
  #[.string m.name, .slice s.a1 s.n1 s.c1, .slice s.a2 s.n2 s.c2, .int .i64 m.cover, .int .i64 m.aggregate, .int .i64 m.poker, .slice s.a3 s.n3 s.c3, .slice s.a4 s.n4 s.c4, .slice s.a5 s.n5 s.c5, .slice s.a6 s.n6 s.c6,
    .int .i64 r.num, .int .i64 r.den, .int .i64 r.poorNum, .int .i64 r.poorDen, .int .i64 r.bendNum, .int .i64 r.bendDen, .int .i64 r.lapNum, .int .i64 r.lapDen, .int .i64 r.least]
abbrev detV (x : DetD) (s : DetS) : Value := .agg (detCells x.mem x.rule s)
structure DetAt (w : World) (B : Nat) (x : DetD) (s : DetS) : Prop where
  h1 : BoxesAt w B s.a1 x.mem.boxes
  h2 : BoxesAt w B s.a2 x.mem.holes
  h3 : BarsAt w B s.a3 x.bars
  h4 : RunsAt w B s.a4 x.runs
  h5 : JoinsAt w B s.a5 x.laps
  h6 : DemsAt w B s.a6 x.dems
theorem DetAt.carry {w w' : World} {B B' : Nat} {x : DetD} {s : DetS} (h : DetAt w B x s) (hb : Below B w w') (hB : B ≤ B') : DetAt w' B' x s :=
  ⟨h.h1.carry (Flat.carried _) hb hB, h.h2.carry (Flat.carried _) hb hB, h.h3.carry hb hB, h.h4.carry (Flat.carried _) hb hB, h.h5.carry (Flat.carried _) hb hB, SlOf.carry demR_carried h.h6 hb hB⟩
/-- The lengths, and what bounds the sizes. -/
structure DetFit (x : DetD) (s : DetS) : Prop where
  l1 : s.n1 = x.mem.boxes.length
  l2 : s.n2 = x.mem.holes.length
  l3 : s.n3 = x.bars.length
  l4 : s.n4 = x.runs.length
  l5 : s.n5 = x.laps.length
  l6 : s.n6 = x.dems.length
  m3 : s.n3 ≤ 60000
  m4 : s.n4 ≤ 60000
  m5 : s.n5 ≤ 60000
  m6 : s.n6 ≤ 60000
  k6 : s.n6 ≤ s.c6
  name : x.mem.name.size ≤ maxLen
  tame : Tame x.bars
  dems : DemTame x.dems
/-- A row that the call made, as a block that is known. -/
theorem row_blk {α : Type} {w : World} {base size : Nat} {e : TypeId} {enc : α → List Value} {A : Option Addr} {n c : Nat} {l : List α} (h : Row w base e size enc (.slice A n c) l) (hl : 0 < l.length) :
    ∃ g cs, A = some ⟨g, 0, none⟩ ∧ base ≤ g ∧ Blk w g e cs ∧ ∀ (j : Nat) (u : Value), (l.flatMap enc)[j]? = some u → cs[j]? = some u := by
  rcases h.2 with ⟨_, hn⟩ | ⟨g, cap, cur, hv, hb, hh, _, _, _, ht⟩
  · omega
  · injection hv with hA _ _
    refine ⟨g, cur, hA, hb, hh, fun j u hu => ?_⟩
    rw [← ht, List.getElem?_take] at hu
    split at hu
    · simpa using hu
    · cases hu
theorem blk_sl {α : Type} {w : World} {g B size : Nat} {e : TypeId} {enc : α → List Value} {cs : Array Value} {l : List α} (he : ∀ x, (enc x).length = size) (h : Blk w g e cs) (hc : ∀ (j : Nat) (u : Value), (l.flatMap enc)[j]? = some u → cs[j]? = some u) (hg : g < B) : SlOf w B size (Flat enc) (some ⟨g, 0, none⟩) l :=
  SlOf.of_row (xs := l.flatMap enc) hg (fun j u hu => by rw [h.cell]; exact hc j u hu) (fun k x hx => ⟨enc x, he x, rfl, fun j v hj => flatMap_get he l k x hx j v hj⟩)
theorem runOk_mul {bars : List BarD} {r : RunD} (h : runOk bars r = true) {k : Int} (h0 : 0 ≤ k) (h1 : k < r.count) : nearBy 1099511627776 (mulP k r.step) = true := by
  have hc := runOk_count h
  simp only [runOk, runHead, Bool.and_eq_true, Bool.or_eq_true, decide_eq_true_eq] at h
  rcases h.1.1.2 with h9 | h9
  · obtain rfl : k = 0 := by omega
    simp [mulP, nearBy, within]
  · exact step_near h9.2 h0 (by omega)
end Go.Proofs.YtpmipoljnchheaaGreat
namespace Go.Proofs.YtpmipoljnchheaaGreat
open Go.RowKit
attribute [local go_sem] Oper.semAt_some

/-! A list of points as the cells of a block. -/
def ptsCells (L : List Pt) : Array Value := (L.flatMap encPt).toArray
theorem ptsCells_get {L : List Pt} {m : Nat} {p : Pt} (h : L[m]? = some p) : (ptsCells L)[m * 3]? = some (.int .i64 p.1) ∧ (ptsCells L)[m * 3 + 1]? = some (.int .i64 p.2.1) ∧ (ptsCells L)[m * 3 + 2]? = some (.int .i64 p.2.2) := by
  have key := flatMap_get encPt_len L m p h
  unfold ptsCells
  simp only [List.getElem?_toArray]
  exact ⟨by simpa using key 0 _ rfl, key 1 _ rfl, key 2 _ rfl⟩
theorem flat_set : ∀ (L : List Pt) (m : Nat) (a b c : Int), m < L.length → (((L.flatMap encPt).set (m * 3) (.int .i64 a)).set (m * 3 + 1) (.int .i64 b)).set (m * 3 + 2) (.int .i64 c) = (L.set m (a, b, c)).flatMap encPt := by
  intro L
  induction L with
  | nil => intro m a b c h; simp at h
  | cons x L ih =>
    intro m a b c h
    cases m with
    | zero => simp [encPt]
    | succ m =>
      have h9 := ih m a b c (by simpa using h)
      rw [List.set_cons_succ, List.flatMap_cons, List.flatMap_cons, ← h9]
      have e1 : (m + 1) * 3 = 3 + m * 3 := by omega
      rw [e1]
      simp only [encPt, List.cons_append, List.nil_append]
      rw [show 3 + m * 3 + 2 = m * 3 + 2 + 1 + 1 + 1 by omega, show 3 + m * 3 + 1 = m * 3 + 1 + 1 + 1 + 1 by omega, show 3 + m * 3 = m * 3 + 1 + 1 + 1 by omega]
      simp only [List.set_cons_succ]
theorem ptsCells_set {L : List Pt} {m : Nat} (h : m < L.length) (a b c : Int) : (((ptsCells L).setIfInBounds (m * 3) (.int .i64 a)).setIfInBounds (m * 3 + 1) (.int .i64 b)).setIfInBounds (m * 3 + 2) (.int .i64 c) = ptsCells (L.set m (a, b, c)) := by
  unfold ptsCells
  rw [← flat_set L m a b c h]
  simp only [List.setIfInBounds_toArray]
theorem made_pts (n : Nat) : madeCells #[.int .i64 0, .int .i64 0, .int .i64 0] (n * 3) = ptsCells (List.replicate n (0, 0, 0)) := by
  have h1 : ∀ k, (List.replicate k ((0, 0, 0) : Pt)).flatMap encPt = List.replicate (k * 3) (Value.int .i64 0) := by
    intro k
    induction k with
    | zero => rfl
    | succ k ih => rw [List.replicate_succ, List.flatMap_cons, ih, show (k + 1) * 3 = k * 3 + 1 + 1 + 1 by omega]; rfl
  unfold ptsCells
  rw [h1]
  apply Array.ext
  · simp [size_madeCells]
  · intro i hi _
    simp only [madeCells, Array.getElem_map, List.getElem_toArray, List.getElem_replicate]
    have : i % 3 < 3 := Nat.mod_lt _ (by omega)
    simp only [Array.getElem_range, List.size_toArray, List.length_cons, List.length_nil]
    rcases (show i % 3 = 0 ∨ i % 3 = 1 ∨ i % 3 = 2 by omega) with h | h | h <;> rw [h] <;> rfl
/-- The first m points final, the others as they were made. -/
def fillTo (F : List Pt) (n m : Nat) : List Pt := F.take m ++ List.replicate (n - m) (0, 0, 0)
theorem fillTo_len {F : List Pt} {n m : Nat} (h : F.length = n) (hm : m ≤ n) : (fillTo F n m).length = n := by simp [fillTo, h]; omega
theorem fillTo_zero (F : List Pt) (n : Nat) : fillTo F n 0 = List.replicate n (0, 0, 0) := by simp [fillTo]
theorem fillTo_all {F : List Pt} {n : Nat} (h : F.length = n) : fillTo F n n = F := by simp [fillTo, ← h]
theorem fillTo_set {F : List Pt} {n m : Nat} {p : Pt} (h : F.length = n) (hp : F[m]? = some p) : (fillTo F n m).set m p = fillTo F n (m + 1) := by
  have hm := lt_of_get hp
  unfold fillTo
  rw [take_snoc' hp, List.set_append_right _ _ (by simp; omega)]
  have e1 : m - (F.take m).length = 0 := by simp; omega
  rw [e1]
  obtain ⟨d, hd⟩ : ∃ d, n - m = d + 1 := ⟨n - m - 1, by omega⟩
  rw [hd, List.replicate_succ, List.set_cons_zero, show n - (m + 1) = d by omega]
  simp
theorem set_set {L : List Pt} {m : Nat} (p q : Pt) : (L.set m p).set m q = L.set m q := by simp

/-! What a round of the loop keeps: but for the loop's own record all lies as it lay. -/
theorem cell_round {W W' : World} {l : Nat} {o : Obj} (hg : W.grownBy W' (some l)) (hl : W.heap[l]? = some o) (ho : o.isCells = false) {a : Addr} {v : Value} (h : W.cell? a = some v) : W'.cell? a = some v :=
  cell_kept h hg (fun r e => by cases e; exact ⟨o, hl, ho⟩)
theorem SlOf.round {α : Type} {enc : α → List Value} {size B : Nat} {A : Option Addr} {L : List α} {W W' : World} {l : Nat} {o : Obj} (h : SlOf W B size (Flat enc) A L) (hg : W.grownBy W' (some l)) (hl : W.heap[l]? = some o) (ho : o.isCells = false) : SlOf W' B size (Flat enc) A L := by
  intro hn
  obtain ⟨b, off, hA, hb, hc⟩ := h hn
  refine ⟨b, off, hA, hb, fun k x hx => ?_⟩
  obtain ⟨vs, hs, hr, hv⟩ := hc k x hx
  exact ⟨vs, hs, hr, fun j v hj => cell_round hg hl ho (hv j v hj)⟩
theorem Blk.round {W W' : World} {l g : Nat} {t : TypeId} {cs : Array Value} {o : Obj} (h : Blk W g t cs) (hg : W.grownBy W' (some l)) (hl : W.heap[l]? = some o) (ho : o.isCells = false) : Blk W' g t cs :=
  h.grown hg (by intro e; cases e; unfold Blk at h; rw [hl] at h; injection h with h; rw [h] at ho; cases ho)
theorem infoPt : (Tryz.prog.info? 44).map (fun i => (i.zero, i.size, i.bytes)) = some (some (.agg #[.int .i64 0, .int .i64 0, .int .i64 0]), 3, 24) := by kernel_rfl
theorem run_make_pts (n : Nat) (hn : n ≤ 1000) (w : World) :
    (Instr.makeSlice 74 (.int .i64 (n : Int)) (.int .i64 (n : Int))).run Tryz.prog w = .ok (.slice (some ⟨w.heap.size, 0, none⟩) n n) (w.alloc (.cells (ptsCells (List.replicate n (0, 0, 0))) 44)) := by
  obtain ⟨i, hi, hz, hs, hb⟩ := info_parts infoPt
  have h := run_make (P := Tryz.prog) (w := w) 74 44 i _ Tryz.underlying74 hi hz .i64 .i64 n n (by omega) (Int.le_refl _) (by rw [hb]; omega) (by omega)
  rw [hs] at h
  simp only [Int.toNat_natCast] at h
  rw [h, ← made_pts]
  rfl
abbrev laidIs (bars : List BarD) (runs : List RunD) (i : Nat) (ld : LaidD) : Prop := (laidAll bars runs)[i]? = some ld
set_option maxHeartbeats 4000000 in
set_option maxRecDepth 100000 in
theorem all1_walk (A3 A4 : Option Addr) (bars : List BarD) (runs : List RunD) (n3 c3 n4 c4 n₀ gB gR l : Nat) (J : Nat → World → Prop) (Jx : World → Prop)
    (hJ : ∀ i W W', J i W → Below W.heap.size W W' → J i W') (hl : ∀ i W, J i W → ∃ o : Obj, W.heap[l]? = some o ∧ o.isCells = false)
    (w : World) (hY : ∀ (i : Nat) (ld : LaidD) (g m c : Nat) (W : World), J i W → (laidAll bars runs)[i]? = some ld → m = ld.pts.length → c = m → w.heap.size ≤ g → PtsAt W W.heap.size (some ⟨g, 0, none⟩) ld.pts →
      YieldAt Fence.wide 2 Tryz.prog l #[.int .i64 i, .slice (some ⟨g, 0, none⟩) m c] W fun e W' => (e = .returned (.bool true) ∧ J (i + 1) W' ∧ W.grownBy W' (some l)) ∨ (e = .returned (.bool false) ∧ Jx W'))
    (h3 : BarsAt w n₀ A3 bars) (h4 : RunsAt w n₀ A4 runs) (hn0 : n₀ ≤ w.heap.size) (hln : n₀ ≤ l) (cB : w.cell? ⟨gB, 0, none⟩ = some (.slice A3 n3 c3)) (cR : w.cell? ⟨gR, 0, none⟩ = some (.slice A4 n4 c4)) (hgB : gB < n₀) (hgR : gR < n₀)
    (l3 : n3 = bars.length) (l4 : n4 = runs.length) (m3 : n3 ≤ 60000) (htame : Tame bars) (hok : laidOk bars runs = true) (h0 : J 0 w) :
    Calls Tryz.prog 114 #[.func (.yield l) #[] #[], .pointer (some ⟨gR, 0, none⟩), .pointer (some ⟨gB, 0, none⟩)] w fun e w' => (∃ v, e = .returned v) ∧ (J (laidAll bars runs).length w' ∨ Jx w') := by
  obtain ⟨hbars, h60, hruns⟩ := laidOk_mem hok
  have HT := hide (fun (W : World) (hz : Below n₀ w W) (r : RunD) (x : BarD) (j : Nat) (hj : idx (markIs r.mark) bars = (j : Int)) (hx : bars[j]? = some x) (ht : turnOk r.tx r.ty = true) => turned_ok A3 bars n3 c3 r x j W (h3.carry hz (Nat.le_refl _)) (Nat.le_trans hn0 hz.size) l3 m3 htame hj hx (hbars x (mem_of_get hx)) ht)
  have Hruns := hide hruns
  have Hbars := hide hbars
  have H4 := hide h4
  have L4 := hide l4
  have hn60 : n4 ≤ 60 := by rw [l4]; exact h60
  have Hlen := hide (laidOk_len hok).2
  have CB := hide (fun (W : World) (hz : Below n₀ w W) => (hz.cell (p := ⟨gB, 0, none⟩) hgB).trans cB)
  have HJ := hide hJ
  have HL := hide hl
  have HY := hide hY
  have H0 := hide h0
  have hgBw : gB < w.heap.size := by omega
  clear h3 h4 l3 l4 m3 htame hok h0 hbars h60 hruns hJ hl hY cB
  go_enter Tryz.func114, Tryz.ntmps114
  go_wp2_with fail
  go_loopw [4, 14] (fun nv iv wr => ∃ j : Nat, j ≤ n4 ∧ iv = .int .i64 j ∧ (∃ N : Nat, nv = .int .i64 N ∧ Hid (N = (laidAll bars (runs.take j)).length) ∧ J N wr) ∧ Below n₀ w wr) (fun _ iv _ => n4 - (intOf iv).toNat)
  case atStart => exact ⟨0, Nat.zero_le _, rfl, ⟨0, rfl, hide rfl, H0.out⟩, Below.refl _ _⟩
  case round =>
    clear H0 cR
    rename World => wo
    obtain ⟨j, hj, rfl, ⟨N, rfl, hN, hJr⟩, hbr⟩ := hrel
    by_cases hlt : j < n4
    · obtain ⟨b, off, r, rfl, hbl, hx, hc⟩ := RunsAt.get (k := j) (H4.out.carry (Flat.carried _) hbr (Nat.le_refl _)) (by rw [← L4.out]; exact hlt)
      have hrk := Hruns.out r (mem_of_get hx)
      obtain ⟨jj, x, hjj, hxx, hrb, htn⟩ := runOk_bar hrk
      obtain ⟨hcn0, hcn1⟩ := runOk_count hrk
      have hal : (N : Int) + r.count ≤ 2000 := by
        have h9 := Hlen.out
        rw [laidAll_split hx, List.length_append, List.length_append, laidRun_of hrb, laidTo_len] at h9
        rw [hN.out]
        omega
      have Hat := hide (fun (q : Nat) (hq : (q : Int) < r.count) => show laidIs bars runs (N + q) ⟨x, ptsOf x r (q : Int)⟩ by rw [hN.out]; exact laid_at hx hrb hq)
      have Hn := hide (show (laidAll bars (runs.take (j + 1))).length = N + r.count.toNat by rw [laidAll_snoc hx, laidRun_of hrb, List.length_append, laidTo_len, hN.out])
      have HTr := hide (fun (W : World) (hz : Below n₀ w W) => HT.out W hz r x jj hjj hxx htn)
      have Hnear := hide (turned_near (Hbars.out x (mem_of_get hxx)) htn)
      have Hplace := hide (runOk_place hrk)
      have Hmul := hide (fun (q : Int) (h0 : 0 ≤ q) (h1 : q < r.count) => runOk_mul hrk h0 h1)
      have Hpts := hide (fun (q : Int) => ptsOf_turned x r q)
      have Htl := hide (show (turnedOf r x).length ≤ 7 by rw [turnedOf_len, pathOf_len]; have := legsOf_len x.code; omega)
      obtain ⟨tl, htl⟩ : ∃ tl, tl = turnedOf r x := ⟨_, rfl⟩
      rw [← htl] at HTr Hnear Htl
      have Hpts := hide (fun (q : Int) => show ptsOf x r q = tl.map (placeOf r q) by rw [htl]; exact Hpts.out q)
      have Hr := hide (show ∀ q : Int, ∀ p : Pt, placeOf r q p = addP (addP p r.place) (mulP q r.step) from fun _ _ => rfl)
      obtain ⟨FT, hFT⟩ : ∃ FT : Int → List Pt, FT = fun q => ptsOf x r q := ⟨_, rfl⟩
      have HatF := hide (fun (q : Nat) (hq : (q : Int) < r.count) => show laidIs bars runs (N + q) ⟨x, FT (q : Int)⟩ by rw [hFT]; exact Hat.out q hq)
      have HFm := hide (fun (q : Int) => show FT q = tl.map (fun p => addP (addP p r.place) (mulP q r.step)) by rw [hFT]; exact Hpts.out q)
      clear Hat Hpts Hr
      obtain ⟨mark, tx, ty, ⟨p1, p2, p3⟩, ⟨s1, s2, s3⟩, cnt⟩ := r
      have q0 := hc 0 _ rfl
      have q1 := hc 1 _ rfl
      have q2 := hc 2 _ rfl
      have q3 := hc 3 _ rfl
      have q4 := hc 4 _ rfl
      have q5 := hc 5 _ rfl
      have q6 := hc 6 _ rfl
      have q7 := hc 7 _ rfl
      have q8 := hc 8 _ rfl
      have q9 := hc 9 _ rfl
      simp only [Nat.add_zero] at q0 q1 q2 q3 q4 q5 q6 q7 q8 q9 hcn0 hcn1 hal HatF HFm Hn Hplace Hmul HTr
      have hbw : b < wo.heap.size := by have := hbr.size; omega
      have cb := CB.out wo hbr
      have hgw : gB < wo.heap.size := by have := hbr.size; omega
      have hnr : n₀ ≤ wo.heap.size := Nat.le_trans hn0 hbr.size
      have HR := hide (hbr.alloc hnr (.cells #[.string mark, .int .i64 tx, .int .i64 ty, .int .i64 p1, .int .i64 p2, .int .i64 p3, .int .i64 s1, .int .i64 s2, .int .i64 s3, .int .i64 cnt] 79))
      have HJr := hide (HJ.out _ _ _ hJr (below_new wo (.cells #[.string mark, .int .i64 tx, .int .i64 ty, .int .i64 p1, .int .i64 p2, .int .i64 p3, .int .i64 s1, .int .i64 s2, .int .i64 s3, .int .i64 cnt] 79)))
      have hNk := hide hN
      clear hx hbl hc hrk hjj hxx hrb htn htl hFT hN hJr hbr HT
      go_wp2_with fail
      refine (HTr.out _ HR.out).mono ?_
      rintro e w2 ⟨A5, c5, rfl, hpts, hb2⟩
      have K1 := hide ((Blk.new wo 79 #[.string mark, .int .i64 tx, .int .i64 ty, .int .i64 p1, .int .i64 p2, .int .i64 p3, .int .i64 s1, .int .i64 s2, .int .i64 s3, .int .i64 cnt]).keep hb2)
      have HR2 := hide (HR.out.trans (hb2.mono (by simp; omega)))
      have HJ2 := hide (HJ.out _ _ _ HJr.out hb2)
      have Hpts := hide hpts
      have hn2 := hide (Nat.le_trans hn0 HR2.out.size)
      obtain ⟨ln, hlnn⟩ : ∃ ln, ln = tl.length := ⟨_, rfl⟩
      rw [← hlnn]
      have Hln := hide hlnn
      have hl7 : ln ≤ 7 := by rw [hlnn]; exact Htl.out
      have e9 := K1.out.cell 9
      simp at e9
      have lk1 := K1.out.lt
      clear hlnn hb2 hpts HTr q0 q1 q2 q3 q4 q5 q6 q7 q8 q9
      go_wp2_with fail
      go_loopw [4, 23] (fun nv iv wi => ∃ q : Nat, (q : Int) ≤ cnt ∧ iv = .int .i64 q ∧ nv = .int .i64 ((N + q : Nat) : Int) ∧ J (N + q) wi ∧ Blk wi wo.heap.size 79 #[.string mark, .int .i64 tx, .int .i64 ty, .int .i64 p1, .int .i64 p2, .int .i64 p3, .int .i64 s1, .int .i64 s2, .int .i64 s3, .int .i64 cnt] ∧ PtsAt wi w2.heap.size A5 tl ∧ Below n₀ w wi ∧ w2.heap.size ≤ wi.heap.size) (fun _ iv _ => cnt.toNat - (intOf iv).toNat)
      case atStart => exact ⟨0, by omega, rfl, rfl, HJ2.out, K1.out, Hpts.out, HR2.out, Nat.le_refl _⟩
      case round =>
        clear K1 HR2 HJ2 HJr HR Hpts hn2 e9 lk1 cb hgw
        rename World => wq
        obtain ⟨q, hq, rfl, rfl, hJq, k1, hpq, hbq, hszq⟩ := hrel
        have K1 := hide k1
        have HJq := hide hJq
        have Hpq := hide hpq
        have HBq := hide hbq
        clear k1 hJq hpq hbq
        by_cases hql : (q : Int) < cnt
        · have hatq := hide (HatF.out q hql)
          obtain ⟨F, hF⟩ : ∃ F, F = FT (q : Int) := ⟨_, rfl⟩
          rw [← hF] at hatq
          have HFm2 := hide (show F = tl.map (fun p => addP (addP p (p1, p2, p3)) (mulP (q : Int) (s1, s2, s3))) by rw [hF]; exact HFm.out (q : Int))
          have HFl := hide (show F.length = ln by rw [HFm2.out, List.length_map, Hln.out])
          have Hmuq := hide (Hmul.out (q : Int) (by omega) hql)
          have hmk := run_make_pts ln (by omega)
          have hNq : N + q ≤ 2000 := by omega
          have HJo := hide (HJ.out _ _ _ HJq.out (below_new wq (.cells (ptsCells (List.replicate ln (0, 0, 0))) 44)))
          have KO := hide (Blk.new wq 44 (ptsCells (fillTo F ln 0)))
          rw [fillTo_zero] at KO
          clear hF
          go_wp2_with fail
          go_loopw [31] (fun iv wz => ∃ m : Nat, m ≤ ln ∧ iv = .int .i64 m ∧ Blk wz wq.heap.size 44 (ptsCells (fillTo F ln m)) ∧ Below wq.heap.size wq wz ∧ wq.heap.size < wz.heap.size) (fun iv _ => ln - (intOf iv).toNat)
          case atStart => exact ⟨0, Nat.zero_le _, rfl, by rw [fillTo_zero]; exact KO.out, below_new wq _, by simp⟩
          case round =>
            clear KO hmk HJo
            obtain ⟨m, hm, rfl, kO, hbz, hszz⟩ := hrel
            by_cases hml : m < ln
            · obtain ⟨b5, o5, ⟨x1, x2, x3⟩, rfl, hbl5, hx5, x4, x5, x6⟩ := PtsAt.get (k := m) (Hpq.out.carry (Flat.carried _) (hbz.mono hszq) (Nat.le_refl _)) (by rw [← Hln.out]; exact hml)
              have kk := K1.out.below hbz K1.out.lt
              have e3 := kk.cell 3
              have e4 := kk.cell 4
              have e5 := kk.cell 5
              simp at e3 e4 e5
              have lk := kk.lt
              have hbw5 : b5 < wr.heap.size := by omega
              have hFp := hide (show F[m]? = some (addP (addP (x1, x2, x3) (p1, p2, p3)) (mulP (q : Int) (s1, s2, s3))) by rw [HFm2.out, List.getElem?_map, hx5]; rfl)
              have hxn := Hnear.out _ (mem_of_get hx5)
              have HP1 := hide (fun (W : World) => plus_any (x1, x2, x3) (p1, p2, p3) 1 W (nearBy_mono hxn (by omega)) (by rw [mulP_one]; exact nearBy_mono Hplace.out (by omega)))
              have Hzn := hide (nearBy_sum hxn Hplace.out)
              have KK := hide kk
              have KO := hide kO
              have HBz := hide hbz
              simp only at x4 x5 x6
              clear hx5 hbl5 kk kO hbz hxn
              go_wp2_with fail
              refine (HP1.out _).mono ?_
              rintro e w4 ⟨z, rfl, hz, hb4⟩
              have hz2 := hz.out
              rw [mulP_one] at hz2
              rw [← hz2] at hFp Hzn
              have KK := hide ((KK.out.alloc (.cells #[.int .i64 x1, .int .i64 x2, .int .i64 x3] 44)).keep hb4)
              have KO := hide ((KO.out.alloc (.cells #[.int .i64 x1, .int .i64 x2, .int .i64 x3] 44)).keep hb4)
              have HBz := hide (below_step (HBz.out.alloc HBz.out.size (.cells #[.int .i64 x1, .int .i64 x2, .int .i64 x3] 44)) hb4 (Nat.le_refl _))
              obtain ⟨z1, z2, z3⟩ := z
              have hfl := fillTo_len HFl.out hm
              obtain ⟨pz, hpz⟩ : ∃ p, (fillTo F ln m)[m]? = some p := ⟨_, List.getElem?_eq_getElem (by omega)⟩
              obtain ⟨g0, g1, g2⟩ := ptsCells_get hpz
              have c0 := (KO.out.cell (m * 3)).trans g0
              have c1 := (KO.out.cell (m * 3 + 1)).trans g1
              have c2 := (KO.out.cell (m * 3 + 2)).trans g2
              have f0 := KO.out.frozen (m * 3)
              have f1 := KO.out.frozen (m * 3 + 1)
              have f2 := KO.out.frozen (m * 3 + 2)
              have lO := KO.out.lt
              have hset := hide (ptsCells_set (L := fillTo F ln m) (m := m) (by omega) z1 z2 z3)
              have hneq : wo.heap.size ≠ wq.heap.size := by have := K1.out.lt; omega
              clear hz hz2 hb4 g0 g1 g2 hpz HP1 e3 e4 e5 x4 x5 x6
              have HFl2 := hide HFl.out
              have k6 := KK.out.cell 6
              have k7 := KK.out.cell 7
              have k8 := KK.out.cell 8
              simp at k6 k7 k8
              have lk4 := KK.out.lt
              by_cases hq0 : q = 0
              · have d0 : decide (0 < q) = false := by simp; omega
                have hfin := hide (show (fillTo F ln m).set m (z1, z2, z3) = fillTo F ln (m + 1) by
                  refine fillTo_set HFl.out ?_
                  rw [hFp.out, hq0]
                  simp [addP, mulP])
                have KF := ((KO.out.set_ (m * 3) (.int .i64 z1)).set_ (m * 3 + 1) (.int .i64 z2)).set_ (m * 3 + 2) (.int .i64 z3)
                rw [hset.out, hfin.out] at KF
                have KF2 := hide KF
                clear KF hq0 hset hfin k6 k7 k8
                go_wp2_with fail
                go_roundw
                case rel => first | exact ⟨m + 1, by omega, by go_num, KF2.out, ((HBz.out.setCell (p := ⟨wq.heap.size, m * 3, none⟩) (Nat.le_refl _) _).setCell (p := ⟨wq.heap.size, m * 3 + 1, none⟩) (Nat.le_refl _) _).setCell (p := ⟨wq.heap.size, m * 3 + 2, none⟩) (Nat.le_refl _) _, by simp only [World.size_setCell]; exact lO⟩ | ((repeat apply Exists.intro); exact ⟨⟨m + 1, by omega, by go_num, KF2.out, ((HBz.out.setCell (p := ⟨wq.heap.size, m * 3, none⟩) (Nat.le_refl _) _).setCell (p := ⟨wq.heap.size, m * 3 + 1, none⟩) (Nat.le_refl _) _).setCell (p := ⟨wq.heap.size, m * 3 + 2, none⟩) (Nat.le_refl _) _, by simp only [World.size_setCell]; exact lO⟩, rfl⟩)
                case measure => simp [intOf]; omega
              · have d0 : decide (0 < q) = true := by simp; omega
                have KF := ((KO.out.set_ (m * 3) (.int .i64 z1)).set_ (m * 3 + 1) (.int .i64 z2)).set_ (m * 3 + 2) (.int .i64 z3)
                rw [hset.out] at KF
                have HK2 := hide (((KK.out.far (p := ⟨wq.heap.size, m * 3, none⟩) hneq (.int .i64 z1)).far (p := ⟨wq.heap.size, m * 3 + 1, none⟩) hneq (.int .i64 z2)).far (p := ⟨wq.heap.size, m * 3 + 2, none⟩) hneq (.int .i64 z3))
                have HBs := hide (((HBz.out.setCell (p := ⟨wq.heap.size, m * 3, none⟩) (Nat.le_refl _) (.int .i64 z1)).setCell (p := ⟨wq.heap.size, m * 3 + 1, none⟩) (Nat.le_refl _) (.int .i64 z2)).setCell (p := ⟨wq.heap.size, m * 3 + 2, none⟩) (Nat.le_refl _) (.int .i64 z3))
                have KF2 := hide KF
                obtain ⟨w5, hw5⟩ : ∃ w5, w5 = ((w4.setCell ⟨wq.heap.size, m * 3, none⟩ (.int .i64 z1)).setCell ⟨wq.heap.size, m * 3 + 1, none⟩ (.int .i64 z2)).setCell ⟨wq.heap.size, m * 3 + 2, none⟩ (.int .i64 z3) := ⟨_, rfl⟩
                rw [← hw5] at HK2 HBs KF2
                have HP2 := hide (fun (W : World) => plus_any (z1, z2, z3) (s1, s2, s3) (q : Int) W Hzn.out Hmuq.out)
                have hfl2 : ((fillTo F ln m).set m (z1, z2, z3)).length = ln := by rw [List.length_set]; exact hfl
                obtain ⟨g0, g1, g2⟩ := ptsCells_get (show ((fillTo F ln m).set m (z1, z2, z3))[m]? = some (z1, z2, z3) by rw [List.getElem?_set_self (by omega)])
                have HG := hide (And.intro g0 (And.intro g1 g2))
                have c0 := (KF2.out.cell (m * 3)).trans g0
                have c1 := (KF2.out.cell (m * 3 + 1)).trans g1
                have c2 := (KF2.out.cell (m * 3 + 2)).trans g2
                have k6 := HK2.out.cell 6
                have k7 := HK2.out.cell 7
                have k8 := HK2.out.cell 8
                simp at k6 k7 k8
                have l5 := KF2.out.lt
                have l5k := HK2.out.lt
                have Hw5 := hide hw5
                have hset2 := hide (fun (y1 y2 y3 : Int) (hy : F[m]? = some (y1, y2, y3)) => show (((ptsCells ((fillTo F ln m).set m (z1, z2, z3))).setIfInBounds (m * 3) (.int .i64 y1)).setIfInBounds (m * 3 + 1) (.int .i64 y2)).setIfInBounds (m * 3 + 2) (.int .i64 y3) = ptsCells (fillTo F ln (m + 1)) by
                  rw [ptsCells_set (by omega), set_set, fillTo_set HFl.out hy])
                clear KF hset hq0 hw5 g0 g1 g2 KO KK HBz
                go_wp2_with fail
                rw [← Hw5.out]
                go_region_with (go_at_call 116; refine (HP2.out _).mono ?_; rintro e w6 ⟨y, rfl, hy, hb6⟩; obtain ⟨y1, y2, y3⟩ := y; have KF6 := (KF2.out.drew).keep hb6; have c0 := (KF6.cell (m * 3)).trans HG.out.1; have c1 := (KF6.cell (m * 3 + 1)).trans HG.out.2.1; have c2 := (KF6.cell (m * 3 + 2)).trans HG.out.2.2; have f0 := KF6.frozen (m * 3); have f1 := KF6.frozen (m * 3 + 1); have f2 := KF6.frozen (m * 3 + 2); have l6 := KF6.lt; have KF7 := hide KF6; have Hb6 := hide (below_step (HBs.out.drew) hb6 (Nat.le_refl _)); have Hy := hide hy; clear KF6 hb6 hy)
                all_goals
                  have hyf : F[m]? = some (y1, y2, y3) := by rw [hFp.out]; exact congrArg some (Hy.out.out).symm
                  have KF := ((KF7.out.set_ (m * 3) (.int .i64 y1)).set_ (m * 3 + 1) (.int .i64 y2)).set_ (m * 3 + 2) (.int .i64 y3)
                  rw [hset2.out y1 y2 y3 hyf] at KF
                  have KF8 := hide KF
                  clear KF hyf k6 k7 k8
                  go_wp2_with fail
                  go_roundw
                  case rel => first | exact ⟨m + 1, by omega, by go_num, KF8.out, ((Hb6.out.setCell (p := ⟨wq.heap.size, m * 3, none⟩) (Nat.le_refl _) _).setCell (p := ⟨wq.heap.size, m * 3 + 1, none⟩) (Nat.le_refl _) _).setCell (p := ⟨wq.heap.size, m * 3 + 2, none⟩) (Nat.le_refl _) _, by simp only [World.size_setCell]; exact l6⟩ | ((repeat apply Exists.intro); exact ⟨⟨m + 1, by omega, by go_num, KF8.out, ((Hb6.out.setCell (p := ⟨wq.heap.size, m * 3, none⟩) (Nat.le_refl _) _).setCell (p := ⟨wq.heap.size, m * 3 + 1, none⟩) (Nat.le_refl _) _).setCell (p := ⟨wq.heap.size, m * 3 + 2, none⟩) (Nat.le_refl _) _, by simp only [World.size_setCell]; exact l6⟩, rfl⟩)
                  case measure => simp [intOf]; omega
            · obtain rfl : m = ln := by omega
              rw [fillTo_all HFl.out] at kO
              have Hat9 := hide (show PtsAt wr wr.heap.size (some ⟨wq.heap.size, 0, none⟩) F from blk_sl encPt_len kO (fun j u hu => by unfold ptsCells; simpa using hu) hszz)
              have hJ9 := HJ.out _ _ _ HJq.out hbz
              have hwwq : w.heap.size ≤ wq.heap.size := HBq.out.size
              obtain ⟨fn, tmps, assign, body, hy, hR⟩ := HY.out (N + q) ⟨x, F⟩ wq.heap.size m m wr hJ9 hatq.out HFl.out.symm rfl hwwq Hat9.out
              rw [Int.natCast_add] at hy
              go_upto_region 16 with fail
              refine (wpIn_wide (n := 3)).1 ?_
              obtain ⟨o, ho, hoc⟩ := HL.out _ _ hJ9
              have hKr := K1.out.below hbz K1.out.lt
              have hPr := Hpq.out.carry (Flat.carried _) (hbz.mono hszq) (Nat.le_refl _)
              have hnq : n₀ ≤ wq.heap.size := Nat.le_trans hn0 HBq.out.size
              have hBr := HBq.out.trans (hbz.mono hnq)
              have hsr := Nat.le_trans hszq hbz.size
              have hnr : n₀ ≤ wr.heap.size := Nat.le_trans hnq hbz.size
              have HX := hide (And.intro ho (And.intro hoc (And.intro hKr (And.intro hPr (And.intro hBr (And.intro hsr hnr))))))
              clear kO hbz hJ9 ho hoc hKr hPr hBr hsr hnr
              gi_wp2
              refine hR.mono ?_
              rintro e W3 (⟨rfl, hJ3, hk3⟩ | ⟨rfl, hJx3⟩)
              · obtain ⟨ho, hoc, hKr, hPr, hBr, hsr, hnr⟩ := HX.out
                have K1r := hide (hKr.round hk3 ho hoc)
                have Hpr := hide (hPr.round hk3 ho hoc)
                have HBr := hide (hBr.trans ((Below.refl n₀ wr).grown hk3 hnr (fun k e => by cases e; exact hln)))
                have Hsr := hide (Nat.le_trans hsr hk3.size)
                clear ho hoc hKr hPr hBr hsr hnr hk3 HX hR hy
                gi_wp2
                go_wp2_with fail
                go_roundw
                case rel => first | exact ⟨q + 1, by omega, by go_num, by go_num, hJ3, K1r.out, Hpr.out, HBr.out, Hsr.out⟩ | ((repeat apply Exists.intro); exact ⟨⟨q + 1, by omega, by go_num, by go_num, hJ3, K1r.out, Hpr.out, HBr.out, Hsr.out⟩, rfl⟩)
                case measure => simp [intOf]; omega
              · gi_wp2
                go_wp2_with fail
                refine bodyPost_ret (results_none rfl _ _ _) rfl ?_
                exact ⟨⟨_, rfl⟩, .inr hJx3⟩
        · have hq9 : (q : Int) = cnt := by omega
          have hN9 := hide (show (laidAll bars (runs.take (j + 1))).length = N + q by rw [Hn.out]; omega)
          go_wp2_with fail
          go_roundw
          case rel => exact ⟨j + 1, by omega, by go_num, ⟨N + q, by simp, hide hN9.out.symm, HJq.out⟩, HBq.out⟩
          case measure => simp [intOf]; omega
    · obtain rfl : j = n4 := by omega
      have hfin := hide (show N = (laidAll bars runs).length by rw [hN.out, L4.out, List.take_length])
      go_wp2_with fail
      go_end0
      exact ⟨⟨_, rfl⟩, .inl (by rw [← hfin.out]; exact hJr)⟩
end Go.Proofs.YtpmipoljnchheaaGreat
namespace Go.Proofs.YtpmipoljnchheaaGreat
open Go.RowKit
attribute [local go_sem] Oper.semAt_some

theorem run_loadVar1 {P : Program} {w : World} {g : Nat} {v : Value} {ty : TypeId} {d : TypeDesc} (hc : w.cell? ⟨g, 0, none⟩ = some v) (hu : P.underlying ty = some d) (hd : (match d with | .struct _ | .array _ _ => true | _ => false) = false) :
    (loadVar ty ⟨g, 0, none⟩).run P w = .ok v w := by
  have hagg : (isAgg ty).run P w = .ok false w := by
    unfold isAgg
    rw [Sem.run_bind, run_underlying hu w]
    cases d <;> simp_all
  simp [loadVar, Sem.run_bind, hagg]
  simp [go_sem, hc]
/-- A function's results where both lie in cells of one cell each. -/
theorem results_cc1 {P : Program} {fn : Func} {p q : Tmp} {tp tq : TypeId} (h : fn.results = #[.cell p tp, .cell q tq]) {tmps : Array Value} {w : World} {gp gq : Nat} {vp vq : Value} {dp dq : TypeDesc}
    (hp : tmps.getD p undef = .pointer (some ⟨gp, 0, none⟩)) (hq : tmps.getD q undef = .pointer (some ⟨gq, 0, none⟩)) (cp : w.cell? ⟨gp, 0, none⟩ = some vp) (cq : w.cell? ⟨gq, 0, none⟩ = some vq)
    (hup : P.underlying tp = some dp) (huq : P.underlying tq = some dq) (hdp : (match dp with | .struct _ | .array _ _ => true | _ => false) = false) (hdq : (match dq with | .struct _ | .array _ _ => true | _ => false) = false) :
    (results fn tmps).run P w = .ok (.tuple #[vp, vq]) w := by
  have hp' : tmps[p]?.getD undef = .pointer (some ⟨gp, 0, none⟩) := by simpa using hp
  have hq' : tmps[q]?.getD undef = .pointer (some ⟨gq, 0, none⟩) := by simpa using hq
  simp [results, h, hp', hq', asAddr, run_loadVar1 cp hup hdp, run_loadVar1 cq huq hdq]
set_option maxHeartbeats 400000 in
theorem all_any (A3 A4 : Option Addr) (n3 c3 n4 c4 : Nat) (w : World) :
    Calls Tryz.prog 85 #[.slice A3 n3 c3, .slice A4 n4 c4] w fun e w' => e = .returned (.func (.func 114) #[] #[.pointer (some ⟨w.heap.size + 1, 0, none⟩), .pointer (some ⟨w.heap.size, 0, none⟩)]) ∧
      w' = (w.alloc (.cells #[.slice A3 n3 c3] 27)).alloc (.cells #[.slice A4 n4 c4] 28) := by
  go_enter Tryz.func85, Tryz.ntmps85
  go_wp2_with fail
  go_ret
  exact ⟨rfl, rfl⟩
theorem SlOf.block {α : Type} {enc : α → List Value} {size B B' g : Nat} {L : List α} {w w' : World} (h : SlOf w B size (Flat enc) (some ⟨g, 0, none⟩) L) (he : w'.heap[g]? = w.heap[g]?) (hB : B ≤ B') : SlOf w' B' size (Flat enc) (some ⟨g, 0, none⟩) L := by
  intro hn
  obtain ⟨b, off, hA, hb, hc⟩ := h hn
  injection hA with hA
  injection hA with h1 h2
  subst h1
  subst h2
  refine ⟨g, 0, rfl, Nat.lt_of_lt_of_le hb hB, fun k x hx => ?_⟩
  obtain ⟨vs, hs, hr, hv⟩ := hc k x hx
  exact ⟨vs, hs, hr, fun j v hj => (World.cell?_of_block he).trans (hv j v hj)⟩
/-- The record of a range over a function. -/
def mkRec (fn : FuncId) (tmps : Array Value) (ps : Array Tmp) (assign body : Code) (D : Nat) (st : LoopState) (pe : Option Code) : Loop := { state := st, pending := pe, fn := fn, tmps := tmps, params := ps, assign := assign, body := body, defers := D }
/-- A range over a function whose body leaves, in the end, by a return. -/
theorem range_intro {P : Program} {n : Nat} {g : Operand} {ps : Array Tmp} {assign body : Code} {Q : Exit → Act → World → Prop} {a : Act} {w : World} {gf : Nat} {lb : Array Value} (hg : a.eval g = .func (.func gf) #[] lb) (eg : ∀ args w, (callFunc gf args).run P w = .ok (.enter gf args) w)
    (h : ∀ (fn : FuncId) (rec : LoopState → Option Code → Loop) (W1 : World), rec = mkRec fn a.tmps ps assign body w.heap.size → W1 = (w.alloc (.deferred (some []))).alloc (.loop (rec .ready none)) →
      Calls P gf (#[.func (.yield (w.heap.size + 1)) #[] #[]] ++ lb) W1 fun e W' => (∃ v, e = .returned v) ∧ W'.heap[w.heap.size + 1]? = some (.loop (rec .done (some .ret))) ∧
        Q .ret { a with defers := { target := .collected w.heap.size, args := #[] } :: a.defers } (W'.putObj (w.heap.size + 1) (.loop (rec .exhausted (some .ret))))) :
    (Code.rangeFunc g ps assign body).wpIn Fence.wide n P Q a w := by
  refine wpIn_rangeFunc ?_
  intro fn hfn
  refine ⟨w.heap.size + 1, [{ target := .collected w.heap.size, args := #[] }], ((w.alloc (.deferred (some []))).alloc (.loop (mkRec fn a.tmps ps assign body w.heap.size .ready none))), { target := .fn (.func gf) lb, args := #[.func (.yield (w.heap.size + 1)) #[] #[]] }, ((w.alloc (.deferred (some []))).alloc (.loop (mkRec fn a.tmps ps assign body w.heap.size .ready none))), gf, #[.func (.yield (w.heap.size + 1)) #[] #[]] ++ lb, ((w.alloc (.deferred (some []))).alloc (.loop (mkRec fn a.tmps ps assign body w.heap.size .ready none))), run_enterLoop_outer _ _ _ _ _, ?_, fun _ _ => trivial, ?_, fun hd => absurd hd (by simp [Fence.wide]), ?_⟩
  · simp only [resolve, hg]
    simp [go_sem]
  · simp [invoke, go_sem, eg]
  · refine (callsIn_wide.2 (h fn _ _ rfl rfl)).mono ?_
    rintro e W2 ⟨⟨v, rfl⟩, hl, hq⟩
    exact ⟨some .ret, _, run_endLoop hl (by simp [mkRec]), wpIn_ret hq⟩
/-- A round of it. -/
theorem yield_intro {P : Program} {fn : FuncId} {tmps : Array Value} {ps : Array Tmp} {assign body : Code} {D l : Nat} {W : World} {args : Array Value} {R : Ending → World → Prop} {rec : LoopState → Option Code → Loop} (hrec : rec = mkRec fn tmps ps assign body D) (hl : W.heap[l]? = some (.loop (rec .ready none))) (hs : args.size = ps.size)
    (h : assign.wpIn (Fence.wide.inRound l) 2 P (Exit.then (fun a₁ w₁ => ∃ w₂, (Instr.beginRound l).run P w₁ = .ok () w₂ ∧ body.wpIn (Fence.wide.inRound l) 2 P (roundPost P l R) a₁ w₂) (fun _ _ _ => False)) { tmps := (ps.zip args).foldl (fun t (p, v) => t.setIfInBounds p v) tmps, defers := [] } W) : YieldAt Fence.wide 2 P l args W R := by
  subst hrec
  exact ⟨fn, _, assign, body, run_yield hl hs, roundIn_of_wpIn trivial h⟩
set_option maxHeartbeats 4000000 in
set_option maxRecDepth 100000 in
theorem laidPath_ok (A3 A4 : Option Addr) (bars : List BarD) (runs : List RunD) (n3 c3 n4 c4 i : Nat) (ld : LaidD) (w : World) {B : Nat} (h3 : BarsAt w B A3 bars) (h4 : RunsAt w B A4 runs) (hB : B ≤ w.heap.size) (l3 : n3 = bars.length) (l4 : n4 = runs.length) (m3 : n3 ≤ 60000) (m4 : n4 ≤ 60000) (htame : Tame bars) (hok : laidOk bars runs = true) (hi : (laidAll bars runs)[i]? = some ld) :
    Calls Tryz.prog 52 #[.slice A3 n3 c3, .slice A4 n4 c4, .int .i64 i] w fun e w' => ∃ A, e = .returned (.tuple #[.slice A ld.pts.length ld.pts.length, .int .i64 0]) ∧ PtsAt w' w'.heap.size A ld.pts ∧ Below w.heap.size w w' := by
  have HV := fun (W : World) (hz : Below w.heap.size w W) => laidValid_any A3 bars n3 c3 A4 runs n4 c4 W (h3.carry (hz.mono hB) (Nat.le_refl _)) (h4.carry (Flat.carried _) (hz.mono hB) (Nat.le_refl _)) (Nat.le_trans hB hz.size) l3 l4 m3 m4 htame
  rw [hok] at HV
  have HV := hide HV
  have HAll := hide (fun (n₀ gB gR l : Nat) (J : Nat → World → Prop) (Jx : World → Prop) (a1 a2) (W : World) (a3) (hz : Below w.heap.size w W) (hn : w.heap.size ≤ n₀) (hn1 : n₀ ≤ W.heap.size) (hl : n₀ ≤ l) (a4 a5 a6 a7 a8) => all1_walk A3 A4 bars runs n3 c3 n4 c4 n₀ gB gR l J Jx a1 a2 W a3 (h3.carry (hz.mono hB) (Nat.le_trans hB hn)) (h4.carry (Flat.carried _) (hz.mono hB) (Nat.le_trans hB hn)) hn1 hl a4 a5 a6 a7 l3 l4 m3 htame hok a8)
  have Hi := hide hi
  have HW := hide (((below_new2 w (.cells #[.int .i64 i] 3) (.cells #[.slice none 0 0] 74)).alloc (by simp; omega) (.cells #[.int .i64 0] 38)))
  have K5 := hide (((Blk.new w 3 #[.int .i64 i]).alloc (.cells #[.slice none 0 0] 74)).alloc (.cells #[.int .i64 0] 38))
  have K6 := hide ((Blk.new1 w (.cells #[.int .i64 i] 3) 74 #[.slice none 0 0]).alloc (.cells #[.int .i64 0] 38))
  have K7 := hide (Blk.new2 w (.cells #[.int .i64 i] 3) (.cells #[.slice none 0 0] 74) 38 #[.int .i64 0])
  clear h3 h4 hB l3 l4 m3 m4 htame hok hi
  refine (callsIn_wide (n := 4)).1 ?_
  refine callsIn_of_wp_marks Tryz.func52 rfl trivial ?_ rfl
  simp only [Tryz.ntmps52, List.size_toArray, List.length_cons, List.length_nil, Nat.reduceAdd, Nat.reduceSub, Array.replicate_succ, Array.replicate_zero, List.push_toArray, List.append_toArray, List.nil_append, List.cons_append]
  refine wpIn_wide.2 ?_
  go_wp2_with fail
  refine (HV.out _ HW.out).mono ?_
  rintro e w2 ⟨rfl, hb2⟩
  have K5 := hide (K5.out.keep hb2)
  have K6 := hide (K6.out.keep hb2)
  have K7 := hide (K7.out.keep hb2)
  have HW := hide (below_step HW.out hb2 (Nat.le_refl _))
  have Hws := hide K7.out.lt
  clear hb2 HV
  go_wp2_with (go_at_call 85; refine (all_any _ _ _ _ _ _ _).mono ?_; rintro e w3 ⟨rfl, rfl⟩)
  refine (wpIn_wide (n := 4)).1 ?_
  obtain ⟨w3, hw3⟩ : ∃ w3, w3 = (w2.alloc (.cells #[.slice A3 n3 c3] 27)).alloc (.cells #[.slice A4 n4 c4] 28) := ⟨_, rfl⟩
  have K5 := hide ((K5.out.alloc (.cells #[.slice A3 n3 c3] 27)).alloc (.cells #[.slice A4 n4 c4] 28))
  have K6 := hide ((K6.out.alloc (.cells #[.slice A3 n3 c3] 27)).alloc (.cells #[.slice A4 n4 c4] 28))
  have K7 := hide ((K7.out.alloc (.cells #[.slice A3 n3 c3] 27)).alloc (.cells #[.slice A4 n4 c4] 28))
  have KB := hide ((Blk.new w2 27 #[.slice A3 n3 c3]).alloc (.cells #[.slice A4 n4 c4] 28))
  have KR := hide (Blk.new1 w2 (.cells #[.slice A3 n3 c3] 27) 28 #[.slice A4 n4 c4])
  have HW := hide ((HW.out.alloc HW.out.size (.cells #[.slice A3 n3 c3] 27)).alloc (by rw [size_alloc']; exact Nat.le_succ_of_le HW.out.size) (.cells #[.slice A4 n4 c4] 28))
  have hs3 : w3.heap.size = w2.heap.size + 1 + 1 := by rw [hw3]; simp
  rw [← hw3] at K5 K6 K7 KB KR HW ⊢
  have Hs3 := hide hs3
  clear hw3 hs3
  refine range_intro rfl (enters_of Tryz.func114 (by kernel_rfl) rfl) ?_
  intro fn rec W1 hrec hW1
  obtain ⟨D, hD⟩ : ∃ D, D = w3.heap.size := ⟨_, rfl⟩
  have hs1 : W1.heap.size = D + 2 := by rw [hW1, hD]; simp
  have hL1 : W1.heap[D + 1]? = some (.loop (rec .ready none)) := by
    rw [hW1, hD]; have := World.alloc_heap_new (w3.alloc (.deferred (some []))) (.loop (rec .ready none)); rwa [World.size_alloc] at this
  have hD1 : W1.heap[D]? = some (.deferred (some [])) := by
    rw [hW1, hD]; exact (Below.heap_alloc _ _ _ (by simp)).trans (World.alloc_heap_new w3 _)
  have k5 : Blk W1 w.heap.size 3 #[.int .i64 i] := by rw [hW1]; exact (K5.out.alloc _).alloc _
  have k6 : Blk W1 (w.heap.size + 1) 74 #[.slice none 0 0] := by rw [hW1]; exact (K6.out.alloc _).alloc _
  have k7 : Blk W1 (w.heap.size + 2) 38 #[.int .i64 0] := by rw [hW1]; exact (K7.out.alloc _).alloc _
  have kB : Blk W1 w2.heap.size 27 #[.slice A3 n3 c3] := by rw [hW1]; exact (KB.out.alloc _).alloc _
  have kR : Blk W1 (w2.heap.size + 1) 28 #[.slice A4 n4 c4] := by rw [hW1]; exact (KR.out.alloc _).alloc _
  have hw1 : Below w.heap.size w W1 := by rw [hW1]; exact (HW.out.alloc HW.out.size _).alloc (by rw [size_alloc']; exact Nat.le_succ_of_le HW.out.size) _
  have hsD : w2.heap.size + 2 = D := by rw [hD, Hs3.out]
  have hws := Hws.out
  have hwD : w.heap.size ≤ D := by omega
  clear hW1 K5 K6 K7 KB KR HW Hs3 Hws
  rw [← hD]
  clear hD
  obtain ⟨J, hJd⟩ : ∃ J : Nat → World → Prop, J = fun k W => k ≤ i ∧ Below w.heap.size w W ∧ W.heap[D + 1]? = some (.loop (rec .ready none)) ∧ W.heap[D]? = some (.deferred (some [])) ∧ Blk W w.heap.size 3 #[.int .i64 i] ∧ Blk W (w.heap.size + 1) 74 #[.slice none 0 0] ∧ Blk W (w.heap.size + 2) 38 #[.int .i64 0] := ⟨_, rfl⟩
  obtain ⟨Jx, hJxd⟩ : ∃ Jx : World → Prop, Jx = fun W => W.heap[D + 1]? = some (.loop (rec .done (some .ret))) ∧ W.heap[D]? = some (.deferred (some [])) ∧ Below w.heap.size w W ∧ ∃ g, D < g ∧ g ≠ D + 1 ∧ W.cell? ⟨w.heap.size + 1, 0, none⟩ = some (.slice (some ⟨g, 0, none⟩) ld.pts.length ld.pts.length) ∧ W.cell? ⟨w.heap.size + 2, 0, none⟩ = some (.int .i64 0) ∧ PtsAt W W.heap.size (some ⟨g, 0, none⟩) ld.pts := ⟨_, rfl⟩
  have HJd := hide hJd
  have HJxd := hide hJxd
  have Hrec := hide hrec
  clear hJd hJxd hrec
  refine (HAll.out D w2.heap.size (w2.heap.size + 1) (D + 1) J Jx ?_ ?_ W1 ?_ hw1 hwD (by omega) (Nat.le_succ D) ?_ ?_ (by omega) (by omega) ?_).mono ?_
  · intro k W W' hj hb
    rw [HJd.out] at hj ⊢
    obtain ⟨j1, j2, j3, j4, j5, j6, j7⟩ := hj
    exact ⟨j1, below_step j2 hb (Nat.le_refl _), (hb.block _ (Array.getElem?_eq_some_iff.1 j3).1).trans j3, (hb.block _ (Array.getElem?_eq_some_iff.1 j4).1).trans j4, j5.keep hb, j6.keep hb, j7.keep hb⟩
  · intro k W hj
    rw [HJd.out] at hj
    exact ⟨_, hj.2.2.1, rfl⟩
  · intro k ld' g m c W hj hld hm hcm hg hpts
    subst hcm
    subst hm
    rw [HJd.out] at hj
    obtain ⟨j1, j2, j3, j4, j5, j6, j7⟩ := hj
    refine yield_intro Hrec.out j3 rfl ?_
    have HA := hide (And.intro j3 (And.intro j5 (And.intro j6 j7)))
    clear j3 j5 j6 j7
    gi_wp2
    obtain ⟨j3, j5, j6, j7⟩ := HA.out
    refine ⟨_, run_beginRound j3 (by rw [Hrec.out]; rfl), ?_⟩
    obtain ⟨W2, hW2⟩ : ∃ W2, W2 = W.putObj (D + 1) (.loop { rec .ready none with state := .busy }) := ⟨_, rfl⟩
    have hDW : D + 1 < W.heap.size := (Array.getElem?_eq_some_iff.1 j3).1
    have hL2 : W2.heap[D + 1]? = some (.loop { rec .ready none with state := .busy }) := by rw [hW2]; exact World.putObj_heap_same hDW
    have o2 : ∀ b, b ≠ D + 1 → W2.heap[b]? = W.heap[b]? := fun b hb => by rw [hW2]; exact World.putObj_heap_other hb
    have k5 : Blk W2 w.heap.size 3 #[.int .i64 i] := (o2 _ (by omega)).trans j5
    have k6 : Blk W2 (w.heap.size + 1) 74 #[.slice none 0 0] := (o2 _ (by omega)).trans j6
    have k7 : Blk W2 (w.heap.size + 2) 38 #[.int .i64 0] := (o2 _ (by omega)).trans j7
    have hz2 : W2.heap.size = W.heap.size := by rw [hW2]; simp
    rw [← hW2]
    have HX := hide (And.intro hW2 (And.intro o2 hL2))
    have R5 := hide k5
    have R6 := hide k6
    have R7 := hide k7
    have c5 := k5.cell 0
    have c6 := k6.cell 0
    have c7 := k7.cell 0
    have f6 := k6.frozen 0
    have f7 := k7.frozen 0
    simp at c5 c6 c7
    have Hj := hide (And.intro j2 (And.intro j3 (And.intro j4 (And.intro j5 (And.intro j6 j7)))))
    have Hp := hide hpts
    clear hW2 o2 hL2 k5 k6 k7 j2 j3 j4 j5 j6 j7 hpts
    by_cases hki : k = i
    · subst hki
      gi_wp2
      obtain ⟨hW2, o2, hL2⟩ := HX.out
      obtain ⟨j2, j3, j4, j5, j6, j7⟩ := Hj.out
      have hlds : ld' = ld := by have h9 := Hi.out; rw [hld] at h9; injection h9
      subst hlds
      obtain ⟨sv, hsv⟩ : ∃ sv, sv = Value.slice (some ⟨g, 0, none⟩) ld'.pts.length ld'.pts.length := ⟨_, rfl⟩
      rw [← hsv]
      have o5 : ∀ b, b ≠ w.heap.size + 1 → b ≠ w.heap.size + 2 → ((W2.setCell ⟨w.heap.size + 1, 0, none⟩ sv).setCell ⟨w.heap.size + 2, 0, none⟩ (.int .i64 0)).heap[b]? = W2.heap[b]? := fun b h1 h2 => (Below.heap_setCell _ _ _ b h2).trans (Below.heap_setCell _ _ _ b h1)
      have hL5 := (o5 (D + 1) (by omega) (by omega)).trans hL2
      obtain ⟨W5, hW5⟩ : ∃ W5, W5 = (W2.setCell ⟨w.heap.size + 1, 0, none⟩ sv).setCell ⟨w.heap.size + 2, 0, none⟩ (.int .i64 0) := ⟨_, rfl⟩
      have q6 : Blk W5 (w.heap.size + 1) 74 #[sv] := by
        rw [hW5]
        have h9 := (R6.out.set_ 0 sv).far (p := ⟨w.heap.size + 2, 0, none⟩) (by show w.heap.size + 1 ≠ w.heap.size + 2; omega) (.int .i64 0)
        simpa using h9
      have q7 : Blk W5 (w.heap.size + 2) 38 #[.int .i64 0] := by
        rw [hW5]
        have h9 := (R7.out.far (p := ⟨w.heap.size + 1, 0, none⟩) (by show w.heap.size + 2 ≠ w.heap.size + 1; omega) sv).set_ 0 (.int .i64 0)
        simpa using h9
      have hB5 : Below w.heap.size w W5 := by
        rw [hW5, hW2]
        exact ((j2.trans ((Below.refl w.heap.size W).grown (grownBy_putObj' W (D + 1) _) j2.size (fun r e => by cases e; omega))).setCell (p := ⟨w.heap.size + 1, 0, none⟩) (Nat.le_succ _) _).setCell (p := ⟨w.heap.size + 2, 0, none⟩) (by show w.heap.size ≤ w.heap.size + 2; omega) _
      have hz5 : W5.heap.size = W.heap.size := by rw [hW5]; simp only [World.size_setCell]; exact hz2
      have o5' : ∀ b, b ≠ w.heap.size + 1 → b ≠ w.heap.size + 2 → W5.heap[b]? = W2.heap[b]? := by rw [hW5]; exact o5
      rw [← hW5] at hL5
      show roundPost _ _ _ _ _ ((W2.setCell ⟨w.heap.size + 1, 0, none⟩ sv).setCell ⟨w.heap.size + 2, 0, none⟩ (.int .i64 0))
      rw [← hW5]
      clear hW5 o5 hW2
      refine ⟨_, _, run_endRound (some .ret) hL5, .inr ⟨rfl, ?_⟩⟩
      rw [HJxd.out]
      have hrc : ({ { rec .ready none with state := .busy } with state := if (some Code.ret).isNone then LoopState.ready else LoopState.done, pending := some Code.ret } : Loop) = rec .done (some .ret) := by rw [Hrec.out]; rfl
      have oo : ∀ b, b ≠ D + 1 → (W5.putObj (D + 1) (.loop { { rec .ready none with state := .busy } with state := if (some Code.ret).isNone then LoopState.ready else LoopState.done, pending := some Code.ret })).heap[b]? = W5.heap[b]? := fun b hb => World.putObj_heap_other hb
      refine ⟨?_, (oo D (by omega)).trans ((o5' D (by omega) (by omega)).trans ((o2 D (by omega)).trans j4)), hB5.grown (grownBy_putObj' _ _ _) hB5.size (fun r e => by cases e; omega), g, by omega, by omega, ?_, ?_, ?_⟩
      · rw [World.putObj_heap_same (by rw [hz5]; exact hDW), hrc]
      · have h9 := q6.cell 0
        rw [← hsv]
        exact (World.cell?_of_block (a := ⟨w.heap.size + 1, 0, none⟩) (oo (w.heap.size + 1) (by omega))).trans (by simpa using h9)
      · have h9 := q7.cell 0
        exact (World.cell?_of_block (a := ⟨w.heap.size + 2, 0, none⟩) (oo (w.heap.size + 2) (by omega))).trans (by simpa using h9)
      · exact SlOf.block Hp.out ((oo g (by omega)).trans ((o5' g (by omega) (by omega)).trans (o2 g (by omega)))) (by simp [hz5])
    · have hki2 : ((k : Int) == (i : Int)) = false := by simp; omega
      have hki3 : (k == i) = false := by simpa using hki
      gi_wp2
      obtain ⟨hW2, o2, hL2⟩ := HX.out
      obtain ⟨j2, j3, j4, j5, j6, j7⟩ := Hj.out
      refine ⟨_, _, run_endRound none hL2, .inl ⟨rfl, ?_, ?_⟩⟩
      · rw [HJd.out]
        have hrc : ({ { rec .ready none with state := .busy } with state := if (none : Option Code).isNone then LoopState.ready else LoopState.done, pending := none } : Loop) = rec .ready none := by rw [Hrec.out]; rfl
        have oo : ∀ b, b ≠ D + 1 → (W2.putObj (D + 1) (.loop { { rec .ready none with state := .busy } with state := if (none : Option Code).isNone then LoopState.ready else LoopState.done, pending := none })).heap[b]? = W2.heap[b]? := fun b hb => World.putObj_heap_other hb
        have hB2 : Below w.heap.size w W2 := by
          rw [hW2]
          exact j2.trans ((Below.refl w.heap.size W).grown (grownBy_putObj' W (D + 1) _) j2.size (fun r e => by cases e; omega))
        refine ⟨by omega, hB2.grown (grownBy_putObj' _ _ _) hB2.size (fun r e => by cases e; omega), ?_, (oo D (by omega)).trans ((o2 D (by omega)).trans j4), (oo _ (by omega)).trans R5.out, (oo _ (by omega)).trans R6.out, (oo _ (by omega)).trans R7.out⟩
        rw [World.putObj_heap_same (by rw [hz2]; exact hDW), hrc]
      · refine ⟨?_, ?_, ?_, by simp [hz2], fun b hb hne => ?_⟩
        · rw [hW2]; rfl
        · rw [hW2]; rfl
        · rw [hW2]; rfl
        · have hb1 : b ≠ D + 1 := fun h9 => hne (by rw [h9])
          exact (World.putObj_heap_other hb1).trans (o2 b hb1)
  · have := kB.cell 0
    simpa using this
  · have := kR.cell 0
    simpa using this
  · rw [HJd.out]
    exact ⟨Nat.zero_le _, hw1, hL1, hD1, k5, k6, k7⟩
  · rintro e W5 ⟨hv, hJf | hJf⟩
    · rw [HJd.out] at hJf
      have := lt_of_get Hi.out
      omega
    · rw [HJxd.out] at hJf
      obtain ⟨j1, j2, j3, g, hgD, hgL, j4, j5, j6⟩ := hJf
      have o1 : ∀ b, b ≠ D + 1 → b ≠ D → ((W5.putObj (D + 1) (.loop (rec .exhausted (some .ret)))).putObj D (.deferred none)).heap[b]? = W5.heap[b]? := fun b h1 h2 => (World.putObj_heap_other h2).trans (World.putObj_heap_other h1)
      have hD5 : D < W5.heap.size := (Array.getElem?_eq_some_iff.1 j2).1
      have oA := o1 (w.heap.size + 1) (by omega) (by omega)
      have oB := o1 (w.heap.size + 2) (by omega) (by omega)
      refine ⟨hv, j1, by simp, .inl ⟨_, _, rfl, run_takeDeferred (show (W5.putObj (D + 1) (.loop (rec .exhausted (some .ret)))).heap[D]? = some (.deferred (some [])) from (World.putObj_heap_other (by omega)).trans j2), ?_⟩⟩
      refine ⟨_, results_cc1 (gp := w.heap.size + 1) (gq := w.heap.size + 2) rfl rfl rfl ((World.cell?_of_block (a := ⟨w.heap.size + 1, 0, none⟩) oA).trans j4) ((World.cell?_of_block (a := ⟨w.heap.size + 2, 0, none⟩) oB).trans j5) Tryz.underlying74 Tryz.underlying38 rfl rfl, some ⟨g, 0, none⟩, rfl, ?_, ?_⟩
      · exact SlOf.block j6 (o1 _ hgL (by omega)) (by simp)
      · refine ⟨j3.os, j3.tape, j3.output, by simpa using j3.size, fun b hb => (o1 b (by omega) (by omega)).trans (j3.block b hb)⟩
end Go.Proofs.YtpmipoljnchheaaGreat
