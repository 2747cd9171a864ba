/- The iterator over all laid bars, with their paths: for whatever loop's body keeps its word. The path of a laid bar: a range over the iterator of all laid bars. The main legs of all laid bars. A set of whole numbers, kept as a map from int to bool that the call made. -/
import Derived.Test.YtpmipoljnchheaaGreatMai
import Derived.RangeFuncNested
import Derived.RangeFuncBound
import Derived.RangeFuncCalls
import Derived.RangeFuncLeaves
import Derived.Shelf.Abstract
import Derived.Shelf.RegionOpen
import Derived.OwnWalkIn
import Derived.TacticsInMore
import Derived.LoopNIn
import Derived.LoopIn
import Derived.Deep.RegionWith
import Derived.BigRegion
import Derived.Test.YtpmipoljnchheaaGreatMaa
import Derived.Maps.Own
import Derived.Maps.OwnOps
import Derived.Maps.Views
namespace Go.Proofs.YtpmipoljnchheaaGreat
open Go.RowKit
attribute [local go_sem] Oper.semAt_some

/-! A list of points as the cells of a block. -/
def ptsCells (L : List Pt) : Array Value := (L.flatMap encPt).toArray
theorem ptsCells_get {L : List Pt} {m : Nat} {p : Pt} (h : L[m]? = some p) : (ptsCells L)[m * 3]? = some (.int .i64 p.1) ∧ (ptsCells L)[m * 3 + 1]? = some (.int .i64 p.2.1) ∧ (ptsCells L)[m * 3 + 2]? = some (.int .i64 p.2.2) := by
  have key := flatMap_get encPt_len L m p h
  unfold ptsCells
  simp only [List.getElem?_toArray]
  exact ⟨by simpa using key 0 _ rfl, key 1 _ rfl, key 2 _ rfl⟩
theorem flat_set : ∀ (L : List Pt) (m : Nat) (a b c : Int), m < L.length → (((L.flatMap encPt).set (m * 3) (.int .i64 a)).set (m * 3 + 1) (.int .i64 b)).set (m * 3 + 2) (.int .i64 c) = (L.set m (a, b, c)).flatMap encPt := by
  intro L
  induction L with
  | nil => intro m a b c h; simp at h
  | cons x L ih =>
    intro m a b c h
    cases m with
    | zero => simp [encPt]
    | succ m =>
      have h9 := ih m a b c (by simpa using h)
      rw [List.set_cons_succ, List.flatMap_cons, List.flatMap_cons, ← h9]
      have e1 : (m + 1) * 3 = 3 + m * 3 := by omega
      rw [e1]
      simp only [encPt, List.cons_append, List.nil_append]
      rw [show 3 + m * 3 + 2 = m * 3 + 2 + 1 + 1 + 1 by omega, show 3 + m * 3 + 1 = m * 3 + 1 + 1 + 1 + 1 by omega, show 3 + m * 3 = m * 3 + 1 + 1 + 1 by omega]
      simp only [List.set_cons_succ]
theorem ptsCells_set {L : List Pt} {m : Nat} (h : m < L.length) (a b c : Int) : (((ptsCells L).setIfInBounds (m * 3) (.int .i64 a)).setIfInBounds (m * 3 + 1) (.int .i64 b)).setIfInBounds (m * 3 + 2) (.int .i64 c) = ptsCells (L.set m (a, b, c)) := by
  unfold ptsCells
  rw [← flat_set L m a b c h]
  simp only [List.setIfInBounds_toArray]
theorem made_pts (n : Nat) : madeCells #[.int .i64 0, .int .i64 0, .int .i64 0] (n * 3) = ptsCells (List.replicate n (0, 0, 0)) := by
  have h1 : ∀ k, (List.replicate k ((0, 0, 0) : Pt)).flatMap encPt = List.replicate (k * 3) (Value.int .i64 0) := by
    intro k
    induction k with
    | zero => rfl
    | succ k ih => rw [List.replicate_succ, List.flatMap_cons, ih, show (k + 1) * 3 = k * 3 + 1 + 1 + 1 by omega]; rfl
  unfold ptsCells
  rw [h1]
  apply Array.ext
  · simp [size_madeCells]
  · intro i hi _
    simp only [madeCells, Array.getElem_map, List.getElem_toArray, List.getElem_replicate]
    have : i % 3 < 3 := Nat.mod_lt _ (by omega)
    simp only [Array.getElem_range, List.size_toArray, List.length_cons, List.length_nil]
    rcases (show i % 3 = 0 ∨ i % 3 = 1 ∨ i % 3 = 2 by omega) with h | h | h <;> rw [h] <;> rfl
/-- The first m points final, the others as they were made. -/
def fillTo (F : List Pt) (n m : Nat) : List Pt := F.take m ++ List.replicate (n - m) (0, 0, 0)
theorem fillTo_len {F : List Pt} {n m : Nat} (h : F.length = n) (hm : m ≤ n) : (fillTo F n m).length = n := by simp [fillTo, h]; omega
theorem fillTo_zero (F : List Pt) (n : Nat) : fillTo F n 0 = List.replicate n (0, 0, 0) := by simp [fillTo]
theorem fillTo_all {F : List Pt} {n : Nat} (h : F.length = n) : fillTo F n n = F := by simp [fillTo, ← h]
theorem fillTo_set {F : List Pt} {n m : Nat} {p : Pt} (h : F.length = n) (hp : F[m]? = some p) : (fillTo F n m).set m p = fillTo F n (m + 1) := by
  have hm := lt_of_get hp
  unfold fillTo
  rw [take_snoc' hp, List.set_append_right _ _ (by simp; omega)]
  have e1 : m - (F.take m).length = 0 := by simp; omega
  rw [e1]
  obtain ⟨d, hd⟩ : ∃ d, n - m = d + 1 := ⟨n - m - 1, by omega⟩
  rw [hd, List.replicate_succ, List.set_cons_zero, show n - (m + 1) = d by omega]
  simp
theorem set_set {L : List Pt} {m : Nat} (p q : Pt) : (L.set m p).set m q = L.set m q := by simp

/-! What a round of the loop keeps: but for the loop's own record all lies as it lay. -/
theorem cell_round {W W' : World} {l : Nat} {o : Obj} (hg : W.grownBy W' (some l)) (hl : W.heap[l]? = some o) (ho : o.isCells = false) {a : Addr} {v : Value} (h : W.cell? a = some v) : W'.cell? a = some v :=
  cell_kept h hg (fun r e => by cases e; exact ⟨o, hl, ho⟩)
theorem SlOf.round {α : Type} {enc : α → List Value} {size B : Nat} {A : Option Addr} {L : List α} {W W' : World} {l : Nat} {o : Obj} (h : SlOf W B size (Flat enc) A L) (hg : W.grownBy W' (some l)) (hl : W.heap[l]? = some o) (ho : o.isCells = false) : SlOf W' B size (Flat enc) A L := by
  intro hn
  obtain ⟨b, off, hA, hb, hc⟩ := h hn
  refine ⟨b, off, hA, hb, fun k x hx => ?_⟩
  obtain ⟨vs, hs, hr, hv⟩ := hc k x hx
  exact ⟨vs, hs, hr, fun j v hj => cell_round hg hl ho (hv j v hj)⟩
theorem Blk.round {W W' : World} {l g : Nat} {t : TypeId} {cs : Array Value} {o : Obj} (h : Blk W g t cs) (hg : W.grownBy W' (some l)) (hl : W.heap[l]? = some o) (ho : o.isCells = false) : Blk W' g t cs :=
  h.grown hg (by intro e; cases e; unfold Blk at h; rw [hl] at h; injection h with h; rw [h] at ho; cases ho)
theorem infoPt : (Tryz.prog.info? 44).map (fun i => (i.zero, i.size, i.bytes)) = some (some (.agg #[.int .i64 0, .int .i64 0, .int .i64 0]), 3, 24) := by kernel_rfl
theorem run_make_pts (n : Nat) (hn : n ≤ 1000) (w : World) :
    (Instr.makeSlice 74 (.int .i64 (n : Int)) (.int .i64 (n : Int))).run Tryz.prog w = .ok (.slice (some ⟨w.heap.size, 0, none⟩) n n) (w.alloc (.cells (ptsCells (List.replicate n (0, 0, 0))) 44)) := by
  obtain ⟨i, hi, hz, hs, hb⟩ := info_parts infoPt
  have h := run_make (P := Tryz.prog) (w := w) 74 44 i _ Tryz.underlying74 hi hz .i64 .i64 n n (by omega) (Int.le_refl _) (by rw [hb]; omega) (by omega)
  rw [hs] at h
  simp only [Int.toNat_natCast] at h
  rw [h, ← made_pts]
  rfl
abbrev laidIs (bars : List BarD) (runs : List RunD) (i : Nat) (ld : LaidD) : Prop := (laidAll bars runs)[i]? = some ld
set_option maxHeartbeats 4000000 in
set_option maxRecDepth 100000 in
theorem all1_walk (A3 A4 : Option Addr) (bars : List BarD) (runs : List RunD) (n3 c3 n4 c4 n₀ gB gR l : Nat) (J : Nat → World → Prop) (Jx : World → Prop)
    (hJ : ∀ i W W', J i W → Below W.heap.size W W' → J i W') (hl : ∀ i W, J i W → ∃ o : Obj, W.heap[l]? = some o ∧ o.isCells = false)
    (w : World) (hY : ∀ (i : Nat) (ld : LaidD) (g m c : Nat) (W : World), J i W → (laidAll bars runs)[i]? = some ld → m = ld.pts.length → c = m → w.heap.size ≤ g → PtsAt W W.heap.size (some ⟨g, 0, none⟩) ld.pts →
      YieldAt Fence.wide 2 Tryz.prog l #[.int .i64 i, .slice (some ⟨g, 0, none⟩) m c] W fun e W' => (e = .returned (.bool true) ∧ J (i + 1) W' ∧ W.grownBy W' (some l)) ∨ (e = .returned (.bool false) ∧ Jx W'))
    (h3 : BarsAt w n₀ A3 bars) (h4 : RunsAt w n₀ A4 runs) (hn0 : n₀ ≤ w.heap.size) (hln : n₀ ≤ l) (cB : w.cell? ⟨gB, 0, none⟩ = some (.slice A3 n3 c3)) (cR : w.cell? ⟨gR, 0, none⟩ = some (.slice A4 n4 c4)) (hgB : gB < n₀) (hgR : gR < n₀)
    (l3 : n3 = bars.length) (l4 : n4 = runs.length) (m3 : n3 ≤ 60000) (htame : Tame bars) (hok : laidOk bars runs = true) (h0 : J 0 w) :
    Calls Tryz.prog 114 #[.func (.yield l) #[] #[], .pointer (some ⟨gR, 0, none⟩), .pointer (some ⟨gB, 0, none⟩)] w fun e w' => (∃ v, e = .returned v) ∧ (J (laidAll bars runs).length w' ∨ Jx w') := by
  obtain ⟨hbars, h60, hruns⟩ := laidOk_mem hok
  have HT := hide (fun (W : World) (hz : Below n₀ w W) (r : RunD) (x : BarD) (j : Nat) (hj : idx (markIs r.mark) bars = (j : Int)) (hx : bars[j]? = some x) (ht : turnOk r.tx r.ty = true) => turned_ok A3 bars n3 c3 r x j W (h3.carry hz (Nat.le_refl _)) (Nat.le_trans hn0 hz.size) l3 m3 htame hj hx (hbars x (mem_of_get hx)) ht)
  have Hruns := hide hruns
  have Hbars := hide hbars
  have H4 := hide h4
  have L4 := hide l4
  have hn60 : n4 ≤ 60 := by rw [l4]; exact h60
  have Hlen := hide (laidOk_len hok).2
  have CB := hide (fun (W : World) (hz : Below n₀ w W) => (hz.cell (p := ⟨gB, 0, none⟩) hgB).trans cB)
  have HJ := hide hJ
  have HL := hide hl
  have HY := hide hY
  have H0 := hide h0
  have hgBw : gB < w.heap.size := by omega
  clear h3 h4 l3 l4 m3 htame hok h0 hbars h60 hruns hJ hl hY cB
  go_enter Tryz.func114, Tryz.ntmps114
  go_wp2_with fail
  go_loopw [4, 14] (fun nv iv wr => ∃ j : Nat, j ≤ n4 ∧ iv = .int .i64 j ∧ (∃ N : Nat, nv = .int .i64 N ∧ Hid (N = (laidAll bars (runs.take j)).length) ∧ J N wr) ∧ Below n₀ w wr) (fun _ iv _ => n4 - (intOf iv).toNat)
  case atStart => exact ⟨0, Nat.zero_le _, rfl, ⟨0, rfl, hide rfl, H0.out⟩, Below.refl _ _⟩
  case round =>
    clear H0 cR
    rename World => wo
    obtain ⟨j, hj, rfl, ⟨N, rfl, hN, hJr⟩, hbr⟩ := hrel
    by_cases hlt : j < n4
    · obtain ⟨b, off, r, rfl, hbl, hx, hc⟩ := RunsAt.get (k := j) (H4.out.carry (Flat.carried _) hbr (Nat.le_refl _)) (by rw [← L4.out]; exact hlt)
      have hrk := Hruns.out r (mem_of_get hx)
      obtain ⟨jj, x, hjj, hxx, hrb, htn⟩ := runOk_bar hrk
      obtain ⟨hcn0, hcn1⟩ := runOk_count hrk
      have hal : (N : Int) + r.count ≤ 2000 := by
        have h9 := Hlen.out
        rw [laidAll_split hx, List.length_append, List.length_append, laidRun_of hrb, laidTo_len] at h9
        rw [hN.out]
        omega
      have Hat := hide (fun (q : Nat) (hq : (q : Int) < r.count) => show laidIs bars runs (N + q) ⟨x, ptsOf x r (q : Int)⟩ by rw [hN.out]; exact laid_at hx hrb hq)
      have Hn := hide (show (laidAll bars (runs.take (j + 1))).length = N + r.count.toNat by rw [laidAll_snoc hx, laidRun_of hrb, List.length_append, laidTo_len, hN.out])
      have HTr := hide (fun (W : World) (hz : Below n₀ w W) => HT.out W hz r x jj hjj hxx htn)
      have Hnear := hide (turned_near (Hbars.out x (mem_of_get hxx)) htn)
      have Hplace := hide (runOk_place hrk)
      have Hmul := hide (fun (q : Int) (h0 : 0 ≤ q) (h1 : q < r.count) => runOk_mul hrk h0 h1)
      have Hpts := hide (fun (q : Int) => ptsOf_turned x r q)
      have Htl := hide (show (turnedOf r x).length ≤ 7 by rw [turnedOf_len, pathOf_len]; have := legsOf_len x.code; omega)
      obtain ⟨tl, htl⟩ : ∃ tl, tl = turnedOf r x := ⟨_, rfl⟩
      rw [← htl] at HTr Hnear Htl
      have Hpts := hide (fun (q : Int) => show ptsOf x r q = tl.map (placeOf r q) by rw [htl]; exact Hpts.out q)
      have Hr := hide (show ∀ q : Int, ∀ p : Pt, placeOf r q p = addP (addP p r.place) (mulP q r.step) from fun _ _ => rfl)
      obtain ⟨FT, hFT⟩ : ∃ FT : Int → List Pt, FT = fun q => ptsOf x r q := ⟨_, rfl⟩
      have HatF := hide (fun (q : Nat) (hq : (q : Int) < r.count) => show laidIs bars runs (N + q) ⟨x, FT (q : Int)⟩ by rw [hFT]; exact Hat.out q hq)
      have HFm := hide (fun (q : Int) => show FT q = tl.map (fun p => addP (addP p r.place) (mulP q r.step)) by rw [hFT]; exact Hpts.out q)
      clear Hat Hpts Hr
      obtain ⟨mark, tx, ty, ⟨p1, p2, p3⟩, ⟨s1, s2, s3⟩, cnt⟩ := r
      have q0 := hc 0 _ rfl
      have q1 := hc 1 _ rfl
      have q2 := hc 2 _ rfl
      have q3 := hc 3 _ rfl
      have q4 := hc 4 _ rfl
      have q5 := hc 5 _ rfl
      have q6 := hc 6 _ rfl
      have q7 := hc 7 _ rfl
      have q8 := hc 8 _ rfl
      have q9 := hc 9 _ rfl
      simp only [Nat.add_zero] at q0 q1 q2 q3 q4 q5 q6 q7 q8 q9 hcn0 hcn1 hal HatF HFm Hn Hplace Hmul HTr
      have hbw : b < wo.heap.size := by have := hbr.size; omega
      have cb := CB.out wo hbr
      have hgw : gB < wo.heap.size := by have := hbr.size; omega
      have hnr : n₀ ≤ wo.heap.size := Nat.le_trans hn0 hbr.size
      have HR := hide (hbr.alloc hnr (.cells #[.string mark, .int .i64 tx, .int .i64 ty, .int .i64 p1, .int .i64 p2, .int .i64 p3, .int .i64 s1, .int .i64 s2, .int .i64 s3, .int .i64 cnt] 79))
      have HJr := hide (HJ.out _ _ _ hJr (below_new wo (.cells #[.string mark, .int .i64 tx, .int .i64 ty, .int .i64 p1, .int .i64 p2, .int .i64 p3, .int .i64 s1, .int .i64 s2, .int .i64 s3, .int .i64 cnt] 79)))
      have hNk := hide hN
      clear hx hbl hc hrk hjj hxx hrb htn htl hFT hN hJr hbr HT
      go_wp2_with fail
      refine (HTr.out _ HR.out).mono ?_
      rintro e w2 ⟨A5, c5, rfl, hpts, hb2⟩
      have K1 := hide ((Blk.new wo 79 #[.string mark, .int .i64 tx, .int .i64 ty, .int .i64 p1, .int .i64 p2, .int .i64 p3, .int .i64 s1, .int .i64 s2, .int .i64 s3, .int .i64 cnt]).keep hb2)
      have HR2 := hide (HR.out.trans (hb2.mono (by simp; omega)))
      have HJ2 := hide (HJ.out _ _ _ HJr.out hb2)
      have Hpts := hide hpts
      have hn2 := hide (Nat.le_trans hn0 HR2.out.size)
      obtain ⟨ln, hlnn⟩ : ∃ ln, ln = tl.length := ⟨_, rfl⟩
      rw [← hlnn]
      have Hln := hide hlnn
      have hl7 : ln ≤ 7 := by rw [hlnn]; exact Htl.out
      have e9 := K1.out.cell 9
      simp at e9
      have lk1 := K1.out.lt
      clear hlnn hb2 hpts HTr q0 q1 q2 q3 q4 q5 q6 q7 q8 q9
      go_wp2_with fail
      go_loopw [4, 23] (fun nv iv wi => ∃ q : Nat, (q : Int) ≤ cnt ∧ iv = .int .i64 q ∧ nv = .int .i64 ((N + q : Nat) : Int) ∧ J (N + q) wi ∧ Blk wi wo.heap.size 79 #[.string mark, .int .i64 tx, .int .i64 ty, .int .i64 p1, .int .i64 p2, .int .i64 p3, .int .i64 s1, .int .i64 s2, .int .i64 s3, .int .i64 cnt] ∧ PtsAt wi w2.heap.size A5 tl ∧ Below n₀ w wi ∧ w2.heap.size ≤ wi.heap.size) (fun _ iv _ => cnt.toNat - (intOf iv).toNat)
      case atStart => exact ⟨0, by omega, rfl, rfl, HJ2.out, K1.out, Hpts.out, HR2.out, Nat.le_refl _⟩
      case round =>
        clear K1 HR2 HJ2 HJr HR Hpts hn2 e9 lk1 cb hgw
        rename World => wq
        obtain ⟨q, hq, rfl, rfl, hJq, k1, hpq, hbq, hszq⟩ := hrel
        have K1 := hide k1
        have HJq := hide hJq
        have Hpq := hide hpq
        have HBq := hide hbq
        clear k1 hJq hpq hbq
        by_cases hql : (q : Int) < cnt
        · have hatq := hide (HatF.out q hql)
          obtain ⟨F, hF⟩ : ∃ F, F = FT (q : Int) := ⟨_, rfl⟩
          rw [← hF] at hatq
          have HFm2 := hide (show F = tl.map (fun p => addP (addP p (p1, p2, p3)) (mulP (q : Int) (s1, s2, s3))) by rw [hF]; exact HFm.out (q : Int))
          have HFl := hide (show F.length = ln by rw [HFm2.out, List.length_map, Hln.out])
          have Hmuq := hide (Hmul.out (q : Int) (by omega) hql)
          have hmk := run_make_pts ln (by omega)
          have hNq : N + q ≤ 2000 := by omega
          have HJo := hide (HJ.out _ _ _ HJq.out (below_new wq (.cells (ptsCells (List.replicate ln (0, 0, 0))) 44)))
          have KO := hide (Blk.new wq 44 (ptsCells (fillTo F ln 0)))
          rw [fillTo_zero] at KO
          clear hF
          go_wp2_with fail
          go_loopw [31] (fun iv wz => ∃ m : Nat, m ≤ ln ∧ iv = .int .i64 m ∧ Blk wz wq.heap.size 44 (ptsCells (fillTo F ln m)) ∧ Below wq.heap.size wq wz ∧ wq.heap.size < wz.heap.size) (fun iv _ => ln - (intOf iv).toNat)
          case atStart => exact ⟨0, Nat.zero_le _, rfl, by rw [fillTo_zero]; exact KO.out, below_new wq _, by simp⟩
          case round =>
            clear KO hmk HJo
            obtain ⟨m, hm, rfl, kO, hbz, hszz⟩ := hrel
            by_cases hml : m < ln
            · obtain ⟨b5, o5, ⟨x1, x2, x3⟩, rfl, hbl5, hx5, x4, x5, x6⟩ := PtsAt.get (k := m) (Hpq.out.carry (Flat.carried _) (hbz.mono hszq) (Nat.le_refl _)) (by rw [← Hln.out]; exact hml)
              have kk := K1.out.below hbz K1.out.lt
              have e3 := kk.cell 3
              have e4 := kk.cell 4
              have e5 := kk.cell 5
              simp at e3 e4 e5
              have lk := kk.lt
              have hbw5 : b5 < wr.heap.size := by omega
              have hFp := hide (show F[m]? = some (addP (addP (x1, x2, x3) (p1, p2, p3)) (mulP (q : Int) (s1, s2, s3))) by rw [HFm2.out, List.getElem?_map, hx5]; rfl)
              have hxn := Hnear.out _ (mem_of_get hx5)
              have HP1 := hide (fun (W : World) => plus_any (x1, x2, x3) (p1, p2, p3) 1 W (nearBy_mono hxn (by omega)) (by rw [mulP_one]; exact nearBy_mono Hplace.out (by omega)))
              have Hzn := hide (nearBy_sum hxn Hplace.out)
              have KK := hide kk
              have KO := hide kO
              have HBz := hide hbz
              simp only at x4 x5 x6
              clear hx5 hbl5 kk kO hbz hxn
              go_wp2_with fail
              refine (HP1.out _).mono ?_
              rintro e w4 ⟨z, rfl, hz, hb4⟩
              have hz2 := hz.out
              rw [mulP_one] at hz2
              rw [← hz2] at hFp Hzn
              have KK := hide ((KK.out.alloc (.cells #[.int .i64 x1, .int .i64 x2, .int .i64 x3] 44)).keep hb4)
              have KO := hide ((KO.out.alloc (.cells #[.int .i64 x1, .int .i64 x2, .int .i64 x3] 44)).keep hb4)
              have HBz := hide (below_step (HBz.out.alloc HBz.out.size (.cells #[.int .i64 x1, .int .i64 x2, .int .i64 x3] 44)) hb4 (Nat.le_refl _))
              obtain ⟨z1, z2, z3⟩ := z
              have hfl := fillTo_len HFl.out hm
              obtain ⟨pz, hpz⟩ : ∃ p, (fillTo F ln m)[m]? = some p := ⟨_, List.getElem?_eq_getElem (by omega)⟩
              obtain ⟨g0, g1, g2⟩ := ptsCells_get hpz
              have c0 := (KO.out.cell (m * 3)).trans g0
              have c1 := (KO.out.cell (m * 3 + 1)).trans g1
              have c2 := (KO.out.cell (m * 3 + 2)).trans g2
              have f0 := KO.out.frozen (m * 3)
              have f1 := KO.out.frozen (m * 3 + 1)
              have f2 := KO.out.frozen (m * 3 + 2)
              have lO := KO.out.lt
              have hset := hide (ptsCells_set (L := fillTo F ln m) (m := m) (by omega) z1 z2 z3)
              have hneq : wo.heap.size ≠ wq.heap.size := by have := K1.out.lt; omega
              clear hz hz2 hb4 g0 g1 g2 hpz HP1 e3 e4 e5 x4 x5 x6
              have HFl2 := hide HFl.out
              have k6 := KK.out.cell 6
              have k7 := KK.out.cell 7
              have k8 := KK.out.cell 8
              simp at k6 k7 k8
              have lk4 := KK.out.lt
              by_cases hq0 : q = 0
              · have d0 : decide (0 < q) = false := by simp; omega
                have hfin := hide (show (fillTo F ln m).set m (z1, z2, z3) = fillTo F ln (m + 1) by
                  refine fillTo_set HFl.out ?_
                  rw [hFp.out, hq0]
                  simp [addP, mulP])
                have KF := ((KO.out.set_ (m * 3) (.int .i64 z1)).set_ (m * 3 + 1) (.int .i64 z2)).set_ (m * 3 + 2) (.int .i64 z3)
                rw [hset.out, hfin.out] at KF
                have KF2 := hide KF
                clear KF hq0 hset hfin k6 k7 k8
                go_wp2_with fail
                go_roundw
                case rel => first | exact ⟨m + 1, by omega, by go_num, KF2.out, ((HBz.out.setCell (p := ⟨wq.heap.size, m * 3, none⟩) (Nat.le_refl _) _).setCell (p := ⟨wq.heap.size, m * 3 + 1, none⟩) (Nat.le_refl _) _).setCell (p := ⟨wq.heap.size, m * 3 + 2, none⟩) (Nat.le_refl _) _, by simp only [World.size_setCell]; exact lO⟩ | ((repeat apply Exists.intro); exact ⟨⟨m + 1, by omega, by go_num, KF2.out, ((HBz.out.setCell (p := ⟨wq.heap.size, m * 3, none⟩) (Nat.le_refl _) _).setCell (p := ⟨wq.heap.size, m * 3 + 1, none⟩) (Nat.le_refl _) _).setCell (p := ⟨wq.heap.size, m * 3 + 2, none⟩) (Nat.le_refl _) _, by simp only [World.size_setCell]; exact lO⟩, rfl⟩)
                case measure => simp [intOf]; omega
              · have d0 : decide (0 < q) = true := by simp; omega
                have KF := ((KO.out.set_ (m * 3) (.int .i64 z1)).set_ (m * 3 + 1) (.int .i64 z2)).set_ (m * 3 + 2) (.int .i64 z3)
                rw [hset.out] at KF
                have HK2 := hide (((KK.out.far (p := ⟨wq.heap.size, m * 3, none⟩) hneq (.int .i64 z1)).far (p := ⟨wq.heap.size, m * 3 + 1, none⟩) hneq (.int .i64 z2)).far (p := ⟨wq.heap.size, m * 3 + 2, none⟩) hneq (.int .i64 z3))
                have HBs := hide (((HBz.out.setCell (p := ⟨wq.heap.size, m * 3, none⟩) (Nat.le_refl _) (.int .i64 z1)).setCell (p := ⟨wq.heap.size, m * 3 + 1, none⟩) (Nat.le_refl _) (.int .i64 z2)).setCell (p := ⟨wq.heap.size, m * 3 + 2, none⟩) (Nat.le_refl _) (.int .i64 z3))
                have KF2 := hide KF
                obtain ⟨w5, hw5⟩ : ∃ w5, w5 = ((w4.setCell ⟨wq.heap.size, m * 3, none⟩ (.int .i64 z1)).setCell ⟨wq.heap.size, m * 3 + 1, none⟩ (.int .i64 z2)).setCell ⟨wq.heap.size, m * 3 + 2, none⟩ (.int .i64 z3) := ⟨_, rfl⟩
                rw [← hw5] at HK2 HBs KF2
                have HP2 := hide (fun (W : World) => plus_any (z1, z2, z3) (s1, s2, s3) (q : Int) W Hzn.out Hmuq.out)
                have hfl2 : ((fillTo F ln m).set m (z1, z2, z3)).length = ln := by rw [List.length_set]; exact hfl
                obtain ⟨g0, g1, g2⟩ := ptsCells_get (show ((fillTo F ln m).set m (z1, z2, z3))[m]? = some (z1, z2, z3) by rw [List.getElem?_set_self (by omega)])
                have HG := hide (And.intro g0 (And.intro g1 g2))
                have c0 := (KF2.out.cell (m * 3)).trans g0
                have c1 := (KF2.out.cell (m * 3 + 1)).trans g1
                have c2 := (KF2.out.cell (m * 3 + 2)).trans g2
                have k6 := HK2.out.cell 6
                have k7 := HK2.out.cell 7
                have k8 := HK2.out.cell 8
                simp at k6 k7 k8
                have l5 := KF2.out.lt
                have l5k := HK2.out.lt
                have Hw5 := hide hw5
                have hset2 := hide (fun (y1 y2 y3 : Int) (hy : F[m]? = some (y1, y2, y3)) => show (((ptsCells ((fillTo F ln m).set m (z1, z2, z3))).setIfInBounds (m * 3) (.int .i64 y1)).setIfInBounds (m * 3 + 1) (.int .i64 y2)).setIfInBounds (m * 3 + 2) (.int .i64 y3) = ptsCells (fillTo F ln (m + 1)) by
                  rw [ptsCells_set (by omega), set_set, fillTo_set HFl.out hy])
                clear KF hset hq0 hw5 g0 g1 g2 KO KK HBz
                go_wp2_with fail
                rw [← Hw5.out]
                go_region_with (go_at_call 116; refine (HP2.out _).mono ?_; rintro e w6 ⟨y, rfl, hy, hb6⟩; obtain ⟨y1, y2, y3⟩ := y; have KF6 := (KF2.out.drew).keep hb6; have c0 := (KF6.cell (m * 3)).trans HG.out.1; have c1 := (KF6.cell (m * 3 + 1)).trans HG.out.2.1; have c2 := (KF6.cell (m * 3 + 2)).trans HG.out.2.2; have f0 := KF6.frozen (m * 3); have f1 := KF6.frozen (m * 3 + 1); have f2 := KF6.frozen (m * 3 + 2); have l6 := KF6.lt; have KF7 := hide KF6; have Hb6 := hide (below_step (HBs.out.drew) hb6 (Nat.le_refl _)); have Hy := hide hy; clear KF6 hb6 hy)
                all_goals
                  have hyf : F[m]? = some (y1, y2, y3) := by rw [hFp.out]; exact congrArg some (Hy.out.out).symm
                  have KF := ((KF7.out.set_ (m * 3) (.int .i64 y1)).set_ (m * 3 + 1) (.int .i64 y2)).set_ (m * 3 + 2) (.int .i64 y3)
                  rw [hset2.out y1 y2 y3 hyf] at KF
                  have KF8 := hide KF
                  clear KF hyf k6 k7 k8
                  go_wp2_with fail
                  go_roundw
                  case rel => first | exact ⟨m + 1, by omega, by go_num, KF8.out, ((Hb6.out.setCell (p := ⟨wq.heap.size, m * 3, none⟩) (Nat.le_refl _) _).setCell (p := ⟨wq.heap.size, m * 3 + 1, none⟩) (Nat.le_refl _) _).setCell (p := ⟨wq.heap.size, m * 3 + 2, none⟩) (Nat.le_refl _) _, by simp only [World.size_setCell]; exact l6⟩ | ((repeat apply Exists.intro); exact ⟨⟨m + 1, by omega, by go_num, KF8.out, ((Hb6.out.setCell (p := ⟨wq.heap.size, m * 3, none⟩) (Nat.le_refl _) _).setCell (p := ⟨wq.heap.size, m * 3 + 1, none⟩) (Nat.le_refl _) _).setCell (p := ⟨wq.heap.size, m * 3 + 2, none⟩) (Nat.le_refl _) _, by simp only [World.size_setCell]; exact l6⟩, rfl⟩)
                  case measure => simp [intOf]; omega
            · obtain rfl : m = ln := by omega
              rw [fillTo_all HFl.out] at kO
              have Hat9 := hide (show PtsAt wr wr.heap.size (some ⟨wq.heap.size, 0, none⟩) F from blk_sl encPt_len kO (fun j u hu => by unfold ptsCells; simpa using hu) hszz)
              have hJ9 := HJ.out _ _ _ HJq.out hbz
              have hwwq : w.heap.size ≤ wq.heap.size := HBq.out.size
              obtain ⟨fn, tmps, assign, body, hy, hR⟩ := HY.out (N + q) ⟨x, F⟩ wq.heap.size m m wr hJ9 hatq.out HFl.out.symm rfl hwwq Hat9.out
              rw [Int.natCast_add] at hy
              go_upto_region 16 with fail
              refine (wpIn_wide (n := 3)).1 ?_
              obtain ⟨o, ho, hoc⟩ := HL.out _ _ hJ9
              have hKr := K1.out.below hbz K1.out.lt
              have hPr := Hpq.out.carry (Flat.carried _) (hbz.mono hszq) (Nat.le_refl _)
              have hnq : n₀ ≤ wq.heap.size := Nat.le_trans hn0 HBq.out.size
              have hBr := HBq.out.trans (hbz.mono hnq)
              have hsr := Nat.le_trans hszq hbz.size
              have hnr : n₀ ≤ wr.heap.size := Nat.le_trans hnq hbz.size
              have HX := hide (And.intro ho (And.intro hoc (And.intro hKr (And.intro hPr (And.intro hBr (And.intro hsr hnr))))))
              clear kO hbz hJ9 ho hoc hKr hPr hBr hsr hnr
              gi_wp2
              refine hR.mono ?_
              rintro e W3 (⟨rfl, hJ3, hk3⟩ | ⟨rfl, hJx3⟩)
              · obtain ⟨ho, hoc, hKr, hPr, hBr, hsr, hnr⟩ := HX.out
                have K1r := hide (hKr.round hk3 ho hoc)
                have Hpr := hide (hPr.round hk3 ho hoc)
                have HBr := hide (hBr.trans ((Below.refl n₀ wr).grown hk3 hnr (fun k e => by cases e; exact hln)))
                have Hsr := hide (Nat.le_trans hsr hk3.size)
                clear ho hoc hKr hPr hBr hsr hnr hk3 HX hR hy
                gi_wp2
                go_wp2_with fail
                go_roundw
                case rel => first | exact ⟨q + 1, by omega, by go_num, by go_num, hJ3, K1r.out, Hpr.out, HBr.out, Hsr.out⟩ | ((repeat apply Exists.intro); exact ⟨⟨q + 1, by omega, by go_num, by go_num, hJ3, K1r.out, Hpr.out, HBr.out, Hsr.out⟩, rfl⟩)
                case measure => simp [intOf]; omega
              · gi_wp2
                go_wp2_with fail
                refine bodyPost_ret (results_none rfl _ _ _) rfl ?_
                exact ⟨⟨_, rfl⟩, .inr hJx3⟩
        · have hq9 : (q : Int) = cnt := by omega
          have hN9 := hide (show (laidAll bars (runs.take (j + 1))).length = N + q by rw [Hn.out]; omega)
          go_wp2_with fail
          go_roundw
          case rel => exact ⟨j + 1, by omega, by go_num, ⟨N + q, by simp, hide hN9.out.symm, HJq.out⟩, HBq.out⟩
          case measure => simp [intOf]; omega
    · obtain rfl : j = n4 := by omega
      have hfin := hide (show N = (laidAll bars runs).length by rw [hN.out, L4.out, List.take_length])
      go_wp2_with fail
      go_end0
      exact ⟨⟨_, rfl⟩, .inl (by rw [← hfin.out]; exact hJr)⟩
end Go.Proofs.YtpmipoljnchheaaGreat
namespace Go.Proofs.YtpmipoljnchheaaGreat
open Go.RowKit
attribute [local go_sem] Oper.semAt_some

theorem run_loadVar1 {P : Program} {w : World} {g : Nat} {v : Value} {ty : TypeId} {d : TypeDesc} (hc : w.cell? ⟨g, 0, none⟩ = some v) (hu : P.underlying ty = some d) (hd : (match d with | .struct _ | .array _ _ => true | _ => false) = false) :
    (loadVar ty ⟨g, 0, none⟩).run P w = .ok v w := by
  have hagg : (isAgg ty).run P w = .ok false w := by
    unfold isAgg
    rw [Sem.run_bind, run_underlying hu w]
    cases d <;> simp_all
  simp [loadVar, Sem.run_bind, hagg]
  simp [go_sem, hc]
/-- A function's results where both lie in cells of one cell each. -/
theorem results_cc1 {P : Program} {fn : Func} {p q : Tmp} {tp tq : TypeId} (h : fn.results = #[.cell p tp, .cell q tq]) {tmps : Array Value} {w : World} {gp gq : Nat} {vp vq : Value} {dp dq : TypeDesc}
    (hp : tmps.getD p undef = .pointer (some ⟨gp, 0, none⟩)) (hq : tmps.getD q undef = .pointer (some ⟨gq, 0, none⟩)) (cp : w.cell? ⟨gp, 0, none⟩ = some vp) (cq : w.cell? ⟨gq, 0, none⟩ = some vq)
    (hup : P.underlying tp = some dp) (huq : P.underlying tq = some dq) (hdp : (match dp with | .struct _ | .array _ _ => true | _ => false) = false) (hdq : (match dq with | .struct _ | .array _ _ => true | _ => false) = false) :
    (results fn tmps).run P w = .ok (.tuple #[vp, vq]) w := by
  have hp' : tmps[p]?.getD undef = .pointer (some ⟨gp, 0, none⟩) := by simpa using hp
  have hq' : tmps[q]?.getD undef = .pointer (some ⟨gq, 0, none⟩) := by simpa using hq
  simp [results, h, hp', hq', asAddr, run_loadVar1 cp hup hdp, run_loadVar1 cq huq hdq]
set_option maxHeartbeats 400000 in
theorem all_any (A3 A4 : Option Addr) (n3 c3 n4 c4 : Nat) (w : World) :
    Calls Tryz.prog 85 #[.slice A3 n3 c3, .slice A4 n4 c4] w fun e w' => e = .returned (.func (.func 114) #[] #[.pointer (some ⟨w.heap.size + 1, 0, none⟩), .pointer (some ⟨w.heap.size, 0, none⟩)]) ∧
      w' = (w.alloc (.cells #[.slice A3 n3 c3] 27)).alloc (.cells #[.slice A4 n4 c4] 28) := by
  go_enter Tryz.func85, Tryz.ntmps85
  go_wp2_with fail
  go_ret
  exact ⟨rfl, rfl⟩
theorem SlOf.block {α : Type} {enc : α → List Value} {size B B' g : Nat} {L : List α} {w w' : World} (h : SlOf w B size (Flat enc) (some ⟨g, 0, none⟩) L) (he : w'.heap[g]? = w.heap[g]?) (hB : B ≤ B') : SlOf w' B' size (Flat enc) (some ⟨g, 0, none⟩) L := by
  intro hn
  obtain ⟨b, off, hA, hb, hc⟩ := h hn
  injection hA with hA
  injection hA with h1 h2
  subst h1
  subst h2
  refine ⟨g, 0, rfl, Nat.lt_of_lt_of_le hb hB, fun k x hx => ?_⟩
  obtain ⟨vs, hs, hr, hv⟩ := hc k x hx
  exact ⟨vs, hs, hr, fun j v hj => (World.cell?_of_block he).trans (hv j v hj)⟩
/-- The record of a range over a function. -/
def mkRec (fn : FuncId) (tmps : Array Value) (ps : Array Tmp) (assign body : Code) (D : Nat) (st : LoopState) (pe : Option Code) : Loop := { state := st, pending := pe, fn := fn, tmps := tmps, params := ps, assign := assign, body := body, defers := D }
/-- A range over a function whose body leaves, in the end, by a return. -/
theorem range_intro {P : Program} {n : Nat} {g : Operand} {ps : Array Tmp} {assign body : Code} {Q : Exit → Act → World → Prop} {a : Act} {w : World} {gf : Nat} {lb : Array Value} (hg : a.eval g = .func (.func gf) #[] lb) (eg : ∀ args w, (callFunc gf args).run P w = .ok (.enter gf args) w)
    (h : ∀ (fn : FuncId) (rec : LoopState → Option Code → Loop) (W1 : World), rec = mkRec fn a.tmps ps assign body w.heap.size → W1 = (w.alloc (.deferred (some []))).alloc (.loop (rec .ready none)) →
      Calls P gf (#[.func (.yield (w.heap.size + 1)) #[] #[]] ++ lb) W1 fun e W' => (∃ v, e = .returned v) ∧ W'.heap[w.heap.size + 1]? = some (.loop (rec .done (some .ret))) ∧
        Q .ret { a with defers := { target := .collected w.heap.size, args := #[] } :: a.defers } (W'.putObj (w.heap.size + 1) (.loop (rec .exhausted (some .ret))))) :
    (Code.rangeFunc g ps assign body).wpIn Fence.wide n P Q a w := by
  refine wpIn_rangeFunc ?_
  intro fn hfn
  refine ⟨w.heap.size + 1, [{ target := .collected w.heap.size, args := #[] }], ((w.alloc (.deferred (some []))).alloc (.loop (mkRec fn a.tmps ps assign body w.heap.size .ready none))), { target := .fn (.func gf) lb, args := #[.func (.yield (w.heap.size + 1)) #[] #[]] }, ((w.alloc (.deferred (some []))).alloc (.loop (mkRec fn a.tmps ps assign body w.heap.size .ready none))), gf, #[.func (.yield (w.heap.size + 1)) #[] #[]] ++ lb, ((w.alloc (.deferred (some []))).alloc (.loop (mkRec fn a.tmps ps assign body w.heap.size .ready none))), run_enterLoop_outer _ _ _ _ _, ?_, fun _ _ => trivial, ?_, fun hd => absurd hd (by simp [Fence.wide]), ?_⟩
  · simp only [resolve, hg]
    simp [go_sem]
  · simp [invoke, go_sem, eg]
  · refine (callsIn_wide.2 (h fn _ _ rfl rfl)).mono ?_
    rintro e W2 ⟨⟨v, rfl⟩, hl, hq⟩
    exact ⟨some .ret, _, run_endLoop hl (by simp [mkRec]), wpIn_ret hq⟩
/-- A round of it. -/
theorem yield_intro {P : Program} {fn : FuncId} {tmps : Array Value} {ps : Array Tmp} {assign body : Code} {D l : Nat} {W : World} {args : Array Value} {R : Ending → World → Prop} {rec : LoopState → Option Code → Loop} (hrec : rec = mkRec fn tmps ps assign body D) (hl : W.heap[l]? = some (.loop (rec .ready none))) (hs : args.size = ps.size)
    (h : assign.wpIn (Fence.wide.inRound l) 2 P (Exit.then (fun a₁ w₁ => ∃ w₂, (Instr.beginRound l).run P w₁ = .ok () w₂ ∧ body.wpIn (Fence.wide.inRound l) 2 P (roundPost P l R) a₁ w₂) (fun _ _ _ => False)) { tmps := (ps.zip args).foldl (fun t (p, v) => t.setIfInBounds p v) tmps, defers := [] } W) : YieldAt Fence.wide 2 P l args W R := by
  subst hrec
  exact ⟨fn, _, assign, body, run_yield hl hs, roundIn_of_wpIn trivial h⟩
set_option maxHeartbeats 4000000 in
set_option maxRecDepth 100000 in
theorem laidPath_ok (A3 A4 : Option Addr) (bars : List BarD) (runs : List RunD) (n3 c3 n4 c4 i : Nat) (ld : LaidD) (w : World) {B : Nat} (h3 : BarsAt w B A3 bars) (h4 : RunsAt w B A4 runs) (hB : B ≤ w.heap.size) (l3 : n3 = bars.length) (l4 : n4 = runs.length) (m3 : n3 ≤ 60000) (m4 : n4 ≤ 60000) (htame : Tame bars) (hok : laidOk bars runs = true) (hi : (laidAll bars runs)[i]? = some ld) :
    Calls Tryz.prog 52 #[.slice A3 n3 c3, .slice A4 n4 c4, .int .i64 i] w fun e w' => ∃ A, e = .returned (.tuple #[.slice A ld.pts.length ld.pts.length, .int .i64 0]) ∧ PtsAt w' w'.heap.size A ld.pts ∧ Below w.heap.size w w' := by
  have HV := fun (W : World) (hz : Below w.heap.size w W) => laidValid_any A3 bars n3 c3 A4 runs n4 c4 W (h3.carry (hz.mono hB) (Nat.le_refl _)) (h4.carry (Flat.carried _) (hz.mono hB) (Nat.le_refl _)) (Nat.le_trans hB hz.size) l3 l4 m3 m4 htame
  rw [hok] at HV
  have HV := hide HV
  have HAll := hide (fun (n₀ gB gR l : Nat) (J : Nat → World → Prop) (Jx : World → Prop) (a1 a2) (W : World) (a3) (hz : Below w.heap.size w W) (hn : w.heap.size ≤ n₀) (hn1 : n₀ ≤ W.heap.size) (hl : n₀ ≤ l) (a4 a5 a6 a7 a8) => all1_walk A3 A4 bars runs n3 c3 n4 c4 n₀ gB gR l J Jx a1 a2 W a3 (h3.carry (hz.mono hB) (Nat.le_trans hB hn)) (h4.carry (Flat.carried _) (hz.mono hB) (Nat.le_trans hB hn)) hn1 hl a4 a5 a6 a7 l3 l4 m3 htame hok a8)
  have Hi := hide hi
  have HW := hide (((below_new2 w (.cells #[.int .i64 i] 3) (.cells #[.slice none 0 0] 74)).alloc (by simp; omega) (.cells #[.int .i64 0] 38)))
  have K5 := hide (((Blk.new w 3 #[.int .i64 i]).alloc (.cells #[.slice none 0 0] 74)).alloc (.cells #[.int .i64 0] 38))
  have K6 := hide ((Blk.new1 w (.cells #[.int .i64 i] 3) 74 #[.slice none 0 0]).alloc (.cells #[.int .i64 0] 38))
  have K7 := hide (Blk.new2 w (.cells #[.int .i64 i] 3) (.cells #[.slice none 0 0] 74) 38 #[.int .i64 0])
  clear h3 h4 hB l3 l4 m3 m4 htame hok hi
  refine (callsIn_wide (n := 4)).1 ?_
  refine callsIn_of_wp_marks Tryz.func52 rfl trivial ?_ rfl
  simp only [Tryz.ntmps52, List.size_toArray, List.length_cons, List.length_nil, Nat.reduceAdd, Nat.reduceSub, Array.replicate_succ, Array.replicate_zero, List.push_toArray, List.append_toArray, List.nil_append, List.cons_append]
  refine wpIn_wide.2 ?_
  go_wp2_with fail
  refine (HV.out _ HW.out).mono ?_
  rintro e w2 ⟨rfl, hb2⟩
  have K5 := hide (K5.out.keep hb2)
  have K6 := hide (K6.out.keep hb2)
  have K7 := hide (K7.out.keep hb2)
  have HW := hide (below_step HW.out hb2 (Nat.le_refl _))
  have Hws := hide K7.out.lt
  clear hb2 HV
  go_wp2_with (go_at_call 85; refine (all_any _ _ _ _ _ _ _).mono ?_; rintro e w3 ⟨rfl, rfl⟩)
  refine (wpIn_wide (n := 4)).1 ?_
  obtain ⟨w3, hw3⟩ : ∃ w3, w3 = (w2.alloc (.cells #[.slice A3 n3 c3] 27)).alloc (.cells #[.slice A4 n4 c4] 28) := ⟨_, rfl⟩
  have K5 := hide ((K5.out.alloc (.cells #[.slice A3 n3 c3] 27)).alloc (.cells #[.slice A4 n4 c4] 28))
  have K6 := hide ((K6.out.alloc (.cells #[.slice A3 n3 c3] 27)).alloc (.cells #[.slice A4 n4 c4] 28))
  have K7 := hide ((K7.out.alloc (.cells #[.slice A3 n3 c3] 27)).alloc (.cells #[.slice A4 n4 c4] 28))
  have KB := hide ((Blk.new w2 27 #[.slice A3 n3 c3]).alloc (.cells #[.slice A4 n4 c4] 28))
  have KR := hide (Blk.new1 w2 (.cells #[.slice A3 n3 c3] 27) 28 #[.slice A4 n4 c4])
  have HW := hide ((HW.out.alloc HW.out.size (.cells #[.slice A3 n3 c3] 27)).alloc (by rw [size_alloc']; exact Nat.le_succ_of_le HW.out.size) (.cells #[.slice A4 n4 c4] 28))
  have hs3 : w3.heap.size = w2.heap.size + 1 + 1 := by rw [hw3]; simp
  rw [← hw3] at K5 K6 K7 KB KR HW ⊢
  have Hs3 := hide hs3
  clear hw3 hs3
  refine range_intro rfl (enters_of Tryz.func114 (by kernel_rfl) rfl) ?_
  intro fn rec W1 hrec hW1
  obtain ⟨D, hD⟩ : ∃ D, D = w3.heap.size := ⟨_, rfl⟩
  have hs1 : W1.heap.size = D + 2 := by rw [hW1, hD]; simp
  have hL1 : W1.heap[D + 1]? = some (.loop (rec .ready none)) := by
    rw [hW1, hD]; have := World.alloc_heap_new (w3.alloc (.deferred (some []))) (.loop (rec .ready none)); rwa [World.size_alloc] at this
  have hD1 : W1.heap[D]? = some (.deferred (some [])) := by
    rw [hW1, hD]; exact (Below.heap_alloc _ _ _ (by simp)).trans (World.alloc_heap_new w3 _)
  have k5 : Blk W1 w.heap.size 3 #[.int .i64 i] := by rw [hW1]; exact (K5.out.alloc _).alloc _
  have k6 : Blk W1 (w.heap.size + 1) 74 #[.slice none 0 0] := by rw [hW1]; exact (K6.out.alloc _).alloc _
  have k7 : Blk W1 (w.heap.size + 2) 38 #[.int .i64 0] := by rw [hW1]; exact (K7.out.alloc _).alloc _
  have kB : Blk W1 w2.heap.size 27 #[.slice A3 n3 c3] := by rw [hW1]; exact (KB.out.alloc _).alloc _
  have kR : Blk W1 (w2.heap.size + 1) 28 #[.slice A4 n4 c4] := by rw [hW1]; exact (KR.out.alloc _).alloc _
  have hw1 : Below w.heap.size w W1 := by rw [hW1]; exact (HW.out.alloc HW.out.size _).alloc (by rw [size_alloc']; exact Nat.le_succ_of_le HW.out.size) _
  have hsD : w2.heap.size + 2 = D := by rw [hD, Hs3.out]
  have hws := Hws.out
  have hwD : w.heap.size ≤ D := by omega
  clear hW1 K5 K6 K7 KB KR HW Hs3 Hws
  rw [← hD]
  clear hD
  obtain ⟨J, hJd⟩ : ∃ J : Nat → World → Prop, J = fun k W => k ≤ i ∧ Below w.heap.size w W ∧ W.heap[D + 1]? = some (.loop (rec .ready none)) ∧ W.heap[D]? = some (.deferred (some [])) ∧ Blk W w.heap.size 3 #[.int .i64 i] ∧ Blk W (w.heap.size + 1) 74 #[.slice none 0 0] ∧ Blk W (w.heap.size + 2) 38 #[.int .i64 0] := ⟨_, rfl⟩
  obtain ⟨Jx, hJxd⟩ : ∃ Jx : World → Prop, Jx = fun W => W.heap[D + 1]? = some (.loop (rec .done (some .ret))) ∧ W.heap[D]? = some (.deferred (some [])) ∧ Below w.heap.size w W ∧ ∃ g, D < g ∧ g ≠ D + 1 ∧ W.cell? ⟨w.heap.size + 1, 0, none⟩ = some (.slice (some ⟨g, 0, none⟩) ld.pts.length ld.pts.length) ∧ W.cell? ⟨w.heap.size + 2, 0, none⟩ = some (.int .i64 0) ∧ PtsAt W W.heap.size (some ⟨g, 0, none⟩) ld.pts := ⟨_, rfl⟩
  have HJd := hide hJd
  have HJxd := hide hJxd
  have Hrec := hide hrec
  clear hJd hJxd hrec
  refine (HAll.out D w2.heap.size (w2.heap.size + 1) (D + 1) J Jx ?_ ?_ W1 ?_ hw1 hwD (by omega) (Nat.le_succ D) ?_ ?_ (by omega) (by omega) ?_).mono ?_
  · intro k W W' hj hb
    rw [HJd.out] at hj ⊢
    obtain ⟨j1, j2, j3, j4, j5, j6, j7⟩ := hj
    exact ⟨j1, below_step j2 hb (Nat.le_refl _), (hb.block _ (Array.getElem?_eq_some_iff.1 j3).1).trans j3, (hb.block _ (Array.getElem?_eq_some_iff.1 j4).1).trans j4, j5.keep hb, j6.keep hb, j7.keep hb⟩
  · intro k W hj
    rw [HJd.out] at hj
    exact ⟨_, hj.2.2.1, rfl⟩
  · intro k ld' g m c W hj hld hm hcm hg hpts
    subst hcm
    subst hm
    rw [HJd.out] at hj
    obtain ⟨j1, j2, j3, j4, j5, j6, j7⟩ := hj
    refine yield_intro Hrec.out j3 rfl ?_
    have HA := hide (And.intro j3 (And.intro j5 (And.intro j6 j7)))
    clear j3 j5 j6 j7
    gi_wp2
    obtain ⟨j3, j5, j6, j7⟩ := HA.out
    refine ⟨_, run_beginRound j3 (by rw [Hrec.out]; rfl), ?_⟩
    obtain ⟨W2, hW2⟩ : ∃ W2, W2 = W.putObj (D + 1) (.loop { rec .ready none with state := .busy }) := ⟨_, rfl⟩
    have hDW : D + 1 < W.heap.size := (Array.getElem?_eq_some_iff.1 j3).1
    have hL2 : W2.heap[D + 1]? = some (.loop { rec .ready none with state := .busy }) := by rw [hW2]; exact World.putObj_heap_same hDW
    have o2 : ∀ b, b ≠ D + 1 → W2.heap[b]? = W.heap[b]? := fun b hb => by rw [hW2]; exact World.putObj_heap_other hb
    have k5 : Blk W2 w.heap.size 3 #[.int .i64 i] := (o2 _ (by omega)).trans j5
    have k6 : Blk W2 (w.heap.size + 1) 74 #[.slice none 0 0] := (o2 _ (by omega)).trans j6
    have k7 : Blk W2 (w.heap.size + 2) 38 #[.int .i64 0] := (o2 _ (by omega)).trans j7
    have hz2 : W2.heap.size = W.heap.size := by rw [hW2]; simp
    rw [← hW2]
    have HX := hide (And.intro hW2 (And.intro o2 hL2))
    have R5 := hide k5
    have R6 := hide k6
    have R7 := hide k7
    have c5 := k5.cell 0
    have c6 := k6.cell 0
    have c7 := k7.cell 0
    have f6 := k6.frozen 0
    have f7 := k7.frozen 0
    simp at c5 c6 c7
    have Hj := hide (And.intro j2 (And.intro j3 (And.intro j4 (And.intro j5 (And.intro j6 j7)))))
    have Hp := hide hpts
    clear hW2 o2 hL2 k5 k6 k7 j2 j3 j4 j5 j6 j7 hpts
    by_cases hki : k = i
    · subst hki
      gi_wp2
      obtain ⟨hW2, o2, hL2⟩ := HX.out
      obtain ⟨j2, j3, j4, j5, j6, j7⟩ := Hj.out
      have hlds : ld' = ld := by have h9 := Hi.out; rw [hld] at h9; injection h9
      subst hlds
      obtain ⟨sv, hsv⟩ : ∃ sv, sv = Value.slice (some ⟨g, 0, none⟩) ld'.pts.length ld'.pts.length := ⟨_, rfl⟩
      rw [← hsv]
      have o5 : ∀ b, b ≠ w.heap.size + 1 → b ≠ w.heap.size + 2 → ((W2.setCell ⟨w.heap.size + 1, 0, none⟩ sv).setCell ⟨w.heap.size + 2, 0, none⟩ (.int .i64 0)).heap[b]? = W2.heap[b]? := fun b h1 h2 => (Below.heap_setCell _ _ _ b h2).trans (Below.heap_setCell _ _ _ b h1)
      have hL5 := (o5 (D + 1) (by omega) (by omega)).trans hL2
      obtain ⟨W5, hW5⟩ : ∃ W5, W5 = (W2.setCell ⟨w.heap.size + 1, 0, none⟩ sv).setCell ⟨w.heap.size + 2, 0, none⟩ (.int .i64 0) := ⟨_, rfl⟩
      have q6 : Blk W5 (w.heap.size + 1) 74 #[sv] := by
        rw [hW5]
        have h9 := (R6.out.set_ 0 sv).far (p := ⟨w.heap.size + 2, 0, none⟩) (by show w.heap.size + 1 ≠ w.heap.size + 2; omega) (.int .i64 0)
        simpa using h9
      have q7 : Blk W5 (w.heap.size + 2) 38 #[.int .i64 0] := by
        rw [hW5]
        have h9 := (R7.out.far (p := ⟨w.heap.size + 1, 0, none⟩) (by show w.heap.size + 2 ≠ w.heap.size + 1; omega) sv).set_ 0 (.int .i64 0)
        simpa using h9
      have hB5 : Below w.heap.size w W5 := by
        rw [hW5, hW2]
        exact ((j2.trans ((Below.refl w.heap.size W).grown (grownBy_putObj' W (D + 1) _) j2.size (fun r e => by cases e; omega))).setCell (p := ⟨w.heap.size + 1, 0, none⟩) (Nat.le_succ _) _).setCell (p := ⟨w.heap.size + 2, 0, none⟩) (by show w.heap.size ≤ w.heap.size + 2; omega) _
      have hz5 : W5.heap.size = W.heap.size := by rw [hW5]; simp only [World.size_setCell]; exact hz2
      have o5' : ∀ b, b ≠ w.heap.size + 1 → b ≠ w.heap.size + 2 → W5.heap[b]? = W2.heap[b]? := by rw [hW5]; exact o5
      rw [← hW5] at hL5
      show roundPost _ _ _ _ _ ((W2.setCell ⟨w.heap.size + 1, 0, none⟩ sv).setCell ⟨w.heap.size + 2, 0, none⟩ (.int .i64 0))
      rw [← hW5]
      clear hW5 o5 hW2
      refine ⟨_, _, run_endRound (some .ret) hL5, .inr ⟨rfl, ?_⟩⟩
      rw [HJxd.out]
      have hrc : ({ { rec .ready none with state := .busy } with state := if (some Code.ret).isNone then LoopState.ready else LoopState.done, pending := some Code.ret } : Loop) = rec .done (some .ret) := by rw [Hrec.out]; rfl
      have oo : ∀ b, b ≠ D + 1 → (W5.putObj (D + 1) (.loop { { rec .ready none with state := .busy } with state := if (some Code.ret).isNone then LoopState.ready else LoopState.done, pending := some Code.ret })).heap[b]? = W5.heap[b]? := fun b hb => World.putObj_heap_other hb
      refine ⟨?_, (oo D (by omega)).trans ((o5' D (by omega) (by omega)).trans ((o2 D (by omega)).trans j4)), hB5.grown (grownBy_putObj' _ _ _) hB5.size (fun r e => by cases e; omega), g, by omega, by omega, ?_, ?_, ?_⟩
      · rw [World.putObj_heap_same (by rw [hz5]; exact hDW), hrc]
      · have h9 := q6.cell 0
        rw [← hsv]
        exact (World.cell?_of_block (a := ⟨w.heap.size + 1, 0, none⟩) (oo (w.heap.size + 1) (by omega))).trans (by simpa using h9)
      · have h9 := q7.cell 0
        exact (World.cell?_of_block (a := ⟨w.heap.size + 2, 0, none⟩) (oo (w.heap.size + 2) (by omega))).trans (by simpa using h9)
      · exact SlOf.block Hp.out ((oo g (by omega)).trans ((o5' g (by omega) (by omega)).trans (o2 g (by omega)))) (by simp [hz5])
    · have hki2 : ((k : Int) == (i : Int)) = false := by simp; omega
      have hki3 : (k == i) = false := by simpa using hki
      gi_wp2
      obtain ⟨hW2, o2, hL2⟩ := HX.out
      obtain ⟨j2, j3, j4, j5, j6, j7⟩ := Hj.out
      refine ⟨_, _, run_endRound none hL2, .inl ⟨rfl, ?_, ?_⟩⟩
      · rw [HJd.out]
        have hrc : ({ { rec .ready none with state := .busy } with state := if (none : Option Code).isNone then LoopState.ready else LoopState.done, pending := none } : Loop) = rec .ready none := by rw [Hrec.out]; rfl
        have oo : ∀ b, b ≠ D + 1 → (W2.putObj (D + 1) (.loop { { rec .ready none with state := .busy } with state := if (none : Option Code).isNone then LoopState.ready else LoopState.done, pending := none })).heap[b]? = W2.heap[b]? := fun b hb => World.putObj_heap_other hb
        have hB2 : Below w.heap.size w W2 := by
          rw [hW2]
          exact j2.trans ((Below.refl w.heap.size W).grown (grownBy_putObj' W (D + 1) _) j2.size (fun r e => by cases e; omega))
        refine ⟨by omega, hB2.grown (grownBy_putObj' _ _ _) hB2.size (fun r e => by cases e; omega), ?_, (oo D (by omega)).trans ((o2 D (by omega)).trans j4), (oo _ (by omega)).trans R5.out, (oo _ (by omega)).trans R6.out, (oo _ (by omega)).trans R7.out⟩
        rw [World.putObj_heap_same (by rw [hz2]; exact hDW), hrc]
      · refine ⟨?_, ?_, ?_, by simp [hz2], fun b hb hne => ?_⟩
        · rw [hW2]; rfl
        · rw [hW2]; rfl
        · rw [hW2]; rfl
        · have hb1 : b ≠ D + 1 := fun h9 => hne (by rw [h9])
          exact (World.putObj_heap_other hb1).trans (o2 b hb1)
  · have := kB.cell 0
    simpa using this
  · have := kR.cell 0
    simpa using this
  · rw [HJd.out]
    exact ⟨Nat.zero_le _, hw1, hL1, hD1, k5, k6, k7⟩
  · rintro e W5 ⟨hv, hJf | hJf⟩
    · rw [HJd.out] at hJf
      have := lt_of_get Hi.out
      omega
    · rw [HJxd.out] at hJf
      obtain ⟨j1, j2, j3, g, hgD, hgL, j4, j5, j6⟩ := hJf
      have o1 : ∀ b, b ≠ D + 1 → b ≠ D → ((W5.putObj (D + 1) (.loop (rec .exhausted (some .ret)))).putObj D (.deferred none)).heap[b]? = W5.heap[b]? := fun b h1 h2 => (World.putObj_heap_other h2).trans (World.putObj_heap_other h1)
      have hD5 : D < W5.heap.size := (Array.getElem?_eq_some_iff.1 j2).1
      have oA := o1 (w.heap.size + 1) (by omega) (by omega)
      have oB := o1 (w.heap.size + 2) (by omega) (by omega)
      refine ⟨hv, j1, by simp, .inl ⟨_, _, rfl, run_takeDeferred (show (W5.putObj (D + 1) (.loop (rec .exhausted (some .ret)))).heap[D]? = some (.deferred (some [])) from (World.putObj_heap_other (by omega)).trans j2), ?_⟩⟩
      refine ⟨_, results_cc1 (gp := w.heap.size + 1) (gq := w.heap.size + 2) rfl rfl rfl ((World.cell?_of_block (a := ⟨w.heap.size + 1, 0, none⟩) oA).trans j4) ((World.cell?_of_block (a := ⟨w.heap.size + 2, 0, none⟩) oB).trans j5) Tryz.underlying74 Tryz.underlying38 rfl rfl, some ⟨g, 0, none⟩, rfl, ?_, ?_⟩
      · exact SlOf.block j6 (o1 _ hgL (by omega)) (by simp)
      · refine ⟨j3.os, j3.tape, j3.output, by simpa using j3.size, fun b hb => (o1 b (by omega) (by omega)).trans (j3.block b hb)⟩
end Go.Proofs.YtpmipoljnchheaaGreat
namespace Go.Proofs.YtpmipoljnchheaaGreat
open Go.RowKit

abbrev mainCells (m : MainD) : Array Value := #[.int .i64 m.leg.lo.1, .int .i64 m.leg.lo.2.1, .int .i64 m.leg.lo.2.2, .int .i64 m.leg.hi.1, .int .i64 m.leg.hi.2.1, .int .i64 m.leg.hi.2.2, .bool m.has, .int .i64 m.size, .string m.mark]
theorem blk_found {w : World} {g : Nat} {t : TypeId} {x1 x2 x3 z1 sz : Int} {mk : ByteArray} (h : Blk w g t (mainCells ⟨⟨(0, 0, 0), (0, 0, 0)⟩, false, sz, mk⟩)) :
    Blk (((((((w.setCell ⟨g, 0, none⟩ (.int .i64 (if z1 < x1 then z1 else x1))).setCell ⟨g, 1, none⟩ (.int .i64 x2)).setCell ⟨g, 2, none⟩ (.int .i64 x3)).setCell ⟨g, 3, none⟩ (.int .i64 (if x1 < z1 then z1 else x1))).setCell ⟨g, 4, none⟩ (.int .i64 x2)).setCell ⟨g, 5, none⟩ (.int .i64 x3)).setCell ⟨g, 6, none⟩ (.bool true)) g t (mainCells ⟨legBox (x1, x2, x3) (z1, x2, x3), true, sz, mk⟩) := by
  have h9 := ((((((h.set_ 0 (.int .i64 (if z1 < x1 then z1 else x1))).set_ 1 (.int .i64 x2)).set_ 2 (.int .i64 x3)).set_ 3 (.int .i64 (if x1 < z1 then z1 else x1))).set_ 4 (.int .i64 x2)).set_ 5 (.int .i64 x3)).set_ 6 (.bool true)
  simp only [mainCells, List.setIfInBounds_toArray, List.set_cons_zero, List.set_cons_succ, if_max, if_min] at h9
  simp only [mainCells, legBox, minP, maxP, if_max, if_min, Int.min_self, Int.max_self]
  exact h9
/-- What the main leg of a bar is, the first legs being looked at. -/
def mainState (y : BarD) (pts : List Pt) (k : Nat) (m : MainD) : Prop :=
  (m = ⟨⟨(0, 0, 0), (0, 0, 0)⟩, false, y.size, y.mark⟩ ∧ NoneTo isMain (legsOfPts pts) k) ∨ (m = mainOf ⟨y, pts⟩ ∧ m.has = true)
theorem NoneTo.find {α : Type} {p : α → Bool} {l : List α} {k : Nat} {y : α} (h : NoneTo p l k) (hy : l[k]? = some y) (hp : p y = true) : l.find? p = some y := by
  have hk := lt_of_get hy
  rw [List.find?_eq_some_iff_getElem]
  refine ⟨hp, k, hk, by rw [List.getElem?_eq_getElem hk] at hy; injection hy, fun j hj => ?_⟩
  rw [h j _ hj (List.getElem?_eq_getElem (by omega))]
  rfl
theorem NoneTo.none {α : Type} {p : α → Bool} {l : List α} (h : NoneTo p l l.length) : l.find? p = none := by
  rw [List.find?_eq_none]
  intro x hx
  obtain ⟨j, hj, rfl⟩ := List.getElem_of_mem hx
  rw [h j _ hj (List.getElem?_eq_getElem hj)]
  simp
theorem mainState_zero (y : BarD) (pts : List Pt) : mainState y pts 0 ⟨⟨(0, 0, 0), (0, 0, 0)⟩, false, y.size, y.mark⟩ := .inl ⟨rfl, NoneTo.zero _ _⟩
theorem mainState_no {y : BarD} {pts : List Pt} {k : Nat} {p q : Pt} (h : NoneTo isMain (legsOfPts pts) k) (hp : pts[k]? = some p) (hq : pts[k + 1]? = some q) (hm : isMain (legBox p q) = false) :
    mainState y pts (k + 1) ⟨⟨(0, 0, 0), (0, 0, 0)⟩, false, y.size, y.mark⟩ := .inl ⟨rfl, h.succ (legsOfPts_at pts k p q hp hq) hm⟩
theorem mainState_yes {y : BarD} {pts : List Pt} {k j : Nat} {p q : Pt} (h : NoneTo isMain (legsOfPts pts) k) (hp : pts[k]? = some p) (hq : pts[k + 1]? = some q) (hm : isMain (legBox p q) = true) :
    mainState y pts j ⟨legBox p q, true, y.size, y.mark⟩ := by
  refine .inr ⟨?_, rfl⟩
  simp only [mainOf, mainLeg, h.find (legsOfPts_at pts k p q hp hq) hm]
theorem mainState_end {y : BarD} {pts : List Pt} {m : MainD} (h : mainState y pts (pts.length - 1) m) : m = mainOf ⟨y, pts⟩ := by
  rcases h with ⟨h, hn⟩ | ⟨h, _⟩
  · rw [← legsOfPts_len] at hn
    simp only [mainOf, mainLeg, hn.none, h]
  · exact h
theorem mainState_has {y : BarD} {pts : List Pt} {k : Nat} {m : MainD} (h : mainState y pts k m) (ht : m.has = true) : m = mainOf ⟨y, pts⟩ := by
  rcases h with ⟨rfl, _⟩ | ⟨h, _⟩
  · cases ht
  · exact h
theorem mainState_hasnt {y : BarD} {pts : List Pt} {k : Nat} {m : MainD} (h : mainState y pts k m) (ht : m.has = false) : m = ⟨⟨(0, 0, 0), (0, 0, 0)⟩, false, y.size, y.mark⟩ ∧ NoneTo isMain (legsOfPts pts) k := by
  rcases h with h | ⟨_, h⟩
  · exact h
  · rw [h] at ht; cases ht
set_option maxHeartbeats 4000000 in
set_option maxRecDepth 100000 in
theorem mains_ok (x : DetD) (s : DetS) (w : World) {B : Nat} (h : DetAt w B x s) (hB : B ≤ w.heap.size) (hf : DetFit x s) (hok : laidOk x.bars x.runs = true) :
    Calls Tryz.prog 97 #[detV x s] w fun e w' => ∃ A c, e = .returned (.slice A (laidAll x.bars x.runs).length c) ∧ MainsAt w' w'.heap.size A ((laidAll x.bars x.runs).map mainOf) ∧ Below w.heap.size w w' := by
  obtain ⟨mem, bars, runs, laps, dems, rule⟩ := x
  obtain ⟨a1, n1, c1, a2, n2, c2, a3, n3, c3, a4, n4, c4, a5, n5, c5, a6, n6, c6⟩ := s
  obtain ⟨name, boxes, holes, cover, agg, poker⟩ := mem
  obtain ⟨r1, r2, r3, r4, r5, r6, r7, r8, r9⟩ := rule
  simp only at hok
  have hsch : schedOk bars = true := by simp only [laidOk, Bool.and_eq_true] at hok; exact hok.1.1
  obtain ⟨hbars, h60, hruns⟩ := laidOk_mem hok
  have hm3 : n3 ≤ 60000 := hf.m3
  have htame : Tame bars := hf.tame
  have l3 : n3 = bars.length := hf.l3
  have L4 := hide (show n4 = runs.length from hf.l4)
  have H3 := hide (show BarsAt w B a3 bars from h.h3)
  have H4 := hide (show RunsAt w B a4 runs from h.h4)
  have HSF := hide (fun (W : World) (hz : Below w.heap.size w W) (mk : ByteArray) (j : Nat) (hj : idx (markIs mk) bars = (j : Int)) => schedFind_any a3 bars n3 c3 mk W (H3.out.carry (hz.mono hB) (Nat.le_refl _)) (Nat.le_trans hB hz.size) l3 hm3 htame hsch j hj)
  have HP := hide (fun (W : World) (y : BarD) (hy : y ∈ bars) (A' : Option Addr) (c' : Nat) (hA : Ints W B A' y.dims) (hb : B ≤ W.heap.size) => shapePath_row y A' c' W hA hb (htame y hy).1 (htame y hy).2 (hbars y hy))
  have HQ := hide (fun (W : World) (t : Int) (u : Int) (ht : turnOk t u = true) (a : Pt) (ha : nearBy 1048576 a = true) (y : BarD) (hy : y ∈ bars) (m : Nat) (hm : m = (pathOf y).length) (A' : Option Addr) (c' : Nat) (hA : PtsAt W W.heap.size A' (pathOf y)) => framePath_ok t u a A' (pathOf y) m c' W hA (Nat.le_refl _) hm ht (by rw [hm, pathOf_len]; have := legsOf_len y.code; omega) ha (fun p hp => nearBy_mono (path_near (hbars y hy) p hp) (by omega)))
  have Hruns := hide hruns
  have Hlen := hide (show (laidAll bars runs).length ≤ 2000 from (laidOk_len hok).2)
  have L3 := hide l3
  have hn60 : n4 ≤ 60 := by rw [L4.out]; exact h60
  obtain ⟨W0, hW0⟩ : ∃ W0, W0 = w.alloc (.cells #[.string name, .slice a1 n1 c1, .slice a2 n2 c2, .int .i64 cover, .int .i64 agg, .int .i64 poker, .slice a3 n3 c3, .slice a4 n4 c4, .slice a5 n5 c5, .slice a6 n6 c6, .int .i64 r1, .int .i64 r2, .int .i64 r3, .int .i64 r4, .int .i64 r5, .int .i64 r6, .int .i64 r7, .int .i64 r8, .int .i64 r9] 34) := ⟨_, rfl⟩
  have K0 := hide (Blk.new w 34 #[.string name, .slice a1 n1 c1, .slice a2 n2 c2, .int .i64 cover, .int .i64 agg, .int .i64 poker, .slice a3 n3 c3, .slice a4 n4 c4, .slice a5 n5 c5, .slice a6 n6 c6, .int .i64 r1, .int .i64 r2, .int .i64 r3, .int .i64 r4, .int .i64 r5, .int .i64 r6, .int .i64 r7, .int .i64 r8, .int .i64 r9])
  have HW0 := hide (below_new w (.cells #[.string name, .slice a1 n1 c1, .slice a2 n2 c2, .int .i64 cover, .int .i64 agg, .int .i64 poker, .slice a3 n3 c3, .slice a4 n4 c4, .slice a5 n5 c5, .slice a6 n6 c6, .int .i64 r1, .int .i64 r2, .int .i64 r3, .int .i64 r4, .int .i64 r5, .int .i64 r6, .int .i64 r7, .int .i64 r8, .int .i64 r9] 34))
  rw [← hW0] at K0 HW0
  have hs0 : W0.heap.size = w.heap.size + 1 := by rw [hW0]; simp
  have HW00 := hide hW0
  clear h hf hok hsch hbars h60 hruns hm3 htame l3 hW0
  show Calls Tryz.prog 97 #[.agg #[.string name, .slice a1 n1 c1, .slice a2 n2 c2, .int .i64 cover, .int .i64 agg, .int .i64 poker, .slice a3 n3 c3, .slice a4 n4 c4, .slice a5 n5 c5, .slice a6 n6 c6, .int .i64 r1, .int .i64 r2, .int .i64 r3, .int .i64 r4, .int .i64 r5, .int .i64 r6, .int .i64 r7, .int .i64 r8, .int .i64 r9]] w _
  go_enter Tryz.func97, Tryz.ntmps97
  go_wp2_with fail
  rw [← HW00.out]
  go_loopw [3, 21] (fun v i wr => ∃ k : Nat, k ≤ n4 ∧ i = .int .i64 k ∧ (∃ acc : List MainD, Row wr W0.heap.size 208 9 encMain v acc ∧ Hid (acc = (laidAll bars (runs.take k)).map mainOf)) ∧ Below W0.heap.size W0 wr) (fun _ i _ => n4 - (intOf i).toNat)
  case atStart => exact ⟨0, Nat.zero_le _, rfl, ⟨[], Row.nil _ _ _ _ _, hide rfl⟩, Below.refl _ _⟩
  case round =>
    obtain ⟨k, hk, rfl, ⟨acc, hrow, hacc⟩, hbr⟩ := hrel
    obtain ⟨A0, c0, rfl⟩ := hrow.val
    by_cases hlt : k < n4
    · have HWr := hide (below_step HW0.out hbr (Nat.le_refl _))
      obtain ⟨b, off, r, rfl, hbl, hx, hc⟩ := RunsAt.get (k := k) (H4.out.carry (Flat.carried _) (HWr.out.mono hB) (Nat.le_refl _)) (by rw [← L4.out]; exact hlt)
      have hrk := Hruns.out r (mem_of_get hx)
      obtain ⟨j, y, hj, hy, hrb, htn⟩ := runOk_bar hrk
      obtain ⟨hcn0, hcn1⟩ := runOk_count hrk
      have hyb := mem_of_get hy
      have hjn : j < n3 := by rw [L3.out]; exact lt_of_get hy
      have hal : (acc.length : Int) + r.count ≤ 2000 := by
        have h9 := Hlen.out
        rw [laidAll_split hx, List.length_append, List.length_append, laidRun_of hrb, laidTo_len] at h9
        rw [hacc.out, List.length_map]
        omega
      have Hn := hide (show (laidAll bars (runs.take (k + 1))).map mainOf = acc ++ (laidTo y r r.count.toNat).map mainOf by rw [laidAll_snoc hx, laidRun_of hrb, List.map_append, hacc.out])
      have Hat := hide (fun (q : Int) (h0 : 0 ≤ q) (h1 : q < r.count) => runOk_at hrk hrb h0 h1)
      have Hmu := hide (fun (q : Int) (h0 : 0 ≤ q) (h1 : q < r.count) => runOk_mul hrk h0 h1)
      have Hpe := hide (fun (q : Int) => show ptsOf y r q = mapPts r.tx r.ty (addP r.place (mulP q r.step)) (pathOf y) from ptsOf_eq y r q)
      have Hlt := hide (fun (q : Nat) => show (laidTo y r (q + 1)).map mainOf = (laidTo y r q).map mainOf ++ [mainOf ⟨y, ptsOf y r (q : Int)⟩] by rw [laidTo_succ, List.map_append]; rfl)
      have Hj := hide hj
      have Hy := hide hy
      have Htn := hide htn
      have Hyb := hide hyb
      have Hrow := hide hrow
      have Hpln := hide (show 1 ≤ (pathOf y).length ∧ (pathOf y).length ≤ 7 by rw [pathOf_len]; have := legsOf_len y.code; omega)
      obtain ⟨LT, hLT⟩ : ∃ LT : Nat → List MainD, LT = fun q => (laidTo y r q).map mainOf := ⟨_, rfl⟩
      have HL0 := hide (show LT 0 = [] by rw [hLT]; rfl)
      have HLn := hide (show (laidAll bars (runs.take (k + 1))).map mainOf = acc ++ LT r.count.toNat by rw [hLT]; exact Hn.out)
      have HLs := hide (fun (q : Nat) => show LT (q + 1) = LT q ++ [mainOf ⟨y, ptsOf y r (q : Int)⟩] by rw [hLT]; exact Hlt.out q)
      have HLl := hide (fun (q : Nat) => show (LT q).length = q by rw [hLT]; simp only [List.length_map, laidTo_len])
      obtain ⟨PT, hPT⟩ : ∃ PT : Int → List Pt, PT = fun q => ptsOf y r q := ⟨_, rfl⟩
      have HPe := hide (fun (q : Int) => show PT q = mapPts r.tx r.ty (addP r.place (mulP q r.step)) (pathOf y) by rw [hPT]; exact Hpe.out q)
      have HLq := hide (fun (q : Nat) => show LT (q + 1) = LT q ++ [mainOf ⟨y, PT (q : Int)⟩] by rw [hPT]; exact HLs.out q)
      clear HLs
      obtain ⟨mark, tx, ty, ⟨p1, p2, p3⟩, ⟨s1, s2, s3⟩, cnt⟩ := r
      have q0 := hc 0 _ rfl
      have q1 := hc 1 _ rfl
      have q2 := hc 2 _ rfl
      have q3 := hc 3 _ rfl
      have q4 := hc 4 _ rfl
      have q5 := hc 5 _ rfl
      have q6 := hc 6 _ rfl
      have q7 := hc 7 _ rfl
      have q8 := hc 8 _ rfl
      have q9 := hc 9 _ rfl
      simp only [Nat.add_zero] at q0 q1 q2 q3 q4 q5 q6 q7 q8 q9 hcn0 hcn1 hal HLn Hat Hmu HPe Hj Htn
      have hbw : b < wr.heap.size := by have := HWr.out.size; omega
      have kk0 := K0.out.below hbr K0.out.lt
      have e6 := kk0.cell 6
      have e7 := kk0.cell 7
      simp at e6 e7
      have hkl0 := kk0.lt
      have HR := hide hbr
      clear hx hbl hc hrk hrb hLT hPT Hn Hpe Hlt hj hy htn hyb hrow kk0 hbr
      go_wp2_with fail
      refine (HSF.out _ (HWr.out.alloc HWr.out.size (.cells #[.string mark, .int .i64 tx, .int .i64 ty, .int .i64 p1, .int .i64 p2, .int .i64 p3, .int .i64 s1, .int .i64 s2, .int .i64 s3, .int .i64 cnt] 79)) mark j Hj.out).mono ?_
      rintro e w2 ⟨rfl, hb2⟩
      have K1 := hide ((Blk.new wr 79 #[.string mark, .int .i64 tx, .int .i64 ty, .int .i64 p1, .int .i64 p2, .int .i64 p3, .int .i64 s1, .int .i64 s2, .int .i64 s3, .int .i64 cnt]).keep hb2)
      have HR2 := hide (below_step (HR.out.alloc HR.out.size (.cells #[.string mark, .int .i64 tx, .int .i64 ty, .int .i64 p1, .int .i64 p2, .int .i64 p3, .int .i64 s1, .int .i64 s2, .int .i64 s3, .int .i64 cnt] 79)) hb2 (Nat.le_refl _))
      have Hrow2 := hide ((Hrow.out.alloc (.cells #[.string mark, .int .i64 tx, .int .i64 ty, .int .i64 p1, .int .i64 p2, .int .i64 p3, .int .i64 s1, .int .i64 s2, .int .i64 s3, .int .i64 cnt] 79)).keep hb2)
      have HW2 := hide (below_step HW0.out HR2.out (Nat.le_refl _))
      obtain ⟨b3, off3, y', A', c', hA3, hbl3, hy3, hi3, f0, f1, f2, f3, f4⟩ := BarsAt.get (k := j) (H3.out.carry (HW2.out.mono hB) (Nat.le_refl _)) (by rw [← L3.out]; exact hjn)
      subst hA3
      have hyy : y' = y := by rw [Hy.out] at hy3; injection hy3 with hy3; exact hy3.symm
      subst hyy
      have kk0 := K0.out.below HR2.out K0.out.lt
      have e6 := kk0.cell 6
      simp at e6
      have hkl2 := kk0.lt
      have hb3w : b3 < w2.heap.size := by have := HW2.out.size; omega
      have i0 : (0 : Int) ≤ (j : Int) := by omega
      have Hi := hide (hi3.carry ((Below.refl B w2).alloc (Nat.le_trans hB HW2.out.size) (.cells #[.string y'.mark, .int .i64 y'.size, .int .i64 y'.count, .int .i64 y'.code, .slice A' y'.dims.length c'] 65)) (Nat.le_refl _))
      have hBw := hide (Nat.le_trans hB (le_alloc HW2.out.size (.cells #[.string y'.mark, .int .i64 y'.size, .int .i64 y'.count, .int .i64 y'.code, .slice A' y'.dims.length c'] 65)))
      clear hb2 hbl3 hy3 hi3 kk0 q0 q1 q2 q3 q4 q5 q6 q7 q8 q9
      go_wp2_with fail
      refine (HP.out _ y' Hyb.out A' c' Hi.out hBw.out).mono ?_
      rintro e w3 ⟨A3, c3', rfl, hrow3, hb3⟩
      obtain ⟨gP, cs, hAP, hgP, kP, hcsP⟩ := row_blk hrow3 (by have := Hpln.out; omega)
      subst hAP
      have hpl := Hpln.out
      generalize hln : (pathOf y').length = ln at *
      have Hln := hide hln
      have K1 := hide ((K1.out.alloc (.cells #[.string y'.mark, .int .i64 y'.size, .int .i64 y'.count, .int .i64 y'.code, .slice A' y'.dims.length c'] 65)).keep hb3)
      have K2 := hide ((Blk.new w2 65 #[.string y'.mark, .int .i64 y'.size, .int .i64 y'.count, .int .i64 y'.code, .slice A' y'.dims.length c']).keep hb3)
      have HR3 := hide (below_step (HR2.out.alloc HR2.out.size (.cells #[.string y'.mark, .int .i64 y'.size, .int .i64 y'.count, .int .i64 y'.code, .slice A' y'.dims.length c'] 65)) hb3 (Nat.le_refl _))
      have Hrow3 := hide ((Hrow2.out.alloc (.cells #[.string y'.mark, .int .i64 y'.size, .int .i64 y'.count, .int .i64 y'.code, .slice A' y'.dims.length c'] 65)).keep hb3)
      have KP := hide kP
      have HcsP := hide hcsP
      have k9 := K1.out.cell 9
      simp at k9
      have hkl3 := K1.out.lt
      clear hrow3 hgP kP hcsP hln hb3 f0 f1 f2 f3 f4 e6 Hrow Hrow2 HSF Hi
      go_wp2_with fail
      go_loopw [3, 49] (fun v i wi => ∃ q : Nat, (q : Int) ≤ cnt ∧ i = .int .i64 q ∧ (∃ acc2 : List MainD, Row wi W0.heap.size 208 9 encMain v acc2 ∧ Hid (acc2 = acc ++ LT q)) ∧ Blk wi wr.heap.size 79 #[.string mark, .int .i64 tx, .int .i64 ty, .int .i64 p1, .int .i64 p2, .int .i64 p3, .int .i64 s1, .int .i64 s2, .int .i64 s3, .int .i64 cnt] ∧ Blk wi w2.heap.size 65 #[.string y'.mark, .int .i64 y'.size, .int .i64 y'.count, .int .i64 y'.code, .slice A' y'.dims.length c'] ∧ Blk wi gP 44 cs ∧ Below W0.heap.size W0 wi) (fun _ i _ => cnt.toNat - (intOf i).toNat)
      case atStart => exact ⟨0, by omega, rfl, ⟨acc, Hrow3.out, hide (by rw [HL0.out, List.append_nil])⟩, K1.out, K2.out, KP.out, HR3.out⟩
      case round =>
        clear K1 K2 KP HR3 Hrow3 k9 hkl3
        obtain ⟨q, hq, rfl, ⟨acc2, hrow2, hacc2⟩, k1, k2, kP, hbi⟩ := hrel
        obtain ⟨A2, c2', rfl⟩ := hrow2.val
        have hal2 := hide (show acc2.length = acc.length + q by rw [hacc2.out, List.length_append, HLl.out])
        by_cases hql : (q : Int) < cnt
        · have hat := hide (Hat.out (q : Int) (by omega) hql)
          obtain ⟨⟨u1, u2⟩, ⟨u3, u4⟩, u5, u6⟩ := nearBy_iff.1 hat.out
          obtain ⟨⟨v1, v2⟩, ⟨v3, v4⟩, v5, v6⟩ := nearBy_iff.1 (Hmu.out (q : Int) (by omega) hql)
          simp only [addP, mulP] at u1 u2 u3 u4 u5 u6 v1 v2 v3 v4 v5 v6
          have g1 : IntKind.i64.wrap ((q : Int) * s1) = (q : Int) * s1 := IntWalk.i64_in _ (by omega)
          have g2 : IntKind.i64.wrap ((q : Int) * s2) = (q : Int) * s2 := IntWalk.i64_in _ (by omega)
          have g3 : IntKind.i64.wrap ((q : Int) * s3) = (q : Int) * s3 := IntWalk.i64_in _ (by omega)
          have g4 : IntKind.i64.wrap (p1 + (q : Int) * s1) = p1 + (q : Int) * s1 := IntWalk.i64_in _ (by omega)
          have g5 : IntKind.i64.wrap (p2 + (q : Int) * s2) = p2 + (q : Int) * s2 := IntWalk.i64_in _ (by omega)
          have g6 : IntKind.i64.wrap (p3 + (q : Int) * s3) = p3 + (q : Int) * s3 := IntWalk.i64_in _ (by omega)
          have d1 := k1.cell 1
          have d2 := k1.cell 2
          have d3 := k1.cell 3
          have d4 := k1.cell 4
          have d5 := k1.cell 5
          have d6 := k1.cell 6
          have d7 := k1.cell 7
          have d8 := k1.cell 8
          simp at d1 d2 d3 d4 d5 d6 d7 d8
          have l1 := k1.lt
          have K1 := hide k1
          have K2 := hide k2
          have KP := hide kP
          have HPts := hide (blk_sl (w := wr.alloc (.cells #[.int .i64 (p1 + (q : Int) * s1), .int .i64 (p2 + (q : Int) * s2), .int .i64 (p3 + (q : Int) * s3)] 44)) (B := (wr.alloc (.cells #[.int .i64 (p1 + (q : Int) * s1), .int .i64 (p2 + (q : Int) * s2), .int .i64 (p3 + (q : Int) * s3)] 44)).heap.size) encPt_len (kP.alloc _) HcsP.out (by have := kP.lt; simp; omega))
          have Hbi := hide hbi
          have Hrow2 := hide hrow2
          clear k1 k2 kP u1 u2 u3 u4 u5 u6 v1 v2 v3 v4 v5 v6 hbi hrow2
          go_wp2_with fail
          refine (HQ.out _ tx ty Htn.out (p1 + (q : Int) * s1, p2 + (q : Int) * s2, p3 + (q : Int) * s3) hat.out y' Hyb.out ln Hln.out.symm _ c3' HPts.out).mono ?_
          rintro e w5 ⟨A5, c5, rfl, hpts, hb5⟩
          have K1 := hide ((K1.out.alloc (.cells #[.int .i64 (p1 + (q : Int) * s1), .int .i64 (p2 + (q : Int) * s2), .int .i64 (p3 + (q : Int) * s3)] 44)).keep hb5)
          have K2 := hide ((K2.out.alloc (.cells #[.int .i64 (p1 + (q : Int) * s1), .int .i64 (p2 + (q : Int) * s2), .int .i64 (p3 + (q : Int) * s3)] 44)).keep hb5)
          have KP := hide ((KP.out.alloc (.cells #[.int .i64 (p1 + (q : Int) * s1), .int .i64 (p2 + (q : Int) * s2), .int .i64 (p3 + (q : Int) * s3)] 44)).keep hb5)
          have Hbi := hide (below_step (Hbi.out.alloc Hbi.out.size (.cells #[.int .i64 (p1 + (q : Int) * s1), .int .i64 (p2 + (q : Int) * s2), .int .i64 (p3 + (q : Int) * s3)] 44)) hb5 (Nat.le_refl _))
          have Hrow2 := hide ((Hrow2.out.alloc (.cells #[.int .i64 (p1 + (q : Int) * s1), .int .i64 (p2 + (q : Int) * s2), .int .i64 (p3 + (q : Int) * s3)] 44)).keep hb5)
          obtain ⟨pts, hpt⟩ : ∃ pts, pts = PT (q : Int) := ⟨_, rfl⟩
          have Hpts := hide (show PtsAt w5 w5.heap.size A5 pts by rw [hpt, HPe.out]; exact hpts)
          have HpL := hide (show pts.length = ln by rw [hpt, HPe.out, mapPts_len, Hln.out])
          have HLs2 := hide (show LT (q + 1) = LT q ++ [mainOf ⟨y', pts⟩] by rw [hpt]; exact HLq.out q)
          have d0 := K2.out.cell 0
          have d1 := K2.out.cell 1
          simp at d0 d1
          have l2 := K2.out.lt
          have hM := hide (Blk.new w5 208 #[.int .i64 0, .int .i64 0, .int .i64 0, .int .i64 0, .int .i64 0, .int .i64 0, .bool false, .int .i64 y'.size, .string y'.mark])
          clear hb5 hpts hpt HPts g1 g2 g3 g4 g5 g6 d2 d3 d4 d5 d6 d7 d8
          go_wp2_with fail
          go_loopw [15] (fun i wz => ∃ (j : Nat) (mm : MainD), j + 1 ≤ ln ∧ i = .int .i64 ((j : Int) + 1) ∧ Blk wz w5.heap.size 208 (mainCells mm) ∧ Hid (mainState y' pts j mm) ∧ Below w5.heap.size w5 wz) (fun i _ => ln - (intOf i).toNat)
          case atStart => exact ⟨0, ⟨⟨(0, 0, 0), (0, 0, 0)⟩, false, y'.size, y'.mark⟩, by omega, rfl, hM.out, hide (mainState_zero _ _), below_new w5 _⟩
          case round =>
            clear hM d0 d1
            obtain ⟨j, mm, hj, rfl, kM, hst, hbz⟩ := hrel
            have m0 := kM.cell 0
            have m1 := kM.cell 1
            have m2 := kM.cell 2
            have m3 := kM.cell 3
            have m4 := kM.cell 4
            have m5 := kM.cell 5
            have m6 := kM.cell 6
            have m7 := kM.cell 7
            have m8 := kM.cell 8
            simp at m0 m1 m2 m3 m4 m5 m6 m7 m8
            have lM := kM.lt
            have Hbz := hide hbz
            by_cases hjl : j + 1 < ln
            · cases hh : mm.has
              · obtain ⟨rfl, hno⟩ := mainState_hasnt hst.out hh
                obtain ⟨b5, o5, ⟨x1, x2, x3⟩, rfl, hbl5, hx5, x4, x5, x6⟩ := PtsAt.get (k := j) (Hpts.out.carry (Flat.carried _) hbz (Nat.le_refl _)) (by rw [HpL.out]; omega)
                obtain ⟨b6, o6, ⟨z1, z2, z3⟩, hA6, hbl6, hx6, z4, z5, z6⟩ := PtsAt.get (k := j + 1) (Hpts.out.carry (Flat.carried _) hbz (Nat.le_refl _)) (by rw [HpL.out]; exact hjl)
                injection hA6 with hA6
                injection hA6 with hA7 hA8
                subst hA7
                subst hA8
                have sn : IntKind.i64.wrap ((j : Int) + 1 - 1) = (j : Int) := by rw [Int.add_sub_cancel]; exact IntWalk.i64_in _ (by omega)
                have sn2 : IntKind.i64.wrap (j : Int) = (j : Int) := IntWalk.i64_in _ (by omega)
                have hbw5 : b5 < wr.heap.size := by have := Hbz.out.size; omega
                simp only at x4 x5 x6 z4 z5 z6
                have z0 := kM.frozen 0
                have y1 := kM.frozen 1
                have y2 := kM.frozen 2
                have y3 := kM.frozen 3
                have y4 := kM.frozen 4
                have y5 := kM.frozen 5
                have y6 := kM.frozen 6
                have Hno := hide hno
                have Hx5 := hide hx5
                have Hx6 := hide hx6
                have KM := hide kM
                clear hno hx5 hx6 hbl5 hbl6 kM hst hh
                go_wp2_with fail
                go_region
                all_goals
                  clear x4 x5 x6 z4 z5 z6
                  go_wp2_with fail
                all_goals
                  clear y1 y2 y3 y4 y5 y6 m0 m1 m2 m3 m4 m5 m6 m7 m8 z0
                  go_roundw
                  case rel =>
                    apply Exists.intro (j + 1)
                    first
                    | (have h9 := ‹(x1 != z1) = true ∧ (x3 == z3) = true›
                       have h8 := ‹x2 = z2›
                       simp only [bne_iff_ne, beq_iff_eq] at h9
                       obtain ⟨h91, h92⟩ := h9
                       subst h8
                       subst h92
                       with_reducible exact ⟨_, by omega, by go_num, (((blk_found KM.out).alloc _).alloc _).drew, hide (mainState_yes Hno.out Hx5.out Hx6.out (by rw [isMain_leg]; simp; omega)), by (repeat (first | with_reducible assumption | with_reducible exact Below.refl _ _ | with_reducible apply Below.al | with_reducible apply Below.dr | (with_reducible refine Below.sc ?_ _ _ _ (by (try simp only [size_alloc', World.size_setCell, World.size_drew]); omega))))⟩)
                    | (have h9 := ‹(x1 != z1) = false ∨ (x3 == z3) = false›
                       have key : isMain (legBox (x1, x2, x3) (z1, z2, z3)) = false := by
                         rw [isMain_leg]
                         simp only [bne_eq_false_iff_eq, beq_eq_false_iff_ne] at h9
                         simp only [Bool.and_eq_false_iff, Bool.not_eq_false', decide_eq_true_eq, decide_eq_false_iff_not]
                         omega
                       with_reducible exact ⟨_, by omega, by go_num, ((KM.out.alloc _).alloc _).drew, hide (mainState_no Hno.out Hx5.out Hx6.out key), by (repeat (first | with_reducible assumption | with_reducible exact Below.refl _ _ | with_reducible apply Below.al | with_reducible apply Below.dr | (with_reducible refine Below.sc ?_ _ _ _ (by (try simp only [size_alloc', World.size_setCell, World.size_drew]); omega))))⟩)
                    | (have key : isMain (legBox (x1, x2, x3) (z1, z2, z3)) = false := by
                         rw [isMain_leg]
                         simp only [Bool.and_eq_false_iff, Bool.not_eq_false', decide_eq_true_eq, decide_eq_false_iff_not]
                         omega
                       with_reducible exact ⟨_, by omega, by go_num, ((KM.out.alloc _).alloc _).drew, hide (mainState_no Hno.out Hx5.out Hx6.out key), by (repeat (first | with_reducible assumption | with_reducible exact Below.refl _ _ | with_reducible apply Below.al | with_reducible apply Below.dr | (with_reducible refine Below.sc ?_ _ _ _ (by (try simp only [size_alloc', World.size_setCell, World.size_drew]); omega))))⟩)
                    | skip
                  case measure => simp [intOf]; omega
              · obtain ⟨lg, hs, sz, mk⟩ := mm
                simp only at hh m0 m1 m2 m3 m4 m5 m6 m7 m8
                subst hh
                have hmm := hide (show (⟨lg, true, sz, mk⟩ : MainD) = mainOf ⟨y', pts⟩ from mainState_has hst.out rfl)
                have Hr1 := hide ((Hrow2.out.keep hbz).alloc (.cells (mainCells (⟨lg, true, sz, mk⟩ : MainD)) 208))
                have Hr2 := hide (show Blk (wr.alloc (.cells (mainCells (⟨lg, true, sz, mk⟩ : MainD)) 208)) wr.heap.size 208 (encMain (⟨lg, true, sz, mk⟩ : MainD)).toArray from Blk.new wr _ _)
                have Hr3 := hide (((K1.out.below hbz K1.out.lt).alloc (.cells (mainCells (⟨lg, true, sz, mk⟩ : MainD)) 208)))
                have Hr4 := hide (((K2.out.below hbz K2.out.lt).alloc (.cells (mainCells (⟨lg, true, sz, mk⟩ : MainD)) 208)))
                have Hr5 := hide (((KP.out.below hbz KP.out.lt).alloc (.cells (mainCells (⟨lg, true, sz, mk⟩ : MainD)) 208)))
                have Hr6 := hide ((below_step Hbi.out hbz (Nat.le_refl _)).alloc (below_step Hbi.out hbz (Nat.le_refl _)).size (.cells (mainCells (⟨lg, true, sz, mk⟩ : MainD)) 208))
                have hal3 : acc2.length ≤ 1000000 := by have := hal2.out; omega
                have hs3 := Hr6.out.size
                have hq9 := hide hq
                clear hst kM hbz
                go_wp2_with (at_builtin; refine wpList_append1 rfl (.tmp 157) (.tmp 159) 137 rfl W0.heap.size 208 (.agg #[.int .i64 0, .int .i64 0, .int .i64 0, .int .i64 0, .int .i64 0, .int .i64 0, .bool false, .int .i64 0, .string ByteArray.empty]) 9 80 encMain Tryz.underlying137 (by kernel_rfl) rfl (by omega) encMain_len encMain_one _ acc2 (⟨lg, true, sz, mk⟩ : MainD) rfl Hr1.out _ rfl Hr2.out hal3 (by omega) hs3 ?_; intro A9 c9 w9 hrow9 hb9 hkeep9)
                go_roundw
                case rel => exact ⟨q + 1, by omega, by go_num, ⟨acc2 ++ [(⟨lg, true, sz, mk⟩ : MainD)], by simpa using hrow9, hide (by rw [hacc2.out, HLs2.out, hmm.out, List.append_assoc])⟩, hkeep9 _ _ _ (by decide) Hr3.out, hkeep9 _ _ _ (by decide) Hr4.out, hkeep9 _ _ _ (by decide) Hr5.out, Hr6.out.trans hb9⟩
                case measure => simp [intOf]; omega
            · have hj9 : j + 1 = ln := by omega
              have hmm := hide (show mm = mainOf ⟨y', pts⟩ from mainState_end (by rw [HpL.out, ← hj9]; exact hst.out))
              have Hr1 := hide ((Hrow2.out.keep hbz).alloc (.cells (mainCells mm) 208))
              have Hr2 := hide (show Blk (wr.alloc (.cells (mainCells mm) 208)) wr.heap.size 208 (encMain mm).toArray from Blk.new wr _ _)
              have Hr3 := hide (((K1.out.below hbz K1.out.lt).alloc (.cells (mainCells mm) 208)))
              have Hr4 := hide (((K2.out.below hbz K2.out.lt).alloc (.cells (mainCells mm) 208)))
              have Hr5 := hide (((KP.out.below hbz KP.out.lt).alloc (.cells (mainCells mm) 208)))
              have Hr6 := hide ((below_step Hbi.out hbz (Nat.le_refl _)).alloc (below_step Hbi.out hbz (Nat.le_refl _)).size (.cells (mainCells mm) 208))
              have hal3 : acc2.length ≤ 1000000 := by have := hal2.out; omega
              have hs3 := Hr6.out.size
              have hq9 := hide hq
              clear hst kM hbz
              go_wp2_with (at_builtin; refine wpList_append1 rfl (.tmp 157) (.tmp 159) 137 rfl W0.heap.size 208 (.agg #[.int .i64 0, .int .i64 0, .int .i64 0, .int .i64 0, .int .i64 0, .int .i64 0, .bool false, .int .i64 0, .string ByteArray.empty]) 9 80 encMain Tryz.underlying137 (by kernel_rfl) rfl (by omega) encMain_len encMain_one _ acc2 mm rfl Hr1.out _ rfl Hr2.out hal3 (by omega) hs3 ?_; intro A9 c9 w9 hrow9 hb9 hkeep9)
              go_roundw
              case rel => exact ⟨q + 1, by omega, by go_num, ⟨acc2 ++ [mm], by simpa using hrow9, hide (by rw [hacc2.out, HLs2.out, hmm.out, List.append_assoc])⟩, hkeep9 _ _ _ (by decide) Hr3.out, hkeep9 _ _ _ (by decide) Hr4.out, hkeep9 _ _ _ (by decide) Hr5.out, Hr6.out.trans hb9⟩
              case measure => simp [intOf]; omega
        · have hq9 : (q : Int) = cnt := by omega
          have hfin := hide (show (laidAll bars (runs.take (k + 1))).map mainOf = acc2 by rw [HLn.out, hacc2.out]; congr 2; omega)
          have Hr := hide hrow2
          have Hb := hide hbi
          clear k1 k2 kP hrow2 hbi
          go_wp2_with fail
          go_roundw
          case rel => exact ⟨k + 1, by omega, by go_num, ⟨acc2, Hr.out, hide hfin.out.symm⟩, Hb.out⟩
          case measure => simp [intOf]; omega
    · obtain rfl : k = n4 := by omega
      have hf : acc = (laidAll bars runs).map mainOf := by rw [hacc.out, L4.out, List.take_length]
      have hl := hide (show (laidAll bars runs).length = acc.length by rw [hf, List.length_map])
      have Hr := hide (show MainsAt wr wr.heap.size A0 ((laidAll bars runs).map mainOf) by rw [← hf]; exact Row.read hrow encMain_len (by omega))
      have Hb := hide (below_step HW0.out hbr (Nat.le_refl _))
      clear hrow hacc hf hbr
      generalize acc.length = na at *
      go_wp2_with fail
      go_ret
      exact ⟨A0, c0, by rw [hl.out]; rfl, Hr.out, Hb.out⟩
end Go.Proofs.YtpmipoljnchheaaGreat
namespace Go.Proofs.YtpmipoljnchheaaGreat
open Go.RowKit Go.Maps

theorem keyedInt : Keyed Tryz.prog 3 := int_keyed Tryz.underlying3
theorem zeroBool (w : World) : (zeroValue 4).run Tryz.prog w = .ok (.bool false) w := by kernel_rfl
/-- A number that an int holds. -/
def InInt (x : Int) : Prop := -9223372036854775808 ≤ x ∧ x ≤ 9223372036854775807
theorem InInt.wf {x : Int} (h : InInt x) : (Lit.int .i64 x).wf = true := WalkArith.wf_i64 h
/-- Block b is a map that holds 'true' at just the numbers of the list. -/
def BSet (w : World) (b n : Nat) (seen : List Int) : Prop :=
  ∃ D : DataW Unit, IsMap D ∧ w.ownsMap Tryz.prog 3 (plainElem Tryz.prog 4) b n D ∧ ∀ x : Int, InInt x → D.atKey (.int .i64 x) (.lit (.bool false)) = .lit (.bool (seen.contains x))
section
variable {w w' : World} {b n : Nat} {seen : List Int}
set_option maxRecDepth 100000 in
theorem BSet.new (w : World) : BSet (w.alloc (.map #[] 0)) w.heap.size 0 [] :=
  ⟨.map [], ⟨[], rfl⟩, World.ownsMap_made _ _ _ _, fun _ _ => rfl⟩
set_option maxRecDepth 100000 in
theorem BSet.lt (h : BSet w b n seen) : b < w.heap.size := by obtain ⟨D, _, ho, _⟩ := h; exact ho.lt
set_option maxRecDepth 100000 in
theorem BSet.keep (h : BSet w b n seen) (hb : Below w.heap.size w w') : BSet w' b n seen := by
  obtain ⟨D, hm, ho, ha⟩ := h
  exact ⟨D, hm, ho.kept (row := none) ⟨hb.os, hb.tape, hb.output, hb.size, fun k hk _ => hb.block k hk⟩ (by simp), ha⟩
theorem BSet.alloc (h : BSet w b n seen) (o : Obj) : BSet (w.alloc o) b n seen := h.keep (below_new w o)
set_option maxRecDepth 100000 in
theorem plainElem_bool_inv {v : Value} {z : DataW Unit × List MemPlace} (h : plainElem Tryz.prog 4 v = some z) : ∃ x, v = .bool x ∧ z = (.lit (.bool x), []) := by
  unfold plainElem at h
  rw [Tryz.underlying4] at h
  cases v <;> simp at h
  exact ⟨_, rfl, h.symm⟩
set_option maxRecDepth 100000 in
theorem BSet.look (h : BSet w b n seen) {x : Int} (hx : InInt x) : (Instr.lookup 169 (.map (some b)) (.int .i64 x) false).run Tryz.prog w = .ok (.bool (seen.contains x)) w := by
  obtain ⟨D, _, ho, ha⟩ := h
  obtain ⟨v, ps, hrun, hv⟩ := ho.lookup keyedInt Tryz.underlying169 (zeroBool w) (plainElem_bool Tryz.underlying4 false) (keyOf_int_mk Tryz.underlying3 hx.wf)
  obtain ⟨y, rfl, hz⟩ := plainElem_bool_inv hv
  rw [ha x hx] at hz
  simp only [Prod.mk.injEq, DataW.lit.injEq, Lit.bool.injEq] at hz
  rw [hrun, hz.1]
set_option maxRecDepth 100000 in
theorem BSet.store (h : BSet w b n seen) {x : Int} (hx : InInt x) (hn : n ≤ 1000000) :
    ∃ w', (Instr.mapUpdate 169 (.map (some b)) (.int .i64 x) (.bool true)).run Tryz.prog w = .ok () w' ∧ BSet w' b (n + 1) (x :: seen) ∧ w.grownBy w' (some b) := by
  obtain ⟨D, hm, ho, ha⟩ := h
  obtain ⟨w', hrun, ho', hg⟩ := ho.update keyedInt Tryz.underlying169 (by unfold maxLen; omega) (keyOf_int_mk Tryz.underlying3 hx.wf) (plainElem_bool Tryz.underlying4 true)
  refine ⟨w', hrun, ⟨D.put (.int .i64 x) (.lit (.bool true)), ?_, ho', fun y hy => ?_⟩, hg⟩
  · obtain ⟨es, rfl⟩ := hm
    exact ⟨_, rfl⟩
  · by_cases hxy : y = x
    · subst hxy
      rw [atKey_put_same hm (by trivial)]
      simp
    · rw [atKey_put_other (by intro he; injection he with _ he; exact hxy he), ha y hy]
      simp [hxy]
end
theorem below_grown {B b : Nat} {w0 w w' : World} (h : Below B w0 w) (hg : w.grownBy w' (some b)) (hB : B ≤ w.heap.size) (hb : B ≤ b) : Below B w0 w' := h.grown hg hB (fun k hk => by cases hk; exact hb)
theorem wpList_store_bset {w : World} {ops : Array Oper} {rest : List Oper} {o : Oper} {a : Act} {Q : Exit → Act → World → Prop} (hg : o.guard = none) (m x v : Operand) (hop : o.op = Op.mapUpdate 169 m x v)
    (b n : Nat) (seen : List Int) (hm : a.eval m = .map (some b)) (hown : BSet w b n seen) (hn : n ≤ 1000000) (y : Int) (hx : a.eval x = .int .i64 y) (hv : a.eval v = .bool true) (hy : InInt y)
    (hK : ∀ w', BSet w' b (n + 1) (y :: seen) → w.grownBy w' (some b) → wpList Tryz.prog ops Q rest (a.put o.dst undef) w') : wpList Tryz.prog ops Q (o :: rest) a w := by
  refine wpList_plain hg fun K' hK' => ?_
  obtain ⟨w', hrun, r1, r2⟩ := hown.store hy hn
  unfold Oper.wp
  simp [execOp, hop, hm, hx, hv, hrun, Result.andThen]
  exact hK' _ _ (hK w' r1 r2)
/-- The same in a region that draws its order. -/
theorem step_store_bset {w : World} {ops : Array Oper} {o : Oper} {a : Act} {K : Act → World → Prop} {Q : Exit → Act → World → Prop} {E : Prop} (hgd : o.guard = none) (m x v : Operand) (hop : o.op = Op.mapUpdate 169 m x v)
    (b n : Nat) (seen : List Int) (hm : a.eval m = .map (some b)) (hown : BSet w b n seen) (hn : n ≤ 1000000) (y : Int) (hx : a.eval x = .int .i64 y) (hv : a.eval v = .bool true) (hy : InInt y)
    (hK : ∀ w', BSet w' b (n + 1) (y :: seen) → w.grownBy w' (some b) → K (a.put o.dst undef) w') : if Region.wanted o (yielded ops a.tmps) = true then Oper.wp Tryz.prog o a w K Q else E := by
  have hw : Region.wanted o (yielded ops a.tmps) = true := by simp [Region.wanted, hgd]
  rw [if_pos hw]
  obtain ⟨w', hrun, r1, r2⟩ := hown.store hy hn
  unfold Oper.wp
  simp [execOp, hop, hm, hx, hv, hrun, Result.andThen]
  exact hK w' r1 r2
theorem BSet.grown {w w' : World} {b n g : Nat} {seen : List Int} (h : BSet w b n seen) (hg : w.grownBy w' (some g)) (hb : b ≠ g) : BSet w' b n seen := by
  obtain ⟨D, hm, ho, ha⟩ := h
  exact ⟨D, hm, ho.kept hg (by simpa using hb), ha⟩
theorem BSet.drew {w : World} {b n : Nat} {seen : List Int} (h : BSet w b n seen) : BSet w.drew b n seen := h.keep (Below.drew (Below.refl _ _))
end Go.Proofs.YtpmipoljnchheaaGreat
