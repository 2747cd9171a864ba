/- The iterator over all laid bars, with their paths: for whatever loop's body keeps its word. -/
import Derived.Test.YtkmpddaobncheaaGreatDoorQau
import Derived.RangeFuncNested
import Derived.RangeFuncBound
import Derived.RangeFuncCalls
import Derived.RangeFuncLeaves
import Derived.Shelf.Abstract
import Derived.Shelf.RegionOpen
import Derived.OwnWalkIn
import Derived.TacticsInMore
import Derived.LoopNIn
import Derived.LoopIn
import Derived.Deep.RegionWith
namespace Go.Proofs.YtkmpddaobncheaaGreatDoor
open Go.RowKit
attribute [local go_sem] Oper.semAt_some

/-! A list of points as the cells of a block. -/
def ptsCells (L : List Pt) : Array Value := (L.flatMap encPt).toArray
theorem ptsCells_get {L : List Pt} {m : Nat} {p : Pt} (h : L[m]? = some p) : (ptsCells L)[m * 3]? = some (.int .i64 p.1) ∧ (ptsCells L)[m * 3 + 1]? = some (.int .i64 p.2.1) ∧ (ptsCells L)[m * 3 + 2]? = some (.int .i64 p.2.2) := by
  have key := flatMap_get encPt_len L m p h
  unfold ptsCells
  simp only [List.getElem?_toArray]
  exact ⟨by simpa using key 0 _ rfl, key 1 _ rfl, key 2 _ rfl⟩
theorem flat_set : ∀ (L : List Pt) (m : Nat) (a b c : Int), m < L.length → (((L.flatMap encPt).set (m * 3) (.int .i64 a)).set (m * 3 + 1) (.int .i64 b)).set (m * 3 + 2) (.int .i64 c) = (L.set m (a, b, c)).flatMap encPt := by
  intro L
  induction L with
  | nil => intro m a b c h; simp at h
  | cons x L ih =>
    intro m a b c h
    cases m with
    | zero => simp [encPt]
    | succ m =>
      have h9 := ih m a b c (by simpa using h)
      rw [List.set_cons_succ, List.flatMap_cons, List.flatMap_cons, ← h9]
      have e1 : (m + 1) * 3 = 3 + m * 3 := by omega
      rw [e1]
      simp only [encPt, List.cons_append, List.nil_append]
      rw [show 3 + m * 3 + 2 = m * 3 + 2 + 1 + 1 + 1 by omega, show 3 + m * 3 + 1 = m * 3 + 1 + 1 + 1 + 1 by omega, show 3 + m * 3 = m * 3 + 1 + 1 + 1 by omega]
      simp only [List.set_cons_succ]
theorem ptsCells_set {L : List Pt} {m : Nat} (h : m < L.length) (a b c : Int) : (((ptsCells L).setIfInBounds (m * 3) (.int .i64 a)).setIfInBounds (m * 3 + 1) (.int .i64 b)).setIfInBounds (m * 3 + 2) (.int .i64 c) = ptsCells (L.set m (a, b, c)) := by
  unfold ptsCells
  rw [← flat_set L m a b c h]
  simp only [List.setIfInBounds_toArray]
theorem made_pts (n : Nat) : madeCells #[.int .i64 0, .int .i64 0, .int .i64 0] (n * 3) = ptsCells (List.replicate n (0, 0, 0)) := by
  have h1 : ∀ k, (List.replicate k ((0, 0, 0) : Pt)).flatMap encPt = List.replicate (k * 3) (Value.int .i64 0) := by
    intro k
    induction k with
    | zero => rfl
    | succ k ih => rw [List.replicate_succ, List.flatMap_cons, ih, show (k + 1) * 3 = k * 3 + 1 + 1 + 1 by omega]; rfl
  unfold ptsCells
  rw [h1]
  apply Array.ext
  · simp [size_madeCells]
  · intro i hi _
    simp only [madeCells, Array.getElem_map, List.getElem_toArray, List.getElem_replicate]
    have : i % 3 < 3 := Nat.mod_lt _ (by omega)
    simp only [Array.getElem_range, List.size_toArray, List.length_cons, List.length_nil]
    rcases (show i % 3 = 0 ∨ i % 3 = 1 ∨ i % 3 = 2 by omega) with h | h | h <;> rw [h] <;> rfl
/-- The first m points final, the others as they were made. -/
def fillTo (F : List Pt) (n m : Nat) : List Pt := F.take m ++ List.replicate (n - m) (0, 0, 0)
theorem fillTo_len {F : List Pt} {n m : Nat} (h : F.length = n) (hm : m ≤ n) : (fillTo F n m).length = n := by simp [fillTo, h]; omega
theorem fillTo_zero (F : List Pt) (n : Nat) : fillTo F n 0 = List.replicate n (0, 0, 0) := by simp [fillTo]
theorem fillTo_all {F : List Pt} {n : Nat} (h : F.length = n) : fillTo F n n = F := by simp [fillTo, ← h]
theorem fillTo_set {F : List Pt} {n m : Nat} {p : Pt} (h : F.length = n) (hp : F[m]? = some p) : (fillTo F n m).set m p = fillTo F n (m + 1) := by
  have hm := lt_of_get hp
  unfold fillTo
  rw [take_snoc' hp, List.set_append_right _ _ (by simp; omega)]
  have e1 : m - (F.take m).length = 0 := by simp; omega
  rw [e1]
  obtain ⟨d, hd⟩ : ∃ d, n - m = d + 1 := ⟨n - m - 1, by omega⟩
  rw [hd, List.replicate_succ, List.set_cons_zero, show n - (m + 1) = d by omega]
  simp
theorem set_set {L : List Pt} {m : Nat} (p q : Pt) : (L.set m p).set m q = L.set m q := by simp

/-! What a round of the loop keeps: but for the loop's own record all lies as it lay. -/
theorem cell_round {W W' : World} {l : Nat} {o : Obj} (hg : W.grownBy W' (some l)) (hl : W.heap[l]? = some o) (ho : o.isCells = false) {a : Addr} {v : Value} (h : W.cell? a = some v) : W'.cell? a = some v :=
  cell_kept h hg (fun r e => by cases e; exact ⟨o, hl, ho⟩)
theorem SlOf.round {α : Type} {enc : α → List Value} {size B : Nat} {A : Option Addr} {L : List α} {W W' : World} {l : Nat} {o : Obj} (h : SlOf W B size (Flat enc) A L) (hg : W.grownBy W' (some l)) (hl : W.heap[l]? = some o) (ho : o.isCells = false) : SlOf W' B size (Flat enc) A L := by
  intro hn
  obtain ⟨b, off, hA, hb, hc⟩ := h hn
  refine ⟨b, off, hA, hb, fun k x hx => ?_⟩
  obtain ⟨vs, hs, hr, hv⟩ := hc k x hx
  exact ⟨vs, hs, hr, fun j v hj => cell_round hg hl ho (hv j v hj)⟩
theorem Blk.round {W W' : World} {l g : Nat} {t : TypeId} {cs : Array Value} {o : Obj} (h : Blk W g t cs) (hg : W.grownBy W' (some l)) (hl : W.heap[l]? = some o) (ho : o.isCells = false) : Blk W' g t cs :=
  h.grown hg (by intro e; cases e; unfold Blk at h; rw [hl] at h; injection h with h; rw [h] at ho; cases ho)
theorem infoPt : (Tryz.prog.info? 49).map (fun i => (i.zero, i.size, i.bytes)) = some (some (.agg #[.int .i64 0, .int .i64 0, .int .i64 0]), 3, 24) := by kernel_rfl
theorem run_make_pts (n : Nat) (hn : n ≤ 1000) (w : World) :
    (Instr.makeSlice 201 (.int .i64 (n : Int)) (.int .i64 (n : Int))).run Tryz.prog w = .ok (.slice (some ⟨w.heap.size, 0, none⟩) n n) (w.alloc (.cells (ptsCells (List.replicate n (0, 0, 0))) 49)) := by
  obtain ⟨i, hi, hz, hs, hb⟩ := info_parts infoPt
  have h := run_make (P := Tryz.prog) (w := w) 201 49 i _ Tryz.underlying201 hi hz .i64 .i64 n n (by omega) (Int.le_refl _) (by rw [hb]; omega) (by omega)
  rw [hs] at h
  simp only [Int.toNat_natCast] at h
  rw [h, ← made_pts]
  rfl
abbrev laidIs (bars : List BarD) (runs : List RunD) (i : Nat) (ld : LaidD) : Prop := (laidAll bars runs)[i]? = some ld
set_option maxHeartbeats 4000000 in
set_option maxRecDepth 100000 in
theorem all1_walk (A3 A4 : Option Addr) (bars : List BarD) (runs : List RunD) (n3 c3 n4 c4 n₀ gB gR l : Nat) (J : Nat → World → Prop) (Jx : World → Prop)
    (hJ : ∀ i W W', J i W → Below W.heap.size W W' → J i W') (hl : ∀ i W, J i W → ∃ o : Obj, W.heap[l]? = some o ∧ o.isCells = false)
    (w : World) (hY : ∀ (i : Nat) (ld : LaidD) (g m c : Nat) (W : World), J i W → (laidAll bars runs)[i]? = some ld → m = ld.pts.length → c = m → w.heap.size ≤ g → PtsAt W W.heap.size (some ⟨g, 0, none⟩) ld.pts →
      YieldAt Fence.wide 2 Tryz.prog l #[.int .i64 i, .slice (some ⟨g, 0, none⟩) m c] W fun e W' => (e = .returned (.bool true) ∧ J (i + 1) W' ∧ W.grownBy W' (some l)) ∨ (e = .returned (.bool false) ∧ Jx W'))
    (h3 : BarsAt w n₀ A3 bars) (h4 : RunsAt w n₀ A4 runs) (hn0 : n₀ ≤ w.heap.size) (hln : n₀ ≤ l) (cB : w.cell? ⟨gB, 0, none⟩ = some (.slice A3 n3 c3)) (cR : w.cell? ⟨gR, 0, none⟩ = some (.slice A4 n4 c4)) (hgB : gB < n₀) (_hgR : gR < n₀)
    (l3 : n3 = bars.length) (l4 : n4 = runs.length) (m3 : n3 ≤ 60000) (htame : Tame bars) (hok : laidOk bars runs = true) (h0 : J 0 w) :
    Calls Tryz.prog 318 #[.func (.yield l) #[] #[], .pointer (some ⟨gR, 0, none⟩), .pointer (some ⟨gB, 0, none⟩)] w fun e w' => (∃ v, e = .returned v) ∧ (J (laidAll bars runs).length w' ∨ Jx w') := by
  obtain ⟨hbars, h60, hruns⟩ := laidOk_mem hok
  have HT := hide (fun (W : World) (hz : Below n₀ w W) (r : RunD) (x : BarD) (j : Nat) (hj : idx (markIs r.mark) bars = (j : Int)) (hx : bars[j]? = some x) (ht : turnOk r.tx r.ty = true) => turned_ok A3 bars n3 c3 r x j W (h3.carry hz (Nat.le_refl _)) (Nat.le_trans hn0 hz.size) l3 m3 htame hj hx (hbars x (mem_of_get hx)) ht)
  have Hruns := hide hruns
  have Hbars := hide hbars
  have H4 := hide h4
  have L4 := hide l4
  have hn60 : n4 ≤ 60 := by rw [l4]; exact h60
  have Hlen := hide (laidOk_len hok).2
  have CB := hide (fun (W : World) (hz : Below n₀ w W) => (hz.cell (p := ⟨gB, 0, none⟩) hgB).trans cB)
  have HJ := hide hJ
  have HL := hide hl
  have HY := hide hY
  have H0 := hide h0
  have hgBw : gB < w.heap.size := by omega
  clear h3 h4 l3 l4 m3 htame hok h0 hbars h60 hruns hJ hl hY cB
  go_enter Tryz.func318, Tryz.ntmps318
  go_wp2_with fail
  go_loopw [4, 14] (fun nv iv wr => ∃ j : Nat, j ≤ n4 ∧ iv = .int .i64 j ∧ (∃ N : Nat, nv = .int .i64 N ∧ Hid (N = (laidAll bars (runs.take j)).length) ∧ J N wr) ∧ Below n₀ w wr) (fun _ iv _ => n4 - (intOf iv).toNat)
  case atStart => exact ⟨0, Nat.zero_le _, rfl, ⟨0, rfl, hide rfl, H0.out⟩, Below.refl _ _⟩
  case round =>
    clear H0 cR
    rename World => wo
    obtain ⟨j, hj, rfl, ⟨N, rfl, hN, hJr⟩, hbr⟩ := hrel
    by_cases hlt : j < n4
    · obtain ⟨b, off, r, rfl, hbl, hx, hc⟩ := RunsAt.get (k := j) (H4.out.carry (Flat.carried _) hbr (Nat.le_refl _)) (by rw [← L4.out]; exact hlt)
      have hrk := Hruns.out r (mem_of_get hx)
      obtain ⟨jj, x, hjj, hxx, hrb, htn⟩ := runOk_bar hrk
      obtain ⟨hcn0, hcn1⟩ := runOk_count hrk
      have hal : (N : Int) + r.count ≤ 2000 := by
        have h9 := Hlen.out
        rw [laidAll_split hx, List.length_append, List.length_append, laidRun_of hrb, laidTo_len] at h9
        rw [hN.out]
        omega
      have Hat := hide (fun (q : Nat) (hq : (q : Int) < r.count) => show laidIs bars runs (N + q) ⟨x, ptsOf x r (q : Int)⟩ by rw [hN.out]; exact laid_at hx hrb hq)
      have Hn := hide (show (laidAll bars (runs.take (j + 1))).length = N + r.count.toNat by rw [laidAll_snoc hx, laidRun_of hrb, List.length_append, laidTo_len, hN.out])
      have HTr := hide (fun (W : World) (hz : Below n₀ w W) => HT.out W hz r x jj hjj hxx htn)
      have Hnear := hide (turned_near (Hbars.out x (mem_of_get hxx)) htn)
      have Hplace := hide (runOk_place hrk)
      have Hmul := hide (fun (q : Int) (h0 : 0 ≤ q) (h1 : q < r.count) => runOk_mul hrk h0 h1)
      have Hpts := hide (fun (q : Int) => ptsOf_turned x r q)
      have Htl := hide (show (turnedOf r x).length ≤ 7 by rw [turnedOf_len, pathOf_len]; have := legsOf_len x.code; omega)
      obtain ⟨tl, htl⟩ : ∃ tl, tl = turnedOf r x := ⟨_, rfl⟩
      rw [← htl] at HTr Hnear Htl
      have Hpts := hide (fun (q : Int) => show ptsOf x r q = tl.map (placeOf r q) by rw [htl]; exact Hpts.out q)
      have Hr := hide (show ∀ q : Int, ∀ p : Pt, placeOf r q p = addP (addP p r.place) (mulP q r.step) from fun _ _ => rfl)
      obtain ⟨FT, hFT⟩ : ∃ FT : Int → List Pt, FT = fun q => ptsOf x r q := ⟨_, rfl⟩
      have HatF := hide (fun (q : Nat) (hq : (q : Int) < r.count) => show laidIs bars runs (N + q) ⟨x, FT (q : Int)⟩ by rw [hFT]; exact Hat.out q hq)
      have HFm := hide (fun (q : Int) => show FT q = tl.map (fun p => addP (addP p r.place) (mulP q r.step)) by rw [hFT]; exact Hpts.out q)
      clear Hat Hpts Hr
      obtain ⟨mark, tx, ty, ⟨p1, p2, p3⟩, ⟨s1, s2, s3⟩, cnt⟩ := r
      have q0 := hc 0 _ rfl
      have q1 := hc 1 _ rfl
      have q2 := hc 2 _ rfl
      have q3 := hc 3 _ rfl
      have q4 := hc 4 _ rfl
      have q5 := hc 5 _ rfl
      have q6 := hc 6 _ rfl
      have q7 := hc 7 _ rfl
      have q8 := hc 8 _ rfl
      have q9 := hc 9 _ rfl
      simp only [Nat.add_zero] at q0 q1 q2 q3 q4 q5 q6 q7 q8 q9 hcn0 hcn1 hal HatF HFm Hn Hplace Hmul HTr
      have hbw : b < wo.heap.size := by have := hbr.size; omega
      have cb := CB.out wo hbr
      have hgw : gB < wo.heap.size := by have := hbr.size; omega
      have hnr : n₀ ≤ wo.heap.size := Nat.le_trans hn0 hbr.size
      have HR := hide (hbr.alloc hnr (.cells #[.string mark, .int .i64 tx, .int .i64 ty, .int .i64 p1, .int .i64 p2, .int .i64 p3, .int .i64 s1, .int .i64 s2, .int .i64 s3, .int .i64 cnt] 120))
      have HJr := hide (HJ.out _ _ _ hJr (below_new wo (.cells #[.string mark, .int .i64 tx, .int .i64 ty, .int .i64 p1, .int .i64 p2, .int .i64 p3, .int .i64 s1, .int .i64 s2, .int .i64 s3, .int .i64 cnt] 120)))
      have hNk := hide hN
      clear hx hbl hc hrk hjj hxx hrb htn htl hFT hN hJr hbr HT
      go_wp2_with fail
      refine (HTr.out _ HR.out).mono ?_
      rintro e w2 ⟨A5, c5, rfl, hpts, hb2⟩
      have K1 := hide ((Blk.new wo 120 #[.string mark, .int .i64 tx, .int .i64 ty, .int .i64 p1, .int .i64 p2, .int .i64 p3, .int .i64 s1, .int .i64 s2, .int .i64 s3, .int .i64 cnt]).keep hb2)
      have HR2 := hide (HR.out.trans (hb2.mono (by simp; omega)))
      have HJ2 := hide (HJ.out _ _ _ HJr.out hb2)
      have Hpts := hide hpts
      have hn2 := hide (Nat.le_trans hn0 HR2.out.size)
      obtain ⟨ln, hlnn⟩ : ∃ ln, ln = tl.length := ⟨_, rfl⟩
      rw [← hlnn]
      have Hln := hide hlnn
      have hl7 : ln ≤ 7 := by rw [hlnn]; exact Htl.out
      have e9 := K1.out.cell 9
      simp at e9
      have lk1 := K1.out.lt
      clear hlnn hb2 hpts HTr q0 q1 q2 q3 q4 q5 q6 q7 q8 q9
      go_wp2_with fail
      go_loopw [4, 23] (fun nv iv wi => ∃ q : Nat, (q : Int) ≤ cnt ∧ iv = .int .i64 q ∧ nv = .int .i64 ((N + q : Nat) : Int) ∧ J (N + q) wi ∧ Blk wi wo.heap.size 120 #[.string mark, .int .i64 tx, .int .i64 ty, .int .i64 p1, .int .i64 p2, .int .i64 p3, .int .i64 s1, .int .i64 s2, .int .i64 s3, .int .i64 cnt] ∧ PtsAt wi w2.heap.size A5 tl ∧ Below n₀ w wi ∧ w2.heap.size ≤ wi.heap.size) (fun _ iv _ => cnt.toNat - (intOf iv).toNat)
      case atStart => exact ⟨0, by omega, rfl, rfl, HJ2.out, K1.out, Hpts.out, HR2.out, Nat.le_refl _⟩
      case round =>
        clear K1 HR2 HJ2 HJr HR Hpts hn2 e9 lk1 cb hgw
        rename World => wq
        obtain ⟨q, hq, rfl, rfl, hJq, k1, hpq, hbq, hszq⟩ := hrel
        have K1 := hide k1
        have HJq := hide hJq
        have Hpq := hide hpq
        have HBq := hide hbq
        clear k1 hJq hpq hbq
        by_cases hql : (q : Int) < cnt
        · have hatq := hide (HatF.out q hql)
          obtain ⟨F, hF⟩ : ∃ F, F = FT (q : Int) := ⟨_, rfl⟩
          rw [← hF] at hatq
          have HFm2 := hide (show F = tl.map (fun p => addP (addP p (p1, p2, p3)) (mulP (q : Int) (s1, s2, s3))) by rw [hF]; exact HFm.out (q : Int))
          have HFl := hide (show F.length = ln by rw [HFm2.out, List.length_map, Hln.out])
          have Hmuq := hide (Hmul.out (q : Int) (by omega) hql)
          have hmk := run_make_pts ln (by omega)
          have hNq : N + q ≤ 2000 := by omega
          have HJo := hide (HJ.out _ _ _ HJq.out (below_new wq (.cells (ptsCells (List.replicate ln (0, 0, 0))) 49)))
          have KO := hide (Blk.new wq 49 (ptsCells (fillTo F ln 0)))
          rw [fillTo_zero] at KO
          clear hF
          go_wp2_with fail
          go_loopw [31] (fun iv wz => ∃ m : Nat, m ≤ ln ∧ iv = .int .i64 m ∧ Blk wz wq.heap.size 49 (ptsCells (fillTo F ln m)) ∧ Below wq.heap.size wq wz ∧ wq.heap.size < wz.heap.size) (fun iv _ => ln - (intOf iv).toNat)
          case atStart => exact ⟨0, Nat.zero_le _, rfl, by rw [fillTo_zero]; exact KO.out, below_new wq _, by simp⟩
          case round =>
            clear KO hmk HJo
            obtain ⟨m, hm, rfl, kO, hbz, hszz⟩ := hrel
            by_cases hml : m < ln
            · obtain ⟨b5, o5, ⟨x1, x2, x3⟩, rfl, hbl5, hx5, x4, x5, x6⟩ := PtsAt.get (k := m) (Hpq.out.carry (Flat.carried _) (hbz.mono hszq) (Nat.le_refl _)) (by rw [← Hln.out]; exact hml)
              have kk := K1.out.below hbz K1.out.lt
              have e3 := kk.cell 3
              have e4 := kk.cell 4
              have e5 := kk.cell 5
              simp at e3 e4 e5
              have lk := kk.lt
              have hbw5 : b5 < wr.heap.size := by omega
              have hFp := hide (show F[m]? = some (addP (addP (x1, x2, x3) (p1, p2, p3)) (mulP (q : Int) (s1, s2, s3))) by rw [HFm2.out, List.getElem?_map, hx5]; rfl)
              have hxn := Hnear.out _ (mem_of_get hx5)
              have HP1 := hide (fun (W : World) => plus_any (x1, x2, x3) (p1, p2, p3) 1 W (nearBy_mono hxn (by omega)) (by rw [mulP_one]; exact nearBy_mono Hplace.out (by omega)))
              have Hzn := hide (nearBy_sum hxn Hplace.out)
              have KK := hide kk
              have KO := hide kO
              have HBz := hide hbz
              simp only at x4 x5 x6
              clear hx5 hbl5 kk kO hbz hxn
              go_wp2_with fail
              refine (HP1.out _).mono ?_
              rintro e w4 ⟨z, rfl, hz, hb4⟩
              have hz2 := hz.out
              rw [mulP_one] at hz2
              rw [← hz2] at hFp Hzn
              have KK := hide ((KK.out.alloc (.cells #[.int .i64 x1, .int .i64 x2, .int .i64 x3] 49)).keep hb4)
              have KO := hide ((KO.out.alloc (.cells #[.int .i64 x1, .int .i64 x2, .int .i64 x3] 49)).keep hb4)
              have HBz := hide (below_step (HBz.out.alloc HBz.out.size (.cells #[.int .i64 x1, .int .i64 x2, .int .i64 x3] 49)) hb4 (Nat.le_refl _))
              obtain ⟨z1, z2, z3⟩ := z
              have hfl := fillTo_len HFl.out hm
              obtain ⟨pz, hpz⟩ : ∃ p, (fillTo F ln m)[m]? = some p := ⟨_, List.getElem?_eq_getElem (by omega)⟩
              obtain ⟨g0, g1, g2⟩ := ptsCells_get hpz
              have c0 := (KO.out.cell (m * 3)).trans g0
              have c1 := (KO.out.cell (m * 3 + 1)).trans g1
              have c2 := (KO.out.cell (m * 3 + 2)).trans g2
              have f0 := KO.out.frozen (m * 3)
              have f1 := KO.out.frozen (m * 3 + 1)
              have f2 := KO.out.frozen (m * 3 + 2)
              have lO := KO.out.lt
              have hset := hide (ptsCells_set (L := fillTo F ln m) (m := m) (by omega) z1 z2 z3)
              have hneq : wo.heap.size ≠ wq.heap.size := by have := K1.out.lt; omega
              clear hz hz2 hb4 g0 g1 g2 hpz HP1 e3 e4 e5 x4 x5 x6
              have HFl2 := hide HFl.out
              have k6 := KK.out.cell 6
              have k7 := KK.out.cell 7
              have k8 := KK.out.cell 8
              simp at k6 k7 k8
              have lk4 := KK.out.lt
              by_cases hq0 : q = 0
              · have d0 : decide (0 < q) = false := by simp; omega
                have hfin := hide (show (fillTo F ln m).set m (z1, z2, z3) = fillTo F ln (m + 1) by
                  refine fillTo_set HFl.out ?_
                  rw [hFp.out, hq0]
                  simp [addP, mulP])
                have KF := ((KO.out.set_ (m * 3) (.int .i64 z1)).set_ (m * 3 + 1) (.int .i64 z2)).set_ (m * 3 + 2) (.int .i64 z3)
                rw [hset.out, hfin.out] at KF
                have KF2 := hide KF
                clear KF hq0 hset hfin k6 k7 k8
                go_wp2_with fail
                go_roundw
                case rel => first | exact ⟨m + 1, by omega, by go_num, KF2.out, ((HBz.out.setCell (p := ⟨wq.heap.size, m * 3, none⟩) (Nat.le_refl _) _).setCell (p := ⟨wq.heap.size, m * 3 + 1, none⟩) (Nat.le_refl _) _).setCell (p := ⟨wq.heap.size, m * 3 + 2, none⟩) (Nat.le_refl _) _, by simp only [World.size_setCell]; exact lO⟩ | ((repeat apply Exists.intro); exact ⟨⟨m + 1, by omega, by go_num, KF2.out, ((HBz.out.setCell (p := ⟨wq.heap.size, m * 3, none⟩) (Nat.le_refl _) _).setCell (p := ⟨wq.heap.size, m * 3 + 1, none⟩) (Nat.le_refl _) _).setCell (p := ⟨wq.heap.size, m * 3 + 2, none⟩) (Nat.le_refl _) _, by simp only [World.size_setCell]; exact lO⟩, rfl⟩)
                case measure => simp [intOf]; omega
              · have d0 : decide (0 < q) = true := by simp; omega
                have KF := ((KO.out.set_ (m * 3) (.int .i64 z1)).set_ (m * 3 + 1) (.int .i64 z2)).set_ (m * 3 + 2) (.int .i64 z3)
                rw [hset.out] at KF
                have HK2 := hide (((KK.out.far (p := ⟨wq.heap.size, m * 3, none⟩) hneq (.int .i64 z1)).far (p := ⟨wq.heap.size, m * 3 + 1, none⟩) hneq (.int .i64 z2)).far (p := ⟨wq.heap.size, m * 3 + 2, none⟩) hneq (.int .i64 z3))
                have HBs := hide (((HBz.out.setCell (p := ⟨wq.heap.size, m * 3, none⟩) (Nat.le_refl _) (.int .i64 z1)).setCell (p := ⟨wq.heap.size, m * 3 + 1, none⟩) (Nat.le_refl _) (.int .i64 z2)).setCell (p := ⟨wq.heap.size, m * 3 + 2, none⟩) (Nat.le_refl _) (.int .i64 z3))
                have KF2 := hide KF
                obtain ⟨w5, hw5⟩ : ∃ w5, w5 = ((w4.setCell ⟨wq.heap.size, m * 3, none⟩ (.int .i64 z1)).setCell ⟨wq.heap.size, m * 3 + 1, none⟩ (.int .i64 z2)).setCell ⟨wq.heap.size, m * 3 + 2, none⟩ (.int .i64 z3) := ⟨_, rfl⟩
                rw [← hw5] at HK2 HBs KF2
                have HP2 := hide (fun (W : World) => plus_any (z1, z2, z3) (s1, s2, s3) (q : Int) W Hzn.out Hmuq.out)
                have hfl2 : ((fillTo F ln m).set m (z1, z2, z3)).length = ln := by rw [List.length_set]; exact hfl
                obtain ⟨g0, g1, g2⟩ := ptsCells_get (show ((fillTo F ln m).set m (z1, z2, z3))[m]? = some (z1, z2, z3) by rw [List.getElem?_set_self (by omega)])
                have HG := hide (And.intro g0 (And.intro g1 g2))
                have c0 := (KF2.out.cell (m * 3)).trans g0
                have c1 := (KF2.out.cell (m * 3 + 1)).trans g1
                have c2 := (KF2.out.cell (m * 3 + 2)).trans g2
                have k6 := HK2.out.cell 6
                have k7 := HK2.out.cell 7
                have k8 := HK2.out.cell 8
                simp at k6 k7 k8
                have l5 := KF2.out.lt
                have l5k := HK2.out.lt
                have Hw5 := hide hw5
                have hset2 := hide (fun (y1 y2 y3 : Int) (hy : F[m]? = some (y1, y2, y3)) => show (((ptsCells ((fillTo F ln m).set m (z1, z2, z3))).setIfInBounds (m * 3) (.int .i64 y1)).setIfInBounds (m * 3 + 1) (.int .i64 y2)).setIfInBounds (m * 3 + 2) (.int .i64 y3) = ptsCells (fillTo F ln (m + 1)) by
                  rw [ptsCells_set (by omega), set_set, fillTo_set HFl.out hy])
                clear KF hset hq0 hw5 g0 g1 g2 KO KK HBz
                go_wp2_with fail
                rw [← Hw5.out]
                go_region_with (go_at_call 177; refine (HP2.out _).mono ?_; rintro e w6 ⟨y, rfl, hy, hb6⟩; obtain ⟨y1, y2, y3⟩ := y; have KF6 := (KF2.out.drew).keep hb6; have c0 := (KF6.cell (m * 3)).trans HG.out.1; have c1 := (KF6.cell (m * 3 + 1)).trans HG.out.2.1; have c2 := (KF6.cell (m * 3 + 2)).trans HG.out.2.2; have f0 := KF6.frozen (m * 3); have f1 := KF6.frozen (m * 3 + 1); have f2 := KF6.frozen (m * 3 + 2); have l6 := KF6.lt; have KF7 := hide KF6; have Hb6 := hide (below_step (HBs.out.drew) hb6 (Nat.le_refl _)); have Hy := hide hy; clear KF6 hb6 hy)
                all_goals
                  have hyf : F[m]? = some (y1, y2, y3) := by rw [hFp.out]; exact congrArg some (Hy.out.out).symm
                  have KF := ((KF7.out.set_ (m * 3) (.int .i64 y1)).set_ (m * 3 + 1) (.int .i64 y2)).set_ (m * 3 + 2) (.int .i64 y3)
                  rw [hset2.out y1 y2 y3 hyf] at KF
                  have KF8 := hide KF
                  clear KF hyf k6 k7 k8
                  go_wp2_with fail
                  go_roundw
                  case rel => first | exact ⟨m + 1, by omega, by go_num, KF8.out, ((Hb6.out.setCell (p := ⟨wq.heap.size, m * 3, none⟩) (Nat.le_refl _) _).setCell (p := ⟨wq.heap.size, m * 3 + 1, none⟩) (Nat.le_refl _) _).setCell (p := ⟨wq.heap.size, m * 3 + 2, none⟩) (Nat.le_refl _) _, by simp only [World.size_setCell]; exact l6⟩ | ((repeat apply Exists.intro); exact ⟨⟨m + 1, by omega, by go_num, KF8.out, ((Hb6.out.setCell (p := ⟨wq.heap.size, m * 3, none⟩) (Nat.le_refl _) _).setCell (p := ⟨wq.heap.size, m * 3 + 1, none⟩) (Nat.le_refl _) _).setCell (p := ⟨wq.heap.size, m * 3 + 2, none⟩) (Nat.le_refl _) _, by simp only [World.size_setCell]; exact l6⟩, rfl⟩)
                  case measure => simp [intOf]; omega
            · obtain rfl : m = ln := by omega
              rw [fillTo_all HFl.out] at kO
              have Hat9 := hide (show PtsAt wr wr.heap.size (some ⟨wq.heap.size, 0, none⟩) F from blk_sl encPt_len kO (fun j u hu => by unfold ptsCells; simpa using hu) hszz)
              have hJ9 := HJ.out _ _ _ HJq.out hbz
              have hwwq : w.heap.size ≤ wq.heap.size := HBq.out.size
              obtain ⟨fn, tmps, assign, body, hy, hR⟩ := HY.out (N + q) ⟨x, F⟩ wq.heap.size m m wr hJ9 hatq.out HFl.out.symm rfl hwwq Hat9.out
              rw [Int.natCast_add] at hy
              go_upto_region 16 with fail
              refine (wpIn_wide (n := 3)).1 ?_
              obtain ⟨o, ho, hoc⟩ := HL.out _ _ hJ9
              have hKr := K1.out.below hbz K1.out.lt
              have hPr := Hpq.out.carry (Flat.carried _) (hbz.mono hszq) (Nat.le_refl _)
              have hnq : n₀ ≤ wq.heap.size := Nat.le_trans hn0 HBq.out.size
              have hBr := HBq.out.trans (hbz.mono hnq)
              have hsr := Nat.le_trans hszq hbz.size
              have hnr : n₀ ≤ wr.heap.size := Nat.le_trans hnq hbz.size
              have HX := hide (And.intro ho (And.intro hoc (And.intro hKr (And.intro hPr (And.intro hBr (And.intro hsr hnr))))))
              clear kO hbz hJ9 ho hoc hKr hPr hBr hsr hnr
              gi_wp2
              refine hR.mono ?_
              rintro e W3 (⟨rfl, hJ3, hk3⟩ | ⟨rfl, hJx3⟩)
              · obtain ⟨ho, hoc, hKr, hPr, hBr, hsr, hnr⟩ := HX.out
                have K1r := hide (hKr.round hk3 ho hoc)
                have Hpr := hide (hPr.round hk3 ho hoc)
                have HBr := hide (hBr.trans ((Below.refl n₀ wr).grown hk3 hnr (fun k e => by cases e; exact hln)))
                have Hsr := hide (Nat.le_trans hsr hk3.size)
                clear ho hoc hKr hPr hBr hsr hnr hk3 HX hR hy
                gi_wp2
                go_wp2_with fail
                go_roundw
                case rel => first | exact ⟨q + 1, by omega, by go_num, by go_num, hJ3, K1r.out, Hpr.out, HBr.out, Hsr.out⟩ | ((repeat apply Exists.intro); exact ⟨⟨q + 1, by omega, by go_num, by go_num, hJ3, K1r.out, Hpr.out, HBr.out, Hsr.out⟩, rfl⟩)
                case measure => simp [intOf]; omega
              · gi_wp2
                go_wp2_with fail
                refine bodyPost_ret (results_none rfl _ _ _) rfl ?_
                exact ⟨⟨_, rfl⟩, .inr hJx3⟩
        · have hq9 : (q : Int) = cnt := by omega
          have hN9 := hide (show (laidAll bars (runs.take (j + 1))).length = N + q by rw [Hn.out]; omega)
          go_wp2_with fail
          go_roundw
          case rel => exact ⟨j + 1, by omega, by go_num, ⟨N + q, by simp, hide hN9.out.symm, HJq.out⟩, HBq.out⟩
          case measure => simp [intOf]; omega
    · obtain rfl : j = n4 := by omega
      have hfin := hide (show N = (laidAll bars runs).length by rw [hN.out, L4.out, List.take_length])
      go_wp2_with fail
      go_end0
      exact ⟨⟨_, rfl⟩, .inl (by rw [← hfin.out]; exact hJr)⟩
end Go.Proofs.YtkmpddaobncheaaGreatDoor
