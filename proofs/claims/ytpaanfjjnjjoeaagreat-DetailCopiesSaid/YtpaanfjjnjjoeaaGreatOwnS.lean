/- One number of a detail of the call's own is stored anew. No walk stands here. -/
import Derived.Test.YtpaanfjjnjjoeaaGreatQbn
import Derived.Test.YtpaanfjjnjjoeaaGreatQbf
namespace Go.Proofs.YtpaanfjjnjjoeaaGreat
open Go.RowKit

theorem wrap_ne (v : Int) : IntKind.i64.wrap (v + 1) ≠ v := by
  intro h
  simp [IntKind.wrap, IntKind.signed, IntKind.bits] at h
  split at h <;> omega
theorem blk_ne {w : World} {g g' : Nat} {t t' : TypeId} {cs cs' : Array Value} (h : Blk w g t cs) (h' : Blk w g' t' cs') (hne : t ≠ t') : g ≠ g' := by
  rintro rfl
  have h9 := h.symm.trans h'
  injection h9 with h9
  injection h9 with _ h9 _
  exact hne h9
section
variable {w : World} {lo : Nat} {x : DetD} {s : DetS} {b : Nat → Nat} {LB : List BarX} {LD : List DemX}
theorem OwnDet.mono (h : OwnDet w lo x s b LB LD) {i j : Nat} (hij : i ≤ j) : b i ≤ b j := by
  obtain ⟨d, rfl⟩ : ∃ d, j = i + d := ⟨j - i, by omega⟩
  clear hij
  induction d with
  | zero => exact Nat.le_refl _
  | succ d ih => exact Nat.le_trans ih (h.up (i + d))
theorem OwnDet.off (h : OwnDet w lo x s b LB LD) {i j g : Nat} (h1 : b i ≤ g) (h2 : g < b (i + 1)) (hne : j ≠ i) : ∀ k, some g = some k → k < b j ∨ b (j + 1) ≤ k := by
  intro k hk
  injection hk with hk
  subst hk
  rcases Nat.lt_or_gt_of_ne hne with hl | hl
  · exact .inr (Nat.le_trans (h.mono (show j + 1 ≤ i by omega)) h1)
  · exact .inl (Nat.lt_of_lt_of_le h2 (h.mono (show i + 1 ≤ j by omega)))
theorem inrow_lt {α : Type} {w : World} {l1 l2 size : Nat} {e : TypeId} {enc : α → List Value} {g n c : Nat} {l : List α} (h : InRow w l1 l2 e size enc (.slice (some ⟨g, 0, none⟩) n c) l) : g < l2 := h.up g (by simp [Value.ownBlock])
/-- The bars and the demands, read, where their rows were kept. -/
theorem own_bars {w' : World} {lo2 hi2 lo3 hi3 : Nat} {A : Option Addr} {n c : Nat} {L : List BarX} (h : InRow w' lo2 hi2 50 5 encBarX (.slice A n c) L) (hd : SubIn 3 1 encInt (fun p : BarX => Value.slice p.2.1 p.1.dims.length p.2.2) (fun p => p.1.dims) w' lo3 hi3 L) : BarsAt w' w'.heap.size A (L.map (·.1)) :=
  bars_join (h.row.read encBarX_len (by omega)) (fun p hp => by
    obtain ⟨k, hk, hkp⟩ := List.getElem_of_mem hp
    exact (hd.own.row k p hk (by rw [List.getElem?_eq_getElem hk, hkp])).read encInt_len (by omega))
theorem own_dems {w' : World} {lo2 hi2 lo3 hi3 : Nat} {A : Option Addr} {n c : Nat} {L : List DemX} (h : InRow w' lo2 hi2 69 8 encDemX (.slice A n c) L) (hd : SubIn 71 2 encStp (fun p : DemX => Value.slice p.2.1 p.1.steps.length p.2.2) (fun p => p.1.steps) w' lo3 hi3 L) : DemsAt w' w'.heap.size A (L.map (·.1)) :=
  dems_join (h.row.read encDemX_len (by omega)) (fun p hp => by
    obtain ⟨k, hk, hkp⟩ := List.getElem_of_mem hp
    exact (hd.own.row k p hk (by rw [List.getElem?_eq_getElem hk, hkp])).read (fun _ => rfl) (by omega))
theorem OwnDet.put_box (h : OwnDet w lo x s b LB LD) {q : BoxD} {r : List BoxD} (hx : x.mem.boxes = q :: r) :
    ∃ g cs, s.a1 = some ⟨g, 0, none⟩ ∧ lo ≤ g ∧ (∀ w0, OwnDet w0 lo x s b LB LD → g < w0.heap.size) ∧ Blk w g 62 cs ∧ cs[3]? = some (.int .i64 q.hi.1) ∧
      ∀ u : Int, DetAt (w.setCell ⟨g, 3, none⟩ (.int .i64 u)) (w.setCell ⟨g, 3, none⟩ (.int .i64 u)).heap.size ⟨⟨x.mem.name, ⟨q.lo, (u, q.hi.2)⟩ :: r, x.mem.holes, x.mem.cover, x.mem.aggregate, x.mem.poker⟩, x.bars, x.runs, x.laps, x.dems, x.rule⟩ s := by
  have r1 := h.r1.row
  rw [hx] at r1
  obtain ⟨g, cs, hA, hg, hb, hc, _⟩ := row_put encB_len r1 (i := 0) (j := 3) (x := q) (y := q) (u := .int .i64 q.hi.1) rfl (by omega) rfl
  have hlt : g < b 1 := by
    have h9 := h.r1
    rw [hA] at h9
    exact inrow_lt h9
  refine ⟨g, cs, hA, Nat.le_trans h.low hg, fun w0 h0 => (by
    have h9 := h0.r1.row
    rw [hA] at h9
    exact Nat.lt_of_not_le (fun h8 => apart_new h9 h8 (by simp [Value.ownBlock]))), hb, hc 3 _ rfl, fun u => ?_⟩
  obtain ⟨g2, _, hA2, _, _, _, hr⟩ := row_put encB_len r1 (i := 0) (j := 3) (x := q) (y := ⟨q.lo, (u, q.hi.2)⟩) (u := .int .i64 u) rfl (by omega) rfl
  rw [hA] at hA2
  injection hA2 with hA2
  injection hA2 with hA2
  subst hA2
  have hG := grown_set w g 3 (.int .i64 u)
  have of := fun j (hj : j ≠ 0) => h.off (i := 0) (j := j) hg hlt hj
  have b3 := own_bars (h.r3.kept hG (of 2 (by omega))) (h.d3.kept hG (of 6 (by omega)))
  have b6 := own_dems (h.r6.kept hG (of 5 (by omega))) (h.d6.kept hG (of 7 (by omega)))
  rw [h.m3] at b3
  rw [h.m6] at b6
  exact ⟨hr.read encB_len (by omega), (h.r2.kept hG (of 1 (by omega))).row.read encB_len (by omega), b3, (h.r4.kept hG (of 3 (by omega))).row.read (fun _ => rfl) (by omega), (h.r5.kept hG (of 4 (by omega))).row.read (fun _ => rfl) (by omega), b6⟩
theorem OwnDet.put_run (h : OwnDet w lo x s b LB LD) {q : RunD} {r : List RunD} (hx : x.runs = q :: r) :
    ∃ g cs, s.a4 = some ⟨g, 0, none⟩ ∧ lo ≤ g ∧ (∀ w0, OwnDet w0 lo x s b LB LD → g < w0.heap.size) ∧ Blk w g 66 cs ∧ cs[4]? = some (.int .i64 q.place.2.1) ∧
      ∀ u : Int, DetAt (w.setCell ⟨g, 4, none⟩ (.int .i64 u)) (w.setCell ⟨g, 4, none⟩ (.int .i64 u)).heap.size ⟨x.mem, x.bars, ⟨q.mark, q.tx, q.ty, (q.place.1, u, q.place.2.2), q.step, q.count⟩ :: r, x.laps, x.dems, x.rule⟩ s := by
  have r4 := h.r4.row
  rw [hx] at r4
  obtain ⟨g, cs, hA, hg, hb, hc, _⟩ := row_put encRun_len r4 (i := 0) (j := 4) (x := q) (y := q) (u := .int .i64 q.place.2.1) rfl (by omega) rfl
  have hlt : g < b 4 := by
    have h9 := h.r4
    rw [hA] at h9
    exact inrow_lt h9
  refine ⟨g, cs, hA, Nat.le_trans h.low (Nat.le_trans (h.from0 3) hg), fun w0 h0 => (by
    have h9 := h0.r4.row
    rw [hA] at h9
    exact Nat.lt_of_not_le (fun h8 => apart_new h9 h8 (by simp [Value.ownBlock]))), hb, hc 4 _ rfl, fun u => ?_⟩
  obtain ⟨g2, _, hA2, _, _, _, hr⟩ := row_put encRun_len r4 (i := 0) (j := 4) (x := q) (y := ⟨q.mark, q.tx, q.ty, (q.place.1, u, q.place.2.2), q.step, q.count⟩) (u := .int .i64 u) rfl (by omega) rfl
  rw [hA] at hA2
  injection hA2 with hA2
  injection hA2 with hA2
  subst hA2
  have hG := grown_set w g 4 (.int .i64 u)
  have of := fun j (hj : j ≠ 3) => h.off (i := 3) (j := j) hg hlt hj
  have b3 := own_bars (h.r3.kept hG (of 2 (by omega))) (h.d3.kept hG (of 6 (by omega)))
  have b6 := own_dems (h.r6.kept hG (of 5 (by omega))) (h.d6.kept hG (of 7 (by omega)))
  rw [h.m3] at b3
  rw [h.m6] at b6
  exact ⟨(h.r1.kept hG (of 0 (by omega))).row.read encB_len (by omega), (h.r2.kept hG (of 1 (by omega))).row.read encB_len (by omega), b3, hr.read (fun _ => rfl) (by omega), (h.r5.kept hG (of 4 (by omega))).row.read (fun _ => rfl) (by omega), b6⟩
theorem OwnDet.put_lap (h : OwnDet w lo x s b LB LD) {q : JoinD} {r : List JoinD} (hx : x.laps = q :: r) :
    ∃ g cs, s.a5 = some ⟨g, 0, none⟩ ∧ lo ≤ g ∧ (∀ w0, OwnDet w0 lo x s b LB LD → g < w0.heap.size) ∧ Blk w g 73 cs ∧ cs[1]? = some (.int .i64 q.second) ∧
      ∀ u : Int, DetAt (w.setCell ⟨g, 1, none⟩ (.int .i64 u)) (w.setCell ⟨g, 1, none⟩ (.int .i64 u)).heap.size ⟨x.mem, x.bars, x.runs, ⟨q.first, u⟩ :: r, x.dems, x.rule⟩ s := by
  have r5 := h.r5.row
  rw [hx] at r5
  obtain ⟨g, cs, hA, hg, hb, hc, _⟩ := row_put encJoin_len r5 (i := 0) (j := 1) (x := q) (y := q) (u := .int .i64 q.second) rfl (by omega) rfl
  have hlt : g < b 5 := by
    have h9 := h.r5
    rw [hA] at h9
    exact inrow_lt h9
  refine ⟨g, cs, hA, Nat.le_trans h.low (Nat.le_trans (h.from0 4) hg), fun w0 h0 => (by
    have h9 := h0.r5.row
    rw [hA] at h9
    exact Nat.lt_of_not_le (fun h8 => apart_new h9 h8 (by simp [Value.ownBlock]))), hb, hc 1 _ rfl, fun u => ?_⟩
  obtain ⟨g2, _, hA2, _, _, _, hr⟩ := row_put encJoin_len r5 (i := 0) (j := 1) (x := q) (y := ⟨q.first, u⟩) (u := .int .i64 u) rfl (by omega) rfl
  rw [hA] at hA2
  injection hA2 with hA2
  injection hA2 with hA2
  subst hA2
  have hG := grown_set w g 1 (.int .i64 u)
  have of := fun j (hj : j ≠ 4) => h.off (i := 4) (j := j) hg hlt hj
  have b3 := own_bars (h.r3.kept hG (of 2 (by omega))) (h.d3.kept hG (of 6 (by omega)))
  have b6 := own_dems (h.r6.kept hG (of 5 (by omega))) (h.d6.kept hG (of 7 (by omega)))
  rw [h.m3] at b3
  rw [h.m6] at b6
  exact ⟨(h.r1.kept hG (of 0 (by omega))).row.read encB_len (by omega), (h.r2.kept hG (of 1 (by omega))).row.read encB_len (by omega), b3, (h.r4.kept hG (of 3 (by omega))).row.read (fun _ => rfl) (by omega), hr.read (fun _ => rfl) (by omega), b6⟩
theorem row_same {α : Type} {w : World} {base size : Nat} {e : TypeId} {enc : α → List Value} {v : Value} {l l' : List α} (h : Row w base e size enc v l) (hl : l'.length = l.length) (hf : l'.flatMap enc = l.flatMap enc) : Row w base e size enc v l' := by
  unfold Row at h ⊢
  rw [hl, hf]
  exact h
theorem map_cons' {α β : Type} {f : α → β} {L : List α} {y : β} {r : List β} (h : L.map f = y :: r) : ∃ p R, L = p :: R ∧ f p = y ∧ R.map f = r := by
  cases L with
  | nil => cases h
  | cons p R =>
    injection h with h1 h2
    exact ⟨p, R, rfl, h1, h2⟩
theorem OwnDet.put_dim (h : OwnDet w lo x s b LB LD) {m : ByteArray} {z1 z2 z3 d0 : Int} {ds : List Int} {r : List BarD} (hx : x.bars = ⟨m, z1, z2, z3, d0 :: ds⟩ :: r) :
    ∃ g cs g2 cs2 c2, s.a3 = some ⟨g2, 0, none⟩ ∧ Blk w g2 50 cs2 ∧ cs2[4]? = some (.slice (some ⟨g, 0, none⟩) (ds.length + 1) c2) ∧ lo ≤ g ∧ (∀ w0, OwnDet w0 lo x s b LB LD → g < w0.heap.size) ∧ Blk w g 3 cs ∧ cs[0]? = some (.int .i64 d0) ∧
      ∀ u : Int, DetAt (w.setCell ⟨g, 0, none⟩ (.int .i64 u)) (w.setCell ⟨g, 0, none⟩ (.int .i64 u)).heap.size ⟨x.mem, ⟨m, z1, z2, z3, u :: ds⟩ :: r, x.runs, x.laps, x.dems, x.rule⟩ s := by
  obtain ⟨p, LR, rfl, hp, hR⟩ := map_cons' (h.m3.trans hx)
  obtain ⟨pb, pA, pc⟩ := p
  simp only at hp
  subst hp
  obtain ⟨g2, cs2, hA2, _, hb2, hc2, _⟩ := row_put encBarX_len h.r3.row (i := 0) (j := 4) (x := (⟨m, z1, z2, z3, d0 :: ds⟩, pA, pc)) (y := (⟨m, z1, z2, z3, d0 :: ds⟩, pA, pc)) (u := .slice pA (ds.length + 1) pc) rfl (by omega) rfl
  have hr0 := h.d3.own.row 0 (⟨m, z1, z2, z3, d0 :: ds⟩, pA, pc) (Nat.zero_lt_succ _) rfl
  obtain ⟨g, cs, hA, hg, hb, hc, _⟩ := row_put encInt_len hr0 (i := 0) (j := 0) (x := d0) (y := d0) (u := .int .i64 d0) rfl (by omega) rfl
  simp only at hA
  subst hA
  have hlt : g < b 7 := h.d3.up 0 _ g rfl (by simp [Value.ownBlock])
  refine ⟨g, cs, g2, cs2, pc, hA2, hb2, hc2 4 _ rfl, Nat.le_trans h.low (Nat.le_trans (h.from0 6) hg), fun w0 h0 => Nat.lt_of_not_le (fun h8 => apart_new (h0.d3.own.row 0 _ (Nat.zero_lt_succ _) rfl) h8 (by simp [Value.ownBlock])), hb, hc 0 _ rfl, fun u => ?_⟩
  obtain ⟨g9, _, hA9, _, _, _, hr⟩ := row_put encInt_len hr0 (i := 0) (j := 0) (x := d0) (y := u) (u := .int .i64 u) rfl (by omega) rfl
  injection hA9 with hA9
  injection hA9 with hA9
  subst hA9
  have hG := grown_set w g 0 (.int .i64 u)
  have of := fun j (hj : j ≠ 6) => h.off (i := 6) (j := j) hg hlt hj
  have q3 := (h.r3.kept hG (of 2 (by omega))).row
  have q3' : Row (w.setCell ⟨g, 0, none⟩ (.int .i64 u)) (b 2) 50 5 encBarX (.slice s.a3 s.n3 s.c3) (((⟨m, z1, z2, z3, u :: ds⟩ : BarD), some (⟨g, 0, none⟩ : Addr), pc) :: LR) := row_same q3 rfl rfl
  have b3 := bars_join (q3'.read encBarX_len (by omega)) (fun p hp => by
    rcases List.mem_cons.1 hp with rfl | hp
    · exact hr.read encInt_len (by omega)
    · obtain ⟨k, hk, hkp⟩ := List.getElem_of_mem hp
      have e9 : (((⟨m, z1, z2, z3, d0 :: ds⟩ : BarD), some (⟨g, 0, none⟩ : Addr), pc) :: LR)[k + 1]? = some p := by rw [List.getElem?_cons_succ, List.getElem?_eq_getElem hk, hkp]
      have hl9 : k + 1 < (((⟨m, z1, z2, z3, d0 :: ds⟩ : BarD), some (⟨g, 0, none⟩ : Addr), pc) :: LR).length := lt_of_get e9
      refine (row_kept (h.d3.own.row (k + 1) p hl9 e9) hG (fun j hj => ?_)).read encInt_len (by omega)
      injection hj with hj
      subst hj
      exact h.d3.own.far 0 (k + 1) _ p (Nat.zero_lt_succ _) hl9 rfl e9 g (by simp [Value.ownBlock]))
  have b6 := own_dems (h.r6.kept hG (of 5 (by omega))) (h.d6.kept hG (of 7 (by omega)))
  rw [List.map_cons, hR] at b3
  rw [h.m6] at b6
  exact ⟨(h.r1.kept hG (of 0 (by omega))).row.read encB_len (by omega), (h.r2.kept hG (of 1 (by omega))).row.read encB_len (by omega), b3, (h.r4.kept hG (of 3 (by omega))).row.read (fun _ => rfl) (by omega), (h.r5.kept hG (of 4 (by omega))).row.read (fun _ => rfl) (by omega), b6⟩
theorem OwnDet.put_step (h : OwnDet w lo x s b LB LD) {m : ByteArray} {z : BoxD} {d0 : Int × Int} {ds : List (Int × Int)} {r : List DemD} (hx : x.dems = ⟨m, z, d0 :: ds⟩ :: r) :
    ∃ g cs g2 cs2 c2, s.a6 = some ⟨g2, 0, none⟩ ∧ Blk w g2 69 cs2 ∧ cs2[7]? = some (.slice (some ⟨g, 0, none⟩) (ds.length + 1) c2) ∧ lo ≤ g ∧ (∀ w0, OwnDet w0 lo x s b LB LD → g < w0.heap.size) ∧ Blk w g 71 cs ∧ cs[1]? = some (.int .i64 d0.2) ∧
      ∀ u : Int, DetAt (w.setCell ⟨g, 1, none⟩ (.int .i64 u)) (w.setCell ⟨g, 1, none⟩ (.int .i64 u)).heap.size ⟨x.mem, x.bars, x.runs, x.laps, ⟨m, z, (d0.1, u) :: ds⟩ :: r, x.rule⟩ s := by
  obtain ⟨p, LR, rfl, hp, hR⟩ := map_cons' (h.m6.trans hx)
  obtain ⟨pb, pA, pc⟩ := p
  simp only at hp
  subst hp
  obtain ⟨g2, cs2, hA2, _, hb2, hc2, _⟩ := row_put encDemX_len h.r6.row (i := 0) (j := 7) (x := (⟨m, z, d0 :: ds⟩, pA, pc)) (y := (⟨m, z, d0 :: ds⟩, pA, pc)) (u := .slice pA (ds.length + 1) pc) rfl (by omega) rfl
  have hr0 := h.d6.own.row 0 (⟨m, z, d0 :: ds⟩, pA, pc) (Nat.zero_lt_succ _) rfl
  obtain ⟨g, cs, hA, hg, hb, hc, _⟩ := row_put (enc := encStp) (size := 2) (fun _ => rfl) hr0 (i := 0) (j := 1) (x := d0) (y := d0) (u := .int .i64 d0.2) rfl (by omega) rfl
  simp only at hA
  subst hA
  have hlt : g < b 8 := h.d6.up 0 _ g rfl (by simp [Value.ownBlock])
  refine ⟨g, cs, g2, cs2, pc, hA2, hb2, hc2 7 _ rfl, Nat.le_trans h.low (Nat.le_trans (h.from0 7) hg), fun w0 h0 => Nat.lt_of_not_le (fun h8 => apart_new (h0.d6.own.row 0 _ (Nat.zero_lt_succ _) rfl) h8 (by simp [Value.ownBlock])), hb, hc 1 _ rfl, fun u => ?_⟩
  obtain ⟨g9, _, hA9, _, _, _, hr⟩ := row_put (enc := encStp) (size := 2) (fun _ => rfl) hr0 (i := 0) (j := 1) (x := d0) (y := (d0.1, u)) (u := .int .i64 u) rfl (by omega) rfl
  injection hA9 with hA9
  injection hA9 with hA9
  subst hA9
  have hG := grown_set w g 1 (.int .i64 u)
  have of := fun j (hj : j ≠ 7) => h.off (i := 7) (j := j) hg hlt hj
  have q6 := (h.r6.kept hG (of 5 (by omega))).row
  have q6' : Row (w.setCell ⟨g, 1, none⟩ (.int .i64 u)) (b 5) 69 8 encDemX (.slice s.a6 s.n6 s.c6) (((⟨m, z, (d0.1, u) :: ds⟩ : DemD), some (⟨g, 0, none⟩ : Addr), pc) :: LR) := row_same q6 rfl rfl
  have b6 := dems_join (q6'.read encDemX_len (by omega)) (fun p hp => by
    rcases List.mem_cons.1 hp with rfl | hp
    · exact hr.read (fun _ => rfl) (by omega)
    · obtain ⟨k, hk, hkp⟩ := List.getElem_of_mem hp
      have e9 : (((⟨m, z, d0 :: ds⟩ : DemD), some (⟨g, 0, none⟩ : Addr), pc) :: LR)[k + 1]? = some p := by rw [List.getElem?_cons_succ, List.getElem?_eq_getElem hk, hkp]
      have hl9 : k + 1 < (((⟨m, z, d0 :: ds⟩ : DemD), some (⟨g, 0, none⟩ : Addr), pc) :: LR).length := lt_of_get e9
      refine (row_kept (h.d6.own.row (k + 1) p hl9 e9) hG (fun j hj => ?_)).read (fun _ => rfl) (by omega)
      injection hj with hj
      subst hj
      exact h.d6.own.far 0 (k + 1) _ p (Nat.zero_lt_succ _) hl9 rfl e9 g (by simp [Value.ownBlock]))
  have b3 := own_bars (h.r3.kept hG (of 2 (by omega))) (h.d3.kept hG (of 6 (by omega)))
  rw [List.map_cons, hR] at b6
  rw [h.m3] at b3
  exact ⟨(h.r1.kept hG (of 0 (by omega))).row.read encB_len (by omega), (h.r2.kept hG (of 1 (by omega))).row.read encB_len (by omega), b3, (h.r4.kept hG (of 3 (by omega))).row.read (fun _ => rfl) (by omega), (h.r5.kept hG (of 4 (by omega))).row.read (fun _ => rfl) (by omega), b6⟩
theorem OwnDet.toLow (h : OwnDet w lo x s b LB LD) : OwnLow w lo x s LB LD :=
  OwnDet.runs h (grown_below (Below.refl _ w) _) (h.r4.mono (Nat.le_trans h.low (h.from0 3)) (Nat.le_refl _)).row (by cases x; rfl) (by cases s; rfl)
theorem OwnDet.dem0 (h : OwnDet w lo x s b LB LD) {q : DemD} {r : List DemD} (hx : x.dems = q :: r) : ∃ g2 cs2 A c2, s.a6 = some ⟨g2, 0, none⟩ ∧ Blk w g2 69 cs2 ∧ cs2[7]? = some (.slice A q.steps.length c2) := by
  obtain ⟨p, LR, rfl, hp, _⟩ := map_cons' (h.m6.trans hx)
  obtain ⟨pb, pA, pc⟩ := p
  simp only at hp
  subst hp
  obtain ⟨g2, cs2, hA2, _, hb2, hc2, _⟩ := row_put encDemX_len h.r6.row (i := 0) (j := 7) (x := (pb, pA, pc)) (y := (pb, pA, pc)) (u := .slice pA pb.steps.length pc) rfl (by omega) rfl
  exact ⟨g2, cs2, pA, pc, hA2, hb2, hc2 7 _ rfl⟩
theorem DetAt.rule {w : World} {B : Nat} {x : DetD} {s : DetS} (h : DetAt w B x s) (r : RuleD) : DetAt w B ⟨x.mem, x.bars, x.runs, x.laps, x.dems, r⟩ s := ⟨h.1, h.2, h.3, h.4, h.5, h.6⟩
end
theorem DetFit.like {x x' : DetD} {s : DetS} (f : DetFit x s) (h1 : x'.mem.boxes.length = x.mem.boxes.length) (h2 : x'.mem.holes.length = x.mem.holes.length) (h3 : x'.bars.map (fun b => (b.mark, b.dims.length)) = x.bars.map (fun b => (b.mark, b.dims.length))) (h4 : x'.runs.length = x.runs.length) (h5 : x'.laps.length = x.laps.length)
    (h6 : x'.dems.map (fun d => (d.name, d.steps.length)) = x.dems.map (fun d => (d.name, d.steps.length))) (hn : x'.mem.name = x.mem.name) : DetFit x' s := by
  have l3 := congrArg List.length h3
  have l6 := congrArg List.length h6
  rw [List.length_map, List.length_map] at l3 l6
  refine ⟨by rw [h1]; exact f.l1, by rw [h2]; exact f.l2, by rw [l3]; exact f.l3, by rw [h4]; exact f.l4, by rw [h5]; exact f.l5, by rw [l6]; exact f.l6, f.m3, f.m4, f.m5, f.m6, f.k6, by rw [hn]; exact f.name, fun b hb => ?_, fun d hd => ?_⟩
  · have h9 := List.mem_map_of_mem (f := fun b : BarD => (b.mark, b.dims.length)) hb
    rw [h3] at h9
    obtain ⟨c, hc, he⟩ := List.mem_map.1 h9
    have hq := f.tame c hc
    injection he with e1 e2
    rw [e1, e2] at hq
    exact hq
  · have h9 := List.mem_map_of_mem (f := fun d : DemD => (d.name, d.steps.length)) hd
    rw [h6] at h9
    obtain ⟨c, hc, he⟩ := List.mem_map.1 h9
    have hq := f.dems c hc
    injection he with e1 e2
    rw [e1, e2] at hq
    exact hq
theorem steps_like {x x' : DetD} (h6 : x'.dems.map (fun d => (d.name, d.steps.length)) = x.dems.map (fun d => (d.name, d.steps.length))) (h : ∀ d ∈ x.dems, d.steps.length ≤ 60000) : ∀ d ∈ x'.dems, d.steps.length ≤ 60000 := by
  intro d hd
  have h9 := List.mem_map_of_mem (f := fun d : DemD => (d.name, d.steps.length)) hd
  rw [h6] at h9
  obtain ⟨c, hc, he⟩ := List.mem_map.1 h9
  have hq := h c hc
  injection he with e1 e2
  rw [e2] at hq
  exact hq
theorem det_boxes {x : DetD} (h : detOk x = true) : ∃ q r, x.mem.boxes = q :: r := by
  simp only [detOk, detHead, memOk, solidOk, Bool.and_eq_true, decide_eq_true_eq] at h
  have h1 : 1 ≤ x.mem.boxes.length := by
    obtain ⟨⟨⟨⟨⟨h, _⟩, _⟩, _⟩, _⟩, _⟩ := h
    obtain ⟨⟨⟨⟨_, h⟩, _⟩, _⟩, _⟩ := h
    exact h.1.1.1.1
  cases hb : x.mem.boxes with
  | nil => rw [hb] at h1; simp at h1
  | cons q r => exact ⟨q, r, rfl⟩
theorem fold_ge {α : Type} (f : α → Int) : ∀ (l : List α) (a : Int), a ≤ l.foldl (fun a p => max a (f p)) a := by
  intro l
  induction l with
  | nil => intro a; exact Int.le_refl _
  | cons p l ih => intro a; exact Int.le_trans (Int.le_max_left a (f p)) (ih (max a (f p)))
theorem dimsN_pos {c : Int} (h : dimsE c = 0) : 1 ≤ dimsN c := by
  have h1 : (-1 : Int) ≤ (legsOf c).foldl (fun a p => max a p.1) (-1) := fold_ge (fun p => p.1) (legsOf c) (-1)
  have h2 : dimsN c = (legsOf c).foldl (fun a p => max a p.1) (-1) + 1 := rfl
  rw [dimsE] at h
  by_cases h3 : dimsN c = 0
  · rw [if_pos h3] at h
    omega
  · omega
theorem det_dims {x : DetD} (h : detOk x = true) {q : BarD} {r : List BarD} (hx : x.bars = q :: r) : ∃ d ds, q.dims = d :: ds := by
  have h1 := (detOk_parts h).2.1
  simp only [laidOk, schedOk, Bool.and_eq_true] at h1
  have h2 := h1.1.1.2
  rw [hx] at h2
  simp only [schedFrom, barOk, Bool.and_eq_true, decide_eq_true_eq] at h2
  have h3 := h2.1.1.1.2
  have h4 := dimsN_pos h2.1.1.1.1.1.1.1.1
  cases hb : q.dims with
  | nil => rw [hb] at h3; simp at h3; omega
  | cons d ds => exact ⟨d, ds, rfl⟩
end Go.Proofs.YtpaanfjjnjjoeaaGreat
