/- law47's example, and what its section is. 'append(out, l...)' onto an own row of numbers; slices.Equal of two equal lists of numbers. -/
import Derived.Test.YtmcjpdlkkpnhfaaGreatDoorQax
import Derived.Test.YtmcjpdlkkpnhfaaGreatDoorQaa
import Derived.Deep.QuietTactic
import Derived.BigQuiet
namespace Go.Proofs.YtmcjpdlkkpnhfaaGreatDoor
open Go.RowKit

def exA : ByteArray := ⟨#[97]⟩
def exE : DetD := ⟨⟨⟨#[109]⟩, [⟨(0, 0, 0), (1000, 200, 300)⟩], [], 0, 16, 40⟩, [⟨exA, 16, 2, 0, [900]⟩], [⟨exA, 1, 2, (50, 50, 40), (0, 100, 0), 2⟩], [], [], ⟨40, 1, 1, 1, 1, 1, 1, 1, 0⟩⟩
theorem exE_err : secErr exE 500 = 0 := by decide +kernel
theorem exE_steel : steelOf (cutsOf exE 500) = 40212 := by decide +kernel
theorem exE_bars : barsOf (cutsOf exE 500) = [0, 1] := by decide +kernel
theorem exE_draw : drawErr exE 500 100 = 0 := by decide +kernel
theorem exE_text : sectText exE 500 100 = [35, 35, 35, 10, 35, 35, 35, 10, 35, 35, 35, 10, 111, 111, 35, 10] := by decide +kernel
abbrev exS (g1 g3 g4 : Nat) : DetS := ⟨some ⟨g1, 0, none⟩, 1, 1, none, 0, 0, some ⟨g3, 0, none⟩, 1, 1, some ⟨g4, 0, none⟩, 1, 1, none, 0, 0, none, 0, 0⟩
theorem exam_at {W : World} {g1 g2 g3 g4 : Nat} {t1 t2 t3 t4 : TypeId} (h1 : Blk W g1 t1 #[.int .i64 0, .int .i64 0, .int .i64 0, .int .i64 1000, .int .i64 200, .int .i64 300]) (h2 : Blk W g2 t2 #[.int .i64 900])
    (h3 : Blk W g3 t3 #[.string ⟨#[97]⟩, .int .i64 16, .int .i64 2, .int .i64 0, .slice (some ⟨g2, 0, none⟩) 1 1]) (h4 : Blk W g4 t4 #[.string ⟨#[97]⟩, .int .i64 1, .int .i64 2, .int .i64 50, .int .i64 50, .int .i64 40, .int .i64 0, .int .i64 100, .int .i64 0, .int .i64 2]) : DetAt W W.heap.size exE (exS g1 g3 g4) :=
  ⟨blk_sl encB_len h1 (fun j u h => by simpa [exE, encB] using h) h1.lt, SlOf.nil _ _ _ _ _,
   SlOf.of_row (xs := [.string ⟨#[97]⟩, .int .i64 16, .int .i64 2, .int .i64 0, .slice (some ⟨g2, 0, none⟩) 1 1]) h3.lt (fun j u hu => by rw [h3.cell]; simpa using hu)
     (fun k x hx => by
       have hk : k = 0 := by rcases Nat.lt_or_ge k 1 with h | h; · omega
                             · rw [List.getElem?_eq_none (by simpa [exE] using h)] at hx; cases hx
       subst hk
       obtain rfl : x = ⟨exA, 16, 2, 0, [900]⟩ := by simpa [exE] using hx.symm
       refine ⟨[.string ⟨#[97]⟩, .int .i64 16, .int .i64 2, .int .i64 0, .slice (some ⟨g2, 0, none⟩) 1 1], rfl, ⟨some ⟨g2, 0, none⟩, 1, rfl, blk_sl encInt_len h2 (fun j u h => by simpa [encInt] using h) h2.lt⟩, fun j v hj => ?_⟩
       simpa using hj),
   blk_sl encRun_len h4 (fun j u h => by simpa [exE, encRun, exA] using h) h4.lt, SlOf.nil _ _ _ _ _, SlOf.nil _ _ _ _ _⟩
theorem exam_fit (g1 g3 g4 : Nat) : DetFit exE (exS g1 g3 g4) :=
  ⟨rfl, rfl, rfl, rfl, rfl, rfl, (by decide : (1 : Nat) ≤ 60000), (by decide : (1 : Nat) ≤ 60000), (by decide : (0 : Nat) ≤ 60000), (by decide : (0 : Nat) ≤ 60000), (by decide : (0 : Nat) ≤ 0), by decide, fun x hx => by
    obtain rfl : x = ⟨exA, 16, 2, 0, [900]⟩ := by simpa [exE] using hx
    exact ⟨by decide, by decide⟩, fun d hd => by simp [exE] at hd⟩
set_option maxHeartbeats 4000000 in
set_option maxRecDepth 100000 in
theorem example_any (w : World) : Calls Tryz.prog 14 #[] w fun e w' => ∃ s : DetS, e = .returned (detV exE s) ∧ DetAt w' w'.heap.size exE s ∧ DetFit exE s ∧ Below w.heap.size w w' := by
  have Hi : Hid ((Tryz.prog.info? 34).map (·.size) = some 19) := hide (by kernel_rfl)
  have Hone : Hid ((detCells exE.mem exE.rule ⟨some ⟨w.heap.size + 1, 0, none⟩, 1, 1, none, 0, 0, some ⟨w.heap.size + 3, 0, none⟩, 1, 1, some ⟨w.heap.size + 4, 0, none⟩, 1, 1, none, 0, 0, none, 0, 0⟩).all (·.oneCell') = true) := hide (by kernel_rfl)
  have KZ := hide (((((Blk.new w 34 #[.string ⟨#[]⟩, .slice none 0 0, .slice none 0 0, .int .i64 0, .int .i64 0, .int .i64 0, .slice none 0 0, .slice none 0 0, .slice none 0 0, .slice none 0 0, .int .i64 0, .int .i64 0, .int .i64 0, .int .i64 0, .int .i64 0, .int .i64 0, .int .i64 0, .int .i64 0, .int .i64 0]).alloc (.cells #[.int .i64 0, .int .i64 0, .int .i64 0, .int .i64 1000, .int .i64 200, .int .i64 300] 60)).alloc (.cells #[.int .i64 900] 3)).alloc (.cells #[.string ⟨#[97]⟩, .int .i64 16, .int .i64 2, .int .i64 0, .slice (some ⟨w.heap.size + 2, 0, none⟩) 1 1] 86)).alloc (.cells #[.string ⟨#[97]⟩, .int .i64 1, .int .i64 2, .int .i64 50, .int .i64 50, .int .i64 40, .int .i64 0, .int .i64 100, .int .i64 0, .int .i64 2] 90))
  have KB := hide ((((Blk.new1 w (.cells #[.string ⟨#[]⟩, .slice none 0 0, .slice none 0 0, .int .i64 0, .int .i64 0, .int .i64 0, .slice none 0 0, .slice none 0 0, .slice none 0 0, .slice none 0 0, .int .i64 0, .int .i64 0, .int .i64 0, .int .i64 0, .int .i64 0, .int .i64 0, .int .i64 0, .int .i64 0, .int .i64 0] 34) 60 #[.int .i64 0, .int .i64 0, .int .i64 0, .int .i64 1000, .int .i64 200, .int .i64 300]).alloc (.cells #[.int .i64 900] 3)).alloc (.cells #[.string ⟨#[97]⟩, .int .i64 16, .int .i64 2, .int .i64 0, .slice (some ⟨w.heap.size + 2, 0, none⟩) 1 1] 86)).alloc (.cells #[.string ⟨#[97]⟩, .int .i64 1, .int .i64 2, .int .i64 50, .int .i64 50, .int .i64 40, .int .i64 0, .int .i64 100, .int .i64 0, .int .i64 2] 90))
  have KI := hide (((Blk.new2 w (.cells #[.string ⟨#[]⟩, .slice none 0 0, .slice none 0 0, .int .i64 0, .int .i64 0, .int .i64 0, .slice none 0 0, .slice none 0 0, .slice none 0 0, .slice none 0 0, .int .i64 0, .int .i64 0, .int .i64 0, .int .i64 0, .int .i64 0, .int .i64 0, .int .i64 0, .int .i64 0, .int .i64 0] 34) (.cells #[.int .i64 0, .int .i64 0, .int .i64 0, .int .i64 1000, .int .i64 200, .int .i64 300] 60) 3 #[.int .i64 900]).alloc (.cells #[.string ⟨#[97]⟩, .int .i64 16, .int .i64 2, .int .i64 0, .slice (some ⟨w.heap.size + 2, 0, none⟩) 1 1] 86)).alloc (.cells #[.string ⟨#[97]⟩, .int .i64 1, .int .i64 2, .int .i64 50, .int .i64 50, .int .i64 40, .int .i64 0, .int .i64 100, .int .i64 0, .int .i64 2] 90))
  have KR : Hid (Blk (((((w.alloc (.cells #[.string ⟨#[]⟩, .slice none 0 0, .slice none 0 0, .int .i64 0, .int .i64 0, .int .i64 0, .slice none 0 0, .slice none 0 0, .slice none 0 0, .slice none 0 0, .int .i64 0, .int .i64 0, .int .i64 0, .int .i64 0, .int .i64 0, .int .i64 0, .int .i64 0, .int .i64 0, .int .i64 0] 34)).alloc (.cells #[.int .i64 0, .int .i64 0, .int .i64 0, .int .i64 1000, .int .i64 200, .int .i64 300] 60)).alloc (.cells #[.int .i64 900] 3)).alloc (.cells #[.string ⟨#[97]⟩, .int .i64 16, .int .i64 2, .int .i64 0, .slice (some ⟨w.heap.size + 2, 0, none⟩) 1 1] 86)).alloc (.cells #[.string ⟨#[97]⟩, .int .i64 1, .int .i64 2, .int .i64 50, .int .i64 50, .int .i64 40, .int .i64 0, .int .i64 100, .int .i64 0, .int .i64 2] 90)) (w.heap.size + 3) 86 #[.string ⟨#[97]⟩, .int .i64 16, .int .i64 2, .int .i64 0, .slice (some ⟨w.heap.size + 2, 0, none⟩) 1 1]) := hide ((show Blk ((((w.alloc (.cells #[.string ⟨#[]⟩, .slice none 0 0, .slice none 0 0, .int .i64 0, .int .i64 0, .int .i64 0, .slice none 0 0, .slice none 0 0, .slice none 0 0, .slice none 0 0, .int .i64 0, .int .i64 0, .int .i64 0, .int .i64 0, .int .i64 0, .int .i64 0, .int .i64 0, .int .i64 0, .int .i64 0] 34)).alloc (.cells #[.int .i64 0, .int .i64 0, .int .i64 0, .int .i64 1000, .int .i64 200, .int .i64 300] 60)).alloc (.cells #[.int .i64 900] 3)).alloc (.cells #[.string ⟨#[97]⟩, .int .i64 16, .int .i64 2, .int .i64 0, .slice (some ⟨w.heap.size + 2, 0, none⟩) 1 1] 86)) (w.heap.size + 3) 86 #[.string ⟨#[97]⟩, .int .i64 16, .int .i64 2, .int .i64 0, .slice (some ⟨w.heap.size + 2, 0, none⟩) 1 1] by
    have h := Blk.new (((w.alloc (.cells #[.string ⟨#[]⟩, .slice none 0 0, .slice none 0 0, .int .i64 0, .int .i64 0, .int .i64 0, .slice none 0 0, .slice none 0 0, .slice none 0 0, .slice none 0 0, .int .i64 0, .int .i64 0, .int .i64 0, .int .i64 0, .int .i64 0, .int .i64 0, .int .i64 0, .int .i64 0, .int .i64 0] 34)).alloc (.cells #[.int .i64 0, .int .i64 0, .int .i64 0, .int .i64 1000, .int .i64 200, .int .i64 300] 60)).alloc (.cells #[.int .i64 900] 3)) 86 #[.string ⟨#[97]⟩, .int .i64 16, .int .i64 2, .int .i64 0, .slice (some ⟨w.heap.size + 2, 0, none⟩) 1 1]
    simpa using h).alloc (.cells #[.string ⟨#[97]⟩, .int .i64 1, .int .i64 2, .int .i64 50, .int .i64 50, .int .i64 40, .int .i64 0, .int .i64 100, .int .i64 0, .int .i64 2] 90))
  have KT : Hid (Blk (((((w.alloc (.cells #[.string ⟨#[]⟩, .slice none 0 0, .slice none 0 0, .int .i64 0, .int .i64 0, .int .i64 0, .slice none 0 0, .slice none 0 0, .slice none 0 0, .slice none 0 0, .int .i64 0, .int .i64 0, .int .i64 0, .int .i64 0, .int .i64 0, .int .i64 0, .int .i64 0, .int .i64 0, .int .i64 0] 34)).alloc (.cells #[.int .i64 0, .int .i64 0, .int .i64 0, .int .i64 1000, .int .i64 200, .int .i64 300] 60)).alloc (.cells #[.int .i64 900] 3)).alloc (.cells #[.string ⟨#[97]⟩, .int .i64 16, .int .i64 2, .int .i64 0, .slice (some ⟨w.heap.size + 2, 0, none⟩) 1 1] 86)).alloc (.cells #[.string ⟨#[97]⟩, .int .i64 1, .int .i64 2, .int .i64 50, .int .i64 50, .int .i64 40, .int .i64 0, .int .i64 100, .int .i64 0, .int .i64 2] 90)) (w.heap.size + 4) 90 #[.string ⟨#[97]⟩, .int .i64 1, .int .i64 2, .int .i64 50, .int .i64 50, .int .i64 40, .int .i64 0, .int .i64 100, .int .i64 0, .int .i64 2]) := hide (by
    have h := Blk.new ((((w.alloc (.cells #[.string ⟨#[]⟩, .slice none 0 0, .slice none 0 0, .int .i64 0, .int .i64 0, .int .i64 0, .slice none 0 0, .slice none 0 0, .slice none 0 0, .slice none 0 0, .int .i64 0, .int .i64 0, .int .i64 0, .int .i64 0, .int .i64 0, .int .i64 0, .int .i64 0, .int .i64 0, .int .i64 0] 34)).alloc (.cells #[.int .i64 0, .int .i64 0, .int .i64 0, .int .i64 1000, .int .i64 200, .int .i64 300] 60)).alloc (.cells #[.int .i64 900] 3)).alloc (.cells #[.string ⟨#[97]⟩, .int .i64 16, .int .i64 2, .int .i64 0, .slice (some ⟨w.heap.size + 2, 0, none⟩) 1 1] 86)) 90 #[.string ⟨#[97]⟩, .int .i64 1, .int .i64 2, .int .i64 50, .int .i64 50, .int .i64 40, .int .i64 0, .int .i64 100, .int .i64 0, .int .i64 2]
    simpa using h)
  have HW := hide (((((below_new w (.cells #[.string ⟨#[]⟩, .slice none 0 0, .slice none 0 0, .int .i64 0, .int .i64 0, .int .i64 0, .slice none 0 0, .slice none 0 0, .slice none 0 0, .slice none 0 0, .int .i64 0, .int .i64 0, .int .i64 0, .int .i64 0, .int .i64 0, .int .i64 0, .int .i64 0, .int .i64 0, .int .i64 0] 34)).alloc (by simp) (.cells #[.int .i64 0, .int .i64 0, .int .i64 0, .int .i64 1000, .int .i64 200, .int .i64 300] 60)).alloc (by simp; omega) (.cells #[.int .i64 900] 3)).alloc (by simp; omega) (.cells #[.string ⟨#[97]⟩, .int .i64 16, .int .i64 2, .int .i64 0, .slice (some ⟨w.heap.size + 2, 0, none⟩) 1 1] 86)).alloc (by simp; omega) (.cells #[.string ⟨#[97]⟩, .int .i64 1, .int .i64 2, .int .i64 50, .int .i64 50, .int .i64 40, .int .i64 0, .int .i64 100, .int .i64 0, .int .i64 2] 90))
  go_enter Tryz.func14, Tryz.ntmps14
  go_wp2_with (first
    | (refine wpList_store_row rfl 34 (.tmp 0) (.tmp 15) rfl w.heap.size (detCells exE.mem exE.rule ⟨some ⟨w.heap.size + 1, 0, none⟩, 1, 1, none, 0, 0, some ⟨w.heap.size + 3, 0, none⟩, 1, 1, some ⟨w.heap.size + 4, 0, none⟩, 1, 1, none, 0, 0, none, 0, 0⟩) rfl rfl 34 _ KZ.out Hi.out rfl Hone.out ?_)
    | (refine wp_store_row 34 (.tmp 0) (.tmp 15) rfl w.heap.size (detCells exE.mem exE.rule ⟨some ⟨w.heap.size + 1, 0, none⟩, 1, 1, none, 0, 0, some ⟨w.heap.size + 3, 0, none⟩, 1, 1, some ⟨w.heap.size + 4, 0, none⟩, 1, 1, none, 0, 0, none, 0, 0⟩) rfl rfl 34 _ KZ.out Hi.out rfl Hone.out ?_))
  have kD := setRow_heap _ w.heap.size _ (detCells exE.mem exE.rule ⟨some ⟨w.heap.size + 1, 0, none⟩, 1, 1, none, 0, 0, some ⟨w.heap.size + 3, 0, none⟩, 1, 1, some ⟨w.heap.size + 4, 0, none⟩, 1, 1, none, 0, 0, none, 0, 0⟩) _ _ KZ.out
  refine bodyPost_ret (results_c rfl rfl kD Tryz.underlying34 rfl (by kernel_rfl)) rfl ?_
  refine ⟨exS (w.heap.size + 1) (w.heap.size + 3) (w.heap.size + 4), rfl, exam_at (g2 := w.heap.size + 2) ((setRow_other _ _ _ _ (by omega)).trans KB.out) ((setRow_other _ _ _ _ (by omega)).trans KI.out) ((setRow_other _ _ _ _ (by omega)).trans KR.out) ((setRow_other _ _ _ _ (by omega)).trans KT.out), exam_fit _ _ _, ?_⟩
  exact Below.setRow HW.out (Nat.le_refl _) _
end Go.Proofs.YtmcjpdlkkpnhfaaGreatDoor
namespace Go.Proofs.YtmcjpdlkkpnhfaaGreatDoor
open Go.RowKit

theorem Ints.grown {w w' : World} {B : Nat} {A : Option Addr} {l : List Int} {row : Option Nat} (h : Ints w B A l) (hg : w.grownBy w' row) (hB : B ≤ w.heap.size) (hne : ∀ a, A = some a → some a.block ≠ row) : Ints w' B A l := by
  intro hl
  obtain ⟨b, off, hA, hb, hc⟩ := h hl
  refine ⟨b, off, hA, hb, fun j x hx => ?_⟩
  obtain ⟨vs, h1, h2, h3⟩ := hc j x hx
  refine ⟨vs, h1, h2, fun i v hv => ?_⟩
  rw [World.cell?_of_block (hg.block b (by omega) (hne ⟨b, off, none⟩ hA))]
  exact h3 i v hv
theorem Row.base_le {w : World} {base : Nat} {e : TypeId} {A : Option Addr} {n c : Nat} {l : List Int} (h : Row w base e 1 encInt (.slice A n c) l) : ∀ a, A = some a → base ≤ a.block := by
  intro a ha
  rcases h.2 with ⟨hv, h0⟩ | ⟨g, cap, cur, hv, hb, _⟩
  · injection hv with hv
    rw [hv] at ha
    cases ha
  · injection hv with hv
    rw [hv] at ha
    injection ha with ha
    rw [← ha]
    exact hb
theorem append_none {P : Program} {w : World} (t ty e : TypeId) (i : TypeInfo) (ht : P.underlying t = some (.slice e)) (hi : P.info? e = some i) (bs : Option Addr) (n cc : Nat) (a : Addr) (c : Nat) (hnc : n ≤ cc) :
    (Builtin.append_ #[t, t] ty #[.slice bs n cc, .slice none 0 c]).run P w = (Builtin.append_ #[t, t] ty #[.slice bs n cc, .slice (some a) 0 c]).run P w := by
  simp [Builtin.append_, run_underlying ht, sizeOf, typeInfo, hi, Builtin.lenOf, Builtin.firstCells, loadCells, loadCellsFrom, hnc]
theorem own_cap {w : World} {base : Nat} {e : TypeId} {v : Value} {l : List Int} (h : Row w base e 1 encInt v l) : ∃ A c, v = .slice A l.length c ∧ l.length ≤ c := by
  rcases h.2 with ⟨hv, h0⟩ | ⟨g, cap, cur, hv, _, _, hnc, _⟩
  · exact ⟨none, 0, by rw [hv, h0], by omega⟩
  · exact ⟨some ⟨g, 0, none⟩, cap, hv, hnc⟩
/-- 'append(out, l...)': out an own row of numbers, l a list of numbers that lies anywhere. -/
theorem wp_appendN {P : Program} {w : World} {o : Oper} {a : Act} {K : Act → World → Prop} {Q : Exit → Act → World → Prop} (s x : Operand) (t : TypeId)
    (ho : o.op = .call { callee := .builtin .append, args := #[s, x], argTypes := #[t, t] }) (base : Nat) (e : TypeId)
    (ht : P.underlying t = some (.slice e)) (hi : (P.info? e).map (fun i => (i.zero, i.size, i.bytes)) = some (some (.int .i64 0), 1, 8))
    (v : Value) (l ys : List Int) (hs : a.eval s = v) (hown : Row w base e 1 encInt v l) (A : Option Addr) (m c : Nat) (hx : a.eval x = .slice A m c) (hm : m = ys.length) {B : Nat} (hys : Ints w B A ys)
    (hn : l.length ≤ 1000000) (hy : ys.length ≤ 1000000) (hbase : base ≤ w.heap.size)
    (h : ∀ A' c' w', Row w' base e 1 encInt (.slice A' (l.length + m) c') (l ++ ys) → Below base w w' → w.grownBy w' v.ownBlock → K (a.put o.dst (.slice A' (l.length + m) c')) w') : o.wp P a w K Q := by
  obtain ⟨i, hi0, hz, h2, h3⟩ := info_parts hi
  have hlen : (ys.flatMap encInt).length = ys.length * 1 := flatMap_len encInt_len ys
  have key : ∀ ad : Addr, (∀ j u, (ys.flatMap encInt)[j]? = some u → w.cell? (ad.add j) = some u) → ∃ v' w', (Builtin.append_ #[t, t] o.type #[v, .slice (some ad) m c]).run P w = .ok v' w' ∧ w'.ownsRow base e 1 v' (l.length + m) (l.flatMap encInt ++ ys.flatMap encInt) ∧ w.grownBy w' v.ownBlock := by
    intro ad hcells
    obtain ⟨v', w', r1, r2, r3, _⟩ := run_append_own (P := P) w base t o.type e i (.int .i64 0) 1 8 ht hi0 hz h2 h3 rfl (by omega) v l.length (l.flatMap encInt) hown ad m c (ys.flatMap encInt) (by rw [hlen, hm]) hcells
      (fun u hu => by
        obtain ⟨y, _, hy⟩ := List.mem_flatMap.1 hu
        exact encInt_one y u hy) (by unfold maxLen; omega) (by omega) hbase
    exact ⟨v', w', r1, r2, r3⟩
  have hrun : ∃ v' w', (Builtin.append_ #[t, t] o.type #[v, .slice A m c]).run P w = .ok v' w' ∧ w'.ownsRow base e 1 v' (l.length + m) (l.flatMap encInt ++ ys.flatMap encInt) ∧ w.grownBy w' v.ownBlock := by
    by_cases h0 : 0 < ys.length
    · obtain ⟨b, off, rfl, _, hc⟩ := hys h0
      refine key ⟨b, off, none⟩ (fun j u hu => ?_)
      have hadd : (⟨b, off, none⟩ : Addr).add j = ⟨b, off + j, none⟩ := by unfold Addr.add; split <;> simp_all
      have hj : j < ys.length := by have := lt_of_get hu; omega
      obtain ⟨y, hyj⟩ : ∃ y, ys[j]? = some y := ⟨_, List.getElem?_eq_getElem hj⟩
      obtain ⟨vs, _, hr, hcell⟩ := hc j y hyj
      have hr' : vs = encInt y := hr
      subst hr'
      have h9 := flatMap_get encInt_len ys j y hyj 0 (.int .i64 y) rfl
      simp only [Nat.mul_one, Nat.add_zero] at h9
      rw [h9] at hu
      rw [hadd, ← hu]
      simpa using hcell 0 (.int .i64 y) rfl
    · have hm0 : m = 0 := by omega
      have hys0 : ys = [] := List.eq_nil_of_length_eq_zero (by omega)
      have hk := fun ad => key ad (by intro j u hu; rw [hys0] at hu; simp at hu)
      cases A with
      | some ad => exact hk ad
      | none =>
        obtain ⟨v', w', r1, r2, r3⟩ := hk ⟨0, 0, none⟩
        refine ⟨v', w', ?_, r2, r3⟩
        rw [hm0] at r1 ⊢
        obtain ⟨A1, c1, hv1, hc1⟩ := own_cap hown
        rw [hv1] at r1 ⊢
        rw [append_none t o.type e i ht hi0 A1 l.length c1 ⟨0, 0, none⟩ c hc1]
        exact r1
  obtain ⟨v', w', hr, hown', hg⟩ := hrun
  have hR : Row w' base e 1 encInt v' (l ++ ys) := by
    unfold Row
    rw [List.flatMap_append, List.length_append, ← hm]
    exact hown'
  obtain ⟨A', c', hv⟩ := hR.val
  rw [List.length_append, ← hm] at hv
  subst hv
  unfold Oper.wp execOp
  simp only [ho, resolve, invoke, builtin, Sem.run_bind, Sem.run_pure, Result.andThen_ok, List.map_toArray, List.map_cons, List.map_nil, hs, hx, hr]
  exact h A' c' w' hR ((Below.refl base w).grown hg hbase (fun k hk => (hown.lt k hk).1)) hg
theorem wpList_appendN {P : Program} {w : World} {ops : Array Oper} {rest : List Oper} {o : Oper} {a : Act} {Q : Exit → Act → World → Prop} (hgd : o.guard = none) (s x : Operand) (t : TypeId)
    (ho : o.op = .call { callee := .builtin .append, args := #[s, x], argTypes := #[t, t] }) (base : Nat) (e : TypeId)
    (ht : P.underlying t = some (.slice e)) (hi : (P.info? e).map (fun i => (i.zero, i.size, i.bytes)) = some (some (.int .i64 0), 1, 8))
    (v : Value) (l ys : List Int) (hs : a.eval s = v) (hown : Row w base e 1 encInt v l) (A : Option Addr) (m c : Nat) (hx : a.eval x = .slice A m c) (hm : m = ys.length) {B : Nat} (hys : Ints w B A ys)
    (hn : l.length ≤ 1000000) (hy : ys.length ≤ 1000000) (hbase : base ≤ w.heap.size)
    (h : ∀ A' c' w', Row w' base e 1 encInt (.slice A' (l.length + m) c') (l ++ ys) → Below base w w' → w.grownBy w' v.ownBlock → wpList P ops Q rest (a.put o.dst (.slice A' (l.length + m) c')) w') : wpList P ops Q (o :: rest) a w :=
  wpList_plain hgd fun _ hK => wp_appendN s x t ho base e ht hi v l ys hs hown A m c hx hm hys hn hy hbase fun A' c' w' h2 h3 h4 => hK _ _ (h A' c' w' h2 h3 h4)
theorem step_appendN {P : Program} {w : World} {ops : Array Oper} {o : Oper} {a : Act} {K : Act → World → Prop} {Q : Exit → Act → World → Prop} {E : Prop} (hgd : o.guard = none) (s x : Operand) (t : TypeId)
    (ho : o.op = .call { callee := .builtin .append, args := #[s, x], argTypes := #[t, t] }) (base : Nat) (e : TypeId)
    (ht : P.underlying t = some (.slice e)) (hi : (P.info? e).map (fun i => (i.zero, i.size, i.bytes)) = some (some (.int .i64 0), 1, 8))
    (v : Value) (l ys : List Int) (hs : a.eval s = v) (hown : Row w base e 1 encInt v l) (A : Option Addr) (m c : Nat) (hx : a.eval x = .slice A m c) (hm : m = ys.length) {B : Nat} (hys : Ints w B A ys)
    (hn : l.length ≤ 1000000) (hy : ys.length ≤ 1000000) (hbase : base ≤ w.heap.size)
    (h : ∀ A' c' w', Row w' base e 1 encInt (.slice A' (l.length + m) c') (l ++ ys) → Below base w w' → w.grownBy w' v.ownBlock → K (a.put o.dst (.slice A' (l.length + m) c')) w') : if Region.wanted o (yielded ops a.tmps) = true then Oper.wp P o a w K Q else E := by
  have hw : Region.wanted o (yielded ops a.tmps) = true := by simp [Region.wanted, hgd]
  rw [if_pos hw]
  exact wp_appendN s x t ho base e ht hi v l ys hs hown A m c hx hm hys hn hy hbase h
set_option maxHeartbeats 1000000 in
theorem equalInts_any (A A' : Option Addr) (l : List Int) (n c c' : Nat) (w : World) {B B' : Nat} (h : Ints w B A l) (h' : Ints w B' A' l) (hn : n = l.length) (hm : n ≤ 300000) :
    Calls Tryz.prog 16 #[.slice A n c, .slice A' n c'] w fun e w' => e = .returned (.bool true) ∧ Below w.heap.size w w' := by
  have Hs := hide h
  have Hs' := hide h'
  have hn' := hide hn
  clear h h' hn
  go_enter Tryz.func16, Tryz.ntmps16
  go_wp2_with fail
  go_loopw [13] (fun i wr => ∃ k : Nat, k ≤ n ∧ i = .int .i64 k ∧ ∃ d, wr = w.drewN d) (fun i _ => n - (intOf i).toNat)
  case atStart => exact ⟨0, Nat.zero_le _, rfl, 0, rfl⟩
  case round =>
    obtain ⟨k, hk, rfl, d, rfl⟩ := hrel
    by_cases hlt : k < n
    · obtain ⟨b, off, x, rfl, _, hx, e0⟩ := Ints.get (k := k) Hs.out (by rw [← hn'.out]; exact hlt)
      obtain ⟨b2, off2, y, rfl, _, hy, e1⟩ := Ints.get (k := k) Hs'.out (by rw [← hn'.out]; exact hlt)
      rw [hx] at hy
      injection hy with hy
      subst hy
      clear hx
      go_wp2_with fail
      go_quiet (fail)
      go_wp2_with fail
      go_roundw
      case rel => exact ⟨k + 1, by omega, by go_num, _, rfl⟩
      case measure => simp [intOf]; omega
    · obtain rfl : k = n := by omega
      go_wp2_with fail
      go_ret
      exact ⟨rfl, ⟨rfl, rfl, rfl, Nat.le_refl _, fun _ _ => rfl⟩⟩
end Go.Proofs.YtmcjpdlkkpnhfaaGreatDoor
