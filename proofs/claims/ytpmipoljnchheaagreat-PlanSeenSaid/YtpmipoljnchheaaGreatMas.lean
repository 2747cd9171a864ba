/- The chapter's example, and that it holds. law46's awake: the example can be drawn, and its text and legend are right. What a small detail is: only the bounds that a true answer gives. -/
import Derived.Test.YtpmipoljnchheaaGreatMar
namespace Go.Proofs.YtpmipoljnchheaaGreat
open Go.RowKit

theorem at_any (x y z : Int) (w : World) : Calls Tryz.prog 57 #[.int .i64 x, .int .i64 y, .int .i64 z] w fun e w' => e = .returned (ptA (x, y, z)) ∧ Below w.heap.size w w' := by
  have kR := hide (Blk.new w 44 #[.int .i64 x, .int .i64 y, .int .i64 z])
  have hB := hide (below_new w (.cells #[.int .i64 x, .int .i64 y, .int .i64 z] 44))
  go_enter Tryz.func57, Tryz.ntmps57
  go_wp2_with fail
  refine bodyPost_ret (results_c rfl rfl kR.out Tryz.underlying44 rfl (by kernel_rfl)) rfl ?_
  exact ⟨rfl, hB.out⟩
def exMain : ByteArray := ⟨#[109, 97, 105, 110]⟩
def exD : DetD := ⟨⟨⟨#[109]⟩, [⟨(0, 0, 0), (400, 200, 300)⟩], [], 0, 16, 50⟩, [⟨exMain, 10, 1, 0, [200]⟩], [⟨exMain, 1, 2, (100, 50, 50), (0, 0, 0), 1⟩], [], [], ⟨40, 1, 1, 1, 1, 1, 1, 1, 0⟩⟩
theorem exD_err : planErr exD 100 = 0 := by decide +kernel
theorem exD_ok : detOk exD = true := by decide +kernel
theorem exD_text : drawText exD 100 = [46, 97, 97, 97, 10, 46, 46, 46, 46, 10] := by decide +kernel
theorem exD_legend : legendText exD.bars = [97, 32, 109, 97, 105, 110, 10] := by decide +kernel
abbrev exS (g1 g3 g4 : Nat) : DetS := ⟨some ⟨g1, 0, none⟩, 1, 1, none, 0, 0, some ⟨g3, 0, none⟩, 1, 1, some ⟨g4, 0, none⟩, 1, 1, none, 0, 0, none, 0, 0⟩
theorem exam_at {W : World} {g1 g2 g3 g4 : Nat} {t1 t2 t3 t4 : TypeId} (h1 : Blk W g1 t1 #[.int .i64 0, .int .i64 0, .int .i64 0, .int .i64 400, .int .i64 200, .int .i64 300]) (h2 : Blk W g2 t2 #[.int .i64 200])
    (h3 : Blk W g3 t3 #[.string ⟨#[109, 97, 105, 110]⟩, .int .i64 10, .int .i64 1, .int .i64 0, .slice (some ⟨g2, 0, none⟩) 1 1]) (h4 : Blk W g4 t4 #[.string ⟨#[109, 97, 105, 110]⟩, .int .i64 1, .int .i64 2, .int .i64 100, .int .i64 50, .int .i64 50, .int .i64 0, .int .i64 0, .int .i64 0, .int .i64 1]) : DetAt W W.heap.size exD (exS g1 g3 g4) :=
  ⟨blk_sl encB_len h1 (fun j u h => by simpa [exD, encB] using h) h1.lt, SlOf.nil _ _ _ _ _,
   SlOf.of_row (xs := [.string ⟨#[109, 97, 105, 110]⟩, .int .i64 10, .int .i64 1, .int .i64 0, .slice (some ⟨g2, 0, none⟩) 1 1]) h3.lt (fun j u hu => by rw [h3.cell]; simpa using hu)
     (fun k x hx => by
       have hk : k = 0 := by rcases Nat.lt_or_ge k 1 with h | h; · omega
                             · rw [List.getElem?_eq_none (by simpa [exD] using h)] at hx; cases hx
       subst hk
       obtain rfl : x = ⟨exMain, 10, 1, 0, [200]⟩ := by simpa [exD] using hx.symm
       refine ⟨[.string ⟨#[109, 97, 105, 110]⟩, .int .i64 10, .int .i64 1, .int .i64 0, .slice (some ⟨g2, 0, none⟩) 1 1], rfl, ⟨some ⟨g2, 0, none⟩, 1, rfl, blk_sl encInt_len h2 (fun j u h => by simpa [encInt] using h) h2.lt⟩, fun j v hj => ?_⟩
       simpa using hj),
   blk_sl encRun_len h4 (fun j u h => by simpa [exD, encRun, exMain] using h) h4.lt, SlOf.nil _ _ _ _ _, SlOf.nil _ _ _ _ _⟩
theorem exam_fit (g1 g3 g4 : Nat) : DetFit exD (exS g1 g3 g4) :=
  ⟨rfl, rfl, rfl, rfl, rfl, rfl, (by decide : (1 : Nat) ≤ 60000), (by decide : (1 : Nat) ≤ 60000), (by decide : (0 : Nat) ≤ 60000), (by decide : (0 : Nat) ≤ 60000), (by decide : (0 : Nat) ≤ 0), by decide, fun x hx => by
    obtain rfl : x = ⟨exMain, 10, 1, 0, [200]⟩ := by simpa [exD] using hx
    exact ⟨by decide, by decide⟩, fun d hd => by simp [exD] at hd⟩
set_option maxHeartbeats 4000000 in
set_option maxRecDepth 100000 in
theorem example_any (w : World) : Calls Tryz.prog 30 #[] w fun e w' => ∃ s : DetS, e = .returned (detV exD s) ∧ DetAt w' w'.heap.size exD s ∧ DetFit exD s ∧ Below w.heap.size w w' := by
  go_enter Tryz.func30, Tryz.ntmps30
  go_wp2_with fail
  have KZ := hide (Blk.new w 34 #[.string ⟨#[]⟩, .slice none 0 0, .slice none 0 0, .int .i64 0, .int .i64 0, .int .i64 0, .slice none 0 0, .slice none 0 0, .slice none 0 0, .slice none 0 0, .int .i64 0, .int .i64 0, .int .i64 0, .int .i64 0, .int .i64 0, .int .i64 0, .int .i64 0, .int .i64 0, .int .i64 0])
  have HW := hide (below_new w (.cells #[.string ⟨#[]⟩, .slice none 0 0, .slice none 0 0, .int .i64 0, .int .i64 0, .int .i64 0, .slice none 0 0, .slice none 0 0, .slice none 0 0, .slice none 0 0, .int .i64 0, .int .i64 0, .int .i64 0, .int .i64 0, .int .i64 0, .int .i64 0, .int .i64 0, .int .i64 0, .int .i64 0] 34))
  refine (at_any 400 200 300 _).mono ?_
  rintro e w2 ⟨rfl, hb2⟩
  have KZ := hide (KZ.out.keep hb2)
  have HW := hide (below_step HW.out hb2 (Nat.le_refl _))
  have hz : w.heap.size < w2.heap.size := by have := hb2.size; simp at this; omega
  have hz := hide hz
  clear hb2
  go_wp2_with fail
  refine (at_any 100 50 50 _).mono ?_
  rintro e w3 ⟨rfl, hb3⟩
  have KB : Hid (Blk w3 w2.heap.size 73 #[.int .i64 0, .int .i64 0, .int .i64 0, .int .i64 400, .int .i64 200, .int .i64 300]) := hide ((((Blk.new w2 _ _).alloc _).alloc _).keep hb3)
  have KI : Hid (Blk w3 (w2.heap.size + 1) 3 #[.int .i64 200]) := hide (((Blk.new1 w2 _ _ _).alloc _).keep hb3)
  have KR : Hid (Blk w3 (w2.heap.size + 2) 65 #[.string ⟨#[109, 97, 105, 110]⟩, .int .i64 10, .int .i64 1, .int .i64 0, .slice (some ⟨w2.heap.size + 1, 0, none⟩) 1 1]) := hide ((Blk.new2 w2 _ _ _ _).keep hb3)
  have KZ := hide (((((KZ.out.alloc _).alloc _).alloc _)).keep hb3)
  have HW := hide (below_step (((HW.out.alloc (Nat.le_of_lt hz.out) _).alloc (le_alloc (Nat.le_of_lt hz.out) _) _).alloc (le_alloc (le_alloc (Nat.le_of_lt hz.out) _) _) _) hb3 (Nat.le_refl _))
  have hz3 : w2.heap.size + 3 ≤ w3.heap.size := by have := hb3.size; simp at this; omega
  have hz3 := hide hz3
  clear hb3
  have KT := hide (Blk.new w3 79 #[.string ⟨#[109, 97, 105, 110]⟩, .int .i64 1, .int .i64 2, .int .i64 100, .int .i64 50, .int .i64 50, .int .i64 0, .int .i64 0, .int .i64 0, .int .i64 1])
  have KZ := hide (KZ.out.alloc (.cells #[.string ⟨#[109, 97, 105, 110]⟩, .int .i64 1, .int .i64 2, .int .i64 100, .int .i64 50, .int .i64 50, .int .i64 0, .int .i64 0, .int .i64 0, .int .i64 1] 79))
  have Hi : Hid ((Tryz.prog.info? 34).map (·.size) = some 19) := hide (by kernel_rfl)
  have Hone : Hid ((detCells exD.mem exD.rule ⟨some ⟨w2.heap.size, 0, none⟩, 1, 1, none, 0, 0, some ⟨w2.heap.size + 2, 0, none⟩, 1, 1, some ⟨w3.heap.size, 0, none⟩, 1, 1, none, 0, 0, none, 0, 0⟩).all (·.oneCell') = true) := hide (by kernel_rfl)
  go_wp2_with (first
    | (refine wpList_store_row rfl 34 (.tmp 0) (.tmp 14) rfl w.heap.size (detCells exD.mem exD.rule ⟨some ⟨w2.heap.size, 0, none⟩, 1, 1, none, 0, 0, some ⟨w2.heap.size + 2, 0, none⟩, 1, 1, some ⟨w3.heap.size, 0, none⟩, 1, 1, none, 0, 0, none, 0, 0⟩) rfl rfl 34 _ KZ.out Hi.out rfl Hone.out ?_)
    | (refine wp_store_row 34 (.tmp 0) (.tmp 14) rfl w.heap.size (detCells exD.mem exD.rule ⟨some ⟨w2.heap.size, 0, none⟩, 1, 1, none, 0, 0, some ⟨w2.heap.size + 2, 0, none⟩, 1, 1, some ⟨w3.heap.size, 0, none⟩, 1, 1, none, 0, 0, none, 0, 0⟩) rfl rfl 34 _ KZ.out Hi.out rfl Hone.out ?_))
  have kD := setRow_heap _ w.heap.size _ (detCells exD.mem exD.rule (exS w2.heap.size (w2.heap.size + 2) w3.heap.size)) _ _ KZ.out
  refine bodyPost_ret (results_c rfl rfl kD Tryz.underlying34 rfl (by kernel_rfl)) rfl ?_
  have q := hz.out
  have q3 := hz3.out
  refine ⟨exS w2.heap.size (w2.heap.size + 2) w3.heap.size, rfl, exam_at (g2 := w2.heap.size + 1) ((setRow_other _ _ _ _ (by omega)).trans (KB.out.alloc _)) ((setRow_other _ _ _ _ (by omega)).trans (KI.out.alloc _)) ((setRow_other _ _ _ _ (by omega)).trans (KR.out.alloc _)) ((setRow_other _ _ _ _ (by omega)).trans KT.out), exam_fit _ _ _, ?_⟩
  exact Below.setRow (HW.out.alloc (by omega) _) (Nat.le_refl _) _
end Go.Proofs.YtpmipoljnchheaaGreat
namespace Go.Proofs.YtpmipoljnchheaaGreat
open Go.RowKit

set_option maxHeartbeats 4000000 in
set_option maxRecDepth 100000 in
theorem awake_any (w : World) : Calls Tryz.prog 8 #[] w fun e w' => e = .returned (.bool true) ∧ Below w.heap.size w w' := by
  have hD := fun (s : DetS) (W : World) (h : DetAt W W.heap.size exD s) (hf : DetFit exD s) => planDraw_ok exD s 100 W h (Nat.le_refl _) hf exD_err
  rw [exD_text] at hD
  have HD := hide hD
  have hL := fun (s : DetS) (W : World) (h : DetAt W W.heap.size exD s) (hf : DetFit exD s) => planLegend_ok exD s W h (Nat.le_refl _) hf exD_ok
  rw [exD_legend] at hL
  have HL := hide hL
  clear hD hL
  go_enter Tryz.func8, Tryz.ntmps8
  go_wp2_with fail
  refine (example_any _).mono ?_
  rintro e w2 ⟨s, rfl, hat, hfit, hb⟩
  have HB := hide hb
  clear hb
  go_wp2_with fail
  refine (HD.out s _ hat hfit).mono ?_
  rintro e w3 ⟨rfl, hb⟩
  have HB := hide (below_step HB.out hb (Nat.le_refl _))
  clear hb hat hfit
  go_wp2_with fail
  refine (example_any _).mono ?_
  rintro e w4 ⟨s', rfl, hat, hfit, hb⟩
  have HB := hide (below_step HB.out hb (Nat.le_refl _))
  clear hb
  go_wp2_with fail
  refine (HL.out s' _ hat hfit).mono ?_
  rintro e w5 ⟨rfl, hb⟩
  have HB := hide (below_step HB.out hb (Nat.le_refl _))
  clear hb hat hfit
  go_wp2_with fail
  go_ret
  exact ⟨rfl, HB.out⟩
end Go.Proofs.YtpmipoljnchheaaGreat
namespace Go.Proofs.YtpmipoljnchheaaGreat
open Go.RowKit

/-- A true or a false; the true one tells something. -/
def RetB (e : Ending) (p : Prop) : Prop := ∃ t : Bool, e = .returned (.bool t) ∧ (t = true → p)
set_option maxHeartbeats 1000000 in
theorem short_any (m : ByteArray) (a b d : Int) (A : Option Addr) (n c : Nat) (w : World) :
    Calls Tryz.prog 89 #[.agg #[.string m, .int .i64 a, .int .i64 b, .int .i64 d, .slice A n c]] w fun e w' => RetB e (n ≤ 8 ∧ m.size ≤ 60) ∧ Below w.heap.size w w' := by
  have kB := hide (Blk.new w 65 #[.string m, .int .i64 a, .int .i64 b, .int .i64 d, .slice A n c])
  have hW := hide (below_new w (.cells #[.string m, .int .i64 a, .int .i64 b, .int .i64 d, .slice A n c] 65))
  have d1 : decide ((n : Int) ≤ 8) = decide (n ≤ 8) := by congr 1; simp; omega
  have d2 : decide ((m.size : Int) ≤ 60) = decide (m.size ≤ 60) := by congr 1; simp; omega
  go_enter Tryz.func89, Tryz.ntmps89
  go_wp2_with fail
  all_goals go_ret
  all_goals exact ⟨⟨_, rfl, fun h => by simp at h <;> omega⟩, hW.out⟩
set_option maxHeartbeats 1000000 in
theorem small17_any (A1 A2 : Option Addr) (n1 c1 n2 c2 : Nat) (w : World) :
    Calls Tryz.prog 58 #[.agg #[.slice A1 n1 c1, .slice A2 n2 c2], .int .i64 4] w fun e w' => RetB e True ∧ Below w.heap.size w w' := by
  have kB := hide (Blk.new w 24 #[.slice A1 n1 c1, .slice A2 n2 c2])
  have hW := hide (below_new w (.cells #[.slice A1 n1 c1, .slice A2 n2 c2] 24))
  go_enter Tryz.func58, Tryz.ntmps58
  go_wp2_with fail
  go_region
  all_goals (go_wp2_with fail)
  all_goals go_ret
  all_goals exact ⟨⟨_, rfl, fun _ => trivial⟩, hW.out.drew⟩
set_option maxHeartbeats 4000000 in
theorem count16_any (A : Option Addr) (l : List RunD) (n c : Nat) (w : World) {B : Nat} (h : RunsAt w B A l) (hB : B ≤ w.heap.size) (hn : n = l.length) (hm : n ≤ 60) (hok : ∀ r ∈ l, 1 ≤ r.count ∧ r.count ≤ 1000) :
    Calls Tryz.prog 25 #[.slice A n c] w fun e w' => e = .returned (.int .i64 (countRuns l)) ∧ Below w.heap.size w w' := by
  have H2 := hide h
  have hn2' := hide hn
  have Hc := hide hok
  have Hrg := hide (fun (k : Nat) => countRuns_range (l.take k) (fun r hr => hok r (List.mem_of_mem_take hr)))
  clear h hok hn
  go_enter Tryz.func25, Tryz.ntmps25
  go_wp2_with fail
  go_loopw [3, 4] (fun v i wr => ∃ k : Nat, k ≤ n ∧ i = .int .i64 k ∧ (∃ t : Int, v = .int .i64 t ∧ Hid (t = countRuns (l.take k))) ∧ Below w.heap.size w wr) (fun _ i _ => n - (intOf i).toNat)
  case atStart => exact ⟨0, Nat.zero_le _, rfl, ⟨0, rfl, hide rfl⟩, Below.refl _ _⟩
  case round =>
    obtain ⟨k, hk, rfl, ⟨t, rfl, ht⟩, hbr⟩ := hrel
    have hrg := Hrg.out k
    rw [← ht.out, List.length_take] at hrg
    by_cases hlt : k < n
    · obtain ⟨b, off, r, rfl, hbl, hx, hc⟩ := RunsAt.get (k := k) (H2.out.carry (Flat.carried _) (hbr.mono hB) (Nat.le_refl _)) (by rw [← hn2'.out]; exact hlt)
      obtain ⟨hc0, hc1⟩ := Hc.out r (mem_of_get hx)
      have Hn := hide (show countRuns (l.take (k + 1)) = t + r.count by rw [take_snoc' hx, countRuns_snoc, ht.out])
      obtain ⟨mark, tx, ty, ⟨a1, a2, a3⟩, ⟨s1, s2, s3⟩, cnt⟩ := r
      have p9 := hc 9 _ rfl
      simp only [Nat.add_zero] at p9 hc0 hc1 Hn
      clear hx hbl hc
      go_wp2_with fail
      go_roundw
      case rel => exact ⟨k + 1, by omega, by go_num, ⟨t + cnt, rfl, hide Hn.out.symm⟩, hbr⟩
      case measure => simp [intOf]; omega
    · obtain rfl : k = n := by omega
      have hf := hide (show t = countRuns l by rw [ht.out, hn2'.out, List.take_length])
      go_wp2_with fail
      go_ret
      exact ⟨by rw [← hf.out]; rfl, hbr⟩
set_option maxHeartbeats 4000000 in
theorem small23_any (A : Option Addr) (l : List DemD) (n c : Nat) (w : World) {B : Nat} (h : DemsAt w B A l) (hB : B ≤ w.heap.size) (hn : n = l.length) :
    Calls Tryz.prog 60 #[.slice A n c, .int .i64 4] w fun e w' => RetB e (n ≤ 25 ∧ ∀ d ∈ l, d.name.size ≤ 60 ∧ d.steps.length ≤ 205) ∧ Below w.heap.size w w' := by
  have hn' := hide hn
  have Hs := hide h
  clear hn h
  by_cases hcut : n ≤ 4 ∨ (20 < n ∧ n ≤ 25)
  case neg =>
    have d1 : (decide (4 < (n : Int)) && decide ((n : Int) ≤ 20) || decide (25 < (n : Int))) = true := by
      simp only [Bool.or_eq_true, Bool.and_eq_true, decide_eq_true_eq]; omega
    go_enter Tryz.func60, Tryz.ntmps60
    go_wp2_with fail
    all_goals go_ret
    all_goals exact ⟨⟨_, rfl, fun h => by simp at h <;> omega⟩, Below.refl _ _⟩
  case pos =>
    have hn25 : n ≤ 25 := by omega
    clear hcut
    go_enter Tryz.func60, Tryz.ntmps60
    go_wp2_with fail
    any_goals (
      go_loopw [5] (fun i wr => ∃ k : Nat, k ≤ n ∧ i = .int .i64 k ∧ Hid (∀ d ∈ l.take k, d.name.size ≤ 60 ∧ d.steps.length ≤ 205) ∧ Below w.heap.size w wr) (fun i _ => n - (intOf i).toNat)
      case atStart => exact ⟨0, Nat.zero_le _, rfl, hide (by simp), Below.refl _ _⟩
      case round =>
        obtain ⟨k, hk, rfl, hq, hbr⟩ := hrel
        by_cases hlt : k < n
        · have HR := hide (Hs.out.carry demR_carried (hbr.mono hB) (Nat.le_refl B))
          obtain ⟨b, off, x, A', c', rfl, hbl, hx, hi, hcells⟩ := DemsAt.get (k := k) HR.out (by rw [← hn'.out]; exact hlt)
          have h0 := hcells 0 _ rfl
          have h7 := hcells 7 _ rfl
          rw [Nat.add_zero] at h0
          have Hnext := fun (hx1 : x.name.size ≤ 60) (hx2 : x.steps.length ≤ 205) => (show ∀ d ∈ l.take (k + 1), d.name.size ≤ 60 ∧ d.steps.length ≤ 205 by
            rw [take_snoc' hx]
            intro d hd
            rcases List.mem_append.1 hd with h | h
            · exact hq.out d h
            · obtain rfl := List.mem_singleton.1 h; exact ⟨hx1, hx2⟩)
          have Hnext := hide Hnext
          clear hx hi hcells hbl hq
          obtain ⟨name, zone, steps⟩ := x
          simp only [] at h0 h7 Hnext
          generalize steps.length = sl at *
          go_wp2_with fail
          all_goals first
            | (go_roundw
               case rel => exact ⟨k + 1, by omega, by go_num, hide (Hnext.out (by omega) (by omega)), hbr⟩
               case measure => simp [intOf]; omega)
            | (go_ret
               exact ⟨⟨false, rfl, fun h => by cases h⟩, hbr⟩)
        · obtain rfl : k = n := by omega
          have hfull := hide (show ∀ d ∈ l, d.name.size ≤ 60 ∧ d.steps.length ≤ 205 by have := hq.out; rwa [hn'.out, List.take_length] at this)
          go_wp2_with fail
          go_ret
          first
            | exact ⟨⟨true, rfl, fun _ => hfull.out⟩, hbr⟩
            | exact ⟨⟨true, rfl, fun _ => ⟨by omega, hfull.out⟩⟩, hbr⟩)
    all_goals go_ret
    all_goals exact ⟨⟨false, rfl, fun h => by cases h⟩, Below.refl _ _⟩
end Go.Proofs.YtpmipoljnchheaaGreat
