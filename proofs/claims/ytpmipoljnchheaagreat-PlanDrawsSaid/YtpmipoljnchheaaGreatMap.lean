/- What a small detail is: only the bounds that a true answer gives. The reference of layer 16: whether a run is right; whether runs are valid. The reference of layer 16: whether runs are valid. The references of layers 10, 23, 24: whether steps, demands, a rule are valid. -/
import Derived.Test.YtpmipoljnchheaaGreatMai
import Derived.Test.YtpmipoljnchheaaGreatMam
import Derived.Test.YtpmipoljnchheaaGreatMaj
namespace Go.Proofs.YtpmipoljnchheaaGreat
open Go.RowKit

/-- A true or a false; the true one tells something. -/
def RetB (e : Ending) (p : Prop) : Prop := ∃ t : Bool, e = .returned (.bool t) ∧ (t = true → p)
set_option maxHeartbeats 1000000 in
theorem short_any (m : ByteArray) (a b d : Int) (A : Option Addr) (n c : Nat) (w : World) :
    Calls Tryz.prog 89 #[.agg #[.string m, .int .i64 a, .int .i64 b, .int .i64 d, .slice A n c]] w fun e w' => RetB e (n ≤ 8 ∧ m.size ≤ 60) ∧ Below w.heap.size w w' := by
  have kB := hide (Blk.new w 65 #[.string m, .int .i64 a, .int .i64 b, .int .i64 d, .slice A n c])
  have hW := hide (below_new w (.cells #[.string m, .int .i64 a, .int .i64 b, .int .i64 d, .slice A n c] 65))
  have d1 : decide ((n : Int) ≤ 8) = decide (n ≤ 8) := by congr 1; simp; omega
  have d2 : decide ((m.size : Int) ≤ 60) = decide (m.size ≤ 60) := by congr 1; simp; omega
  go_enter Tryz.func89, Tryz.ntmps89
  go_wp2_with fail
  all_goals go_ret
  all_goals exact ⟨⟨_, rfl, fun h => by simp at h <;> omega⟩, hW.out⟩
set_option maxHeartbeats 1000000 in
theorem small17_any (A1 A2 : Option Addr) (n1 c1 n2 c2 : Nat) (w : World) :
    Calls Tryz.prog 58 #[.agg #[.slice A1 n1 c1, .slice A2 n2 c2], .int .i64 4] w fun e w' => RetB e True ∧ Below w.heap.size w w' := by
  have kB := hide (Blk.new w 24 #[.slice A1 n1 c1, .slice A2 n2 c2])
  have hW := hide (below_new w (.cells #[.slice A1 n1 c1, .slice A2 n2 c2] 24))
  go_enter Tryz.func58, Tryz.ntmps58
  go_wp2_with fail
  go_region
  all_goals (go_wp2_with fail)
  all_goals go_ret
  all_goals exact ⟨⟨_, rfl, fun _ => trivial⟩, hW.out.drew⟩
set_option maxHeartbeats 4000000 in
theorem count16_any (A : Option Addr) (l : List RunD) (n c : Nat) (w : World) {B : Nat} (h : RunsAt w B A l) (hB : B ≤ w.heap.size) (hn : n = l.length) (hm : n ≤ 60) (hok : ∀ r ∈ l, 1 ≤ r.count ∧ r.count ≤ 1000) :
    Calls Tryz.prog 25 #[.slice A n c] w fun e w' => e = .returned (.int .i64 (countRuns l)) ∧ Below w.heap.size w w' := by
  have H2 := hide h
  have hn2' := hide hn
  have Hc := hide hok
  have Hrg := hide (fun (k : Nat) => countRuns_range (l.take k) (fun r hr => hok r (List.mem_of_mem_take hr)))
  clear h hok hn
  go_enter Tryz.func25, Tryz.ntmps25
  go_wp2_with fail
  go_loopw [3, 4] (fun v i wr => ∃ k : Nat, k ≤ n ∧ i = .int .i64 k ∧ (∃ t : Int, v = .int .i64 t ∧ Hid (t = countRuns (l.take k))) ∧ Below w.heap.size w wr) (fun _ i _ => n - (intOf i).toNat)
  case atStart => exact ⟨0, Nat.zero_le _, rfl, ⟨0, rfl, hide rfl⟩, Below.refl _ _⟩
  case round =>
    obtain ⟨k, hk, rfl, ⟨t, rfl, ht⟩, hbr⟩ := hrel
    have hrg := Hrg.out k
    rw [← ht.out, List.length_take] at hrg
    by_cases hlt : k < n
    · obtain ⟨b, off, r, rfl, hbl, hx, hc⟩ := RunsAt.get (k := k) (H2.out.carry (Flat.carried _) (hbr.mono hB) (Nat.le_refl _)) (by rw [← hn2'.out]; exact hlt)
      obtain ⟨hc0, hc1⟩ := Hc.out r (mem_of_get hx)
      have Hn := hide (show countRuns (l.take (k + 1)) = t + r.count by rw [take_snoc' hx, countRuns_snoc, ht.out])
      obtain ⟨mark, tx, ty, ⟨a1, a2, a3⟩, ⟨s1, s2, s3⟩, cnt⟩ := r
      have p9 := hc 9 _ rfl
      simp only at p9 hc0 hc1 Hn
      clear hx hbl hc
      go_wp2_with fail
      go_roundw
      case rel => exact ⟨k + 1, by omega, by go_num, ⟨t + cnt, rfl, hide Hn.out.symm⟩, hbr⟩
      case measure => simp [intOf]; omega
    · obtain rfl : k = n := by omega
      have hf := hide (show t = countRuns l by rw [ht.out, hn2'.out, List.take_length])
      go_wp2_with fail
      go_ret
      exact ⟨by rw [← hf.out]; rfl, hbr⟩
set_option maxHeartbeats 4000000 in
theorem small23_any (A : Option Addr) (l : List DemD) (n c : Nat) (w : World) {B : Nat} (h : DemsAt w B A l) (hB : B ≤ w.heap.size) (hn : n = l.length) :
    Calls Tryz.prog 60 #[.slice A n c, .int .i64 4] w fun e w' => RetB e (n ≤ 25 ∧ ∀ d ∈ l, d.name.size ≤ 60 ∧ d.steps.length ≤ 205) ∧ Below w.heap.size w w' := by
  have hn' := hide hn
  have Hs := hide h
  clear hn h
  by_cases hcut : n ≤ 4 ∨ (20 < n ∧ n ≤ 25)
  case neg =>
    have d1 : (decide (4 < (n : Int)) && decide ((n : Int) ≤ 20) || decide (25 < (n : Int))) = true := by
      simp only [Bool.or_eq_true, Bool.and_eq_true, decide_eq_true_eq]; omega
    go_enter Tryz.func60, Tryz.ntmps60
    go_wp2_with fail
    all_goals go_ret
    all_goals exact ⟨⟨_, rfl, fun h => by simp at h <;> omega⟩, Below.refl _ _⟩
  case pos =>
    have hn25 : n ≤ 25 := by omega
    clear hcut
    go_enter Tryz.func60, Tryz.ntmps60
    go_wp2_with fail
    any_goals (
      go_loopw [5] (fun i wr => ∃ k : Nat, k ≤ n ∧ i = .int .i64 k ∧ Hid (∀ d ∈ l.take k, d.name.size ≤ 60 ∧ d.steps.length ≤ 205) ∧ Below w.heap.size w wr) (fun i _ => n - (intOf i).toNat)
      case atStart => exact ⟨0, Nat.zero_le _, rfl, hide (by simp), Below.refl _ _⟩
      case round =>
        obtain ⟨k, hk, rfl, hq, hbr⟩ := hrel
        by_cases hlt : k < n
        · have HR := hide (Hs.out.carry demR_carried (hbr.mono hB) (Nat.le_refl B))
          obtain ⟨b, off, x, A', c', rfl, hbl, hx, hi, hcells⟩ := DemsAt.get (k := k) HR.out (by rw [← hn'.out]; exact hlt)
          have h0 := hcells 0 _ rfl
          have h7 := hcells 7 _ rfl
          rw [Nat.add_zero] at h0
          have Hnext := fun (hx1 : x.name.size ≤ 60) (hx2 : x.steps.length ≤ 205) => (show ∀ d ∈ l.take (k + 1), d.name.size ≤ 60 ∧ d.steps.length ≤ 205 by
            rw [take_snoc' hx]
            intro d hd
            rcases List.mem_append.1 hd with h | h
            · exact hq.out d h
            · obtain rfl := List.mem_singleton.1 h; exact ⟨hx1, hx2⟩)
          have Hnext := hide Hnext
          clear hx hi hcells hbl hq
          obtain ⟨name, zone, steps⟩ := x
          simp only [] at h0 h7 Hnext
          generalize steps.length = sl at *
          go_wp2_with fail
          all_goals first
            | (go_roundw
               case rel => exact ⟨k + 1, by omega, by go_num, hide (Hnext.out (by omega) (by omega)), hbr⟩
               case measure => simp [intOf]; omega)
            | (go_ret
               exact ⟨⟨false, rfl, fun h => by cases h⟩, hbr⟩)
        · obtain rfl : k = n := by omega
          have hfull := hide (show ∀ d ∈ l, d.name.size ≤ 60 ∧ d.steps.length ≤ 205 by have := hq.out; rwa [hn'.out, List.take_length] at this)
          go_wp2_with fail
          go_ret
          first
            | exact ⟨⟨true, rfl, fun _ => hfull.out⟩, hbr⟩
            | exact ⟨⟨true, rfl, fun _ => ⟨by omega, hfull.out⟩⟩, hbr⟩)
    all_goals go_ret
    all_goals exact ⟨⟨false, rfl, fun h => by cases h⟩, Below.refl _ _⟩
end Go.Proofs.YtpmipoljnchheaaGreat
namespace Go.Proofs.YtpmipoljnchheaaGreat
open Go.RowKit

theorem runOk_ref {bars : List BarD} {r : RunD} {j : Nat} {x : BarD} (hj : idx (markIs r.mark) bars = (j : Int)) (hx : bars[j]? = some x) (h2 : turnOk r.tx r.ty = true) (h3 : 1 ≤ r.count) (h4 : r.count ≤ 1000) (h5 : nearBy 1048576 r.place = true) :
    runOk bars r = (stepOk r && ((ptsOf x r 0).all (nearBy 1048576) && (ptsOf x r (r.count - 1)).all (nearBy 1048576))) := by
  rw [runOk, runHead, runPts, runPts, runBar_of hj hx, hj, h2, h5, decide_eq_true h3, decide_eq_true h4, decide_eq_true (show (0 : Int) ≤ (j : Int) by omega)]
  simp only [Bool.true_and, Bool.and_true]
  rw [Bool.and_assoc]
  rfl
theorem step_far {s : Pt} {k : Int} (h : nearBy 2097152 s = true) (h0 : 0 ≤ k) (h1 : k ≤ 999) : nearBy 4294967296 (mulP k s) = true := by
  obtain ⟨a, b, c⟩ := nearBy_iff.1 h
  have key : ∀ v : Int, -2097152 ≤ v ∧ v ≤ 2097152 → -4294967296 ≤ k * v ∧ k * v ≤ 4294967296 := by
    intro v hv
    obtain ⟨f, g⟩ := mul_between (s := v) h0 h1
    rcases Int.le_total 0 v with hs | hs
    · have := f hs; omega
    · have := g hs; omega
  rw [nearBy_iff, mulP]
  exact ⟨key _ a, key _ b, key _ c⟩
theorem mul0_far (s : Pt) : nearBy 4294967296 (mulP 0 s) = true := by simp [mulP, nearBy_iff]
set_option maxHeartbeats 4000000 in
set_option maxRecDepth 100000 in
theorem refRun_any (A : Option Addr) (bars : List BarD) (n c : Nat) (r : RunD) (w : World) {B : Nat} (h : BarsAt w B A bars) (hB : B ≤ w.heap.size) (hn : n = bars.length) (hm : n ≤ 60000) (hall : ∀ x ∈ bars, barOk x = true) :
    Calls Tryz.prog 73 #[.slice A n c, runV r] w fun e w' => e = .returned (.bool (runOk bars r)) ∧ Below w.heap.size w w' := by
  have HF := fun (W : World) (hz : Below w.heap.size w W) => refFind_any A bars n c r.mark W (h.carry (hz.mono hB) (Nat.le_refl _)) hn hm
  by_cases hno : idx (markIs r.mark) bars < 0
  · have hres := hide (show runOk bars r = false by rw [runOk, runHead, decide_eq_false (by omega)]; rfl)
    have d0 : decide (idx (markIs r.mark) bars < 0) = true := by simpa using hno
    generalize runOk bars r = res at *
    obtain ⟨mark, tx, ty, ⟨a1, a2, a3⟩, ⟨s1, s2, s3⟩, cnt⟩ := r
    simp only at HF d0
    generalize idx (markIs mark) bars = ix at *
    have HF := hide HF
    have HW := hide (below_new w (.cells #[.string mark, .int .i64 tx, .int .i64 ty, .int .i64 a1, .int .i64 a2, .int .i64 a3, .int .i64 s1, .int .i64 s2, .int .i64 s3, .int .i64 cnt] 79))
    clear h hB hn hm hall hno
    show Calls Tryz.prog 73 #[.slice A n c, .agg #[.string mark, .int .i64 tx, .int .i64 ty, .int .i64 a1, .int .i64 a2, .int .i64 a3, .int .i64 s1, .int .i64 s2, .int .i64 s3, .int .i64 cnt]] w _
    go_enter Tryz.func73, Tryz.ntmps73
    go_wp2_with fail
    refine (HF.out _ HW.out).mono ?_
    rintro e w2 ⟨rfl, rfl⟩
    clear HF
    go_wp2_with fail
    go_ret
    exact ⟨ret_bool hres.out.symm, HW.out⟩
  obtain ⟨j, hj⟩ := Int.eq_ofNat_of_zero_le (show 0 ≤ idx (markIs r.mark) bars by omega)
  have hrange := idx_range (markIs r.mark) bars
  obtain ⟨x, hx⟩ : ∃ x, bars[j]? = some x := ⟨_, List.getElem?_eq_getElem (by omega)⟩
  have hok := hall x (mem_of_get hx)
  have HV := hide (fun (W : World) => refTurn_any r.tx r.ty W)
  have HI := hide (fun (W : World) => refNear_any r.place W)
  have HI2 := hide (fun (W : World) => refTwice_any r.step W)
  rw [hj] at HF
  have HF := hide HF
  -- the head fails
  by_cases hhead : turnOk r.tx r.ty = true ∧ 1 ≤ r.count ∧ r.count ≤ 1000 ∧ nearBy 1048576 r.place = true
  rotate_left
  · have hres := hide (show runOk bars r = false by
      rw [runOk, runHead]
      cases q2 : turnOk r.tx r.ty
      · simp
      by_cases q3 : 1 ≤ r.count
      · by_cases q4 : r.count ≤ 1000
        · cases q5 : nearBy 1048576 r.place
          · simp
          · exact absurd ⟨q2, q3, q4, q5⟩ hhead
        · simp [q4]
      · simp [q3])
    have hways : turnOk r.tx r.ty = false ∨ (turnOk r.tx r.ty = true ∧ decide (r.count < 1) = true) ∨ (turnOk r.tx r.ty = true ∧ decide (r.count < 1) = false ∧ decide (1000 < r.count) = true) ∨ (turnOk r.tx r.ty = true ∧ decide (r.count < 1) = false ∧ decide (1000 < r.count) = false ∧ nearBy 1048576 r.place = false) := by
      cases q2 : turnOk r.tx r.ty
      · exact .inl rfl
      right
      by_cases q3 : r.count < 1
      · exact .inl ⟨rfl, by simpa using q3⟩
      right
      by_cases q4 : 1000 < r.count
      · exact .inl ⟨rfl, by simpa using q3, by simpa using q4⟩
      right
      refine ⟨rfl, by simpa using q3, by simpa using q4, ?_⟩
      cases q5 : nearBy 1048576 r.place
      · rfl
      · exact absurd ⟨q2, by omega, by omega, q5⟩ hhead
    generalize runOk bars r = res at *
    obtain ⟨mark, tx, ty, ⟨a1, a2, a3⟩, ⟨s1, s2, s3⟩, cnt⟩ := r
    simp only at HF HV HI HI2 hways
    have B0 := hide (Blk.new w 79 #[.string mark, .int .i64 tx, .int .i64 ty, .int .i64 a1, .int .i64 a2, .int .i64 a3, .int .i64 s1, .int .i64 s2, .int .i64 s3, .int .i64 cnt])
    have HW := hide (below_new w (.cells #[.string mark, .int .i64 tx, .int .i64 ty, .int .i64 a1, .int .i64 a2, .int .i64 a3, .int .i64 s1, .int .i64 s2, .int .i64 s3, .int .i64 cnt] 79))
    clear h hB hn hm hall hno hj hrange hx hok hhead HI2
    rcases hways with q0 | ⟨q0, q1⟩ | ⟨q0, q1, q2⟩ | ⟨q0, q1, q2, q3⟩
    · rw [q0] at HV
      clear q0 HI
      show Calls Tryz.prog 73 #[.slice A n c, .agg #[.string mark, .int .i64 tx, .int .i64 ty, .int .i64 a1, .int .i64 a2, .int .i64 a3, .int .i64 s1, .int .i64 s2, .int .i64 s3, .int .i64 cnt]] w _
      go_enter Tryz.func73, Tryz.ntmps73
      go_wp2_with fail
      refine (HF.out _ HW.out).mono ?_
      rintro e w2 ⟨rfl, rfl⟩
      have k0 := B0.out
      have K0 := hide k0
      have e1 := k0.cell 1
      have e2 := k0.cell 2
      have i0 : decide ((j : Int) < 0) = false := by simp
      simp at e1 e2
      clear HF k0
      go_wp2_with fail
      refine (HV.out _).mono ?_
      rintro e w3 ⟨rfl, hb3⟩
      have HW3 := hide (below_step HW.out hb3 (Nat.le_refl _))
      have k0 := K0.out.keep hb3
      have K0 := hide k0
      have e3 := k0.cell 3
      have e4 := k0.cell 4
      have e5 := k0.cell 5
      have e9 := k0.cell 9
      simp at e3 e4 e5 e9
      clear hb3 HV k0 e1 e2
      go_wp2_with fail
      go_ret
      exact ⟨ret_bool hres.out.symm, HW3.out⟩
    · rw [q0] at HV
      clear q0 HI
      show Calls Tryz.prog 73 #[.slice A n c, .agg #[.string mark, .int .i64 tx, .int .i64 ty, .int .i64 a1, .int .i64 a2, .int .i64 a3, .int .i64 s1, .int .i64 s2, .int .i64 s3, .int .i64 cnt]] w _
      go_enter Tryz.func73, Tryz.ntmps73
      go_wp2_with fail
      refine (HF.out _ HW.out).mono ?_
      rintro e w2 ⟨rfl, rfl⟩
      have k0 := B0.out
      have K0 := hide k0
      have e1 := k0.cell 1
      have e2 := k0.cell 2
      have i0 : decide ((j : Int) < 0) = false := by simp
      simp at e1 e2
      clear HF k0
      go_wp2_with fail
      refine (HV.out _).mono ?_
      rintro e w3 ⟨rfl, hb3⟩
      have HW3 := hide (below_step HW.out hb3 (Nat.le_refl _))
      have k0 := K0.out.keep hb3
      have K0 := hide k0
      have e3 := k0.cell 3
      have e4 := k0.cell 4
      have e5 := k0.cell 5
      have e9 := k0.cell 9
      simp at e3 e4 e5 e9
      clear hb3 HV k0 e1 e2
      go_wp2_with fail
      go_ret
      exact ⟨ret_bool hres.out.symm, HW3.out⟩
    · rw [q0] at HV
      clear q0 HI
      show Calls Tryz.prog 73 #[.slice A n c, .agg #[.string mark, .int .i64 tx, .int .i64 ty, .int .i64 a1, .int .i64 a2, .int .i64 a3, .int .i64 s1, .int .i64 s2, .int .i64 s3, .int .i64 cnt]] w _
      go_enter Tryz.func73, Tryz.ntmps73
      go_wp2_with fail
      refine (HF.out _ HW.out).mono ?_
      rintro e w2 ⟨rfl, rfl⟩
      have k0 := B0.out
      have K0 := hide k0
      have e1 := k0.cell 1
      have e2 := k0.cell 2
      have i0 : decide ((j : Int) < 0) = false := by simp
      simp at e1 e2
      clear HF k0
      go_wp2_with fail
      refine (HV.out _).mono ?_
      rintro e w3 ⟨rfl, hb3⟩
      have HW3 := hide (below_step HW.out hb3 (Nat.le_refl _))
      have k0 := K0.out.keep hb3
      have K0 := hide k0
      have e3 := k0.cell 3
      have e4 := k0.cell 4
      have e5 := k0.cell 5
      have e9 := k0.cell 9
      simp at e3 e4 e5 e9
      clear hb3 HV k0 e1 e2
      go_wp2_with fail
      go_ret
      exact ⟨ret_bool hres.out.symm, HW3.out⟩
    · rw [q0] at HV
      simp only [ptA] at HI
      rw [q3] at HI
      clear q0 q3
      show Calls Tryz.prog 73 #[.slice A n c, .agg #[.string mark, .int .i64 tx, .int .i64 ty, .int .i64 a1, .int .i64 a2, .int .i64 a3, .int .i64 s1, .int .i64 s2, .int .i64 s3, .int .i64 cnt]] w _
      go_enter Tryz.func73, Tryz.ntmps73
      go_wp2_with fail
      refine (HF.out _ HW.out).mono ?_
      rintro e w2 ⟨rfl, rfl⟩
      have k0 := B0.out
      have K0 := hide k0
      have e1 := k0.cell 1
      have e2 := k0.cell 2
      have i0 : decide ((j : Int) < 0) = false := by simp
      simp at e1 e2
      clear HF k0
      go_wp2_with fail
      refine (HV.out _).mono ?_
      rintro e w3 ⟨rfl, hb3⟩
      have HW3 := hide (below_step HW.out hb3 (Nat.le_refl _))
      have k0 := K0.out.keep hb3
      have K0 := hide k0
      have e3 := k0.cell 3
      have e4 := k0.cell 4
      have e5 := k0.cell 5
      have e9 := k0.cell 9
      simp at e3 e4 e5 e9
      clear hb3 HV k0 e1 e2
      go_wp2_with fail
      refine (HI.out _).mono ?_
      rintro e w4 ⟨rfl, hb4⟩
      have HW4 := hide (below_step HW3.out hb4 (Nat.le_refl _))
      clear hb4 HI
      go_wp2_with fail
      go_ret
      exact ⟨ret_bool hres.out.symm, HW4.out⟩
  obtain ⟨h2, h3, h4, h5⟩ := hhead
  have hro := runOk_ref hj hx h2 h3 h4 h5
  have hways : decide (r.count < 1) = false ∧ decide (1000 < r.count) = false := by simp; omega
  rw [h2] at HV
  have Hro := hide hro
  have HPt := hide (fun (k : Int) (hk : 0 ≤ k) (hfar : nearBy 4294967296 (mulP k r.step) = true) (A' : Option Addr) (c' : Nat) (W : World) (hi : Ints W B A' x.dims) (hz : Below w.heap.size w W) => refPoints_ok x A' c' r k W hi (Nat.le_trans hB hz.size) hok h2 h5 hk hfar)
  have Hpn := hide (fun (k : Int) => show (ptsOf x r k).length ≤ 60000 by rw [ptsOf_len, pathOf_len]; have := legsOf_len x.code; omega)
  have Hst := hide (show stepOk r = (decide (r.count ≤ 1) || (!noStep r.step && nearBy 2097152 r.step)) from rfl)
  have HB0 := hide (fun (W : World) (hz : Below w.heap.size w W) => BarsAt.get (k := j) (h.carry (hz.mono hB) (Nat.le_refl B)) (by omega))
  have Hx := hide hx
  simp only [ptA] at HI
  rw [h5] at HI
  generalize runOk bars r = res at *
  generalize stepOk r = so at *
  generalize ptsOf x r = pts at *
  obtain ⟨mark, tx, ty, ⟨a1, a2, a3⟩, ⟨s1, s2, s3⟩, cnt⟩ := r
  simp only at HF HV HI HI2 hways
  have B0 := hide (Blk.new w 79 #[.string mark, .int .i64 tx, .int .i64 ty, .int .i64 a1, .int .i64 a2, .int .i64 a3, .int .i64 s1, .int .i64 s2, .int .i64 s3, .int .i64 cnt])
  have HW := hide (below_new w (.cells #[.string mark, .int .i64 tx, .int .i64 ty, .int .i64 a1, .int .i64 a2, .int .i64 a3, .int .i64 s1, .int .i64 s2, .int .i64 s3, .int .i64 cnt] 79))
  obtain ⟨q1, q2⟩ := hways
  simp only at HPt Hro Hst h3 h4
  have hjn : j < n := by rw [hn]; omega
  have hB0 := hB
  clear h hB hn hall hno hj hrange hx hok h2 h5 hro
  show Calls Tryz.prog 73 #[.slice A n c, .agg #[.string mark, .int .i64 tx, .int .i64 ty, .int .i64 a1, .int .i64 a2, .int .i64 a3, .int .i64 s1, .int .i64 s2, .int .i64 s3, .int .i64 cnt]] w _
  go_enter Tryz.func73, Tryz.ntmps73
  go_wp2_with fail
  refine (HF.out _ HW.out).mono ?_
  rintro e w2 ⟨rfl, rfl⟩
  have k0 := B0.out
  have K0 := hide k0
  have e1 := k0.cell 1
  have e2 := k0.cell 2
  have i0 : decide ((j : Int) < 0) = false := by simp
  simp at e1 e2
  clear HF k0
  go_wp2_with fail
  refine (HV.out _).mono ?_
  rintro e w3 ⟨rfl, hb3⟩
  have HW3 := hide (below_step HW.out hb3 (Nat.le_refl _))
  have k0 := K0.out.keep hb3
  have K0 := hide k0
  have e3 := k0.cell 3
  have e4 := k0.cell 4
  have e5 := k0.cell 5
  have e9 := k0.cell 9
  simp at e3 e4 e5 e9
  clear hb3 HV k0 e1 e2
  go_wp2_with fail
  refine (HI.out _).mono ?_
  rintro e w4 ⟨rfl, hb4⟩
  have HW4 := hide (below_step HW3.out hb4 (Nat.le_refl _))
  have k0 := K0.out.keep hb4
  have K0 := hide k0
  clear hb4 HI k0 e3 e4 e5 e9
  have e6 := K0.out.cell 6
  have e7 := K0.out.cell 7
  have e8 := K0.out.cell 8
  have e9 := K0.out.cell 9
  simp at e6 e7 e8 e9
  generalize hnb : nearBy 2097152 (s1, s2, s3) = nb at HI2 Hst
  have Hnb := hide hnb
  have K4 := K0
  clear hnb
  go_upto_region 4 with fail
  go_cut [48] from 34 (fun t48 wx => t48 = .bool (!so) ∧ Hid (Below w4.heap.size w4 wx))
  case first =>
    clear HPt HB0 Hx Hpn Hro
    by_cases hc : cnt ≤ 1
    · have d1 : decide (1 < cnt) = false := by simp; omega
      have Hso := hide (show so = true by rw [Hst.out, decide_eq_true hc]; rfl)
      clear hc h3 h4
      go_wp2_with fail
      go_meet
      exact ⟨by rw [Hso.out]; rfl, hide (Below.refl _ _)⟩
    have d1 : decide (1 < cnt) = true := by simp; omega
    have d2 : decide (cnt ≤ 1) = false := by simp; omega
    rw [d2] at Hst
    clear hc h3 h4 d2
    by_cases hz1 : s1 = 0
    · subst hz1
      by_cases hz2 : s2 = 0
      · subst hz2
        by_cases hz3 : s3 = 0
        · subst hz3
          have Hso := hide (show so = false by rw [Hst.out]; rfl)
          clear Hst
          go_wp2_with fail
          go_meet
          exact ⟨by rw [Hso.out]; rfl, hide (Below.refl _ _)⟩
        · have Hso := hide (show so = nb by rw [Hst.out, noStep, decide_eq_false hz3]; simp)
          clear Hst
          go_wp2_with fail
          refine (HI2.out _).mono ?_
          rintro e w5 ⟨rfl, hb5⟩
          go_wp2_with fail
          go_meet
          exact ⟨by rw [Hso.out], hide hb5⟩
      · have Hso := hide (show so = nb by rw [Hst.out, noStep, decide_eq_false hz2]; simp)
        clear Hst
        go_wp2_with fail
        refine (HI2.out _).mono ?_
        rintro e w5 ⟨rfl, hb5⟩
        go_wp2_with fail
        go_meet
        exact ⟨by rw [Hso.out], hide hb5⟩
    · have Hso := hide (show so = nb by rw [Hst.out, noStep, decide_eq_false hz1]; simp)
      clear Hst
      go_wp2_with fail
      refine (HI2.out _).mono ?_
      rintro e w5 ⟨rfl, hb5⟩
      go_wp2_with fail
      go_meet
      exact ⟨by rw [Hso.out], hide hb5⟩
  case rest =>
    obtain ⟨rfl, hbx⟩ := hcut
    rename World => wx
    have HW5 := hide (below_step HW4.out hbx.out (Nat.le_refl _))
    have K5 := hide (K4.out.keep hbx.out)
    clear hbx HW HW3 HW4 B0 K0 K4 HF HI2 e6 e7 e8 e9
    cases so
    · have Hres := hide (show res = false by rw [Hro.out]; rfl)
      clear HPt HB0 Hx Hpn Hro Hst
      go_wp2_with fail
      go_ret
      exact ⟨ret_bool Hres.out.symm, HW5.out⟩
    have Hres := hide (show res = ((pts 0).all (nearBy 1048576) && (pts (cnt - 1)).all (nearBy 1048576)) by rw [Hro.out]; rfl)
    have hfar : nearBy 4294967296 (mulP (cnt - 1) (s1, s2, s3)) = true := by
      by_cases hc : cnt ≤ 1
      · obtain rfl : cnt = 1 := by omega
        exact mul0_far _
      · have h9 := Hst.out
        rw [decide_eq_false hc, Bool.false_or] at h9
        exact step_far (by rw [Hnb.out]; exact (Bool.and_eq_true_iff.1 h9.symm).2) (by omega) (by omega)
    obtain ⟨b, off, x', A', c', rfl, hbl, hx', hdi, f0, f1, f2, f3, f4⟩ := HB0.out wx HW5.out
    rw [Hx.out] at hx'
    injection hx' with hx'
    subst hx'
    have Hdi := hide hdi
    have HP0 := hide (fun (W : World) (h : Below wx.heap.size wx W) => HPt.out 0 (by omega) (mul0_far _) A' c' W (Hdi.out.carry (h.mono (Nat.le_trans hB0 HW5.out.size)) (Nat.le_refl _)) (below_step HW5.out h (Nat.le_refl _)))
    have HP1 := hide (fun (W : World) (h : Below wx.heap.size wx W) => HPt.out (cnt - 1) (by omega) hfar A' c' W (Hdi.out.carry (h.mono (Nat.le_trans hB0 HW5.out.size)) (Nat.le_refl _)) (below_step HW5.out h (Nat.le_refl _)))
    have lb : b < wx.heap.size := Nat.lt_of_lt_of_le hbl (Nat.le_trans hB0 HW5.out.size)
    have z1 : IntKind.i64.wrap (cnt - 1) = cnt - 1 := IntWalk.i64_in _ (by omega)
    have Hl0 := hide (Hpn.out 0)
    have Hl1 := hide (Hpn.out (cnt - 1))
    generalize pts (cnt - 1) = q1 at *
    generalize pts 0 = q0 at *
    obtain ⟨a0, ha0⟩ : ∃ a, a = q0.all (nearBy 1048576) := ⟨_, rfl⟩
    obtain ⟨a1', ha1⟩ : ∃ a, a = q1.all (nearBy 1048576) := ⟨_, rfl⟩
    rw [← ha0, ← ha1] at Hres
    have HN0 := hide (fun (A : Option Addr) (c : Nat) (W : World) (h : PtsAt W W.heap.size A q0) => show Calls Tryz.prog 106 #[.slice A q0.length c] W fun e w' => e = .returned (.bool a0) ∧ Below W.heap.size W w' by rw [ha0]; exact refNears_any A q0 q0.length c W h (Nat.le_refl _) rfl Hl0.out)
    have HN1 := hide (fun (A : Option Addr) (c : Nat) (W : World) (h : PtsAt W W.heap.size A q1) => show Calls Tryz.prog 106 #[.slice A q1.length c] W fun e w' => e = .returned (.bool a1') ∧ Below W.heap.size W w' by rw [ha1]; exact refNears_any A q1 q1.length c W h (Nat.le_refl _) rfl Hl1.out)
    have k0 := K5.out
    have lk := k0.lt
    have r0 := k0.cell 0
    have r1 := k0.cell 1
    have r2 := k0.cell 2
    have r3 := k0.cell 3
    have r4 := k0.cell 4
    have r5 := k0.cell 5
    have r6 := k0.cell 6
    have r7 := k0.cell 7
    have r8 := k0.cell 8
    have r9 := k0.cell 9
    simp at r0 r1 r2 r3 r4 r5 r6 r7 r8 r9
    obtain ⟨mk, sz, ct, cd, dims⟩ := x
    simp only at f0 f1 f2 f3 f4 HP0 HP1
    have HC := hide (fun (W : World) (h : Below wx.heap.size wx W) => show W.cell? ⟨w.heap.size, 0, none⟩ = some (.string mark) ∧ W.cell? ⟨w.heap.size, 1, none⟩ = some (.int .i64 tx) ∧ W.cell? ⟨w.heap.size, 2, none⟩ = some (.int .i64 ty) ∧ W.cell? ⟨w.heap.size, 3, none⟩ = some (.int .i64 a1) ∧ W.cell? ⟨w.heap.size, 4, none⟩ = some (.int .i64 a2) ∧ W.cell? ⟨w.heap.size, 5, none⟩ = some (.int .i64 a3) ∧ W.cell? ⟨w.heap.size, 6, none⟩ = some (.int .i64 s1) ∧ W.cell? ⟨w.heap.size, 7, none⟩ = some (.int .i64 s2) ∧ W.cell? ⟨w.heap.size, 8, none⟩ = some (.int .i64 s3) ∧ W.cell? ⟨w.heap.size, 9, none⟩ = some (.int .i64 cnt) ∧ W.cell? ⟨b, off + j * 5, none⟩ = some (.string mk) ∧ W.cell? ⟨b, off + j * 5 + 1, none⟩ = some (.int .i64 sz) ∧ W.cell? ⟨b, off + j * 5 + 2, none⟩ = some (.int .i64 ct) ∧ W.cell? ⟨b, off + j * 5 + 3, none⟩ = some (.int .i64 cd) ∧ W.cell? ⟨b, off + j * 5 + 4, none⟩ = some (.slice A' dims.length c') ∧ Below w.heap.size w W from
      ⟨(h.cell (p := ⟨w.heap.size, 0, none⟩) lk).trans r0, (h.cell (p := ⟨w.heap.size, 1, none⟩) lk).trans r1, (h.cell (p := ⟨w.heap.size, 2, none⟩) lk).trans r2, (h.cell (p := ⟨w.heap.size, 3, none⟩) lk).trans r3, (h.cell (p := ⟨w.heap.size, 4, none⟩) lk).trans r4, (h.cell (p := ⟨w.heap.size, 5, none⟩) lk).trans r5, (h.cell (p := ⟨w.heap.size, 6, none⟩) lk).trans r6, (h.cell (p := ⟨w.heap.size, 7, none⟩) lk).trans r7, (h.cell (p := ⟨w.heap.size, 8, none⟩) lk).trans r8, (h.cell (p := ⟨w.heap.size, 9, none⟩) lk).trans r9, (h.cell (p := ⟨b, off + j * 5, none⟩) lb).trans f0, (h.cell (p := ⟨b, off + j * 5 + 1, none⟩) lb).trans f1, (h.cell (p := ⟨b, off + j * 5 + 2, none⟩) lb).trans f2, (h.cell (p := ⟨b, off + j * 5 + 3, none⟩) lb).trans f3, (h.cell (p := ⟨b, off + j * 5 + 4, none⟩) lb).trans f4, below_step HW5.out h (Nat.le_refl _)⟩)
    clear HPt HB0 Hx Hpn Hro Hst hdi hbl hfar Hdi ha0 ha1 Hl0 Hl1 k0
    have hS0 := HC.out _ (Below.drew (Below.refl wx.heap.size wx))
    have hBx := Below.drew (Below.refl wx.heap.size wx)
    cases a0
    · go_wp2_with fail
      refine wp_region_held_drew (S := (fun W => W.cell? ⟨w.heap.size, 0, none⟩ = some (.string mark) ∧ W.cell? ⟨w.heap.size, 1, none⟩ = some (.int .i64 tx) ∧ W.cell? ⟨w.heap.size, 2, none⟩ = some (.int .i64 ty) ∧ W.cell? ⟨w.heap.size, 3, none⟩ = some (.int .i64 a1) ∧ W.cell? ⟨w.heap.size, 4, none⟩ = some (.int .i64 a2) ∧ W.cell? ⟨w.heap.size, 5, none⟩ = some (.int .i64 a3) ∧ W.cell? ⟨w.heap.size, 6, none⟩ = some (.int .i64 s1) ∧ W.cell? ⟨w.heap.size, 7, none⟩ = some (.int .i64 s2) ∧ W.cell? ⟨w.heap.size, 8, none⟩ = some (.int .i64 s3) ∧ W.cell? ⟨w.heap.size, 9, none⟩ = some (.int .i64 cnt) ∧ W.cell? ⟨b, off + j * 5, none⟩ = some (.string mk) ∧ W.cell? ⟨b, off + j * 5 + 1, none⟩ = some (.int .i64 sz) ∧ W.cell? ⟨b, off + j * 5 + 2, none⟩ = some (.int .i64 ct) ∧ W.cell? ⟨b, off + j * 5 + 3, none⟩ = some (.int .i64 cd) ∧ W.cell? ⟨b, off + j * 5 + 4, none⟩ = some (.slice A' dims.length c') ∧ Below w.heap.size w W)) (by kernel_rfl) hS0 (fun hHeld => ?_)
      refine wpAnyH_take (i := 0) (v := ?_) rfl (by kernel_rfl) (by kernel_rfl) (by kernel_rfl) (fun _ _ _ h => h) (Or.inl ⟨by rfl, ?_⟩) (by assumption) ?_
      rotate_left
      · intro w hSw
        (try dsimp only at hSw)
        go_simp
        first | done | with_reducible rfl
      (try simp only [List.getElem_toArray, List.getElem_cons_zero, Act.put, List.setIfInBounds_toArray, List.set_cons_zero, List.set_cons_succ])
      refine wpAnyH_take (i := 1) (v := ?_) rfl (by kernel_rfl) (by kernel_rfl) (by kernel_rfl) (fun _ _ _ h => h) (Or.inl ⟨by rfl, ?_⟩) (by assumption) ?_
      rotate_left
      · intro w hSw
        (try dsimp only at hSw)
        go_simp
        first | done | with_reducible rfl
      (try simp only [List.getElem_toArray, List.getElem_cons_succ, List.getElem_cons_zero, Act.put, List.setIfInBounds_toArray, List.set_cons_zero, List.set_cons_succ])
      refine wpAnyH_take (i := 2) (v := ?_) rfl (by kernel_rfl) (by kernel_rfl) (by kernel_rfl) (fun _ _ _ h => h) (Or.inl ⟨by rfl, ?_⟩) (by assumption) ?_
      rotate_left
      · intro w hSw
        (try dsimp only at hSw)
        go_simp
        first | done | with_reducible rfl
      (try simp only [List.getElem_toArray, List.getElem_cons_succ, List.getElem_cons_zero, Act.put, List.setIfInBounds_toArray, List.set_cons_zero, List.set_cons_succ])
      refine wpAnyH_take (i := 3) (v := ?_) rfl (by kernel_rfl) (by kernel_rfl) (by kernel_rfl) (fun _ _ _ h => h) (Or.inl ⟨by rfl, ?_⟩) (by assumption) ?_
      rotate_left
      · intro w hSw
        (try dsimp only at hSw)
        go_simp
        first | done | with_reducible rfl
      (try simp only [List.getElem_toArray, List.getElem_cons_succ, List.getElem_cons_zero, Act.put, List.setIfInBounds_toArray, List.set_cons_zero, List.set_cons_succ])
      refine wpAnyH_take (i := 4) (v := ?_) rfl (by kernel_rfl) (by kernel_rfl) (by kernel_rfl) (fun _ _ _ h => h) (Or.inl ⟨by rfl, ?_⟩) (by assumption) ?_
      rotate_left
      · intro w hSw
        (try dsimp only at hSw)
        go_simp
        first | done | with_reducible rfl
      (try simp only [List.getElem_toArray, List.getElem_cons_succ, List.getElem_cons_zero, Act.put, List.setIfInBounds_toArray, List.set_cons_zero, List.set_cons_succ])
      refine wpAnyH_ready (rs := [5]) (by kernel_rfl) (by simp) (AllReadyH.cons rfl (fun K hK => ?_) AllReadyH.nil)
      go_simp
      refine (HP0.out _ hBx).mono ?_
      rintro e wz ⟨A5, c5, rfl, hp5, _, hbz⟩
      have hBx := below_step hBx hbz (Nat.le_refl _)
      clear hHeld
      go_wp2_with fail
      refine hK.out _ _ (HC.out _ hBx) (fun hHeld => ?_)
      clear hK K
      refine wpAnyH_ready (rs := [6]) (by kernel_rfl) (by simp) (AllReadyH.cons rfl (fun K hK => ?_) AllReadyH.nil)
      go_simp
      refine (HN0.out _ _ _ hp5).mono ?_
      rintro e wy ⟨rfl, hbz⟩
      have hBx := below_step hBx hbz (Nat.le_refl _)
      clear hHeld
      go_wp2_with fail
      refine hK.out _ _ (HC.out _ hBx) (fun hHeld => ?_)
      clear hK K
      refine wpAnyH_take (i := 7) (v := ?_) rfl (by kernel_rfl) (by kernel_rfl) (by kernel_rfl) (fun _ _ _ h => h) (Or.inl ⟨by rfl, ?_⟩) (by assumption) ?_
      rotate_left
      · intro w hSw
        (try dsimp only at hSw)
        go_simp
        first | done | with_reducible rfl
      (try simp only [List.getElem_toArray, List.getElem_cons_succ, List.getElem_cons_zero, Act.put, List.setIfInBounds_toArray, List.set_cons_zero, List.set_cons_succ])
      refine wpAnyH_take (i := 8) (v := undef) rfl (by kernel_rfl) (by kernel_rfl) (by kernel_rfl) (fun _ _ _ h => h) (Or.inr ⟨by rfl, rfl⟩) (by assumption) ?_
      (try simp only [List.getElem_toArray, List.getElem_cons_succ, List.getElem_cons_zero, Act.put, List.setIfInBounds_toArray, List.set_cons_zero, List.set_cons_succ])
      refine wpAnyH_take (i := 9) (v := undef) rfl (by kernel_rfl) (by kernel_rfl) (by kernel_rfl) (fun _ _ _ h => h) (Or.inr ⟨by rfl, rfl⟩) (by assumption) ?_
      (try simp only [List.getElem_toArray, List.getElem_cons_succ, List.getElem_cons_zero, Act.put, List.setIfInBounds_toArray, List.set_cons_zero, List.set_cons_succ])
      refine wpAnyH_take (i := 10) (v := undef) rfl (by kernel_rfl) (by kernel_rfl) (by kernel_rfl) (fun _ _ _ h => h) (Or.inr ⟨by rfl, rfl⟩) (by assumption) ?_
      (try simp only [List.getElem_toArray, List.getElem_cons_succ, List.getElem_cons_zero, Act.put, List.setIfInBounds_toArray, List.set_cons_zero, List.set_cons_succ])
      refine wpAnyH_take (i := 11) (v := undef) rfl (by kernel_rfl) (by kernel_rfl) (by kernel_rfl) (fun _ _ _ h => h) (Or.inr ⟨by rfl, rfl⟩) (by assumption) ?_
      (try simp only [List.getElem_toArray, List.getElem_cons_succ, List.getElem_cons_zero, Act.put, List.setIfInBounds_toArray, List.set_cons_zero, List.set_cons_succ])
      refine wpAnyH_take (i := 12) (v := undef) rfl (by kernel_rfl) (by kernel_rfl) (by kernel_rfl) (fun _ _ _ h => h) (Or.inr ⟨by rfl, rfl⟩) (by assumption) ?_
      (try simp only [List.getElem_toArray, List.getElem_cons_succ, List.getElem_cons_zero, Act.put, List.setIfInBounds_toArray, List.set_cons_zero, List.set_cons_succ])
      refine wpAnyH_take (i := 13) (v := undef) rfl (by kernel_rfl) (by kernel_rfl) (by kernel_rfl) (fun _ _ _ h => h) (Or.inr ⟨by rfl, rfl⟩) (by assumption) ?_
      (try simp only [List.getElem_toArray, List.getElem_cons_succ, List.getElem_cons_zero, Act.put, List.setIfInBounds_toArray, List.set_cons_zero, List.set_cons_succ])
      refine wpAnyH_take (i := 14) (v := undef) rfl (by kernel_rfl) (by kernel_rfl) (by kernel_rfl) (fun _ _ _ h => h) (Or.inr ⟨by rfl, rfl⟩) (by assumption) ?_
      (try simp only [List.getElem_toArray, List.getElem_cons_succ, List.getElem_cons_zero, Act.put, List.setIfInBounds_toArray, List.set_cons_zero, List.set_cons_succ])
      refine wpAnyH_take (i := 15) (v := undef) rfl (by kernel_rfl) (by kernel_rfl) (by kernel_rfl) (fun _ _ _ h => h) (Or.inr ⟨by rfl, rfl⟩) (by assumption) ?_
      (try simp only [List.getElem_toArray, List.getElem_cons_succ, List.getElem_cons_zero, Act.put, List.setIfInBounds_toArray, List.set_cons_zero, List.set_cons_succ])
      refine wpAnyH_take (i := 16) (v := undef) rfl (by kernel_rfl) (by kernel_rfl) (by kernel_rfl) (fun _ _ _ h => h) (Or.inr ⟨by rfl, rfl⟩) (by assumption) ?_
      (try simp only [List.getElem_toArray, List.getElem_cons_succ, List.getElem_cons_zero, Act.put, List.setIfInBounds_toArray, List.set_cons_zero, List.set_cons_succ])
      refine wpAnyH_take (i := 17) (v := undef) rfl (by kernel_rfl) (by kernel_rfl) (by kernel_rfl) (fun _ _ _ h => h) (Or.inr ⟨by rfl, rfl⟩) (by assumption) ?_
      (try simp only [List.getElem_toArray, List.getElem_cons_succ, List.getElem_cons_zero, Act.put, List.setIfInBounds_toArray, List.set_cons_zero, List.set_cons_succ])
      refine wpAnyH_take (i := 18) (v := ?_) rfl (by kernel_rfl) (by kernel_rfl) (by kernel_rfl) (fun _ _ _ h => h) (Or.inl ⟨by rfl, ?_⟩) (by assumption) ?_
      rotate_left
      · intro w hSw
        (try dsimp only at hSw)
        go_simp
        first | done | with_reducible rfl
      (try simp only [List.getElem_toArray, List.getElem_cons_succ, List.getElem_cons_zero, Act.put, List.setIfInBounds_toArray, List.set_cons_zero, List.set_cons_succ])
      refine wpAnyH_take (i := 19) (v := ?_) rfl (by kernel_rfl) (by kernel_rfl) (by kernel_rfl) (fun _ _ _ h => h) (Or.inl ⟨by rfl, ?_⟩) (by assumption) ?_
      rotate_left
      · intro w hSw
        (try dsimp only at hSw)
        go_simp
        first | done | with_reducible rfl
      (try simp only [List.getElem_toArray, List.getElem_cons_succ, List.getElem_cons_zero, Act.put, List.setIfInBounds_toArray, List.set_cons_zero, List.set_cons_succ])
      refine wpAnyH_done (by kernel_rfl) ?_ _
      go_wp2_with fail
      go_ret
      exact ⟨ret_bool (by rw [Hres.out]; rfl), below_step HW5.out hBx (Nat.le_refl _)⟩
    cases a1'
    · go_wp2_with fail
      go_region_held3 (fun W => W.cell? ⟨w.heap.size, 0, none⟩ = some (.string mark) ∧ W.cell? ⟨w.heap.size, 1, none⟩ = some (.int .i64 tx) ∧ W.cell? ⟨w.heap.size, 2, none⟩ = some (.int .i64 ty) ∧ W.cell? ⟨w.heap.size, 3, none⟩ = some (.int .i64 a1) ∧ W.cell? ⟨w.heap.size, 4, none⟩ = some (.int .i64 a2) ∧ W.cell? ⟨w.heap.size, 5, none⟩ = some (.int .i64 a3) ∧ W.cell? ⟨w.heap.size, 6, none⟩ = some (.int .i64 s1) ∧ W.cell? ⟨w.heap.size, 7, none⟩ = some (.int .i64 s2) ∧ W.cell? ⟨w.heap.size, 8, none⟩ = some (.int .i64 s3) ∧ W.cell? ⟨w.heap.size, 9, none⟩ = some (.int .i64 cnt) ∧ W.cell? ⟨b, off + j * 5, none⟩ = some (.string mk) ∧ W.cell? ⟨b, off + j * 5 + 1, none⟩ = some (.int .i64 sz) ∧ W.cell? ⟨b, off + j * 5 + 2, none⟩ = some (.int .i64 ct) ∧ W.cell? ⟨b, off + j * 5 + 3, none⟩ = some (.int .i64 cd) ∧ W.cell? ⟨b, off + j * 5 + 4, none⟩ = some (.slice A' dims.length c') ∧ Below w.heap.size w W)
        (first | (with_reducible assumption) | go_keep)
        (first
          | (go_at_call 107; have hS := ‹_ ∧ _ ∧ _ ∧ _ ∧ _ ∧ _ ∧ _ ∧ _ ∧ _ ∧ _ ∧ _ ∧ _ ∧ _ ∧ _ ∧ _ ∧ Below w.heap.size w _›
             (first
               | ((with_reducible refine (HP0.out _ hBx).mono ?_); rintro e wz ⟨A5, c5, rfl, hp5, _, hbz⟩)
               | ((with_reducible refine (HP1.out _ hBx).mono ?_); rintro e wz ⟨A6, c6, rfl, hp6, _, hbz⟩))
             have hBx := below_step hBx hbz (Nat.le_refl _)
             have hS' := HC.out _ hBx)
          | (go_at_call 106
             (first
               | ((with_reducible refine (HN0.out _ _ _ hp5).mono ?_); rintro e wz ⟨rfl, hbz⟩)
               | ((with_reducible refine (HN1.out _ _ _ hp6).mono ?_); rintro e wz ⟨rfl, hbz⟩))
             have hBx := below_step hBx hbz (Nat.le_refl _)
             have hS' := HC.out _ hBx))
      all_goals
        go_wp2_with fail
        go_ret
        exact ⟨ret_bool (by rw [Hres.out]; rfl), below_step HW5.out hBx (Nat.le_refl _)⟩
    · go_wp2_with fail
      go_region_held3 (fun W => W.cell? ⟨w.heap.size, 0, none⟩ = some (.string mark) ∧ W.cell? ⟨w.heap.size, 1, none⟩ = some (.int .i64 tx) ∧ W.cell? ⟨w.heap.size, 2, none⟩ = some (.int .i64 ty) ∧ W.cell? ⟨w.heap.size, 3, none⟩ = some (.int .i64 a1) ∧ W.cell? ⟨w.heap.size, 4, none⟩ = some (.int .i64 a2) ∧ W.cell? ⟨w.heap.size, 5, none⟩ = some (.int .i64 a3) ∧ W.cell? ⟨w.heap.size, 6, none⟩ = some (.int .i64 s1) ∧ W.cell? ⟨w.heap.size, 7, none⟩ = some (.int .i64 s2) ∧ W.cell? ⟨w.heap.size, 8, none⟩ = some (.int .i64 s3) ∧ W.cell? ⟨w.heap.size, 9, none⟩ = some (.int .i64 cnt) ∧ W.cell? ⟨b, off + j * 5, none⟩ = some (.string mk) ∧ W.cell? ⟨b, off + j * 5 + 1, none⟩ = some (.int .i64 sz) ∧ W.cell? ⟨b, off + j * 5 + 2, none⟩ = some (.int .i64 ct) ∧ W.cell? ⟨b, off + j * 5 + 3, none⟩ = some (.int .i64 cd) ∧ W.cell? ⟨b, off + j * 5 + 4, none⟩ = some (.slice A' dims.length c') ∧ Below w.heap.size w W)
        (first | (with_reducible assumption) | go_keep)
        (first
          | (go_at_call 107; have hS := ‹_ ∧ _ ∧ _ ∧ _ ∧ _ ∧ _ ∧ _ ∧ _ ∧ _ ∧ _ ∧ _ ∧ _ ∧ _ ∧ _ ∧ _ ∧ Below w.heap.size w _›
             (first
               | ((with_reducible refine (HP0.out _ hBx).mono ?_); rintro e wz ⟨A5, c5, rfl, hp5, _, hbz⟩)
               | ((with_reducible refine (HP1.out _ hBx).mono ?_); rintro e wz ⟨A6, c6, rfl, hp6, _, hbz⟩))
             have hBx := below_step hBx hbz (Nat.le_refl _)
             have hS' := HC.out _ hBx)
          | (go_at_call 106
             (first
               | ((with_reducible refine (HN0.out _ _ _ hp5).mono ?_); rintro e wz ⟨rfl, hbz⟩)
               | ((with_reducible refine (HN1.out _ _ _ hp6).mono ?_); rintro e wz ⟨rfl, hbz⟩))
             have hBx := below_step hBx hbz (Nat.le_refl _)
             have hS' := HC.out _ hBx))
      all_goals
        go_wp2_with fail
        go_ret
        exact ⟨ret_bool (by rw [Hres.out]; rfl), below_step HW5.out hBx (Nat.le_refl _)⟩
end Go.Proofs.YtpmipoljnchheaaGreat
namespace Go.Proofs.YtpmipoljnchheaaGreat
open Go.RowKit

theorem runs_at {bars : List BarD} {l : List RunD} {k : Nat} {r : RunD} (h : l[k]? = some r) : (l.drop k).all (runOk bars) = (runOk bars r && (l.drop (k + 1)).all (runOk bars)) := all_at h
set_option maxHeartbeats 4000000 in
theorem refLaid_any (A3 A4 : Option Addr) (bars : List BarD) (runs : List RunD) (n3 c3 n4 c4 : Nat) (w : World) {B : Nat} (h3 : BarsAt w B A3 bars) (h4 : RunsAt w B A4 runs) (hB : B ≤ w.heap.size) (l3 : n3 = bars.length) (l4 : n4 = runs.length) (m3 : n3 ≤ 60000) (htame : Tame bars) :
    Calls Tryz.prog 42 #[.slice A3 n3 c3, .slice A4 n4 c4] w fun e w' => e = .returned (.bool (laidOk bars runs)) ∧ Below w.heap.size w w' := by
  have HV := hide (refSchedValid_any A3 bars n3 c3 w h3 hB l3 htame m3)
  have hr := hide (laidOk_ref bars runs)
  cases hs : schedOk bars
  · rw [hs] at HV hr
    generalize laidOk bars runs = res at *
    clear h3 h4 hB l3 l4 m3 htame hs
    go_enter Tryz.func42, Tryz.ntmps42
    go_wp2_with fail
    refine HV.out.mono ?_
    rintro e w1 ⟨rfl, hb⟩
    have HW := hide hb
    clear hb HV
    go_wp2_with fail
    go_ret
    exact ⟨ret_bool (by rw [hr.out]; rfl), HW.out⟩
  rw [hs] at HV hr
  have hbar := schedOk_bars hs
  by_cases hlen : 60 < n4
  · have d0 : decide (60 < (n4 : Int)) = true := by simp; omega
    have hr := hide (show laidOk bars runs = false by rw [hr.out, decide_eq_false (by omega)]; rfl)
    generalize laidOk bars runs = res at *
    clear h3 h4 hB l3 l4 m3 htame hs hbar hlen
    go_enter Tryz.func42, Tryz.ntmps42
    go_wp2_with fail
    refine HV.out.mono ?_
    rintro e w1 ⟨rfl, hb⟩
    have HW := hide hb
    clear hb HV
    go_wp2_with fail
    go_ret
    exact ⟨ret_bool hr.out.symm, HW.out⟩
  have d0 : decide (60 < (n4 : Int)) = false := by simp; omega
  have hn60 : n4 ≤ 60 := by omega
  have hr := hide (show laidOk bars runs = ((runs.drop 0).all (runOk bars) && decide (countRuns runs ≤ 2000)) by rw [hr.out, decide_eq_true (by omega)]; rfl)
  have HR := hide (fun (r : RunD) (W : World) (hz : Below w.heap.size w W) => refRun_any A3 bars n3 c3 r W (h3.carry (hz.mono hB) (Nat.le_refl _)) (Nat.le_trans hB hz.size) l3 m3 hbar)
  have HC := hide (fun (hok : ∀ r ∈ runs, 1 ≤ r.count ∧ r.count ≤ 1000) (W : World) (hz : Below w.heap.size w W) => count16_any A4 runs n4 c4 W (h4.carry (Flat.carried _) (hz.mono hB) (Nat.le_refl _)) (Nat.le_trans hB hz.size) l4 hn60 hok)
  have H4 := hide h4
  have L4 := hide l4
  have HB := hide hB
  generalize laidOk bars runs = res at *
  clear h3 h4 hB l3 l4 m3 htame hs hbar hlen
  go_enter Tryz.func42, Tryz.ntmps42
  go_wp2_with fail
  refine HV.out.mono ?_
  rintro e w1 ⟨rfl, hb⟩
  have HW := hide hb
  clear hb HV
  go_wp2_with fail
  go_loopw [5] (fun i wr => ∃ k : Nat, k ≤ n4 ∧ i = .int .i64 k ∧ Hid ((runs.drop 0).all (runOk bars) = (runs.drop k).all (runOk bars)) ∧ Hid (∀ r ∈ runs.take k, runOk bars r = true) ∧ Hid (Below w.heap.size w wr)) (fun i _ => n4 - (intOf i).toNat)
  case atStart => exact ⟨0, Nat.zero_le _, rfl, hide rfl, hide (by simp), HW⟩
  case round =>
    clear HW
    obtain ⟨k, hk, rfl, hq, hp, hbr⟩ := hrel
    by_cases hlt : k < n4
    · obtain ⟨b, off, r, rfl, hbl, hx, hc⟩ := RunsAt.get (k := k) (H4.out.carry (Flat.carried _) (hbr.out.mono HB.out) (Nat.le_refl _)) (by rw [← L4.out]; exact hlt)
      have Hq := hide (hq.out.trans (runs_at hx))
      have HT := HR.out r _ hbr.out
      obtain ⟨a, ha⟩ : ∃ a, a = runOk bars r := ⟨_, rfl⟩
      rw [← ha] at HT Hq
      have HT := hide HT
      have Hp := hide (fun (h1 : a = true) => show ∀ r ∈ runs.take (k + 1), runOk bars r = true by
        rw [take_snoc' hx]
        intro z hz
        rcases List.mem_append.1 hz with h | h
        · exact hp.out z h
        · obtain rfl := List.mem_singleton.1 h; rw [← ha]; exact h1)
      obtain ⟨mark, tx, ty, ⟨a1, a2, a3⟩, ⟨s1, s2, s3⟩, cnt⟩ := r
      have e0 := hc 0 _ rfl
      have e1 := hc 1 _ rfl
      have e2 := hc 2 _ rfl
      have e3 := hc 3 _ rfl
      have e4 := hc 4 _ rfl
      have e5 := hc 5 _ rfl
      have e6 := hc 6 _ rfl
      have e7 := hc 7 _ rfl
      have e8 := hc 8 _ rfl
      have e9 := hc 9 _ rfl
      simp only [Nat.add_zero] at e0 e1 e2 e3 e4 e5 e6 e7 e8 e9
      clear hx hbl hc hq hp ha
      go_wp2_with fail
      refine HT.out.mono ?_
      rintro e w2 ⟨rfl, hb⟩
      have Hbr := hide (below_step hbr.out hb (Nat.le_refl _))
      clear hb HT e0 e1 e2 e3 e4 e5 e6 e7 e8 e9
      cases a
      · go_wp2_with fail
        go_ret
        exact ⟨ret_bool (by rw [hr.out, Hq.out]; rfl), Hbr.out⟩
      · go_wp2_with fail
        go_roundw
        case rel => exact ⟨k + 1, by omega, by go_num, hide (by rw [Hq.out]; rfl), hide (Hp.out (by simp)), Hbr⟩
        case measure => simp [intOf]; omega
    · obtain rfl : k = n4 := by omega
      have hall : ∀ r ∈ runs, runOk bars r = true := by have := hp.out; rwa [L4.out, List.take_length] at this
      have HCo := hide (HC.out (fun r hr => runOk_count (hall r hr)) _ hbr.out)
      have Hr := hide (show res = decide (countRuns runs ≤ 2000) by
        rw [hr.out, hq.out, List.drop_of_length_le (by rw [← L4.out]; exact Nat.le_refl _)]; rfl)
      generalize countRuns runs = t at *
      clear hall hq hp hr HC
      go_wp2_with fail
      refine HCo.out.mono ?_
      rintro e w2 ⟨rfl, hb⟩
      have Hbr := hide (below_step hbr.out hb (Nat.le_refl _))
      clear hb HCo
      go_wp2_with fail
      go_ret
      exact ⟨ret_bool Hr.out.symm, Hbr.out⟩
end Go.Proofs.YtpmipoljnchheaaGreat
namespace Go.Proofs.YtpmipoljnchheaaGreat
open Go.RowKit

set_option maxHeartbeats 400000 in
theorem refBetween_any (n lo hi : Int) (w : World) :
    Calls Tryz.prog 111 #[.int .i64 n, .int .i64 lo, .int .i64 hi] w fun e w' => e = .returned (.bool (within n lo hi)) ∧ w = w' := by
  have hr : within n lo hi = (decide (lo ≤ n) && decide (n ≤ hi)) := rfl
  rw [hr]
  cases q0 : decide (lo ≤ n) <;> cases q1 : decide (n ≤ hi)
  all_goals
    go_enter Tryz.func111, Tryz.ntmps111
    go_wp2_with fail
    go_ret
    exact ⟨rfl, rfl⟩
set_option maxHeartbeats 400000 in
theorem refPlace_any (n : Int) (w : World) :
    Calls Tryz.prog 110 #[.int .i64 n] w fun e w' => e = .returned (.bool (coordOk n)) ∧ w = w' := by
  have H := hide (refBetween_any n (-1048576) 1048576 w)
  go_enter Tryz.func110, Tryz.ntmps110
  go_wp2_with fail
  refine H.out.mono ?_
  rintro e w1 ⟨rfl, rfl⟩
  go_wp2_with fail
  go_ret
  exact ⟨rfl, rfl⟩
def prevOf (l : List (Int × Int)) : Nat → Option Int
  | 0 => none
  | k + 1 => (l[k]?).map (·.1)
theorem steps_at {l : List (Int × Int)} {k : Nat} {x : Int × Int} (h : l[k]? = some x) : stepsFrom (prevOf l k) (l.drop k) = (coordOk x.1 && within x.2 0 1099511627776 && (match prevOf l k with | none => true | some p => decide (p < x.1)) && stepsFrom (prevOf l (k + 1)) (l.drop (k + 1))) := by
  have e : prevOf l (k + 1) = some x.1 := by simp [prevOf, h]
  rw [stepsFrom_at h, e]
  cases prevOf l k <;> rfl
set_option maxHeartbeats 2000000 in
theorem refSteps_any (A : Option Addr) (l : List (Int × Int)) (n c : Nat) (w : World) {B : Nat} (h : StpsAt w B A l) (hB : B ≤ w.heap.size) (hn : n = l.length) (hm : n ≤ 60000) :
    Calls Tryz.prog 76 #[.slice A n c] w fun e w' => e = .returned (.bool (stepsOk l)) ∧ Below w.heap.size w w' := by
  have hn' := hide hn
  have Hs := hide h
  by_cases hbig : 200 < n
  · have hr := hide (show stepsOk l = false by simp [stepsOk, ← hn]; omega)
    have d0 : decide (200 < (n : Int)) = true := by simp; omega
    clear hn h hbig
    go_enter Tryz.func76, Tryz.ntmps76
    go_wp2_with fail
    go_ret
    exact ⟨ret_bool hr.out.symm, Below.refl _ _⟩
  have hr := hide (show stepsOk l = stepsFrom (prevOf l 0) (l.drop 0) by simp [stepsOk, ← hn, prevOf]; omega)
  have d0 : decide (200 < (n : Int)) = false := by simp; omega
  clear hn h
  go_enter Tryz.func76, Tryz.ntmps76
  go_wp2_with fail
  go_loopw [3] (fun i wr => ∃ k : Nat, k ≤ n ∧ i = .int .i64 k ∧ Hid (stepsFrom (prevOf l 0) (l.drop 0) = stepsFrom (prevOf l k) (l.drop k)) ∧ Below w.heap.size w wr) (fun i _ => n - (intOf i).toNat)
  case atStart => exact ⟨0, Nat.zero_le _, rfl, hide rfl, Below.refl _ _⟩
  case round =>
    obtain ⟨k, hk, rfl, hq, hbr⟩ := hrel
    by_cases hlt : k < n
    · have HR := hide (Hs.out.carry (Flat.carried _) (hbr.mono hB) (Nat.le_refl _))
      obtain ⟨b, off, x, hA, hbl, hx, f0, f1⟩ := StpsAt.get (k := k) HR.out (by rw [← hn'.out]; exact hlt)
      have Hq := hide (hq.out.trans (steps_at hx))
      obtain ⟨x1, x2⟩ := x
      simp only at f0 f1 Hq
      have H1 := fun W => refPlace_any x1 W
      have H2 := fun W => refBetween_any x2 0 1099511627776 W
      generalize coordOk x1 = a1 at *
      generalize within x2 0 1099511627776 = a2 at *
      have H1 := hide H1
      have H2 := hide H2
      have Hbr := hide hbr
      have c0 := cell_regrown f0
      have c1 := cell_regrown f1
      cases a1
      · subst hA
        clear hx hq hbr hbl HR
        go_wp2_with fail
        refine wp_region_quiet_below (by kernel_rfl) (by kernel_rfl) ?_
        repeat (go_big_quiet_step (first
          | (go_at_call 110; exact regrown_same (H1.out _))
          | (go_at_call 111; exact regrown_same (H2.out _))))
        refine wpQuiet_nil ?_
        intro w2 hw'
        have hbq := hide (show Below _ _ w2 by obtain ⟨p, rfl⟩ := hw'; exact below_regrown _ _ _)
        clear hw'
        go_wp2_with fail
        go_ret
        exact ⟨ret_bool (by rw [hr.out, Hq.out]; rfl), Hbr.out.trans (hbq.out.mono Hbr.out.size)⟩
      cases a2
      · subst hA
        clear hx hq hbr hbl HR
        go_wp2_with fail
        refine wp_region_quiet_below (by kernel_rfl) (by kernel_rfl) ?_
        repeat (go_big_quiet_step (first
          | (go_at_call 110; exact regrown_same (H1.out _))
          | (go_at_call 111; exact regrown_same (H2.out _))))
        refine wpQuiet_nil ?_
        intro w2 hw'
        have hbq := hide (show Below _ _ w2 by obtain ⟨p, rfl⟩ := hw'; exact below_regrown _ _ _)
        clear hw'
        go_wp2_with fail
        go_ret
        exact ⟨ret_bool (by rw [hr.out, Hq.out]; rfl), Hbr.out.trans (hbq.out.mono Hbr.out.size)⟩
      cases k with
      | zero =>
        subst hA
        have Hq := hide (show stepsFrom (prevOf l 0) (l.drop 0) = stepsFrom (prevOf l 1) (l.drop 1) by rw [Hq.out]; simp [prevOf])
        simp only [Nat.zero_mul, Nat.add_zero] at c0 c1
        clear hx hq hbr hbl HR
        go_wp2_with fail
        refine wp_region_quiet_below (by kernel_rfl) (by kernel_rfl) ?_
        repeat (go_big_quiet_step (first
          | (go_at_call 110; exact regrown_same (H1.out _))
          | (go_at_call 111; exact regrown_same (H2.out _))))
        refine wpQuiet_nil ?_
        intro w2 hw'
        have hbq := hide (show Below _ _ w2 by obtain ⟨p, rfl⟩ := hw'; exact below_regrown _ _ _)
        clear hw'
        go_wp2_with fail
        go_roundw
        case rel => exact ⟨1, by omega, by go_num, Hq, Hbr.out.trans (hbq.out.mono Hbr.out.size)⟩
        case measure => simp [intOf]; omega
      | succ j =>
        obtain ⟨b', off', y, hA', hbl', hy, g0, g1⟩ := StpsAt.get (k := j) HR.out (by rw [← hn'.out]; omega)
        rw [hA] at hA'
        injection hA' with hA'
        injection hA' with e1 e2
        subst e1 e2 hA
        obtain ⟨y1, y2⟩ := y
        simp only at g0
        have Hq := hide (show stepsFrom (prevOf l 0) (l.drop 0) = (decide (y1 < x1) && stepsFrom (prevOf l (j + 1 + 1)) (l.drop (j + 1 + 1))) by rw [Hq.out]; simp [prevOf, hy])
        have c2 := cell_regrown g0
        have z1 : IntKind.i64.wrap ((j : Int) + 1 - 1) = (j : Int) := by rw [Int.add_sub_cancel]; exact IntWalk.i64_in _ (by omega)
        have z2 : IntKind.i64.wrap (j : Int) = (j : Int) := IntWalk.i64_in _ (by omega)
        have z3 : decide ((0 : Int) < (j : Int) + 1) = true := decide_eq_true (by omega)
        by_cases hd : x1 ≤ y1
        · have Hd := hide (show decide (y1 < x1) = false by simp; omega)
          have hd' : decide (x1 ≤ y1) = true := by simpa using hd
          clear hx hy hq hbr hbl hbl' HR g1 f0 f1 g0 hd
          go_wp2_with fail
          refine wp_region_quiet_below (by kernel_rfl) (by kernel_rfl) ?_
          repeat (go_big_quiet_step (first
            | (go_at_call 110; exact regrown_same (H1.out _))
            | (go_at_call 111; exact regrown_same (H2.out _))))
          refine wpQuiet_nil ?_
          intro w2 hw'
          have hbq := hide (show Below _ _ w2 by obtain ⟨p, rfl⟩ := hw'; exact below_regrown _ _ _)
          clear hw'
          go_wp2_with fail
          go_ret
          exact ⟨ret_bool (by rw [hr.out, Hq.out, Hd.out]; rfl), Hbr.out.trans (hbq.out.mono Hbr.out.size)⟩
        · have Hd := hide (show decide (y1 < x1) = true by simp; omega)
          have hd' : decide (x1 ≤ y1) = false := by simpa using hd
          clear hx hy hq hbr hbl hbl' HR g1 f0 f1 g0 hd
          go_wp2_with fail
          refine wp_region_quiet_below (by kernel_rfl) (by kernel_rfl) ?_
          repeat (go_big_quiet_step (first
            | (go_at_call 110; exact regrown_same (H1.out _))
            | (go_at_call 111; exact regrown_same (H2.out _))))
          refine wpQuiet_nil ?_
          intro w2 hw'
          have hbq := hide (show Below _ _ w2 by obtain ⟨p, rfl⟩ := hw'; exact below_regrown _ _ _)
          clear hw'
          go_wp2_with fail
          go_roundw
          case rel => exact ⟨j + 1 + 1, by omega, by go_num, hide (by rw [Hq.out, Hd.out]; rfl), Hbr.out.trans (hbq.out.mono Hbr.out.size)⟩
          case measure => simp [intOf]; omega
    · obtain rfl : k = n := by omega
      go_wp2_with fail
      go_ret
      exact ⟨ret_bool (by rw [hr.out, hq.out, List.drop_of_length_le (by rw [← hn'.out]; exact Nat.le_refl _)]; rfl), hbr⟩
set_option maxHeartbeats 1000000 in
theorem refDemFind_any (A : Option Addr) (l : List DemD) (n c : Nat) (m : ByteArray) (w : World) {B : Nat} (h : DemsAt w B A l) (hn : n = l.length) (hm : n ≤ 60000) :
    Calls Tryz.prog 74 #[.slice A n c, .string m] w fun e w' => e = .returned (.int .i64 (idx (nameIs m) l)) ∧ w = w' := by
  have hn' := hide hn; clear hn
  go_enter Tryz.func74, Tryz.ntmps74
  go_wp2_with fail
  go_loop [5] (fun i => ∃ k : Nat, k ≤ n ∧ i = .int .i64 k ∧ NoneTo (nameIs m) l k) (fun i => n - (intOf i).toNat)
  case atStart => exact ⟨0, Nat.zero_le _, rfl, NoneTo.zero _ _⟩
  case round =>
    obtain ⟨k, hk, rfl, hw⟩ := hrel
    by_cases hlt : k < n
    · obtain ⟨b, off, y, A', c', rfl, hb, hy, _, hc⟩ := DemsAt.get h (k := k) (by rw [← hn'.out]; exact hlt)
      have Hy := hide hy
      have c0 := hc 0 _ rfl
      simp only [Nat.add_zero] at c0
      obtain ⟨t, ht⟩ : ∃ t, t = (y.name.toList == m.toList) := ⟨_, rfl⟩
      have Ht := hide (show nameIs m y = t from ht.symm)
      have ht' := ht.symm
      clear hy hb h hc ht
      cases t
      · go_wp2_with fail
        go_round
        case rel => exact ⟨k + 1, by omega, by go_num, hw.succ Hy.out Ht.out⟩
        case measure => simp [intOf]; omega
      · go_wp2_with fail
        go_ret
        exact ⟨ret_int (hw.hit Hy.out Ht.out).symm, rfl⟩
    · obtain rfl : k = n := by omega
      go_wp2_with fail
      go_ret
      exact ⟨ret_int (NoneTo.miss (by rw [← hn'.out]; exact hw)).symm, rfl⟩
theorem demsBy_at {l : List DemD} {k : Nat} {d : DemD} (h : l[k]? = some d) : demsBy l k (l.drop k) = (isName d.name && decide (idx (nameIs d.name) l = k) && boxOk d.zone && stepsOk d.steps && demsBy l (k + 1) (l.drop (k + 1))) := by
  rw [drop_at' h, demsBy]
set_option maxHeartbeats 4000000 in
theorem refDems_any (A : Option Addr) (l : List DemD) (n c : Nat) (w : World) {B : Nat} (h : DemsAt w B A l) (hB : B ≤ w.heap.size) (hn : n = l.length) (hm : n ≤ 60000) (hd : ∀ d ∈ l, d.name.size ≤ maxLen ∧ d.steps.length ≤ 60000) :
    Calls Tryz.prog 43 #[.slice A n c] w fun e w' => e = .returned (.bool (demsOk l)) ∧ Below w.heap.size w w' := by
  have hn' := hide hn
  have Hs := hide h
  have Hd := hide hd
  by_cases hbig : 20 < n
  · have hr := hide (show demsOk l = false by simp [demsOk, ← hn]; omega)
    have d0 : decide (20 < (n : Int)) = true := by simp; omega
    clear hn h hbig
    go_enter Tryz.func43, Tryz.ntmps43
    go_wp2_with fail
    go_ret
    exact ⟨ret_bool hr.out.symm, Below.refl _ _⟩
  have hr := hide (show demsOk l = demsBy l 0 (l.drop 0) by rw [demsOk_ref, decide_eq_true (by omega)]; rfl)
  have d0 : decide (20 < (n : Int)) = false := by simp; omega
  clear hn h hd
  go_enter Tryz.func43, Tryz.ntmps43
  go_wp2_with fail
  go_loopw [3] (fun i wr => ∃ k : Nat, k ≤ n ∧ i = .int .i64 k ∧ Hid (demsBy l 0 (l.drop 0) = demsBy l k (l.drop k)) ∧ Below w.heap.size w wr) (fun i _ => n - (intOf i).toNat)
  case atStart => exact ⟨0, Nat.zero_le _, rfl, hide rfl, Below.refl _ _⟩
  case round =>
    obtain ⟨k, hk, rfl, hq, hbr⟩ := hrel
    by_cases hlt : k < n
    · obtain ⟨b, off, x, A', c', rfl, hbl, hx, hst, hcs⟩ := DemsAt.get (k := k) Hs.out (by rw [← hn'.out]; exact hlt)
      have hbw := Nat.lt_of_lt_of_le hbl hB
      have HC := hide (fun (W : World) (hz : Below w.heap.size w W) (j : Nat) (v : Value) (hj : ([.string x.name] ++ encB x.zone ++ [.slice A' x.steps.length c'] : List Value)[j]? = some v) => (hz.cell (p := ⟨b, off + k * 8 + j, none⟩) hbw).trans (hcs j v hj))
      have HI := hide (fun (W : World) => refIsName_any x.name W (Hd.out x (mem_of_get hx)).1)
      have HFi := hide (fun (W : World) (hz : Below w.heap.size w W) => refDemFind_any (some ⟨b, off, none⟩) l n c x.name W (SlOf.carry demR_carried Hs.out (hz.mono hB) (Nat.le_refl _)) hn'.out hm)
      have HBx := hide (fun (W : World) => refBox_any x.zone W)
      have HSt := hide (fun (W : World) (hz : Below w.heap.size w W) => refSteps_any A' x.steps x.steps.length c' W (hst.carry (Flat.carried _) (hz.mono hB) (Nat.le_refl _)) (Nat.le_trans hB hz.size) rfl (Hd.out x (mem_of_get hx)).2)
      have Hq := hide (hq.out.trans (demsBy_at hx))
      have HWr := hide hbr
      obtain ⟨a1, ha1⟩ : ∃ t, t = isName x.name := ⟨_, rfl⟩
      obtain ⟨q2, hq2⟩ : ∃ t, t = idx (nameIs x.name) l := ⟨_, rfl⟩
      obtain ⟨a3, ha3⟩ : ∃ t, t = boxOk x.zone := ⟨_, rfl⟩
      obtain ⟨a4, ha4⟩ : ∃ t, t = stepsOk x.steps := ⟨_, rfl⟩
      rw [← ha1, ← hq2, ← ha3, ← ha4] at Hq
      rw [← ha1] at HI
      rw [← hq2] at HFi
      rw [← ha3] at HBx
      rw [← ha4] at HSt
      obtain ⟨name, ⟨⟨x1, x2, x3⟩, x4, x5, x6⟩, steps⟩ := x
      simp only at HC HSt HI HFi
      generalize steps.length = sl at *
      clear ha1 hq2 ha3 ha4 hx hbl hst hcs hq hbr
      have e0 := HC.out _ HWr.out 0 _ rfl
      simp only [Nat.add_zero] at e0
      go_wp2_with fail
      refine (HI.out _).mono ?_
      rintro e w1 ⟨rfl, rfl⟩
      cases a1
      · go_wp2_with fail
        go_ret
        exact ⟨ret_bool (by rw [hr.out, Hq.out]; rfl), HWr.out⟩
      go_wp2_with fail
      refine (HFi.out _ HWr.out).mono ?_
      rintro e w1 ⟨rfl, rfl⟩
      by_cases hi : q2 = k
      case neg =>
        have hi' : (q2 != (k : Int)) = true := by simpa using hi
        have Hi := hide (show decide (q2 = (k : Int)) = false by simpa using hi)
        clear hi
        go_wp2_with fail
        go_ret
        exact ⟨ret_bool (by rw [hr.out, Hq.out, Hi.out]; rfl), HWr.out⟩
      have hi' : (q2 != (k : Int)) = false := by simpa using hi
      have Hi := hide (show decide (q2 = (k : Int)) = true by simpa using hi)
      clear hi
      have e1 := HC.out _ HWr.out 1 _ rfl
      have e2 := HC.out _ HWr.out 2 _ rfl
      have e3 := HC.out _ HWr.out 3 _ rfl
      have e4 := HC.out _ HWr.out 4 _ rfl
      have e5 := HC.out _ HWr.out 5 _ rfl
      have e6 := HC.out _ HWr.out 6 _ rfl
      go_wp2_with fail
      refine (HBx.out _).mono ?_
      rintro e w1 ⟨rfl, hb⟩
      have HWr := hide (below_step HWr.out hb (Nat.le_refl _))
      clear hb e0 e1 e2 e3 e4 e5 e6
      cases a3
      · go_wp2_with fail
        go_ret
        exact ⟨ret_bool (by rw [hr.out, Hq.out, Hi.out]; rfl), HWr.out⟩
      have e7 := HC.out _ HWr.out 7 _ rfl
      go_wp2_with fail
      refine (HSt.out _ HWr.out).mono ?_
      rintro e w1 ⟨rfl, hb⟩
      have HWr := hide (below_step HWr.out hb (Nat.le_refl _))
      clear hb e7
      cases a4
      · go_wp2_with fail
        go_ret
        exact ⟨ret_bool (by rw [hr.out, Hq.out, Hi.out]; rfl), HWr.out⟩
      · go_wp2_with fail
        go_roundw
        case rel => exact ⟨k + 1, by omega, by go_num, hide (by rw [Hq.out, Hi.out]; rfl), HWr.out⟩
        case measure => simp [intOf]; omega
    · obtain rfl : k = n := by omega
      go_wp2_with fail
      go_ret
      exact ⟨ret_bool (by rw [hr.out, hq.out, List.drop_of_length_le (by rw [← hn'.out]; exact Nat.le_refl _)]; rfl), hbr⟩
set_option maxHeartbeats 400000 in
theorem refRat_any (n : Int) (w : World) :
    Calls Tryz.prog 77 #[.int .i64 n] w fun e w' => e = .returned (.bool (ratOk n)) ∧ w = w' := by
  have hr : ratOk n = (decide (1 ≤ n) && decide (n ≤ 1000)) := rfl
  rw [hr]
  cases q0 : decide (1 ≤ n) <;> cases q1 : decide (n ≤ 1000)
  all_goals
    go_enter Tryz.func77, Tryz.ntmps77
    go_wp2_with fail
    go_ret
    exact ⟨rfl, rfl⟩
set_option maxHeartbeats 4000000 in
theorem refRule_any (r : RuleD) (w : World) :
    Calls Tryz.prog 44 #[.agg #[.int .i64 r.num, .int .i64 r.den, .int .i64 r.poorNum, .int .i64 r.poorDen, .int .i64 r.bendNum, .int .i64 r.bendDen, .int .i64 r.lapNum, .int .i64 r.lapDen, .int .i64 r.least]] w fun e w' => e = .returned (.bool (ruleOk r)) ∧ Below w.heap.size w w' := by
  obtain ⟨r1, r2, r3, r4, r5, r6, r7, r8, r9⟩ := r
  have hr : ruleOk ⟨r1, r2, r3, r4, r5, r6, r7, r8, r9⟩ = (ratOk r1 && (ratOk r2 && (ratOk r3 && (ratOk r4 && (ratOk r5 && (ratOk r6 && (ratOk r7 && (ratOk r8 && (decide (r4 ≤ r3) && (decide (r8 ≤ r7) && (decide (r5 ≤ r6) && (decide (0 ≤ r9) && decide (r9 ≤ 1000))))))))))))) := by
    simp only [ruleOk, List.all_cons, List.all_nil, Bool.and_true, within, Bool.and_assoc]
  rw [hr]
  clear hr
  have H1 := fun W => refRat_any r1 W
  have H2 := fun W => refRat_any r2 W
  have H3 := fun W => refRat_any r3 W
  have H4 := fun W => refRat_any r4 W
  have H5 := fun W => refRat_any r5 W
  have H6 := fun W => refRat_any r6 W
  have H7 := fun W => refRat_any r7 W
  have H8 := fun W => refRat_any r8 W
  generalize ratOk r1 = a1 at *
  generalize ratOk r2 = a2 at *
  generalize ratOk r3 = a3 at *
  generalize ratOk r4 = a4 at *
  generalize ratOk r5 = a5 at *
  generalize ratOk r6 = a6 at *
  generalize ratOk r7 = a7 at *
  generalize ratOk r8 = a8 at *
  have H1 := hide H1
  have H2 := hide H2
  have H3 := hide H3
  have H4 := hide H4
  have H5 := hide H5
  have H6 := hide H6
  have H7 := hide H7
  have H8 := hide H8
  have K0 := hide (Blk.new w 32 #[.int .i64 r1, .int .i64 r2, .int .i64 r3, .int .i64 r4, .int .i64 r5, .int .i64 r6, .int .i64 r7, .int .i64 r8, .int .i64 r9])
  have HW := hide (below_new w (.cells #[.int .i64 r1, .int .i64 r2, .int .i64 r3, .int .i64 r4, .int .i64 r5, .int .i64 r6, .int .i64 r7, .int .i64 r8, .int .i64 r9] 32))
  go_enter Tryz.func44, Tryz.ntmps44
  go_wp2_with fail
  refine (H1.out _).mono ?_
  rintro e w1 ⟨rfl, rfl⟩
  cases a1
  · go_wp2_with fail
    go_ret
    exact ⟨rfl, HW.out⟩
  go_wp2_with fail
  refine (H2.out _).mono ?_
  rintro e w1 ⟨rfl, rfl⟩
  cases a2
  · go_wp2_with fail
    go_ret
    exact ⟨rfl, HW.out⟩
  go_wp2_with fail
  refine (H3.out _).mono ?_
  rintro e w1 ⟨rfl, rfl⟩
  cases a3
  · go_wp2_with fail
    go_ret
    exact ⟨rfl, HW.out⟩
  go_wp2_with fail
  refine (H4.out _).mono ?_
  rintro e w1 ⟨rfl, rfl⟩
  cases a4
  · go_wp2_with fail
    go_ret
    exact ⟨rfl, HW.out⟩
  go_wp2_with fail
  refine (H5.out _).mono ?_
  rintro e w1 ⟨rfl, rfl⟩
  cases a5
  · go_wp2_with fail
    go_ret
    exact ⟨rfl, HW.out⟩
  go_wp2_with fail
  refine (H6.out _).mono ?_
  rintro e w1 ⟨rfl, rfl⟩
  cases a6
  · go_wp2_with fail
    go_ret
    exact ⟨rfl, HW.out⟩
  go_wp2_with fail
  refine (H7.out _).mono ?_
  rintro e w1 ⟨rfl, rfl⟩
  cases a7
  · go_wp2_with fail
    go_ret
    exact ⟨rfl, HW.out⟩
  go_wp2_with fail
  refine (H8.out _).mono ?_
  rintro e w1 ⟨rfl, rfl⟩
  cases a8
  · go_wp2_with fail
    go_ret
    exact ⟨rfl, HW.out⟩
  cases q0 : decide (r4 ≤ r3)
  · go_wp2_with fail
    go_ret
    exact ⟨ret_bool (by first | rfl | (rw [q0]; rfl) | (rw [q0, q1]; rfl) | (rw [q0, q1, q2]; rfl) | (rw [q0, q1, q2, q3]; rfl) | (rw [q0, q1, q2, q3, q4]; rfl)), HW.out⟩
  cases q1 : decide (r8 ≤ r7)
  · go_wp2_with fail
    go_ret
    exact ⟨ret_bool (by first | rfl | (rw [q0]; rfl) | (rw [q0, q1]; rfl) | (rw [q0, q1, q2]; rfl) | (rw [q0, q1, q2, q3]; rfl) | (rw [q0, q1, q2, q3, q4]; rfl)), HW.out⟩
  cases q2 : decide (r5 ≤ r6)
  · go_wp2_with fail
    go_ret
    exact ⟨ret_bool (by first | rfl | (rw [q0]; rfl) | (rw [q0, q1]; rfl) | (rw [q0, q1, q2]; rfl) | (rw [q0, q1, q2, q3]; rfl) | (rw [q0, q1, q2, q3, q4]; rfl)), HW.out⟩
  cases q3 : decide (0 ≤ r9)
  · go_wp2_with fail
    go_ret
    exact ⟨ret_bool (by first | rfl | (rw [q0]; rfl) | (rw [q0, q1]; rfl) | (rw [q0, q1, q2]; rfl) | (rw [q0, q1, q2, q3]; rfl) | (rw [q0, q1, q2, q3, q4]; rfl)), HW.out⟩
  cases q4 : decide (r9 ≤ 1000)
  all_goals
    go_wp2_with fail
    go_ret
    exact ⟨ret_bool (by first | rfl | (rw [q0]; rfl) | (rw [q0, q1]; rfl) | (rw [q0, q1, q2]; rfl) | (rw [q0, q1, q2, q3]; rfl) | (rw [q0, q1, q2, q3, q4]; rfl)), HW.out⟩
end Go.Proofs.YtpmipoljnchheaaGreat
