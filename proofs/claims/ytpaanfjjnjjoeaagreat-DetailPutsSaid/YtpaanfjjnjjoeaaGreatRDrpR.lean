/- The reference's Drop: 49.Drop. -/
import Derived.Test.YtpaanfjjnjjoeaaGreatRPutR
import Derived.Test.YtpaanfjjnjjoeaaGreatRQbn
import Derived.Test.YtpaanfjjnjjoeaaGreatRQat
import Derived.Deep.CutRange
namespace Go.Proofs.YtpaanfjjnjjoeaaGreat
open Go.RowKit
set_option maxHeartbeats 2000000 in
theorem refGone_any (f n i : Int) (w : World) (hf0 : 0 ≤ f) (hf1 : f ≤ 1099511627776) (hn0 : 0 ≤ n) (hn1 : n ≤ 1099511627776) :
  Calls Tryz.prog 82 #[.int .i64 i, .int .i64 f, .int .i64 n] w fun e w' => e = .returned (.bool (goneAt f n i)) ∧ w' = w := by
 have z1 : IntKind.i64.wrap (f + n) = f + n := IntWalk.i64_in _ (by omega)
 have Hg := hide (show goneAt f n i = (decide (f ≤ i) && decide (i < f + n)) from rfl)
 generalize goneAt f n i = t at *
 by_cases hc : f ≤ i
 ·have d1 : decide (f ≤ i) = true := decide_eq_true hc
  go_enter Tryz.func82, Tryz.ntmps82
  go_wp2_with fail
  all_goals
   go_ret
   refine ⟨ret_bool ?_, rfl⟩
   rw [Hg.out, d1]
   simp
 ·have d1 : decide (f ≤ i) = false := decide_eq_false hc
  go_enter Tryz.func82, Tryz.ntmps82
  go_wp2_with fail
  all_goals
   go_ret
   refine ⟨ret_bool ?_, rfl⟩
   rw [Hg.out, d1]
   simp
set_option maxHeartbeats 2000000 in
theorem refNumber_any (f n i : Int) (w : World) (hi0 : 0 ≤ i) (hi1 : i ≤ 1099511627776) (hn0 : 0 ≤ n) (hn1 : n ≤ 1099511627776) :
  Calls Tryz.prog 83 #[.int .i64 i, .int .i64 f, .int .i64 n] w fun e w' => e = .returned (.int .i64 (movedTo f n i)) ∧ w' = w := by
 have z1 : IntKind.i64.wrap (i - n) = i - n := IntWalk.i64_in _ (by omega)
 have Hg := hide (show movedTo f n i = (if f ≤ i then i - n else i) from rfl)
 generalize movedTo f n i = t at *
 by_cases hc : f ≤ i
 ·have d1 : decide (f ≤ i) = true := decide_eq_true hc
  go_enter Tryz.func83, Tryz.ntmps83
  go_wp2_with fail
  all_goals
   go_ret
   refine ⟨ret_int ?_, rfl⟩
   rw [Hg.out, if_pos (by omega)]
 ·have d1 : decide (f ≤ i) = false := decide_eq_false hc
  go_enter Tryz.func83, Tryz.ntmps83
  go_wp2_with fail
  all_goals
   go_ret
   refine ⟨ret_int ?_, rfl⟩
   rw [Hg.out, if_neg (by omega)]
theorem SlOf.drop {α : Type} {w : World} {B size : Nat} {enc : α → List Value} {A A' : Option Addr} {l : List α} (h : SlOf w B size (Flat enc) A l) (k : Nat) (hA : ∀ b off, A = some ⟨b, off, none⟩ → k < l.length → A' = some ⟨b, off + k * size, none⟩) : SlOf w B size (Flat enc) A' (l.drop k) := by
 intro hl
 rw [List.length_drop] at hl
 obtain ⟨b, off, hb, hlt, hc⟩ := h (by omega)
 refine ⟨b, off + k * size, hA b off hb (by omega), hlt, fun j y hy => ?_⟩
 rw [List.getElem?_drop] at hy
 obtain ⟨vs, hv, hr, hcell⟩ := hc (k + j) y hy
 refine ⟨vs, hv, hr, fun i v hi => ?_⟩
 have h9 := hcell i v hi
 rw [Nat.add_mul, ← Nat.add_assoc] at h9
 exact h9
theorem RefLow.laps {w : World} {lo : Nat} {x : DetD} {s : DetS} {LB : List BarX} {LD : List DemX} {A : Option Addr} {n c : Nat} {L : List JoinD} (h : RefLow w lo x s LB LD) (hr : Row w lo 73 2 encJoin (.slice A n c) L) :
  RefLow w lo ⟨x.mem, x.bars, x.runs, L, x.dems, x.rule⟩ { s with a5 := A, n5 := n, c5 := c } LB LD := ⟨h.g1, h.g2, h.r3, h.r4, hr, h.r6, h.m3, h.m6, h.d3, h.d6⟩
def RefDrop (x : DetD) (k : Int) (w' : World) (e : Ending) : Prop :=
 ((k < 0 ∨ (x.runs.length : Int) ≤ k) ∧ e = .returned (.tuple #[.agg zeroD, .int .i64 2])) ∨
  (∃ j : Nat, k = j ∧ j < x.runs.length ∧ ∃ s', e = .returned (.tuple #[detV (dropD x j) s', .int .i64 0]) ∧ DetAt w' w'.heap.size (dropD x j) s' ∧ DetFit (dropD x j) s')
set_option maxHeartbeats 8000000 in
set_option maxRecDepth 100000 in
theorem refDrop_ok (x : DetD) (s : DetS) (k : Int) {B : Nat} (w : World) (h : DetAt w B x s) (hB : B ≤ w.heap.size) (hf : DetFit x s) (hd : detOk x = true) (hm1 : s.n1 ≤ 300000) (hm2 : s.n2 ≤ 300000) (hst : ∀ d ∈ x.dems, d.steps.length ≤ 60000) (hk4 : s.n4 ≤ s.c4) :
  Calls Tryz.prog 34 #[detV x s, .int .i64 k] w fun e w' => RefDrop x k w' e ∧ Below w.heap.size w w' := by
 have hr60 : x.runs.length ≤ 60 := by
  have h9 := (detOk_parts hd).2.1
  simp only [laidOk, Bool.and_eq_true, zzJ] at h9
  exact h9.1.2
 have Hcr := hide (fun (r : RunD) (hr : r ∈ x.runs) => show 1 ≤ r.count ∧ r.count ≤ 1000 from runOk_count ((laidOk_mem (detOk_parts hd).2.1).2.2 r hr))
 have HC := hide (fun (W : World) (hz : Below w.heap.size w W) => show Calls Tryz.prog 80 #[.agg (detCells x.mem x.rule s)] W _ from ref25Copy_any x s W (h.carry (hz.mono hB) (Nat.le_refl _)) (Nat.le_trans hB hz.size) hf hm1 hm2 hst)
 have HN := hide (fun (j : Nat) (hj : j < s.n4) (W : World) (hz : Below w.heap.size w W) => count16_any s.a4 (x.runs.take j) j s.c4 W ((SlOf.take h.h4 j).carry (Flat.carried _) (hz.mono hB) (Nat.le_refl _)) (Nat.le_trans hB hz.size) (by rw [List.length_take, ← hf.l4]; omega) (by rw [hf.l4] at hj; omega) (fun r hr => Hcr.out r (List.mem_of_mem_take hr)))
 have H4 := hide (fun (W : World) (hz : Below w.heap.size w W) => SlOf.carry (Flat.carried _) h.h4 (hz.mono hB) (Nat.le_refl B))
 have H5 := hide (fun (W : World) (hz : Below w.heap.size w W) => SlOf.carry (Flat.carried _) h.h5 (hz.mono hB) (Nat.le_refl B))
 have HBB := hide hB
 have K0 := hide ((Blk.new w 34 (detCells x.mem x.rule s)).alloc (.cells zeroD 34))
 have KZ := hide (Blk.new1 w (.cells (detCells x.mem x.rule s) 34) 34 zeroD)
 have HW := hide (below_new2 w (.cells (detCells x.mem x.rule s) 34) (.cells zeroD 34))
 have Hi := hide (show (Tryz.prog.info? 34).map (·.size) = some 19 by kernel_rfl)
 have HS0 := hide (show (detCells x.mem x.rule s).size = 19 from rfl)
 have HL4 := hide hf.l4
 have HL5 := hide hf.l5
 have hb4 := hf.m4
 have hb5 := hf.m5
 have HCL := hide (fun (V : World) (hv : Blk V w.heap.size 34 (detCells x.mem x.rule s)) => show V.cell? ⟨w.heap.size, 7, none⟩ = some (.slice s.a4 s.n4 s.c4) ∧ V.cell? ⟨w.heap.size, 8, none⟩ = some (.slice s.a5 s.n5 s.c5) from ⟨hv.cell 7, hv.cell 8⟩)
 have P2 := hide (fun (w' : World) (h8 : k < 0 ∨ (x.runs.length : Int) ≤ k) => show RefDrop x k w' (.returned (.tuple #[.agg zeroD, .int .i64 2])) from .inl ⟨h8, rfl⟩)
 have P3 := hide (fun (w' : World) (j : Nat) (hj : k = j) (hjl : j < x.runs.length) (s' : DetS) (h1 : DetAt w' w'.heap.size (dropD x j) s') (h2 : DetFit (dropD x j) s') => show RefDrop x k w' (.returned (.tuple #[.agg (detCells (dropD x j).mem (dropD x j).rule s'), .int .i64 0])) from .inr ⟨j, hj, hjl, s', rfl, h1, h2⟩)
 have Hlap := hide (detOk_lap hd)
 have Hf := hide hf
 obtain ⟨C, hC⟩ : ∃ C, C = detCells x.mem x.rule s := ⟨_, rfl⟩
 rw [← hC] at HC K0 KZ HW HS0 HCL
 show Calls Tryz.prog 34 #[.agg (detCells x.mem x.rule s), .int .i64 k] w _
 rw [← hC]
 generalize RefDrop x k = PE at *
 clear h hf hd hm1 hm2 hst hC hB
 have hz1 : w.heap.size + 1 < ((w.alloc (.cells C 34)).alloc (.cells zeroD 34)).heap.size := KZ.out.lt
 obtain ⟨e7, e8⟩ := HCL.out _ K0.out
 obtain ⟨w1, hw1⟩ : ∃ w1, w1 = (w.alloc (.cells C 34)).alloc (.cells zeroD 34) := ⟨_, rfl⟩
 rw [← hw1] at K0 KZ HW hz1 e7 e8
 have l0 := K0.out.lt
 go_enter Tryz.func34, Tryz.ntmps34
 go_upto_region 1 with fail
 rw [← hw1]
 clear hw1
 by_cases hneg : k < 0
 ·have d1 : decide (k < 0) = true := decide_eq_true hneg
  go_wp2_with (refine wpList_store_row rfl 34 (.tmp 4) (.tmp 20) rfl (w.heap.size + 1) zeroD rfl rfl 34 _ KZ.out Hi.out rfl (by kernel_rfl) ?_)
  refine bodyPost_ret (results_ct rfl rfl (setRow_heap _ (w.heap.size + 1) _ zeroD _ _ KZ.out) Tryz.underlying34 rfl (by kernel_rfl)) rfl ?_
  exact ⟨P2.out _ (.inl hneg), Below.setRow HW.out (by omega) _⟩
 ·have d1 : decide (k < 0) = false := decide_eq_false hneg
  obtain ⟨j, rfl⟩ : ∃ j : Nat, k = j := ⟨k.toNat, by omega⟩
  by_cases hge : s.n4 ≤ j
  ·have d2 : decide ((s.n4 : Int) ≤ (j : Int)) = true := decide_eq_true (by omega)
   go_wp2_with (refine wpList_store_row rfl 34 (.tmp 4) (.tmp 20) rfl (w.heap.size + 1) zeroD rfl rfl 34 _ KZ.out Hi.out rfl (by kernel_rfl) ?_)
   refine bodyPost_ret (results_ct rfl rfl (setRow_heap _ (w.heap.size + 1) _ zeroD _ _ KZ.out) Tryz.underlying34 rfl (by kernel_rfl)) rfl ?_
   exact ⟨P2.out _ (.inr (by rw [← HL4.out]; omega)), Below.setRow HW.out (by omega) _⟩
  ·have d2 : decide ((s.n4 : Int) ≤ (j : Int)) = false := decide_eq_false (by omega)
   clear P2
   have hjn : j < s.n4 := by omega
   have hjc : j ≤ s.c4 := by omega
   have hq1 : (0 : Int) ≤ (j : Int) := by omega
   have hq2 : (j : Int) ≤ (s.c4 : Int) := by omega
   have HjL := hide (show j < x.runs.length by rw [← HL4.out]; omega)
   have hCz := hide (HC.out _ HW.out)
   clear HC
   go_wp2_with (refine wpList_load_row rfl 34 (.tmp 2) rfl w.heap.size rfl 34 _ (0, 0) _ K0.out Tryz.underlying34 rfl (by rw [HS0.out]; exact Hi.out) ?_)
   refine hCz.out.mono ?_
   rintro e w2 ⟨s', LB, LD, rfl, hln, hlow, hb⟩
   have Hln := hide hln
   have Hlow := hide hlow
   clear hln hlow hCz
   replace HW := hide (below_step HW.out hb (Nat.le_refl _))
   replace K0 := hide (K0.out.keep hb)
   replace KZ := hide (KZ.out.keep hb)
   have hz12 := hb.size
   clear hb e7 e8 l0
   have Hv := hide (show detV x s' = .agg (detCells x.mem x.rule s') from rfl)
   show _
   go_upto_region 4 with (refine wpList_store_row rfl 34 (.tmp 6) (.tmp 22) rfl w2.heap.size (detCells x.mem x.rule s') rfl rfl 34 _ (Blk.new w2 34 zeroD) (by kernel_rfl) rfl (by kernel_rfl) ?_)
   have k6 := setRow_heap _ w2.heap.size _ (detCells x.mem x.rule s') _ _ (Blk.new w2 34 zeroD)
   have hb := Below.setRow (below_new w2 (.cells zeroD 34)) (Nat.le_refl _) (detCells x.mem x.rule s')
   generalize World.setRow (w2.alloc (.cells zeroD 34)) w2.heap.size (detCells x.mem x.rule s') = w3 at *
   have K6 := hide (show Blk w3 w2.heap.size 34 (detCells x.mem x.rule s') from k6)
   replace HW := hide (below_step HW.out hb (Nat.le_refl _))
   replace K0 := hide (K0.out.keep hb)
   replace KZ := hide (KZ.out.keep hb)
   have Low := hide (Hlow.out.keep hb)
   clear hb k6 Hlow Hv
   have hg6 : w1.heap.size ≤ w2.heap.size := hz12
   have l6 := K6.out.lt
   generalize w2.heap.size = g6 at *
   obtain ⟨e7, e8⟩ := HCL.out _ K0.out
   have l0 := K0.out.lt
   go_wp2_with fail
   refine (HN.out j hjn _ HW.out).mono ?_
   rintro e w4 ⟨rfl, hb⟩
   replace HW := hide (below_step HW.out hb (Nat.le_refl _))
   replace K0 := hide (K0.out.keep hb)
   replace KZ := hide (KZ.out.keep hb)
   replace K6 := hide (K6.out.keep hb)
   replace Low := hide (Low.out.keep hb)
   have hz34 := hb.size
   clear hb HN e7 e8 l0
   have hct : 0 ≤ countRuns (x.runs.take j) ∧ countRuns (x.runs.take j) ≤ 60000 := by
    have h1 := countRuns_range (x.runs.take j) (fun r hr => Hcr.out r (List.mem_of_mem_take hr))
    have h2 : (x.runs.take j).length ≤ x.runs.length := by rw [List.length_take]; exact Nat.min_le_right _ _
    refine ⟨h1.1, Int.le_trans h1.2 ?_⟩
    omega
   have hctA : countRuns x.runs ≤ 60000 := by
    have h1 := countRuns_range x.runs (fun r hr => Hcr.out r hr)
    refine Int.le_trans h1.2 ?_
    omega
   obtain ⟨b9, off, r, hA, hbl, hx, hc⟩ := RunsAt.get (k := j) (H4.out _ HW.out) HjL.out
   have hr2 := Hcr.out r (mem_of_get hx)
   have hcnt := hide (show cntAt x.runs j = r.count by simp [cntAt, hx])
   have hfr := hide (show dropD x j = ⟨x.mem, x.bars, x.runs.eraseIdx j, lapsLess (countRuns (x.runs.take j)) (cntAt x.runs j) x.laps, x.dems, x.rule⟩ from rfl)
   generalize countRuns (x.runs.take j) = fr at *
   obtain ⟨mark, tx, ty, ⟨a1, a2, a3⟩, ⟨s1, s2, s3⟩, cnt⟩ := r
   have p9 := hc 9 _ rfl
   simp only at p9 hr2 hcnt
   obtain ⟨e7, e8⟩ := HCL.out _ K0.out
   rw [hA] at e7
   have l0 := K0.out.lt
   have HA := hide hA
   clear hc hx hA
   go_upto_region 6 with fail
   clear e7 e8 p9
   have zj : IntKind.i64.wrap ((j : Int) + 1) = (j : Int) + 1 := IntWalk.i64_in _ (by omega)
   have HS := hide (And.intro K6.out.drew (And.intro K0.out.drew (Below.drew HW.out)))
   have KZd := hide KZ.out.drew
   have Lowd := hide (Low.out.kept (grown_below (Below.refl w4.heap.size w4).drew none) (fun k hk => by cases hk))
   have hzd : w1.heap.size ≤ w4.drew.heap.size := Nat.le_trans hg6 (Nat.le_of_lt (Nat.lt_of_lt_of_le l6 hz34))
   have hzg : g6 < w4.drew.heap.size := Nat.lt_of_lt_of_le l6 hz34
   refine wp_region_heldTo (S := fun V => Blk V g6 34 (detCells x.mem x.rule s') ∧ Blk V w.heap.size 34 C ∧ Below w.heap.size w V) (n := 13) (by kernel_rfl) ?_
   clear K6 K0 KZ Low HW l6 hz34 l0
   generalize w4.drew = wd at *
   refine HeldTo.take (i := 1) (v := ?_) rfl (by kernel_rfl) (by kernel_rfl) (by kernel_rfl) (by kernel_rfl) (fun _ _ _ h => h) (Or.inl ⟨by rfl, ?_⟩) HS.out ?_
   rotate_left
   ·intro V hSw
    (try dsimp only at hSw)
    skip
    go_simp
    first | done | with_reducible rfl
   (try simp only [zzA, zzB, zzC, Act.put, zzD, zzE, zzF])
   refine HeldTo.take (i := 2) (v := ?_) rfl (by kernel_rfl) (by kernel_rfl) (by kernel_rfl) (by kernel_rfl) (fun _ _ _ h => h) (Or.inl ⟨by rfl, ?_⟩) HS.out ?_
   rotate_left
   ·intro V hSw
    (try dsimp only at hSw)
    have q7 := (HCL.out V hSw.2.1).1; rw [HA.out] at q7; have lq := hSw.2.1.lt
    go_simp
    first | done | with_reducible rfl
   (try simp only [zzA, zzB, zzC, Act.put, zzD, zzE, zzF])
   refine HeldTo.take (i := 3) (v := ?_) rfl (by kernel_rfl) (by kernel_rfl) (by kernel_rfl) (by kernel_rfl) (fun _ _ _ h => h) (Or.inl ⟨by rfl, ?_⟩) HS.out ?_
   rotate_left
   ·intro V hSw
    (try dsimp only at hSw)
    skip
    go_simp
    first | done | with_reducible rfl
   (try simp only [zzA, zzB, zzC, Act.put, zzD, zzE, zzF])
   refine HeldTo.take (i := 4) (v := ?_) rfl (by kernel_rfl) (by kernel_rfl) (by kernel_rfl) (by kernel_rfl) (fun _ _ _ h => h) (Or.inl ⟨by rfl, ?_⟩) HS.out ?_
   rotate_left
   ·intro V hSw
    (try dsimp only at hSw)
    skip
    go_simp
    first | done | with_reducible rfl
   (try simp only [zzA, zzB, zzC, Act.put, zzD, zzE, zzF])
   refine HeldTo.take (i := 6) (v := ?_) rfl (by kernel_rfl) (by kernel_rfl) (by kernel_rfl) (by kernel_rfl) (fun _ _ _ h => h) (Or.inl ⟨by rfl, ?_⟩) HS.out ?_
   rotate_left
   ·intro V hSw
    (try dsimp only at hSw)
    skip
    go_simp
    first | done | with_reducible rfl
   (try simp only [zzA, zzB, zzC, Act.put, zzD, zzE, zzF])
   refine HeldTo.take (i := 7) (v := ?_) rfl (by kernel_rfl) (by kernel_rfl) (by kernel_rfl) (by kernel_rfl) (fun _ _ _ h => h) (Or.inl ⟨by rfl, ?_⟩) HS.out ?_
   rotate_left
   ·intro V hSw
    (try dsimp only at hSw)
    have q7 := (HCL.out V hSw.2.1).1; rw [HA.out] at q7; have lq := hSw.2.1.lt
    go_simp
    first | done | with_reducible rfl
   (try simp only [zzA, zzB, zzC, Act.put, zzD, zzE, zzF])
   refine HeldTo.take (i := 8) (v := ?_) rfl (by kernel_rfl) (by kernel_rfl) (by kernel_rfl) (by kernel_rfl) (fun _ _ _ h => h) (Or.inl ⟨by rfl, ?_⟩) HS.out ?_
   rotate_left
   ·intro V hSw
    (try dsimp only at hSw)
    skip
    go_simp
    first | done | with_reducible rfl
   (try simp only [zzA, zzB, zzC, Act.put, zzD, zzE, zzF])
   refine HeldTo.take (i := 9) (v := ?_) rfl (by kernel_rfl) (by kernel_rfl) (by kernel_rfl) (by kernel_rfl) (fun _ _ _ h => h) (Or.inl ⟨by rfl, ?_⟩) HS.out ?_
   rotate_left
   ·intro V hSw
    (try dsimp only at hSw)
    skip
    go_simp
    first | done | with_reducible rfl
   (try simp only [zzA, zzB, zzC, Act.put, zzD, zzE, zzF])
   refine HeldTo.take (i := 10) (v := ?_) rfl (by kernel_rfl) (by kernel_rfl) (by kernel_rfl) (by kernel_rfl) (fun _ _ _ h => h) (Or.inl ⟨by rfl, ?_⟩) HS.out ?_
   rotate_left
   ·intro V hSw
    (try dsimp only at hSw)
    have hq3 : (j : Int) + 1 ≤ (s.n4 : Int) := (by omega); have hq4 : (0 : Int) ≤ (j : Int) + 1 := (by omega)
    go_simp
    first | done | with_reducible rfl
   (try simp only [zzA, zzB, zzC, Act.put, zzD, zzE, zzF])
   generalize hA10 : (if s.c4 = j + 1 then some (⟨b9, off, none⟩ : Addr) else some ⟨b9, off + (j + 1) * 10, none⟩) = A10
   have HT := hide (fun (W : World) (hv : Below w.heap.size w W) => show RunsAt W B (some ⟨b9, off, none⟩) (x.runs.take j) from by
    have h9 := SlOf.take (H4.out W hv) j
    rw [HA.out] at h9
    exact h9)
   have HDr := hide (fun (W : World) (hv : Below w.heap.size w W) => show RunsAt W B A10 (x.runs.drop (j + 1)) from SlOf.drop (H4.out W hv) (j + 1) (fun b o hb hl => by
    rw [HA.out] at hb
    injection hb with hb
    injection hb with h1 h2
    rw [← hA10, if_neg (by rw [← HL4.out] at hl; omega), h1, h2]))
   have Hlt := hide (show j = (x.runs.take j).length by rw [List.length_take, ← HL4.out]; omega)
   have Hld := hide (show s.n4 - (j + 1) = (x.runs.drop (j + 1)).length by rw [List.length_drop, ← HL4.out])
   clear hA10
   refine HeldTo.one (i := 0) (by kernel_rfl) rfl (fun K hK => ?_)
   go_simp
   have HSa := hide (And.intro (HS.out.1.alloc (.cells #[] 66)) (And.intro (HS.out.2.1.alloc (.cells #[] 66)) (HS.out.2.2.alloc HS.out.2.2.size (.cells #[] 66))))
   have hr0 : Row (wd.alloc (.cells #[] 66)) wd.heap.size 66 10 encRun (.slice (some ⟨wd.heap.size, 0, none⟩) 0 0) [] := World.ownsRow_made wd #[] 0 (Nat.le_refl _) (Nat.zero_le _) (by simp)
   have HR0 := hide hr0
   clear hr0
   refine hK.out _ _ (fun _ => HSa.out) (fun h8 => ?_)
   clear h8 hK K
   (try simp only [zzA, zzB, zzC, Act.put, zzD, zzE, zzF])
   refine HeldTo.one (i := 5) (by kernel_rfl) rfl (fun K hK => ?_)
   refine step_appendG rfl (.tmp 34) (.tmp 38) 28 rfl wd.heap.size 66 (.agg #[.string ⟨#[]⟩, .int .i64 0, .int .i64 0, .int .i64 0, .int .i64 0, .int .i64 0, .int .i64 0, .int .i64 0, .int .i64 0, .int .i64 0]) 10 88 encRun Tryz.underlying28 (by kernel_rfl) rfl (by omega) encRun_len encRun_one _ [] (x.runs.take j) rfl HR0.out (some ⟨b9, off, none⟩) j s.c4 rfl Hlt.out (HT.out _ HSa.out.2.2) (by simp) (by rw [← Hlt.out]; omega) (by omega) (by simp) ?_
   intro A5 c5 w5 hrow5 hb5 hg5
   rw [show ([] : List RunD).length + j = j from Nat.zero_add j] at hrow5 ⊢
   have hw5 : Below wd.heap.size wd w5 := ((below_new wd (.cells #[] 66)).trans hb5)
   have HSb := hide (And.intro (HS.out.1.keep hw5) (And.intro (HS.out.2.1.keep hw5) (below_step HS.out.2.2 hw5 (Nat.le_refl _))))
   have hr5' : Row w5 wd.heap.size 66 10 encRun (.slice A5 j c5) (x.runs.take j) := hrow5
   have HR5 := hide hr5'
   have HW5 := hide hw5
   refine hK.out _ _ (fun _ => HSb.out) (fun h8 => ?_)
   clear h8 hK K
   (try simp only [zzA, zzB, zzC, Act.put, zzD, zzE, zzF])
   clear hrow5 hb5 hg5 hw5 hr5' HSa HR0
   refine HeldTo.one (i := 11) (by kernel_rfl) rfl (fun K hK => ?_)
   refine step_appendG rfl (.tmp 39) (.tmp 44) 28 rfl wd.heap.size 66 (.agg #[.string ⟨#[]⟩, .int .i64 0, .int .i64 0, .int .i64 0, .int .i64 0, .int .i64 0, .int .i64 0, .int .i64 0, .int .i64 0, .int .i64 0]) 10 88 encRun Tryz.underlying28 (by kernel_rfl) rfl (by omega) encRun_len encRun_one _ (x.runs.take j) (x.runs.drop (j + 1)) rfl HR5.out A10 (s.n4 - (j + 1)) (s.c4 - (j + 1)) rfl Hld.out (HDr.out _ HSb.out.2.2) (by rw [← Hlt.out]; omega) (by rw [← Hld.out]; omega) (by omega) HW5.out.size ?_
   intro A6 c6 w6 hrow6 hb6 hg6'
   have hm : (x.runs.take j).length + (s.n4 - (j + 1)) = s.n4 - 1 := by
    rw [← Hlt.out]
    omega
   rw [hm, ← List.eraseIdx_eq_take_drop_succ] at hrow6
   rw [hm]
   have hw6 : Below wd.heap.size wd w6 := HW5.out.trans hb6
   have HSc := hide (And.intro (HS.out.1.keep hw6) (And.intro (HS.out.2.1.keep hw6) (below_step HS.out.2.2 hw6 (Nat.le_refl _))))
   have HR6 := hide hrow6
   have KZ6 := hide (KZd.out.keep hw6)
   have Low6 := hide (Lowd.out.keep hw6)
   have hz6 := hw6.size
   have q8 := HSc.out.1.cell 7
   have f8 := HSc.out.1.frozen 7
   simp only [detCells] at q8
   simp at q8
   refine hK.out _ _ (fun _ => HSc.out) (fun h8 => ?_)
   clear h8 hK K
   (try simp only [zzA, zzB, zzC, Act.put, zzD, zzE, zzF])
   clear hrow6 hb6 hg6' hw6 hm HSb HR5 HW5 HS KZd Lowd HT HDr
   refine HeldTo.one (i := 12) (by kernel_rfl) rfl (fun K hK => ?_)
   go_simp
   refine hK.out _ _ (fun _ => HSc.out) (fun h8 => ?_)
   clear h8 hK K
   (try simp only [zzA, zzB, zzC, Act.put, zzD, zzE, zzF])
   refine HeldTo.one (i := 13) (by kernel_rfl) rfl (fun K hK => ?_)
   go_simp
   refine hK.out _ _ (fun h9 => absurd h9 (by omega)) (fun h8 => HeldTo.done (by kernel_rfl) ?_ _)
   clear h8 hK K q8 f8
   have k7 := HSc.out.1.set_ 7 (.slice A6 (s.n4 - 1) c6)
   have K7 := hide (show Blk (w6.setCell ⟨g6, 7, none⟩ (.slice A6 (s.n4 - 1) c6)) g6 34 (detCells x.mem x.rule { s' with a4 := A6, n4 := s.n4 - 1, c4 := c6 }) from by
    simp only [detCells, zzD, zzE, zzF] at k7 ⊢
    exact k7)
   have n06 : w.heap.size ≠ g6 := by omega
   have nz6 : w.heap.size + 1 ≠ g6 := by omega
   have K07 := hide (HSc.out.2.1.far (p := ⟨g6, 7, none⟩) n06 (.slice A6 (s.n4 - 1) c6))
   have KZ7 := hide (KZ6.out.far (p := ⟨g6, 7, none⟩) nz6 (.slice A6 (s.n4 - 1) c6))
   have HW7 := hide (HSc.out.2.2.setCell (p := ⟨g6, 7, none⟩) (show w.heap.size ≤ g6 by omega) (.slice A6 (s.n4 - 1) c6))
   have hr7 := row_kept HR6.out (grown_set w6 g6 7 (.slice A6 (s.n4 - 1) c6)) (fun k hk => by
    injection hk with hk
    exact row_base HR6.out (by omega))
   have low7 := (Low6.out.far (grown_set w6 g6 7 (.slice A6 (s.n4 - 1) c6)) HSc.out.1).runs (grown_below (Below.refl _ _) _) (row_mono hr7 hzd)
   generalize World.setCell w6 ⟨g6, 7, none⟩ (.slice A6 (s.n4 - 1) c6) = w7 at *
   have Low7 := hide low7
   clear k7 HSc HR6 KZ6 Low6 hr7 low7
   have q8 := K7.out.cell 8
   have f8 := K7.out.frozen 8
   simp only [detCells] at q8
   simp at q8
   have l7 := K7.out.lt
   go_upto_region 8 with fail
   clear q8 f8
   have k8 := K7.out.set_ 8 (.slice none 0 0)
   have K8 := hide (show Blk (w7.setCell ⟨g6, 8, none⟩ (.slice none 0 0)) g6 34 (detCells x.mem x.rule { s' with a4 := A6, n4 := s.n4 - 1, c4 := c6, a5 := none, n5 := 0, c5 := 0 }) from by
    simp only [detCells, zzD, zzE, zzF] at k8 ⊢
    exact k8)
   have K08 := hide (K07.out.far (p := ⟨g6, 8, none⟩) n06 (.slice none 0 0))
   have KZ8 := hide (KZ7.out.far (p := ⟨g6, 8, none⟩) nz6 (.slice none 0 0))
   have HW8 := hide (HW7.out.setCell (p := ⟨g6, 8, none⟩) (show w.heap.size ≤ g6 by omega) (.slice none 0 0))
   have Low8 := hide ((Low7.out.far (grown_set w7 g6 8 (.slice none 0 0)) K7.out).laps (Row.nil _ _ _ _ _))
   generalize World.setCell w7 ⟨g6, 8, none⟩ (.slice none 0 0) = w8 at *
   clear k8 K7 K07 KZ7 HW7 Low7 zj
   obtain ⟨e7, e8⟩ := HCL.out _ K08.out
   have l0 := K08.out.lt
   have l8 := K8.out.lt
   have HG0 := hide (grown_below (Below.refl w8.heap.size w8) (some g6))
   go_wp2_with fail
   clear e7 e8
   go_loopw [9] (fun iv wv => ∃ i : Nat, i ≤ s.n5 ∧ iv = .int .i64 i ∧ (∃ (A9 : Option Addr) (c9 : Nat) (acc : List JoinD), Hid (acc = lapsLess fr (cntAt x.runs j) (x.laps.take i)) ∧ Hid (Blk wv g6 34 (detCells x.mem x.rule { s' with a4 := A6, n4 := s.n4 - 1, c4 := c6, a5 := A9, n5 := acc.length, c5 := c9 })) ∧ Hid (Row wv w8.heap.size 73 2 encJoin (.slice A9 acc.length c9) acc)) ∧ Hid (w8.grownBy wv (some g6))) (fun iv _ => s.n5 - (intOf iv).toNat)
   case atStart => exact ⟨0, Nat.zero_le _, rfl, ⟨none, 0, [], hide rfl, K8, hide (Row.nil _ _ _ _ _)⟩, HG0⟩
   case round =>
    clear HG0
    obtain ⟨i, hi, rfl, ⟨A9, c9, acc, hacc, hK8, hrow⟩, hgr⟩ := hrel
    rename World => wv
    have Kx := hide (K08.out.grown hgr.out (show some w.heap.size ≠ some g6 from fun h9 => by have := Option.some.inj h9; omega))
    have Kz := hide (KZ8.out.grown hgr.out (show some (w.heap.size + 1) ≠ some g6 from fun h9 => by have := Option.some.inj h9; omega))
    have Hwv := hide (HW8.out.grown hgr.out HW8.out.size (fun q hq => by injection hq with hq; omega))
    obtain ⟨e7, e8⟩ := HCL.out _ Kx.out
    have lx := Kx.out.lt
    clear e7
    by_cases hlt : i < s.n5
    ·obtain ⟨bj, oj, jn, hA5, hbl5, hx5, c0, c1⟩ := JoinsAt.get (k := i) (H5.out _ Hwv.out) (by rw [← HL5.out]; exact hlt)
     rw [hA5] at e8
     clear hA5
     have hjm := Hlap.out jn (mem_of_get hx5)
     obtain ⟨first, second⟩ := jn
     simp only at c0 c1 hjm
     have Hx5 := hide hx5
     have KJ := hide (Blk.new wv 73 #[.int .i64 first, .int .i64 second])
     have hKq := hide (hK8.out.alloc (.cells #[.int .i64 first, .int .i64 second] 73))
     have hrowq := hide (hrow.out.alloc (.cells #[.int .i64 first, .int .i64 second] 73))
     have Hap := hide (apart_new hrow.out (Nat.le_refl wv.heap.size))
     have hgrq := hide (hgr.out.trans (grown_below (below_new wv (.cells #[.int .i64 first, .int .i64 second] 73)) (some g6)))
     have hzd8 := hgr.out.size
     have hcn9 := hcnt.out
     have HGa := fun W => refGone_any fr cnt first W (by omega) (by omega) (by omega) (by omega)
     have HGb := fun W => refGone_any fr cnt second W (by omega) (by omega) (by omega) (by omega)
     have Hkp := hide (show keptLap fr (cntAt x.runs j) ⟨first, second⟩ = (!goneAt fr cnt first && !goneAt fr cnt second) by rw [hcn9]; rfl)
     have HGa' := hide HGa
     have HGb' := hide HGb
     have j0 := KJ.out.cell 0
     have j1 := KJ.out.cell 1
     simp at j0 j1
     clear HGa HGb hx5 hcn9 hK8 hrow hgr
     generalize goneAt fr cnt first = ga at *
     generalize goneAt fr cnt second = gb at *
     have lbj : bj < wv.heap.size := Nat.lt_of_lt_of_le hbl5 (Nat.le_trans HBB.out Hwv.out.size)
     go_wp2_with fail
     refine (HGa'.out _).mono ?_
     rintro e wz ⟨rfl, rfl⟩
     cases ga
     ·go_wp2_with fail
      refine (HGb'.out _).mono ?_
      rintro e wz ⟨rfl, rfl⟩
      cases gb
      ·go_upto_region 13 with fail
       clear j0 j1 e8 c0 c1
       have HMa := hide (fun W => refNumber_any fr cnt first W (by omega) (by omega) (by omega) (by omega))
       have HMb := hide (fun W => refNumber_any fr cnt second W (by omega) (by omega) (by omega) (by omega))
       have Hmv := hide (show movedLap fr (cntAt x.runs j) ⟨first, second⟩ = ⟨movedTo fr cnt first, movedTo fr cnt second⟩ by rw [hcnt.out]; rfl)
       generalize movedTo fr cnt first = ma at *
       generalize movedTo fr cnt second = mb at *
       have HS := hide (And.intro hKq.out.drew KJ.out.drew)
       have Rd := hide hrowq.out.drew
       have HGd := hide (hgrq.out.trans (grown_below (Below.refl _ _).drew (some g6)))
       have Hap' := Hap
       refine wp_region_heldTo (S := fun V => Blk V g6 34 (detCells x.mem x.rule { s' with a4 := A6, n4 := s.n4 - 1, c4 := c6, a5 := A9, n5 := acc.length, c5 := c9 }) ∧ Blk V wv.heap.size 73 #[.int .i64 first, .int .i64 second]) (n := 15) (by kernel_rfl) ?_
       clear hKq KJ hrowq hgrq
       have hzw : (wv.alloc (.cells #[.int .i64 first, .int .i64 second] 73)).drew.heap.size = wv.heap.size + 1 := by simp
       generalize (wv.alloc (.cells #[.int .i64 first, .int .i64 second] 73)).drew = wd2 at *
       have HZW := hide hzw
       clear hzw
       refine HeldTo.take (i := 0) (v := ?_) rfl (by kernel_rfl) (by kernel_rfl) (by kernel_rfl) (by kernel_rfl) (fun _ _ _ h => h) (Or.inl ⟨by rfl, ?_⟩) HS.out ?_
       rotate_left
       ·intro V hSw
        (try dsimp only at hSw)
        skip
        go_simp
        first | done | with_reducible rfl
       (try simp only [zzA, zzC, Act.put, zzD, zzE, zzF])
       refine HeldTo.take (i := 1) (v := ?_) rfl (by kernel_rfl) (by kernel_rfl) (by kernel_rfl) (by kernel_rfl) (fun _ _ _ h => h) (Or.inl ⟨by rfl, ?_⟩) HS.out ?_
       rotate_left
       ·intro V hSw
        (try dsimp only at hSw)
        have q9 := hSw.1.cell 8; simp only [detCells] at q9; simp at q9; have lq := hSw.1.lt
        go_simp
        first | done | with_reducible rfl
       (try simp only [zzA, zzB, zzC, Act.put, zzD, zzE, zzF])
       refine HeldTo.take (i := 2) (v := ?_) rfl (by kernel_rfl) (by kernel_rfl) (by kernel_rfl) (by kernel_rfl) (fun _ _ _ h => h) (Or.inl ⟨by rfl, ?_⟩) HS.out ?_
       rotate_left
       ·intro V hSw
        (try dsimp only at hSw)
        skip
        go_simp
        first | done | with_reducible rfl
       (try simp only [zzA, zzB, zzC, Act.put, zzD, zzE, zzF])
       refine HeldTo.take (i := 3) (v := ?_) rfl (by kernel_rfl) (by kernel_rfl) (by kernel_rfl) (by kernel_rfl) (fun _ _ _ h => h) (Or.inl ⟨by rfl, ?_⟩) HS.out ?_
       rotate_left
       ·intro V hSw
        (try dsimp only at hSw)
        have q9 := hSw.2.cell 0; simp at q9; have lq := hSw.2.lt
        go_simp
        first | done | with_reducible rfl
       (try simp only [zzA, zzB, zzC, Act.put, zzD, zzE, zzF])
       refine HeldTo.take (i := 4) (v := ?_) rfl (by kernel_rfl) (by kernel_rfl) (by kernel_rfl) (by kernel_rfl) (fun _ _ _ h => h) (Or.inl ⟨by rfl, ?_⟩) HS.out ?_
       rotate_left
       ·intro V hSw
        (try dsimp only at hSw)
        skip
        go_simp
        first | done | with_reducible rfl
       (try simp only [zzA, zzB, zzC, Act.put, zzD, zzE, zzF])
       refine HeldTo.take (i := 5) (v := ?_) rfl (by kernel_rfl) (by kernel_rfl) (by kernel_rfl) (by kernel_rfl) (fun _ _ _ h => h) (Or.inl ⟨by rfl, ?_⟩) HS.out ?_
       rotate_left
       ·intro V hSw
        (try dsimp only at hSw)
        skip
        go_simp
        first | done | with_reducible rfl
       (try simp only [zzA, zzB, zzC, Act.put, zzD, zzE, zzF])
       refine HeldTo.take (i := 7) (v := ?_) rfl (by kernel_rfl) (by kernel_rfl) (by kernel_rfl) (by kernel_rfl) (fun _ _ _ h => h) (Or.inl ⟨by rfl, ?_⟩) HS.out ?_
       rotate_left
       ·intro V hSw
        (try dsimp only at hSw)
        skip
        go_simp
        first | done | with_reducible rfl
       (try simp only [zzA, zzB, zzC, Act.put, zzD, zzE, zzF])
       refine HeldTo.take (i := 8) (v := ?_) rfl (by kernel_rfl) (by kernel_rfl) (by kernel_rfl) (by kernel_rfl) (fun _ _ _ h => h) (Or.inl ⟨by rfl, ?_⟩) HS.out ?_
       rotate_left
       ·intro V hSw
        (try dsimp only at hSw)
        have q9 := hSw.2.cell 1; simp at q9; have lq := hSw.2.lt
        go_simp
        first | done | with_reducible rfl
       (try simp only [zzA, zzB, zzC, Act.put, zzD, zzE, zzF])
       refine HeldTo.take (i := 9) (v := ?_) rfl (by kernel_rfl) (by kernel_rfl) (by kernel_rfl) (by kernel_rfl) (fun _ _ _ h => h) (Or.inl ⟨by rfl, ?_⟩) HS.out ?_
       rotate_left
       ·intro V hSw
        (try dsimp only at hSw)
        skip
        go_simp
        first | done | with_reducible rfl
       (try simp only [zzA, zzB, zzC, Act.put, zzD, zzE, zzF])
       refine HeldTo.take (i := 10) (v := ?_) rfl (by kernel_rfl) (by kernel_rfl) (by kernel_rfl) (by kernel_rfl) (fun _ _ _ h => h) (Or.inl ⟨by rfl, ?_⟩) HS.out ?_
       rotate_left
       ·intro V hSw
        (try dsimp only at hSw)
        skip
        go_simp
        first | done | with_reducible rfl
       (try simp only [zzA, zzB, zzC, Act.put, zzD, zzE, zzF])
       refine HeldTo.one (i := 6) (by kernel_rfl) rfl (fun K hK => ?_)
       go_simp
       refine (HMa.out _).mono ?_
       rintro e wz ⟨rfl, rfl⟩
       go_wp2_with fail
       refine hK.out _ _ (fun _ => HS.out) (fun h8 => ?_)
       clear h8 hK K
       (try simp only [zzA, zzB, zzC, Act.put, zzD, zzE, zzF])
       refine HeldTo.one (i := 11) (by kernel_rfl) rfl (fun K hK => ?_)
       go_simp
       refine (HMb.out _).mono ?_
       rintro e wz ⟨rfl, rfl⟩
       go_wp2_with fail
       refine hK.out _ _ (fun _ => HS.out) (fun h8 => ?_)
       clear h8 hK K
       (try simp only [zzA, zzB, zzC, Act.put, zzD, zzE, zzF])
       refine HeldTo.one (i := 12) (by kernel_rfl) rfl (fun K hK => ?_)
       go_simp
       refine hK.out _ _ (fun _ => HS.out) (fun h8 => ?_)
       clear h8 hK K
       (try simp only [zzA, zzB, zzC, Act.put, zzD, zzE, zzF])
       refine HeldTo.one (i := 13) (by kernel_rfl) rfl (fun K hK => ?_)
       go_simp
       have HSa := hide (And.intro (HS.out.1.alloc (.cells #[.int .i64 ma, .int .i64 mb] 73)) (HS.out.2.alloc (.cells #[.int .i64 ma, .int .i64 mb] 73)))
       have Re := hide (Rd.out.alloc (.cells #[.int .i64 ma, .int .i64 mb] 73))
       have HYS := hide (SlOf.lit encJoin_len wz 73 #[.int .i64 ma, .int .i64 mb] [⟨ma, mb⟩] (by simp [encJoin]) (Nat.lt_succ_self _))
       refine hK.out _ _ (fun _ => HSa.out) (fun h8 => ?_)
       clear h8 hK K
       (try simp only [zzA, zzB, zzC, Act.put, zzD, zzE, zzF])
       refine HeldTo.one (i := 14) (by kernel_rfl) rfl (fun K hK => ?_)
       refine step_appendG rfl (.tmp 73) (.tmp 85) 29 rfl w8.heap.size 73 (.agg #[.int .i64 0, .int .i64 0]) 2 16 encJoin Tryz.underlying29 (by kernel_rfl) rfl (by omega) encJoin_len encJoin_one _ acc [⟨ma, mb⟩] rfl Re.out (some ⟨wz.heap.size, 0, none⟩) 1 1 rfl rfl HYS.out ?_ (by simp) (by omega) (by have := HZW.out; simp; omega) ?_
       rotate_right
       ·intro A5 c5 w9 hrow9 hb9 hg9
        have hap6 : some g6 ≠ (Value.slice A9 acc.length c9).ownBlock := fun h9 => row_base Re.out l8 h9.symm
        have HSb := hide (And.intro (HSa.out.1.grown hg9 hap6) (HSa.out.2.grown hg9 (show some wv.heap.size ≠ (Value.slice A9 acc.length c9).ownBlock from fun h9 => Hap.out h9.symm)))
        have HG9 := hide (((HGd.out.trans (grown_below (below_new wz (.cells #[.int .i64 ma, .int .i64 mb] 73)) (some g6))).andThen hg9 (fun q hq => .inl (Nat.le_of_not_lt (fun h9 => row_base Re.out h9 hq)))).trans (grown_set w9 g6 8 (.slice A5 (acc.length + 1) c5)))
        have hr10 := row_kept hrow9 (grown_set w9 g6 8 (.slice A5 (acc.length + 1) c5)) (fun k hk => by
         injection hk with hk
         subst hk
         exact row_base hrow9 l8)
        have k10 := HSb.out.1.set_ 8 (.slice A5 (acc.length + 1) c5)
        have hal1 : (acc ++ [(⟨ma, mb⟩ : JoinD)]).length = acc.length + 1 := by simp
        have K10 := hide (show Blk (w9.setCell ⟨g6, 8, none⟩ (.slice A5 (acc.length + 1) c5)) g6 34 (detCells x.mem x.rule { s' with a4 := A6, n4 := s.n4 - 1, c4 := c6, a5 := A5, n5 := (acc ++ [(⟨ma, mb⟩ : JoinD)]).length, c5 := c5 }) from by
         rw [hal1]
         simp only [detCells, zzD, zzE, zzF] at k10 ⊢
         exact k10)
        have HR10 := hide (show Row (w9.setCell ⟨g6, 8, none⟩ (.slice A5 (acc.length + 1) c5)) w8.heap.size 73 2 encJoin (.slice A5 (acc ++ [(⟨ma, mb⟩ : JoinD)]).length c5) (acc ++ [⟨ma, mb⟩]) from by rw [hal1]; exact hr10)
        have q8 := HSb.out.1.cell 8
        have f8 := HSb.out.1.frozen 8
        simp only [detCells] at q8
        simp at q8
        refine hK.out _ _ (fun _ => HSb.out) (fun h8 => ?_)
        clear h8 hK K
        (try simp only [zzA, zzB, zzC, Act.put, zzD, zzE, zzF])
        clear k10 hal1 hrow9 hb9 hg9 hr10 hap6
        refine HeldTo.one (i := 15) (by kernel_rfl) rfl (fun K hK => ?_)
        go_simp
        refine hK.out _ _ (fun h9 => absurd h9 (by omega)) (fun h8 => ?_)
        clear h8 hK K
        (try simp only [zzA, zzB, zzC, Act.put, zzD, zzE, zzF])
        refine HeldTo.one (i := 16) (by kernel_rfl) rfl (fun K hK => ?_)
        go_simp
        refine hK.out _ _ (fun h9 => absurd h9 (by omega)) (fun h8 => HeldTo.done (by kernel_rfl) ?_ _)
        clear h8 hK K q8 f8 HSa HSb HS Re Rd HYS HMa HMb HGd
        go_wp2_with fail
        go_roundw
        case rel => exact ⟨i + 1, by omega, by go_num, ⟨A5, c5, acc ++ [⟨ma, mb⟩], hide (by rw [hacc.out, take_snoc' Hx5.out, lapsLess_snoc, Hkp.out, Hmv.out]; simp), K10, HR10⟩, HG9⟩
        case measure => simp [intOf]; omega
       ·have h9 : acc.length ≤ x.laps.length := by
         rw [hacc.out, lapsLess, List.length_map]
         refine Nat.le_trans (List.length_filter_le _ _) ?_
         rw [List.length_take]
         exact Nat.min_le_right _ _
        rw [← HL5.out] at h9
        omega
      ·go_wp2_with fail
       go_roundw
       case rel => exact ⟨i + 1, by omega, by go_num, ⟨A9, c9, acc, hide (by rw [hacc.out, take_snoc' Hx5.out, lapsLess_snoc, Hkp.out]; simp), hKq, hrowq⟩, hgrq⟩
       case measure => simp [intOf]; omega
     ·go_wp2_with fail
      go_roundw
      case rel => exact ⟨i + 1, by omega, by go_num, ⟨A9, c9, acc, hide (by rw [hacc.out, take_snoc' Hx5.out, lapsLess_snoc, Hkp.out]; simp), hKq, hrowq⟩, hgrq⟩
      case measure => simp [intOf]; omega
    ·obtain rfl : s.n5 = i := by omega
     have hlw := ((Low8.out.far hgr.out K8.out).laps (row_mono hrow.out (show w1.heap.size ≤ w8.heap.size by omega)))
     have hD : dropD x j = ⟨x.mem, x.bars, x.runs.eraseIdx j, acc, x.dems, x.rule⟩ := by rw [hfr.out, hacc.out, HL5.out, List.take_length]
     have hal : acc.length ≤ x.laps.length := by
      rw [hacc.out, HL5.out, List.take_length, lapsLess, List.length_map]
      exact List.length_filter_le _ _
     have her : (x.runs.eraseIdx j).length = s.n4 - 1 := by rw [List.length_eraseIdx, if_pos HjL.out, ← HL4.out]
     have hl := Hln.out
     have hft : DetFit ⟨x.mem, x.bars, x.runs.eraseIdx j, acc, x.dems, x.rule⟩ { s' with a4 := A6, n4 := s.n4 - 1, c4 := c6, a5 := A9, n5 := acc.length, c5 := c9 } :=
      ⟨hl.1.trans Hf.out.l1, hl.2.1.trans Hf.out.l2, hl.2.2.1.trans Hf.out.l3, her.symm, rfl, hl.2.2.2.2.2.trans Hf.out.l6, by rw [hl.2.2.1]; exact Hf.out.m3, by show s.n4 - 1 ≤ 60000; omega, by show acc.length ≤ 60000; rw [← HL5.out] at hal; omega, by rw [hl.2.2.2.2.2]; exact Hf.out.m6, (row_high hlw.r6).2, Hf.out.name, Hf.out.tame, Hf.out.dems⟩
     have Hlw := hide hlw
     have Hft := hide hft
     have HD := hide hD
     have HP := hide (fun (W : World) (h1 : DetAt W W.heap.size ⟨x.mem, x.bars, x.runs.eraseIdx j, acc, x.dems, x.rule⟩ { s' with a4 := A6, n4 := s.n4 - 1, c4 := c6, a5 := A9, n5 := acc.length, c5 := c9 }) => P3.out W j rfl HjL.out { s' with a4 := A6, n4 := s.n4 - 1, c4 := c6, a5 := A9, n5 := acc.length, c5 := c9 } (by rw [HD.out]; exact h1) (by rw [HD.out]; exact Hft.out))
     have Hi9 := hide (show (Tryz.prog.info? 34).map (·.size) = some (detCells x.mem x.rule { s' with a4 := A6, n4 := s.n4 - 1, c4 := c6, a5 := A9, n5 := acc.length, c5 := c9 }).size by kernel_rfl)
     have Ho9 := hide (show (detCells x.mem x.rule { s' with a4 := A6, n4 := s.n4 - 1, c4 := c6, a5 := A9, n5 := acc.length, c5 := c9 }).all (·.oneCell') = true by kernel_rfl)
     have Hz9 := hide (show zeroD.size = (detCells x.mem x.rule { s' with a4 := A6, n4 := s.n4 - 1, c4 := c6, a5 := A9, n5 := acc.length, c5 := c9 }).size by kernel_rfl)
     have hmd : (dropD x j).mem = x.mem := rfl
     have hrd : (dropD x j).rule = x.rule := rfl
     rw [hmd, hrd] at HP
     generalize detCells x.mem x.rule { s' with a4 := A6, n4 := s.n4 - 1, c4 := c6, a5 := A9, n5 := acc.length, c5 := c9 } = C9 at *
     clear hlw hD hal her hft hmd hrd Hlap P3 hl
     go_wp2_with (first
      | (refine wpList_load_row rfl 34 (.tmp 6) rfl g6 rfl 34 _ (0, 0) _ hK8.out Tryz.underlying34 rfl Hi9.out ?_)
      | (refine wpList_store_row rfl 34 (.tmp 4) (.tmp 88) rfl (w.heap.size + 1) C9 rfl rfl 34 _ Kz.out Hi9.out Hz9.out Ho9.out ?_))
     refine bodyPost_ret (results_ct rfl rfl (setRow_heap _ (w.heap.size + 1) _ C9 _ _ Kz.out) Tryz.underlying34 rfl Hi9.out) rfl ?_
     exact ⟨HP.out _ (Hlw.out.kept (grown_row _ _ _) (fun q hq => by
      injection hq with hq
      omega)).at_, Below.setRow Hwv.out (by omega) _⟩
end Go.Proofs.YtpaanfjjnjjoeaaGreat
