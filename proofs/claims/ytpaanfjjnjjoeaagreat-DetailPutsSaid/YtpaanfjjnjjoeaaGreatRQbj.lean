/- The chapter's example of layer 49, with so many bars laid: law49.example. -/
import Derived.Test.YtpaanfjjnjjoeaaGreatRQat
import Derived.Test.YtpaanfjjnjjoeaaGreatRQbf
import Derived.Deep.CutRange
import Derived.Laws.Rows
namespace Go.Proofs.YtpaanfjjnjjoeaaGreat
open Go.RowKit
abbrev zeroDet : Array Value := #[.string ⟨#[]⟩, .slice none 0 0, .slice none 0 0, .int .i64 0, .int .i64 0, .int .i64 0, .slice none 0 0, .slice none 0 0, .slice none 0 0, .slice none 0 0, .int .i64 0, .int .i64 0, .int .i64 0, .int .i64 0, .int .i64 0, .int .i64 0, .int .i64 0, .int .i64 0, .int .i64 0]
abbrev exNS (g1 g3 : Nat) (A4 : Option Addr) (n4 : Nat) : DetS := ⟨some ⟨g1, 0, none⟩, 1, 1, none, 0, 0, some ⟨g3, 0, none⟩, 1, 1, A4, n4, n4, none, 0, 0, none, 0, 0⟩
theorem exN_at {W : World} {n g1 g2 g3 : Nat} {A4 : Option Addr} {t1 t2 t3 : TypeId} (h1 : Blk W g1 t1 #[.int .i64 0, .int .i64 0, .int .i64 0, .int .i64 3000, .int .i64 200, .int .i64 400]) (h2 : Blk W g2 t2 #[.int .i64 2000])
    (h3 : Blk W g3 t3 #[.string ⟨#[97]⟩, .int .i64 12, .int .i64 1, .int .i64 0, .slice (some ⟨g2, 0, none⟩) 1 1]) (h4 : RunsAt W W.heap.size A4 (exN n).runs) (n4 : Nat) : DetAt W W.heap.size (exN n) (exNS g1 g3 A4 n4) :=
  ⟨blk_sl encB_len h1 (fun j u h => by simpa [exN, encB] using h) h1.lt, SlOf.nil _ _ _ _ _,
   SlOf.of_row (xs := [.string ⟨#[97]⟩, .int .i64 12, .int .i64 1, .int .i64 0, .slice (some ⟨g2, 0, none⟩) 1 1]) h3.lt (fun j u hu => by rw [h3.cell]; simpa using hu)
     (fun k x hx => by
       have hk : k = 0 := by rcases Nat.lt_or_ge k 1 with h | h; · omega
                             · rw [List.getElem?_eq_none (by simpa [exN] using h)] at hx; cases hx
       subst hk
       obtain rfl : x = exBar := by simpa [exN] using hx.symm
       refine ⟨[.string ⟨#[97]⟩, .int .i64 12, .int .i64 1, .int .i64 0, .slice (some ⟨g2, 0, none⟩) 1 1], rfl, ⟨some ⟨g2, 0, none⟩, 1, rfl, blk_sl encInt_len h2 (fun j u h => by simpa [encInt, exBar] using h) h2.lt⟩, fun j v hj => ?_⟩
       simpa using hj),
   h4, SlOf.nil _ _ _ _ _, SlOf.nil _ _ _ _ _⟩
theorem exN_fit (n g1 g3 : Nat) (A4 : Option Addr) (n4 : Nat) (h : n4 = (exN n).runs.length) : DetFit (exN n) (exNS g1 g3 A4 n4) :=
 ⟨rfl, rfl, rfl, h, rfl, rfl, (by decide : (1 : Nat) ≤ 60000), (by rw [h]; unfold exN; simp only; split <;> simp), (by decide : (0 : Nat) ≤ 60000), (by decide : (0 : Nat) ≤ 60000), (by decide : (0 : Nat) ≤ 0), (by show (1 : Nat) ≤ maxLen; decide), fun x hx => by
  obtain rfl : x = exBar := by simpa [exN] using hx
  exact ⟨by decide, by decide⟩, fun d hd => by simp [exN] at hd⟩
set_option maxHeartbeats 4000000 in
set_option maxRecDepth 100000 in
theorem exampleN_any (n : Nat) (w : World) (hn : n ≤ 2) : Calls Tryz.prog 35 #[.int .i64 (n : Int)] w fun e w' => ∃ s : DetS, e = .returned (detV (exN n) s) ∧ DetAt w' w'.heap.size (exN n) s ∧ DetFit (exN n) s ∧ Below w.heap.size w w' := by
 have KZ := hide (((((Blk.new w 34 zeroDet).alloc (.cells #[.int .i64 0, .int .i64 0, .int .i64 0, .int .i64 3000, .int .i64 200, .int .i64 400] 62)).alloc (.cells #[.int .i64 2000] 3)).alloc (.cells #[.string ⟨#[97]⟩, .int .i64 12, .int .i64 1, .int .i64 0, .slice (some ⟨w.heap.size + 1 + 1, 0, none⟩) 1 1] 50)).alloc (.cells zeroDet 34))
 have KB := hide ((((Blk.new1 w (.cells zeroDet 34) 62 #[.int .i64 0, .int .i64 0, .int .i64 0, .int .i64 3000, .int .i64 200, .int .i64 400]).alloc (.cells #[.int .i64 2000] 3)).alloc (.cells #[.string ⟨#[97]⟩, .int .i64 12, .int .i64 1, .int .i64 0, .slice (some ⟨w.heap.size + 1 + 1, 0, none⟩) 1 1] 50)).alloc (.cells zeroDet 34))
 have KI := hide (((Blk.new2 w (.cells zeroDet 34) (.cells #[.int .i64 0, .int .i64 0, .int .i64 0, .int .i64 3000, .int .i64 200, .int .i64 400] 62) 3 #[.int .i64 2000]).alloc (.cells #[.string ⟨#[97]⟩, .int .i64 12, .int .i64 1, .int .i64 0, .slice (some ⟨w.heap.size + 1 + 1, 0, none⟩) 1 1] 50)).alloc (.cells zeroDet 34))
 have kr := (Blk.new2 (w.alloc (.cells zeroDet 34)) (.cells #[.int .i64 0, .int .i64 0, .int .i64 0, .int .i64 3000, .int .i64 200, .int .i64 400] 62) (.cells #[.int .i64 2000] 3) 50 #[.string ⟨#[97]⟩, .int .i64 12, .int .i64 1, .int .i64 0, .slice (some ⟨w.heap.size + 1 + 1, 0, none⟩) 1 1]).alloc (.cells zeroDet 34)
 rw [size_alloc'] at kr
 have kd := Blk.new2 ((w.alloc (.cells zeroDet 34)).alloc (.cells #[.int .i64 0, .int .i64 0, .int .i64 0, .int .i64 3000, .int .i64 200, .int .i64 400] 62)) (.cells #[.int .i64 2000] 3) (.cells #[.string ⟨#[97]⟩, .int .i64 12, .int .i64 1, .int .i64 0, .slice (some ⟨w.heap.size + 1 + 1, 0, none⟩) 1 1] 50) 34 zeroDet
 rw [size_alloc', size_alloc'] at kd
 have KR := hide (show Blk _ (w.heap.size + 1 + 1 + 1) 50 _ from kr)
 have KD := hide (show Blk _ (w.heap.size + 1 + 1 + 1 + 1) 34 _ from kd)
 have HW := hide (((((below_new w (.cells zeroDet 34)).alloc (by simp) (.cells #[.int .i64 0, .int .i64 0, .int .i64 0, .int .i64 3000, .int .i64 200, .int .i64 400] 62)).alloc (by simp; omega) (.cells #[.int .i64 2000] 3)).alloc (by simp; omega) (.cells #[.string ⟨#[97]⟩, .int .i64 12, .int .i64 1, .int .i64 0, .slice (some ⟨w.heap.size + 1 + 1, 0, none⟩) 1 1] 50)).alloc (by simp; omega) (.cells zeroDet 34))
 have Hi : Hid ((Tryz.prog.info? 34).map (·.size) = some 19) := hide (by kernel_rfl)
 have Hone : Hid ((detCells (exN 0).mem (exN 0).rule (exNS (w.heap.size + 1) (w.heap.size + 1 + 1 + 1) none 0)).all (·.oneCell') = true) := hide (by kernel_rfl)
 clear kr kd
 go_enter Tryz.func35, Tryz.ntmps35
 go_upto_region 2 with (refine wpList_store_row rfl 34 (.tmp 3) (.tmp 13) rfl (w.heap.size + 1 + 1 + 1 + 1) (detCells (exN 0).mem (exN 0).rule (exNS (w.heap.size + 1) (w.heap.size + 1 + 1 + 1) none 0)) rfl rfl 34 _ KD.out Hi.out rfl Hone.out ?_)
 have kD := setRow_heap _ (w.heap.size + 1 + 1 + 1 + 1) _ (detCells (exN 0).mem (exN 0).rule (exNS (w.heap.size + 1) (w.heap.size + 1 + 1 + 1) none 0)) _ _ KD.out
 have kZ := (setRow_other _ (w.heap.size + 1 + 1 + 1 + 1) w.heap.size (detCells (exN 0).mem (exN 0).rule (exNS (w.heap.size + 1) (w.heap.size + 1 + 1 + 1) none 0)) (by omega)).trans KZ.out
 have kB := (setRow_other _ (w.heap.size + 1 + 1 + 1 + 1) (w.heap.size + 1) (detCells (exN 0).mem (exN 0).rule (exNS (w.heap.size + 1) (w.heap.size + 1 + 1 + 1) none 0)) (by omega)).trans KB.out
 have kI := (setRow_other _ (w.heap.size + 1 + 1 + 1 + 1) (w.heap.size + 1 + 1) (detCells (exN 0).mem (exN 0).rule (exNS (w.heap.size + 1) (w.heap.size + 1 + 1 + 1) none 0)) (by omega)).trans KI.out
 have kR := (setRow_other _ (w.heap.size + 1 + 1 + 1 + 1) (w.heap.size + 1 + 1 + 1) (detCells (exN 0).mem (exN 0).rule (exNS (w.heap.size + 1) (w.heap.size + 1 + 1 + 1) none 0)) (by omega)).trans KR.out
 have hW := Below.setRow HW.out (show w.heap.size ≤ w.heap.size + 1 + 1 + 1 + 1 by omega) (detCells (exN 0).mem (exN 0).rule (exNS (w.heap.size + 1) (w.heap.size + 1 + 1 + 1) none 0))
 obtain ⟨w6, hw6⟩ : ∃ q, q = World.setRow (((((w.alloc (.cells zeroDet 34)).alloc (.cells #[.int .i64 0, .int .i64 0, .int .i64 0, .int .i64 3000, .int .i64 200, .int .i64 400] 62)).alloc (.cells #[.int .i64 2000] 3)).alloc (.cells #[.string ⟨#[97]⟩, .int .i64 12, .int .i64 1, .int .i64 0, .slice (some ⟨w.heap.size + 1 + 1, 0, none⟩) 1 1] 50)).alloc (.cells zeroDet 34)) (w.heap.size + 1 + 1 + 1 + 1) (detCells (exN 0).mem (exN 0).rule (exNS (w.heap.size + 1) (w.heap.size + 1 + 1 + 1) none 0)) := ⟨_, rfl⟩
 rw [← hw6] at kD kZ kB kI kR hW
 have hs6 : w6.heap.size = w.heap.size + 1 + 1 + 1 + 1 + 1 := by rw [hw6]; simp
 replace KD := hide (show Blk w6 (w.heap.size + 1 + 1 + 1 + 1) 34 (detCells (exN 0).mem (exN 0).rule (exNS (w.heap.size + 1) (w.heap.size + 1 + 1 + 1) none 0)) from kD)
 replace KZ := hide (show Blk w6 w.heap.size 34 zeroDet from kZ)
 replace KB := hide (show Blk w6 (w.heap.size + 1) 62 #[.int .i64 0, .int .i64 0, .int .i64 0, .int .i64 3000, .int .i64 200, .int .i64 400] from kB)
 replace KI := hide (show Blk w6 (w.heap.size + 1 + 1) 3 #[.int .i64 2000] from kI)
 replace KR := hide (show Blk w6 (w.heap.size + 1 + 1 + 1) 50 #[.string ⟨#[97]⟩, .int .i64 12, .int .i64 1, .int .i64 0, .slice (some ⟨w.heap.size + 1 + 1, 0, none⟩) 1 1] from kR)
 replace HW := hide hW
 rw [← hw6]
 have Hs6 := hide hs6
 clear hw6 kD kZ kB kI kR hW hs6
 by_cases h0 : n = 0
 ·subst h0
  have d0 : decide ((0 : Int) < ((0 : Nat) : Int)) = false := by decide
  go_wp2_with (first
   | (refine wpList_load_row rfl 34 (.tmp 3) rfl (w.heap.size + 1 + 1 + 1 + 1) rfl 34 _ (0, 0) _ KD.out Tryz.underlying34 rfl Hi.out ?_)
   | (refine wpList_store_row rfl 34 (.tmp 2) (.tmp 23) rfl w.heap.size (detCells (exN 0).mem (exN 0).rule (exNS (w.heap.size + 1) (w.heap.size + 1 + 1 + 1) none 0)) rfl rfl 34 _ KZ.out Hi.out rfl Hone.out ?_))
  have kE := setRow_heap _ w.heap.size _ (detCells (exN 0).mem (exN 0).rule (exNS (w.heap.size + 1) (w.heap.size + 1 + 1 + 1) none 0)) _ _ KZ.out
  refine bodyPost_ret (results_c rfl rfl kE Tryz.underlying34 rfl (by kernel_rfl)) rfl ?_
  have q := Hs6.out
  refine ⟨exNS (w.heap.size + 1) (w.heap.size + 1 + 1 + 1) none 0, rfl, exN_at (g2 := w.heap.size + 1 + 1) ((setRow_other _ _ _ _ (by omega)).trans KB.out) ((setRow_other _ _ _ _ (by omega)).trans KI.out) ((setRow_other _ _ _ _ (by omega)).trans KR.out) (SlOf.nil _ _ _ _ _) 0, exN_fit 0 _ _ _ _ rfl, ?_⟩
  exact Below.setRow HW.out (Nat.le_refl _) _
 ·have d0 : decide ((0 : Int) < (n : Int)) = true := by simp; omega
  have e7 := (KD.out.alloc (.cells #[.string ⟨#[97]⟩, .int .i64 1, .int .i64 2, .int .i64 100, .int .i64 50, .int .i64 50, .int .i64 0, .int .i64 50, .int .i64 0, .int .i64 (n : Int)] 66)).cell 7
  simp [detCells, exN] at e7
  have f7 := (KD.out.alloc (.cells #[.string ⟨#[97]⟩, .int .i64 1, .int .i64 2, .int .i64 100, .int .i64 50, .int .i64 50, .int .i64 0, .int .i64 50, .int .i64 0, .int .i64 (n : Int)] 66)).frozen 7
  have hs := Hs6.out
  have kD := (KD.out.alloc (.cells #[.string ⟨#[97]⟩, .int .i64 1, .int .i64 2, .int .i64 100, .int .i64 50, .int .i64 50, .int .i64 0, .int .i64 50, .int .i64 0, .int .i64 (n : Int)] 66)).set_ 7 (.slice (some ⟨w6.heap.size, 0, none⟩) 1 1)
  have kT := (Blk.new w6 66 #[.string ⟨#[97]⟩, .int .i64 1, .int .i64 2, .int .i64 100, .int .i64 50, .int .i64 50, .int .i64 0, .int .i64 50, .int .i64 0, .int .i64 (n : Int)]).far (p := ⟨w.heap.size + 1 + 1 + 1 + 1, 7, none⟩) (show w6.heap.size ≠ w.heap.size + 1 + 1 + 1 + 1 by omega) (.slice (some ⟨w6.heap.size, 0, none⟩) 1 1)
  have kZ := (KZ.out.alloc (.cells #[.string ⟨#[97]⟩, .int .i64 1, .int .i64 2, .int .i64 100, .int .i64 50, .int .i64 50, .int .i64 0, .int .i64 50, .int .i64 0, .int .i64 (n : Int)] 66)).far (p := ⟨w.heap.size + 1 + 1 + 1 + 1, 7, none⟩) (show w.heap.size ≠ w.heap.size + 1 + 1 + 1 + 1 by omega) (.slice (some ⟨w6.heap.size, 0, none⟩) 1 1)
  have kB := (KB.out.alloc (.cells #[.string ⟨#[97]⟩, .int .i64 1, .int .i64 2, .int .i64 100, .int .i64 50, .int .i64 50, .int .i64 0, .int .i64 50, .int .i64 0, .int .i64 (n : Int)] 66)).far (p := ⟨w.heap.size + 1 + 1 + 1 + 1, 7, none⟩) (show w.heap.size + 1 ≠ w.heap.size + 1 + 1 + 1 + 1 by omega) (.slice (some ⟨w6.heap.size, 0, none⟩) 1 1)
  have kI := (KI.out.alloc (.cells #[.string ⟨#[97]⟩, .int .i64 1, .int .i64 2, .int .i64 100, .int .i64 50, .int .i64 50, .int .i64 0, .int .i64 50, .int .i64 0, .int .i64 (n : Int)] 66)).far (p := ⟨w.heap.size + 1 + 1 + 1 + 1, 7, none⟩) (show w.heap.size + 1 + 1 ≠ w.heap.size + 1 + 1 + 1 + 1 by omega) (.slice (some ⟨w6.heap.size, 0, none⟩) 1 1)
  have kR := (KR.out.alloc (.cells #[.string ⟨#[97]⟩, .int .i64 1, .int .i64 2, .int .i64 100, .int .i64 50, .int .i64 50, .int .i64 0, .int .i64 50, .int .i64 0, .int .i64 (n : Int)] 66)).far (p := ⟨w.heap.size + 1 + 1 + 1 + 1, 7, none⟩) (show w.heap.size + 1 + 1 + 1 ≠ w.heap.size + 1 + 1 + 1 + 1 by omega) (.slice (some ⟨w6.heap.size, 0, none⟩) 1 1)
  have hW := (HW.out.alloc (show w.heap.size ≤ w6.heap.size by omega) (.cells #[.string ⟨#[97]⟩, .int .i64 1, .int .i64 2, .int .i64 100, .int .i64 50, .int .i64 50, .int .i64 0, .int .i64 50, .int .i64 0, .int .i64 (n : Int)] 66)).setCell (p := ⟨w.heap.size + 1 + 1 + 1 + 1, 7, none⟩) (show w.heap.size ≤ w.heap.size + 1 + 1 + 1 + 1 by omega) (.slice (some ⟨w6.heap.size, 0, none⟩) 1 1)
  obtain ⟨w8, hw8⟩ : ∃ q, q = (w6.alloc (.cells #[.string ⟨#[97]⟩, .int .i64 1, .int .i64 2, .int .i64 100, .int .i64 50, .int .i64 50, .int .i64 0, .int .i64 50, .int .i64 0, .int .i64 (n : Int)] 66)).setCell ⟨w.heap.size + 1 + 1 + 1 + 1, 7, none⟩ (.slice (some ⟨w6.heap.size, 0, none⟩) 1 1) := ⟨_, rfl⟩
  rw [← hw8] at kD kT kZ kB kI kR hW
  replace KD := hide (show Blk w8 (w.heap.size + 1 + 1 + 1 + 1) 34 (detCells (exN n).mem (exN n).rule (exNS (w.heap.size + 1) (w.heap.size + 1 + 1 + 1) (some ⟨w6.heap.size, 0, none⟩) 1)) from kD)
  replace KZ := hide kZ
  have KT := hide kT
  replace KB := hide kB
  replace KI := hide kI
  replace KR := hide kR
  replace HW := hide hW
  have Hone2 : Hid ((detCells (exN n).mem (exN n).rule (exNS (w.heap.size + 1) (w.heap.size + 1 + 1 + 1) (some ⟨w6.heap.size, 0, none⟩) 1)).all (·.oneCell') = true) := hide (by kernel_rfl)
  have Hw8 := hide hw8
  clear kD kT kZ kB kI kR hW hw8 hs
  go_upto_region 4 with fail
  rw [← Hw8.out]
  clear e7 f7 Hw8
  go_wp2_with (first
   | (refine wpList_load_row rfl 34 (.tmp 3) rfl (w.heap.size + 1 + 1 + 1 + 1) rfl 34 _ (0, 0) _ KD.out Tryz.underlying34 rfl Hi.out ?_)
   | (refine wpList_store_row rfl 34 (.tmp 2) (.tmp 23) rfl w.heap.size (detCells (exN n).mem (exN n).rule (exNS (w.heap.size + 1) (w.heap.size + 1 + 1 + 1) (some ⟨w6.heap.size, 0, none⟩) 1)) rfl rfl 34 _ KZ.out Hi.out rfl Hone2.out ?_))
  have kE := setRow_heap _ w.heap.size _ (detCells (exN n).mem (exN n).rule (exNS (w.heap.size + 1) (w.heap.size + 1 + 1 + 1) (some ⟨w6.heap.size, 0, none⟩) 1)) _ _ KZ.out
  refine bodyPost_ret (results_c rfl rfl kE Tryz.underlying34 rfl (by kernel_rfl)) rfl ?_
  have q := Hs6.out
  have hr : (exN n).runs = [⟨exMk, 1, 2, (100, 50, 50), (0, 50, 0), n⟩] := by simp [exN, h0]
  have kT2 := (setRow_other w8 w.heap.size w6.heap.size (detCells (exN n).mem (exN n).rule (exNS (w.heap.size + 1) (w.heap.size + 1 + 1 + 1) (some ⟨w6.heap.size, 0, none⟩) 1)) (by omega)).trans KT.out
  refine ⟨exNS (w.heap.size + 1) (w.heap.size + 1 + 1 + 1) (some ⟨w6.heap.size, 0, none⟩) 1, rfl, exN_at (g2 := w.heap.size + 1 + 1) ((setRow_other _ _ _ _ (by omega)).trans KB.out) ((setRow_other _ _ _ _ (by omega)).trans KI.out) ((setRow_other _ _ _ _ (by omega)).trans KR.out) ?_ 1, exN_fit n _ _ _ _ (by rw [hr]; rfl), ?_⟩
  ·rw [hr]
   exact blk_sl encRun_len (show Blk _ w6.heap.size 66 _ from kT2) (fun j u h => by simpa [encRun, exMk] using h) (Blk.lt (show Blk _ w6.heap.size 66 _ from kT2))
  ·exact Below.setRow HW.out (Nat.le_refl _) _
end Go.Proofs.YtpaanfjjnjjoeaaGreat
