/- supply: the main leg of a laid bar; which of two laid bars is thinner; the main leg's anchored ends in plain words. lap.chains and lap.Chains: the chains of a valid detail. supply.rods: all laid bars of a valid detail. supply.chains: the laid bars and the chains of a valid detail. supply.suppliers: the chains that supply a demand. supply.value: the sum of the areas of chains at a place. supply.Of: the short steps of what supplies a demand. slices.Grow of a nil slice of steps; slices.Concat of two lists of steps. sections.parts: supply and demand, part by part. -/
import Derived.Test.YtkmpddaobncheaaGreatDoorQaz
import Derived.Deep.QuietTactic
import Derived.BigQuiet
import Derived.Test.YtkmpddaobncheaaGreatDoorQas
import Derived.Test.YtkmpddaobncheaaGreatDoorQac
import Derived.Test.YtkmpddaobncheaaGreatDoorQax
import Derived.Test.YtkmpddaobncheaaGreatDoorQay
import Derived.Test.YtkmpddaobncheaaGreatDoorQaf
import Derived.Test.YtkmpddaobncheaaGreatDoorQau
import Derived.Deep.RegionLaw
import Derived.Deep.CutRange
import Derived.Lib.QuietBelow
import Derived.Deep.DeepBigQuietO
import Derived.Lib.AppendZerosOnto
namespace Go.Proofs.YtkmpddaobncheaaGreatDoor
open Go.RowKit

theorem ends_main {r : RuleD} {m : MemD} {sz : Int} {ld : LaidD} (hr : ruleOk r = true) (hs : 0 ≤ sz ∧ sz ≤ 40) (h : 0 ≤ rodMain ld) :
    (endsOf r m sz (legsOfPts ld.pts)).2.2 = 0 ∧ (0 ≤ (endsOf r m sz (legsOfPts ld.pts)).1 ∧ (endsOf r m sz (legsOfPts ld.pts)).1 ≤ 41002000000) ∧ 0 ≤ (endsOf r m sz (legsOfPts ld.pts)).2.1 ∧ (endsOf r m sz (legsOfPts ld.pts)).2.1 ≤ 41002000000 := by
  have hk : idx alongX (legsOfPts ld.pts) = ((rodMain ld).toNat : Int) := by rw [Int.toNat_of_nonneg h]; rfl
  rw [endsOf_some (r := r) (m := m) (size := sz) hk (rodLeg_get h)]
  have hq := rule_rng hr
  exact ⟨rfl, (anchL_rng hq hs.1 hs.2 _ _).2, (anchL_rng hq hs.1 hs.2 _ _).2⟩
theorem rodLeg_ok {x : DetD} {ld : LaidD} (ho : RodOk x ld) (h : 0 ≤ rodMain ld) : boxOk (rodLeg ld) = true := List.all_eq_true.1 ho.boxes _ (mem_of_get (rodLeg_get h))
theorem ends_rng {x : DetD} {ld : LaidD} (hr : ruleOk x.rule = true) (ho : RodOk x ld) (h : 0 ≤ rodMain ld) :
    (-100000000000 ≤ endLo x ld ∧ endLo x ld ≤ 100000000000) ∧ -100000000000 ≤ endHi x ld ∧ endHi x ld ≤ 100000000000 := by
  have h1 := ends_main (m := x.mem) hr (endSize ho.bar) h
  obtain ⟨q1, _, _⟩ := boxOk_iff.1 (rodLeg_ok ho h)
  unfold endLo endHi
  omega
abbrev rodCells (ld : LaidD) (da : Option Addr) (dc : Nat) (la : Option Addr) (lc : Nat) : Array Value :=
  #[.string ld.bar.mark, .int .i64 ld.bar.size, .int .i64 ld.bar.count, .int .i64 ld.bar.code, .slice da ld.bar.dims.length dc, .slice la (legsOfPts ld.pts).length lc, .int .i64 (rodMain ld)]
set_option maxHeartbeats 1000000 in
theorem leg_ok2 (ld : LaidD) (da : Option Addr) (dc : Nat) (la : Option Addr) (lc : Nat) (w : World) {B : Nat} (hb : BoxesAt w B la (legsOfPts ld.pts)) (hB : B ≤ w.heap.size) (hm : 0 ≤ rodMain ld) (_hfew : (legsOfPts ld.pts).length ≤ 6) :
    Calls Tryz.prog 188 #[.agg (rodCells ld da dc la lc)] w fun e w' => e = .returned (bx (rodLeg ld)) ∧ Below w.heap.size w w' := by
  have hir : rodMain ld < ((legsOfPts ld.pts).length : Int) := (idx_range alongX (legsOfPts ld.pts)).2
  have hg := rodLeg_get hm
  obtain ⟨k, hk⟩ := Int.eq_ofNat_of_zero_le hm
  rw [hk] at hg hir
  rw [Int.toNat_natCast] at hg
  obtain ⟨b, off, l, rfl, hbl, hl, e0, e1, e2, e3, e4, e5⟩ := BoxesAt.get (k := k) hb (by omega)
  obtain rfl : l = rodLeg ld := by rw [hg] at hl; injection hl with hl; exact hl.symm
  have lb : b < w.heap.size := Nat.lt_of_lt_of_le hbl hB
  have hkn : k < (legsOfPts ld.pts).length := by omega
  generalize rodLeg ld = l at *
  generalize hn : (legsOfPts ld.pts).length = n at *
  show Calls Tryz.prog 188 #[.agg #[.string ld.bar.mark, .int .i64 ld.bar.size, .int .i64 ld.bar.count, .int .i64 ld.bar.code, .slice da ld.bar.dims.length dc, .slice (some ⟨b, off, none⟩) (legsOfPts ld.pts).length lc, .int .i64 (rodMain ld)]] w _
  rw [hn, hk]
  obtain ⟨⟨a1, a2, a3⟩, a4, a5, a6⟩ := l
  simp only at e0 e1 e2 e3 e4 e5
  clear hb hB hm hir hl hg hbl hn hk
  generalize ld.bar.dims.length = dn at *
  have K0 := hide ((Blk.new w 258 #[.string ld.bar.mark, .int .i64 ld.bar.size, .int .i64 ld.bar.count, .int .i64 ld.bar.code, .slice da dn dc, .slice (some ⟨b, off, none⟩) n lc, .int .i64 (k : Int)]).alloc (.cells #[.int .i64 0, .int .i64 0, .int .i64 0, .int .i64 0, .int .i64 0, .int .i64 0] 51))
  have K1 := hide (Blk.new1 w (.cells #[.string ld.bar.mark, .int .i64 ld.bar.size, .int .i64 ld.bar.count, .int .i64 ld.bar.code, .slice da dn dc, .slice (some ⟨b, off, none⟩) n lc, .int .i64 (k : Int)] 258) 51 #[.int .i64 0, .int .i64 0, .int .i64 0, .int .i64 0, .int .i64 0, .int .i64 0])
  have HW := hide (below_new2 w (.cells #[.string ld.bar.mark, .int .i64 ld.bar.size, .int .i64 ld.bar.count, .int .i64 ld.bar.code, .slice da dn dc, .slice (some ⟨b, off, none⟩) n lc, .int .i64 (k : Int)] 258) (.cells #[.int .i64 0, .int .i64 0, .int .i64 0, .int .i64 0, .int .i64 0, .int .i64 0] 51))
  go_enter Tryz.func188, Tryz.ntmps188
  go_wp2_with (refine wpList_store_row rfl 51 (.tmp 2) (.tmp 8) rfl (w.heap.size + 1) #[.int .i64 a1, .int .i64 a2, .int .i64 a3, .int .i64 a4, .int .i64 a5, .int .i64 a6] rfl rfl 51 _ K1.out (by kernel_rfl) rfl (by kernel_rfl) ?_)
  refine bodyPost_ret (results_c rfl rfl (setRow_heap _ (w.heap.size + 1) _ _ _ _ K1.out) Tryz.underlying51 rfl (by kernel_rfl)) rfl ?_
  exact ⟨rfl, Below.setRow HW.out (Nat.le_succ _) _⟩
set_option maxHeartbeats 1000000 in
theorem chainsCmp_any (AR : Option Addr) (L : List LaidD) (N c g p q : Nat) (w : World) {B : Nat} (hr : RodsW w B AR L) (hB : B ≤ w.heap.size) (hN : N = L.length) (hg : Blk w g 207 #[.slice AR N c]) (hp : p < N) (hq : q < N) :
    Calls Tryz.prog 242 #[.int .i64 (p : Int), .int .i64 (q : Int), .pointer (some ⟨g, 0, none⟩)] w fun e w' => e = .returned (.int .i64 (cmpI (sizeAt L p) (sizeAt L q))) ∧ Below w.heap.size w w' := by
  obtain ⟨b, off, ld, _, _, _, _, rfl, hbl, hx, _, _, hc⟩ := RodsW.get (k := p) hr (by rw [← hN]; exact hp)
  obtain ⟨b', off', ld', _, _, _, _, hA, hbl', hx', _, _, hc'⟩ := RodsW.get (k := q) hr (by rw [← hN]; exact hq)
  injection hA with hA
  injection hA with hA1 hA2
  subst hA1
  subst hA2
  have c1 := hc 1 _ rfl
  have c2 := hc' 1 _ rfl
  have HC := hide (fun W => compareI_any ld.bar.size ld'.bar.size W)
  have e1 : sizeAt L p = ld.bar.size := by rw [sizeAt, laidAt_get hx]
  have e2 : sizeAt L q = ld'.bar.size := by rw [sizeAt, laidAt_get hx']
  rw [e1, e2]
  generalize cmpI ld.bar.size ld'.bar.size = t at *
  generalize ld.bar.size = s1 at *
  generalize ld'.bar.size = s2 at *
  have lb : b < w.heap.size := Nat.lt_of_lt_of_le hbl hB
  have g0 := hg.cell 0
  simp at g0
  have lg := hg.lt
  have p1 : (p : Int) < (N : Int) := by omega
  have q1 : (q : Int) < (N : Int) := by omega
  have p2 : (0 : Int) ≤ (p : Int) := by omega
  have q2 : (0 : Int) ≤ (q : Int) := by omega
  clear hr hB hN hg hbl hbl' hx hx' hc hc' e1 e2
  go_enter Tryz.func242, Tryz.ntmps242
  go_wp2_with fail
  go_quiet ((go_at_call 243; exact quiet_eq (HC.out _)))
  go_wp2_with fail
  go_ret
  exact ⟨rfl, ⟨rfl, rfl, rfl, Nat.le_refl _, fun _ _ => rfl⟩⟩
end Go.Proofs.YtkmpddaobncheaaGreatDoor
namespace Go.Proofs.YtkmpddaobncheaaGreatDoor
open Go.RowKit

def chMeas (rk : Int → Nat) (kv okv : Value) : Nat := match okv with | .bool true => rk (intOf kv) + 1 | _ => 0
theorem chMeas_less {rk : Int → Nat} {F : Int → Option Int} {z : Int} (h : ∀ y, F z = some y → rk y < rk z) : chMeas rk (.int .i64 ((F z).getD 0)) (.bool (F z).isSome) < chMeas rk (.int .i64 z) (.bool true) := by
  cases hz : F z with
  | none => exact Nat.succ_pos _
  | some y => exact Nat.succ_lt_succ (h y hz)
theorem intLs_row {w : World} {base c : Nat} {A : Option Addr} {acc : List IntsX} (h : Row w base 66 1 encIntsX (.slice A acc.length c) acc) (hb : ∀ q ∈ acc, RowB w 3 q.A (q.l.flatMap encInt)) : IntLs w w.heap.size A (acc.map (·.l)) :=
  SlOf.read_as (·.l) (h.read encIntsX_len (by omega)) (fun q hq => ⟨q.A, q.c, rfl, RowB.sl encInt_len (by omega) (hb q hq)⟩)
set_option maxHeartbeats 4000000 in
set_option maxRecDepth 100000 in
theorem chains_ok (x : DetD) (s : DetS) (w : World) {B : Nat} (h : DetAt w B x s) (hB : B ≤ w.heap.size) (hf : DetFit x s) (hd : detOk x = true) :
    Calls Tryz.prog 279 #[detV x s, .int .i64 ((mainsOf x).length : Int)] w fun e w' => ∃ A c, e = .returned (.slice A (chainsOf x).length c) ∧ IntLs w' w'.heap.size A (chainsOf x) ∧ Below w.heap.size w w' := by
  have H5 := hide (fun (W : World) (hz : Below w.heap.size w W) => SlOf.carry (Flat.carried _) h.h5 (hz.mono hB) (Nat.le_refl B))
  have HBB := hide hB
  have L5 := hide hf.l5
  have hn2 : (mainsOf x).length ≤ 2000 := by rw [mainsOf_len]; exact (laidOk_len (detOk_parts hd).2.1).2
  have h5n : s.n5 ≤ 1000 := by
    rw [hf.l5]
    simp only [detOk, detHead, Bool.and_eq_true, decide_eq_true_eq] at hd
    exact hd.1.2
  have hln := laidOk_len (detOk_parts hd).2.1
  have Hrg := hide (fun j (hj : j ∈ x.laps) => show InInt j.first ∧ InInt j.second by
    have h9 := detOk_lap hd j hj
    unfold InInt
    omega)
  obtain ⟨F, hF⟩ : ∃ F, F = nextF x.laps := ⟨_, rfl⟩
  obtain ⟨N, hN⟩ : ∃ N, N = (mainsOf x).length := ⟨_, rfl⟩
  obtain ⟨rk, hrk⟩ : ∃ rk : Int → Nat, rk = fun i => rankOf (mainsOf x) (loOf (mainsOf x) i) := ⟨_, rfl⟩
  have Hup := hide (fun (i k : Int) (hn : F i = some k) => show 0 ≤ i ∧ i < (N : Int) ∧ 0 ≤ k ∧ k < (N : Int) ∧ rk k < rk i by rw [hrk, hN]; exact next_up hd (by rw [← hF]; exact hn))
  have Hrl := hide (fun i => show rk i ≤ N by rw [hrk, hN]; exact rank_le _ _)
  obtain ⟨CT, hCT⟩ : ∃ CT : Nat → List (List Int), CT = chainsTo x := ⟨_, rfl⟩
  obtain ⟨HD, hHD⟩ : ∃ HD : Nat → Bool, HD = headB x := ⟨_, rfl⟩
  obtain ⟨S, hS⟩ : ∃ S, S = secondsOf x.laps := ⟨_, rfl⟩
  have Hct := hide (fun (k : Nat) => show CT (k + 1) = CT k ++ (if HD k then [(k : Int) :: restF F N (F k)] else []) by rw [hCT, hHD, chainsTo_succ, chainAt, followF_succ, ← hN, ← hF])
  have Hct0 := hide (show CT 0 = [] by rw [hCT]; rfl)
  have Hctl := hide (fun (k : Nat) => show (CT k).length ≤ k by rw [hCT]; exact chainsTo_len x k)
  have Hhd := hide (fun (k : Nat) => show HD k = !S.contains (k : Int) by rw [hHD, hS]; rfl)
  have Hfin := hide (show chainsOf x = CT N by rw [hCT, hN]; rfl)
  obtain ⟨NT, hNT⟩ : ∃ NT : Nat → Int → Option Int, NT = fun k => nextF (x.laps.take k) := ⟨_, rfl⟩
  obtain ⟨ST, hST⟩ : ∃ ST : Nat → List Int, ST = fun k => secondsOf (x.laps.take k) := ⟨_, rfl⟩
  have Hnt := hide (fun (k : Nat) (j : JoinD) (hj : x.laps[k]? = some j) => show NT (k + 1) = setF (NT k) j.first j.second by rw [hNT]; show nextF (x.laps.take (k + 1)) = _; rw [take_snoc' hj, nextF_snoc])
  have Hst := hide (fun (k : Nat) (j : JoinD) (hj : x.laps[k]? = some j) => show ST (k + 1) = j.second :: ST k by rw [hST]; show secondsOf (x.laps.take (k + 1)) = _; rw [take_snoc' hj, secondsOf_snoc])
  have hnt0 : NT 0 = fun _ => none := by rw [hNT]; rfl
  have hst0 : ST 0 = [] := by rw [hST]; rfl
  have Hntn := hide (show NT s.n5 = F by rw [hNT, hF, hf.l5]; show nextF (x.laps.take x.laps.length) = _; rw [List.take_length])
  have Hstn := hide (show ST s.n5 = S by rw [hST, hS, hf.l5]; show secondsOf (x.laps.take x.laps.length) = _; rw [List.take_length])
  rw [← hN] at hn2 ⊢
  rw [Hfin.out]
  have HCX := hide (show (detCells x.mem x.rule s)[8]? = some (.slice s.a5 s.n5 s.c5) from rfl)
  have Hi := hide (show (Tryz.prog.info? 34).map (·.size) = some 19 by kernel_rfl)
  have Hsz := hide (show (detCells x.mem x.rule s).size = 19 from rfl)
  show Calls Tryz.prog 279 #[.agg (detCells x.mem x.rule s), .int .i64 (N : Int)] w _
  generalize detCells x.mem x.rule s = C at *
  obtain ⟨a1, n1, c1, a2, n2, c2, a3, n3, c3, a4, n4, c4, a5, n5, c5, a6, n6, c6⟩ := s
  simp only at H5 L5 HCX Hntn Hstn h5n
  have K0 := hide (Blk.new w 34 C)
  have HW := hide (below_new w (.cells C 34))
  obtain ⟨w1, hw1⟩ : ∃ q, q = w.alloc (.cells C 34) := ⟨_, rfl⟩
  rw [← hw1] at K0 HW
  have x8 := (K0.out.cell 8).trans HCX.out
  have lk0 := K0.out.lt
  clear h hB hf hd hln hF hN hrk hCT hHD hS hNT hST
  go_enter Tryz.func279, Tryz.ntmps279
  go_upto_region 1 with fail
  rw [← hw1]
  clear hw1
  have hN1 := NMap.new w1
  have hB1 := BSet.new (w1.alloc (.map #[] 0))
  rw [size_alloc'] at hB1
  have HN1 := hide (hN1.alloc (.map #[] 0))
  have HB1 := hide hB1
  have Hb1 := hide (below_new2 w1 (.map #[] 0) (.map #[] 0))
  have hmm := @run_makeMap Tryz.prog
  clear hN1 hB1
  go_wp2_with fail
  go_loopw [19] (fun iv wr => ∃ k : Nat, k ≤ n5 ∧ iv = .int .i64 k ∧ (NMap wr w1.heap.size k (NT k) ∧ BSet wr (w1.heap.size + 1) k (ST k)) ∧ Below w1.heap.size w1 wr) (fun iv _ => n5 - (intOf iv).toNat)
  case atStart => exact ⟨0, Nat.zero_le _, rfl, ⟨by rw [hnt0]; exact HN1.out, by rw [hst0]; exact HB1.out⟩, Hb1.out⟩
  case round =>
    clear HN1 HB1 Hb1 hnt0 hst0 x8 lk0 K0
    obtain ⟨k, hk, rfl, ⟨hf, ht⟩, hbr⟩ := hrel
    rename World => wr
    have HWr := hide (below_step HW.out hbr (Nat.le_refl _))
    by_cases hlt : k < n5
    · obtain ⟨b, off, j, rfl, hbl, hx, c0, c1⟩ := JoinsAt.get (k := k) (H5.out _ HWr.out) (by rw [← L5.out]; exact hlt)
      have Hn1 := hide (Hnt.out k j hx)
      have Hs1 := hide (Hst.out k j hx)
      obtain ⟨i1, i2⟩ := Hrg.out j (mem_of_get hx)
      have hbw : b < wr.heap.size := Nat.lt_of_lt_of_le hbl (Nat.le_trans HBB.out HWr.out.size)
      obtain ⟨j1, j2⟩ := j
      simp only at c0 c1 i1 i2 Hn1 Hs1
      have HF := hide (hf.alloc (.cells #[.int .i64 j1, .int .i64 j2] 163))
      have HT := hide (ht.alloc (.cells #[.int .i64 j1, .int .i64 j2] 163))
      have K1 := hide (Blk.new wr 163 #[.int .i64 j1, .int .i64 j2])
      have HR := hide (hbr.alloc hbr.size (.cells #[.int .i64 j1, .int .i64 j2] 163))
      have ltF := hf.lt
      have ltT := ht.lt
      have I1 := hide i1
      have I2 := hide i2
      have hk9 : k ≤ 1000000 := by omega
      clear hx hbl hf ht hbr i1 i2
      have d0 := K1.out.cell 0
      have d1 := K1.out.cell 1
      simp at d0 d1
      have hk1 := K1.out.lt
      go_wp2_with fail
      clear c0 c1
      obtain ⟨w6, run6, h6, hg6⟩ := HF.out.drew.store I1.out I2.out hk9
      have h7 := HT.out.drew.grown hg6 (by omega)
      obtain ⟨w8, run8, h8, hg8⟩ := h7.store I2.out hk9
      have H8 := hide h8
      have H9 := hide (h6.grown hg8 (by omega))
      have hb6 := below_grown (HR.out.drew) hg6 HR.out.size (Nat.le_refl _)
      have hb8 := hide (below_grown hb6 hg8 hb6.size (by omega))
      have d2 := ((K1.out.drew).grown hg6 (by simp; omega)).cell 1
      simp at d2
      have hk6 : wr.heap.size < w6.heap.size := Nat.lt_of_lt_of_le hk1 hg6.size
      clear h6 h7 h8 hg6 hg8 hb6
      go_region
      all_goals
        clear d0
        go_wp2_with fail
        go_roundw
        case rel => exact ⟨k + 1, by omega, by go_num, ⟨by rw [Hn1.out]; exact H9.out, by rw [Hs1.out]; exact H8.out⟩, hb8.out⟩
        case measure => simp [intOf]; omega
    · obtain rfl : k = n5 := by omega
      rw [Hntn.out] at hf
      rw [Hstn.out] at ht
      have HF2 := hide hf
      have HS2 := hide ht
      have hgF := hf.lt
      have hgS := ht.lt
      clear hf ht hbr hlt H5 Hnt Hst Hrg
      go_wp2_with fail
      go_loopw [9, 33] (fun ov iv wo => ∃ k : Nat, k ≤ N ∧ iv = .int .i64 k ∧ (∃ acc : List IntsX, Row wo wr.heap.size 66 1 encIntsX ov acc ∧ Hid (acc.map (·.l) = CT k) ∧ Hid (∀ q ∈ acc, RowB wo 3 q.A (q.l.flatMap encInt))) ∧ Below wr.heap.size wr wo) (fun _ iv _ => N - (intOf iv).toNat)
      case atStart => exact ⟨0, Nat.zero_le _, rfl, ⟨[], Row.nil _ _ _ _ _, hide Hct0.out.symm, hide (fun q h => by cases h)⟩, Below.refl _ _⟩
      case round =>
        obtain ⟨k, hk, rfl, ⟨acc, hrow, hacc, hbs⟩, hbo⟩ := hrel
        obtain ⟨A0, c0, rfl⟩ := hrow.val
        rename World => wo
        have hal : acc.length ≤ 2000 := by
          have h9 := Hctl.out k
          rw [← hacc.out, List.length_map] at h9
          omega
        by_cases hlt : k < N
        · have HFo := hide (HF2.out.below hbo hgF)
          have HSo := hide (HS2.out.below hbo hgS)
          have ik : InInt (k : Int) := by unfold InInt; omega
          have hl1 := HSo.out.look ik
          cases hc : S.contains (k : Int)
          · rw [hc] at hl1
            have Hn := hide (show CT (k + 1) = acc.map (·.l) ++ [(k : Int) :: restF F N (F k)] by rw [Hct.out, Hhd.out, hc, hacc.out]; rfl)
            have hl2 := (HFo.out.alloc (.cells #[.int .i64 (k : Int)] 3)).look ik
            have hgFo := HFo.out.lt
            obtain ⟨full, hfull⟩ : ∃ full, full = (k : Int) :: restF F N (F k) := ⟨_, rfl⟩
            have Hfull := hide hfull
            rw [← hfull] at Hn
            have H0 := hide (show Row (wo.alloc (.cells #[.int .i64 (k : Int)] 3)) wo.heap.size 3 1 encInt (.slice (some ⟨wo.heap.size, 0, none⟩) 1 1) [(k : Int)] from World.ownsRow_lit wo #[.int .i64 (k : Int)] 1 (Nat.le_refl _) (by unfold maxLen; omega) rfl)
            have Hrow := hide hrow
            have Hbo := hide hbo
            have hboz := hbo.size
            clear hfull hrow hbo hc HSo
            go_wp2_with fail
            go_loopw [11, 12, 13] (fun ch kv okv wi => ∃ (o : Option Int) (m : Nat), (kv = .int .i64 (o.getD 0) ∧ okv = .bool o.isSome) ∧ (∃ acc2 : List Int, Row wi wo.heap.size 3 1 encInt ch acc2 ∧ Hid (acc2 ++ restF F m o = full) ∧ acc2.length + m ≤ N + 1) ∧ Hid (∀ z, o = some z → rk z < m ∧ 0 ≤ z ∧ z < (N : Int)) ∧ Below wo.heap.size wo wi) (fun _ kv okv _ => chMeas rk kv okv)
            case atStart => exact ⟨F k, N, ⟨rfl, rfl⟩, ⟨[(k : Int)], H0.out, hide (by rw [Hfull.out]; rfl), by simp; omega⟩, hide (fun z hz => by have h8 := Hup.out k z hz; have h9 := Hrl.out k; exact ⟨by omega, h8.2.2.1, h8.2.2.2.1⟩), below_new _ _⟩
            case round =>
              clear H0 hl1 hl2
              obtain ⟨o, m, ⟨hkv, hokv⟩, ⟨acc2, hrow2, htl, hlm⟩, hro, hbi⟩ := hrel
              obtain ⟨A2, c2, rfl⟩ := hrow2.val
              rename World => wi
              cases o with
              | some z =>
                have hkv : _ = Value.int .i64 z := hkv
                have hokv : _ = Value.bool true := hokv
                subst hkv
                subst hokv
                obtain ⟨hz1, hz2, hz3⟩ := hro.out z rfl
                obtain ⟨m', rfl⟩ : ∃ m', m = m' + 1 := ⟨m - 1, by omega⟩
                have iz : InInt z := by unfold InInt; omega
                have HFi := hide ((HFo.out.below hbi hgFo).alloc (.cells #[.int .i64 z] 3))
                have Hrow2 := hide hrow2
                have hbiz := hbi.size
                have Hbi := hide (hbi.alloc hbiz (.cells #[.int .i64 z] 3))
                have hl9 : acc2.length ≤ 1000000 := by omega
                clear hrow2 hbi
                go_wp2_with (at_builtin; refine wpList_append1 rfl (.tmp 54) (.tmp 56) 66 rfl wo.heap.size 3 (.int .i64 0) 1 8 encInt Tryz.underlying66 (by kernel_rfl) rfl (by omega) encInt_len encInt_one _ acc2 z rfl (Hrow2.out.alloc _) _ rfl (Blk.new wi _ _) hl9 (by omega) (le_alloc hbiz _) ?_; intro A7 c7 w7 hrow7 hb7 _; have HR7 := hide hrow7; have HB7 := hide (Hbi.out.trans hb7); have hl3 := (HFi.out.below hb7 hgFo).look iz; clear hrow7 hb7)
                go_roundw
                case rel => exact ⟨F z, m', ⟨rfl, rfl⟩, ⟨acc2 ++ [z], by simpa using HR7.out, hide (by rw [← htl.out, List.append_assoc]; show acc2 ++ ([z] ++ restF F m' (F z)) = acc2 ++ followF F (m' + 1) z; rw [followF_succ]; rfl), by simp; omega⟩, hide (fun y hy => by have h8 := Hup.out z y hy; exact ⟨by omega, h8.2.2.1, h8.2.2.2.1⟩), HB7.out⟩
                case measure => exact chMeas_less (fun y hy => (Hup.out z y hy).2.2.2.2)
              | none =>
                have hkv : _ = Value.int .i64 0 := hkv
                have hokv : _ = Value.bool false := hokv
                subst hkv
                subst hokv
                have hfin : acc2 = full := by
                  have h9 := htl.out
                  rw [restF, List.append_nil] at h9
                  exact h9
                subst hfin
                have HQ := hide (RowB.of_row hrow2)
                have Hq := hide (fun q hq => (hbs.out q hq).below hbi)
                have Hrow3 := hide (Hrow.out.keep hbi)
                have hbx := below_step Hbo.out hbi (Nat.le_refl _)
                have hbxz := hbx.size
                have Hbx := hide (hbx.alloc hbxz (.cells #[.slice A2 acc2.length c2] 66))
                clear hrow2 hbi hbx
                go_wp2_with (at_builtin; refine wpList_append1 rfl (.tmp 58) (.tmp 60) 232 rfl wr.heap.size 66 (.slice none 0 0) 1 24 encIntsX Tryz.underlying232 (by kernel_rfl) rfl (by omega) encIntsX_len encIntsX_one _ acc ⟨acc2, A2, c2⟩ rfl (Hrow3.out.alloc _) _ rfl (Blk.new wi _ _) (by omega) (by omega) (le_alloc hbxz _) ?_; intro A9 c9 w9 hrow9 hb9 hkeep9)
                go_roundw
                case rel => exact ⟨k + 1, by omega, by go_num, ⟨acc ++ [⟨acc2, A2, c2⟩], by simpa using hrow9, hide (by rw [List.map_append, Hn.out]; rfl), hide (fun q hq => by
                  rcases List.mem_append.1 hq with hq | hq
                  · exact ((Hq.out q hq).alloc _).keep (fun g cs hb => hkeep9 g _ cs (by decide) hb)
                  · rw [List.mem_singleton] at hq
                    subst hq
                    exact (HQ.out.alloc _).keep (fun g cs hb => hkeep9 g _ cs (by decide) hb))⟩, Hbx.out.trans hb9⟩
                case measure => simp [intOf]; omega
          · rw [hc] at hl1
            have Hn := hide (show acc.map (·.l) = CT (k + 1) by rw [Hct.out, Hhd.out, hc, hacc.out]; simp)
            clear hc
            go_wp2_with fail
            go_roundw
            case rel => exact ⟨k + 1, by omega, by go_num, ⟨acc, hrow, Hn, hbs⟩, hbo⟩
            case measure => simp [intOf]; omega
        · obtain rfl : k = N := by omega
          have hl : (CT k).length = acc.length := by rw [← hacc.out, List.length_map]
          have HL := hide (show IntLs wo wo.heap.size A0 (CT k) by rw [← hacc.out]; exact intLs_row hrow hbs.out)
          have HB9 := hide (below_step HWr.out hbo (Nat.le_refl _))
          have Hl := hide hl
          clear hl hrow hacc hbs hbo
          generalize acc.length = na at *
          go_wp2_with fail
          go_ret
          exact ⟨A0, c0, by rw [Hl.out]; rfl, HL.out, HB9.out⟩
set_option maxHeartbeats 1000000 in
theorem lapChains_ok (x : DetD) (s : DetS) (w : World) {B : Nat} (h : DetAt w B x s) (hB : B ≤ w.heap.size) (hf : DetFit x s) (hd : detOk x = true) :
    Calls Tryz.prog 240 #[detV x s] w fun e w' => ∃ A c, e = .returned (.tuple #[.slice A (chainsOf x).length c, .int .i64 0]) ∧ IntLs w' w'.heap.size A (chainsOf x) ∧ Below w.heap.size w w' := by
  have HL := hide (fun (W : World) (hz : Below w.heap.size w W) => show Calls Tryz.prog 50 #[.agg (detCells x.mem x.rule s)] W _ from look_any x s W (h.carry (hz.mono hB) (Nat.le_refl _)) (Nat.le_trans hB hz.size) hf)
  have HC := hide (fun (W : World) (hz : Below w.heap.size w W) => show Calls Tryz.prog 279 #[.agg (detCells x.mem x.rule s), .int .i64 ((mainsOf x).length : Int)] W _ from chains_ok x s W (h.carry (hz.mono hB) (Nat.le_refl _)) (Nat.le_trans hB hz.size) hf hd)
  rw [mainsOf_len] at HC
  have Hd := hide hd
  have K0 := hide (Blk.new w 34 (detCells x.mem x.rule s))
  have HW := hide (below_new w (.cells (detCells x.mem x.rule s) 34))
  have Hi := hide (show (Tryz.prog.info? 34).map (·.size) = some 19 by kernel_rfl)
  have Hsz := hide (show (detCells x.mem x.rule s).size = 19 from rfl)
  show Calls Tryz.prog 240 #[.agg (detCells x.mem x.rule s)] w _
  generalize detCells x.mem x.rule s = C at *
  generalize chainsOf x = CH at *
  clear h hB hf hd
  go_enter Tryz.func240, Tryz.ntmps240
  go_wp2_with (refine wpList_load_row rfl 34 (.tmp 1) rfl w.heap.size rfl 34 _ (0, 0) _ K0.out Tryz.underlying34 rfl (by rw [Hsz.out]; exact Hi.out) ?_)
  refine (HL.out _ HW.out).mono ?_
  rintro e w1 (⟨h9, _⟩ | ⟨_, A, c, rfl, _, hb⟩)
  · rw [Hd.out] at h9
    cases h9
  replace K0 := hide (K0.out.keep hb)
  replace HW := hide (below_step HW.out hb (Nat.le_refl _))
  clear hb HL
  go_wp2_with (refine wpList_load_row rfl 34 (.tmp 1) rfl w.heap.size rfl 34 _ (0, 0) _ K0.out Tryz.underlying34 rfl (by rw [Hsz.out]; exact Hi.out) ?_)
  refine (HC.out _ HW.out).mono ?_
  rintro e w2 ⟨A2, c2, rfl, hl, hb⟩
  replace HW := hide (below_step HW.out hb (Nat.le_refl _))
  have HL2 := hide hl
  clear hb HC hl
  go_wp2_with fail
  go_ret2
  exact ⟨A2, c2, rfl, HL2.out, HW.out⟩
end Go.Proofs.YtkmpddaobncheaaGreatDoor
namespace Go.Proofs.YtkmpddaobncheaaGreatDoor
open Go.RowKit

set_option maxHeartbeats 400000 in
theorem srods1_any (x : BarD) (A : Option Addr) (c : Nat) (m : ByteArray) (g : Nat) (w : World) (h0 : w.cell? ⟨g, 0, none⟩ = some (.string m)) :
    Calls Tryz.prog 277 #[.agg #[.string x.mark, .int .i64 x.size, .int .i64 x.count, .int .i64 x.code, .slice A x.dims.length c], .pointer (some ⟨g, 0, none⟩)] w fun e w' => e = .returned (.bool (markIs m x)) ∧ Below w.heap.size w w' := by
  have hg : g < w.heap.size := World.block_lt_of_cell? w _ h0
  have h1 := fun o => (World.cell?_alloc_lt w o ⟨g, 0, none⟩ hg).trans h0
  go_enter Tryz.func277, Tryz.ntmps277
  go_wp2_with fail
  go_ret
  exact ⟨ret_bool (by rfl), below_new _ _⟩
set_option maxHeartbeats 1000000 in
theorem srods2_any (l : BoxD) (w : World) : Calls Tryz.prog 278 #[bx l] w fun e w' => e = .returned (.bool (alongX l)) ∧ Below w.heap.size w w' := by
  have Hr := hide (show alongX l = (decide (l.lo.1 < l.hi.1) && ((l.lo.2.1 == l.hi.2.1) && (l.lo.2.2 == l.hi.2.2))) from rfl)
  generalize alongX l = t at *
  obtain ⟨⟨a1, a2, a3⟩, a4, a5, a6⟩ := l
  simp only at Hr
  have HW := hide (below_new w (.cells #[.int .i64 a1, .int .i64 a2, .int .i64 a3, .int .i64 a4, .int .i64 a5, .int .i64 a6] 51))
  show Calls Tryz.prog 278 #[.agg #[.int .i64 a1, .int .i64 a2, .int .i64 a3, .int .i64 a4, .int .i64 a5, .int .i64 a6]] w _
  cases q1 : decide (a1 < a4)
  · rw [q1] at Hr
    go_enter Tryz.func278, Tryz.ntmps278
    go_wp2_with fail
    go_ret
    exact ⟨ret_bool (by rw [Hr.out]; rfl), HW.out⟩
  cases q2 : (a2 == a5)
  · rw [q1, q2] at Hr
    go_enter Tryz.func278, Tryz.ntmps278
    go_wp2_with fail
    go_ret
    exact ⟨ret_bool (by rw [Hr.out]; rfl), HW.out⟩
  cases q3 : (a3 == a6)
  · rw [q1, q2, q3] at Hr
    go_enter Tryz.func278, Tryz.ntmps278
    go_wp2_with fail
    go_ret
    exact ⟨ret_bool (by rw [Hr.out]; rfl), HW.out⟩
  · rw [q1, q2, q3] at Hr
    go_enter Tryz.func278, Tryz.ntmps278
    go_wp2_with fail
    go_ret
    exact ⟨ret_bool (by rw [Hr.out]; rfl), HW.out⟩
set_option maxHeartbeats 8000000 in
set_option maxRecDepth 100000 in
theorem srods_ok (x : DetD) (s : DetS) (w : World) {B : Nat} (h : DetAt w B x s) (hB : B ≤ w.heap.size) (hf : DetFit x s) (hok : laidOk x.bars x.runs = true) :
    Calls Tryz.prog 239 #[detV x s] w fun e w' => ∃ A c, e = .returned (.tuple #[.slice A (laidAll x.bars x.runs).length c, .int .i64 0]) ∧ RodsW w' w'.heap.size A (laidAll x.bars x.runs) ∧ Below w.heap.size w w' := by
  have HC := hide (fun (W : World) (hz : Below w.heap.size w W) => laidCount_ok s.a3 x.bars s.n3 s.c3 s.a4 x.runs s.n4 s.c4 W (h.h3.carry (hz.mono hB) (Nat.le_refl _)) (h.h4.carry (Flat.carried _) (hz.mono hB) (Nat.le_refl _)) (Nat.le_trans hB hz.size) hf.l3 hf.l4 hf.m3 hf.m4 hf.tame hok)
  have HM := hide (fun (W : World) (hz : Below w.heap.size w W) (i : Nat) (l : LaidD) (hl : (laidAll x.bars x.runs)[i]? = some l) => laidMark_ok s.a3 x.bars s.n3 s.c3 s.a4 x.runs s.n4 s.c4 W (h.h3.carry (hz.mono hB) (Nat.le_refl _)) (h.h4.carry (Flat.carried _) (hz.mono hB) (Nat.le_refl _)) (Nat.le_trans hB hz.size) hf.l3 hf.l4 hf.m3 hf.m4 hf.tame hok (i : Int) l.bar.mark (by omega) (by have := lt_of_get hl; have := (laidOk_len hok).2; omega) (laidAll_mark x.runs i l (laidOk_mem hok).2.2 hl))
  have HL := hide (fun (W : World) (hz : Below w.heap.size w W) (i : Nat) (l : LaidD) (hl : (laidAll x.bars x.runs)[i]? = some l) => laidLegs_row s.a3 s.a4 x.bars x.runs s.n3 s.c3 s.n4 s.c4 i l W (h.h3.carry (hz.mono hB) (Nat.le_refl _)) (h.h4.carry (Flat.carried _) (hz.mono hB) (Nat.le_refl _)) (Nat.le_trans hB hz.size) hf.l3 hf.l4 hf.m3 hf.m4 hf.tame hok hl)
  have HI := hide (fun (W : World) (hz : Below w.heap.size w W) (g : Nat) (m : ByteArray) (h0 : ∀ W', Below W.heap.size W W' → W'.cell? ⟨g, 0, none⟩ = some (.string m)) => indexFuncBar_any s.a3 x.bars s.n3 s.c3 277 #[.pointer (some ⟨g, 0, none⟩)] (markIs m) W (h.h3.carry (hz.mono hB) (Nat.le_refl _)) (Nat.le_trans hB hz.size) hf.l3 hf.m3 Tryz.call277 (fun y A' c' W' _ hb _ => srods1_any y A' c' m g W' (h0 W' hb)))
  have H3 := hide (fun (W : World) (hz : Below w.heap.size w W) => h.h3.carry (hz.mono hB) (Nat.le_refl B))
  have HBB := hide hB
  have Hrod := hide (fun (ld : LaidD) (hl : ld ∈ laidAll x.bars x.runs) => laid_rod hok hl)
  have L3 := hide hf.l3
  have hn3 : s.n3 ≤ 60000 := hf.m3
  obtain ⟨L, hL⟩ : ∃ L, L = laidAll x.bars x.runs := ⟨_, rfl⟩
  obtain ⟨N, hN⟩ : ∃ N, N = L.length := ⟨_, rfl⟩
  have hcn : countRuns x.runs = (N : Int) := by rw [hN, hL]; exact (laidOk_len hok).1.symm
  rw [hcn] at HC
  have HN := hide hN
  have hN2 : N ≤ 2000 := by rw [hN, hL]; exact (laidOk_len hok).2
  rw [← hL] at HM HL Hrod ⊢
  rw [← hN]
  have HC6 := hide (show (detCells x.mem x.rule s)[6]? = some (.slice s.a3 s.n3 s.c3) ∧ (detCells x.mem x.rule s)[7]? = some (.slice s.a4 s.n4 s.c4) from ⟨rfl, rfl⟩)
  show Calls Tryz.prog 239 #[.agg (detCells x.mem x.rule s)] w _
  generalize detCells x.mem x.rule s = C at *
  obtain ⟨a1, n1, c1, a2, n2, c2, a3, n3, c3, a4, n4, c4, a5, n5, c5, a6, n6, c6⟩ := s
  simp only at HC HM HL HI H3 HC6 L3 hn3
  have K0 := hide (Blk.new w 34 C)
  have HW := hide (below_new w (.cells C 34))
  clear h hB hf hok hL hN hcn
  have e6 := (K0.out.cell 6).trans HC6.out.1
  have e7 := (K0.out.cell 7).trans HC6.out.2
  have lk := K0.out.lt
  go_enter Tryz.func239, Tryz.ntmps239
  go_wp2_with fail
  refine (HC.out _ HW.out).mono ?_
  rintro e w1 ⟨rfl, hb1⟩
  replace K0 := hide (K0.out.keep hb1)
  have HW1 := hide (below_step HW.out hb1 (Nat.le_refl _))
  have hz1 := HW1.out.size
  clear hb1 HC HW e6 e7 lk
  go_wp2_with fail
  go_loopw [6, 23] (fun v iv wr => ∃ k : Nat, k ≤ N ∧ iv = .int .i64 k ∧ (∃ acc : List RodX, Row wr w1.heap.size 258 7 encRodX v acc ∧ Hid (acc.map (·.ld) = L.take k) ∧ Hid (∀ q ∈ acc, RowB wr 51 q.la ((legsOfPts q.ld.pts).flatMap encB) ∧ Ints wr B q.da q.ld.bar.dims)) ∧ Below w1.heap.size w1 wr) (fun _ iv _ => N - (intOf iv).toNat)
  case atStart => exact ⟨0, Nat.zero_le _, rfl, ⟨[], Row.nil _ _ _ _ _, hide rfl, hide (fun q h => by cases h)⟩, Below.refl _ _⟩
  case round =>
    rename World => wr
    obtain ⟨k, hk, rfl, ⟨acc, hrow, hacc, hq⟩, hbr⟩ := hrel
    obtain ⟨A0, c0, rfl⟩ := hrow.val
    have hal : acc.length ≤ 2000 := by
      have h9 := congrArg List.length hacc.out
      rw [List.length_map, List.length_take] at h9
      omega
    have HWr := hide (below_step HW1.out hbr (Nat.le_refl _))
    by_cases hlt : k < N
    · obtain ⟨ld, hld⟩ : ∃ ld, L[k]? = some ld := ⟨_, List.getElem?_eq_getElem (by rw [← HN.out]; exact hlt)⟩
      have Hacc := hide (show (acc.map (·.ld)) ++ [ld] = L.take (k + 1) by rw [take_snoc' hld, hacc.out])
      have HMk := hide (fun (W : World) (hz : Below w.heap.size w W) => HM.out W hz k ld hld)
      have HLk := hide (fun (W : World) (hz : Below w.heap.size w W) => HL.out W hz k ld hld)
      have hro := Hrod.out ld (mem_of_get hld)
      obtain ⟨j, hj1, hj2⟩ := hro.line
      have hjn : j < n3 := by rw [L3.out]; exact lt_of_get hj2
      have hfew := hro.few
      have HIk := hide (fun (W : World) (hz : Below w.heap.size w W) (g : Nat) (h0 : ∀ W', Below W.heap.size W W' → W'.cell? ⟨g, 0, none⟩ = some (.string ld.bar.mark)) => by
        have h9 := HI.out W hz g ld.bar.mark h0
        rw [hj1] at h9
        exact h9)
      have HJ := hide (And.intro hj2 hro.boxes)
      have HM1 := hide (show rodMain ld = idx alongX (legsOfPts ld.pts) from rfl)
      have Hrow := hide hrow
      have Hq := hide hq.out
      have Hbr := hide hbr
      replace K0 := hide (K0.out.below hbr K0.out.lt)
      have e6 := (K0.out.cell 6).trans HC6.out.1
      have e7 := (K0.out.cell 7).trans HC6.out.2
      have lk := K0.out.lt
      clear hld hro hj1 hj2 hrow hq hbr
      go_wp2_with fail
      refine (HMk.out _ HWr.out).mono ?_
      rintro e wA ⟨rfl, hb2⟩
      have HX := hide hb2
      have hzA := hb2.size
      clear hb2 HMk e6 e7 lk
      have KM := hide ((Blk.new wA 9 #[.string ld.bar.mark]).alloc (.cells #[.string ⟨#[]⟩, .int .i64 0, .int .i64 0, .int .i64 0, .slice none 0 0, .slice none 0 0, .int .i64 0] 258))
      have KR := hide (Blk.new1 wA (.cells #[.string ld.bar.mark] 9) 258 #[.string ⟨#[]⟩, .int .i64 0, .int .i64 0, .int .i64 0, .slice none 0 0, .slice none 0 0, .int .i64 0])
      replace HX := hide ((HX.out.alloc hzA (.cells #[.string ld.bar.mark] 9)).alloc (le_alloc hzA _) (.cells #[.string ⟨#[]⟩, .int .i64 0, .int .i64 0, .int .i64 0, .slice none 0 0, .slice none 0 0, .int .i64 0] 258))
      obtain ⟨gm, hgm⟩ : ∃ q, q = wA.heap.size := ⟨_, rfl⟩
      obtain ⟨wB, hwB⟩ : ∃ q, q = (wA.alloc (.cells #[.string ld.bar.mark] 9)).alloc (.cells #[.string ⟨#[]⟩, .int .i64 0, .int .i64 0, .int .i64 0, .slice none 0 0, .slice none 0 0, .int .i64 0] 258) := ⟨_, rfl⟩
      rw [← hwB, ← hgm] at KM KR
      rw [← hwB] at HX
      rw [← hgm] at hzA
      go_upto_region 12 with fail
      rw [← hwB, ← hgm]
      clear hwB hgm
      have kb := K0.out.keep HX.out
      have e6 := (kb.cell 6).trans HC6.out.1
      have e7 := (kb.cell 7).trans HC6.out.2
      have lk := kb.lt
      clear kb
      go_wp2_with fail
      refine (HLk.out _ (below_step HWr.out HX.out (Nat.le_refl _))).mono ?_
      rintro e wC ⟨A6, c6', rfl, hlg, hb3⟩
      have Hlg := hide (RowB.of_row hlg)
      replace KM := hide (KM.out.keep hb3)
      replace KR := hide (KR.out.keep hb3)
      replace HX := hide (below_step HX.out hb3 (Nat.le_refl _))
      clear hb3 hlg HLk e6 e7 lk
      have z5 := KR.out.frozen 5
      have y5 := KR.out.cell 5
      simp at y5
      have lr := KR.out.lt
      go_upto_region 15 with fail
      clear z5 y5
      generalize hll : (legsOfPts ld.pts).length = ll at *
      have Hll := hide hll
      clear hll
      have kr := KR.out.set_ 5 (.slice A6 ll c6')
      simp only [List.setIfInBounds_toArray, List.set_cons_zero, List.set_cons_succ] at kr
      have hlg2 := RowB.set Hlg.out KR.out (by decide) 5 (.slice A6 ll c6')
      have km := KM.out.far (p := ⟨gm + 1, 5, none⟩) (show gm ≠ gm + 1 by omega) (.slice A6 ll c6')
      have hx := HX.out.setCell (p := ⟨gm + 1, 5, none⟩) (show wr.heap.size ≤ gm + 1 by omega) (.slice A6 ll c6')
      generalize World.setCell wC ⟨gm + 1, 5, none⟩ (.slice A6 ll c6') = wD at *
      replace KR := hide kr.drew
      replace KM := hide km.drew
      replace Hlg := hide (hlg2.keep (fun _ _ q => q.drew))
      replace HX := hide (Below.drew hx)
      clear kr km hlg2 hx lr
      have kd := K0.out.keep HX.out
      have HS := hide (And.intro kd (And.intro KM.out (And.intro KR.out (below_step HWr.out HX.out (Nat.le_refl _)))))
      have Hbar := hide (fun (V : World) (hv : Below w.heap.size w V) => BarsAt.get (k := j) (H3.out V hv) (by rw [← L3.out]; exact hjn))
      obtain ⟨b, off, y, dA, dc, rfl, hbl, hy, hyd, h0, h1, h2, h3, h4⟩ := Hbar.out w (Below.refl _ _)
      obtain rfl : y = ld.bar := by rw [HJ.out.1] at hy; injection hy with hy; exact hy.symm
      have HP := hide (fun (V : World) (hv : Below w.heap.size w V) => show V.cell? ⟨b, off + j * 5, none⟩ = some (.string ld.bar.mark) ∧ V.cell? ⟨b, off + j * 5 + 1, none⟩ = some (.int .i64 ld.bar.size) ∧ V.cell? ⟨b, off + j * 5 + 2, none⟩ = some (.int .i64 ld.bar.count) ∧ V.cell? ⟨b, off + j * 5 + 3, none⟩ = some (.int .i64 ld.bar.code) ∧ V.cell? ⟨b, off + j * 5 + 4, none⟩ = some (.slice dA ld.bar.dims.length dc) from
        ⟨(hv.cell (p := ⟨b, _, none⟩) (Nat.lt_of_lt_of_le hbl HBB.out)).trans h0, (hv.cell (p := ⟨b, _, none⟩) (Nat.lt_of_lt_of_le hbl HBB.out)).trans h1, (hv.cell (p := ⟨b, _, none⟩) (Nat.lt_of_lt_of_le hbl HBB.out)).trans h2, (hv.cell (p := ⟨b, _, none⟩) (Nat.lt_of_lt_of_le hbl HBB.out)).trans h3, (hv.cell (p := ⟨b, _, none⟩) (Nat.lt_of_lt_of_le hbl HBB.out)).trans h4⟩)
      have HD := hide (fun (V : World) (hv : Below w.heap.size w V) => Ints.carry hyd (hv.mono HBB.out) (Nat.le_refl B))
      clear Hbar hy hyd h0 h1 h2 h3 h4 hbl kd KM KR
      refine wp_region_heldTo (S := fun V => Blk V w.heap.size 34 C ∧ Blk V gm 9 #[.string ld.bar.mark] ∧ Blk V (gm + 1) 258 #[.string ⟨#[]⟩, .int .i64 0, .int .i64 0, .int .i64 0, .slice none 0 0, .slice A6 ll c6', .int .i64 0] ∧ Below w.heap.size w V) (n := 9) (by kernel_rfl) ?_
      generalize wD.drew = wd at *
      refine HeldTo.take (i := 0) (v := ?_) rfl (by kernel_rfl) (by kernel_rfl) (by kernel_rfl) (by kernel_rfl) (fun _ _ _ h => h) (Or.inl ⟨by rfl, ?_⟩) HS.out ?_
      rotate_left
      · intro V hSw
        (try dsimp only at hSw)
        skip
        go_simp
        first | done | with_reducible rfl
      (try simp only [List.getElem_toArray, List.getElem_cons_zero, Act.put, List.setIfInBounds_toArray, List.set_cons_zero, List.set_cons_succ])
      refine HeldTo.take (i := 1) (v := ?_) rfl (by kernel_rfl) (by kernel_rfl) (by kernel_rfl) (by kernel_rfl) (fun _ _ _ h => h) (Or.inl ⟨by rfl, ?_⟩) HS.out ?_
      rotate_left
      · intro V hSw
        (try dsimp only at hSw)
        have q6 := (hSw.1.cell 6).trans HC6.out.1; have lq := hSw.1.lt
        go_simp
        first | done | with_reducible rfl
      (try simp only [List.getElem_toArray, List.getElem_cons_succ, List.getElem_cons_zero, Act.put, List.setIfInBounds_toArray, List.set_cons_zero, List.set_cons_succ])
      refine HeldTo.take (i := 2) (v := ?_) rfl (by kernel_rfl) (by kernel_rfl) (by kernel_rfl) (by kernel_rfl) (fun _ _ _ h => h) (Or.inl ⟨by rfl, ?_⟩) HS.out ?_
      rotate_left
      · intro V hSw
        (try dsimp only at hSw)
        skip
        go_simp
        first | done | with_reducible rfl
      (try simp only [List.getElem_toArray, List.getElem_cons_succ, List.getElem_cons_zero, Act.put, List.setIfInBounds_toArray, List.set_cons_zero, List.set_cons_succ])
      refine HeldTo.take (i := 3) (v := ?_) rfl (by kernel_rfl) (by kernel_rfl) (by kernel_rfl) (by kernel_rfl) (fun _ _ _ h => h) (Or.inl ⟨by rfl, ?_⟩) HS.out ?_
      rotate_left
      · intro V hSw
        (try dsimp only at hSw)
        have q6 := (hSw.1.cell 6).trans HC6.out.1; have lq := hSw.1.lt
        go_simp
        first | done | with_reducible rfl
      (try simp only [List.getElem_toArray, List.getElem_cons_succ, List.getElem_cons_zero, Act.put, List.setIfInBounds_toArray, List.set_cons_zero, List.set_cons_succ])
      refine HeldTo.take (i := 4) (v := ?_) rfl (by kernel_rfl) (by kernel_rfl) (by kernel_rfl) (by kernel_rfl) (fun _ _ _ h => h) (Or.inl ⟨by rfl, ?_⟩) HS.out ?_
      rotate_left
      · intro V hSw
        (try dsimp only at hSw)
        skip
        go_simp
        first | done | with_reducible rfl
      (try simp only [List.getElem_toArray, List.getElem_cons_succ, List.getElem_cons_zero, Act.put, List.setIfInBounds_toArray, List.set_cons_zero, List.set_cons_succ])
      refine HeldTo.one (i := 5) (by kernel_rfl) rfl (fun K hK => ?_)
      go_simp
      refine (HIk.out wd HS.out.2.2.2 gm (fun W' hb => by have h9 := (HS.out.2.1.keep hb).cell 0; simpa using h9)).mono ?_
      rintro e we ⟨rfl, hb7⟩
      go_wp2_with fail
      replace HS := hide (And.intro (HS.out.1.keep hb7) (And.intro (HS.out.2.1.keep hb7) (And.intro (HS.out.2.2.1.keep hb7) (below_step HS.out.2.2.2 hb7 (Nat.le_refl _)))))
      replace HX := hide (below_step HX.out hb7 (Nat.le_refl _))
      replace Hlg := hide (Hlg.out.below hb7)
      refine hK.out _ _ (fun _ => HS.out) (fun h8 => ?_)
      clear h8 hK K hb7 HIk
      (try simp only [List.getElem_toArray, List.getElem_cons_succ, List.getElem_cons_zero, Act.put, List.setIfInBounds_toArray, List.set_cons_zero, List.set_cons_succ])
      refine HeldTo.take (i := 6) (v := ?_) rfl (by kernel_rfl) (by kernel_rfl) (by kernel_rfl) (by kernel_rfl) (fun _ _ _ h => h) (Or.inl ⟨by rfl, ?_⟩) HS.out ?_
      rotate_left
      · intro V hSw
        (try dsimp only at hSw)
        skip
        go_simp
        first | done | with_reducible rfl
      (try simp only [List.getElem_toArray, List.getElem_cons_succ, List.getElem_cons_zero, Act.put, List.setIfInBounds_toArray, List.set_cons_zero, List.set_cons_succ])
      refine HeldTo.take (i := 7) (v := ?_) rfl (by kernel_rfl) (by kernel_rfl) (by kernel_rfl) (by kernel_rfl) (fun _ _ _ h => h) (Or.inl ⟨by rfl, ?_⟩) HS.out ?_
      rotate_left
      · intro V hSw
        (try dsimp only at hSw)
        obtain ⟨q0, q1, q2, q3, q4⟩ := HP.out V hSw.2.2.2
        go_simp
        first | done | with_reducible rfl
      (try simp only [List.getElem_toArray, List.getElem_cons_succ, List.getElem_cons_zero, Act.put, List.setIfInBounds_toArray, List.set_cons_zero, List.set_cons_succ])
      refine HeldTo.take (i := 8) (v := ?_) rfl (by kernel_rfl) (by kernel_rfl) (by kernel_rfl) (by kernel_rfl) (fun _ _ _ h => h) (Or.inl ⟨by rfl, ?_⟩) HS.out ?_
      rotate_left
      · intro V hSw
        (try dsimp only at hSw)
        skip
        go_simp
        first | done | with_reducible rfl
      (try simp only [List.getElem_toArray, List.getElem_cons_succ, List.getElem_cons_zero, Act.put, List.setIfInBounds_toArray, List.set_cons_zero, List.set_cons_succ])
      have z0 := HS.out.2.2.1.frozen 0
      have z1 := HS.out.2.2.1.frozen 1
      have z2 := HS.out.2.2.1.frozen 2
      have z3 := HS.out.2.2.1.frozen 3
      have z4 := HS.out.2.2.1.frozen 4
      have y0 := HS.out.2.2.1.cell 0
      have y1 := HS.out.2.2.1.cell 1
      have y2 := HS.out.2.2.1.cell 2
      have y3 := HS.out.2.2.1.cell 3
      have y4 := HS.out.2.2.1.cell 4
      simp at y0 y1 y2 y3 y4
      have lr := HS.out.2.2.1.lt
      refine HeldTo.one (i := 9) (by kernel_rfl) rfl (fun K hK => ?_)
      go_simp
      have hne : ∀ (g : Nat) (cs : Array Value), Blk we g 51 cs → g ≠ gm + 1 := fun g cs hb => blk_ne hb HS.out.2.2.1 (by decide)
      have kr := ((((HS.out.2.2.1.set_ 0 (.string ld.bar.mark)).set_ 1 (.int .i64 ld.bar.size)).set_ 2 (.int .i64 ld.bar.count)).set_ 3 (.int .i64 ld.bar.code)).set_ 4 (.slice dA ld.bar.dims.length dc)
      simp only [List.setIfInBounds_toArray, List.set_cons_zero, List.set_cons_succ] at kr
      have hx := ((((HX.out.setCell (p := ⟨gm + 1, 0, none⟩) (show wr.heap.size ≤ gm + 1 by omega) (.string ld.bar.mark)).setCell (p := ⟨gm + 1, 1, none⟩) (show wr.heap.size ≤ gm + 1 by omega) (.int .i64 ld.bar.size)).setCell (p := ⟨gm + 1, 2, none⟩) (show wr.heap.size ≤ gm + 1 by omega) (.int .i64 ld.bar.count)).setCell (p := ⟨gm + 1, 3, none⟩) (show wr.heap.size ≤ gm + 1 by omega) (.int .i64 ld.bar.code)).setCell (p := ⟨gm + 1, 4, none⟩) (show wr.heap.size ≤ gm + 1 by omega) (.slice dA ld.bar.dims.length dc)
      have hlg := Hlg.out.keep (fun g cs hb => ((((hb.far (p := ⟨gm + 1, 0, none⟩) (hne g cs hb) (.string ld.bar.mark)).far (p := ⟨gm + 1, 1, none⟩) (hne g cs hb) (.int .i64 ld.bar.size)).far (p := ⟨gm + 1, 2, none⟩) (hne g cs hb) (.int .i64 ld.bar.count)).far (p := ⟨gm + 1, 3, none⟩) (hne g cs hb) (.int .i64 ld.bar.code)).far (p := ⟨gm + 1, 4, none⟩) (hne g cs hb) (.slice dA ld.bar.dims.length dc))
      obtain ⟨wF, hwF⟩ : ∃ q, q = ((((we.setCell ⟨gm + 1, 0, none⟩ (.string ld.bar.mark)).setCell ⟨gm + 1, 1, none⟩ (.int .i64 ld.bar.size)).setCell ⟨gm + 1, 2, none⟩ (.int .i64 ld.bar.count)).setCell ⟨gm + 1, 3, none⟩ (.int .i64 ld.bar.code)).setCell ⟨gm + 1, 4, none⟩ (.slice dA ld.bar.dims.length dc) := ⟨_, rfl⟩
      rw [← hwF] at kr hx hlg
      refine hK.out _ _ (fun h9 => absurd h9 (by omega)) (fun h8 => HeldTo.done (by kernel_rfl) ?_ _)
      rw [← hwF]
      clear h8 hK K hwF hne z0 z1 z2 z3 z4 y0 y1 y2 y3 y4 lr HS HP
      have KR := hide kr
      replace HX := hide hx
      replace Hlg := hide hlg
      have HIf := hide (indexFuncBox_any A6 (legsOfPts ld.pts) ll c6' 278 alongX wF (RowB.sl encB_len (by omega) Hlg.out) (Nat.le_refl _) Hll.out.symm (by omega) Tryz.call278 (fun y W' _ => srods2_any y W'))
      have y5 := KR.out.cell 5
      simp at y5
      have lr := KR.out.lt
      clear kr hx hlg
      go_wp2_with fail
      refine HIf.out.mono ?_
      rintro e wG ⟨rfl, hb⟩
      rw [← HM1.out]
      replace KR := hide (KR.out.keep hb)
      replace HX := hide (below_step HX.out hb (Nat.le_refl _))
      replace Hlg := hide (Hlg.out.below hb)
      clear hb HIf y5 lr
      have y6 := KR.out.cell 6
      have z6 := KR.out.frozen 6
      simp at y6
      have lr := KR.out.lt
      go_upto_region 17 with fail
      clear y6 z6 lr
      have kr := KR.out.set_ 6 (.int .i64 (rodMain ld))
      simp only [List.setIfInBounds_toArray, List.set_cons_zero, List.set_cons_succ] at kr
      have hlg2 := RowB.set Hlg.out KR.out (by decide) 6 (.int .i64 (rodMain ld))
      have hx := HX.out.setCell (p := ⟨gm + 1, 6, none⟩) (show wr.heap.size ≤ gm + 1 by omega) (.int .i64 (rodMain ld))
      generalize World.setCell wG ⟨gm + 1, 6, none⟩ (.int .i64 (rodMain ld)) = wH at *
      have Hrow9 := hide (Hrow.out.keep hx)
      have Hq9 := hide (fun q hq => And.intro ((Hq.out q hq).1.below hx) (Ints.carry (Hq.out q hq).2 (hx.mono (Nat.le_trans HBB.out HWr.out.size)) (Nat.le_refl B)))
      have HD9 := HD.out wH (below_step HWr.out hx (Nat.le_refl _))
      have hx2 := Hbr.out.trans (hx.mono Hbr.out.size)
      have hxz := hx2.size
      have HY := hide (show encRodX ⟨ld, dA, dc, A6, c6'⟩ = [.string ld.bar.mark, .int .i64 ld.bar.size, .int .i64 ld.bar.count, .int .i64 ld.bar.code, .slice dA ld.bar.dims.length dc, .slice A6 ll c6', .int .i64 (rodMain ld)] by rw [encRodX, encRod7, Hll.out])
      have KN := hide (show Blk (wH.alloc (.cells #[.string ld.bar.mark, .int .i64 ld.bar.size, .int .i64 ld.bar.count, .int .i64 ld.bar.code, .slice dA ld.bar.dims.length dc, .slice A6 ll c6', .int .i64 (rodMain ld)] 258)) wH.heap.size 258 (encRodX ⟨ld, dA, dc, A6, c6'⟩).toArray by rw [HY.out]; exact Blk.new wH _ _)
      have hbz1 : B ≤ w1.heap.size := Nat.le_trans HBB.out hz1
      go_wp2_with (first
        | (refine wpList_load_row_g (by rfl) 258 (.tmp 10) rfl (gm + 1) rfl 258 _ (0, 0) _ kr Tryz.underlying258 rfl (by kernel_rfl) ?_)
        | (at_builtin; refine wpList_append1 rfl (.tmp 65) (.tmp 67) 207 rfl w1.heap.size 258 (.agg #[.string ⟨#[]⟩, .int .i64 0, .int .i64 0, .int .i64 0, .slice none 0 0, .slice none 0 0, .int .i64 0]) 7 96 encRodX Tryz.underlying207 (by kernel_rfl) rfl (by omega) encRodX_len encRodX_one _ acc ⟨ld, dA, dc, A6, c6'⟩ rfl (Hrow9.out.alloc _) _ rfl KN.out (by omega) (by omega) (le_alloc hxz _) ?_; intro A9 c9 w9 hrow9 hb9 hkeep9))
      go_roundw
      case rel => exact ⟨k + 1, by omega, by go_num, ⟨acc ++ [⟨ld, dA, dc, A6, c6'⟩], by simpa using hrow9, hide (by rw [List.map_append]; exact Hacc.out), hide (fun q hq => by
        rcases List.mem_append.1 hq with hq | hq
        · exact ⟨((Hq9.out q hq).1.alloc _).keep (fun g cs hb => hkeep9 g _ cs (by decide) hb), Ints.carry (Ints.carry (Hq9.out q hq).2 ((below_new wH _).mono (Nat.le_trans hbz1 hxz)) (Nat.le_refl _)) (hb9.mono hbz1) (Nat.le_refl _)⟩
        · rw [List.mem_singleton] at hq
          subst hq
          exact ⟨(hlg2.alloc _).keep (fun g cs hb => hkeep9 g _ cs (by decide) hb), Ints.carry (Ints.carry HD9 ((below_new wH _).mono (Nat.le_trans hbz1 hxz)) (Nat.le_refl _)) (hb9.mono hbz1) (Nat.le_refl _)⟩)⟩, (hx2.alloc hxz _).trans hb9⟩
      case measure => simp [intOf]; omega
    · obtain rfl : k = N := by omega
      have hfull : acc.map (·.ld) = L := by rw [hacc.out, HN.out, List.take_length]
      have hlen : k = acc.length := by rw [HN.out, ← hfull, List.length_map]
      have HRo := hide (show RodsW wr wr.heap.size A0 L by rw [← hfull]; exact rodsW_row hrow (Nat.le_trans HBB.out HWr.out.size) hq.out)
      have Hlen := hide hlen
      clear hacc hrow hq hbr hfull hlen
      generalize acc.length = na at *
      go_wp2_with fail
      go_ret2
      exact ⟨A0, c0, by rw [Hlen.out]; rfl, HRo.out, HWr.out⟩
end Go.Proofs.YtkmpddaobncheaaGreatDoor
namespace Go.Proofs.YtkmpddaobncheaaGreatDoor
open Go.RowKit

theorem getLast_at {c : List Int} (h : 0 < c.length) : c[c.length - 1]? = some (c.getLastD 0) := by
  cases c with
  | nil => simp at h
  | cons a r => rw [List.getLastD_cons, ← List.getLast?_eq_getElem?]; simp [List.getLast?_cons]
theorem head_at {c : List Int} (h : 0 < c.length) : c[0]? = some (c.headD 0) := by
  cases c with
  | nil => simp at h
  | cons a r => rfl
theorem chnsW_row {w : World} {base c B : Nat} {A : Option Addr} {acc : List ChnX} (h : Row w base 212 5 encChnX (.slice A acc.length c) acc) (hB : B ≤ w.heap.size) (hb : ∀ q ∈ acc, Ints w B q.A q.ch.bars) : ChnsW w w.heap.size A (acc.map (·.ch)) :=
  SlOf.read_as (·.ch) (h.read encChnX_len (by omega)) (fun q hq => ⟨q.A, q.c, rfl, (hb q hq).carry (Below.refl _ _) hB⟩)
theorem boxLo (a b c d e f : Int) (w : World) : (Instr.field 51 (.agg #[.int .i64 a, .int .i64 b, .int .i64 c, .int .i64 d, .int .i64 e, .int .i64 f]) 0).run Tryz.prog w = .ok (.agg #[.int .i64 a, .int .i64 b, .int .i64 c]) w := by kernel_rfl
theorem boxHi (a b c d e f : Int) (w : World) : (Instr.field 51 (.agg #[.int .i64 a, .int .i64 b, .int .i64 c, .int .i64 d, .int .i64 e, .int .i64 f]) 1).run Tryz.prog w = .ok (.agg #[.int .i64 d, .int .i64 e, .int .i64 f]) w := by kernel_rfl
theorem ptX (a b c : Int) (w : World) : (Instr.field 49 (.agg #[.int .i64 a, .int .i64 b, .int .i64 c]) 0).run Tryz.prog w = .ok (.int .i64 a) w := by kernel_rfl
set_option maxHeartbeats 8000000 in
set_option maxRecDepth 100000 in
theorem schains_ok (x : DetD) (s : DetS) (w : World) {B : Nat} (h : DetAt w B x s) (hB : B ≤ w.heap.size) (hf : DetFit x s) (hd : detOk x = true) :
    Calls Tryz.prog 185 #[detV x s] w fun e w' => ∃ A c A2 c2, e = .returned (.tuple #[.slice A (laidAll x.bars x.runs).length c, .slice A2 (chnsOf x).length c2, .int .i64 0]) ∧ RodsW w' w'.heap.size A (laidAll x.bars x.runs) ∧ ChnsW w' w'.heap.size A2 (chnsOf x) ∧ Below w.heap.size w w' := by
  have hok := (detOk_parts hd).2.1
  have hrule : ruleOk x.rule = true := by
    simp only [detOk, detHead, Bool.and_eq_true] at hd
    exact hd.1.1.2
  have hmem : memOk x.mem = true := by
    simp only [detOk, detHead, Bool.and_eq_true] at hd
    exact hd.1.1.1.1.1
  have HV := hide (fun (W : World) (hz : Below w.heap.size w W) => show Calls Tryz.prog 24 #[.agg (detCells x.mem x.rule s)] W _ from lapValid_any x s W (h.carry (hz.mono hB) (Nat.le_refl _)) (Nat.le_trans hB hz.size) hf)
  rw [hd] at HV
  have HR := hide (fun (W : World) (hz : Below w.heap.size w W) => show Calls Tryz.prog 239 #[.agg (detCells x.mem x.rule s)] W _ from srods_ok x s W (h.carry (hz.mono hB) (Nat.le_refl _)) (Nat.le_trans hB hz.size) hf hok)
  have HC := hide (fun (W : World) (hz : Below w.heap.size w W) => show Calls Tryz.prog 240 #[.agg (detCells x.mem x.rule s)] W _ from lapChains_ok x s W (h.carry (hz.mono hB) (Nat.le_refl _)) (Nat.le_trans hB hz.size) hf hd)
  have HE := hide (fun (ld : LaidD) (hl : ld ∈ laidAll x.bars x.runs) (W : World) (B2 : Nat) (hz : Below w.heap.size w W) (hB2 : B2 ≤ W.heap.size) (hBB : B ≤ B2) (da : Option Addr) (dc : Nat) (la : Option Addr) (lc : Nat) (hi : Ints W B2 da ld.bar.dims) (hb : BoxesAt W B2 la (legsOfPts ld.pts)) =>
    ends_ok x.rule x.mem ld.bar (legsOfPts ld.pts) s.a1 s.a2 da la s.n1 s.n2 s.c1 s.c2 dc lc W (h.h1.carry (Flat.carried _) (hz.mono hB) hBB) (h.h2.carry (Flat.carried _) (hz.mono hB) hBB) hi hb hB2 hf.l1 hf.l2 hf.name
      (hf.tame _ (by obtain ⟨j, _, hj⟩ := (laid_rod hok hl).line; exact mem_of_get hj)).1 (hf.tame _ (by obtain ⟨j, _, hj⟩ := (laid_rod hok hl).line; exact mem_of_get hj)).2 (Nat.le_trans (laid_rod hok hl).few (by decide)) hrule hmem (laid_rod hok hl).bar (laid_rod hok hl).boxes (laid_rod hok hl).lens)
  have Hrod := hide (fun (ld : LaidD) (hl : ld ∈ laidAll x.bars x.runs) => laid_rod hok hl)
  have Hrng := hide (fun (ld : LaidD) (hl : ld ∈ laidAll x.bars x.runs) (h0 : 0 ≤ rodMain ld) => ends_rng hrule (laid_rod hok hl) h0)
  have Hrm := hide (fun (ld : LaidD) (hl : ld ∈ laidAll x.bars x.runs) (h0 : 0 ≤ rodMain ld) => ends_main (m := x.mem) hrule (endSize (laid_rod hok hl).bar) h0)
  have Hch := hide (fun (c : List Int) (hc : c ∈ chainsOf x) => chainsOf_mem hd hc)
  have hN2 : (laidAll x.bars x.runs).length ≤ 2000 := (laidOk_len hok).2
  have hM2 : (chainsOf x).length ≤ (mainsOf x).length := chainsTo_len x _
  rw [mainsOf_len] at hM2
  obtain ⟨L, hL⟩ : ∃ L, L = laidAll x.bars x.runs := ⟨_, rfl⟩
  obtain ⟨CC, hCC⟩ : ∃ CC, CC = chainsOf x := ⟨_, rfl⟩
  obtain ⟨N, hN⟩ : ∃ N, N = L.length := ⟨_, rfl⟩
  obtain ⟨M, hM⟩ : ∃ M, M = CC.length := ⟨_, rfl⟩
  have HCn := hide (show chnsOf x = CC.map (chnOf x L) by rw [hCC, hL]; rfl)
  rw [← hL] at HR HE Hrod Hrng Hrm hN2 hM2 ⊢
  rw [← hCC] at HC Hch hM2
  rw [← hN] at HR hN2 hM2 ⊢
  rw [← hM] at HC hM2
  have Hch2 := hide (fun (c : List Int) (hc : c ∈ CC) => show 0 < c.length ∧ c.length ≤ 2001 ∧ ∀ z ∈ c, ∃ p : Nat, z = p ∧ p < N by
    obtain ⟨h1, h2, h3⟩ := Hch.out c hc
    rw [mainsOf_len, ← hL, ← hN] at h2 h3
    refine ⟨h1, by omega, fun z hz => ⟨z.toNat, ?_, ?_⟩⟩
    · have := h3 z hz; omega
    · have := h3 z hz; omega)
  have HNe := hide hN
  have HMe := hide hM
  rw [HCn.out]
  have HMl := hide (show (CC.map (chnOf x L)).length = M by rw [List.length_map, hM])
  have HCX := hide (fun (k : Nat) (v : Value) (h9 : ([.string x.mem.name, .slice s.a1 s.n1 s.c1, .slice s.a2 s.n2 s.c2, .int .i64 x.mem.cover, .int .i64 x.mem.aggregate, .int .i64 x.mem.poker, .slice s.a3 s.n3 s.c3, .slice s.a4 s.n4 s.c4, .slice s.a5 s.n5 s.c5, .slice s.a6 s.n6 s.c6, .int .i64 x.rule.num, .int .i64 x.rule.den, .int .i64 x.rule.poorNum, .int .i64 x.rule.poorDen, .int .i64 x.rule.bendNum, .int .i64 x.rule.bendDen, .int .i64 x.rule.lapNum, .int .i64 x.rule.lapDen, .int .i64 x.rule.least] : List Value)[k]? = some v) => show (detCells x.mem x.rule s)[k]? = some v by simpa using h9)
  have K0 := hide (Blk.new w 34 (detCells x.mem x.rule s))
  have HW := hide (below_new w (.cells (detCells x.mem x.rule s) 34))
  have Hi := hide (show (Tryz.prog.info? 34).map (·.size) = some 19 by kernel_rfl)
  have Hsz := hide (show (detCells x.mem x.rule s).size = 19 from rfl)
  have HBB := hide hB
  show Calls Tryz.prog 185 #[.agg (detCells x.mem x.rule s)] w _
  generalize detCells x.mem x.rule s = C at *
  clear h hB hf hd hok hrule hmem hL hCC hN hM Hch
  obtain ⟨a1, n1, c1, a2, n2, c2, a3, n3, c3, a4, n4, c4, a5, n5, c5, a6, n6, c6⟩ := s
  simp only at HE HCX
  go_enter Tryz.func185, Tryz.ntmps185
  go_wp2_with (refine wpList_load_row rfl 34 (.tmp 1) rfl w.heap.size rfl 34 _ (0, 0) _ K0.out Tryz.underlying34 rfl (by rw [Hsz.out]; exact Hi.out) ?_)
  refine (HV.out _ HW.out).mono ?_
  rintro e w1 ⟨rfl, hb⟩
  replace K0 := hide (K0.out.keep hb)
  replace HW := hide (below_step HW.out hb (Nat.le_refl _))
  clear hb HV
  go_wp2_with (refine wpList_load_row rfl 34 (.tmp 1) rfl w.heap.size rfl 34 _ (0, 0) _ K0.out Tryz.underlying34 rfl (by rw [Hsz.out]; exact Hi.out) ?_)
  refine (HR.out _ HW.out).mono ?_
  rintro e w2 ⟨AR, cR, rfl, hrods, hb⟩
  have HRd := hide hrods
  replace K0 := hide ((K0.out.keep hb).alloc (.cells #[.slice AR N cR] 207))
  have HW2 := below_step HW.out hb (Nat.le_refl _)
  replace HW := hide (HW2.alloc HW2.size (.cells #[.slice AR N cR] 207))
  have K5 := hide (Blk.new w2 207 #[.slice AR N cR])
  have hzg : w.heap.size ≤ w2.heap.size := HW2.size
  obtain ⟨w3, hw3⟩ : ∃ q, q = w2.alloc (.cells #[.slice AR N cR] 207) := ⟨_, rfl⟩
  have HRd3 := hide (show RodsW w3 w2.heap.size AR L by rw [hw3]; exact HRd.out.carry rodR_carried (below_new w2 _) (Nat.le_refl _))
  have hz23 : w2.heap.size < w3.heap.size := by rw [hw3]; simp
  rw [← hw3] at K0 K5 HW
  clear hb hrods HRd HR HW2
  go_upto_region 4 with fail
  rw [← hw3]
  clear hw3
  go_wp2_with (refine wpList_load_row rfl 34 (.tmp 1) rfl w.heap.size rfl 34 _ (0, 0) _ K0.out Tryz.underlying34 rfl (by rw [Hsz.out]; exact Hi.out) ?_)
  refine (HC.out _ HW.out).mono ?_
  rintro e w4 ⟨A7, c7, rfl, hcl, hb⟩
  have HCl := hide hcl
  replace K0 := hide (K0.out.keep hb)
  replace K5 := hide (K5.out.keep hb)
  replace HRd3 := hide (HRd3.out.carry rodR_carried (hb.mono (Nat.le_of_lt hz23)) (Nat.le_refl _))
  replace HW := hide (below_step HW.out hb (Nat.le_refl _))
  have hz24 : w2.heap.size < w4.heap.size := Nat.lt_of_lt_of_le hz23 hb.size
  clear hb hcl HC
  go_wp2_with fail
  go_loopw [8, 42] (fun v iv wr => ∃ k : Nat, k ≤ M ∧ iv = .int .i64 k ∧ (∃ acc : List ChnX, Row wr w4.heap.size 212 5 encChnX v acc ∧ Hid (acc.map (·.ch) = (CC.take k).map (chnOf x L)) ∧ Hid (∀ q ∈ acc, Ints wr w4.heap.size q.A q.ch.bars)) ∧ Below w4.heap.size w4 wr) (fun _ iv _ => M - (intOf iv).toNat)
  case atStart => exact ⟨0, Nat.zero_le _, rfl, ⟨[], Row.nil _ _ _ _ _, hide rfl, hide (fun q h => by cases h)⟩, Below.refl _ _⟩
  case round =>
    rename World => wr
    obtain ⟨k, hk, rfl, ⟨acc, hrow, hacc, hints⟩, hbr⟩ := hrel
    obtain ⟨A0, c0, rfl⟩ := hrow.val
    have hal : acc.length ≤ 2000 := by
      have h9 := congrArg List.length hacc.out
      rw [List.length_map, List.length_map, List.length_take] at h9
      omega
    have HWr := hide (below_step HW.out hbr (Nat.le_refl _))
    have hbz := hbr.size
    by_cases hlt : k < M
    · obtain ⟨b, off, cl, A', c', hA7, hbl, hcx, hic, hc0⟩ := IntLs.get (k := k) (SlOf.carry intsR_carried HCl.out hbr (Nat.le_refl _)) (by rw [← HMe.out]; exact hlt)
      subst hA7
      have hcm : cl ∈ CC := mem_of_get hcx
      obtain ⟨hc1, hc2, hc3⟩ := Hch2.out cl hcm
      have hbw : b < wr.heap.size := Nat.lt_of_lt_of_le hbl hbz
      have Hacc := hide (show acc.map (·.ch) ++ [chnOf x L cl] = (CC.take (k + 1)).map (chnOf x L) by rw [take_snoc' hcx, List.map_append, hacc.out]; rfl)
      have HRr := hide (HRd3.out.carry rodR_carried (hbr.mono (Nat.le_of_lt hz24)) (Nat.le_refl _))
      have K0r := hide (K0.out.below hbr K0.out.lt)
      have K5r := hide (K5.out.below hbr K5.out.lt)
      have HIr := hide hic
      obtain ⟨ln, hln⟩ : ∃ ln, ln = cl.length := ⟨_, rfl⟩
      have Hln := hide hln
      rw [← hln] at hc0 hc1 hc2
      -- the thinnest
      have HT := hide (fun (W : World) (hz : Below wr.heap.size wr W) => minFuncI_ok A' cl ln c' 242 #[.pointer (some ⟨w2.heap.size, 0, none⟩)] (sizeAt L) W (Ints.carry HIr.out (hz.mono hbz) (Nat.le_refl _)) (Nat.le_trans hbz hz.size) Hln.out (by omega) hc1 Tryz.call242 (fun p q W' hp hq hz' => by
        obtain ⟨p, rfl, hpn⟩ := hc3 p hp
        obtain ⟨q, rfl, hqn⟩ := hc3 q hq
        have hz2 := below_step hz hz' (Nat.le_refl _)
        exact chainsCmp_any AR L N cR w2.heap.size p q W' (HRr.out.carry rodR_carried (hz2.mono (Nat.le_trans (Nat.le_of_lt hz24) hbz)) (Nat.le_refl _)) (Nat.le_trans (Nat.le_trans (Nat.le_of_lt hz24) hbz) hz2.size) HNe.out (K5r.out.keep hz2) hpn hqn))
      obtain ⟨pt, hpt, hptn⟩ := hc3 _ (minF_in (sizeAt L) (c := cl) (by rw [← hln]; exact hc1))
      rw [hpt] at HT
      obtain ⟨bR, oR, ldt, _, _, _, _, hAR, hbR, hxt, _, _, hct⟩ := RodsW.get (k := pt) HRr.out (by rw [← HNe.out]; exact hptn)
      have hctt := hct 1 _ rfl
      have hsz := (Hrod.out ldt (mem_of_get hxt)).size
      have HAr := hide (fun W => area_ok ldt.bar.size W hsz)
      have Harea := hide (show areaOf (sizeAt L (thinOf L cl)) = areaOf ldt.bar.size by rw [thinOf, hpt, sizeAt, laidAt_get hxt])
      subst hAR
      have hbRw : bR < wr.heap.size := Nat.lt_of_lt_of_le hbR (Nat.le_trans (Nat.le_of_lt hz24) hbz)
      have K1 := hide (Blk.new wr 212 #[.slice A' ln c', .int .i64 0, .int .i64 0, .bool false, .int .i64 0])
      have HX := hide (below_new wr (.cells #[.slice A' ln c', .int .i64 0, .int .i64 0, .bool false, .int .i64 0] 212))
      have Hrow := hide hrow
      have Hints := hide hints.out
      have Hbr := hide hbr
      clear hcx hic hln hpt hxt hct hsz hrow hints hbr hacc
      go_wp2_with fail
      refine (HT.out _ HX.out).mono ?_
      rintro e w5 ⟨rfl, hb⟩
      replace K1 := hide (K1.out.keep hb)
      replace HX := hide (below_step HX.out hb (Nat.le_refl _))
      clear hb HT hc0
      have k5 := K5r.out.keep HX.out
      have g0 := k5.cell 0
      simp at g0
      have lg := k5.lt
      have t1 := (HX.out.cell (p := ⟨bR, oR + pt * 7 + 1, none⟩) hbRw).trans hctt
      have lbR : bR < w5.heap.size := Nat.lt_of_lt_of_le hbRw HX.out.size
      have n1 : (pt : Int) < (N : Int) := by omega
      have n2 : (0 : Int) ≤ (pt : Int) := by omega
      clear k5
      generalize ldt.bar.size = st at *
      go_wp2_with fail
      refine (HAr.out _).mono ?_
      rintro e w6 ⟨rfl, hb⟩
      replace K1 := hide (K1.out.keep hb)
      replace HX := hide (below_step HX.out hb (Nat.le_refl _))
      clear hb HAr g0 lg t1 lbR n1 n2 hctt
      have z4 := K1.out.frozen 4
      have y4 := K1.out.cell 4
      simp at y4
      have lr := K1.out.lt
      rw [← Harea.out]
      obtain ⟨ar, har⟩ : ∃ ar, ar = areaOf (sizeAt L (thinOf L cl)) := ⟨_, rfl⟩
      rw [← har]
      have Har := hide har
      clear har
      go_upto_region 18 with fail
      clear z4 y4 lr
      have k1 := K1.out.set_ 4 (.int .i64 ar)
      simp only [List.setIfInBounds_toArray, List.set_cons_zero, List.set_cons_succ] at k1
      have hx := HX.out.setCell (p := ⟨wr.heap.size, 4, none⟩) (Nat.le_refl _) (.int .i64 ar)
      generalize World.setCell w6 ⟨wr.heap.size, 4, none⟩ (.int .i64 ar) = W4 at *
      replace K1 := hide k1
      replace HX := hide hx
      clear k1 hx
      have hh := head_at (c := cl) (by rw [← Hln.out]; exact hc1)
      have hl := getLast_at (c := cl) (by rw [← Hln.out]; exact hc1)
      obtain ⟨p0, hp0, hp0n⟩ := hc3 _ (mem_of_get hh)
      obtain ⟨p1, hp1, hp1n⟩ := hc3 _ (mem_of_get hl)
      obtain ⟨bi, oi, v0, hAi, hbi, hv0, ci0⟩ := Ints.get (k := 0) HIr.out (by rw [← Hln.out]; exact hc1)
      obtain ⟨bi', oi', v1, hAi', _, hv1, ci1⟩ := Ints.get (k := ln - 1) HIr.out (by rw [← Hln.out]; omega)
      subst hAi
      injection hAi' with hAi'
      injection hAi' with hAi1 hAi2
      subst hAi1
      subst hAi2
      obtain rfl : (p0 : Int) = v0 := by rw [hh, hp0] at hv0; injection hv0
      obtain rfl : (p1 : Int) = v1 := by rw [Hln.out, hl, hp1] at hv1; injection hv1
      simp only [Nat.add_zero] at ci0
      obtain ⟨bA, oA, lda, da, dac, la, lac, hA9, hbA, hxa, hia, hba, hca⟩ := RodsW.get (k := p0) HRr.out (by rw [← HNe.out]; exact hp0n)
      obtain ⟨bB, oB, ldb, db, dbc, lb, lbc, hA8, _, hxb, hib, hbb, hcb⟩ := RodsW.get (k := p1) HRr.out (by rw [← HNe.out]; exact hp1n)
      injection hA9 with hA9
      injection hA9 with hA91 hA92
      subst hA91
      subst hA92
      injection hA8 with hA8
      injection hA8 with hA81 hA82
      subst hA81
      subst hA82
      have HEnd := hide (show chnOf x L cl = chnTo x cl lda ldb ar by rw [chnOf, hp0, hp1, laidAt_get hxa, laidAt_get hxb, ← Har.out])
      have hma := mem_of_get hxa
      have hmb := mem_of_get hxb
      have hbiw : bi < wr.heap.size := Nat.lt_of_lt_of_le hbi hbz
      have HPi := hide (fun (V : World) (hv : Below wr.heap.size wr V) => show V.cell? ⟨bi, oi, none⟩ = some (.int .i64 (p0 : Int)) ∧ V.cell? ⟨bi, oi + (ln - 1), none⟩ = some (.int .i64 (p1 : Int)) from ⟨(hv.cell (p := ⟨bi, _, none⟩) hbiw).trans ci0, (hv.cell (p := ⟨bi, _, none⟩) hbiw).trans ci1⟩)
      have HPa := hide (fun (V : World) (hv : Below wr.heap.size wr V) (j : Nat) (v : Value) (h9 : (encRod7 lda da dac la lac)[j]? = some v) => show V.cell? ⟨bR, oR + p0 * 7 + j, none⟩ = some v from (hv.cell (p := ⟨bR, _, none⟩) hbRw).trans (hca j v h9))
      have HPb := hide (fun (V : World) (hv : Below wr.heap.size wr V) (j : Nat) (v : Value) (h9 : (encRod7 ldb db dbc lb lbc)[j]? = some v) => show V.cell? ⟨bR, oR + p1 * 7 + j, none⟩ = some v from (hv.cell (p := ⟨bR, _, none⟩) hbRw).trans (hcb j v h9))
      have F5 := hide (fun (V : World) (hv : Below wr.heap.size wr V) => K5r.out.keep hv)
      have F0 := hide (fun (V : World) (hv : Below wr.heap.size wr V) => K0r.out.keep hv)
      have HIa := hide (And.intro hia hba)
      have HIb := hide (And.intro hib hbb)
      have zl : IntKind.i64.wrap ((ln : Int) - 1) = ((ln - 1 : Nat) : Int) := by rw [IntWalk.i64_in _ (by omega)]; omega
      have l1 : (0 : Int) < (ln : Int) := by omega
      have l2 : ((ln - 1 : Nat) : Int) < (ln : Int) := by omega
      have l3 : (0 : Int) ≤ ((ln - 1 : Nat) : Int) := by omega
      have l4 : (p0 : Int) < (N : Int) := by omega
      have l5 : (p1 : Int) < (N : Int) := by omega
      clear hh hl hp0 hp1 hv0 hv1 ci0 ci1 hxa hxb hca hcb hia hba hib hbb hbA hbi
      go_cut [13, 14] from 65 to 79 (fun a b W => ∃ g13 g14 : Nat, a = .pointer (some ⟨g13, 0, none⟩) ∧ b = .pointer (some ⟨g14, 0, none⟩) ∧ Hid (Blk W g13 258 (rodCells lda da dac la lac)) ∧ Hid (Blk W g14 258 (rodCells ldb db dbc lb lbc)) ∧ Hid (Below W4.heap.size W4 W))
      case first =>
        have HS := hide (Below.drew (Below.refl W4.heap.size W4))
        refine wp_region_heldTo (S := fun V => Below W4.heap.size W4 V) (n := 19) (by kernel_rfl) ?_
        generalize W4.drew = wd at *
        refine HeldTo.take (i := 0) (v := ?_) rfl (by kernel_rfl) (by kernel_rfl) (by kernel_rfl) (by kernel_rfl) (fun _ _ _ h => h) (Or.inl ⟨by rfl, ?_⟩) HS.out ?_
        rotate_left
        · intro V hSw
          (try dsimp only at hSw)
          have q0 := (F5.out V (below_step HX.out hSw (Nat.le_refl _))).cell 0; simp at q0; have lq := (F5.out V (below_step HX.out hSw (Nat.le_refl _))).lt
          go_simp
          first | done | with_reducible rfl
        (try simp only [List.getElem_toArray, List.getElem_cons_zero, Act.put, List.setIfInBounds_toArray, List.set_cons_zero, List.set_cons_succ])
        refine HeldTo.take (i := 1) (v := ?_) rfl (by kernel_rfl) (by kernel_rfl) (by kernel_rfl) (by kernel_rfl) (fun _ _ _ h => h) (Or.inl ⟨by rfl, ?_⟩) HS.out ?_
        rotate_left
        · intro V hSw
          (try dsimp only at hSw)
          skip
          go_simp
          first | done | with_reducible rfl
        (try simp only [List.getElem_toArray, List.getElem_cons_succ, List.getElem_cons_zero, Act.put, List.setIfInBounds_toArray, List.set_cons_zero, List.set_cons_succ])
        refine HeldTo.take (i := 2) (v := ?_) rfl (by kernel_rfl) (by kernel_rfl) (by kernel_rfl) (by kernel_rfl) (fun _ _ _ h => h) (Or.inl ⟨by rfl, ?_⟩) HS.out ?_
        rotate_left
        · intro V hSw
          (try dsimp only at hSw)
          skip
          go_simp
          first | done | with_reducible rfl
        (try simp only [List.getElem_toArray, List.getElem_cons_succ, List.getElem_cons_zero, Act.put, List.setIfInBounds_toArray, List.set_cons_zero, List.set_cons_succ])
        refine HeldTo.take (i := 3) (v := ?_) rfl (by kernel_rfl) (by kernel_rfl) (by kernel_rfl) (by kernel_rfl) (fun _ _ _ h => h) (Or.inl ⟨by rfl, ?_⟩) HS.out ?_
        rotate_left
        · intro V hSw
          (try dsimp only at hSw)
          obtain ⟨q0, q1⟩ := HPi.out V (below_step HX.out hSw (Nat.le_refl _))
          go_simp
          first | done | with_reducible rfl
        (try simp only [List.getElem_toArray, List.getElem_cons_succ, List.getElem_cons_zero, Act.put, List.setIfInBounds_toArray, List.set_cons_zero, List.set_cons_succ])
        refine HeldTo.take (i := 4) (v := ?_) rfl (by kernel_rfl) (by kernel_rfl) (by kernel_rfl) (by kernel_rfl) (fun _ _ _ h => h) (Or.inl ⟨by rfl, ?_⟩) HS.out ?_
        rotate_left
        · intro V hSw
          (try dsimp only at hSw)
          skip
          go_simp
          first | done | with_reducible rfl
        (try simp only [List.getElem_toArray, List.getElem_cons_succ, List.getElem_cons_zero, Act.put, List.setIfInBounds_toArray, List.set_cons_zero, List.set_cons_succ])
        refine HeldTo.take (i := 5) (v := ?_) rfl (by kernel_rfl) (by kernel_rfl) (by kernel_rfl) (by kernel_rfl) (fun _ _ _ h => h) (Or.inl ⟨by rfl, ?_⟩) HS.out ?_
        rotate_left
        · intro V hSw
          (try dsimp only at hSw)
          have q0 := HPa.out V (below_step HX.out hSw (Nat.le_refl _)) 0 _ rfl; have q1 := HPa.out V (below_step HX.out hSw (Nat.le_refl _)) 1 _ rfl; have q2 := HPa.out V (below_step HX.out hSw (Nat.le_refl _)) 2 _ rfl; have q3 := HPa.out V (below_step HX.out hSw (Nat.le_refl _)) 3 _ rfl; have q4 := HPa.out V (below_step HX.out hSw (Nat.le_refl _)) 4 _ rfl; have q5 := HPa.out V (below_step HX.out hSw (Nat.le_refl _)) 5 _ rfl; have q6 := HPa.out V (below_step HX.out hSw (Nat.le_refl _)) 6 _ rfl; simp only [Nat.add_zero] at q0
          go_simp
          first | done | with_reducible rfl
        (try simp only [List.getElem_toArray, List.getElem_cons_succ, List.getElem_cons_zero, Act.put, List.setIfInBounds_toArray, List.set_cons_zero, List.set_cons_succ])
        refine HeldTo.take (i := 6) (v := ?_) rfl (by kernel_rfl) (by kernel_rfl) (by kernel_rfl) (by kernel_rfl) (fun _ _ _ h => h) (Or.inl ⟨by rfl, ?_⟩) HS.out ?_
        rotate_left
        · intro V hSw
          (try dsimp only at hSw)
          have q0 := (F5.out V (below_step HX.out hSw (Nat.le_refl _))).cell 0; simp at q0; have lq := (F5.out V (below_step HX.out hSw (Nat.le_refl _))).lt
          go_simp
          first | done | with_reducible rfl
        (try simp only [List.getElem_toArray, List.getElem_cons_succ, List.getElem_cons_zero, Act.put, List.setIfInBounds_toArray, List.set_cons_zero, List.set_cons_succ])
        refine HeldTo.take (i := 7) (v := ?_) rfl (by kernel_rfl) (by kernel_rfl) (by kernel_rfl) (by kernel_rfl) (fun _ _ _ h => h) (Or.inl ⟨by rfl, ?_⟩) HS.out ?_
        rotate_left
        · intro V hSw
          (try dsimp only at hSw)
          skip
          go_simp
          first | done | with_reducible rfl
        (try simp only [List.getElem_toArray, List.getElem_cons_succ, List.getElem_cons_zero, Act.put, List.setIfInBounds_toArray, List.set_cons_zero, List.set_cons_succ])
        refine HeldTo.take (i := 8) (v := ?_) rfl (by kernel_rfl) (by kernel_rfl) (by kernel_rfl) (by kernel_rfl) (fun _ _ _ h => h) (Or.inl ⟨by rfl, ?_⟩) HS.out ?_
        rotate_left
        · intro V hSw
          (try dsimp only at hSw)
          skip
          go_simp
          first | done | with_reducible rfl
        (try simp only [List.getElem_toArray, List.getElem_cons_succ, List.getElem_cons_zero, Act.put, List.setIfInBounds_toArray, List.set_cons_zero, List.set_cons_succ])
        refine HeldTo.take (i := 9) (v := ?_) rfl (by kernel_rfl) (by kernel_rfl) (by kernel_rfl) (by kernel_rfl) (fun _ _ _ h => h) (Or.inl ⟨by rfl, ?_⟩) HS.out ?_
        rotate_left
        · intro V hSw
          (try dsimp only at hSw)
          skip
          go_simp
          first | done | with_reducible rfl
        (try simp only [List.getElem_toArray, List.getElem_cons_succ, List.getElem_cons_zero, Act.put, List.setIfInBounds_toArray, List.set_cons_zero, List.set_cons_succ])
        refine HeldTo.take (i := 10) (v := ?_) rfl (by kernel_rfl) (by kernel_rfl) (by kernel_rfl) (by kernel_rfl) (fun _ _ _ h => h) (Or.inl ⟨by rfl, ?_⟩) HS.out ?_
        rotate_left
        · intro V hSw
          (try dsimp only at hSw)
          skip
          go_simp
          first | done | with_reducible rfl
        (try simp only [List.getElem_toArray, List.getElem_cons_succ, List.getElem_cons_zero, Act.put, List.setIfInBounds_toArray, List.set_cons_zero, List.set_cons_succ])
        refine HeldTo.take (i := 11) (v := ?_) rfl (by kernel_rfl) (by kernel_rfl) (by kernel_rfl) (by kernel_rfl) (fun _ _ _ h => h) (Or.inl ⟨by rfl, ?_⟩) HS.out ?_
        rotate_left
        · intro V hSw
          (try dsimp only at hSw)
          skip
          go_simp
          first | done | with_reducible rfl
        (try simp only [List.getElem_toArray, List.getElem_cons_succ, List.getElem_cons_zero, Act.put, List.setIfInBounds_toArray, List.set_cons_zero, List.set_cons_succ])
        refine HeldTo.take (i := 12) (v := ?_) rfl (by kernel_rfl) (by kernel_rfl) (by kernel_rfl) (by kernel_rfl) (fun _ _ _ h => h) (Or.inl ⟨by rfl, ?_⟩) HS.out ?_
        rotate_left
        · intro V hSw
          (try dsimp only at hSw)
          obtain ⟨q0, q1⟩ := HPi.out V (below_step HX.out hSw (Nat.le_refl _))
          go_simp
          first | done | with_reducible rfl
        (try simp only [List.getElem_toArray, List.getElem_cons_succ, List.getElem_cons_zero, Act.put, List.setIfInBounds_toArray, List.set_cons_zero, List.set_cons_succ])
        refine HeldTo.take (i := 13) (v := ?_) rfl (by kernel_rfl) (by kernel_rfl) (by kernel_rfl) (by kernel_rfl) (fun _ _ _ h => h) (Or.inl ⟨by rfl, ?_⟩) HS.out ?_
        rotate_left
        · intro V hSw
          (try dsimp only at hSw)
          skip
          go_simp
          first | done | with_reducible rfl
        (try simp only [List.getElem_toArray, List.getElem_cons_succ, List.getElem_cons_zero, Act.put, List.setIfInBounds_toArray, List.set_cons_zero, List.set_cons_succ])
        refine HeldTo.take (i := 14) (v := ?_) rfl (by kernel_rfl) (by kernel_rfl) (by kernel_rfl) (by kernel_rfl) (fun _ _ _ h => h) (Or.inl ⟨by rfl, ?_⟩) HS.out ?_
        rotate_left
        · intro V hSw
          (try dsimp only at hSw)
          have q0 := HPb.out V (below_step HX.out hSw (Nat.le_refl _)) 0 _ rfl; have q1 := HPb.out V (below_step HX.out hSw (Nat.le_refl _)) 1 _ rfl; have q2 := HPb.out V (below_step HX.out hSw (Nat.le_refl _)) 2 _ rfl; have q3 := HPb.out V (below_step HX.out hSw (Nat.le_refl _)) 3 _ rfl; have q4 := HPb.out V (below_step HX.out hSw (Nat.le_refl _)) 4 _ rfl; have q5 := HPb.out V (below_step HX.out hSw (Nat.le_refl _)) 5 _ rfl; have q6 := HPb.out V (below_step HX.out hSw (Nat.le_refl _)) 6 _ rfl; simp only [Nat.add_zero] at q0
          go_simp
          first | done | with_reducible rfl
        (try simp only [List.getElem_toArray, List.getElem_cons_succ, List.getElem_cons_zero, Act.put, List.setIfInBounds_toArray, List.set_cons_zero, List.set_cons_succ])
        have HS0 := hide HS.out
        have HSa := hide (fun (c c' : Array Value) => show Below W4.heap.size W4 ((wd.alloc (.cells c 258)).alloc (.cells c' 258)) from (HS0.out.alloc HS0.out.size _).alloc (le_alloc HS0.out.size _) _)
        refine HeldTo.pair (i := 15) (j := 16) (by kernel_rfl) rfl rfl (fun K hK => ?_) (fun K hK => ?_)
        · go_simp
          replace HS := hide (HS.out.alloc HS.out.size (.cells #[.string ⟨#[]⟩, .int .i64 0, .int .i64 0, .int .i64 0, .slice none 0 0, .slice none 0 0, .int .i64 0] 258))
          refine hK.out _ _ (fun _ => HS.out) (fun h8 => ?_)
          clear h8 hK K
          (try simp only [List.getElem_toArray, List.getElem_cons_succ, List.getElem_cons_zero, Act.put, List.setIfInBounds_toArray, List.set_cons_zero, List.set_cons_succ])
          refine HeldTo.one (i := 16) (by kernel_rfl) rfl (fun K hK => ?_)
          go_simp
          replace HS := hide (HS.out.alloc HS.out.size (.cells #[.string ⟨#[]⟩, .int .i64 0, .int .i64 0, .int .i64 0, .slice none 0 0, .slice none 0 0, .int .i64 0] 258))
          refine hK.out _ _ (fun _ => HS.out) (fun h8 => ?_)
          clear h8 hK K
          (try simp only [List.getElem_toArray, List.getElem_cons_succ, List.getElem_cons_zero, Act.put, List.setIfInBounds_toArray, List.set_cons_zero, List.set_cons_succ])
          refine HeldTo.one (i := 17) (by kernel_rfl) rfl (fun K hK => ?_)
          go_simp
          refine hK.out _ _ (fun _ => HSa.out _ _) (fun h8 => ?_)
          clear h8 hK K
          (try simp only [List.getElem_toArray, List.getElem_cons_succ, List.getElem_cons_zero, Act.put, List.setIfInBounds_toArray, List.set_cons_zero, List.set_cons_succ])
          refine HeldTo.one (i := 18) (by kernel_rfl) rfl (fun K hK => ?_)
          go_simp
          refine hK.out _ _ (fun _ => HSa.out _ _) (fun h8 => HeldTo.done (by kernel_rfl) ?_ _)
          go_wp2_with fail
          go_meet
          exact ⟨wd.heap.size, wd.heap.size + 1, rfl, rfl, hide ((Blk.new wd _ _).alloc _), hide (Blk.new1 wd _ _ _), hide (HSa.out _ _)⟩
        · go_simp
          replace HS := hide (HS.out.alloc HS.out.size (.cells #[.string ⟨#[]⟩, .int .i64 0, .int .i64 0, .int .i64 0, .slice none 0 0, .slice none 0 0, .int .i64 0] 258))
          refine hK.out _ _ (fun _ => HS.out) (fun h8 => ?_)
          clear h8 hK K
          (try simp only [List.getElem_toArray, List.getElem_cons_succ, List.getElem_cons_zero, Act.put, List.setIfInBounds_toArray, List.set_cons_zero, List.set_cons_succ])
          refine HeldTo.one (i := 15) (by kernel_rfl) rfl (fun K hK => ?_)
          go_simp
          replace HS := hide (HS.out.alloc HS.out.size (.cells #[.string ⟨#[]⟩, .int .i64 0, .int .i64 0, .int .i64 0, .slice none 0 0, .slice none 0 0, .int .i64 0] 258))
          refine hK.out _ _ (fun _ => HS.out) (fun h8 => ?_)
          clear h8 hK K
          (try simp only [List.getElem_toArray, List.getElem_cons_succ, List.getElem_cons_zero, Act.put, List.setIfInBounds_toArray, List.set_cons_zero, List.set_cons_succ])
          refine HeldTo.one (i := 17) (by kernel_rfl) rfl (fun K hK => ?_)
          go_simp
          refine hK.out _ _ (fun _ => HSa.out _ _) (fun h8 => ?_)
          clear h8 hK K
          (try simp only [List.getElem_toArray, List.getElem_cons_succ, List.getElem_cons_zero, Act.put, List.setIfInBounds_toArray, List.set_cons_zero, List.set_cons_succ])
          refine HeldTo.one (i := 18) (by kernel_rfl) rfl (fun K hK => ?_)
          go_simp
          refine hK.out _ _ (fun _ => HSa.out _ _) (fun h8 => HeldTo.done (by kernel_rfl) ?_ _)
          go_wp2_with fail
          go_meet
          exact ⟨wd.heap.size + 1, wd.heap.size, rfl, rfl, hide (Blk.new1 wd _ _ _), hide ((Blk.new wd _ _).alloc _), hide (HSa.out _ _)⟩
      case rest =>
        obtain ⟨g13, g14, rfl, rfl, K13, K14, hbc⟩ := hcut
        rename World => w7
        replace K1 := hide (K1.out.keep hbc.out)
        replace HX := hide (below_step HX.out hbc.out (Nat.le_refl _))
        clear hbc HPi HPa HPb F5 zl l1 l2 l3 l4 l5
        have qa := K13.out.cell 6
        have qb := K14.out.cell 6
        simp at qa qb
        have lA := K13.out.lt
        have lB := K14.out.lt
        by_cases ha : 0 ≤ rodMain lda
        · have da0 : decide (0 ≤ rodMain lda) = true := decide_eq_true ha
          by_cases hb0 : 0 ≤ rodMain ldb
          · have db0 : decide (0 ≤ rodMain ldb) = true := decide_eq_true hb0
            have hra := Hrm.out lda hma ha
            have hrb := Hrm.out ldb hmb hb0
            have hga := (Hrng.out lda hma ha).1
            have hgb := (Hrng.out ldb hmb hb0).2
            have hza : w2.heap.size ≤ wr.heap.size := Nat.le_trans (Nat.le_of_lt hz24) hbz
            have HEa := hide (fun (W : World) (hv : Below wr.heap.size wr W) => HE.out lda hma W w2.heap.size (below_step HWr.out hv (Nat.le_refl _)) (Nat.le_trans hza hv.size) (Nat.le_trans HBB.out hzg) da dac la lac (HIa.out.1.carry (hv.mono hza) (Nat.le_refl _)) (HIa.out.2.carry (Flat.carried _) (hv.mono hza) (Nat.le_refl _)))
            have HEb := hide (fun (W : World) (hv : Below wr.heap.size wr W) => HE.out ldb hmb W w2.heap.size (below_step HWr.out hv (Nat.le_refl _)) (Nat.le_trans hza hv.size) (Nat.le_trans HBB.out hzg) db dbc lb lbc (HIb.out.1.carry (hv.mono hza) (Nat.le_refl _)) (HIb.out.2.carry (Flat.carried _) (hv.mono hza) (Nat.le_refl _)))
            have HLa := hide (fun (W : World) (hv : Below wr.heap.size wr W) => leg_ok2 lda da dac la lac W (HIa.out.2.carry (Flat.carried _) (hv.mono hza) (Nat.le_refl _)) (Nat.le_trans hza hv.size) ha (Hrod.out lda hma).few)
            have HLb := hide (fun (W : World) (hv : Below wr.heap.size wr W) => leg_ok2 ldb db dbc lb lbc W (HIb.out.2.carry (Flat.carried _) (hv.mono hza) (Nat.le_refl _)) (Nat.le_trans hza hv.size) hb0 (Hrod.out ldb hmb).few)
            obtain ⟨tA, htA⟩ : ∃ t, t = endsOf x.rule x.mem lda.bar.size (legsOfPts lda.pts) := ⟨_, rfl⟩
            obtain ⟨tB, htB⟩ : ∃ t, t = endsOf x.rule x.mem ldb.bar.size (legsOfPts ldb.pts) := ⟨_, rfl⟩
            have e1 : endLo x lda = (rodLeg lda).lo.1 + tA.1 := by rw [htA]; rfl
            have e2 : endHi x ldb = (rodLeg ldb).hi.1 - tB.2.1 := by rw [htB]; rfl
            rw [← htA] at HEa hra
            rw [← htB] at HEb hrb
            rw [e1] at hga
            rw [e2] at hgb
            clear htA htB
            obtain ⟨tA1, tA2, tA3⟩ := tA
            obtain ⟨tB1, tB2, tB3⟩ := tB
            simp only at hra hrb e1 e2 hga hgb
            obtain rfl : tA3 = 0 := hra.1
            obtain rfl : tB3 = 0 := hrb.1
            clear hra hrb
            have HEa2 := hide (fun (W : World) (hv : Below wr.heap.size wr W) => show Calls Tryz.prog 245 #[rlV x.rule, memV x.mem a1 n1 c1 a2 n2 c2, .agg #[.string lda.bar.mark, .int .i64 lda.bar.size, .int .i64 lda.bar.count, .int .i64 lda.bar.code, .slice da lda.bar.dims.length dac], .slice la (legsOfPts lda.pts).length lac] W fun e w' => e = .returned (.tuple #[.int .i64 tA1, .int .i64 tA2, .int .i64 0]) ∧ Below W.heap.size W w' from HEa.out W hv)
            have HEb2 := hide (fun (W : World) (hv : Below wr.heap.size wr W) => show Calls Tryz.prog 245 #[rlV x.rule, memV x.mem a1 n1 c1 a2 n2 c2, .agg #[.string ldb.bar.mark, .int .i64 ldb.bar.size, .int .i64 ldb.bar.count, .int .i64 ldb.bar.code, .slice db ldb.bar.dims.length dbc], .slice lb (legsOfPts ldb.pts).length lbc] W fun e w' => e = .returned (.tuple #[.int .i64 tB1, .int .i64 tB2, .int .i64 0]) ∧ Below W.heap.size W w' from HEb.out W hv)
            obtain ⟨SL, hSL⟩ : ∃ q, q = (rodLeg lda).lo.1 + tA1 := ⟨_, rfl⟩
            obtain ⟨SH, hSH⟩ : ∃ q, q = (rodLeg ldb).hi.1 - tB2 := ⟨_, rfl⟩
            have HS2 := hide (show spannedB x lda ldb = decide (SL < SH) by rw [spannedB, da0, db0, e1, e2, ← hSL, ← hSH]; rfl)
            have HF1 := hide (fun (q : decide (SL < SH) = true) => show chnOf x L cl = ⟨cl, SL, SH, true, ar⟩ by rw [HEnd.out, chnTo, HS2.out, q, if_pos rfl, e1, e2, ← hSL, ← hSH])
            have HF2 := hide (fun (q : decide (SL < SH) = false) => show chnOf x L cl = ⟨cl, 0, 0, false, ar⟩ by rw [HEnd.out, chnTo, HS2.out, q, if_neg (by simp)])
            have zA : IntKind.i64.wrap ((rodLeg lda).lo.1 + tA1) = SL := by rw [hSL]; exact IntWalk.i64_in _ (by omega)
            have zB : IntKind.i64.wrap ((rodLeg ldb).hi.1 - tB2) = SH := by rw [hSH]; exact IntWalk.i64_in _ (by omega)
            have yA : wrap64 ((rodLeg lda).lo.1 + tA1) = SL := by rw [hSL]; exact IntWalk.wrap64_in _ (by omega)
            have yB : wrap64 ((rodLeg ldb).hi.1 - tB2) = SH := by rw [hSH]; exact IntWalk.wrap64_in _ (by omega)
            have ZZ := hide (And.intro zA (And.intro zB (And.intro yA yB)))
            clear HEa HEb HS2 HEnd e1 e2 hga hgb zA zB yA yB hSL hSH
            generalize rodLeg lda = lgA at *
            generalize rodLeg ldb = lgB at *
            obtain ⟨⟨r1, r2, r3⟩, r4, r5, r6⟩ := lgA
            obtain ⟨⟨o1, o2, o3⟩, o4, o5, o6⟩ := lgB
            simp only at ZZ
            have HLa2 := hide (fun (W : World) (hv : Below wr.heap.size wr W) => show Calls Tryz.prog 188 #[.agg (rodCells lda da dac la lac)] W fun e w' => e = .returned (.agg #[.int .i64 r1, .int .i64 r2, .int .i64 r3, .int .i64 r4, .int .i64 r5, .int .i64 r6]) ∧ Below W.heap.size W w' from HLa.out W hv)
            have HLb2 := hide (fun (W : World) (hv : Below wr.heap.size wr W) => show Calls Tryz.prog 188 #[.agg (rodCells ldb db dbc lb lbc)] W fun e w' => e = .returned (.agg #[.int .i64 o1, .int .i64 o2, .int .i64 o3, .int .i64 o4, .int .i64 o5, .int .i64 o6]) ∧ Below W.heap.size W w' from HLb.out W hv)
            clear HLa HLb
            have k0 := F0.out _ HX.out
            have x0 := (k0.cell 0).trans (HCX.out 0 _ rfl)
            have x1 := (k0.cell 1).trans (HCX.out 1 _ rfl)
            have x2 := (k0.cell 2).trans (HCX.out 2 _ rfl)
            have x3 := (k0.cell 3).trans (HCX.out 3 _ rfl)
            have x4 := (k0.cell 4).trans (HCX.out 4 _ rfl)
            have x5 := (k0.cell 5).trans (HCX.out 5 _ rfl)
            have x10 := (k0.cell 10).trans (HCX.out 10 _ rfl)
            have x11 := (k0.cell 11).trans (HCX.out 11 _ rfl)
            have x12 := (k0.cell 12).trans (HCX.out 12 _ rfl)
            have x13 := (k0.cell 13).trans (HCX.out 13 _ rfl)
            have x14 := (k0.cell 14).trans (HCX.out 14 _ rfl)
            have x15 := (k0.cell 15).trans (HCX.out 15 _ rfl)
            have x16 := (k0.cell 16).trans (HCX.out 16 _ rfl)
            have x17 := (k0.cell 17).trans (HCX.out 17 _ rfl)
            have x18 := (k0.cell 18).trans (HCX.out 18 _ rfl)
            have lk0 := k0.lt
            clear k0
            have q0 := K13.out.cell 0
            have q1 := K13.out.cell 1
            have q2 := K13.out.cell 2
            have q3 := K13.out.cell 3
            have q4 := K13.out.cell 4
            have q5 := K13.out.cell 5
            simp at q0 q1 q2 q3 q4 q5
            have lq := K13.out.lt
            go_wp2_with fail
            refine (HEa2.out _ HX.out).mono ?_
            rintro e w8 ⟨rfl, hb⟩
            replace K1 := hide (K1.out.keep hb)
            replace K13 := hide (K13.out.keep hb)
            replace K14 := hide (K14.out.keep hb)
            replace HX := hide (below_step HX.out hb (Nat.le_refl _))
            clear hb HEa2 x0 x1 x2 x3 x4 x5 x10 x11 x12 x13 x14 x15 x16 x17 x18 lk0 q0 q1 q2 q3 q4 q5 lq qa qb lA lB
            have k0 := F0.out _ HX.out
            have x0 := (k0.cell 0).trans (HCX.out 0 _ rfl)
            have x1 := (k0.cell 1).trans (HCX.out 1 _ rfl)
            have x2 := (k0.cell 2).trans (HCX.out 2 _ rfl)
            have x3 := (k0.cell 3).trans (HCX.out 3 _ rfl)
            have x4 := (k0.cell 4).trans (HCX.out 4 _ rfl)
            have x5 := (k0.cell 5).trans (HCX.out 5 _ rfl)
            have x10 := (k0.cell 10).trans (HCX.out 10 _ rfl)
            have x11 := (k0.cell 11).trans (HCX.out 11 _ rfl)
            have x12 := (k0.cell 12).trans (HCX.out 12 _ rfl)
            have x13 := (k0.cell 13).trans (HCX.out 13 _ rfl)
            have x14 := (k0.cell 14).trans (HCX.out 14 _ rfl)
            have x15 := (k0.cell 15).trans (HCX.out 15 _ rfl)
            have x16 := (k0.cell 16).trans (HCX.out 16 _ rfl)
            have x17 := (k0.cell 17).trans (HCX.out 17 _ rfl)
            have x18 := (k0.cell 18).trans (HCX.out 18 _ rfl)
            have lk0 := k0.lt
            clear k0
            have q0 := K14.out.cell 0
            have q1 := K14.out.cell 1
            have q2 := K14.out.cell 2
            have q3 := K14.out.cell 3
            have q4 := K14.out.cell 4
            have q5 := K14.out.cell 5
            simp at q0 q1 q2 q3 q4 q5
            have lq := K14.out.lt
            go_wp2_with fail
            refine (HEb2.out _ HX.out).mono ?_
            rintro e w9 ⟨rfl, hb⟩
            replace K1 := hide (K1.out.keep hb)
            replace K13 := hide (K13.out.keep hb)
            replace K14 := hide (K14.out.keep hb)
            replace HX := hide (below_step HX.out hb (Nat.le_refl _))
            clear hb HEb2 x0 x1 x2 x3 x4 x5 x10 x11 x12 x13 x14 x15 x16 x17 x18 lk0 q0 q1 q2 q3 q4 q5 lq F0
            go_upto_region 26 with fail
            go_cut [20] from 120 to 132 (fun v W => ∃ g20 : Nat, v = .pointer (some ⟨g20, 0, none⟩) ∧ Hid (Blk W g20 89 #[.int .i64 SL, .int .i64 SH]) ∧ Hid (Below w9.heap.size w9 W))
            case first =>
              have HS := hide (And.intro K13.out.drew (And.intro K14.out.drew (Below.drew (Below.refl w9.heap.size w9))))
              refine wp_region_heldTo (S := fun V => Blk V g13 258 (rodCells lda da dac la lac) ∧ Blk V g14 258 (rodCells ldb db dbc lb lbc) ∧ Below w9.heap.size w9 V) (n := 14) (by kernel_rfl) ?_
              generalize w9.drew = wd at *
              refine HeldTo.take (i := 0) (v := ?_) rfl (by kernel_rfl) (by kernel_rfl) (by kernel_rfl) (by kernel_rfl) (fun _ _ _ h => h) (Or.inl ⟨by rfl, ?_⟩) HS.out ?_
              rotate_left
              · intro V hSw
                (try dsimp only at hSw)
                have q0 := hSw.1.cell 0; have q1 := hSw.1.cell 1; have q2 := hSw.1.cell 2; have q3 := hSw.1.cell 3; have q4 := hSw.1.cell 4; have q5 := hSw.1.cell 5; have q6 := hSw.1.cell 6; simp at q0 q1 q2 q3 q4 q5 q6; have lq := hSw.1.lt
                go_simp
                first | done | with_reducible rfl
              (try simp only [List.getElem_toArray, List.getElem_cons_zero, Act.put, List.setIfInBounds_toArray, List.set_cons_zero, List.set_cons_succ])
              refine HeldTo.take (i := 6) (v := ?_) rfl (by kernel_rfl) (by kernel_rfl) (by kernel_rfl) (by kernel_rfl) (fun _ _ _ h => h) (Or.inl ⟨by rfl, ?_⟩) HS.out ?_
              rotate_left
              · intro V hSw
                (try dsimp only at hSw)
                have q0 := hSw.2.1.cell 0; have q1 := hSw.2.1.cell 1; have q2 := hSw.2.1.cell 2; have q3 := hSw.2.1.cell 3; have q4 := hSw.2.1.cell 4; have q5 := hSw.2.1.cell 5; have q6 := hSw.2.1.cell 6; simp at q0 q1 q2 q3 q4 q5 q6; have lq := hSw.2.1.lt
                go_simp
                first | done | with_reducible rfl
              (try simp only [List.getElem_toArray, List.getElem_cons_succ, List.getElem_cons_zero, Act.put, List.setIfInBounds_toArray, List.set_cons_zero, List.set_cons_succ])
              refine HeldTo.take (i := 4) (v := ?_) rfl (by kernel_rfl) (by kernel_rfl) (by kernel_rfl) (by kernel_rfl) (fun _ _ _ h => h) (Or.inl ⟨by rfl, ?_⟩) HS.out ?_
              rotate_left
              · intro V hSw
                (try dsimp only at hSw)
                skip
                go_simp
                first | done | with_reducible rfl
              (try simp only [List.getElem_toArray, List.getElem_cons_succ, List.getElem_cons_zero, Act.put, List.setIfInBounds_toArray, List.set_cons_zero, List.set_cons_succ])
              refine HeldTo.take (i := 10) (v := ?_) rfl (by kernel_rfl) (by kernel_rfl) (by kernel_rfl) (by kernel_rfl) (fun _ _ _ h => h) (Or.inl ⟨by rfl, ?_⟩) HS.out ?_
              rotate_left
              · intro V hSw
                (try dsimp only at hSw)
                skip
                go_simp
                first | done | with_reducible rfl
              (try simp only [List.getElem_toArray, List.getElem_cons_succ, List.getElem_cons_zero, Act.put, List.setIfInBounds_toArray, List.set_cons_zero, List.set_cons_succ])
              refine HeldTo.pair (i := 1) (j := 13) (by kernel_rfl) rfl rfl (fun K hK => ?_) (fun K hK => ?_)
              · go_simp
                refine (HLa2.out _ (below_step HX.out HS.out.2.2 (Nat.le_refl _))).mono ?_
                rintro e wz ⟨rfl, hb7⟩
                go_wp2_with fail
                replace HS := hide (And.intro (HS.out.1.keep hb7) (And.intro (HS.out.2.1.keep hb7) (below_step HS.out.2.2 hb7 (Nat.le_refl _))))
                refine hK.out _ _ (fun _ => HS.out) (fun h8 => ?_)
                clear h8 hK K
                (try simp only [List.getElem_toArray, List.getElem_cons_succ, List.getElem_cons_zero, Act.put, List.setIfInBounds_toArray, List.set_cons_zero, List.set_cons_succ])
                refine HeldTo.take (i := 2) (v := ?_) rfl (by kernel_rfl) (by kernel_rfl) (by kernel_rfl) (by kernel_rfl) (fun _ _ _ h => h) (Or.inl ⟨by rfl, ?_⟩) HS.out ?_
                rotate_left
                · intro V hSw
                  (try dsimp only at hSw)
                  have q9 := boxLo r1 r2 r3 r4 r5 r6 V
                  go_simp
                  first | done | with_reducible rfl
                (try simp only [List.getElem_toArray, List.getElem_cons_succ, List.getElem_cons_zero, Act.put, List.setIfInBounds_toArray, List.set_cons_zero, List.set_cons_succ])
                refine HeldTo.take (i := 3) (v := ?_) rfl (by kernel_rfl) (by kernel_rfl) (by kernel_rfl) (by kernel_rfl) (fun _ _ _ h => h) (Or.inl ⟨by rfl, ?_⟩) HS.out ?_
                rotate_left
                · intro V hSw
                  (try dsimp only at hSw)
                  have q9 := ptX r1 r2 r3 V
                  go_simp
                  first | done | with_reducible rfl
                (try simp only [List.getElem_toArray, List.getElem_cons_succ, List.getElem_cons_zero, Act.put, List.setIfInBounds_toArray, List.set_cons_zero, List.set_cons_succ])
                refine HeldTo.take (i := 5) (v := ?_) rfl (by kernel_rfl) (by kernel_rfl) (by kernel_rfl) (by kernel_rfl) (fun _ _ _ h => h) (Or.inl ⟨by rfl, ?_⟩) HS.out ?_
                rotate_left
                · intro V hSw
                  (try dsimp only at hSw)
                  obtain ⟨z1, z2, z3, z4⟩ := ZZ.out
                  go_simp
                  first | done | with_reducible rfl
                (try simp only [List.getElem_toArray, List.getElem_cons_succ, List.getElem_cons_zero, Act.put, List.setIfInBounds_toArray, List.set_cons_zero, List.set_cons_succ])
                refine HeldTo.pair (i := 7) (j := 13) (by kernel_rfl) rfl rfl (fun K hK => ?_) (fun K hK => ?_)
                · go_simp
                  refine (HLb2.out _ (below_step HX.out HS.out.2.2 (Nat.le_refl _))).mono ?_
                  rintro e wy ⟨rfl, hb6⟩
                  go_wp2_with fail
                  replace HS := hide (And.intro (HS.out.1.keep hb6) (And.intro (HS.out.2.1.keep hb6) (below_step HS.out.2.2 hb6 (Nat.le_refl _))))
                  refine hK.out _ _ (fun _ => HS.out) (fun h8 => ?_)
                  clear h8 hK K
                  (try simp only [List.getElem_toArray, List.getElem_cons_succ, List.getElem_cons_zero, Act.put, List.setIfInBounds_toArray, List.set_cons_zero, List.set_cons_succ])
                  refine HeldTo.take (i := 8) (v := ?_) rfl (by kernel_rfl) (by kernel_rfl) (by kernel_rfl) (by kernel_rfl) (fun _ _ _ h => h) (Or.inl ⟨by rfl, ?_⟩) HS.out ?_
                  rotate_left
                  · intro V hSw
                    (try dsimp only at hSw)
                    have q9 := boxHi o1 o2 o3 o4 o5 o6 V
                    go_simp
                    first | done | with_reducible rfl
                  (try simp only [List.getElem_toArray, List.getElem_cons_succ, List.getElem_cons_zero, Act.put, List.setIfInBounds_toArray, List.set_cons_zero, List.set_cons_succ])
                  refine HeldTo.take (i := 9) (v := ?_) rfl (by kernel_rfl) (by kernel_rfl) (by kernel_rfl) (by kernel_rfl) (fun _ _ _ h => h) (Or.inl ⟨by rfl, ?_⟩) HS.out ?_
                  rotate_left
                  · intro V hSw
                    (try dsimp only at hSw)
                    have q9 := ptX o4 o5 o6 V
                    go_simp
                    first | done | with_reducible rfl
                  (try simp only [List.getElem_toArray, List.getElem_cons_succ, List.getElem_cons_zero, Act.put, List.setIfInBounds_toArray, List.set_cons_zero, List.set_cons_succ])
                  refine HeldTo.take (i := 11) (v := ?_) rfl (by kernel_rfl) (by kernel_rfl) (by kernel_rfl) (by kernel_rfl) (fun _ _ _ h => h) (Or.inl ⟨by rfl, ?_⟩) HS.out ?_
                  rotate_left
                  · intro V hSw
                    (try dsimp only at hSw)
                    obtain ⟨z1, z2, z3, z4⟩ := ZZ.out
                    go_simp
                    first | done | with_reducible rfl
                  (try simp only [List.getElem_toArray, List.getElem_cons_succ, List.getElem_cons_zero, Act.put, List.setIfInBounds_toArray, List.set_cons_zero, List.set_cons_succ])
                  refine HeldTo.take (i := 12) (v := ?_) rfl (by kernel_rfl) (by kernel_rfl) (by kernel_rfl) (by kernel_rfl) (fun _ _ _ h => h) (Or.inl ⟨by rfl, ?_⟩) HS.out ?_
                  rotate_left
                  · intro V hSw
                    (try dsimp only at hSw)
                    skip
                    go_simp
                    first | done | with_reducible rfl
                  (try simp only [List.getElem_toArray, List.getElem_cons_succ, List.getElem_cons_zero, Act.put, List.setIfInBounds_toArray, List.set_cons_zero, List.set_cons_succ])
                  refine HeldTo.one (i := 13) (by kernel_rfl) rfl (fun K hK => ?_)
                  have HB7 := hide HS.out.2.2
                  go_simp
                  have KS := hide (Blk.new wy 89 #[.int .i64 0, .int .i64 0])
                  have hgs : w9.heap.size ≤ wy.heap.size := HS.out.2.2.size
                  replace HS := hide (And.intro (HS.out.1.alloc (.cells #[.int .i64 0, .int .i64 0] 89)) (And.intro (HS.out.2.1.alloc (.cells #[.int .i64 0, .int .i64 0] 89)) (HS.out.2.2.alloc HS.out.2.2.size (.cells #[.int .i64 0, .int .i64 0] 89))))
                  refine hK.out _ _ (fun _ => HS.out) (fun h8 => ?_)
                  clear h8 hK K
                  (try simp only [List.getElem_toArray, List.getElem_cons_succ, List.getElem_cons_zero, Act.put, List.setIfInBounds_toArray, List.set_cons_zero, List.set_cons_succ])
                  refine HeldTo.one (i := 14) (by kernel_rfl) rfl (fun K hK => ?_)
                  go_simp
                  refine hK.out _ _ (fun h9 => absurd h9 (by omega)) (fun h8 => HeldTo.done (by kernel_rfl) ?_ _)
                  go_wp2_with fail
                  go_meet
                  exact ⟨wy.heap.size, rfl, hide (Blk.new wy _ _), hide (HB7.out.alloc HB7.out.size _)⟩
                · go_simp
                  have KS := hide (Blk.new wz 89 #[.int .i64 0, .int .i64 0])
                  have hgs : w9.heap.size ≤ wz.heap.size := HS.out.2.2.size
                  replace HS := hide (And.intro (HS.out.1.alloc (.cells #[.int .i64 0, .int .i64 0] 89)) (And.intro (HS.out.2.1.alloc (.cells #[.int .i64 0, .int .i64 0] 89)) (HS.out.2.2.alloc HS.out.2.2.size (.cells #[.int .i64 0, .int .i64 0] 89))))
                  refine hK.out _ _ (fun _ => HS.out) (fun h8 => ?_)
                  clear h8 hK K
                  (try simp only [List.getElem_toArray, List.getElem_cons_succ, List.getElem_cons_zero, Act.put, List.setIfInBounds_toArray, List.set_cons_zero, List.set_cons_succ])
                  refine HeldTo.one (i := 7) (by kernel_rfl) rfl (fun K hK => ?_)
                  go_simp
                  refine (HLb2.out _ (below_step HX.out HS.out.2.2 (Nat.le_refl _))).mono ?_
                  rintro e wy ⟨rfl, hb6⟩
                  go_wp2_with fail
                  replace HS := hide (And.intro (HS.out.1.keep hb6) (And.intro (HS.out.2.1.keep hb6) (below_step HS.out.2.2 hb6 (Nat.le_refl _))))
                  refine hK.out _ _ (fun _ => HS.out) (fun h8 => ?_)
                  clear h8 hK K
                  (try simp only [List.getElem_toArray, List.getElem_cons_succ, List.getElem_cons_zero, Act.put, List.setIfInBounds_toArray, List.set_cons_zero, List.set_cons_succ])
                  refine HeldTo.take (i := 8) (v := ?_) rfl (by kernel_rfl) (by kernel_rfl) (by kernel_rfl) (by kernel_rfl) (fun _ _ _ h => h) (Or.inl ⟨by rfl, ?_⟩) HS.out ?_
                  rotate_left
                  · intro V hSw
                    (try dsimp only at hSw)
                    have q9 := boxHi o1 o2 o3 o4 o5 o6 V
                    go_simp
                    first | done | with_reducible rfl
                  (try simp only [List.getElem_toArray, List.getElem_cons_succ, List.getElem_cons_zero, Act.put, List.setIfInBounds_toArray, List.set_cons_zero, List.set_cons_succ])
                  refine HeldTo.take (i := 9) (v := ?_) rfl (by kernel_rfl) (by kernel_rfl) (by kernel_rfl) (by kernel_rfl) (fun _ _ _ h => h) (Or.inl ⟨by rfl, ?_⟩) HS.out ?_
                  rotate_left
                  · intro V hSw
                    (try dsimp only at hSw)
                    have q9 := ptX o4 o5 o6 V
                    go_simp
                    first | done | with_reducible rfl
                  (try simp only [List.getElem_toArray, List.getElem_cons_succ, List.getElem_cons_zero, Act.put, List.setIfInBounds_toArray, List.set_cons_zero, List.set_cons_succ])
                  refine HeldTo.take (i := 11) (v := ?_) rfl (by kernel_rfl) (by kernel_rfl) (by kernel_rfl) (by kernel_rfl) (fun _ _ _ h => h) (Or.inl ⟨by rfl, ?_⟩) HS.out ?_
                  rotate_left
                  · intro V hSw
                    (try dsimp only at hSw)
                    obtain ⟨z1, z2, z3, z4⟩ := ZZ.out
                    go_simp
                    first | done | with_reducible rfl
                  (try simp only [List.getElem_toArray, List.getElem_cons_succ, List.getElem_cons_zero, Act.put, List.setIfInBounds_toArray, List.set_cons_zero, List.set_cons_succ])
                  replace KS := hide (KS.out.keep hb6)
                  refine HeldTo.take (i := 12) (v := ?_) rfl (by kernel_rfl) (by kernel_rfl) (by kernel_rfl) (by kernel_rfl) (fun _ _ _ h => h) (Or.inl ⟨by rfl, ?_⟩) HS.out ?_
                  rotate_left
                  · intro V hSw
                    (try dsimp only at hSw)
                    skip
                    go_simp
                    first | done | with_reducible rfl
                  (try simp only [List.getElem_toArray, List.getElem_cons_succ, List.getElem_cons_zero, Act.put, List.setIfInBounds_toArray, List.set_cons_zero, List.set_cons_succ])
                  have z0 := KS.out.frozen 0
                  have z1 := KS.out.frozen 1
                  have y0 := KS.out.cell 0
                  have y1 := KS.out.cell 1
                  simp at y0 y1
                  have lr := KS.out.lt
                  refine HeldTo.one (i := 14) (by kernel_rfl) rfl (fun K hK => ?_)
                  go_simp
                  refine hK.out _ _ (fun h9 => absurd h9 (by omega)) (fun h8 => HeldTo.done (by kernel_rfl) ?_ _)
                  go_wp2_with fail
                  go_meet
                  exact ⟨wz.heap.size, rfl, hide ((KS.out.set_ 0 _).set_ 1 _), hide ((HS.out.2.2.setCell (p := ⟨wz.heap.size, 0, none⟩) hgs _).setCell (p := ⟨wz.heap.size, 1, none⟩) hgs _)⟩
              · go_simp
                have KS := hide (Blk.new wd 89 #[.int .i64 0, .int .i64 0])
                have hgs : w9.heap.size ≤ wd.heap.size := HS.out.2.2.size
                replace HS := hide (And.intro (HS.out.1.alloc (.cells #[.int .i64 0, .int .i64 0] 89)) (And.intro (HS.out.2.1.alloc (.cells #[.int .i64 0, .int .i64 0] 89)) (HS.out.2.2.alloc HS.out.2.2.size (.cells #[.int .i64 0, .int .i64 0] 89))))
                refine hK.out _ _ (fun _ => HS.out) (fun h8 => ?_)
                clear h8 hK K
                (try simp only [List.getElem_toArray, List.getElem_cons_succ, List.getElem_cons_zero, Act.put, List.setIfInBounds_toArray, List.set_cons_zero, List.set_cons_succ])
                refine HeldTo.one (i := 1) (by kernel_rfl) rfl (fun K hK => ?_)
                go_simp
                refine (HLa2.out _ (below_step HX.out HS.out.2.2 (Nat.le_refl _))).mono ?_
                rintro e wz ⟨rfl, hb7⟩
                go_wp2_with fail
                replace HS := hide (And.intro (HS.out.1.keep hb7) (And.intro (HS.out.2.1.keep hb7) (below_step HS.out.2.2 hb7 (Nat.le_refl _))))
                refine hK.out _ _ (fun _ => HS.out) (fun h8 => ?_)
                clear h8 hK K
                (try simp only [List.getElem_toArray, List.getElem_cons_succ, List.getElem_cons_zero, Act.put, List.setIfInBounds_toArray, List.set_cons_zero, List.set_cons_succ])
                refine HeldTo.take (i := 2) (v := ?_) rfl (by kernel_rfl) (by kernel_rfl) (by kernel_rfl) (by kernel_rfl) (fun _ _ _ h => h) (Or.inl ⟨by rfl, ?_⟩) HS.out ?_
                rotate_left
                · intro V hSw
                  (try dsimp only at hSw)
                  have q9 := boxLo r1 r2 r3 r4 r5 r6 V
                  go_simp
                  first | done | with_reducible rfl
                (try simp only [List.getElem_toArray, List.getElem_cons_succ, List.getElem_cons_zero, Act.put, List.setIfInBounds_toArray, List.set_cons_zero, List.set_cons_succ])
                refine HeldTo.take (i := 3) (v := ?_) rfl (by kernel_rfl) (by kernel_rfl) (by kernel_rfl) (by kernel_rfl) (fun _ _ _ h => h) (Or.inl ⟨by rfl, ?_⟩) HS.out ?_
                rotate_left
                · intro V hSw
                  (try dsimp only at hSw)
                  have q9 := ptX r1 r2 r3 V
                  go_simp
                  first | done | with_reducible rfl
                (try simp only [List.getElem_toArray, List.getElem_cons_succ, List.getElem_cons_zero, Act.put, List.setIfInBounds_toArray, List.set_cons_zero, List.set_cons_succ])
                refine HeldTo.take (i := 5) (v := ?_) rfl (by kernel_rfl) (by kernel_rfl) (by kernel_rfl) (by kernel_rfl) (fun _ _ _ h => h) (Or.inl ⟨by rfl, ?_⟩) HS.out ?_
                rotate_left
                · intro V hSw
                  (try dsimp only at hSw)
                  obtain ⟨z1, z2, z3, z4⟩ := ZZ.out
                  go_simp
                  first | done | with_reducible rfl
                (try simp only [List.getElem_toArray, List.getElem_cons_succ, List.getElem_cons_zero, Act.put, List.setIfInBounds_toArray, List.set_cons_zero, List.set_cons_succ])
                replace KS := hide (KS.out.keep hb7)
                refine HeldTo.one (i := 7) (by kernel_rfl) rfl (fun K hK => ?_)
                go_simp
                refine (HLb2.out _ (below_step HX.out HS.out.2.2 (Nat.le_refl _))).mono ?_
                rintro e wy ⟨rfl, hb6⟩
                go_wp2_with fail
                replace HS := hide (And.intro (HS.out.1.keep hb6) (And.intro (HS.out.2.1.keep hb6) (below_step HS.out.2.2 hb6 (Nat.le_refl _))))
                refine hK.out _ _ (fun _ => HS.out) (fun h8 => ?_)
                clear h8 hK K
                (try simp only [List.getElem_toArray, List.getElem_cons_succ, List.getElem_cons_zero, Act.put, List.setIfInBounds_toArray, List.set_cons_zero, List.set_cons_succ])
                refine HeldTo.take (i := 8) (v := ?_) rfl (by kernel_rfl) (by kernel_rfl) (by kernel_rfl) (by kernel_rfl) (fun _ _ _ h => h) (Or.inl ⟨by rfl, ?_⟩) HS.out ?_
                rotate_left
                · intro V hSw
                  (try dsimp only at hSw)
                  have q9 := boxHi o1 o2 o3 o4 o5 o6 V
                  go_simp
                  first | done | with_reducible rfl
                (try simp only [List.getElem_toArray, List.getElem_cons_succ, List.getElem_cons_zero, Act.put, List.setIfInBounds_toArray, List.set_cons_zero, List.set_cons_succ])
                refine HeldTo.take (i := 9) (v := ?_) rfl (by kernel_rfl) (by kernel_rfl) (by kernel_rfl) (by kernel_rfl) (fun _ _ _ h => h) (Or.inl ⟨by rfl, ?_⟩) HS.out ?_
                rotate_left
                · intro V hSw
                  (try dsimp only at hSw)
                  have q9 := ptX o4 o5 o6 V
                  go_simp
                  first | done | with_reducible rfl
                (try simp only [List.getElem_toArray, List.getElem_cons_succ, List.getElem_cons_zero, Act.put, List.setIfInBounds_toArray, List.set_cons_zero, List.set_cons_succ])
                refine HeldTo.take (i := 11) (v := ?_) rfl (by kernel_rfl) (by kernel_rfl) (by kernel_rfl) (by kernel_rfl) (fun _ _ _ h => h) (Or.inl ⟨by rfl, ?_⟩) HS.out ?_
                rotate_left
                · intro V hSw
                  (try dsimp only at hSw)
                  obtain ⟨z1, z2, z3, z4⟩ := ZZ.out
                  go_simp
                  first | done | with_reducible rfl
                (try simp only [List.getElem_toArray, List.getElem_cons_succ, List.getElem_cons_zero, Act.put, List.setIfInBounds_toArray, List.set_cons_zero, List.set_cons_succ])
                replace KS := hide (KS.out.keep hb6)
                refine HeldTo.take (i := 12) (v := ?_) rfl (by kernel_rfl) (by kernel_rfl) (by kernel_rfl) (by kernel_rfl) (fun _ _ _ h => h) (Or.inl ⟨by rfl, ?_⟩) HS.out ?_
                rotate_left
                · intro V hSw
                  (try dsimp only at hSw)
                  skip
                  go_simp
                  first | done | with_reducible rfl
                (try simp only [List.getElem_toArray, List.getElem_cons_succ, List.getElem_cons_zero, Act.put, List.setIfInBounds_toArray, List.set_cons_zero, List.set_cons_succ])
                have z0 := KS.out.frozen 0
                have z1 := KS.out.frozen 1
                have y0 := KS.out.cell 0
                have y1 := KS.out.cell 1
                simp at y0 y1
                have lr := KS.out.lt
                refine HeldTo.one (i := 14) (by kernel_rfl) rfl (fun K hK => ?_)
                go_simp
                refine hK.out _ _ (fun h9 => absurd h9 (by omega)) (fun h8 => HeldTo.done (by kernel_rfl) ?_ _)
                go_wp2_with fail
                go_meet
                exact ⟨wd.heap.size, rfl, hide ((KS.out.set_ 0 _).set_ 1 _), hide ((HS.out.2.2.setCell (p := ⟨wd.heap.size, 0, none⟩) hgs _).setCell (p := ⟨wd.heap.size, 1, none⟩) hgs _)⟩
            case rest =>
              clear HLa2 HLb2 ZZ K13 K14
              obtain ⟨g20, rfl, K20, hbc⟩ := hcut
              rename World => wv
              replace K1 := hide (K1.out.keep hbc.out)
              replace HX := hide (below_step HX.out hbc.out (Nat.le_refl _))
              clear hbc
              have q0 := K20.out.cell 0
              have q1 := K20.out.cell 1
              simp at q0 q1
              have lq := K20.out.lt
              cases hq : decide (SL < SH)
              · have HF := hide (HF2.out hq)
                clear HF1 HF2
                have Hrow9 := hide (Hrow.out.keep HX.out)
                have hx2 := Hbr.out.trans (HX.out.mono hbz)
                have hxz := hx2.size
                have Hints9 := hide (fun q hq => Ints.carry (Hints.out q hq) (HX.out.mono hbz) (Nat.le_refl _))
                have HIc := hide (Ints.carry HIr.out (HX.out.mono hbz) (Nat.le_refl _))
                have KN := hide (show Blk (wv.alloc (.cells #[.slice (some ⟨bi, oi, none⟩) ln c', .int .i64 (0), .int .i64 (0), .bool false, .int .i64 ar] 212)) wv.heap.size 212 (encChnX ⟨⟨cl, 0, 0, false, ar⟩, some ⟨bi, oi, none⟩, c'⟩).toArray by rw [encChnX, encChn5, ← Hln.out]; exact Blk.new wv _ _)
                go_wp2_with (first
                  | (refine wpList_load_row_g (by rfl) 212 (.tmp 11) rfl wr.heap.size rfl 212 _ (0, 0) _ K1.out Tryz.underlying212 rfl (by kernel_rfl) ?_)
                  | (at_builtin; refine wpList_append1 rfl (.tmp 141) (.tmp 143) 208 rfl w4.heap.size 212 (.agg #[.slice none 0 0, .int .i64 0, .int .i64 0, .bool false, .int .i64 0]) 5 56 encChnX Tryz.underlying208 (by kernel_rfl) rfl (by omega) encChnX_len encChnX_one _ acc ⟨⟨cl, 0, 0, false, ar⟩, some ⟨bi, oi, none⟩, c'⟩ rfl (Hrow9.out.alloc _) _ rfl KN.out (by omega) (by omega) (le_alloc hxz _) ?_; intro A9 c9 w9 hrow9 hb9 hkeep9))
                go_roundw
                case rel => exact ⟨k + 1, by omega, by go_num, ⟨acc ++ [⟨⟨cl, 0, 0, false, ar⟩, some ⟨bi, oi, none⟩, c'⟩], by simpa using hrow9, hide (by rw [← Hacc.out, HF.out, List.map_append]; rfl), hide (fun q hq => by
                  rcases List.mem_append.1 hq with hq | hq
                  · exact Ints.carry (Ints.carry (Hints9.out q hq) ((below_new wv _).mono hxz) (Nat.le_refl _)) hb9 (Nat.le_refl _)
                  · rw [List.mem_singleton] at hq
                    subst hq
                    exact Ints.carry (Ints.carry HIc.out ((below_new wv _).mono hxz) (Nat.le_refl _)) hb9 (Nat.le_refl _))⟩, (hx2.alloc hxz _).trans hb9⟩
                case measure => simp [intOf]; omega
              · have HF := hide (HF1.out hq)
                clear HF1 HF2
                have z1 := K1.out.frozen 1
                have z2 := K1.out.frozen 2
                have z3 := K1.out.frozen 3
                have y1 := K1.out.cell 1
                have y2 := K1.out.cell 2
                have y3 := K1.out.cell 3
                simp at y1 y2 y3
                have lr := K1.out.lt
                go_upto_region 29 with fail
                clear q0 q1 lq z1 z2 z3 y1 y2 y3 lr
                have k1 := ((K1.out.set_ 1 (.int .i64 SL)).set_ 2 (.int .i64 SH)).set_ 3 (.bool true)
                simp only [List.setIfInBounds_toArray, List.set_cons_zero, List.set_cons_succ] at k1
                have hx := ((HX.out.setCell (p := ⟨wr.heap.size, 1, none⟩) (Nat.le_refl _) (.int .i64 SL)).setCell (p := ⟨wr.heap.size, 2, none⟩) (Nat.le_refl _) (.int .i64 SH)).setCell (p := ⟨wr.heap.size, 3, none⟩) (Nat.le_refl _) (.bool true)
                generalize World.setCell (World.setCell (World.setCell wv ⟨wr.heap.size, 1, none⟩ (.int .i64 SL)) ⟨wr.heap.size, 2, none⟩ (.int .i64 SH)) ⟨wr.heap.size, 3, none⟩ (.bool true) = wu at *
                replace K1 := hide k1
                replace HX := hide hx
                clear k1 hx
                have Hrow9 := hide (Hrow.out.keep HX.out)
                have hx2 := Hbr.out.trans (HX.out.mono hbz)
                have hxz := hx2.size
                have Hints9 := hide (fun q hq => Ints.carry (Hints.out q hq) (HX.out.mono hbz) (Nat.le_refl _))
                have HIc := hide (Ints.carry HIr.out (HX.out.mono hbz) (Nat.le_refl _))
                have KN := hide (show Blk (wu.alloc (.cells #[.slice (some ⟨bi, oi, none⟩) ln c', .int .i64 (SL), .int .i64 (SH), .bool true, .int .i64 ar] 212)) wu.heap.size 212 (encChnX ⟨⟨cl, SL, SH, true, ar⟩, some ⟨bi, oi, none⟩, c'⟩).toArray by rw [encChnX, encChn5, ← Hln.out]; exact Blk.new wu _ _)
                go_wp2_with (first
                  | (refine wpList_load_row_g (by rfl) 212 (.tmp 11) rfl wr.heap.size rfl 212 _ (0, 0) _ K1.out Tryz.underlying212 rfl (by kernel_rfl) ?_)
                  | (at_builtin; refine wpList_append1 rfl (.tmp 141) (.tmp 143) 208 rfl w4.heap.size 212 (.agg #[.slice none 0 0, .int .i64 0, .int .i64 0, .bool false, .int .i64 0]) 5 56 encChnX Tryz.underlying208 (by kernel_rfl) rfl (by omega) encChnX_len encChnX_one _ acc ⟨⟨cl, SL, SH, true, ar⟩, some ⟨bi, oi, none⟩, c'⟩ rfl (Hrow9.out.alloc _) _ rfl KN.out (by omega) (by omega) (le_alloc hxz _) ?_; intro A9 c9 w9 hrow9 hb9 hkeep9))
                go_roundw
                case rel => exact ⟨k + 1, by omega, by go_num, ⟨acc ++ [⟨⟨cl, SL, SH, true, ar⟩, some ⟨bi, oi, none⟩, c'⟩], by simpa using hrow9, hide (by rw [← Hacc.out, HF.out, List.map_append]; rfl), hide (fun q hq => by
                  rcases List.mem_append.1 hq with hq | hq
                  · exact Ints.carry (Ints.carry (Hints9.out q hq) ((below_new wu _).mono hxz) (Nat.le_refl _)) hb9 (Nat.le_refl _)
                  · rw [List.mem_singleton] at hq
                    subst hq
                    exact Ints.carry (Ints.carry HIc.out ((below_new wu _).mono hxz) (Nat.le_refl _)) hb9 (Nat.le_refl _))⟩, (hx2.alloc hxz _).trans hb9⟩
                case measure => simp [intOf]; omega

          · have db0 : decide (0 ≤ rodMain ldb) = false := decide_eq_false hb0
            have HF := hide (show chnOf x L cl = ⟨cl, 0, 0, false, ar⟩ by rw [HEnd.out, chnTo, spannedB, db0, if_neg (by simp)])
            clear HEnd
            have Hrow9 := hide (Hrow.out.keep HX.out)
            have hx2 := Hbr.out.trans (HX.out.mono hbz)
            have hxz := hx2.size
            have Hints9 := hide (fun q hq => Ints.carry (Hints.out q hq) (HX.out.mono hbz) (Nat.le_refl _))
            have HIc := hide (Ints.carry HIr.out (HX.out.mono hbz) (Nat.le_refl _))
            have KN := hide (show Blk (w7.alloc (.cells #[.slice (some ⟨bi, oi, none⟩) ln c', .int .i64 (0), .int .i64 (0), .bool false, .int .i64 ar] 212)) w7.heap.size 212 (encChnX ⟨⟨cl, 0, 0, false, ar⟩, some ⟨bi, oi, none⟩, c'⟩).toArray by rw [encChnX, encChn5, ← Hln.out]; exact Blk.new w7 _ _)
            go_wp2_with (first
              | (refine wpList_load_row_g (by rfl) 212 (.tmp 11) rfl wr.heap.size rfl 212 _ (0, 0) _ K1.out Tryz.underlying212 rfl (by kernel_rfl) ?_)
              | (at_builtin; refine wpList_append1 rfl (.tmp 141) (.tmp 143) 208 rfl w4.heap.size 212 (.agg #[.slice none 0 0, .int .i64 0, .int .i64 0, .bool false, .int .i64 0]) 5 56 encChnX Tryz.underlying208 (by kernel_rfl) rfl (by omega) encChnX_len encChnX_one _ acc ⟨⟨cl, 0, 0, false, ar⟩, some ⟨bi, oi, none⟩, c'⟩ rfl (Hrow9.out.alloc _) _ rfl KN.out (by omega) (by omega) (le_alloc hxz _) ?_; intro A9 c9 w9 hrow9 hb9 hkeep9))
            go_roundw
            case rel => exact ⟨k + 1, by omega, by go_num, ⟨acc ++ [⟨⟨cl, 0, 0, false, ar⟩, some ⟨bi, oi, none⟩, c'⟩], by simpa using hrow9, hide (by rw [← Hacc.out, HF.out, List.map_append]; rfl), hide (fun q hq => by
              rcases List.mem_append.1 hq with hq | hq
              · exact Ints.carry (Ints.carry (Hints9.out q hq) ((below_new w7 _).mono hxz) (Nat.le_refl _)) hb9 (Nat.le_refl _)
              · rw [List.mem_singleton] at hq
                subst hq
                exact Ints.carry (Ints.carry HIc.out ((below_new w7 _).mono hxz) (Nat.le_refl _)) hb9 (Nat.le_refl _))⟩, (hx2.alloc hxz _).trans hb9⟩
            case measure => simp [intOf]; omega
        · have da0 : decide (0 ≤ rodMain lda) = false := decide_eq_false ha
          have HF := hide (show chnOf x L cl = ⟨cl, 0, 0, false, ar⟩ by rw [HEnd.out, chnTo, spannedB, da0, if_neg (by simp)])
          clear HEnd
          have Hrow9 := hide (Hrow.out.keep HX.out)
          have hx2 := Hbr.out.trans (HX.out.mono hbz)
          have hxz := hx2.size
          have Hints9 := hide (fun q hq => Ints.carry (Hints.out q hq) (HX.out.mono hbz) (Nat.le_refl _))
          have HIc := hide (Ints.carry HIr.out (HX.out.mono hbz) (Nat.le_refl _))
          have KN := hide (show Blk (w7.alloc (.cells #[.slice (some ⟨bi, oi, none⟩) ln c', .int .i64 (0), .int .i64 (0), .bool false, .int .i64 ar] 212)) w7.heap.size 212 (encChnX ⟨⟨cl, 0, 0, false, ar⟩, some ⟨bi, oi, none⟩, c'⟩).toArray by rw [encChnX, encChn5, ← Hln.out]; exact Blk.new w7 _ _)
          go_wp2_with (first
            | (refine wpList_load_row_g (by rfl) 212 (.tmp 11) rfl wr.heap.size rfl 212 _ (0, 0) _ K1.out Tryz.underlying212 rfl (by kernel_rfl) ?_)
            | (at_builtin; refine wpList_append1 rfl (.tmp 141) (.tmp 143) 208 rfl w4.heap.size 212 (.agg #[.slice none 0 0, .int .i64 0, .int .i64 0, .bool false, .int .i64 0]) 5 56 encChnX Tryz.underlying208 (by kernel_rfl) rfl (by omega) encChnX_len encChnX_one _ acc ⟨⟨cl, 0, 0, false, ar⟩, some ⟨bi, oi, none⟩, c'⟩ rfl (Hrow9.out.alloc _) _ rfl KN.out (by omega) (by omega) (le_alloc hxz _) ?_; intro A9 c9 w9 hrow9 hb9 hkeep9))
          go_roundw
          case rel => exact ⟨k + 1, by omega, by go_num, ⟨acc ++ [⟨⟨cl, 0, 0, false, ar⟩, some ⟨bi, oi, none⟩, c'⟩], by simpa using hrow9, hide (by rw [← Hacc.out, HF.out, List.map_append]; rfl), hide (fun q hq => by
            rcases List.mem_append.1 hq with hq | hq
            · exact Ints.carry (Ints.carry (Hints9.out q hq) ((below_new w7 _).mono hxz) (Nat.le_refl _)) hb9 (Nat.le_refl _)
            · rw [List.mem_singleton] at hq
              subst hq
              exact Ints.carry (Ints.carry HIc.out ((below_new w7 _).mono hxz) (Nat.le_refl _)) hb9 (Nat.le_refl _))⟩, (hx2.alloc hxz _).trans hb9⟩
          case measure => simp [intOf]; omega
    · obtain rfl : k = M := by omega
      have hfull : acc.map (·.ch) = CC.map (chnOf x L) := by rw [hacc.out, HMe.out, List.take_length]
      have hlen : k = acc.length := by rw [← HMl.out, ← hfull, List.length_map]
      have HCo := hide (show ChnsW wr wr.heap.size A0 (CC.map (chnOf x L)) by
        rw [← hfull]
        exact chnsW_row hrow hbz hints.out)
      have HRo := hide (show RodsW wr wr.heap.size AR L from HRd3.out.carry rodR_carried (hbr.mono (Nat.le_of_lt hz24)) (Nat.le_trans (Nat.le_of_lt hz24) hbz))
      have Hlen := hide hlen
      have k5 := K5.out.below hbr K5.out.lt
      have q0 := k5.cell 0
      simp at q0
      have lq := k5.lt
      clear hacc hrow hints hbr hfull hlen k5
      generalize acc.length = na at *
      go_wp2_with fail
      go_ret3
      exact ⟨AR, cR, A0, c0, by rw [HMl.out, Hlen.out]; rfl, HRo.out, HCo.out, HWr.out⟩
end Go.Proofs.YtkmpddaobncheaaGreatDoor
namespace Go.Proofs.YtkmpddaobncheaaGreatDoor
open Go.RowKit Go.Sort

set_option maxHeartbeats 4000000 in
set_option maxRecDepth 100000 in
/-- Whether a laid bar of a chain is outside a demand. -/
theorem outside_any (x : DetD) (L : List LaidD) (AR : Option Addr) (N cR g1 g2 g3 p q : Nat) (C : Array Value) (A6 : Option Addr) (n6 c6 : Nat) (d : DemD) (w : World) {B : Nat} (hr : RodsW w B AR L) (h6 : DemsAt w B A6 x.dems) (hB : B ≤ w.heap.size)
    (hN : N = L.length) (hn6 : n6 = x.dems.length) (hrod : ∀ ld ∈ L, RodOk x ld) (hdem : ∀ d ∈ x.dems, d.name.size ≤ maxLen ∧ (d.steps.length : Int) ≤ 9223372036854775807 ∧ demOk d = true)
    (hg1 : Blk w g1 207 #[.slice AR N cR]) (hg2 : Blk w g2 34 C) (hC : C[9]? = some (.slice A6 n6 c6)) (hg3 : Blk w g3 3 #[.int .i64 (q : Int)]) (hp : p < N) (hq : x.dems[q]? = some d) :
    Calls Tryz.prog 186 #[.int .i64 (p : Int), .pointer (some ⟨g1, 0, none⟩), .pointer (some ⟨g2, 0, none⟩), .pointer (some ⟨g3, 0, none⟩)] w fun e w' => e = .returned (.bool (outB d L p)) ∧ Below w.heap.size w w' := by
  obtain ⟨b, off, ld, da, dc, la, lc, rfl, hbl, hx, hia, hba, hc⟩ := RodsW.get (k := p) hr (by rw [← hN]; exact hp)
  have ho := hrod ld (mem_of_get hx)
  have hqn : q < n6 := by rw [hn6]; exact lt_of_get hq
  obtain ⟨b6, o6, d', A9, c9, rfl, hb6, hd', hs9, hc9⟩ := DemsAt.get (k := q) h6 (lt_of_get hq)
  obtain rfl : d' = d := by rw [hq] at hd'; injection hd' with hd'; exact hd'.symm
  obtain ⟨hd1, hd2, hd3⟩ := hdem d' (mem_of_get hq)
  have Hr := hide (show outB d' L p = (decide (rodMain ld < 0) || !inZone d' (rodLeg ld)) by rw [outB, laidAt_get hx])
  generalize outB d' L p = res at *
  have lb : b < w.heap.size := Nat.lt_of_lt_of_le hbl hB
  have lb6 : b6 < w.heap.size := Nat.lt_of_lt_of_le hb6 hB
  have g10 := hg1.cell 0
  simp at g10
  have lg1 := hg1.lt
  have g29 := (hg2.cell 9).trans hC
  have lg2 := hg2.lt
  have g30 := hg3.cell 0
  simp at g30
  have lg3 := hg3.lt
  have m6 := hc 6 _ rfl
  have p1 : (p : Int) < (N : Int) := by omega
  have p2 : (0 : Int) ≤ (p : Int) := by omega
  have q1 : (q : Int) < (n6 : Int) := by omega
  have q2 : (0 : Int) ≤ (q : Int) := by omega
  by_cases hm : rodMain ld < 0
  · have dm : decide (rodMain ld < 0) = true := decide_eq_true hm
    rw [dm] at Hr
    go_enter Tryz.func186, Tryz.ntmps186
    go_wp2_with fail
    go_ret
    exact ⟨ret_bool (by rw [Hr.out]; rfl), Below.refl _ _⟩
  · have dm : decide (rodMain ld < 0) = false := decide_eq_false hm
    rw [dm, Bool.false_or] at Hr
    have hm0 : 0 ≤ rodMain ld := by omega
    have HLg := hide (fun d os => leg_ok2 ld da dc la lc (grow (redrawn w d) os) (hba.carry (Flat.carried _) ((below_regrown w d os).mono hB) (Nat.le_refl _)) (Nat.le_trans hB (below_regrown w d os).size) hm0 ho.few)
    have HIn := hide (fun d os => dmIn_ok d' A9 c9 (rodLeg ld) (grow (redrawn w d) os) (SlOf.carry (Flat.carried _) hs9 ((below_regrown w d os).mono hB) (Nat.le_refl _)) (Nat.le_trans hB (below_regrown w d os).size) hd1 hd2 hd3 (rodLeg_ok ho hm0))
    generalize inZone d' (rodLeg ld) = iz at *
    generalize rodLeg ld = lg at *
    obtain ⟨⟨r1, r2, r3⟩, r4, r5, r6⟩ := lg
    have HLg2 := hide (fun d os => show Calls Tryz.prog 188 #[.agg (rodCells ld da dc la lc)] (grow (redrawn w d) os) fun e w' => e = .returned (.agg #[.int .i64 r1, .int .i64 r2, .int .i64 r3, .int .i64 r4, .int .i64 r5, .int .i64 r6]) ∧ Below (grow (redrawn w d) os).heap.size (grow (redrawn w d) os) w' from HLg.out d os)
    have HIn2 := hide (fun d os => show Calls Tryz.prog 187 #[dmV d' A9 d'.steps.length c9, .agg #[.int .i64 r1, .int .i64 r2, .int .i64 r3, .int .i64 r4, .int .i64 r5, .int .i64 r6]] (grow (redrawn w d) os) fun e w' => e = .returned (.tuple #[.bool iz, .int .i64 0]) ∧ Below (grow (redrawn w d) os).heap.size (grow (redrawn w d) os) w' from HIn.out d os)
    have f0 := cell_regrown (hc 0 _ rfl)
    have f1 := cell_regrown (hc 1 _ rfl)
    have f2 := cell_regrown (hc 2 _ rfl)
    have f3 := cell_regrown (hc 3 _ rfl)
    have f4 := cell_regrown (hc 4 _ rfl)
    have f5 := cell_regrown (hc 5 _ rfl)
    have f6 := cell_regrown (hc 6 _ rfl)
    have h0 := cell_regrown (hc9 0 _ rfl)
    have h1 := cell_regrown (hc9 1 _ rfl)
    have h2 := cell_regrown (hc9 2 _ rfl)
    have h3 := cell_regrown (hc9 3 _ rfl)
    have h4 := cell_regrown (hc9 4 _ rfl)
    have h5 := cell_regrown (hc9 5 _ rfl)
    have h6' := cell_regrown (hc9 6 _ rfl)
    have h7 := cell_regrown (hc9 7 _ rfl)
    have k1 := cell_regrown g10
    have k2 := cell_regrown g29
    have k3 := cell_regrown g30
    simp only [Nat.add_zero] at f0 h0
    clear hr h6 hB hN hn6 hrod hdem hg1 hg2 hC hg3 hp hq hia hba hc hc9 hs9 hx hd' ho HLg HIn hm hm0 hd1 hd2 hd3 hbl hb6
    go_enter Tryz.func186, Tryz.ntmps186
    go_wp2_with fail
    refine wp_region_quiet_below (by kernel_rfl) (by kernel_rfl) ?_
    repeat (go_big_quiet_step (first
      | (go_at_call 188; with_reducible exact Calls.regrown_of (HLg2.out _ _))
      | (go_at_call 187; with_reducible exact Calls.regrown_of (HIn2.out _ _))))
    refine wpQuiet_nil ?_
    intro wq hw'
    have hb := hide (show Below w.heap.size w wq by obtain ⟨p9, rfl⟩ := hw'; exact below_regrown _ _ _)
    clear hw'
    go_wp2_with fail
    go_ret
    exact ⟨ret_bool (by rw [Hr.out]), hb.out⟩
set_option maxHeartbeats 8000000 in
set_option maxRecDepth 100000 in
theorem suppliers_ok (x : DetD) (s : DetS) (q : Nat) (d : DemD) (w : World) {B : Nat} (h : DetAt w B x s) (hB : B ≤ w.heap.size) (hf : DetFit x s) (hd : detOk x = true) (hq : x.dems[q]? = some d)
    (hdem : ∀ d ∈ x.dems, d.name.size ≤ maxLen ∧ (d.steps.length : Int) ≤ 9223372036854775807 ∧ demOk d = true) :
    Calls Tryz.prog 131 #[detV x s, .int .i64 (q : Int)] w fun e w' => ∃ A c A2 c2, e = .returned (.tuple #[.slice A (laidAll x.bars x.runs).length c, .slice A2 (supOf x d).length c2, .int .i64 0]) ∧ ChnsW w' w'.heap.size A2 (supOf x d) ∧ Below w.heap.size w w' := by
  have hok := (detOk_parts hd).2.1
  have HC := hide (fun (W : World) (hz : Below w.heap.size w W) => show Calls Tryz.prog 185 #[.agg (detCells x.mem x.rule s)] W _ from schains_ok x s W (h.carry (hz.mono hB) (Nat.le_refl _)) (Nat.le_trans hB hz.size) hf hd)
  have H6 := hide (fun (W : World) (hz : Below w.heap.size w W) => SlOf.carry demR_carried h.h6 (hz.mono hB) (Nat.le_refl B))
  have Hrod := hide (fun (ld : LaidD) (hl : ld ∈ laidAll x.bars x.runs) => laid_rod hok hl)
  have Hdem := hide hdem
  have Hq := hide hq
  have L6 := hide hf.l6
  have hq6 : q < s.n6 := by rw [hf.l6]; exact lt_of_get hq
  have hN2 : (laidAll x.bars x.runs).length ≤ 2000 := (laidOk_len hok).2
  have hM2 : (chnsOf x).length ≤ (mainsOf x).length := by rw [chnsOf, List.length_map]; exact chainsTo_len x _
  rw [mainsOf_len] at hM2
  have Hmem := hide (fun (c : ChnD) (hc : c ∈ chnsOf x) => show c.bars.length ≤ 2001 ∧ ∀ z ∈ c.bars, ∃ p : Nat, z = p ∧ p < (laidAll x.bars x.runs).length by
    rw [chnsOf, List.mem_map] at hc
    obtain ⟨cl, hcl, rfl⟩ := hc
    have e9 : (chnOf x (laidAll x.bars x.runs) cl).bars = cl := by
      unfold chnOf chnTo
      split <;> rfl
    rw [e9]
    obtain ⟨_, h2, h3⟩ := chainsOf_mem hd hcl
    rw [mainsOf_len] at h2 h3
    refine ⟨by omega, fun z hz => ⟨z.toNat, ?_, ?_⟩⟩
    · have := h3 z hz; omega
    · have := h3 z hz; omega)
  obtain ⟨L, hL⟩ : ∃ L, L = laidAll x.bars x.runs := ⟨_, rfl⟩
  obtain ⟨CH, hCH⟩ : ∃ CH, CH = chnsOf x := ⟨_, rfl⟩
  obtain ⟨N, hN⟩ : ∃ N, N = L.length := ⟨_, rfl⟩
  obtain ⟨M, hM⟩ : ∃ M, M = CH.length := ⟨_, rfl⟩
  have HS := hide (show supOf x d = CH.filter (supB d L) by rw [hCH, hL]; rfl)
  rw [← hL] at HC Hrod hN2 hM2 Hmem ⊢
  rw [← hCH] at HC hM2 Hmem
  rw [← hN] at HC hN2 hM2 Hmem ⊢
  rw [← hM] at HC hM2
  have HNe := hide hN
  have HMe := hide hM
  rw [HS.out]
  have HC9 := hide (show (detCells x.mem x.rule s)[9]? = some (.slice s.a6 s.n6 s.c6) from rfl)
  have K0 := hide ((Blk.new w 34 (detCells x.mem x.rule s)).alloc (.cells #[.int .i64 (q : Int)] 3))
  have K3 := hide (Blk.new1 w (.cells (detCells x.mem x.rule s) 34) 3 #[.int .i64 (q : Int)])
  have HW := hide (below_new2 w (.cells (detCells x.mem x.rule s) 34) (.cells #[.int .i64 (q : Int)] 3))
  have Hi := hide (show (Tryz.prog.info? 34).map (·.size) = some 19 by kernel_rfl)
  have Hsz := hide (show (detCells x.mem x.rule s).size = 19 from rfl)
  have HBB := hide hB
  show Calls Tryz.prog 131 #[.agg (detCells x.mem x.rule s), .int .i64 (q : Int)] w _
  generalize detCells x.mem x.rule s = C at *
  clear h hB hf hd hok hL hCH hN hM hq hdem
  obtain ⟨a1, n1, c1, a2, n2, c2, a3, n3, c3, a4, n4, c4, a5, n5, c5, a6, n6, c6⟩ := s
  simp only at H6 L6 hq6 HC9
  go_enter Tryz.func131, Tryz.ntmps131
  go_wp2_with (refine wpList_load_row rfl 34 (.tmp 2) rfl w.heap.size rfl 34 _ (0, 0) _ K0.out Tryz.underlying34 rfl (by rw [Hsz.out]; exact Hi.out) ?_)
  refine (HC.out _ HW.out).mono ?_
  rintro e w1 ⟨AR, cR, A1, cc1, rfl, hrods, hchn, hb⟩
  have HW1 := below_step HW.out hb (Nat.le_refl _)
  have HRd := hide (hrods.carry rodR_carried (below_new w1 (.cells #[.slice AR N cR] 207)) (Nat.le_refl _))
  have HCn := hide (SlOf.carry chnR_carried hchn (below_new w1 (.cells #[.slice AR N cR] 207)) (Nat.le_refl _))
  replace K0 := hide ((K0.out.keep hb).alloc (.cells #[.slice AR N cR] 207))
  replace K3 := hide ((K3.out.keep hb).alloc (.cells #[.slice AR N cR] 207))
  replace HW := hide (HW1.alloc HW1.size (.cells #[.slice AR N cR] 207))
  have K7 := hide (Blk.new w1 207 #[.slice AR N cR])
  obtain ⟨w3, hw3⟩ : ∃ q, q = w1.alloc (.cells #[.slice AR N cR] 207) := ⟨_, rfl⟩
  have hz13 : w1.heap.size < w3.heap.size := by rw [hw3]; simp
  rw [← hw3] at K0 K3 K7 HW HRd HCn
  obtain ⟨g7, hg7⟩ : ∃ q, q = w1.heap.size := ⟨_, rfl⟩
  rw [← hg7] at K7 HRd HCn hz13
  clear hb hrods hchn HC HW1
  go_upto_region 2 with fail
  rw [← hw3, ← hg7]
  clear hw3 hg7
  have e9 := (K0.out.cell 9).trans HC9.out
  have lk0 := K0.out.lt
  have e3 := K3.out.cell 0
  simp at e3
  have lk3 := K3.out.lt
  have j1 : decide ((q : Int) < 0) = false := by simp
  have j2 : decide ((n6 : Int) ≤ (q : Int)) = false := by simp; omega
  have j3 : decide (n6 ≤ q) = false := by simp; omega
  go_wp2_with fail
  clear e9 lk0 e3 lk3 j1 j2 j3
  go_loopw [10, 36] (fun v iv wr => ∃ k : Nat, k ≤ M ∧ iv = .int .i64 k ∧ (∃ acc : List ChnX, Row wr w3.heap.size 212 5 encChnX v acc ∧ Hid (acc.map (·.ch) = (CH.take k).filter (supB d L)) ∧ Hid (∀ y ∈ acc, Ints wr w3.heap.size y.A y.ch.bars)) ∧ Below w3.heap.size w3 wr) (fun _ iv _ => M - (intOf iv).toNat)
  case atStart => exact ⟨0, Nat.zero_le _, rfl, ⟨[], Row.nil _ _ _ _ _, hide rfl, hide (fun y h => by cases h)⟩, Below.refl _ _⟩
  case round =>
    rename World => wr
    obtain ⟨k, hk, rfl, ⟨acc, hrow, hacc, hints⟩, hbr⟩ := hrel
    obtain ⟨A0, c0, rfl⟩ := hrow.val
    have hal : acc.length ≤ 2000 := by
      have h9 := congrArg List.length hacc.out
      rw [List.length_map] at h9
      have h8 := List.length_filter_le (supB d L) (CH.take k)
      rw [List.length_take] at h8
      omega
    have HWr := hide (below_step HW.out hbr (Nat.le_refl _))
    have hbz := hbr.size
    by_cases hlt : k < M
    · obtain ⟨b, off, y, A', c', hA7, hbl, hcx, hic, hc⟩ := ChnsW.get (k := k) (SlOf.carry chnR_carried HCn.out (hbr.mono (Nat.le_of_lt hz13)) (Nat.le_refl _)) (by rw [← HMe.out]; exact hlt)
      subst hA7
      obtain ⟨hlen, hmem⟩ := Hmem.out y (mem_of_get hcx)
      have hbw : b < wr.heap.size := Nat.lt_of_lt_of_le (Nat.lt_trans hbl hz13) hbz
      have HRr := hide (HRd.out.carry rodR_carried (hbr.mono (Nat.le_of_lt hz13)) (Nat.le_refl _))
      have K0r := hide (K0.out.below hbr K0.out.lt)
      have K3r := hide (K3.out.below hbr K3.out.lt)
      have K7r := hide (K7.out.below hbr K7.out.lt)
      have hgz : g7 ≤ wr.heap.size := Nat.le_trans (Nat.le_of_lt hz13) hbz
      have hBz : B ≤ g7 ∨ g7 ≤ B := Nat.le_total _ _
      have HT := hide (fun (W : World) (hz : Below wr.heap.size wr W) => containsFuncIntC_any A' y.bars y.bars.length c' 186 #[.pointer (some ⟨g7, 0, none⟩), .pointer (some ⟨w.heap.size, 0, none⟩), .pointer (some ⟨w.heap.size + 1, 0, none⟩)] (outB d L) W (Ints.carry hic (hz.mono hgz) (Nat.le_refl _)) (Nat.le_trans hgz hz.size) rfl (by omega) Tryz.call186 (fun z W' hzm hz' => by
        obtain ⟨p, rfl, hpn⟩ := hmem z hzm
        have hz2 := below_step hz hz' (Nat.le_refl _)
        have hw2 := below_step HWr.out hz2 (Nat.le_refl _)
        exact outside_any x L AR N cR g7 w.heap.size (w.heap.size + 1) p q C a6 n6 c6 d W' (B := W'.heap.size) (HRr.out.carry rodR_carried (hz2.mono hgz) (Nat.le_trans hgz hz2.size)) (SlOf.carry demR_carried (H6.out _ hw2) (Below.refl _ _) (Nat.le_trans HBB.out hw2.size)) (Nat.le_refl _) HNe.out L6.out Hrod.out Hdem.out (K7r.out.keep hz2) (K0r.out.keep hz2) HC9.out (K3r.out.keep hz2) hpn Hq.out))
      have Hsn := hide (show (CH.take (k + 1)).filter (supB d L) = acc.map (·.ch) ++ (if y.is && !(someOf (outB d L) y.bars) then [y] else []) by
        rw [take_snoc' hcx, List.filter_append, hacc.out]
        congr 1
        cases hq9 : (y.is && !(someOf (outB d L) y.bars))
        · rw [List.filter_cons_of_neg (by rw [supB, hq9]; simp)]; rfl
        · rw [List.filter_cons_of_pos (by rw [supB, hq9])]; rfl)
      have HIr := hide hic
      have Hrow := hide hrow
      have Hints := hide hints.out
      have Hacc := hide hacc.out
      have Hbr := hide hbr
      have e0 := hc 0 _ rfl
      have e1 := hc 1 _ rfl
      have e2 := hc 2 _ rfl
      have e3 := hc 3 _ rfl
      have e4 := hc 4 _ rfl
      simp only [Nat.add_zero] at e0
      generalize someOf (outB d L) y.bars = so at *
      obtain ⟨bars, lo, hi, is, area⟩ := y
      simp only at e0 e1 e2 e3 e4 HT Hsn HIr hlen
      obtain ⟨bn, hbn⟩ : ∃ bn, bn = bars.length := ⟨_, rfl⟩
      have Hbn := hide hbn
      rw [← hbn] at e0 HT
      have K1 := hide (Blk.new wr 212 #[.slice A' bn c', .int .i64 lo, .int .i64 hi, .bool is, .int .i64 area])
      have HX := hide (below_new wr (.cells #[.slice A' bn c', .int .i64 lo, .int .i64 hi, .bool is, .int .i64 area] 212))
      clear hcx hic hc hrow hints hbr hacc hmem hbn hbl
      have f0 := K1.out.cell 0
      simp at f0
      have lf := K1.out.lt
      go_wp2_with fail
      refine (HT.out _ HX.out).mono ?_
      rintro e w5 ⟨rfl, hb⟩
      replace K1 := hide (K1.out.keep hb)
      replace HX := hide (below_step HX.out hb (Nat.le_refl _))
      clear hb HT e0 e1 e2 e3 e4 f0 lf
      have f3 := K1.out.cell 3
      simp at f3
      have lf := K1.out.lt
      have Hrow9 := hide (Hrow.out.keep HX.out)
      have hx2 := Hbr.out.trans (HX.out.mono hbz)
      have hxz := hx2.size
      have Hints9 := hide (fun y hy => Ints.carry (Hints.out y hy) (HX.out.mono hbz) (Nat.le_refl _))
      cases is
      · have Hs2 := hide (show acc.map (·.ch) = (CH.take (k + 1)).filter (supB d L) by rw [Hsn.out]; simp)
        go_wp2_with fail
        go_roundw
        case rel => exact ⟨k + 1, by omega, by go_num, ⟨acc, Hrow9.out, Hs2, Hints9⟩, hx2⟩
        case measure => simp [intOf]; omega
      cases so
      · have HIc := hide (Ints.carry HIr.out (HX.out.mono hgz) (Nat.le_trans (Nat.le_of_lt hz13) (Nat.le_refl _)))
        have KN := hide (show Blk (w5.alloc (.cells #[.slice A' bn c', .int .i64 lo, .int .i64 hi, .bool true, .int .i64 area] 212)) w5.heap.size 212 (encChnX ⟨⟨bars, lo, hi, true, area⟩, A', c'⟩).toArray by rw [encChnX, encChn5, ← Hbn.out]; exact Blk.new w5 _ _)
        have Hs2 := hide (show acc.map (·.ch) ++ [⟨bars, lo, hi, true, area⟩] = (CH.take (k + 1)).filter (supB d L) by rw [Hsn.out]; rfl)
        go_wp2_with (first
          | (refine wpList_load_row_g (by rfl) 212 (.tmp 12) rfl wr.heap.size rfl 212 _ (0, 0) _ K1.out Tryz.underlying212 rfl (by kernel_rfl) ?_)
          | (at_builtin; refine wpList_append1 rfl (.tmp 50) (.tmp 52) 208 rfl w3.heap.size 212 (.agg #[.slice none 0 0, .int .i64 0, .int .i64 0, .bool false, .int .i64 0]) 5 56 encChnX Tryz.underlying208 (by kernel_rfl) rfl (by omega) encChnX_len encChnX_one _ acc ⟨⟨bars, lo, hi, true, area⟩, A', c'⟩ rfl (Hrow9.out.alloc _) _ rfl KN.out (by omega) (by omega) (le_alloc hxz _) ?_; intro A9 c9 w9 hrow9 hb9 hkeep9))
        go_roundw
        case rel => exact ⟨k + 1, by omega, by go_num, ⟨acc ++ [⟨⟨bars, lo, hi, true, area⟩, A', c'⟩], by simpa using hrow9, hide (by rw [List.map_append]; exact Hs2.out), hide (fun y hy => by
          rcases List.mem_append.1 hy with hy | hy
          · exact Ints.carry (Ints.carry (Hints9.out y hy) ((below_new w5 _).mono hxz) (Nat.le_refl _)) hb9 (Nat.le_refl _)
          · rw [List.mem_singleton] at hy
            subst hy
            exact Ints.carry (Ints.carry HIc.out ((below_new w5 _).mono hxz) (Nat.le_refl _)) hb9 (Nat.le_refl _))⟩, (hx2.alloc hxz _).trans hb9⟩
        case measure => simp [intOf]; omega
      · have Hs2 := hide (show acc.map (·.ch) = (CH.take (k + 1)).filter (supB d L) by rw [Hsn.out]; simp)
        go_wp2_with fail
        go_roundw
        case rel => exact ⟨k + 1, by omega, by go_num, ⟨acc, Hrow9.out, Hs2, Hints9⟩, hx2⟩
        case measure => simp [intOf]; omega
    · obtain rfl : k = M := by omega
      have hfull : acc.map (·.ch) = CH.filter (supB d L) := by rw [hacc.out, HMe.out, List.take_length]
      have hlen : (CH.filter (supB d L)).length = acc.length := by rw [← hfull, List.length_map]
      have HCo := hide (show ChnsW wr wr.heap.size A0 (CH.filter (supB d L)) by
        rw [← hfull]
        exact chnsW_row hrow hbz hints.out)
      have k7 := K7.out.below hbr K7.out.lt
      have q0 := k7.cell 0
      simp at q0
      have lq := k7.lt
      have Hlen := hide hlen
      clear hacc hrow hints hbr hfull hlen k7
      generalize acc.length = na at *
      go_wp2_with fail
      go_ret3
      exact ⟨AR, cR, A0, c0, by rw [Hlen.out]; rfl, HCo.out, HWr.out⟩
end Go.Proofs.YtkmpddaobncheaaGreatDoor
namespace Go.Proofs.YtkmpddaobncheaaGreatDoor
open Go.RowKit

theorem wrap_as (x : Int) : IntKind.i64.wrap x = wrap64 x := by
  unfold wrap64
  have h0 : IntKind.i64.wrap x = if (true && decide (x % 18446744073709551616 ≥ 9223372036854775808)) = true then x % 18446744073709551616 - 18446744073709551616 else x % 18446744073709551616 := rfl
  rw [h0]
  split
  · rename_i h
    simp at h
    omega
  · rename_i h
    simp at h
    omega
set_option maxHeartbeats 2000000 in
theorem svalue_any (l : List ChnD) (A : Option Addr) (n c : Nat) (p : Int) (w : World) {B : Nat} (h : ChnsW w B A l) (hB : B ≤ w.heap.size) (hn : n = l.length) (hm : n ≤ 300000) :
    Calls Tryz.prog 132 #[.slice A n c, .int .i64 p] w fun e w' => e = .returned (.int .i64 (valueOf l p)) ∧ Below w.heap.size w w' := by
  have HL := hide (fun (W : World) (hz : Below w.heap.size w W) => SlOf.carry chnR_carried h (hz.mono hB) (Nat.le_refl B))
  have HB := hide hB
  have Hn := hide hn
  obtain ⟨VT, hVT⟩ : ∃ VT : Nat → Int, VT = fun k => (l.take k).foldl (valStep p) 0 := ⟨_, rfl⟩
  have hv0 : VT 0 = 0 := by rw [hVT]; rfl
  have Hvs := hide (fun (k : Nat) (y : ChnD) (hy : l[k]? = some y) => show VT (k + 1) = (if decide (y.lo ≤ p) && decide (p < y.hi) then IntKind.i64.wrap (VT k + y.area) else VT k) by
    rw [hVT]
    show (l.take (k + 1)).foldl (valStep p) 0 = _
    rw [take_snoc' hy, List.foldl_append]
    rfl)
  have Hvn := hide (show valueOf l p = VT n by rw [hVT, hn]; show _ = (l.take l.length).foldl (valStep p) 0; rw [List.take_length]; rfl)
  rw [Hvn.out]
  clear h hB hn hVT Hvn
  go_enter Tryz.func132, Tryz.ntmps132
  go_wp2_with fail
  go_loopw [5, 10] (fun v iv wr => ∃ k : Nat, k ≤ n ∧ iv = .int .i64 k ∧ v = .int .i64 (VT k) ∧ Below w.heap.size w wr) (fun _ iv _ => n - (intOf iv).toNat)
  case atStart => exact ⟨0, Nat.zero_le _, rfl, by rw [hv0], Below.refl _ _⟩
  case round =>
    clear hv0
    obtain ⟨k, hk, rfl, rfl, hb⟩ := hrel
    rename World => wr
    by_cases hlt : k < n
    · obtain ⟨b, off, y, A', c', rfl, hbl, hy, _, hc⟩ := ChnsW.get (k := k) (HL.out _ hb) (by rw [← Hn.out]; exact hlt)
      have Hs := hide (Hvs.out k y hy)
      have e0 := hc 0 _ rfl
      have e1 := hc 1 _ rfl
      have e2 := hc 2 _ rfl
      have e3 := hc 3 _ rfl
      have e4 := hc 4 _ rfl
      simp only [Nat.add_zero] at e0
      have lb : b < wr.heap.size := Nat.lt_of_lt_of_le hbl (Nat.le_trans HB.out hb.size)
      obtain ⟨bars, lo, hi, is, area⟩ := y
      simp only at e0 e1 e2 e3 e4 Hs
      generalize bars.length = bn at *
      generalize VT k = v0 at *
      have HX := hide (hb.alloc hb.size (.cells #[.slice A' bn c', .int .i64 lo, .int .i64 hi, .bool is, .int .i64 area] 212))
      clear hy hc hbl hb
      cases q1 : decide (lo ≤ p)
      · rw [q1] at Hs
        go_wp2_with fail
        go_roundw
        case rel => exact ⟨k + 1, by omega, by go_num, by rw [Hs.out]; rfl, HX.out⟩
        case measure => simp [intOf]; omega
      · rw [q1] at Hs
        cases q2 : decide (p < hi)
        · rw [q2] at Hs
          go_wp2_with fail
          go_roundw
          case rel => exact ⟨k + 1, by omega, by go_num, by rw [Hs.out]; rfl, HX.out⟩
          case measure => simp [intOf]; omega
        · rw [q2] at Hs
          go_wp2_with fail
          go_roundw
          case rel => exact ⟨k + 1, by omega, by go_num, by rw [Hs.out, wrap_as]; rfl, HX.out⟩
          case measure => simp [intOf]; omega
    · obtain rfl : k = n := by omega
      go_wp2_with fail
      go_ret
      exact ⟨rfl, hb⟩
end Go.Proofs.YtkmpddaobncheaaGreatDoor
namespace Go.Proofs.YtkmpddaobncheaaGreatDoor
open Go.RowKit

set_option maxHeartbeats 1000000 in
theorem stepsShort_bad (l : List (Int × Int)) (A : Option Addr) (n c : Nat) (w : World) {B : Nat} (h : StpsAt w B A l) (hB : B ≤ w.heap.size) (hn : n = l.length) (hm : n ≤ 60000) (hok : stepsOk l = false) :
    Calls Tryz.prog 133 #[.slice A n c] w fun e w' => e = .returned (.tuple #[.slice none 0 0, .int .i64 1]) ∧ Below w.heap.size w w' := by
  have HV := hide (stepsValid_any A l n c w h hB hn (by omega))
  rw [hok] at HV
  clear h hB hn hm hok
  go_enter Tryz.func133, Tryz.ntmps133
  go_wp2_with fail
  refine HV.out.mono ?_
  rintro e w1 ⟨rfl, hb⟩
  go_wp2_with fail
  go_ret2
  exact ⟨rfl, hb⟩
set_option maxHeartbeats 8000000 in
set_option maxRecDepth 100000 in
theorem supOf_ok (HSL : SortLaw) (HCL : CompLaw) (x : DetD) (s : DetS) (q : Nat) (d : DemD) (w : World) {B : Nat} (h : DetAt w B x s) (hB : B ≤ w.heap.size) (hf : DetFit x s) (hd : detOk x = true) (hq : x.dems[q]? = some d)
    (hdem : ∀ d ∈ x.dems, d.name.size ≤ maxLen ∧ (d.steps.length : Int) ≤ 9223372036854775807 ∧ demOk d = true) :
    Calls Tryz.prog 83 #[detV x s, .int .i64 (q : Int)] w fun e w' => ∃ A c, e = .returned (.tuple #[.slice A (supSteps x d).length c, .int .i64 (supErr x d)]) ∧ StpsAt w' w'.heap.size A (supSteps x d) ∧ Below w.heap.size w w' := by
  have HU := hide (fun (W : World) (hz : Below w.heap.size w W) => show Calls Tryz.prog 131 #[.agg (detCells x.mem x.rule s), .int .i64 (q : Int)] W _ from suppliers_ok x s q d W (h.carry (hz.mono hB) (Nat.le_refl _)) (Nat.le_trans hB hz.size) hf hd hq hdem)
  have hM2 : (supOf x d).length ≤ 2000 := by
    refine Nat.le_trans (supOf_len x d) ?_
    rw [mainsOf_len]
    exact (laidOk_len (detOk_parts hd).2.1).2
  have Hraw := hide (show rawOf x d = stepsUp (valueOf (supOf x d)) 0 (sortC (spotsOf (supOf x d))) from rfl)
  have HE1 := hide (fun (q : 200 < (rawOf x d).length) => show supErr x d = 4 ∧ supSteps x d = [] by
    have e1 : supErr x d = 4 := by rw [supErr, if_pos q]
    exact ⟨e1, by rw [supSteps, e1]; rfl⟩)
  have HE2 := hide (fun (q : ¬ 200 < (rawOf x d).length) (q2 : stepsOk (rawOf x d) = true) => show supErr x d = 0 ∧ supSteps x d = shortFrom 0 (rawOf x d) by
    have e1 : supErr x d = 0 := by rw [supErr, if_neg q, if_pos q2]
    exact ⟨e1, by rw [supSteps, e1]; rfl⟩)
  have HE3 := hide (fun (q : ¬ 200 < (rawOf x d).length) (q2 : stepsOk (rawOf x d) = false) => show supErr x d = 1 ∧ supSteps x d = [] by
    have e1 : supErr x d = 1 := by rw [supErr, if_neg q, q2]; rfl
    exact ⟨e1, by rw [supSteps, e1]; rfl⟩)
  generalize supErr x d = SE at *
  generalize supSteps x d = SS at *
  generalize rawOf x d = RAW at *
  generalize supOf x d = SL at *
  have K0 := hide (Blk.new w 34 (detCells x.mem x.rule s))
  have HW := hide (below_new w (.cells (detCells x.mem x.rule s) 34))
  have Hi := hide (show (Tryz.prog.info? 34).map (·.size) = some 19 by kernel_rfl)
  have Hsz := hide (show (detCells x.mem x.rule s).size = 19 from rfl)
  show Calls Tryz.prog 83 #[.agg (detCells x.mem x.rule s), .int .i64 (q : Int)] w _
  generalize detCells x.mem x.rule s = C at *
  obtain ⟨M, hM⟩ : ∃ M, M = SL.length := ⟨_, rfl⟩
  rw [← hM] at HU hM2
  have HM := hide hM
  clear h hB hf hd hq hdem hM
  go_enter Tryz.func83, Tryz.ntmps83
  go_wp2_with (refine wpList_load_row rfl 34 (.tmp 2) rfl w.heap.size rfl 34 _ (0, 0) _ K0.out Tryz.underlying34 rfl (by rw [Hsz.out]; exact Hi.out) ?_)
  refine (HU.out _ HW.out).mono ?_
  rintro e w1 ⟨A0, c0, A1, c1, rfl, hch, hb⟩
  have HW1 := hide (below_step HW.out hb (Nat.le_refl _))
  have HCh := hide hch
  clear hb hch HU HW K0 Hi Hsz
  go_wp2_with fail
  go_loopw [9, 29] (fun v iv wr => ∃ k : Nat, k ≤ M ∧ iv = .int .i64 k ∧ (∃ acc : List Int, Row wr w1.heap.size 3 1 encInt v acc ∧ Hid (acc = spotsOf (SL.take k))) ∧ Below w1.heap.size w1 wr) (fun _ iv _ => M - (intOf iv).toNat)
  case atStart => exact ⟨0, Nat.zero_le _, rfl, ⟨[], Row.nil _ _ _ _ _, hide rfl⟩, Below.refl _ _⟩
  case round =>
    rename World => wr
    obtain ⟨k, hk, rfl, ⟨acc, hrow, hacc⟩, hbr⟩ := hrel
    obtain ⟨A2, c2, rfl⟩ := hrow.val
    have hal : acc.length ≤ 4000 := by
      rw [hacc.out, spotsOf_len, List.length_take]
      omega
    by_cases hlt : k < M
    · obtain ⟨b, off, y, A', c', hA, hbl, hy, _, hc⟩ := ChnsW.get (k := k) (SlOf.carry chnR_carried HCh.out hbr (Nat.le_refl _)) (by rw [← HM.out]; exact hlt)
      subst hA
      have Hn := hide (show acc ++ [y.lo, y.hi] = spotsOf (SL.take (k + 1)) by rw [take_snoc' hy, hacc.out, spotsOf, spotsOf, List.flatMap_append]; rfl)
      have e0 := hc 0 _ rfl
      have e1 := hc 1 _ rfl
      have e2 := hc 2 _ rfl
      have e3 := hc 3 _ rfl
      have e4 := hc 4 _ rfl
      simp only [Nat.add_zero] at e0
      have lb : b < wr.heap.size := Nat.lt_of_lt_of_le hbl hbr.size
      obtain ⟨bars, lo, hi, is, area⟩ := y
      simp only at e0 e1 e2 e3 e4 Hn
      generalize bars.length = bn at *
      have hbz := hbr.size
      have HR2 := hide ((hrow.alloc (.cells #[.slice A' bn c', .int .i64 lo, .int .i64 hi, .bool is, .int .i64 area] 212)).alloc (.cells #[.int .i64 lo, .int .i64 hi] 3))
      have HB2 := hide ((hbr.alloc hbz (.cells #[.slice A' bn c', .int .i64 lo, .int .i64 hi, .bool is, .int .i64 area] 212)).alloc (le_alloc hbz _) (.cells #[.int .i64 lo, .int .i64 hi] 3))
      have hs1 : (wr.alloc (.cells #[.slice A' bn c', .int .i64 lo, .int .i64 hi, .bool is, .int .i64 area] 212)).heap.size = wr.heap.size + 1 := by simp
      have hy9 := SlOf.lit encInt_len (wr.alloc (.cells #[.slice A' bn c', .int .i64 lo, .int .i64 hi, .bool is, .int .i64 area] 212)) 3 #[.int .i64 lo, .int .i64 hi] [lo, hi] (by simp [encInt]) (Nat.lt_succ_self _)
      rw [hs1] at hy9
      have HY := hide hy9
      clear hy9 hs1 hy hc hbl hrow hbr
      go_wp2_with (at_builtin; refine wpList_appendG rfl _ _ 66 rfl w1.heap.size 3 (.int .i64 0) 1 8 encInt Tryz.underlying66 (by kernel_rfl) rfl (by omega) encInt_len encInt_one _ acc [lo, hi] rfl HR2.out (some ⟨wr.heap.size + 1, 0, none⟩) 2 2 rfl rfl HY.out (by omega) (by simp) (by omega) (by simp; omega) ?_; intro A7 c7 w7 hrow7 hb7 hg7)
      go_roundw
      case rel => exact ⟨k + 1, by omega, by go_num, ⟨acc ++ [lo, hi], hrow7, hide Hn.out⟩, HB2.out.trans hb7⟩
      case measure => simp [intOf]; omega
    · obtain rfl : k = M := by omega
      have hspots : acc = spotsOf SL := by rw [hacc.out, HM.out, List.take_length]
      have Hraw2 := hide (show RAW = stepsUp (valueOf SL) 0 (sortC acc) by rw [hspots]; exact Hraw.out)
      have HS := hide (HSL A2 acc acc.length c2 w1.heap.size wr hrow (by omega))
      have Hbr := hide hbr
      clear hrow hbr hacc hspots Hraw
      go_wp2_with fail
      refine HS.out.mono ?_
      rintro e w2 ⟨rfl, hr2, hb2⟩
      have hml : (acc.mergeSort fun x y => decide (x ≤ y)).length = acc.length := List.length_mergeSort acc
      have HC := hide (HCL A2 _ acc.length c2 w1.heap.size w2 hr2 (by rw [hml]; omega))
      replace Hbr := hide (Hbr.out.trans hb2)
      clear hr2 hb2 HS
      go_wp2_with fail
      refine HC.out.mono ?_
      rintro e w3 ⟨A3, rfl, hr3, hb3⟩
      replace Hbr := hide (Hbr.out.trans hb3)
      have hPl := sortC_len acc
      have Hsc := hide (show Lib.compact (acc.mergeSort fun x y => decide (x ≤ y)) = sortC acc from rfl)
      rw [Hsc.out] at hr3 ⊢
      obtain ⟨PL, hPL⟩ : ∃ PL, PL = sortC acc := ⟨_, rfl⟩
      rw [← hPL] at hr3 Hraw2 hPl ⊢
      obtain ⟨P, hP⟩ : ∃ P, P = PL.length := ⟨_, rfl⟩
      rw [← hP] at hr3 hPl ⊢
      have HP := hide hP
      have HPr := hide (Row.read hr3 encInt_len (by omega))
      clear hr3 hb3 HC hml hPL Hsc hP
      have HCh3 := hide (SlOf.carry chnR_carried HCh.out Hbr.out (Nat.le_refl _))
      have hz13 := Hbr.out.size
      have HVl := hide (fun (W : World) (hz : Below w3.heap.size w3 W) (p : Int) => svalue_any SL A1 k c1 p W (SlOf.carry chnR_carried HCh3.out (hz.mono hz13) (Nat.le_refl _)) (Nat.le_trans hz13 hz.size) HM.out (by omega))
      have Hup := hide (fun (i : Nat) (p : Int) (hp : PL[i]? = some p) (t : Int) => stepsUp_at (valueOf SL) hp t)
      generalize valueOf SL = V at *
      go_wp2_with fail
      go_loopw [12, 13, 48] (fun o la iv wo => ∃ i : Nat, i ≤ P ∧ iv = .int .i64 i ∧ (∃ t : Int, la = .int .i64 t ∧ ∃ (A9 : Option Addr) (c9 : Nat) (out : List (Int × Int)), o = .slice A9 out.length c9 ∧ Hid (Row wo w3.heap.size 112 2 encStp (.slice A9 out.length c9) out) ∧ Hid (out ++ stepsUp V t (PL.drop i) = RAW) ∧ Hid (out.length ≤ i)) ∧ Hid (Below w3.heap.size w3 wo)) (fun _ _ iv _ => P - (intOf iv).toNat)
      case atStart => exact ⟨0, Nat.zero_le _, rfl, ⟨0, rfl, none, 0, [], rfl, hide (Row.nil _ _ _ _ _), hide Hraw2.out.symm, hide (Nat.le_refl _)⟩, hide (Below.refl _ _)⟩
      case round =>
        clear Hraw2
        obtain ⟨i, hi, rfl, ⟨t, rfl, A9, c9, out, rfl, hrow, hout, hlen⟩, hbo⟩ := hrel
        rename World => wo
        by_cases hlt : i < P
        · obtain ⟨b, off, p, hA, hbl, hp, e0⟩ := Ints.get (k := i) (Ints.carry HPr.out hbo.out (Nat.le_refl _)) (by rw [← HP.out]; exact hlt)
          subst hA
          have lb : b < wo.heap.size := Nat.lt_of_lt_of_le hbl hbo.out.size
          have Hs := hide (Hup.out i p hp t)
          have HVp := hide (HVl.out wo hbo.out p)
          generalize V p = vp at *
          clear hbl hp
          go_wp2_with fail
          refine HVp.out.mono ?_
          rintro e w5 ⟨rfl, hb⟩
          replace hrow := hide (hrow.out.keep hb)
          replace hbo := hide (below_step hbo.out hb (Nat.le_refl _))
          clear hb HVp e0 lb
          by_cases hq : vp = t
          · subst hq
            have n0 : (vp != vp) = false := by simp
            rw [if_pos rfl] at Hs
            go_wp2_with fail
            go_roundw
            case rel => exact ⟨i + 1, by omega, by go_num, ⟨vp, rfl, A9, c9, out, rfl, hrow, hide (by rw [← hout.out, Hs.out]), hide (by have := hlen.out; omega)⟩, hbo⟩
            case measure => simp [intOf]; omega
          · have n0 : (vp != t) = true := by simpa using hq
            rw [if_neg hq] at Hs
            have hbz := hbo.out.size
            have HR2 := hide (hrow.out.alloc (.cells #[.int .i64 p, .int .i64 vp] 112))
            have HB2 := hide (hbo.out.alloc hbz (.cells #[.int .i64 p, .int .i64 vp] 112))
            have HY := hide (SlOf.lit encStp_len w5 112 #[.int .i64 p, .int .i64 vp] [(p, vp)] (by simp [encStp]) (Nat.lt_succ_self _))
            have hol := hlen.out
            go_wp2_with (at_builtin; refine wpList_appendG rfl _ _ 52 rfl w3.heap.size 112 (.agg #[.int .i64 0, .int .i64 0]) 2 16 encStp Tryz.underlying52 (by kernel_rfl) rfl (by omega) encStp_len encStp_one _ out [(p, vp)] rfl HR2.out (some ⟨w5.heap.size, 0, none⟩) 1 1 rfl rfl HY.out (by omega) (by simp) (by omega) (by simp; omega) ?_; intro A7 c7 w7 hrow7 hb7 hg7; have HR7 := hide hrow7; have HB7 := hide (HB2.out.trans hb7); clear hrow7 hb7 hg7)
            go_roundw
            case rel =>
              have hl7 : (out ++ [(p, vp)]).length = out.length + 1 := by simp
              exact ⟨i + 1, by omega, by go_num, ⟨vp, rfl, A7, c7, out ++ [(p, vp)], by rw [hl7], hide (by rw [hl7]; exact HR7.out), hide (by rw [← hout.out, Hs.out]; simp), hide (by rw [hl7]; omega)⟩, HB7⟩
            case measure => simp [intOf]; omega
        · obtain rfl : i = P := by omega
          have hr9 : out = RAW := by
            have h9 := hout.out
            rw [HP.out, List.drop_length, stepsUp, List.append_nil] at h9
            exact h9
          subst hr9
          have hlo := hlen.out
          have HB9 := hide (below_step HW1.out (Hbr.out.trans (hbo.out.mono hz13)) (Nat.le_refl _))
          have HRd := hide (Row.read hrow.out encStp_len (by omega))
          by_cases hbig : 200 < out.length
          · obtain ⟨e1, e2⟩ := HE1.out hbig
            subst e1
            have e2' := hide e2
            have d1 : decide ((200 : Int) < (out.length : Int)) = true := by simp; omega
            have d2 : decide (200 < out.length) = true := by simp; omega
            clear e2 hrow hout hlen
            go_wp2_with fail
            go_ret2
            exact ⟨none, ⟨0, by rw [e2'.out]; rfl⟩, by rw [e2'.out]; exact SlOf.nil _ _ _ _ _, HB9.out⟩
          · have d1 : decide ((200 : Int) < (out.length : Int)) = false := by simp; omega
            have d2 : decide (200 < out.length) = false := by simp; omega
            cases hok : stepsOk out
            · obtain ⟨e1, e2⟩ := HE3.out hbig hok
              subst e1
              have e2' := hide e2
              have HT := hide (stepsShort_bad out A9 out.length c9 wo HRd.out (Nat.le_refl _) rfl (by omega) hok)
              clear e2 hrow hout hlen hok
              go_wp2_with fail
              refine HT.out.mono ?_
              rintro e w6 ⟨rfl, hb⟩
              go_wp2_with fail
              go_ret2
              exact ⟨none, 0, by rw [e2'.out]; rfl, by rw [e2'.out]; exact SlOf.nil _ _ _ _ _, below_step HB9.out hb (Nat.le_refl _)⟩
            · obtain ⟨e1, e2⟩ := HE2.out hbig hok
              subst e1
              have e2' := hide e2
              have HT := hide (stepsShort_ok out A9 out.length c9 wo HRd.out (Nat.le_refl _) rfl (by omega) hok)
              clear e2 hrow hout hlen hok
              go_wp2_with fail
              refine HT.out.mono ?_
              rintro e w6 ⟨A8, c8, rfl, hr8, hb⟩
              have HR8 := hide (Row.read hr8 encStp_len (by omega))
              have HBf := hide (below_step HB9.out hb (Nat.le_refl _))
              clear hr8 hb HT
              generalize shortFrom 0 out = SF at *
              subst e2'
              go_wp2_with fail
              go_ret2
              exact ⟨A8, c8, rfl, HR8.out, HBf.out⟩
end Go.Proofs.YtkmpddaobncheaaGreatDoor
namespace Go.Proofs.YtkmpddaobncheaaGreatDoor
open Go.RowKit

theorem stepInfo : ∃ i0, Tryz.prog.info? 112 = some i0 ∧ i0.zero = some (.agg #[.int .i64 0, .int .i64 0]) ∧ i0.size = 2 ∧ i0.bytes = 16 := by
  have h : (Tryz.prog.info? 112).map (fun i => (i.zero, i.size, i.bytes)) = some (some (.agg #[.int .i64 0, .int .i64 0]), 2, 16) := by kernel_rfl
  cases hi : Tryz.prog.info? 112 with
  | none => rw [hi] at h; cases h
  | some i =>
    rw [hi] at h
    simp only [Option.map_some, Option.some.injEq, Prod.mk.injEq] at h
    exact ⟨i, rfl, h.1, h.2.1, h.2.2⟩
set_option maxHeartbeats 2000000 in
set_option maxRecDepth 100000 in
theorem growStp_ok (n : Nat) (w : World) (hn : n ≤ 100000) :
    Calls Tryz.prog 134 #[.slice none 0 0, .int .i64 (n : Int)] w fun e w' => ∃ A c, e = .returned (.slice A 0 c) ∧ Row w' w.heap.size 112 2 encStp (.slice A 0 c) [] ∧ Below w.heap.size w w' := by
  by_cases h0 : n = 0
  · subst h0
    go_enter Tryz.func134, Tryz.ntmps134
    go_wp2_with fail
    go_ret
    exact ⟨none, 0, rfl, Row.nil _ _ _ _ _, Below.refl _ _⟩
  · obtain ⟨i0, hi0, hz0, hs0, hb0⟩ := stepInfo
    have hrz : ∀ ty, (Builtin.append_ #[52, 3] ty #[.slice none 0 0, .int .i64 (n : Int)]).run Tryz.prog w =
        .ok (.slice (some ⟨w.heap.size, 0, none⟩) n (grownCap w n 0 112)) (w.drew.alloc (.cells (([] : List Value).toArray ++ Builtin.zeroCells (Value.agg #[.int .i64 0, .int .i64 0]).cells n ++ Builtin.zeroCells (Value.agg #[.int .i64 0, .int .i64 0]).cells (grownCap w n 0 112 - n)) 112)) := fun ty => by
      have h := Lib.run_append_grow_zeros w 52 3 ty 112 i0 _ .i64 .i64 Tryz.underlying52 Tryz.underlying3 hi0 hz0 none 0 0 [] (run_firstCells_none w.drew i0.size 0 0 0) n (by omega) (by omega) (by omega) (by omega) (by rw [hb0]; omega) (by rw [Nat.zero_add]; exact growslice_fits (by omega) (by rw [hb0]; omega))
      rw [Nat.zero_add] at h
      exact h
    have hGn : n ≤ grownCap w n 0 112 := grownCap_ge w _ _ _
    have hG63 : grownCap w n 0 112 ≤ maxLen := grownCap_le_maxLen w n 0 112 (by unfold maxLen; omega)
    generalize grownCap w n 0 112 = G at *
    have z1 : IntKind.i64.wrap (n : Int) = (n : Int) := IntWalk.i64_in _ (by omega)
    have z2 : wrap64 (n : Int) = (n : Int) := IntWalk.wrap64_in _ (by omega)
    have z3 : decide (0 < (n : Int)) = true := by simp; omega
    have z4 : decide (0 < n) = true := by simp; omega
    have z5 : decide ((n : Int) < 0) = false := by simp
    have HR := hide (show Row (w.alloc (.cells (Builtin.zeroCells #[.int .i64 0, .int .i64 0] n ++ Builtin.zeroCells #[.int .i64 0, .int .i64 0] (G - n)) 112)).drew w.heap.size 112 2 encStp (.slice (some ⟨w.heap.size, 0, none⟩) 0 G) [] by
      refine ⟨rfl, .inr ⟨w.heap.size, G, _, rfl, Nat.le_refl _, (Blk.new w _ _).drew, Nat.zero_le _, hG63, ?_, by simp⟩⟩
      rw [Array.size_append, size_zeroCells, size_zeroCells]
      show n * 2 + (G - n) * 2 = G * 2
      omega)
    have HB := hide (Below.drew (below_new w (.cells (Builtin.zeroCells #[.int .i64 0, .int .i64 0] n ++ Builtin.zeroCells #[.int .i64 0, .int .i64 0] (G - n)) 112)))
    go_enter Tryz.func134, Tryz.ntmps134
    go_wp2_with (at_builtin; refine Lib.wpList_append_run _ rfl _ _ _ _ rfl _ _ rfl rfl _ _ (hrz _) ?_)
    all_goals (go_ret; exact ⟨some ⟨w.heap.size, 0, none⟩, G, rfl, HR.out, HB.out⟩)
set_option maxHeartbeats 4000000 in
set_option maxRecDepth 100000 in
theorem concatStp_ok (A1 A2 : Option Addr) (l1 l2 : List (Int × Int)) (n1 c1 n2 c2 g : Nat) (w : World) {B : Nat} (h1 : StpsAt w B A1 l1) (h2 : StpsAt w B A2 l2) (hB : B ≤ w.heap.size) (hn1 : n1 = l1.length) (hn2 : n2 = l2.length) (hm1 : n1 ≤ 1000) (hm2 : n2 ≤ 1000)
    (hg : Blk w g 52 #[.slice A1 n1 c1, .slice A2 n2 c2]) :
    Calls Tryz.prog 84 #[.slice (some ⟨g, 0, none⟩) 2 2] w fun e w' => ∃ A c, e = .returned (.slice A (l1 ++ l2).length c) ∧ Row w' w.heap.size 112 2 encStp (.slice A (l1 ++ l2).length c) (l1 ++ l2) ∧ Below w.heap.size w w' := by
  have H1 := hide (fun (W : World) (hz : Below w.heap.size w W) => SlOf.carry (Flat.carried _) h1 (hz.mono hB) (Nat.le_refl B))
  have H2 := hide (fun (W : World) (hz : Below w.heap.size w W) => SlOf.carry (Flat.carried _) h2 (hz.mono hB) (Nat.le_refl B))
  have N1 := hide hn1
  have N2 := hide hn2
  have HG := hide hg
  have hlen : (l1 ++ l2).length = n1 + n2 := by rw [List.length_append, hn1, hn2]
  have Hlen := hide hlen
  have HGr := hide (fun (W : World) => growStp_ok (n1 + n2) W (by omega))
  have g0 := hg.cell 0
  have g1 := hg.cell 1
  simp at g0 g1
  have lg := hg.lt
  clear h1 h2 hB hn1 hn2 hg hlen
  go_enter Tryz.func84, Tryz.ntmps84
  go_wp2_with fail
  go_loop [3, 11] (fun sv iv => (iv = .int .i64 (0 : Nat) ∧ sv = .int .i64 0) ∨ (iv = .int .i64 (1 : Nat) ∧ sv = .int .i64 n1) ∨ (iv = .int .i64 (2 : Nat) ∧ sv = .int .i64 ((n1 : Int) + n2))) (fun _ iv => 2 - (intOf iv).toNat)
  case atStart => exact .inl ⟨rfl, rfl⟩
  case round =>
    rcases hrel with ⟨rfl, rfl⟩ | ⟨rfl, rfl⟩ | ⟨rfl, rfl⟩
    · go_wp2_with fail
      go_round
      case rel => exact .inr (.inl ⟨rfl, by go_num⟩)
      case measure => simp [intOf]
    · go_wp2_with fail
      go_round
      case rel => exact .inr (.inr ⟨rfl, by go_num⟩)
      case measure => simp [intOf]
    · go_wp2_with fail
      refine (HGr.out _).mono ?_
      rintro e w1 ⟨A, c, rfl, hr, hb⟩
      have HR0 := hide hr
      have HB0 := hide hb
      clear hr hb g0 g1 lg
      go_wp2_with fail
      go_loopw [6, 27] (fun sv iv wr => (iv = .int .i64 (0 : Nat) ∧ ∃ A9 c9, sv = .slice A9 0 c9 ∧ Hid (Row wr w.heap.size 112 2 encStp (.slice A9 0 c9) []) ∧ Hid (Below w.heap.size w wr)) ∨ (iv = .int .i64 (1 : Nat) ∧ ∃ A9 c9, sv = .slice A9 n1 c9 ∧ Hid (Row wr w.heap.size 112 2 encStp (.slice A9 n1 c9) l1) ∧ Hid (Below w.heap.size w wr)) ∨ (iv = .int .i64 (2 : Nat) ∧ ∃ A9 c9, sv = .slice A9 (n1 + n2) c9 ∧ Hid (Row wr w.heap.size 112 2 encStp (.slice A9 (n1 + n2) c9) (l1 ++ l2)) ∧ Hid (Below w.heap.size w wr))) (fun _ iv _ => 2 - (intOf iv).toNat)
      case atStart => exact .inl ⟨rfl, A, c, rfl, HR0, HB0⟩
      case round =>
        clear HR0 HB0
        rcases hrel with ⟨rfl, A9, c9, rfl, hrow, hb⟩ | ⟨rfl, A9, c9, rfl, hrow, hb⟩ | ⟨rfl, A9, c9, rfl, hrow, hb⟩
        · rename World => wr
          have kg := HG.out.keep hb.out
          have g0 := kg.cell 0
          simp at g0
          have lg := kg.lt
          have hsz := hb.out.size
          have Hs1 := hide (H1.out _ hb.out)
          clear kg
          go_wp2_with (at_builtin; refine wpList_appendG rfl (.tmp 31) (.tmp 32) 52 rfl w.heap.size 112 (.agg #[.int .i64 0, .int .i64 0]) 2 16 encStp Tryz.underlying52 (by kernel_rfl) rfl (by omega) encStp_len encStp_one _ [] l1 rfl hrow.out A1 n1 c1 rfl N1.out Hs1.out (by simp) (by rw [← N1.out]; omega) (by omega) hsz ?_; intro A7 c7 w7 hrow7 hb7 hg7; rw [show ([] : List (Int × Int)).length + n1 = n1 from Nat.zero_add n1] at hrow7 ⊢)
          go_roundw
          case rel => exact .inr (.inl ⟨rfl, A7, c7, rfl, hide hrow7, hide (hb.out.trans hb7)⟩)
          case measure => simp [intOf]
        · rename World => wr
          have kg := HG.out.keep hb.out
          have g1 := kg.cell 1
          simp at g1
          have lg := kg.lt
          have hsz := hb.out.size
          have Hs2 := hide (H2.out _ hb.out)
          clear kg
          go_wp2_with (at_builtin; refine wpList_appendG rfl (.tmp 31) (.tmp 32) 52 rfl w.heap.size 112 (.agg #[.int .i64 0, .int .i64 0]) 2 16 encStp Tryz.underlying52 (by kernel_rfl) rfl (by omega) encStp_len encStp_one _ l1 l2 rfl hrow.out A2 n2 c2 rfl N2.out Hs2.out (by rw [← N1.out]; omega) (by rw [← N2.out]; omega) (by omega) hsz ?_; intro A7 c7 w7 hrow7 hb7 hg7; rw [← N1.out] at hrow7 ⊢)
          go_roundw
          case rel => exact .inr (.inr ⟨rfl, A7, c7, rfl, hide hrow7, hide (hb.out.trans hb7)⟩)
          case measure => simp [intOf]
        · go_wp2_with fail
          go_ret
          exact ⟨A9, c9, by rw [Hlen.out]; rfl, by rw [Hlen.out]; exact hrow.out, hb.out⟩
end Go.Proofs.YtkmpddaobncheaaGreatDoor
namespace Go.Proofs.YtkmpddaobncheaaGreatDoor
open Go.RowKit

set_option maxHeartbeats 400000 in
theorem secPlace_any (p : Int) (w : World) : Calls Tryz.prog 85 #[.int .i64 p] w fun e w' => e = .returned (.bool (coordOk p)) ∧ w = w' := by
  have Hr := hide (show coordOk p = (decide (-1048576 ≤ p) && decide (p ≤ 1048576)) from rfl)
  generalize coordOk p = t at *
  cases h1 : decide (-1048576 ≤ p)
  · rw [h1] at Hr
    go_enter Tryz.func85, Tryz.ntmps85
    go_wp2_with fail
    go_ret
    exact ⟨ret_bool (by rw [Hr.out]; rfl), rfl⟩
  · rw [h1] at Hr
    go_enter Tryz.func85, Tryz.ntmps85
    go_wp2_with fail
    go_ret
    exact ⟨ret_bool (by rw [Hr.out]; rfl), rfl⟩
set_option maxHeartbeats 1000000 in
theorem secKnown_ok (x : DetD) (s : DetS) (q : Nat) (w : World) {B : Nat} (h : DetAt w B x s) (hB : B ≤ w.heap.size) (hf : DetFit x s) (hd : detOk x = true) (hq : q < s.n6) :
    Calls Tryz.prog 82 #[detV x s, .int .i64 (q : Int)] w fun e w' => e = .returned (.int .i64 0) ∧ Below w.heap.size w w' := by
  have HV := hide (fun (W : World) (hz : Below w.heap.size w W) => show Calls Tryz.prog 24 #[.agg (detCells x.mem x.rule s)] W _ from lapValid_any x s W (h.carry (hz.mono hB) (Nat.le_refl _)) (Nat.le_trans hB hz.size) hf)
  rw [hd] at HV
  have HC9 := hide (show (detCells x.mem x.rule s)[9]? = some (.slice s.a6 s.n6 s.c6) from rfl)
  have K0 := hide (Blk.new w 34 (detCells x.mem x.rule s))
  have HW := hide (below_new w (.cells (detCells x.mem x.rule s) 34))
  have Hi := hide (show (Tryz.prog.info? 34).map (·.size) = some 19 by kernel_rfl)
  have Hsz := hide (show (detCells x.mem x.rule s).size = 19 from rfl)
  show Calls Tryz.prog 82 #[.agg (detCells x.mem x.rule s), .int .i64 (q : Int)] w _
  generalize detCells x.mem x.rule s = C at *
  obtain ⟨a1, n1, c1, a2, n2, c2, a3, n3, c3, a4, n4, c4, a5, n5, c5, a6, n6, c6⟩ := s
  simp only at hq HC9
  clear h hB hf hd
  go_enter Tryz.func82, Tryz.ntmps82
  go_wp2_with (refine wpList_load_row rfl 34 (.tmp 2) rfl w.heap.size rfl 34 _ (0, 0) _ K0.out Tryz.underlying34 rfl (by rw [Hsz.out]; exact Hi.out) ?_)
  refine (HV.out _ HW.out).mono ?_
  rintro e w1 ⟨rfl, hb⟩
  replace K0 := hide (K0.out.keep hb)
  replace HW := hide (below_step HW.out hb (Nat.le_refl _))
  clear hb HV
  have e9 := (K0.out.cell 9).trans HC9.out
  have lk0 := K0.out.lt
  have j1 : decide ((q : Int) < 0) = false := by simp
  have j2 : decide ((n6 : Int) ≤ (q : Int)) = false := by simp; omega
  have j3 : decide (n6 ≤ q) = false := by simp; omega
  go_wp2_with fail
  go_ret
  exact ⟨rfl, HW.out⟩
theorem any_of_map {α β : Type} {f : α → Bool} {g : β → Bool} {l : List α} {m : List β} (h : l.map f = m.map g) : l.any f = m.any g := by
  have e1 : l.any f = (l.map f).any id := by rw [List.any_map]; rfl
  have e2 : m.any g = (m.map g).any id := by rw [List.any_map]; rfl
  rw [e1, e2, h]
theorem find_of_map {α β : Type} {f : α → Bool} {u : α → β} {g : β → Bool} : ∀ {l : List α} {m : List β}, l.map (fun y => (f y, u y)) = m.map (fun p => (g p, p)) → (l.find? f).map u = m.find? g := by
  intro l
  induction l with
  | nil =>
    intro m h
    cases m with
    | nil => rfl
    | cons p m => simp at h
  | cons y l ih =>
    intro m h
    cases m with
    | nil => simp at h
    | cons p m =>
      simp only [List.map_cons, List.cons.injEq, Prod.mk.injEq] at h
      obtain ⟨⟨h1, h2⟩, h3⟩ := h
      have h4 := ih h3
      rw [List.find?_cons, List.find?_cons, ← h1]
      cases f y
      · exact h4
      · simp [h2]
/-- Where the steel of a demand fails first. -/
def firstFail (x : DetD) (d : DemD) : Option Int := (marksOf (supSteps x d) d.steps).find? (failAt (supSteps x d) d.steps)
def markL (S T : List (Int × Int)) : List Int := ((S ++ T).map (·.1)).filter coordOk
theorem markL_in {S T : List (Int × Int)} {p : Int} (h : p ∈ marksOf S T) : -1048576 ≤ p ∧ p ≤ 1048576 := by
  have h1 : p ∈ markL S T := (compact_sorted (markL S T)).2 p |>.1 h
  have h2 := (List.mem_filter.1 h1).2
  simp only [coordOk, Bool.and_eq_true, decide_eq_true_eq] at h2
  exact h2
def PrtPost (x : DetD) (d : DemD) (w : World) (e : Ending) (w' : World) : Prop :=
  (supErr x d ≠ 0 ∧ e = .returned (.tuple #[.slice none 0 0, .int .i64 (supErr x d)]) ∧ Below w.heap.size w w') ∨
  (supErr x d = 0 ∧ ∃ A c PT, e = .returned (.tuple #[.slice A (List.length PT) c, .int .i64 0]) ∧ PrtsAt w' w'.heap.size A PT ∧ PT.length ≤ 1000 ∧ PT.any lowB = shortB x d ∧ (PT.find? lowB).map PrtD.lo = firstFail x d ∧ (∀ p ∈ PT, (-2000000 ≤ p.lo ∧ p.lo ≤ 2000000) ∧ -2000000 ≤ p.hi ∧ p.hi ≤ 2000000) ∧ Below w.heap.size w w')
set_option maxHeartbeats 8000000 in
set_option maxRecDepth 100000 in
theorem parts_ok (HSL : SortLaw) (HCL : CompLaw) (x : DetD) (s : DetS) (q : Nat) (d : DemD) (w : World) {B : Nat} (h : DetAt w B x s) (hB : B ≤ w.heap.size) (hf : DetFit x s) (hd : detOk x = true) (hq : x.dems[q]? = some d)
    (hdem : ∀ d ∈ x.dems, d.name.size ≤ maxLen ∧ (d.steps.length : Int) ≤ 9223372036854775807 ∧ demOk d = true) :
    Calls Tryz.prog 51 #[detV x s, .int .i64 (q : Int)] w fun e w' => PrtPost x d w e w' := by
  have hq6 : q < s.n6 := by rw [hf.l6]; exact lt_of_get hq
  have HKn := hide (fun (W : World) (hz : Below w.heap.size w W) => show Calls Tryz.prog 82 #[.agg (detCells x.mem x.rule s), .int .i64 (q : Int)] W _ from secKnown_ok x s q W (h.carry (hz.mono hB) (Nat.le_refl _)) (Nat.le_trans hB hz.size) hf hd hq6)
  have HOf := hide (fun (W : World) (hz : Below w.heap.size w W) => show Calls Tryz.prog 83 #[.agg (detCells x.mem x.rule s), .int .i64 (q : Int)] W _ from supOf_ok HSL HCL x s q d W (h.carry (hz.mono hB) (Nat.le_refl _)) (Nat.le_trans hB hz.size) hf hd hq hdem)
  have hTok : stepsOk d.steps = true := by
    have h9 := (hdem d (mem_of_get hq)).2.2
    simp only [demOk, Bool.and_eq_true] at h9
    exact h9.2
  have hSok := supSteps_ok x d
  have hTl : d.steps.length ≤ 200 := by
    have h9 := hTok
    simp only [stepsOk, Bool.and_eq_true, decide_eq_true_eq] at h9
    exact h9.1
  have hSl : (supSteps x d).length ≤ 200 := by
    have h9 := hSok
    simp only [stepsOk, Bool.and_eq_true, decide_eq_true_eq] at h9
    exact h9.1
  have Hsb := hide (show shortB x d = (marksOf (supSteps x d) d.steps).any (failAt (supSteps x d) d.steps) from rfl)
  have Hff := hide (show firstFail x d = (marksOf (supSteps x d) d.steps).find? (failAt (supSteps x d) d.steps) from rfl)
  obtain ⟨b6, o6, d', A9, c9, hA6, hb6, hd', hs9, hc9⟩ := DemsAt.get (k := q) h.h6 (lt_of_get hq)
  obtain rfl : d' = d := by rw [hq] at hd'; injection hd' with hd'; exact hd'.symm
  have HD7 := hide (fun (W : World) (hz : Below w.heap.size w W) => show W.cell? ⟨b6, o6 + q * 8 + 7, none⟩ = some (.slice A9 d'.steps.length c9) from (hz.cell (p := ⟨b6, _, none⟩) (Nat.lt_of_lt_of_le hb6 hB)).trans (hc9 7 _ rfl))
  have HL7 := hide (fun (W : World) (hz : Below w.heap.size w W) => show b6 < W.heap.size from Nat.lt_of_lt_of_le hb6 (Nat.le_trans hB hz.size))
  have HT9 := hide (fun (W : World) (hz : Below w.heap.size w W) => SlOf.carry (Flat.carried _) hs9 (hz.mono hB) (Nat.le_refl B))
  have HC9 := hide (show (detCells x.mem x.rule s)[9]? = some (.slice (some ⟨b6, o6, none⟩) s.n6 s.c6) by rw [← hA6]; rfl)
  have K0 := hide (Blk.new w 34 (detCells x.mem x.rule s))
  have HW := hide (below_new w (.cells (detCells x.mem x.rule s) 34))
  have Hi := hide (show (Tryz.prog.info? 34).map (·.size) = some 19 by kernel_rfl)
  have Hsz := hide (show (detCells x.mem x.rule s).size = 19 from rfl)
  have HBB := hide hB
  have P1 := hide (fun (w' : World) (q1 : supErr x d' ≠ 0) (hb : Below w.heap.size w w') => show PrtPost x d' w (.returned (.tuple #[.slice none 0 0, .int .i64 (supErr x d')])) w' from .inl ⟨q1, rfl, hb⟩)
  have P2 := hide (fun (w' : World) (q1 : supErr x d' = 0) (A : Option Addr) (c : Nat) (PT : List PrtD) (h1 : PrtsAt w' w'.heap.size A PT) (h2 : PT.length ≤ 1000) (h3 : PT.any lowB = shortB x d') (h5 : (PT.find? lowB).map PrtD.lo = firstFail x d') (h4 : ∀ p ∈ PT, (-2000000 ≤ p.lo ∧ p.lo ≤ 2000000) ∧ -2000000 ≤ p.hi ∧ p.hi ≤ 2000000) (hb : Below w.heap.size w w') =>
    show PrtPost x d' w (.returned (.tuple #[.slice A (List.length PT) c, .int .i64 0])) w' from .inr ⟨q1, A, c, PT, rfl, h1, h2, h3, h5, h4, hb⟩)
  show Calls Tryz.prog 51 #[.agg (detCells x.mem x.rule s), .int .i64 (q : Int)] w _
  generalize detCells x.mem x.rule s = C at *
  obtain ⟨a1, n1, c1, a2, n2, c2, a3, n3, c3, a4, n4, c4, a5, n5, c5, a6, n6, c6⟩ := s
  simp only at hq6 HC9
  generalize supSteps x d' = S at *
  generalize supErr x d' = SE at *
  generalize shortB x d' = SB at *
  generalize firstFail x d' = FF at *
  obtain ⟨T, hT⟩ : ∃ T, T = d'.steps := ⟨_, rfl⟩
  rw [← hT] at hTok hTl Hsb Hff HD7 HT9
  clear h hB hf hd hq hdem hA6 hb6 hd' hs9 hc9 hT
  go_enter Tryz.func51, Tryz.ntmps51
  go_wp2_with (refine wpList_load_row rfl 34 (.tmp 2) rfl w.heap.size rfl 34 _ (0, 0) _ K0.out Tryz.underlying34 rfl (by rw [Hsz.out]; exact Hi.out) ?_)
  refine (HKn.out _ HW.out).mono ?_
  rintro e w1 ⟨rfl, hb⟩
  replace K0 := hide (K0.out.keep hb)
  replace HW := hide (below_step HW.out hb (Nat.le_refl _))
  clear hb HKn
  go_wp2_with (refine wpList_load_row rfl 34 (.tmp 2) rfl w.heap.size rfl 34 _ (0, 0) _ K0.out Tryz.underlying34 rfl (by rw [Hsz.out]; exact Hi.out) ?_)
  refine (HOf.out _ HW.out).mono ?_
  rintro e w2 ⟨A1, cS, rfl, hS, hb⟩
  replace K0 := hide (K0.out.keep hb)
  replace HW := hide (below_step HW.out hb (Nat.le_refl _))
  have HSt := hide hS
  clear hb HOf hS
  by_cases hse : SE = 0
  rotate_left
  · have dse : (SE != 0) = true := by simpa using hse
    go_wp2_with fail
    go_ret2
    exact P1.out _ hse HW.out
  subst hse
  obtain ⟨nS, hnS⟩ : ∃ n, n = S.length := ⟨_, rfl⟩
  obtain ⟨nT, hnT⟩ : ∃ n, n = T.length := ⟨_, rfl⟩
  have HnS := hide hnS
  have HnT := hide hnT
  rw [← hnS] at hSl ⊢
  rw [← hnT] at hTl HD7
  clear hnS hnT
  have e9 := (K0.out.cell 9).trans HC9.out
  have lk0 := K0.out.lt
  have d7 := HD7.out w2 HW.out
  have lb7 := HL7.out w2 HW.out
  have q1 : (q : Int) < (n6 : Int) := by omega
  have q2 : (0 : Int) ≤ (q : Int) := by omega
  have HCo := hide (concatStp_ok A1 A9 S T nS cS nT c9 w2.heap.size (w2.alloc (.cells #[.slice A1 nS cS, .slice A9 nT c9] 52)) (B := w2.heap.size) (SlOf.carry (Flat.carried _) HSt.out (below_new w2 _) (Nat.le_refl _)) (SlOf.carry (Flat.carried _) (HT9.out _ HW.out) ((below_new w2 _).mono (Nat.le_trans HBB.out HW.out.size)) (Nat.le_trans HBB.out HW.out.size)) (by simp) HnS.out HnT.out (by omega) (by omega) (Blk.new w2 _ _))
  have HX := hide (below_new w2 (.cells #[.slice A1 nS cS, .slice A9 nT c9] 52))
  go_wp2_with fail
  refine HCo.out.mono ?_
  rintro e w3 ⟨A3, c3', rfl, hr3, hb⟩
  replace HX := hide (below_step HX.out hb (Nat.le_refl _))
  have HST := hide (Row.read hr3 encStp_len (by omega))
  clear hb hr3 HCo e9 lk0 d7 lb7
  have hSTl : (S ++ T).length ≤ 400 := by rw [List.length_append, ← HnS.out, ← HnT.out]; omega
  obtain ⟨ST, hST⟩ : ∃ ST, ST = S ++ T := ⟨_, rfl⟩
  obtain ⟨LC, hLC⟩ : ∃ LC, LC = ST.length := ⟨_, rfl⟩
  rw [← hST] at HST hSTl ⊢
  rw [← hLC] at hSTl ⊢
  have HLC := hide hLC
  have HM0 := hide (show marksOf S T = sortC ((ST.map (·.1)).filter coordOk) by rw [hST]; rfl)
  have HW3 := hide (below_step HW.out HX.out (Nat.le_refl _))
  replace K0 := hide (K0.out.keep HX.out)
  clear hLC hST
  go_wp2_with fail
  go_loopw [9, 44] (fun v iv wr => ∃ k : Nat, k ≤ LC ∧ iv = .int .i64 k ∧ (∃ acc : List Int, Row wr w3.heap.size 3 1 encInt v acc ∧ Hid (acc = ((ST.take k).map (·.1)).filter coordOk)) ∧ Below w3.heap.size w3 wr) (fun _ iv _ => LC - (intOf iv).toNat)
  case atStart => exact ⟨0, Nat.zero_le _, rfl, ⟨[], Row.nil _ _ _ _ _, hide rfl⟩, Below.refl _ _⟩
  case round =>
    rename World => wr
    obtain ⟨k, hk, rfl, ⟨acc, hrow, hacc⟩, hbr⟩ := hrel
    obtain ⟨A2', c2', rfl⟩ := hrow.val
    have hal : acc.length ≤ 400 := by
      have h9 := congrArg List.length hacc.out
      have h8 := List.length_filter_le coordOk ((ST.take k).map (·.1))
      rw [List.length_map, List.length_take] at h8
      omega
    by_cases hlt : k < LC
    · obtain ⟨b, off, y, hA, hbl, hy, e0, e1⟩ := StpsAt.get (k := k) (SlOf.carry (Flat.carried _) HST.out hbr (Nat.le_refl _)) (by rw [← HLC.out]; exact hlt)
      subst hA
      have Htk := hide (show ((ST.take (k + 1)).map (·.1)).filter coordOk = acc ++ (if coordOk y.1 then [y.1] else []) by
        rw [take_snoc' hy, List.map_append, List.filter_append, ← hacc.out]
        congr 1
        cases hq9 : coordOk y.1 <;> simp [hq9])
      have lb : b < wr.heap.size := Nat.lt_of_lt_of_le hbl hbr.size
      obtain ⟨y1, y2⟩ := y
      simp only at e0 e1 Htk
      have HPl := hide (fun W => secPlace_any y1 W)
      have hbz := hbr.size
      have KS := hide (Blk.new wr 112 #[.int .i64 y1, .int .i64 y2])
      have HR := hide (hrow.alloc (.cells #[.int .i64 y1, .int .i64 y2] 112))
      have HBr := hide (hbr.alloc hbz (.cells #[.int .i64 y1, .int .i64 y2] 112))
      have f0 := KS.out.cell 0
      simp at f0
      have lf := KS.out.lt
      generalize coordOk y1 = co at *
      clear hy hbl hrow hbr
      go_wp2_with fail
      refine (HPl.out _).mono ?_
      rintro e wz ⟨rfl, rfl⟩
      cases co
      · go_wp2_with fail
        go_roundw
        case rel => exact ⟨k + 1, by omega, by go_num, ⟨acc, HR.out, hide (by rw [Htk.out]; simp)⟩, HBr.out⟩
        case measure => simp [intOf]; omega
      · have hz9 := HBr.out.size
        go_wp2_with (at_builtin; refine wpList_append1 rfl (.tmp 51) (.tmp 54) 66 rfl w3.heap.size 3 (.int .i64 0) 1 8 encInt Tryz.underlying66 (by kernel_rfl) rfl (by omega) encInt_len encInt_one _ acc y1 rfl (HR.out.alloc _) _ rfl (Blk.new1 wr _ _ _) (by omega) (by omega) (le_alloc hz9 _) ?_; intro A9' c9' w9 hrow9 hb9 hkeep9)
        go_roundw
        case rel => exact ⟨k + 1, by omega, by go_num, ⟨acc ++ [y1], by simpa using hrow9, hide (by rw [Htk.out]; rfl)⟩, (HBr.out.alloc hz9 _).trans hb9⟩
        case measure => simp [intOf]; omega
    · obtain rfl : k = LC := by omega
      have hmarks : sortC acc = marksOf S T := by rw [HM0.out, hacc.out, HLC.out, List.take_length]
      have HSo := hide (HSL A2' acc acc.length c2' w3.heap.size wr hrow (by omega))
      have Hbr := hide hbr
      clear hrow hbr hacc
      go_wp2_with fail
      refine HSo.out.mono ?_
      rintro e w4 ⟨rfl, hr4, hb4⟩
      have hml : (acc.mergeSort fun x y => decide (x ≤ y)).length = acc.length := List.length_mergeSort acc
      have HCc := hide (HCL A2' _ acc.length c2' w3.heap.size w4 hr4 (by rw [hml]; omega))
      replace Hbr := hide (Hbr.out.trans hb4)
      clear hr4 hb4 HSo
      go_wp2_with fail
      refine HCc.out.mono ?_
      rintro e w6 ⟨A6', rfl, hr6, hb6'⟩
      replace Hbr := hide (Hbr.out.trans hb6')
      have hPl := sortC_len acc
      have Hsc := hide (show Lib.compact (acc.mergeSort fun x y => decide (x ≤ y)) = sortC acc from rfl)
      rw [Hsc.out] at hr6 ⊢
      obtain ⟨PL, hPL⟩ : ∃ PL, PL = sortC acc := ⟨_, rfl⟩
      rw [← hPL] at hr6 hPl hmarks ⊢
      obtain ⟨P, hP⟩ : ∃ P, P = PL.length := ⟨_, rfl⟩
      rw [← hP] at hr6 hPl ⊢
      have HP := hide hP
      have HPr := hide (Row.read hr6 encInt_len (by omega))
      have Hin := hide (fun (p : Int) (hp : p ∈ PL) => markL_in (S := S) (T := T) (by rw [← hmarks]; exact hp))
      rw [← hmarks] at Hsb Hff
      clear hr6 hb6' HCc hml hPL Hsc hP hmarks HM0
      have hz36 := Hbr.out.size
      have HWw := hide (below_step HW3.out Hbr.out (Nat.le_refl _))
      have HX2 := hide (below_step HX.out Hbr.out (Nat.le_refl _))
      have F0 := hide (fun (W : World) (hz : Below w6.heap.size w6 W) => (K0.out.keep Hbr.out).keep hz)
      have HS1 := hide (fun (W : World) (hz : Below w6.heap.size w6 W) (p : Int) => stepsAt_ok S A1 nS cS p W (SlOf.carry (Flat.carried _) (SlOf.carry (Flat.carried _) HSt.out HX2.out (Nat.le_refl _)) (hz.mono HX2.out.size) (Nat.le_refl _)) (Nat.le_trans HX2.out.size hz.size) HnS.out (by omega) hSok)
      have HT1 := hide (fun (W : World) (hz : Below w6.heap.size w6 W) (p : Int) => stepsAt_ok T A9 nT c9 p W (HT9.out W (below_step HWw.out hz (Nat.le_refl _))) (Nat.le_trans (Nat.le_trans HBB.out HWw.out.size) hz.size) HnT.out (by omega) hTok)
      replace HD7 := hide (fun (W : World) (hz : Below w6.heap.size w6 W) => HD7.out W (below_step HWw.out hz (Nat.le_refl _)))
      replace HL7 := hide (fun (W : World) (hz : Below w6.heap.size w6 W) => HL7.out W (below_step HWw.out hz (Nat.le_refl _)))
      go_wp2_with fail
      go_loopw [12, 63] (fun o iv wo => ∃ i : Nat, i ≤ P ∧ iv = .int .i64 i ∧ (∃ acc : List PrtD, Row wo w6.heap.size 135 4 encPrt o acc ∧ Hid (acc.map (fun y => (lowB y, y.lo)) = (PL.take i).map (fun p => (failAt S T p, p))) ∧ Hid (∀ p ∈ acc, (-2000000 ≤ p.lo ∧ p.lo ≤ 2000000) ∧ -2000000 ≤ p.hi ∧ p.hi ≤ 2000000)) ∧ Hid (Below w6.heap.size w6 wo)) (fun _ iv _ => P - (intOf iv).toNat)
      case atStart => exact ⟨0, Nat.zero_le _, rfl, ⟨[], Row.nil _ _ _ _ _, hide rfl, hide (fun p h => by cases h)⟩, hide (Below.refl _ _)⟩
      case round =>
        obtain ⟨i, hi, rfl, ⟨acc, hrow, hacc, hbd⟩, hbo⟩ := hrel
        obtain ⟨A8, c8, rfl⟩ := hrow.val
        rename World => wo
        have hrow := hide hrow
        have hal : acc.length ≤ 400 := by
          have h9 := congrArg List.length hacc.out
          rw [List.length_map, List.length_map, List.length_take] at h9
          omega
        by_cases hlt : i < P
        · obtain ⟨b, off, p, hA, hbl, hp, e0⟩ := Ints.get (k := i) (Ints.carry HPr.out hbo.out (Nat.le_refl _)) (by rw [← HP.out]; exact hlt)
          subst hA
          have lb : b < wo.heap.size := Nat.lt_of_lt_of_le hbl hbo.out.size
          have Htk := hide (show PL.take (i + 1) = PL.take i ++ [p] from take_snoc' hp)
          obtain ⟨hp1, hp2⟩ := Hin.out p (mem_of_get hp)
          by_cases hnx : i + 1 < P
          · obtain ⟨b', off', p', hA', _, hp', e1⟩ := Ints.get (k := i + 1) (Ints.carry HPr.out hbo.out (Nat.le_refl _)) (by rw [← HP.out]; exact hnx)
            obtain ⟨rfl, rfl⟩ : b' = b ∧ off' = off := by simpa [eq_comm] using hA'
            obtain ⟨hp3, hp4⟩ := Hin.out p' (mem_of_get hp')
            have n1 : IntKind.i64.wrap ((i : Int) + 1) = ((i + 1 : Nat) : Int) := by rw [IntWalk.i64_in _ (by omega)]; omega
            have n2 : IntKind.i64.wrap (p' - 1) = p' - 1 := IntWalk.i64_in _ (by omega)
            have n3 : wrap64 (p' - 1) = p' - 1 := IntWalk.wrap64_in _ (by omega)
            have n4 : decide (((i + 1 : Nat) : Int) < (P : Int)) = true := by simp; omega
            have n5 : decide (i + 1 < P) = true := by simp; omega
            have n6' : decide ((i : Int) + 1 < (P : Int)) = true := by simp; omega
            clear hp hp' hbl hA'
            go_wp2_with fail
            refine (HS1.out wo hbo.out p).mono ?_
            rintro e w7 ⟨rfl, hb⟩
            replace hrow := hide (hrow.out.keep hb)
            replace hbo := hide (below_step hbo.out hb (Nat.le_refl _))
            clear hb
            have k0 := F0.out w7 hbo.out
            have e9 := (k0.cell 9).trans HC9.out
            have lk0 := k0.lt
            have d7 := HD7.out w7 hbo.out
            have lb7 := HL7.out w7 hbo.out
            clear k0
            go_wp2_with fail
            refine (HT1.out w7 hbo.out p).mono ?_
            rintro e w8 ⟨rfl, hb⟩
            replace hrow := hide (hrow.out.keep hb)
            replace hbo := hide (below_step hbo.out hb (Nat.le_refl _))
            clear hb e9 lk0 d7 lb7
            have Hlow := hide (show lowB ⟨p, (p' - 1), stepAt S p, stepAt T p⟩ = failAt S T p from rfl)
            generalize stepAt S p = v1 at *
            generalize stepAt T p = v2 at *
            have hoz := hbo.out.size
            go_wp2_with (at_builtin; refine wpList_append1 rfl (.tmp 102) (.tmp 109) 131 rfl w6.heap.size 135 (.agg #[.int .i64 0, .int .i64 0, .int .i64 0, .int .i64 0]) 4 32 encPrt Tryz.underlying131 (by kernel_rfl) rfl (by omega) encPrt_len encPrt_one _ acc ⟨p, (p' - 1), v1, v2⟩ rfl (hrow.out.alloc _) _ rfl (Blk.new w8 _ _) (by omega) (by omega) (le_alloc hoz _) ?_; intro A9 c9 w9 hrow9 hb9 hkeep9)
            go_roundw
            case rel => exact ⟨i + 1, by omega, by go_num, ⟨acc ++ [⟨p, (p' - 1), v1, v2⟩], by simpa using hrow9, hide (by rw [List.map_append, hacc.out, Htk.out, List.map_append, List.map_cons, List.map_nil, List.map_cons, List.map_nil, Hlow.out]), hide (fun z hz => by
              rcases List.mem_append.1 hz with hz | hz
              · exact hbd.out z hz
              · rw [List.mem_singleton] at hz
                subst hz
                exact ⟨⟨by show -2000000 ≤ p; omega, by show p ≤ 2000000; omega⟩, by show -2000000 ≤ (p' - 1); omega, by show (p' - 1) ≤ 2000000; omega⟩)⟩, hide ((hbo.out.alloc hoz _).trans hb9)⟩
            case measure => simp [intOf]; omega
          · have n1 : IntKind.i64.wrap ((i : Int) + 1) = ((i + 1 : Nat) : Int) := by rw [IntWalk.i64_in _ (by omega)]; omega
            have n4 : decide (((i + 1 : Nat) : Int) < (P : Int)) = false := by simp; omega
            have n5 : decide (i + 1 < P) = false := by simp; omega
            have n6' : decide ((i : Int) + 1 < (P : Int)) = false := by simp; omega
            clear hp hbl
            go_wp2_with fail
            refine (HS1.out wo hbo.out p).mono ?_
            rintro e w7 ⟨rfl, hb⟩
            replace hrow := hide (hrow.out.keep hb)
            replace hbo := hide (below_step hbo.out hb (Nat.le_refl _))
            clear hb
            have k0 := F0.out w7 hbo.out
            have e9 := (k0.cell 9).trans HC9.out
            have lk0 := k0.lt
            have d7 := HD7.out w7 hbo.out
            have lb7 := HL7.out w7 hbo.out
            clear k0
            go_wp2_with fail
            refine (HT1.out w7 hbo.out p).mono ?_
            rintro e w8 ⟨rfl, hb⟩
            replace hrow := hide (hrow.out.keep hb)
            replace hbo := hide (below_step hbo.out hb (Nat.le_refl _))
            clear hb e9 lk0 d7 lb7
            have Hlow := hide (show lowB ⟨p, (1048576 : Int), stepAt S p, stepAt T p⟩ = failAt S T p from rfl)
            generalize stepAt S p = v1 at *
            generalize stepAt T p = v2 at *
            have hoz := hbo.out.size
            go_wp2_with (at_builtin; refine wpList_append1 rfl (.tmp 102) (.tmp 109) 131 rfl w6.heap.size 135 (.agg #[.int .i64 0, .int .i64 0, .int .i64 0, .int .i64 0]) 4 32 encPrt Tryz.underlying131 (by kernel_rfl) rfl (by omega) encPrt_len encPrt_one _ acc ⟨p, (1048576 : Int), v1, v2⟩ rfl (hrow.out.alloc _) _ rfl (Blk.new w8 _ _) (by omega) (by omega) (le_alloc hoz _) ?_; intro A9 c9 w9 hrow9 hb9 hkeep9)
            go_roundw
            case rel => exact ⟨i + 1, by omega, by go_num, ⟨acc ++ [⟨p, (1048576 : Int), v1, v2⟩], by simpa using hrow9, hide (by rw [List.map_append, hacc.out, Htk.out, List.map_append, List.map_cons, List.map_nil, List.map_cons, List.map_nil, Hlow.out]), hide (fun z hz => by
              rcases List.mem_append.1 hz with hz | hz
              · exact hbd.out z hz
              · rw [List.mem_singleton] at hz
                subst hz
                exact ⟨⟨by show -2000000 ≤ p; omega, by show p ≤ 2000000; omega⟩, by show -2000000 ≤ (1048576 : Int); omega, by show (1048576 : Int) ≤ 2000000; omega⟩)⟩, hide ((hbo.out.alloc hoz _).trans hb9)⟩
            case measure => simp [intOf]; omega
        · obtain rfl : i = P := by omega
          have hfin : acc.map (fun y => (lowB y, y.lo)) = PL.map (fun p => (failAt S T p, p)) := by rw [hacc.out, HP.out, List.take_length]
          have hany : acc.any lowB = SB := by
            rw [Hsb.out]
            refine any_of_map ?_
            have h9 := congrArg (List.map Prod.fst) hfin
            rw [List.map_map, List.map_map] at h9
            exact h9
          have Hfst := hide (show (acc.find? lowB).map PrtD.lo = FF by rw [Hff.out]; exact find_of_map hfin)
          have HPt := hide (Row.read hrow.out encPrt_len (by omega))
          have HB9 := hide (below_step HWw.out hbo.out (Nat.le_refl _))
          have Hany := hide hany
          have Hal := hide (show acc.length ≤ 1000 by omega)
          clear hrow hacc hfin hany
          go_wp2_with fail
          go_ret2
          exact P2.out _ (by trivial) A8 c8 acc HPt.out Hal.out Hany.out Hfst.out hbd.out HB9.out
end Go.Proofs.YtkmpddaobncheaaGreatDoor
