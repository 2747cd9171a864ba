/- sections.Check: a finding for each demand for which the steel does not suffice. -/
import Derived.Test.YtkmpddaobncheaaGreatDoorQba
import Derived.Test.YtkmpddaobncheaaGreatDoorQay
namespace Go.Proofs.YtkmpddaobncheaaGreatDoor
open Go.RowKit

theorem nil_or_last {α : Type} (l : List α) : l = [] ∨ ∃ i a, l = i ++ [a] := by
  rcases List.eq_nil_or_concat l with h | ⟨i, a, h⟩
  · exact .inl h
  · exact .inr ⟨i, a, by simpa using h⟩
/-- The first span begins where the steel fails first. -/
def FirstAt (w : World) (A : Option Addr) (o : Option Int) : Prop := ∀ p, o = some p → ∃ b off, A = some ⟨b, off, none⟩ ∧ b < w.heap.size ∧ w.cell? ⟨b, off, none⟩ = some (.int .i64 p)
theorem firstAt_row {w : World} {base n c : Nat} {e : TypeId} {A : Option Addr} {l : List (Int × Int)} {o : Option Int} (h : Row w base e 2 encStp (.slice A n c) l) (ho : l.head?.map (·.1) = o) : FirstAt w A o := by
  intro p hp
  subst ho
  cases l with
  | nil => simp at hp
  | cons y l =>
    have hp' : y.1 = p := by simpa using hp
    obtain ⟨g, cs, hA, _, hblk, hcs⟩ := row_blk h (by simp)
    have h9 := hcs 0 (.int .i64 y.1) rfl
    exact ⟨g, 0, hA, hblk.lt, by rw [← hp']; exact (hblk.cell 0).trans h9⟩
def lowFst (l : List PrtD) : Option Int := (l.find? lowB).map PrtD.lo
theorem lowFst_snoc (l : List PrtD) (y : PrtD) : lowFst (l ++ [y]) = (lowFst l).or (if lowB y then some y.lo else none) := by
  rw [lowFst, lowFst, List.find?_append]
  cases h : l.find? lowB with
  | none =>
    cases h2 : lowB y <;> simp [h2]
  | some z => simp
def SpnPost (x : DetD) (d : DemD) (w : World) (e : Ending) (w' : World) : Prop :=
  (supErr x d ≠ 0 ∧ e = .returned (.tuple #[.slice none 0 0, .int .i64 (supErr x d)]) ∧ Below w.heap.size w w') ∨
  (supErr x d = 0 ∧ ∃ A n c, e = .returned (.tuple #[.slice A n c, .int .i64 0]) ∧ n ≤ 1000 ∧ decide (0 < n) = shortB x d ∧ FirstAt w' A (firstFail x d) ∧ Below w.heap.size w w')
set_option maxHeartbeats 8000000 in
set_option maxRecDepth 100000 in
theorem spans_ok (HSL : SortLaw) (HCL : CompLaw) (x : DetD) (s : DetS) (q : Nat) (d : DemD) (w : World) {B : Nat} (h : DetAt w B x s) (hB : B ≤ w.heap.size) (hf : DetFit x s) (hd : detOk x = true) (hq : x.dems[q]? = some d)
    (hdem : ∀ d ∈ x.dems, d.name.size ≤ maxLen ∧ (d.steps.length : Int) ≤ 9223372036854775807 ∧ demOk d = true) :
    Calls Tryz.prog 25 #[detV x s, .int .i64 (q : Int)] w fun e w' => SpnPost x d w e w' := by
  have HPt := hide (fun (W : World) (hz : Below w.heap.size w W) => show Calls Tryz.prog 51 #[.agg (detCells x.mem x.rule s), .int .i64 (q : Int)] W _ from parts_ok HSL HCL x s q d W (h.carry (hz.mono hB) (Nat.le_refl _)) (Nat.le_trans hB hz.size) hf hd hq hdem)
  have P1 := hide (fun (w' : World) (q1 : supErr x d ≠ 0) (hb : Below w.heap.size w w') => show SpnPost x d w (.returned (.tuple #[.slice none 0 0, .int .i64 (supErr x d)])) w' from .inl ⟨q1, rfl, hb⟩)
  have P2 := hide (fun (w' : World) (q1 : supErr x d = 0) (A : Option Addr) (n c : Nat) (h2 : n ≤ 1000) (h3 : decide (0 < n) = shortB x d) (h4 : FirstAt w' A (firstFail x d)) (hb : Below w.heap.size w w') =>
    show SpnPost x d w (.returned (.tuple #[.slice A n c, .int .i64 0])) w' from .inr ⟨q1, A, n, c, rfl, h2, h3, h4, hb⟩)
  have K0 := hide (Blk.new w 34 (detCells x.mem x.rule s))
  have HW := hide (below_new w (.cells (detCells x.mem x.rule s) 34))
  have Hi := hide (show (Tryz.prog.info? 34).map (·.size) = some 19 by kernel_rfl)
  have Hsz := hide (show (detCells x.mem x.rule s).size = 19 from rfl)
  show Calls Tryz.prog 25 #[.agg (detCells x.mem x.rule s), .int .i64 (q : Int)] w _
  generalize detCells x.mem x.rule s = C at *
  clear h hB hf hd hq hdem
  go_enter Tryz.func25, Tryz.ntmps25
  go_wp2_with (refine wpList_load_row rfl 34 (.tmp 2) rfl w.heap.size rfl 34 _ (0, 0) _ K0.out Tryz.underlying34 rfl (by rw [Hsz.out]; exact Hi.out) ?_)
  refine (HPt.out _ HW.out).mono ?_
  rintro e w1 (⟨hse, rfl, hb⟩ | ⟨hse, A1, c1, PT, rfl, hpt, hpl, hany, hff, hbd, hb⟩)
  · have HW1 := hide (below_step HW.out hb (Nat.le_refl _))
    have dse : (supErr x d != 0) = true := by simpa using hse
    have Hse := hide hse
    generalize supErr x d = SE at *
    go_wp2_with fail
    go_ret2
    exact P1.out _ Hse.out HW1.out
  have HW1 := hide (below_step HW.out hb (Nat.le_refl _))
  have Hse := hide hse
  have HPr := hide hpt
  have Hany := hide hany
  have Hff := hide (show lowFst PT = firstFail x d from hff)
  have Hbd := hide hbd
  obtain ⟨PN, hPN⟩ : ∃ n, n = PT.length := ⟨_, rfl⟩
  have HPN := hide hPN
  rw [← hPN] at hpl ⊢
  clear hb hse hpt hany hff hbd hPN HPt HW K0 P1 Hi Hsz
  go_wp2_with fail
  go_loopw [8, 23] (fun v iv wr => ∃ k : Nat, k ≤ PN ∧ iv = .int .i64 k ∧ (∃ acc : List (Int × Int), Row wr w1.heap.size 89 2 encStp v acc ∧ Hid (acc.length ≤ k) ∧ Hid (decide (0 < acc.length) = (PT.take k).any lowB) ∧ Hid (acc.head?.map (·.1) = lowFst (PT.take k)) ∧ Hid (∀ y ∈ acc, -2000000 ≤ y.2 ∧ y.2 ≤ 2000000)) ∧ Hid (Below w1.heap.size w1 wr)) (fun _ iv _ => PN - (intOf iv).toNat)
  case atStart => exact ⟨0, Nat.zero_le _, rfl, ⟨[], Row.nil _ _ _ _ _, hide (Nat.le_refl _), hide rfl, hide rfl, hide (fun p h => by cases h)⟩, hide (Below.refl _ _)⟩
  case round =>
    rename World => wr
    obtain ⟨k, hk, rfl, ⟨acc, hrow, hlen, hdec, hfst, hbd⟩, hbr⟩ := hrel
    obtain ⟨A2, c2, rfl⟩ := hrow.val
    have hal := hlen.out
    by_cases hlt : k < PN
    · obtain ⟨b, off, y, hA, hbl, hy, hc⟩ := PrtsAt.get (k := k) (SlOf.carry (Flat.carried _) HPr.out hbr.out (Nat.le_refl _)) (by rw [← HPN.out]; exact hlt)
      subst hA
      have hyb := Hbd.out y (mem_of_get hy)
      have Htk := hide (show (PT.take (k + 1)).any lowB = (decide (0 < acc.length) || decide (y.there < y.wants)) by rw [take_snoc' hy, List.any_append, hdec.out]; simp [lowB])
      have Hfs := hide (show lowFst (PT.take (k + 1)) = (acc.head?.map (·.1)).or (if decide (y.there < y.wants) then some y.lo else none) by rw [take_snoc' hy, lowFst_snoc, hfst.out]; rfl)
      have e0 := hc 0 _ rfl
      have e1 := hc 1 _ rfl
      have e2 := hc 2 _ rfl
      have e3 := hc 3 _ rfl
      simp only [Nat.add_zero] at e0
      have lb : b < wr.heap.size := Nat.lt_of_lt_of_le hbl hbr.out.size
      obtain ⟨lo, hi, there, wants⟩ := y
      simp only at e0 e1 e2 e3 Htk Hfs hyb
      obtain ⟨⟨hl1, hl2⟩, hh1, hh2⟩ := hyb
      have hbz := hbr.out.size
      have KP := hide (Blk.new wr 135 #[.int .i64 lo, .int .i64 hi, .int .i64 there, .int .i64 wants])
      have HR := hide (hrow.alloc (.cells #[.int .i64 lo, .int .i64 hi, .int .i64 there, .int .i64 wants] 135))
      have HBr := hide (hbr.out.alloc hbz (.cells #[.int .i64 lo, .int .i64 hi, .int .i64 there, .int .i64 wants] 135))
      have hz9 := HBr.out.size
      clear hy hc hbl hrow hbr
      by_cases hlow : there < wants
      rotate_left
      · have d1 : decide (wants ≤ there) = true := by simp; omega
        have d2 : decide (there < wants) = false := by simp; omega
        rw [d2, Bool.or_false] at Htk
        rw [d2] at Hfs
        go_wp2_with fail
        go_roundw
        case rel => exact ⟨k + 1, by omega, by go_num, ⟨acc, HR.out, hide (by omega), hide Htk.out.symm, hide (by rw [Hfs.out]; simp), hbd⟩, HBr⟩
        case measure => simp [intOf]; omega
      · have d1 : decide (wants ≤ there) = false := by simp; omega
        have d2 : decide (there < wants) = true := by simp; omega
        rw [d2, Bool.or_true] at Htk
        rw [d2] at Hfs
        rcases nil_or_last acc with rfl | ⟨ini, last, rfl⟩
        · go_wp2_with fail
          go_quiet (fail)
          have HRq := hide (Row.keep HR.out (below_drewN' (Below.refl _ _) nq))
          have HBq := hide (below_drewN' HBr.out nq)
          have KPq := hide (KP.out.drewN nq)
          have hzq := HBq.out.size
          generalize World.drewN (wr.alloc (.cells #[.int .i64 lo, .int .i64 hi, .int .i64 there, .int .i64 wants] 135)) nq = wq at *
          have p0 := KPq.out.cell 0
          have p1 := KPq.out.cell 1
          simp at p0 p1
          have lp := KPq.out.lt
          have Hlw := hide (show ∀ y ∈ ([] : List (Int × Int)) ++ [(lo, hi)], -2000000 ≤ y.2 ∧ y.2 ≤ 2000000 from fun y hy => by
            rcases List.mem_append.1 hy with hy | hy
            · exact hbd.out y hy
            · rw [List.mem_singleton] at hy
              subst hy
              exact ⟨hh1, hh2⟩)
          go_wp2_with (at_builtin; refine wpList_append1 rfl (.tmp 29) (.tmp 32) 83 rfl w1.heap.size 89 (.agg #[.int .i64 0, .int .i64 0]) 2 16 encStp Tryz.underlying83 (by kernel_rfl) rfl (by omega) encStp_len encStp_one _ (([] : List (Int × Int))) (lo, hi) rfl (HRq.out.alloc _) _ rfl (Blk.new _ _ _) (by simp) (by omega) (le_alloc hzq _) ?_; intro A9 c9 w9 hrow9 hb9 hkeep9)
          go_roundw
          case rel => exact ⟨k + 1, by omega, by go_num, ⟨([] : List (Int × Int)) ++ [(lo, hi)], by simpa using hrow9, hide (by rw [List.length_append, List.length_singleton]; omega), hide (by rw [Htk.out]; simp), hide (by rw [Hfs.out]; simp), Hlw⟩, hide ((HBq.out.alloc hzq _).trans hb9)⟩
          case measure => simp [intOf]; omega
        · obtain ⟨la1, la2⟩ := last
          have hl : (ini ++ [(la1, la2)]).length = ini.length + 1 := by simp
          have hb9 := hbd.out (la1, la2) (by simp)
          simp only at hb9
          rw [hl] at HR hal ⊢
          obtain ⟨g, cs, hA2, hbg, hblk, hcs⟩ := row_blk HR.out (by simp)
          subst hA2
          have KC := hide (show cs[ini.length * 2 + 1]? = some (.int .i64 la2) from hcs _ _ (flatMap_get encStp_len (ini ++ [(la1, la2)]) ini.length (la1, la2) (by simp) 1 (.int .i64 la2) rfl))
          have KB := hide hblk
          have Hm6 := hide (show decide ((0 : Int) < (ini.length : Int) + 1) = true from decide_eq_true (by omega))
          have Hm7 := hide (show (0 : Int) ≤ (ini.length : Int) from by omega)
          have Hm8 := hide (show (ini.length : Int) < (ini.length : Int) + 1 from by omega)
          have Hm1 := hide (show IntKind.i64.wrap ((ini.length : Int) + 1 - 1) = (ini.length : Int) from by rw [Int.add_sub_cancel]; exact IntWalk.i64_in _ (by omega))
          have Hm2 := hide (show IntKind.i64.wrap (ini.length : Int) = (ini.length : Int) from IntWalk.i64_in _ (by omega))
          have Hm3 := hide (show wrap64 (ini.length : Int) = (ini.length : Int) from IntWalk.wrap64_in _ (by omega))
          have Hm4 := hide (show IntKind.i64.wrap (la2 + 1) = la2 + 1 from IntWalk.i64_in _ (by omega))
          have Hm5 := hide (show wrap64 (la2 + 1) = la2 + 1 from IntWalk.wrap64_in _ (by omega))
          have Hw1w := hide (show wrap64 ((ini.length : Int) + 1 - 1) = (ini.length : Int) from by rw [Int.add_sub_cancel]; exact IntWalk.wrap64_in _ (by omega))
          have k0 := cell_regrown ((KB.out.cell (ini.length * 2 + 1)).trans KC.out)
          have k9 := (KB.out.cell (ini.length * 2 + 1)).trans KC.out
          have lg := KB.out.lt
          clear hblk hcs
          cases hq : (la2 + 1 == lo)
          · skip
            have m6 := Hm6.out
            have m7 := Hm7.out
            have m8 := Hm8.out
            have m1 := Hm1.out
            have m2 := Hm2.out
            have m3 := Hm3.out
            have m4 := Hm4.out
            have m5 := Hm5.out
            have w1' := Hw1w.out
            go_wp2_with fail
            go_quiet (fail)
            clear m6 m7 m8 m1 m2 m3 m4 m5 w1'
            have HRq := hide (Row.keep HR.out (below_drewN' (Below.refl _ _) nq))
            have HBq := hide (below_drewN' HBr.out nq)
            have KPq := hide (KP.out.drewN nq)
            have hzq := HBq.out.size
            generalize World.drewN (wr.alloc (.cells #[.int .i64 lo, .int .i64 hi, .int .i64 there, .int .i64 wants] 135)) nq = wq at *
            have p0 := KPq.out.cell 0
            have p1 := KPq.out.cell 1
            simp at p0 p1
            have lp := KPq.out.lt
            have Hlw := hide (show ∀ y ∈ (ini ++ [(la1, la2)]) ++ [(lo, hi)], -2000000 ≤ y.2 ∧ y.2 ≤ 2000000 from fun y hy => by
              rcases List.mem_append.1 hy with hy | hy
              · exact hbd.out y hy
              · rw [List.mem_singleton] at hy
                subst hy
                exact ⟨hh1, hh2⟩)
            go_wp2_with (at_builtin; refine wpList_append1 rfl (.tmp 29) (.tmp 32) 83 rfl w1.heap.size 89 (.agg #[.int .i64 0, .int .i64 0]) 2 16 encStp Tryz.underlying83 (by kernel_rfl) rfl (by omega) encStp_len encStp_one _ ((ini ++ [(la1, la2)])) (lo, hi) rfl (HRq.out.alloc _) _ rfl (Blk.new _ _ _) (by rw [hl]; omega) (by omega) (le_alloc hzq _) ?_; intro A9 c9 w9 hrow9 hb9 hkeep9)
            go_roundw
            case rel => exact ⟨k + 1, by omega, by go_num, ⟨(ini ++ [(la1, la2)]) ++ [(lo, hi)], by simpa using hrow9, hide (by rw [List.length_append, List.length_singleton]; omega), hide (by rw [Htk.out]; simp), hide (by rw [Hfs.out]; simp), Hlw⟩, hide ((HBq.out.alloc hzq _).trans hb9)⟩
            case measure => simp [intOf]; omega
          · skip
            have m6 := Hm6.out
            have m7 := Hm7.out
            have m8 := Hm8.out
            have m1 := Hm1.out
            have m2 := Hm2.out
            have m3 := Hm3.out
            have m4 := Hm4.out
            have m5 := Hm5.out
            have w1' := Hw1w.out
            go_wp2_with fail
            go_quiet (fail)
            have HRq := hide (Row.keep HR.out (below_drewN' (Below.refl _ _) nq))
            have HBq := hide (below_drewN' HBr.out nq)
            have KPq := hide (KP.out.drewN nq)
            have KBq := hide (KB.out.drewN nq)
            generalize World.drewN (wr.alloc (.cells #[.int .i64 lo, .int .i64 hi, .int .i64 there, .int .i64 wants] 135)) nq = wq at *
            have p1 := KPq.out.cell 1
            simp at p1
            have lp := KPq.out.lt
            have kc := (KBq.out.cell (ini.length * 2 + 1)).trans KC.out
            have zc := KBq.out.frozen (ini.length * 2 + 1)
            have lq := KBq.out.lt
            have Hlw := hide (show ∀ y ∈ ini ++ [(la1, hi)], -2000000 ≤ y.2 ∧ y.2 ≤ 2000000 from fun y hy => by
              rcases List.mem_append.1 hy with hy | hy
              · exact hbd.out y (List.mem_append.2 (.inl hy))
              · rw [List.mem_singleton] at hy
                subst hy
                exact ⟨hh1, hh2⟩)
            go_wp2_with fail
            clear m6 m7 m8 m1 m2 m3 m4 m5 w1'
            go_roundw
            case rel => exact ⟨k + 1, by omega, by go_num, ⟨ini ++ [(la1, hi)], row_last HRq.out hi, hide (by rw [List.length_append, List.length_singleton]; omega), hide (by rw [Htk.out]; simp), hide (by rw [Hfs.out]; cases ini <;> simp), Hlw⟩, hide (HBq.out.setCell (p := ⟨g, ini.length * 2 + 1, none⟩) hbg _)⟩
            case measure => simp [intOf]; omega
    · obtain rfl : k = PN := by omega
      have hfin : decide (0 < acc.length) = shortB x d := by rw [hdec.out, HPN.out, List.take_length, Hany.out]
      have HB9 := hide (below_step HW1.out hbr.out (Nat.le_refl _))
      have Hfin := hide hfin
      have Hal := hide (show acc.length ≤ 1000 by omega)
      have HFt := hide (firstAt_row hrow (by rw [hfst.out, HPN.out, List.take_length, Hff.out]))
      clear hrow hdec hfst hbd hbr hfin
      go_wp2_with fail
      go_ret2
      exact P2.out _ Hse.out A2 acc.length c2 Hal.out Hfin.out HFt.out HB9.out
end Go.Proofs.YtkmpddaobncheaaGreatDoor
namespace Go.Proofs.YtkmpddaobncheaaGreatDoor
open Go.RowKit

set_option maxHeartbeats 8000000 in
set_option maxRecDepth 100000 in
theorem secCheck_ok (HSL : SortLaw) (HCL : CompLaw) (x : DetD) (s : DetS) (w : World) {B : Nat} (h : DetAt w B x s) (hB : B ≤ w.heap.size) (hf : DetFit x s) (hd : detOk x = true) :
    Calls Tryz.prog 8 #[detV x s] w fun e w' => ∃ A c, e = .returned (.tuple #[.slice A (shortRes x).length c, .int .i64 (shortErr x)]) ∧ FinRow w.heap.size w' A (shortRes x).length c (shortRes x) ∧ Below w.heap.size w w' := by
  have hdo : demsOk x.dems = true := by
    simp only [detOk, detHead, Bool.and_eq_true] at hd
    exact hd.1.1.1.2
  have hdl : x.dems.length ≤ 20 := by
    simp only [demsOk, Bool.and_eq_true, decide_eq_true_eq] at hdo
    exact hdo.1
  have hdm : ∀ (l done : List DemD), demsFrom done l = true → ∀ d ∈ l, demOk d = true := by
    intro l
    induction l with
    | nil => intro _ _ d hd; cases hd
    | cons y l ih =>
      intro done h9 d hd
      simp only [demsFrom, Bool.and_eq_true] at h9
      rcases List.mem_cons.1 hd with rfl | hd
      · exact h9.1.1
      · exact ih _ h9.2 d hd
  have hdem : ∀ d ∈ x.dems, d.name.size ≤ maxLen ∧ (d.steps.length : Int) ≤ 9223372036854775807 ∧ demOk d = true := fun d hm => ⟨(hf.dems d hm).1, (hf.dems d hm).2, hdm _ _ (by simp only [demsOk, Bool.and_eq_true] at hdo; exact hdo.2) d hm⟩
  have HV := hide (fun (W : World) (hz : Below w.heap.size w W) => show Calls Tryz.prog 24 #[.agg (detCells x.mem x.rule s)] W _ from lapValid_any x s W (h.carry (hz.mono hB) (Nat.le_refl _)) (Nat.le_trans hB hz.size) hf)
  rw [hd] at HV
  have HSp := hide (fun (W : World) (hz : Below w.heap.size w W) (q : Nat) (d : DemD) (hq : x.dems[q]? = some d) => show Calls Tryz.prog 25 #[.agg (detCells x.mem x.rule s), .int .i64 (q : Int)] W fun e w' => SpnPost x d W e w' from spans_ok HSL HCL x s q d W (h.carry (hz.mono hB) (Nat.le_refl _)) (Nat.le_trans hB hz.size) hf hd hq hdem)
  have H6 := hide (fun (W : World) (hz : Below w.heap.size w W) => SlOf.carry demR_carried h.h6 (hz.mono hB) (Nat.le_refl B))
  have L6 := hide hf.l6
  have hn6 : s.n6 ≤ 20 := by rw [hf.l6]; exact hdl
  have HBB := hide hB
  have HC9 := hide (show (detCells x.mem x.rule s)[9]? = some (.slice s.a6 s.n6 s.c6) from rfl)
  have K0 := hide (Blk.new w 34 (detCells x.mem x.rule s))
  have HW := hide (below_new w (.cells (detCells x.mem x.rule s) 34))
  have Hi := hide (show (Tryz.prog.info? 34).map (·.size) = some 19 by kernel_rfl)
  have Hsz := hide (show (detCells x.mem x.rule s).size = 19 from rfl)
  have He0 := hide (show errFrom x (x.dems.drop 0) = shortErr x from rfl)
  have Hr1 := hide (fun (q : shortErr x = 0) => show shortRes x = shortFinsOf x x.dems by rw [shortRes, if_pos q])
  have Hr2 := hide (fun (q : shortErr x ≠ 0) => show shortRes x = [] by rw [shortRes, if_neg q])
  generalize shortErr x = SE at *
  generalize shortRes x = SR at *
  show Calls Tryz.prog 8 #[.agg (detCells x.mem x.rule s)] w _
  generalize detCells x.mem x.rule s = C at *
  obtain ⟨a1, n1, c1, a2, n2, c2, a3, n3, c3, a4, n4, c4, a5, n5, c5, a6, n6, c6⟩ := s
  simp only at H6 L6 hn6 HC9
  clear h hB hf hd hdo hdl hdm hdem
  go_enter Tryz.func8, Tryz.ntmps8
  go_wp2_with (refine wpList_load_row rfl 34 (.tmp 1) rfl w.heap.size rfl 34 _ (0, 0) _ K0.out Tryz.underlying34 rfl (by rw [Hsz.out]; exact Hi.out) ?_)
  refine (HV.out _ HW.out).mono ?_
  rintro e w1 ⟨rfl, hb⟩
  replace K0 := hide (K0.out.keep hb)
  replace HW := hide (below_step HW.out hb (Nat.le_refl _))
  clear hb HV
  have e9 := (K0.out.cell 9).trans HC9.out
  have lk0 := K0.out.lt
  go_wp2_with fail
  clear e9 lk0
  go_loopw [4, 15] (fun v iv wr => ∃ k : Nat, k ≤ n6 ∧ iv = .int .i64 k ∧ (∃ acc : List FinD, Row wr w1.heap.size 71 2 encFin v acc ∧ Hid (acc = shortFinsOf x (x.dems.take k)) ∧ Hid (errFrom x (x.dems.drop k) = SE)) ∧ Hid (Below w1.heap.size w1 wr)) (fun _ iv _ => n6 - (intOf iv).toNat)
  case atStart => exact ⟨0, Nat.zero_le _, rfl, ⟨[], Row.nil _ _ _ _ _, hide rfl, He0⟩, hide (Below.refl _ _)⟩
  case round =>
    clear He0
    rename World => wr
    obtain ⟨k, hk, rfl, ⟨acc, hrow, hacc, herr⟩, hbr⟩ := hrel
    obtain ⟨A2, c2', rfl⟩ := hrow.val
    have hal : acc.length ≤ 20 := by
      have h9 := secFins_len x (x.dems.take k)
      rw [← hacc.out, List.length_take] at h9
      omega
    have HWr := hide (below_step HW.out hbr.out (Nat.le_refl _))
    by_cases hlt : k < n6
    · obtain ⟨b, off, d, A9, c9, hA, hbl, hx, _, hc⟩ := DemsAt.get (k := k) (H6.out _ HWr.out) (by rw [← L6.out]; exact hlt)
      subst hA
      have Hek := hide (herr.out.symm.trans (errFrom_at x hx))
      have Hn := hide (show shortFinsOf x (x.dems.take (k + 1)) = acc ++ (if shortB x d then [shortOne d] else []) by rw [take_snoc' hx, secFins_snoc, hacc.out])
      have HSk := hide (fun (W : World) (hz : Below w.heap.size w W) => HSp.out W hz k d hx)
      have lb : b < wr.heap.size := Nat.lt_of_lt_of_le hbl (Nat.le_trans HBB.out HWr.out.size)
      have e0 := hc 0 _ rfl
      have e1 := hc 1 _ rfl
      have e2 := hc 2 _ rfl
      have e3 := hc 3 _ rfl
      have e4 := hc 4 _ rfl
      have e5 := hc 5 _ rfl
      have e6 := hc 6 _ rfl
      have e7 := hc 7 _ rfl
      simp only [Nat.add_zero] at e0
      have K0r := hide (K0.out.below hbr.out K0.out.lt)
      have KD := hide (Blk.new wr 54 #[.string d.name, .int .i64 d.zone.lo.1, .int .i64 d.zone.lo.2.1, .int .i64 d.zone.lo.2.2, .int .i64 d.zone.hi.1, .int .i64 d.zone.hi.2.1, .int .i64 d.zone.hi.2.2, .slice A9 d.steps.length c9])
      have HX := hide (below_new wr (.cells #[.string d.name, .int .i64 d.zone.lo.1, .int .i64 d.zone.lo.2.1, .int .i64 d.zone.lo.2.2, .int .i64 d.zone.hi.1, .int .i64 d.zone.hi.2.1, .int .i64 d.zone.hi.2.2, .slice A9 d.steps.length c9] 54))
      have Hrow := hide hrow
      have hbz := hbr.out.size
      have K0q := hide (K0r.out.keep HX.out)
      clear hx hc hbl hrow herr hacc
      go_wp2_with (refine wpList_load_row rfl 34 (.tmp 1) rfl w.heap.size rfl 34 _ (0, 0) _ K0q.out Tryz.underlying34 rfl (by rw [Hsz.out]; exact Hi.out) ?_)
      refine (HSk.out _ (below_step HWr.out HX.out (Nat.le_refl _))).mono ?_
      clear e0 e1 e2 e3 e4 e5 e6 e7 lb HSk
      rintro e w5 (⟨hse, rfl, hb⟩ | ⟨hse, A5, n5', c5', rfl, hn5, hdec, _, hb⟩)
      · have h9 := Hek.out
        rw [if_neg hse] at h9
        have HB9 := hide (below_step (below_step HWr.out HX.out (Nat.le_refl _)) hb (Nat.le_refl _))
        have dse : (supErr x d != 0) = true := by simpa using hse
        have Hse := hide hse
        have H9 := hide h9
        clear hb h9 hse Hek Hn
        generalize supErr x d = es at *
        go_wp2_with fail
        go_ret2
        have hr := Hr2.out (by rw [H9.out]; exact Hse.out)
        exact ⟨none, 0, by rw [hr, H9.out]; rfl, by rw [hr]; exact Row.nil _ _ _ _ _, HB9.out⟩
      · have h9 := Hek.out
        rw [if_pos hse] at h9
        have H9 := hide h9.symm
        have HXc := hide (below_step HX.out hb (Nat.le_refl _))
        have KD2 := hide (KD.out.keep hb)
        have Hrow2 := hide (Hrow.out.keep HXc.out)
        have hx2 := hide (hbr.out.trans (HXc.out.mono hbz))
        have hxz := hx2.out.size
        clear hb h9 hse Hek KD Hrow
        have f0 := KD2.out.cell 0
        simp at f0
        have lf := KD2.out.lt
        cases hsb : shortB x d
        · rw [hsb] at hdec Hn
          have hn0 : ¬ 0 < n5' := of_decide_eq_false hdec
          have t1 : decide ((0 : Int) < (n5' : Int)) = false := decide_eq_false (by omega)
          have t2 : decide (0 < n5') = false := hdec
          clear hsb
          go_wp2_with fail
          go_roundw
          case rel => exact ⟨k + 1, by omega, by go_num, ⟨acc, Hrow2.out, hide (by rw [Hn.out]; simp), H9⟩, hx2⟩
          case measure => simp [intOf]; omega
        · rw [hsb] at hdec Hn
          have hn0 : 0 < n5' := of_decide_eq_true hdec
          have t1 : decide ((0 : Int) < (n5' : Int)) = true := decide_eq_true (by omega)
          have t2 : decide (0 < n5') = true := hdec
          clear hsb
          go_wp2_with (at_builtin; refine wpList_append1 rfl (.tmp 32) (.tmp 36) 40 rfl w1.heap.size 71 (.agg #[.int .i64 0, .string .empty]) 2 24 encFin Tryz.underlying40 (by kernel_rfl) rfl (by omega) encFin_len encFin_one _ acc (shortOne d) rfl (Hrow2.out.alloc _) _ rfl (Blk.new w5 _ _) (by omega) (by omega) (le_alloc hxz _) ?_; intro A7 c7 w7 hrow7 hb7 hkeep7)
          go_roundw
          case rel => exact ⟨k + 1, by omega, by go_num, ⟨acc ++ [shortOne d], by simpa using hrow7, hide (by rw [Hn.out]; rfl), H9⟩, hide ((hx2.out.alloc hxz _).trans hb7)⟩
          case measure => simp [intOf]; omega
    · obtain rfl : k = n6 := by omega
      have hse : SE = 0 := by
        rw [← herr.out, L6.out, List.drop_length]
        rfl
      have hr : SR = acc := by rw [Hr1.out hse, hacc.out, L6.out, List.take_length]
      have HR := hide (show FinRow w.heap.size wr A2 SR.length c2' SR by rw [hr]; exact rowLow HW.out.size hrow)
      have Hr := hide hr
      have Hse := hide hse
      clear hrow hacc herr hbr hr hse
      go_wp2_with fail
      go_ret2
      exact ⟨A2, c2', by rw [Hr.out, Hse.out]; rfl, HR.out, HWr.out⟩
end Go.Proofs.YtkmpddaobncheaaGreatDoor
