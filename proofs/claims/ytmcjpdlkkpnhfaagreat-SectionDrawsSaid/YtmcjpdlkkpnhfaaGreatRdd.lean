/- Proved: for every detail, place, and scale that come in, SectionDraws returns true, does not panic, and leaves its arguments as they were. Conditions: the row's own, no others. -/
import Derived.Test.YtmcjpdlkkpnhfaaGreatRdf
import Derived.Test.YtmcjpdlkkpnhfaaGreatRdg
import Derived.Test.YtmcjpdlkkpnhfaaGreatQbb
import Derived.Test.YtmcjpdlkkpnhfaaGreatRows
import Derived.Test.YtmcjpdlkkpnhfaaGreatChecked
import Derived.WalkKit
import Derived.ProofKit
import Derived.OpenShut
import Derived.Deep.DeepHandedRow
import Derived.Lib.LaidTab
import Derived.Stop.LaidErr
namespace Go.Proofs.YtmcjpdlkkpnhfaaGreat
open Go.RowKit

set_option maxHeartbeats 8000000 in
set_option maxRecDepth 100000 in
theorem sectionDraws_law (x : DetD) (s : DetS) (a sc : Int) (w : World) {B : Nat} (h : DetAt w B x s) (hB : B ≤ w.heap.size) (hl : DetLen x s) :
    Calls Tryz.prog 3 #[detV x s, .int .i64 a, .int .i64 sc] w fun e w' => e = .returned (.bool true) ∧ Below w.heap.size w w' := by
  have HF := hide (fun (W : World) (hz : Below w.heap.size w W) => small25_any x s W (h.carry (hz.mono hB) (Nat.le_refl _)) (Nat.le_trans hB hz.size) hl)
  have HS0 := hide (fun (f : Few x s) (he : sizeErr x sc = 0) (W : World) (hz : Below w.heap.size w W) => sectSize_ok x s sc W (h.carry (hz.mono hB) (Nat.le_refl _)) (Nat.le_trans hB hz.size) (few_fit hl f) he)
  have HS1 := hide (fun (f : Few x s) (he : sizeErr x sc ≠ 0) (W : World) (hz : Below w.heap.size w W) => sectSize_bad x s sc W (h.carry (hz.mono hB) (Nat.le_refl _)) (Nat.le_trans hB hz.size) (few_fit hl f) he)
  have HG := hide (fun (f : Few x s) (W : World) (hz : Below w.heap.size w W) => refGiven47_any x s 0 sc W (h.carry (hz.mono hB) (Nat.le_refl _)) (Nat.le_trans hB hz.size) (few_fit hl f) (few_dems f))
  have HD1 := hide (fun (f : Few x s) (q : Int) (he : drawErr x q sc ≠ 0) (W : World) (hz : Below w.heap.size w W) => sectDraw_bad x s q sc W (h.carry (hz.mono hB) (Nat.le_refl _)) (Nat.le_trans hB hz.size) (few_fit hl f) he)
  have HD0 := hide (fun (f : Few x s) (he : drawErr x a sc = 0) (W : World) (hz : Below w.heap.size w W) => sectDraw_ok x s a sc W (h.carry (hz.mono hB) (Nat.le_refl _)) (Nat.le_trans hB hz.size) (few_fit hl f) he)
  have HR1 := hide (fun (f : Few x s) (he : drawErr x a sc ≠ 0) (W : World) (hz : Below w.heap.size w W) => refDraw47_bad x s a sc W (h.carry (hz.mono hB) (Nat.le_refl _)) (Nat.le_trans hB hz.size) (few_fit hl f) (few_dems f) he)
  have HR0 := hide (fun (f : Few x s) (he : drawErr x a sc = 0) (W : World) (hz : Below w.heap.size w W) => refDraw47_ok x s a sc W (h.carry (hz.mono hB) (Nat.le_refl _)) (Nat.le_trans hB hz.size) (few_fit hl f) (few_dems f) he)
  have HZ := hide (fun (f : Few x s) (hg : givErr x 0 sc = 0) (W : World) (hz : Below w.heap.size w W) => refSize47_ok x s sc W (h.carry (hz.mono hB) (Nat.le_refl _)) (Nat.le_trans hB hz.size) (few_fit hl f) (giv_ok hg).1 (giv_ok hg).2)
  have Hi := hide (show (Tryz.prog.info? 34).map (·.size) = some 19 by kernel_rfl)
  have K0 := hide (Blk.new w 34 (detCells x.mem x.rule s))
  have HW := hide (below_new w (.cells (detCells x.mem x.rule s) 34))
  clear h hB hl
  go_enter Tryz.func3, Tryz.ntmps3
  go_wp2_with fail
  refine (awake_any _).mono ?_
  rintro e w1 ⟨rfl, hb⟩
  replace K0 := hide (K0.out.keep hb)
  replace HW := hide (below_step HW.out hb (Nat.le_refl _))
  clear hb
  go_wp2_with (refine wpList_load_row rfl 34 (.tmp 3) rfl w.heap.size rfl 34 _ (0, 0) _ K0.out Tryz.underlying34 rfl Hi.out ?_)
  refine (HF.out _ HW.out).mono ?_
  rintro e w2 ⟨⟨t, rfl, ht⟩, hb⟩
  have Ht := hide ht
  replace K0 := hide (K0.out.keep hb)
  replace HW := hide (below_step HW.out hb (Nat.le_refl _))
  clear hb
  clear ht HF
  cases t
  · go_wp2_with fail
    go_ret
    exact ⟨rfl, HW.out⟩
  have f := Ht.out rfl
  by_cases hg : givErr x 0 sc = 0
  · have hsz := giv_size hg
    have hrange := giv_ok hg
    have hhull := boxOk_iff.1 (detOk_hull hrange.1)
    have HS := hide (HS0.out f hsz)
    have HGf := HG.out f
    rw [hg] at HGf
    have HGf := hide HGf
    have HZf := hide (HZ.out f hg)
    have Htx : ∃ (txt : ByteArray) (er : Int), Hid (∀ (W : World), Below w.heap.size w W → Calls Tryz.prog 11 #[detV x s, .int .i64 a, .int .i64 sc] W fun e w' => e = .returned (.tuple #[.string txt, .int .i64 er]) ∧ Below W.heap.size W w') ∧ Hid (∀ (W : World), Below w.heap.size w W → Calls Tryz.prog 13 #[detV x s, .int .i64 a, .int .i64 sc] W fun e w' => e = .returned (.tuple #[.string txt, .int .i64 er]) ∧ Below W.heap.size W w') := by
      by_cases he : drawErr x a sc = 0
      · exact ⟨_, _, hide (HD0.out f he), hide (HR0.out f he)⟩
      · exact ⟨_, _, hide (HD1.out f a he), hide (HR1.out f he)⟩
    obtain ⟨txt, er, HD, HR⟩ := Htx
    have hc1 : 1 ≤ colsOf x sc ∧ colsOf x sc ≤ 2097153 := by
      have b1 := Int.ediv_nonneg (a := (hullOf x.mem.boxes).hi.2.1 - (hullOf x.mem.boxes).lo.2.1) (b := sc) (by omega) (by omega)
      have b2 := Int.ediv_le_self (a := (hullOf x.mem.boxes).hi.2.1 - (hullOf x.mem.boxes).lo.2.1) sc (by omega)
      unfold colsOf
      omega
    have hr1 : 1 ≤ rowsS x sc ∧ rowsS x sc ≤ 2097153 := by
      have b1 := Int.ediv_nonneg (a := (hullOf x.mem.boxes).hi.2.2 - (hullOf x.mem.boxes).lo.2.2) (b := sc) (by omega) (by omega)
      have b2 := Int.ediv_le_self (a := (hullOf x.mem.boxes).hi.2.2 - (hullOf x.mem.boxes).lo.2.2) sc (by omega)
      unfold rowsS
      omega
    generalize colsOf x sc = C at *
    generalize rowsS x sc = R at *
    have hp1 : 0 ≤ C * R := Int.mul_nonneg (by omega) (by omega)
    have hp2 : C * R ≤ 2097153 * 2097153 := Int.mul_le_mul hc1.2 hr1.2 (by omega) (by omega)
    have z1 : IntKind.i64.wrap (C * R) = C * R := IntWalk.i64_in _ (by omega)
    have hways : (decide (900 < C * R) = true ∧ decide (C ≤ 200) = true ∧ decide (R ≤ 200) = true) ∨ (decide (900 < C * R) = false) ∨ (decide (900 < C * R) = true ∧ decide (C ≤ 200) = false) ∨ (decide (900 < C * R) = true ∧ decide (C ≤ 200) = true ∧ decide (R ≤ 200) = false) := by
      simp only [decide_eq_true_eq, decide_eq_false_iff_not]
      generalize C * R = CR at *
      omega
    clear HS0 HS1 HG HD0 HD1 HR0 HR1 HZ Ht hg hsz hrange hhull hp1 hp2 hc1 hr1 f
    go_wp2_with (refine wpList_load_row rfl 34 (.tmp 3) rfl w.heap.size rfl 34 _ (0, 0) _ K0.out Tryz.underlying34 rfl Hi.out ?_)
    refine (HS.out _ HW.out).mono ?_
    rintro e w3 ⟨rfl, hb⟩
    replace K0 := hide (K0.out.keep hb)
    replace HW := hide (below_step HW.out hb (Nat.le_refl _))
    clear hb
    clear HS
    go_wp2_with (refine wpList_load_row rfl 34 (.tmp 3) rfl w.heap.size rfl 34 _ (0, 0) _ K0.out Tryz.underlying34 rfl Hi.out ?_)
    refine (HGf.out _ HW.out).mono ?_
    rintro e w4 ⟨rfl, hb⟩
    replace K0 := hide (K0.out.keep hb)
    replace HW := hide (below_step HW.out hb (Nat.le_refl _))
    clear hb
    clear HGf
    go_wp2_with (refine wpList_load_row rfl 34 (.tmp 3) rfl w.heap.size rfl 34 _ (0, 0) _ K0.out Tryz.underlying34 rfl Hi.out ?_)
    refine (HZf.out _ HW.out).mono ?_
    rintro e w5 ⟨rfl, hb⟩
    replace K0 := hide (K0.out.keep hb)
    replace HW := hide (below_step HW.out hb (Nat.le_refl _))
    clear hb
    clear HZf
    rcases hways with ⟨d1, d2, d3⟩ | d1 | ⟨d1, d2⟩ | ⟨d1, d2, d3⟩
    · go_wp2_with fail
      go_ret
      exact ⟨rfl, HW.out⟩
    all_goals
      go_wp2_with (refine wpList_load_row rfl 34 (.tmp 3) rfl w.heap.size rfl 34 _ (0, 0) _ K0.out Tryz.underlying34 rfl Hi.out ?_)
      refine (HD.out _ HW.out).mono ?_
      rintro e w6 ⟨rfl, hb⟩
      replace K0 := hide (K0.out.keep hb)
      replace HW := hide (below_step HW.out hb (Nat.le_refl _))
      clear hb
      clear HD
      go_wp2_with (refine wpList_load_row rfl 34 (.tmp 3) rfl w.heap.size rfl 34 _ (0, 0) _ K0.out Tryz.underlying34 rfl Hi.out ?_)
      refine (HR.out _ HW.out).mono ?_
      rintro e w7 ⟨rfl, hb⟩
      replace K0 := hide (K0.out.keep hb)
      replace HW := hide (below_step HW.out hb (Nat.le_refl _))
      clear hb
      clear HR
      go_wp2_with fail
      go_ret
      exact ⟨rfl, HW.out⟩
  · have hs1 : sizeErr x sc ≠ 0 := by rw [giv_bad hg]; exact hg
    have hd1 : drawErr x 0 sc ≠ 0 := by rw [drw_bad hg]; exact hg
    have hS := HS1.out f hs1
    rw [giv_bad hg] at hS
    have HS := hide hS
    have hD := HD1.out f 0 hd1
    rw [drw_bad hg] at hD
    have HD := hide hD
    have HGf := hide (HG.out f)
    have hg' := hide hg
    generalize givErr x 0 sc = er at *
    have d1 : (er == 0) = false := by simpa using hg'.out
    have d2 : (er != 0) = true := by simpa using hg'.out
    clear HS0 HS1 HG HD0 HD1 HR0 HR1 HZ Ht hg hs1 hd1 hS hD f
    go_wp2_with (refine wpList_load_row rfl 34 (.tmp 3) rfl w.heap.size rfl 34 _ (0, 0) _ K0.out Tryz.underlying34 rfl Hi.out ?_)
    refine (HS.out _ HW.out).mono ?_
    rintro e w3 ⟨rfl, hb⟩
    replace K0 := hide (K0.out.keep hb)
    replace HW := hide (below_step HW.out hb (Nat.le_refl _))
    clear hb
    clear HS
    go_wp2_with (refine wpList_load_row rfl 34 (.tmp 3) rfl w.heap.size rfl 34 _ (0, 0) _ K0.out Tryz.underlying34 rfl Hi.out ?_)
    refine (HGf.out _ HW.out).mono ?_
    rintro e w4 ⟨rfl, hb⟩
    replace K0 := hide (K0.out.keep hb)
    replace HW := hide (below_step HW.out hb (Nat.le_refl _))
    clear hb
    clear HGf
    go_wp2_with (refine wpList_load_row rfl 34 (.tmp 3) rfl w.heap.size rfl 34 _ (0, 0) _ K0.out Tryz.underlying34 rfl Hi.out ?_)
    refine (HD.out _ HW.out).mono ?_
    rintro e w5 ⟨rfl, hb⟩
    replace K0 := hide (K0.out.keep hb)
    replace HW := hide (below_step HW.out hb (Nat.le_refl _))
    clear hb
    clear HD
    go_wp2_with fail
    go_ret
    exact ⟨rfl, HW.out⟩
end Go.Proofs.YtmcjpdlkkpnhfaaGreat
namespace Go.Proofs.YtmcjpdlkkpnhfaaGreat
open Go.ChangeShapes Go.WideShapes Go.ChangeAt Go.RowKit

theorem own : ownKnob Tryz.prog.godebug = none := by kernel_rfl
theorem laidOut : laidOutB Tryz.prog = true := by kernel_rfl

set_option maxRecDepth 100000 in
theorem contract (H : Type) (enc : TypeId × Value → H) (W : World) (base : Nat) (args : Array Value) (ds gs : List (DataW H)) (before : List MemPlace)
    (hval : ∀ (j : Nat) t v, Tryz.f3.params[j]? = some t → args[j]? = some v → Value.okWide Tryz.prog W .any base t v)
    (hW : DataW.Whole enc Tryz.prog Tryz.f3.params.toList Rows.sectionDrawsSpec.vars false W args.toList ds gs before) :
    Calls Tryz.prog 3 args W fun e W' => ∃ v, e = .returned v ∧ Rows.sectionDrawsSpec.post enc Tryz.prog Tryz.f3 false true false false W args v W' := by
  have hW' := hW
  obtain ⟨p, q, hA0, hV, rfl, hfz, hnd⟩ := hW
  have hA : DataW.TrodAll enc Tryz.prog W 0 (fun _ => true) true Tryz.f3.params.toList args.toList ds p := hA0
  rw [Tryz.params3] at hA hval
  obtain ⟨v0, vs0, d0, ds0, p0, q0, hargs, rfl, rfl, h0, r0⟩ := trodAll_cons hA
  obtain ⟨v1, vs1, d1, ds1, p1, q1, hargs1, rfl, rfl, h1, r1⟩ := trodAll_cons r0
  obtain ⟨v2, vs2, d2, ds2, p2, q2, hargs2, rfl, rfl, h2, r2⟩ := trodAll_cons r1
  obtain ⟨rfl, rfl, rfl⟩ := trodAll_nil r2
  subst hargs2 hargs1
  obtain rfl : args = #[v0, v1, v2] := by cases args; simp_all
  obtain ⟨rfl, rfl⟩ := trodVars_none hV
  obtain ⟨cs0, rfl, hcs0⟩ := okWide_struct Tryz.underlying34 (hval 0 34 v0 rfl rfl)
  obtain ⟨i1, rfl⟩ := okWide_int Tryz.underlying3 (hval 1 3 v1 rfl rfl)
  obtain ⟨i2, rfl⟩ := okWide_int Tryz.underlying3 (hval 2 3 v2 rfl rfl)
  have k0 := h0
  have k1 := h1
  have k2 := h2
  have lt0 : ∀ x ∈ p0, x.block < W.heap.size := by obtain ⟨m, hm⟩ := k0; exact DataW.trod_lt m _ _ _ hm
  have lt1 : ∀ x ∈ p1, x.block < W.heap.size := by obtain ⟨m, hm⟩ := k1; exact DataW.trod_lt m _ _ _ hm
  have lt2 : ∀ x ∈ p2, x.block < W.heap.size := by obtain ⟨m, hm⟩ := k2; exact DataW.trod_lt m _ _ _ hm
  obtain ⟨fuel, hf⟩ := h0
  obtain ⟨x, s, hcs, hdet, hlen⟩ := det_open hf
  have hcs' : cs0.toList = (detCells x.mem x.rule s).toList := hcs
  obtain rfl : cs0 = detCells x.mem x.rule s := Array.toList_inj.1 hcs'
  clear hA0
  refine (sectionDraws_law x s i1 i2 W hdet (Nat.le_refl _) hlen).mono fun e W' ⟨he, bel⟩ => ?_
  subst he
  exact ⟨_, rfl, _, _, _, [], _, [], hW', trodAll_mk1 (shut_bool Tryz.underlying4 _), (trodAll_cons_mk (Below.trod laidOut (by kernel_rfl) (of_decide_eq_true (by kernel_rfl)) k0 bel lt0) (trodAll_cons_mk (Below.trod laidOut (by kernel_rfl) (of_decide_eq_true (by kernel_rfl)) k1 bel lt1) (trodAll_cons_mk (Below.trod laidOut (by kernel_rfl) (of_decide_eq_true (by kernel_rfl)) k2 bel lt2) trodAll_mk0))), rfl, bel.frame _, fun h => by cases h⟩

/-- A world for the witness. -/
noncomputable def startWorld (os : Os) : World := World.holding Tryz.prog os ⟨#[], #[], []⟩
theorem laid_met (os : Os) : laidMet Tryz.prog Rows.sectionDrawsRow.laid ((startWorld os).forCall (fun _ _ => 0) ⟨#[], #[.agg #[.string .empty, .slice none 0 0, .slice none 0 0, .int .i64 0, .int .i64 0, .int .i64 0, .slice none 0 0, .slice none 0 0, .slice none 0 0, .slice none 0 0, .int .i64 0, .int .i64 0, .int .i64 0, .int .i64 0, .int .i64 0, .int .i64 0, .int .i64 0, .int .i64 0, .int .i64 0], .int .i64 0, .int .i64 0], []⟩).memory :=
  laidMet_of_run' 8 (by kernel_rfl) (by kernel_rfl)
theorem reads (os : Os) {H : Type} (enc : TypeId × Value → H) : ∃ places, DataW.whole enc Tryz.prog ((startWorld os).forCall (fun _ _ => 0) ⟨#[], #[.agg #[.string .empty, .slice none 0 0, .slice none 0 0, .int .i64 0, .int .i64 0, .int .i64 0, .slice none 0 0, .slice none 0 0, .slice none 0 0, .slice none 0 0, .int .i64 0, .int .i64 0, .int .i64 0, .int .i64 0, .int .i64 0, .int .i64 0, .int .i64 0, .int .i64 0, .int .i64 0], .int .i64 0, .int .i64 0], []⟩).memory Tryz.f3.params.toList Rows.sectionDrawsSpec.vars false (#[.agg #[.string .empty, .slice none 0 0, .slice none 0 0, .int .i64 0, .int .i64 0, .int .i64 0, .slice none 0 0, .slice none 0 0, .slice none 0 0, .slice none 0 0, .int .i64 0, .int .i64 0, .int .i64 0, .int .i64 0, .int .i64 0, .int .i64 0, .int .i64 0, .int .i64 0, .int .i64 0], .int .i64 0, .int .i64 0] : Array Value).toList 8 = some ([.agg [.agg [.lit (.string []), .agg [.nil, .nil], .lit (.int .i64 0), .lit (.int .i64 0), .lit (.int .i64 0)], .nil, .nil, .nil, .nil, .agg [.lit (.int .i64 0), .lit (.int .i64 0), .lit (.int .i64 0), .lit (.int .i64 0), .lit (.int .i64 0), .lit (.int .i64 0), .lit (.int .i64 0), .lit (.int .i64 0), .lit (.int .i64 0)]], .lit (.int .i64 0), .lit (.int .i64 0)], [], places) :=
  ⟨[], by kernel_rfl⟩

set_option maxRecDepth 100000 in
theorem lifted (os : Os) (started : os.Started) (H : Type) (enc : TypeId × Value → H) (F : Stop.Interp) :
    ReturnsInHanded {} Tryz.checked os 3 .any ((OpenSpec.ofChange Rows.sectionDrawsSpec).preRow enc Tryz.prog Tryz.f3 Rows.sectionDrawsRow.domain false Rows.sectionDrawsRow.laid) (((OpenSpec.ofChange Rows.sectionDrawsSpec).at F).post enc Tryz.prog Tryz.f3 false true false false) := by
  obtain ⟨places, hx⟩ := reads os enc
  refine returnsInHanded_of_row (C := Tryz.checked) (s := OpenSpec.ofChange Rows.sectionDrawsSpec) own started (by kernel_rfl) Tryz.func3
    (witness_row_at (enc := enc) (C := Tryz.checked) false (startWorld os) #[.agg #[.string .empty, .slice none 0 0, .slice none 0 0, .int .i64 0, .int .i64 0, .int .i64 0, .slice none 0 0, .slice none 0 0, .slice none 0 0, .slice none 0 0, .int .i64 0, .int .i64 0, .int .i64 0, .int .i64 0, .int .i64 0, .int .i64 0, .int .i64 0, .int .i64 0, .int .i64 0], .int .i64 0, .int .i64 0] rfl (by kernel_rfl) (by kernel_rfl) (by kernel_rfl)
      (OpenSpec.preRow_of_cond 8 hx (by kernel_rfl) (fun k hk => by cases hk) (by kernel_rfl) (laid_met os))) ?_
  intro W base args ds gs before hval hW _ _ _ hL _ _
  exact contract H enc W base args ds gs before hval hW

set_option maxRecDepth 100000 in
theorem sectionDraws_holds : Rows.SectionDrawsSaid :=
  OpenClaim.holds_of_cond 3 Tryz.f3 rfl rfl rfl rfl rfl rfl rfl ⟨rfl, rfl, rfl, rfl, rfl⟩ rfl rfl rfl rfl rfl (by kernel_rfl) Tryz.func3 (by kernel_rfl)
    (of_decide_eq_true (by kernel_rfl)) (by unfold Func.isWrapper; first | (rw [if_pos (by decide +kernel)]; kernel_rfl) | (rw [if_neg (by decide +kernel)]; exact ⟨rfl, rfl⟩))
    (fun os started H enc _ F => by rw [OpenClaim.pre_eq_preRow]; exact lifted os started H enc F)
end Go.Proofs.YtmcjpdlkkpnhfaaGreat
