/- Proved: for every stock, order and plan that come in, ReportWastes returns true, does not panic, and leaves them as they were. Conditions: the row's own, no others: the tables and sentinels of Go's library that the row lists hold what the program's text lays; the card ties that to the text. -/
import Derived.Test.YtnhmdgkhmkeopaaGreatDoorLawW
import Derived.Test.YtnhmdgkhmkeopaaGreatDoorOpenW
import Derived.Test.YtnhmdgkhmkeopaaGreatDoorWit
namespace Go.Proofs.YtnhmdgkhmkeopaaGreatDoor
open Go.ChangeShapes Go.WideShapes Go.ChangeAt Go.RowKit

theorem gTab : (Tryz.prog).globalNamed "internal/strconv.uint64pow10" = some 7 := by kernel_rfl
theorem gTabType : ((Tryz.prog).globals[7]?).map (·.type) = some 217 := by kernel_rfl
theorem cellsTab : (Tryz.prog).cellsOf 217 = 20 := by kernel_rfl
theorem cellsU64 : (Tryz.prog).cellsOf 188 = 1 := by kernel_rfl

theorem table {W : World} (h : laidMetH Tryz.prog Rows.reportWastesRow.laid W) : Lib.TabIs Tryz.prog W "internal/strconv.uint64pow10" .u64 Lib.pow10Tab := by
  have h0 : laidMet Tryz.prog (("math/bits.deBruijn32tab", Rows.laid_math_bits_deBruijn32tab) :: ("math/bits.deBruijn64tab", Rows.laid_math_bits_deBruijn64tab) :: ("internal/strconv.uint64pow10", Rows.laid_internal_strconv_uint64pow10) :: Rows.reportWastesRow.laid.drop 3) W := h
  have h1 := laidMet.tail (laidMet.tail h0)
  have e : (Rows.laid_internal_strconv_uint64pow10 : DataW Unit) = Lib.tabData .u64 Lib.pow10Tab := rfl
  rw [e] at h1
  exact Lib.tabIs_of_head gTab gTabType Tryz.underlying217 Tryz.underlying188 cellsU64 cellsTab h1
theorem gSp : (Tryz.prog).globalNamed "strings.asciiSpace" = some 0 := by kernel_rfl
theorem gSpType : ((Tryz.prog).globals[0]?).map (·.type) = some 114 := by kernel_rfl
theorem cellsSp : (Tryz.prog).cellsOf 114 = 256 := by kernel_rfl
theorem cellsU8 : (Tryz.prog).cellsOf 5 = 1 := by kernel_rfl
theorem tableS {W : World} (h : laidMetH Tryz.prog Rows.reportWastesRow.laid W) : Lib.TabIs Tryz.prog W "strings.asciiSpace" .u8 Lib.asciiSpaceTab := by
  have h0 : laidMet Tryz.prog (("math/bits.deBruijn32tab", Rows.laid_math_bits_deBruijn32tab) :: ("math/bits.deBruijn64tab", Rows.laid_math_bits_deBruijn64tab) :: ("internal/strconv.uint64pow10", Rows.laid_internal_strconv_uint64pow10) :: ("unicode/utf8.acceptRanges", Rows.laid_unicode_utf8_acceptRanges) :: ("strconv.ErrRange", Rows.laid_strconv_ErrRange) :: ("strconv.ErrSyntax", Rows.laid_strconv_ErrSyntax) :: ("unicode.White_Space", Rows.laid_unicode_White_Space) :: ("strings.asciiSpace", Rows.laid_strings_asciiSpace) :: Rows.reportWastesRow.laid.drop 8) W := h
  have h1 := laidMet.tail (laidMet.tail (laidMet.tail (laidMet.tail (laidMet.tail (laidMet.tail (laidMet.tail h0))))))
  have e : (Rows.laid_strings_asciiSpace : DataW Unit) = Lib.tabData .u8 Lib.asciiSpaceTab := by kernel_rfl
  rw [e] at h1
  exact Lib.tabIs_of_head gSp gSpType Tryz.underlying114 Tryz.underlying5 cellsU8 cellsSp h1
theorem gEr : (Tryz.prog).globalNamed "strconv.ErrSyntax" = some 3 := by kernel_rfl
theorem gErType : ((Tryz.prog).globals[3]?).map (·.type) = some 85 := by kernel_rfl
theorem rowEr : ∀ u, (Tryz.prog).typeName? 3 u = some "*errors.errorString" → u = 212 := by
  have star : ("*errors.errorString" : String) = "*" ++ "errors.errorString" := by decide +kernel
  intro u h
  exact typeName_ptr_named (nm := "errors.errorString") (by rw [← star]; kernel_rfl) (by kernel_rfl) (by decide) u (by rw [← star]; exact h)
theorem errS {W : World} (h : laidMetH Tryz.prog Rows.reportWastesRow.laid W) : EX W.heap.size W := by
  have h0 : laidMet Tryz.prog (("math/bits.deBruijn32tab", Rows.laid_math_bits_deBruijn32tab) :: ("math/bits.deBruijn64tab", Rows.laid_math_bits_deBruijn64tab) :: ("internal/strconv.uint64pow10", Rows.laid_internal_strconv_uint64pow10) :: ("unicode/utf8.acceptRanges", Rows.laid_unicode_utf8_acceptRanges) :: ("strconv.ErrRange", Rows.laid_strconv_ErrRange) :: ("strconv.ErrSyntax", Rows.laid_strconv_ErrSyntax) :: Rows.reportWastesRow.laid.drop 6) W := h
  have h1 := laidMet.tail (laidMet.tail (laidMet.tail (laidMet.tail (laidMet.tail h0))))
  obtain ⟨a, s, hv, _⟩ := laid_sentinel h1 gEr gErType Tryz.underlying85 rowEr Tryz.underlying212 Tryz.underlying214 rfl rfl Tryz.underlying9 (by kernel_rfl) (by kernel_rfl)
  have hc : W.cell? ⟨3, 0, none⟩ = some (.iface 212 (.pointer (some a))) := var?_cell gEr hv 0
  exact ⟨World.block_lt_of_cell? W _ hc, _, hc, .inr ⟨_, _, rfl⟩⟩
theorem maxLen_shape {W : World} (h : W.ShapedOpen Tryz.prog) : MX W.heap.size W := by
  obtain ⟨m, hm⟩ := Tryz.laysM145.s1_3 W h
  exact ⟨World.block_lt_of_cell? W _ hm, m, hm⟩

set_option maxRecDepth 100000 in
theorem contract (H : Type) (enc : TypeId × Value → H) (W : World) (base : Nat) (args : Array Value) (ds gs : List (DataW H)) (before : List MemPlace)
    (hval : ∀ (j : Nat) t v, Tryz.f6.params[j]? = some t → args[j]? = some v → Value.okWide Tryz.prog W .any base t v)
    (hW : DataW.Whole enc Tryz.prog Tryz.f6.params.toList Rows.reportWastesSpec.vars false W args.toList ds gs before) (hL : laidMetH Tryz.prog Rows.reportWastesRow.laid W) (hsh : W.ShapedOpen Tryz.prog) :
    Calls Tryz.prog 6 args W fun e W' => ∃ v, e = .returned v ∧ Rows.reportWastesSpec.post enc Tryz.prog Tryz.f6 false true false false W args v W' := by
  have hW' := hW
  obtain ⟨p, q, hA0, hV, rfl, hfz, hnd⟩ := hW
  have hA : DataW.TrodAll enc Tryz.prog W 0 (fun _ => true) true Tryz.f6.params.toList args.toList ds p := hA0
  rw [Tryz.params6] at hA hval
  obtain ⟨v0, vs0, d0, ds0, p0, q0, hargs, rfl, rfl, h0, r0⟩ := trodAll_cons hA
  obtain ⟨v1, vs1, d1, ds1, p1, q1, hargs1, rfl, rfl, h1, r1⟩ := trodAll_cons r0
  obtain ⟨v2, vs2, d2, ds2, p2, q2, hargs2, rfl, rfl, h2, r2⟩ := trodAll_cons r1
  obtain ⟨rfl, rfl, rfl⟩ := trodAll_nil r2
  subst hargs2
  subst hargs1
  obtain rfl : args = #[v0, v1, v2] := by cases args; simp_all
  obtain ⟨rfl, rfl⟩ := trodVars_none hV
  obtain ⟨a0, len0, cap0, rfl⟩ := okWide_slice Tryz.underlying51 (hval 0 51 v0 rfl rfl)
  obtain ⟨a1, len1, cap1, rfl⟩ := okWide_slice Tryz.underlying52 (hval 1 52 v1 rfl rfl)
  obtain ⟨a2, len2, cap2, rfl⟩ := okWide_slice Tryz.underlying53 (hval 2 53 v2 rfl rfl)
  have k0 := h0
  have k1 := h1
  have k2 := h2
  have lt0 : ∀ x ∈ p0, x.block < W.heap.size := by obtain ⟨m, hm⟩ := k0; exact DataW.trod_lt m _ _ _ hm
  have lt1 : ∀ x ∈ p1, x.block < W.heap.size := by obtain ⟨m, hm⟩ := k1; exact DataW.trod_lt m _ _ _ hm
  have lt2 : ∀ x ∈ p2, x.block < W.heap.size := by obtain ⟨m, hm⟩ := k2; exact DataW.trod_lt m _ _ _ hm
  obtain ⟨f0, hf0⟩ := h0
  obtain ⟨f1, hf1⟩ := h1
  obtain ⟨f2, hf2⟩ := h2
  obtain ⟨A0, l0, c0, hcs0, hstk, hlen0, _⟩ := stks_open hf0
  obtain ⟨A1, l1, c1, hcs1, hpie, hlen1, _⟩ := pies_open hf1
  obtain ⟨A2, l2, c2, hcs2, hpat, hlen2, _⟩ := pats_open hf2
  simp [Value.cells] at hcs0 hcs1 hcs2
  obtain ⟨rfl, rfl, rfl⟩ := hcs0
  obtain ⟨rfl, rfl, rfl⟩ := hcs1
  obtain ⟨rfl, rfl, rfl⟩ := hcs2
  clear hA0
  have ht : TB W.heap.size W := Lib.tabBelow_of_tabIs (table hL)
  have hts : TS W.heap.size W := Lib.tabBelow_of_tabIs (tableS hL)
  unfold maxLen at hlen0 hlen1 hlen2
  refine (lawW_any cap0 cap1 cap2 hstk hpie hpat (Nat.le_refl _) rfl rfl rfl (by omega) (by omega) (by omega) ht (maxLen_shape hsh) hts (errS hL)).mono fun e W' ⟨he, bel⟩ => ?_
  subst he
  exact ⟨_, rfl, _, _, _, [], _, [], hW', trodAll_mk1 (shut_bool Tryz.underlying4 _), (trodAll_cons_mk (Below.trod laidOut (by kernel_rfl) (of_decide_eq_true (by kernel_rfl)) k0 bel lt0) (trodAll_cons_mk (Below.trod laidOut (by kernel_rfl) (of_decide_eq_true (by kernel_rfl)) k1 bel lt1) (trodAll_cons_mk (Below.trod laidOut (by kernel_rfl) (of_decide_eq_true (by kernel_rfl)) k2 bel lt2) trodAll_mk0))), rfl, bel.frame _, fun h => by cases h⟩

theorem laid_met (os : Os) : laidMet Tryz.prog Rows.reportWastesRow.laid ((World.laidAll Tryz.prog os Rows.reportWastesRow.laid).forCall (fun _ _ => 0) ⟨#[], #[.slice none 0 0, .slice none 0 0, .slice none 0 0], []⟩).memory :=
  laidMet_laidAll _ (by kernel_rfl) (by kernel_rfl)
theorem reads (os : Os) {H : Type} (enc : TypeId × Value → H) : ∃ places, DataW.whole enc Tryz.prog ((World.laidAll Tryz.prog os Rows.reportWastesRow.laid).forCall (fun _ _ => 0) ⟨#[], #[.slice none 0 0, .slice none 0 0, .slice none 0 0], []⟩).memory Tryz.f6.params.toList Rows.reportWastesSpec.vars false #[Value.slice none 0 0, Value.slice none 0 0, Value.slice none 0 0].toList 8 = some ([.nil, .nil, .nil], [], places) :=
  ⟨[], by kernel_rfl⟩

set_option maxRecDepth 100000 in
theorem lifted (os : Os) (started : os.Started) (H : Type) (enc : TypeId × Value → H) (F : Stop.Interp) :
    ReturnsInHanded {} Tryz.checked os 6 .any ((OpenSpec.ofChange Rows.reportWastesSpec).preRow enc Tryz.prog Tryz.f6 Rows.reportWastesRow.domain false Rows.reportWastesRow.laid) (((OpenSpec.ofChange Rows.reportWastesSpec).at F).post enc Tryz.prog Tryz.f6 false true false false) := by
  obtain ⟨places, hx⟩ := reads os enc
  refine returnsInHanded_of_row (C := Tryz.checked) (s := OpenSpec.ofChange Rows.reportWastesSpec) own started (by kernel_rfl) Tryz.func6
    (witness_laid (enc := enc) (C := Tryz.checked) (World.laidAll Tryz.prog os Rows.reportWastesRow.laid) #[.slice none 0 0, .slice none 0 0, .slice none 0 0] (World.laidAll_os _ _ _) (World.shaped_of_ZipB (by kernel_rfl) (by kernel_rfl)) (by kernel_rfl)
      (OpenSpec.preRow_of_cond 8 hx (by kernel_rfl) (fun k hk => by cases hk) (by kernel_rfl) (laid_met os))) ?_
  intro W base args ds gs before hval hW _ _ _ hL hsh _
  exact contract H enc W base args ds gs before hval hW hL hsh

set_option maxRecDepth 100000 in
theorem said : Rows.ReportWastesSaid :=
  OpenClaim.holds_of_cond 6 Tryz.f6 rfl rfl rfl rfl rfl rfl rfl ⟨rfl, rfl, rfl, rfl, rfl⟩ rfl rfl rfl rfl rfl (by kernel_rfl) Tryz.func6 (by kernel_rfl)
    (of_decide_eq_true (by kernel_rfl)) (by unfold Func.isWrapper; first | (rw [if_pos (by decide +kernel)]; kernel_rfl) | (rw [if_neg (by decide +kernel)]; exact ⟨rfl, rfl⟩))
    (fun os started H enc _ F => by rw [OpenClaim.pre_eq_preRow]; exact lifted os started H enc F)

theorem plain (f : FuncId) (fn : Func) (hf : Tryz.pinned.checked.prog.funcNamed "stirrup/stirruplaw50.ReportWastes" = some f) (hfn : Tryz.pinned.checked.prog.funcs[f]? = some fn) :
    true = Tryz.pinned.checked.prog.looks [] ∧ ∀ (j : Nat) t, fn.params[j]? = some t → Tryz.pinned.checked.prog.wantsStandIn t = false := by
  obtain rfl : f = 6 := Option.some.inj ((show (Tryz.prog).funcNamed "stirrup/stirruplaw50.ReportWastes" = some 6 by kernel_rfl).symm.trans hf) |>.symm
  obtain rfl : fn = Tryz.f6 := (Option.some.inj (Tryz.func6.symm.trans hfn)).symm
  refine ⟨by kernel_rfl, fun j t ht => ?_⟩
  rw [Tryz.params6] at ht
  have hmem := Array.mem_of_getElem? ht
  simp only [List.mem_toArray, List.mem_cons, List.not_mem_nil, or_false] at hmem
  rcases hmem with rfl | rfl | rfl
  · exact (show (Tryz.prog).wantsStandIn 51 = false by kernel_rfl)
  · exact (show (Tryz.prog).wantsStandIn 52 = false by kernel_rfl)
  · exact (show (Tryz.prog).wantsStandIn 53 = false by kernel_rfl)

/-- The card. -/
theorem reportWastes_card : Rows.ReportWastesCardSaid :=
  Claim7.holds_tied_plain_at .later [] _ _ _ _ said (fun _ h => by cases h) (by kernel_rfl) (fun _ h => by cases h) reportWastes_row_tie rfl ⟨rfl, rfl⟩ (by kernel_rfl) rfl plain (by kernel_rfl)
end Go.Proofs.YtnhmdgkhmkeopaaGreatDoor
