/- The law ReportTells: the report of sections has a line for each demand, and tells no failure exactly if all demands are satisfied. -/
import Derived.Test.YtkmpddaobncheaaGreatDoorRepSc
import Derived.Test.YtkmpddaobncheaaGreatDoorQae
import Derived.Test.YtkmpddaobncheaaGreatDoorQau
namespace Go.Proofs.YtkmpddaobncheaaGreatDoor
open Go.RowKit

/-- The library's MaxLen holds some number. -/
def MX (B : Nat) (w : World) : Prop := 0 < B ∧ ∃ m : Int, w.cell? ⟨0, 0, none⟩ = some (.int .i64 m)
theorem MX.carry {B : Nat} {w w' : World} (h : MX B w) (hb : Below B w w') : MX B w' := by
  obtain ⟨h1, m, h2⟩ := h
  exact ⟨h1, m, (hb.cell (p := ⟨0, 0, none⟩) h1).trans h2⟩
theorem bytes_of {a b : ByteArray} (h : a.data.toList = b.data.toList) : a = b := by
  cases a; cases b; simp at h; simp [h]
theorem tellSplit_any {x : DetD} {l : List DemD} (hd : ∀ d ∈ l, demOk d = true) (hl : l.length ≤ 20) (w : World) {B : Nat} (hm : MX B w) :
    Calls Tryz.prog 9 #[.string ⟨(tellText x l).toArray⟩, .string ⟨#[10]⟩] w fun e w' => ∃ b, e = .returned (.slice (some ⟨b, 0, none⟩) (l.length + 1) (l.length + 1)) ∧ b < w'.heap.size ∧ (∀ k y, (tellStrs x l)[k]? = some y → w'.cell? ⟨b, k, none⟩ = some (.string y)) ∧ Below w.heap.size w w' := by
  obtain ⟨_, m, hm⟩ := hm
  have h1 := tellText_len (x := x) l hd
  refine (Tryz.strings_Split ⟨(tellText x l).toArray⟩ ⟨#[10]⟩ m w (by simp [ByteArray.size]; omega) hm (by decide)).mono ?_
  rintro e w' ⟨he, rfl⟩
  have hno : ∀ y ∈ l.map (tellLine x), ∀ c ∈ y, c ≠ 10 := by
    intro y hy
    obtain ⟨d, hd', rfl⟩ := List.mem_map.1 hy
    exact tellLine_no (hd d hd')
  obtain ⟨h2, h3⟩ := tSplit_lines (l.map (tellLine x)) hno
  rw [← tellText_lines] at h2 h3
  refine ⟨w.heap.size, ?_, by simp, ?_, below_new _ _⟩
  · rw [he, h2]
    simp
  · intro k y hy
    have h4 : Lib.splitB ⟨#[10]⟩ 0 (Lib.countB ⟨(tellText x l).toArray⟩ ⟨#[10]⟩) ⟨(tellText x l).toArray⟩ = tellStrs x l := h3
    rw [h4]
    rw [World.cell?_alloc_new]
    simp [hy]
theorem tellHas_any {x : DetD} {l : List DemD} (hd : ∀ d ∈ l, demOk d = true) (hl : l.length ≤ 20) (w : World) {B : Nat} (hm : MX B w) :
    Calls Tryz.prog 10 #[.string ⟨(tellText x l).toArray⟩, .string ⟨#[32, 102, 97, 105, 108, 115, 32, 97, 116, 32]⟩] w fun e w' => e = .returned (.bool (decide (0 < (shortFinsOf x l).length))) ∧ Below w.heap.size w w' := by
  obtain ⟨_, m, hm⟩ := hm
  have h1 := tellText_len (x := x) l hd
  refine (Tryz.strings_Contains ⟨(tellText x l).toArray⟩ ⟨#[32, 102, 97, 105, 108, 115, 32, 97, 116, 32]⟩ m w (by simp [ByteArray.size]; omega) hm).mono ?_
  rintro e w' ⟨he, rfl⟩
  have h2 : (⟨(tellText x l).toArray⟩ : ByteArray).data.toList = tellText x l := by simp
  have h3 : (⟨#[32, 102, 97, 105, 108, 115, 32, 97, 116, 32]⟩ : ByteArray).data.toList = failPat := rfl
  rw [h2, h3, tells_contains hd] at he
  exact ⟨he, Below.refl _ _⟩
def bDem : ByteArray := ⟨#[100, 101, 109, 97, 110, 100, 32]⟩
def bSuf : ByteArray := ⟨#[32, 115, 117, 102, 102, 105, 99, 101, 115]⟩
def bFail : ByteArray := ⟨#[32, 102, 97, 105, 108, 115, 32, 97, 116, 32]⟩
theorem bDem_size : bDem.size = 7 := rfl
theorem bSuf_size : bSuf.size = 9 := rfl
theorem bFail_size : bFail.size = 10 := rfl
theorem itoa_size (n : Int) : (⟨(Lib.itoa n).toArray⟩ : ByteArray).size = (Lib.itoa n).length := by simp [ByteArray.size]
theorem suff_str {x : DetD} {d : DemD} (h : shortB x d = false) : (bDem ++ d.name) ++ bSuf = ⟨(tellLine x d).toArray⟩ := by
  apply bytes_of
  rw [tellLine_suff h]
  simp [ByteArray.data_append, bDem, bSuf, demPre, sufEnd]
theorem fail_str {x : DetD} {d : DemD} (h : shortB x d = true) : ((bDem ++ d.name) ++ bFail) ++ ⟨(Lib.itoa (failPt x d)).toArray⟩ = ⟨(tellLine x d).toArray⟩ := by
  apply bytes_of
  rw [tellLine_short h]
  simp [ByteArray.data_append, bDem, bFail, demPre, failPat]
theorem addB (a b : ByteArray) (h : a.size + b.size ≤ 100000000) (W : World) : (Op.stringOp .add a b).run Tryz.prog W = .ok (.string (a ++ b)) W := run_string_add_sum W a b (by omega)
set_option maxHeartbeats 8000000 in
set_option maxRecDepth 100000 in
theorem reportTells_lawW (HSL : SortLaw) (HCL : CompLaw) (x : DetD) (s : DetS) (w : World) {B : Nat} (h : DetAt w B x s) (hB : B ≤ w.heap.size) (hl : DetLen x s) (ht : TB w.heap.size w) (hmx : MX w.heap.size w) :
    Calls Tryz.prog 3 #[detV x s] w fun e w' => e = .returned (.bool true) ∧ Below w.heap.size w w' := by
  replace h := h.carry (Below.refl B w) hB
  have HS := hide (fun (W : World) (hz : Below w.heap.size w W) => show Calls Tryz.prog 6 #[.agg (detCells x.mem x.rule s)] W _ from small25_any x s W (h.carry hz (Nat.le_refl _)) hz.size hl)
  have Hh := hide h
  have Hhl := hide hl
  have Ht := hide ht
  have Hmx := hide hmx
  have HiX := hide (show (Tryz.prog.info? 34).map (·.size) = some (detCells x.mem x.rule s).size from (by kernel_rfl : (Tryz.prog.info? 34).map (·.size) = some 19))
  have HC9 := hide (show (detCells x.mem x.rule s)[9]? = some (.slice s.a6 s.n6 s.c6) from rfl)
  have K0 := hide (Blk.new w 34 (detCells x.mem x.rule s))
  have HW := hide (below_new w (.cells (detCells x.mem x.rule s) 34))
  clear h hB hl ht hmx
  show Calls Tryz.prog 3 #[.agg (detCells x.mem x.rule s)] w _
  obtain ⟨C, hC⟩ : ∃ C, C = detCells x.mem x.rule s := ⟨_, rfl⟩
  have HCe := hide hC
  have HiC := hide (show (Tryz.prog.info? 34).map (·.size) = some C.size by rw [hC]; exact HiX.out)
  rw [← hC] at HS K0 HW HC9 ⊢
  clear hC HiX
  go_enter Tryz.func3, Tryz.ntmps3
  go_wp2_with fail
  refine (awake_any _ HW.out.size (Ht.out.carry HW.out)).mono ?_
  rintro e w1 ⟨rfl, hb⟩
  replace K0 := hide (K0.out.keep hb)
  replace HW := hide (below_step HW.out hb (Nat.le_refl _))
  clear hb
  go_wp2_with (refine wpList_load_row_g (by rfl) 34 (.tmp 1) rfl w.heap.size rfl 34 _ (0, 0) _ K0.out Tryz.underlying34 rfl HiC.out ?_)
  refine (HS.out _ HW.out).mono ?_
  rintro e w2 ⟨⟨t, rfl, hq⟩, hb⟩
  have Hq := hide hq
  replace K0 := hide (K0.out.keep hb)
  replace HW := hide (below_step HW.out hb (Nat.le_refl _))
  clear hb
  clear hq HS
  cases t
  · go_wp2_with fail
    go_ret
    exact ⟨rfl, HW.out⟩
  have hfit := few_fit Hhl.out (Hq.out rfl)
  cases hd : detOk x
  · have HR := hide (fun (W : World) (hz : Below w.heap.size w W) => show Calls Tryz.prog 7 #[.agg C] W _ by rw [HCe.out]; exact repSec_bad x s W (Hh.out.carry hz (Nat.le_refl _)) hz.size hfit hd)
    have HC := hide (fun (W : World) (hz : Below w.heap.size w W) => show Calls Tryz.prog 8 #[.agg C] W _ by rw [HCe.out]; exact secCheck_bad x s W (Hh.out.carry hz (Nat.le_refl _)) hz.size hfit hd)
    clear hd hfit HCe Hh Hhl Hq
    go_wp2_with (refine wpList_load_row_g (by rfl) 34 (.tmp 1) rfl w.heap.size rfl 34 _ (0, 0) _ K0.out Tryz.underlying34 rfl HiC.out ?_)
    refine (HR.out _ HW.out).mono ?_
    rintro e w3 ⟨rfl, hb⟩
    replace K0 := hide (K0.out.keep hb)
    replace HW := hide (below_step HW.out hb (Nat.le_refl _))
    clear hb
    go_wp2_with (refine wpList_load_row_g (by rfl) 34 (.tmp 1) rfl w.heap.size rfl 34 _ (0, 0) _ K0.out Tryz.underlying34 rfl HiC.out ?_)
    refine (HC.out _ HW.out).mono ?_
    rintro e w4 ⟨rfl, hb⟩
    replace K0 := hide (K0.out.keep hb)
    replace HW := hide (below_step HW.out hb (Nat.le_refl _))
    clear hb
    go_wp2_with fail
    go_ret
    exact ⟨rfl, HW.out⟩
  by_cases he : shortErr x = 0
  rotate_left
  · have HR := hide (fun (W : World) (hz : Below w.heap.size w W) => show Calls Tryz.prog 7 #[.agg C] W _ by rw [HCe.out]; exact repSec_err HSL HCL x s W (Hh.out.carry hz (Nat.le_refl _)) hz.size hfit hd he)
    have HC := hide (fun (W : World) (hz : Below w.heap.size w W) => show Calls Tryz.prog 8 #[.agg C] W _ by rw [HCe.out]; exact secCheck_ok HSL HCL x s W (Hh.out.carry hz (Nat.le_refl _)) hz.size hfit hd)
    have dse : (shortErr x != 0) = true := by simpa using he
    have dss : (shortErr x == shortErr x) = true := by simp
    generalize shortErr x = SE at *
    generalize shortRes x = SR at *
    clear hd hfit HCe Hh Hhl Hq he
    go_wp2_with (refine wpList_load_row_g (by rfl) 34 (.tmp 1) rfl w.heap.size rfl 34 _ (0, 0) _ K0.out Tryz.underlying34 rfl HiC.out ?_)
    refine (HR.out _ HW.out).mono ?_
    rintro e w3 ⟨rfl, hb⟩
    replace K0 := hide (K0.out.keep hb)
    replace HW := hide (below_step HW.out hb (Nat.le_refl _))
    clear hb
    go_wp2_with (refine wpList_load_row_g (by rfl) 34 (.tmp 1) rfl w.heap.size rfl 34 _ (0, 0) _ K0.out Tryz.underlying34 rfl HiC.out ?_)
    refine (HC.out _ HW.out).mono ?_
    rintro e w4 ⟨A, c, rfl, _, hb⟩
    replace K0 := hide (K0.out.keep hb)
    replace HW := hide (below_step HW.out hb (Nat.le_refl _))
    clear hb
    go_wp2_with fail
    go_ret
    exact ⟨rfl, HW.out⟩
  obtain ⟨hdem, hdl⟩ := dems_all hfit hd
  have HR := hide (fun (W : World) (hz : Below w.heap.size w W) => show Calls Tryz.prog 7 #[.agg C] W _ by rw [HCe.out]; exact repSec_ok HSL HCL x s W (Hh.out.carry hz (Nat.le_refl _)) hz.size hfit hd he (Ht.out.carry hz))
  have HC := hide (fun (W : World) (hz : Below w.heap.size w W) => show Calls Tryz.prog 8 #[.agg C] W _ by rw [HCe.out]; exact secCheck_ok HSL HCL x s W (Hh.out.carry hz (Nat.le_refl _)) hz.size hfit hd)
  rw [he, shortRes, if_pos he] at HC
  have HFl := hide (fun (W : World) (hz : Below w.heap.size w W) (q : Nat) (d : DemD) (hq : x.dems[q]? = some d) => show Calls Tryz.prog 11 #[.agg C, .int .i64 (q : Int)] W _ by rw [HCe.out]; exact fails_ok HSL HCL x s q d W (Hh.out.carry hz (Nat.le_refl _)) hz.size hfit hd hq hdem)
  have HSp := hide (fun (W : World) (hz : Below w.heap.size w W) => tellSplit_any (x := x) (l := x.dems) (fun d hm => (hdem d hm).2.2) hdl W (Hmx.out.carry hz))
  have HCn := hide (fun (W : World) (hz : Below w.heap.size w W) => tellHas_any (x := x) (l := x.dems) (fun d hm => (hdem d hm).2.2) hdl W (Hmx.out.carry hz))
  have Hsup := hide (fun d hm => errFrom_zero x x.dems he d hm)
  have Hnm := hide (fun (d : DemD) (hm : d ∈ x.dems) => (tName_size (hdem d hm).2.2).1)
  have H6 := hide (fun (W : World) (hz : Below w.heap.size w W) => SlOf.carry demR_carried Hh.out.h6 hz (Nat.le_refl _))
  have L6 := hide hfit.l6
  have hn6 : s.n6 ≤ 20 := by rw [hfit.l6]; exact hdl
  obtain ⟨txt, htxt⟩ : ∃ t : ByteArray, t = ⟨(tellText x x.dems).toArray⟩ := ⟨_, rfl⟩
  rw [← htxt] at HR HSp HCn
  obtain ⟨nf, hnf⟩ : ∃ n, n = (shortFinsOf x x.dems).length := ⟨_, rfl⟩
  have hnf20 : nf ≤ 20 := by rw [hnf]; exact Nat.le_trans (secFins_len x x.dems) hdl
  rw [← hnf] at HC HCn
  rw [← L6.out] at HSp
  clear htxt hnf hd hfit he hdem hdl Hhl Hq Hh HCe
  obtain ⟨a1, n1, c1, a2, n2, c2, a3, n3, c3, a4, n4, c4, a5, n5, c5, a6, n6, c6⟩ := s
  simp only at H6 L6 hn6 HC9 HSp
  go_wp2_with (refine wpList_load_row_g (by rfl) 34 (.tmp 1) rfl w.heap.size rfl 34 _ (0, 0) _ K0.out Tryz.underlying34 rfl HiC.out ?_)
  refine (HR.out _ HW.out).mono ?_
  rintro e w3 ⟨rfl, hb⟩
  replace K0 := hide (K0.out.keep hb)
  replace HW := hide (below_step HW.out hb (Nat.le_refl _))
  clear hb
  clear HR
  go_wp2_with (refine wpList_load_row_g (by rfl) 34 (.tmp 1) rfl w.heap.size rfl 34 _ (0, 0) _ K0.out Tryz.underlying34 rfl HiC.out ?_)
  refine (HC.out _ HW.out).mono ?_
  rintro e w4 ⟨A, c, rfl, _, hb⟩
  replace K0 := hide (K0.out.keep hb)
  replace HW := hide (below_step HW.out hb (Nat.le_refl _))
  clear hb
  clear HC
  go_wp2_with fail
  refine (HSp.out _ HW.out).mono ?_
  rintro e w5 ⟨bl, rfl, hbl, hstr, hb⟩
  have Hstr := hide hstr
  replace K0 := hide (K0.out.keep hb)
  replace HW := hide (below_step HW.out hb (Nat.le_refl _))
  clear hb
  clear HSp hstr
  have cend := Hstr.out n6 _ (by rw [L6.out]; exact tellStrs_end x x.dems)
  have e9 := (K0.out.cell 9).trans HC9.out
  have lk0 := K0.out.lt
  have p1 : (n6 : Int) < (n6 : Int) + 1 := by omega
  go_wp2_with fail
  refine (HCn.out _ HW.out).mono ?_
  rintro e w6 ⟨rfl, hb⟩
  have hl6 := hb.size
  replace Hstr := hide (fun k y hy => (hb.cell (p := ⟨bl, k, none⟩) hbl).trans (Hstr.out k y hy))
  replace K0 := hide (K0.out.keep hb)
  replace HW := hide (below_step HW.out hb (Nat.le_refl _))
  clear hb
  clear HCn cend e9 lk0
  have e9 := (K0.out.cell 9).trans HC9.out
  have lk0 := K0.out.lt
  have hbl6 := Nat.lt_of_lt_of_le hbl hl6
  have hq : (decide (0 < nf) != decide ((0 : Int) < (nf : Int))) = false := by
    by_cases h0 : 0 < nf
    · simp [h0]
    · have : nf = 0 := by omega
      subst this
      rfl
  go_wp2_with fail
  clear e9 lk0 hq p1
  go_loopw [73] (fun iv wr => ∃ k : Nat, k ≤ n6 ∧ iv = .int .i64 k ∧ Hid (Below w6.heap.size w6 wr)) (fun iv _ => n6 - (intOf iv).toNat)
  case atStart => exact ⟨0, Nat.zero_le _, rfl, hide (Below.refl _ _)⟩
  case round =>
    rename World => wr
    obtain ⟨k, hk, rfl, hbr⟩ := hrel
    have HWr := hide (below_step HW.out hbr.out (Nat.le_refl _))
    replace K0 := hide (K0.out.keep hbr.out)
    by_cases hlt : k < n6
    · obtain ⟨b, off, d, A9, c9, hA, hbd, hx, _, hc⟩ := DemsAt.get (k := k) (H6.out _ HWr.out) (by rw [← L6.out]; exact hlt)
      subst hA
      have hse := Hsup.out d (mem_of_get hx)
      have hnm := Hnm.out d (mem_of_get hx)
      have cl := (hbr.out.cell (p := ⟨bl, k, none⟩) hbl6).trans (Hstr.out k _ (tellStrs_at hx))
      have lbl : bl < wr.heap.size := Nat.lt_of_lt_of_le hbl6 hbr.out.size
      have HSk := hide (fun (W : World) (hz : Below w.heap.size w W) => HFl.out W hz k d hx)
      have e0 := hc 0 _ rfl
      simp only [Nat.add_zero] at e0
      have E0 := hide e0
      have h1 : shortB x d = true → failP x d = failPt x d ∧ failE x d = 0 := fun hs => ⟨by rw [failP, if_pos hse, if_pos hs], by rw [failE, if_pos hse, if_pos hs]⟩
      have h2 : shortB x d = false → failP x d = 0 ∧ failE x d = 12 := fun hs => ⟨by rw [failP, if_pos hse, if_neg (by rw [hs]; simp)], by rw [failE, if_pos hse, if_neg (by rw [hs]; simp)]⟩
      have Hs1 := hide (fun hs => suff_str (x := x) (d := d) hs)
      have Hs2 := hide (fun hs => fail_str (x := x) (d := d) hs)
      have hpt := failPt_in x d
      generalize (⟨(tellLine x d).toArray⟩ : ByteArray) = L at *
      clear hx hc hse e0
      go_wp2_with (refine wpList_load_row_g (by rfl) 34 (.tmp 1) rfl w.heap.size rfl 34 _ (0, 0) _ K0.out Tryz.underlying34 rfl HiC.out ?_)
      refine (HSk.out _ HWr.out).mono ?_
      clear HSk cl lbl
      rintro e w7 ⟨rfl, hb⟩
      have e9 := ((K0.out.keep hb).cell 9).trans HC9.out
      have lk0 := (K0.out.keep hb).lt
      have e0 := (hb.cell (p := ⟨b, off + k * 8, none⟩) (Nat.lt_of_lt_of_le hbd HWr.out.size)).trans E0.out
      have lb : b < w7.heap.size := Nat.lt_of_lt_of_le hbd (below_step HWr.out hb (Nat.le_refl _)).size
      have HB9 := hide (hbr.out.trans (hb.mono hbr.out.size))
      have HW7 := hide (below_step HWr.out hb (Nat.le_refl _))
      clear hb
      cases hs : shortB x d
      · obtain ⟨q1, q2⟩ := h2 hs
        rw [q1, q2]
        have hL := Hs1.out hs
        generalize d.name = nm at *
        have s1 : ∀ W : World, (Op.stringOp .add (⟨#[100, 101, 109, 97, 110, 100, 32]⟩ : ByteArray) nm).run Tryz.prog W = .ok (.string (bDem ++ nm)) W := addB bDem nm (by rw [bDem_size]; omega)
        have s2 : ∀ W : World, (Op.stringOp .add (bDem ++ nm) (⟨#[32, 115, 117, 102, 102, 105, 99, 101, 115]⟩ : ByteArray)).run Tryz.prog W = .ok (.string L) W := fun W => by
          rw [← hL]
          exact addB (bDem ++ nm) bSuf (by rw [ByteArray.size_append, bDem_size, bSuf_size]; omega) W
        clear h1 h2 hs q1 q2 hL Hs1 Hs2
        go_wp2_with fail
        go_roundw
        case rel => exact ⟨k + 1, by omega, by go_num, HB9⟩
        case measure => simp [intOf]; omega
      · obtain ⟨q1, q2⟩ := h1 hs
        rw [q1, q2]
        have hL := Hs2.out hs
        generalize d.name = nm at *
        generalize failPt x d = pt at *
        have hln := Lib.itoa_length_le pt (by omega) (by omega)
        have s1 : ∀ W : World, (Op.stringOp .add (⟨#[100, 101, 109, 97, 110, 100, 32]⟩ : ByteArray) nm).run Tryz.prog W = .ok (.string (bDem ++ nm)) W := addB bDem nm (by rw [bDem_size]; omega)
        have s2 : ∀ W : World, (Op.stringOp .add (bDem ++ nm) (⟨#[32, 102, 97, 105, 108, 115, 32, 97, 116, 32]⟩ : ByteArray)).run Tryz.prog W = .ok (.string ((bDem ++ nm) ++ bFail)) W := addB (bDem ++ nm) bFail (by rw [ByteArray.size_append, bDem_size, bFail_size]; omega)
        have s3 : ∀ W : World, (Op.stringOp .add ((bDem ++ nm) ++ bFail) (⟨(Lib.itoa pt).toArray⟩ : ByteArray)).run Tryz.prog W = .ok (.string L) W := fun W => by
          rw [← hL]
          exact addB ((bDem ++ nm) ++ bFail) _ (by rw [ByteArray.size_append, ByteArray.size_append, bDem_size, bFail_size, itoa_size]; omega) W
        have HIt := hide (fun (W : World) (hz : Below w.heap.size w W) => itoa_any pt W (Ht.out.carry hz) (by omega) (by omega))
        clear h1 h2 hs q1 q2 hL Hs1 Hs2 hln
        go_wp2_with fail
        refine (HIt.out _ HW7.out).mono ?_
        rintro e w8 ⟨rfl, hb⟩
        have HB8 := hide (below_step HB9.out hb (Nat.le_refl _))
        clear hb e9 lk0 e0 lb HIt
        go_wp2_with fail
        go_roundw
        case rel => exact ⟨k + 1, by omega, by go_num, HB8⟩
        case measure => simp [intOf]; omega
    · obtain rfl : k = n6 := by omega
      go_wp2_with fail
      go_ret
      exact ⟨rfl, HWr.out⟩
end Go.Proofs.YtkmpddaobncheaaGreatDoor
