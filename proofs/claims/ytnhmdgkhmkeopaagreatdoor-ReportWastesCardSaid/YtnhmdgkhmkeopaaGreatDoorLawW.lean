/- The law of wastes: the report of a cutting plan tells its lengths, their sum, and the waste; and has a line for each pattern. -/
import Derived.Test.YtnhmdgkhmkeopaaGreatDoorRepCut
import Derived.Test.YtnhmdgkhmkeopaaGreatDoorNums
import Derived.Test.YtnhmdgkhmkeopaaGreatDoorAwake
import Derived.Test.YtnhmdgkhmkeopaaGreatDoorFinR
import Derived.Deep.RegionHeld3
namespace Go.Proofs.YtnhmdgkhmkeopaaGreatDoor
open Go.RowKit

theorem flat_strW (l : List ByteArray) : l.flatMap encStr = l.map Value.string := by
  induction l with
  | nil => rfl
  | cons x r ih => rw [List.flatMap_cons, ih]; rfl
theorem strs_blkW (w : World) (t : TypeId) (l : List ByteArray) : StrsAt (w.alloc (.cells (l.map Value.string).toArray t)) (w.heap.size + 1) (some ⟨w.heap.size, 0, none⟩) l :=
  SlOf.lit encStr_len w t _ l (by rw [flat_strW]) (by omega)
/-- The lines of a text, and nothing behind the last newline. -/
def lineStrs (ls : List (List UInt8)) : List ByteArray := ls.map (fun y => ⟨y.toArray⟩) ++ [.empty]
theorem lineStrs_at {ls : List (List UInt8)} {k : Nat} {y : List UInt8} (h : ls[k]? = some y) : (lineStrs ls)[k]? = some ⟨y.toArray⟩ := by
  have hk := lt_of_get h
  rw [lineStrs, List.getElem?_append_left (by simpa using hk), List.getElem?_map, h]
  rfl
theorem lineStrs_end (ls : List (List UInt8)) : (lineStrs ls)[ls.length]? = some .empty := by simp [lineStrs]
theorem split_lines {st : List UInt8} {ls : List (List UInt8)} (hst : st = ls.flatMap (· ++ [10])) (hno : ∀ y ∈ ls, ∀ c ∈ y, c ≠ 10) (hl : st.length ≤ 100000000) (w : World) {B : Nat} (hm : MX B w) :
    Calls Tryz.prog 12 #[.string ⟨st.toArray⟩, .string ⟨#[10]⟩] w fun e w' => ∃ b, e = .returned (.slice (some ⟨b, 0, none⟩) (ls.length + 1) (ls.length + 1)) ∧ b < w'.heap.size ∧ StrsAt w' w'.heap.size (some ⟨b, 0, none⟩) (lineStrs ls) ∧ Below w.heap.size w w' := by
  obtain ⟨_, m, hm⟩ := hm
  refine (Tryz.strings_Split ⟨st.toArray⟩ ⟨#[10]⟩ m w (by simp [ByteArray.size]; omega) hm (by decide)).mono ?_
  rintro e w' ⟨he, rfl⟩
  obtain ⟨h1, h2⟩ := split_text ls hno
  rw [← hst] at h1 h2
  have hc : Lib.countB ⟨st.toArray⟩ ⟨#[10]⟩ = ls.length := h1
  have h3 := Lib.splitB_data ⟨#[10]⟩ 0 ls.length ⟨st.toArray⟩
  rw [show (⟨st.toArray⟩ : ByteArray).data.toList = st by simp, show (⟨#[10]⟩ : ByteArray).data.toList = [10] from rfl, h2] at h3
  have h4 := congrArg (List.map fun y : List UInt8 => (⟨y.toArray⟩ : ByteArray)) h3
  rw [List.map_map, List.map_append] at h4
  have h5 : ((fun y : List UInt8 => (⟨y.toArray⟩ : ByteArray)) ∘ fun x : ByteArray => x.data.toList) = id := by
    funext b
    exact bytes_mk b
  rw [h5, List.map_id] at h4
  have h6 : Lib.splitB ⟨#[10]⟩ 0 (Lib.countB ⟨st.toArray⟩ ⟨#[10]⟩) ⟨st.toArray⟩ = lineStrs ls := by rw [hc]; exact h4
  rw [h6]
  refine ⟨w.heap.size, ?_, by simp, by simpa using strs_blkW w 9 (lineStrs ls), below_new _ _⟩
  rw [he, hc]

theorem SlOf.lt_of {w : World} {A : Option Addr} {x : Int} {l : List Int} (h : Ints w w.heap.size A (x :: l)) {a : Addr} (ha : A = some a) : a.block < w.heap.size := by
  obtain ⟨b, off, hA, hb, _⟩ := h (by simp)
  rw [ha] at hA
  injection hA with hA
  rw [hA]
  exact hb
def longPat (x : PatD) : Bool := decide (25 < x.pieces.length)
def smallW (s : List StkD) (l : List PieD) (p : List PatD) : Bool := decide (s.length ≤ 15) && decide (l.length ≤ 20) && decide (p.length ≤ 40) && !anyPat longPat p
set_option maxHeartbeats 400000 in
theorem longPat_any (x : PatD) (A' : Option Addr) (c' : Nat) (w : World) :
    Calls Tryz.prog 47 #[patV x A' c'] w fun e w' => e = .returned (.bool (longPat x)) ∧ Below w.heap.size w w' := by
  obtain ⟨st, ps, ti⟩ := x
  have Hr := hide (show longPat ⟨st, ps, ti⟩ = decide (25 < ps.length) from rfl)
  show Calls Tryz.prog 47 #[.agg #[.int .i64 st, .slice A' ps.length c', .int .i64 ti]] w _
  generalize longPat ⟨st, ps, ti⟩ = res at Hr ⊢
  generalize ps.length = q at Hr ⊢
  go_enter Tryz.func47, Tryz.ntmps47
  go_wp2_with fail
  go_ret
  exact ⟨ret_bool (by rw [Hr.out, Bool.eq_iff_iff]; simp; omega), below_new w _⟩
set_option maxHeartbeats 1000000 in
theorem small_any (AS : Option Addr) (s : List StkD) (n1 c1 : Nat) (A : Option Addr) (l : List PieD) (n2 c2 : Nat) (AP : Option Addr) (p : List PatD) (n3 c3 : Nat) (w : World) {B : Nat} (hp : PatsAt w B AP p) (hB : B ≤ w.heap.size)
    (hn1 : n1 = s.length) (hn2 : n2 = l.length) (hn3 : n3 = p.length) (hm1 : (n1 : Int) ≤ 9223372036854775807) (hm2 : (n2 : Int) ≤ 9223372036854775807) (hm3 : (n3 : Int) ≤ 9223372036854775807) :
    Calls Tryz.prog 21 #[.slice AS n1 c1, .slice A n2 c2, .slice AP n3 c3] w fun e w' => e = .returned (.bool (smallW s l p)) ∧ Below w.heap.size w w' := by
  by_cases a1 : n1 ≤ 15
  · have d1 : decide ((n1 : Int) ≤ 15) = true := by simp; omega
    by_cases a2 : n2 ≤ 20
    · have d2 : decide ((n2 : Int) ≤ 20) = true := by simp; omega
      by_cases a3 : n3 ≤ 40
      · have d3 : decide ((n3 : Int) ≤ 40) = true := by simp; omega
        have Hr := hide (show smallW s l p = !anyPat longPat p by rw [smallW, ← hn1, ← hn2, ← hn3, decide_eq_true a1, decide_eq_true a2, decide_eq_true a3]; rfl)
        have HC := hide (containsFuncPat_any AP p n3 c3 47 #[] longPat w hp hB hn3 (by omega) Tryz.call47 (fun x A' c' W _ _ => longPat_any x A' c' W))
        clear hp hn1 hn2 hn3 a1 a2 a3
        go_enter Tryz.func21, Tryz.ntmps21
        go_wp2_with fail
        refine HC.out.mono ?_
        rintro e w2 ⟨rfl, hb2⟩
        go_wp2_with fail
        go_ret
        exact ⟨ret_bool Hr.out.symm, hb2⟩
      · have d3 : decide ((n3 : Int) ≤ 40) = false := by simp; omega
        have Hr := hide (show smallW s l p = false by rw [smallW, ← hn1, ← hn2, ← hn3, decide_eq_true a1, decide_eq_true a2, decide_eq_false a3]; rfl)
        clear hp hn1 hn2 hn3 a1 a2 a3
        go_enter Tryz.func21, Tryz.ntmps21
        go_wp2_with fail
        go_ret
        exact ⟨ret_bool Hr.out.symm, Below.refl _ _⟩
    · have d2 : decide ((n2 : Int) ≤ 20) = false := by simp; omega
      have Hr := hide (show smallW s l p = false by rw [smallW, ← hn1, ← hn2, ← hn3, decide_eq_true a1, decide_eq_false a2]; rfl)
      clear hp hn1 hn2 hn3 a1 a2
      go_enter Tryz.func21, Tryz.ntmps21
      go_wp2_with fail
      go_ret
      exact ⟨ret_bool Hr.out.symm, Below.refl _ _⟩
  · have d1 : decide ((n1 : Int) ≤ 15) = false := by simp; omega
    have Hr := hide (show smallW s l p = false by rw [smallW, ← hn1, decide_eq_false a1]; rfl)
    clear hp hn1 hn2 hn3 a1
    go_enter Tryz.func21, Tryz.ntmps21
    go_wp2_with fail
    go_ret
    exact ⟨ret_bool Hr.out.symm, Below.refl _ _⟩
theorem smallW_of {s : List StkD} {l : List PieD} {p : List PatD} (h : smallW s l p = true) : s.length ≤ 15 ∧ l.length ≤ 20 ∧ p.length ≤ 40 := by
  simp only [smallW, Bool.and_eq_true, decide_eq_true_eq] at h
  exact ⟨h.1.1.1, h.1.1.2, h.1.2⟩
section
variable {AS A AP : Option Addr} {s : List StkD} {l : List PieD} {p : List PatD} {n1 n2 n3 : Nat} {w : World} {B : Nat}
theorem cutLines_len (s : List StkD) (l : List PieD) (p : List PatD) : (cutLines s l p).length = p.length + 1 := by simp [cutLines]
theorem cutLines_head (s : List StkD) (l : List PieD) (p : List PatD) : (cutLines s l p)[0]? = some (spaced (headWords (usedN p) (usedSum s p) (wasteOf s l p))) := rfl
theorem cutLines_at (s : List StkD) (l : List PieD) {p : List PatD} {k : Nat} {x : PatD} (h : p[k]? = some x) : (cutLines s l p)[k + 1]? = some (spaced (patWords s x)) := by
  rw [cutLines, List.getElem?_cons_succ, List.getElem?_map, h]
  rfl
theorem cut_fit (h : chkB s l p = true) (hl : l.length ≤ 20) : ∀ y ∈ cutLines s l p, LineFit y ∧ ∀ c ∈ y, c ≠ 10 := by
  intro y hy
  rw [cutLines] at hy
  rcases List.mem_cons.1 hy with rfl | hy
  · obtain ⟨h1, h2, _⟩ := headLine_fit (head_small h)
    exact ⟨h1, h2⟩
  · obtain ⟨x, hx, rfl⟩ := List.mem_map.1 hy
    obtain ⟨a1, a2, a3⟩ := pat_small h hx
    obtain ⟨h1, h2, _⟩ := patLine_fit (s := s) (x := x) (by omega) a3
    exact ⟨h1, h2⟩
theorem flat_len : ∀ (ls : List (List UInt8)), (∀ y ∈ ls, y.length ≤ 300000) → (ls.flatMap (· ++ [10])).length ≤ 300001 * ls.length := by
  intro ls
  induction ls with
  | nil => intro _; simp
  | cons y r ih =>
    intro h
    have h1 := h y (List.mem_cons_self ..)
    have h2 := ih (fun z hz => h z (List.mem_cons_of_mem _ hz))
    simp only [List.flatMap_cons, List.length_append, List.length_cons, List.length_nil] at h2 ⊢
    omega
theorem cutSplit_any (h : chkB s l p = true) (hl : l.length ≤ 20) (hp : p.length ≤ 40) (w : World) {B : Nat} (hm : MX B w) :
    Calls Tryz.prog 12 #[.string ⟨(cutText s l p).toArray⟩, .string ⟨#[10]⟩] w fun e w' => ∃ b, e = .returned (.slice (some ⟨b, 0, none⟩) (p.length + 2) (p.length + 2)) ∧ b < w'.heap.size ∧ StrsAt w' w'.heap.size (some ⟨b, 0, none⟩) (lineStrs (cutLines s l p)) ∧ Below w.heap.size w w' := by
  have hf := cut_fit h hl
  have h1 := flat_len (cutLines s l p) (fun y hy => (hf y hy).1.1)
  rw [cutLines_len] at h1
  have := split_lines (cutText_lines s l p) (fun y hy => (hf y hy).2) (by rw [cutText_lines]; omega) w hm
  rw [cutLines_len] at this
  exact this
theorem headNums_any (h : chkB s l p = true) (w : World) {B : Nat} (hB : B ≤ w.heap.size) (ht : TS B w) (he : EX B w) :
    Calls Tryz.prog 13 #[.string ⟨(spaced (headWords (usedN p) (usedSum s p) (wasteOf s l p))).toArray⟩] w fun e w' => ∃ A c, e = .returned (.slice A 3 c) ∧ Ints w' w'.heap.size A [usedN p, usedSum s p, wasteOf s l p] ∧ Below w.heap.size w w' := by
  obtain ⟨h1, _, h3⟩ := headLine_fit (head_small h)
  refine (numbers_any ⟨(spaced (headWords (usedN p) (usedSum s p) (wasteOf s l p))).toArray⟩ w (by simpa using h1) hB ht he).mono ?_
  rintro e w' ⟨A, c, rfl, hA, hb⟩
  have h4 : lineNums (⟨(spaced (headWords (usedN p) (usedSum s p) (wasteOf s l p))).toArray⟩ : ByteArray).data.toList = [usedN p, usedSum s p, wasteOf s l p] := by simpa using h3
  rw [h4] at hA ⊢
  exact ⟨A, c, rfl, hA, hb⟩
theorem patNums_any (h : chkB s l p = true) (hl : l.length ≤ 20) {x : PatD} (hx : x ∈ p) (w : World) {B : Nat} (hB : B ≤ w.heap.size) (ht : TS B w) (he : EX B w) :
    Calls Tryz.prog 13 #[.string ⟨(spaced (patWords s x)).toArray⟩] w fun e w' => ∃ A c, e = .returned (.slice A (2 + x.pieces.length) c) ∧ Ints w' w'.heap.size A (lenAt s x.stock :: x.times :: x.pieces) ∧ Below w.heap.size w w' ∧ ∀ a, A = some a → w.heap.size ≤ a.block := by
  obtain ⟨a1, a2, a3⟩ := pat_small h hx
  obtain ⟨h1, _, h3⟩ := patLine_fit (s := s) (x := x) (by omega) a3
  refine (numbers_fresh ⟨(spaced (patWords s x)).toArray⟩ w (by simpa using h1) hB ht he).mono ?_
  rintro e w' ⟨A, c, rfl, hA, hb, hfr⟩
  have h4 : lineNums (⟨(spaced (patWords s x)).toArray⟩ : ByteArray).data.toList = lenAt s x.stock :: x.times :: x.pieces := by simpa using h3
  rw [h4] at hA ⊢
  refine ⟨A, c, ?_, hA, hb, hfr⟩
  rw [List.length_cons, List.length_cons, Nat.add_comm 2]
set_option maxHeartbeats 4000000 in
set_option maxRecDepth 100000 in
theorem lawW_any (c1 c2 c3 : Nat) (hs : StksAt w B AS s) (hl : PiesAt w B A l) (hp : PatsAt w B AP p) (hB : B ≤ w.heap.size) (hn1 : n1 = s.length) (hn2 : n2 = l.length) (hn3 : n3 = p.length)
    (hm1 : (n1 : Int) ≤ 9223372036854775807) (hm2 : (n2 : Int) ≤ 9223372036854775807) (hm3 : (n3 : Int) ≤ 9223372036854775807) (ht : TB w.heap.size w) (hx : MX w.heap.size w) (hts : TS w.heap.size w) (hex : EX w.heap.size w) :
    Calls Tryz.prog 6 #[.slice AS n1 c1, .slice A n2 c2, .slice AP n3 c3] w fun e w' => e = .returned (.bool true) ∧ Below w.heap.size w w' := by
  have HA := hide (awake_any w (Nat.le_refl _) ht)
  have HS := hide (fun (wz : World) (hz : Below w.heap.size w wz) => small_any AS s n1 c1 A l n2 c2 AP p n3 c3 wz (hp.carry patR_carried (hz.mono hB) (Nat.le_refl _)) (Nat.le_trans hB hz.size) hn1 hn2 hn3 hm1 hm2 hm3)
  cases hsm : smallW s l p
  · rw [hsm] at HS
    clear hs hl hp hB hn1 hn2 hn3 hm1 hm2 hm3 ht hx hts hex hsm
    go_enter Tryz.func6, Tryz.ntmps6
    go_wp2_with fail
    refine HA.out.mono ?_
    rintro e w1 ⟨rfl, hb1⟩
    have HW := hide hb1
    clear hb1 HA
    go_wp2_with fail
    refine (HS.out _ HW.out).mono ?_
    rintro e w2 ⟨rfl, hb2⟩
    have HW := hide (below_step HW.out hb2 (Nat.le_refl _))
    clear hb2
    go_wp2_with fail
    go_ret
    exact ⟨rfl, HW.out⟩
  obtain ⟨l1, l2, l3⟩ := smallW_of hsm
  rw [hsm] at HS
  have H : SLP w B AS s n1 A l n2 AP p n3 := ⟨hs, hl, hp, hn1, hn2, hn3, by omega, by omega, by omega⟩
  have HC := hide (fun (wz : World) (hz : Below w.heap.size w wz) => check_any c1 c2 c3 (H.carry (hz.mono hB) (Nat.le_refl _)) (Nat.le_trans hB hz.size))
  cases hc : chkB s l p
  · have HR := hide (fun (wz : World) (hz : Below w.heap.size w wz) => repCut_no c1 c2 c3 (H.carry (hz.mono hB) (Nat.le_refl _)) (Nat.le_trans hB hz.size) hc)
    rw [hc] at HC
    have hcase : (chkE s l = 1 ∧ wasteE s l p = 1) ∨ (chkE s l = 0 ∧ wasteE s l p = 13) := by
      rw [chkE, wasteE]
      cases chkOk s l
      · exact .inl ⟨rfl, rfl⟩
      · exact .inr ⟨rfl, rfl⟩
    rcases hcase with ⟨e1, e2⟩ | ⟨e1, e2⟩
    all_goals
      rw [e1] at HC
      rw [e2] at HR
      clear hs hl hp hB hn1 hn2 hn3 hm1 hm2 hm3 ht hx hts hex hsm hc e1 e2 H l1 l2 l3
      go_enter Tryz.func6, Tryz.ntmps6
      go_wp2_with fail
      refine HA.out.mono ?_
      rintro e w1 ⟨rfl, hb1⟩
      have HW := hide hb1
      clear hb1 HA
      go_wp2_with fail
      refine (HS.out _ HW.out).mono ?_
      rintro e w2 ⟨rfl, hb2⟩
      have HW := hide (below_step HW.out hb2 (Nat.le_refl _))
      clear hb2 HS
      go_wp2_with fail
      refine (HR.out _ HW.out).mono ?_
      rintro e w3 ⟨rfl, hb3⟩
      have HW := hide (below_step HW.out hb3 (Nat.le_refl _))
      clear hb3 HR
      go_wp2_with fail
      refine (HC.out _ HW.out).mono ?_
      rintro e w4 ⟨rfl, hb4⟩
      have HW := hide (below_step HW.out hb4 (Nat.le_refl _))
      clear hb4 HC
      go_wp2_with fail
      go_ret
      exact ⟨rfl, HW.out⟩
  have hl20 : l.length ≤ 20 := l2
  have hp40 : p.length ≤ 40 := l3
  obtain ⟨o1, o2, o3, o4⟩ := usedOk_of hc
  have H1 : SLP w w.heap.size AS s n1 A l n2 AP p n3 := H.carry (Below.refl _ _) hB
  have HR := fun (wz : World) (hz : Below w.heap.size w wz) => repCut_ok c1 c2 c3 (H1.carry hz (Nat.le_refl _)) hz.size hc (by omega) (ht.carry hz)
  have HU := hide (fun (wz : World) (hz : Below w.heap.size w wz) => used_ok c1 c3 (H1.carry hz (Nat.le_refl _)) hz.size o1 o4)
  have HWa := hide (fun (wz : World) (hz : Below w.heap.size w wz) => waste_ok c1 c2 c3 (H1.carry hz (Nat.le_refl _)) hz.size hc)
  have HP := fun (wz : World) (hz : Below w.heap.size w wz) => cutSplit_any hc hl20 hp40 wz (hx.carry hz)
  have HH := fun (wz : World) (hz : Below w.heap.size w wz) => headNums_any hc wz hz.size (hts.carry hz) (hex.carry hz)
  have HN := hide (fun (wz : World) (hz : Below w.heap.size w wz) (x : PatD) (hx : x ∈ p) => patNums_any hc hl20 hx wz hz.size (hts.carry hz) (hex.carry hz))
  have Hhead := cutLines_head s l p
  have Hat := hide (fun (k : Nat) (x : PatD) (hx : p[k]? = some x) => cutLines_at s l hx)
  have Hpat := hide (fun (x : PatD) (hx : x ∈ p) => planOk_mem o4 hx)
  have Hsm := hide (fun (x : PatD) (hx : x ∈ p) => (pat_small hc hx).2.1)
  rw [hc, show chkE s l = 0 by rw [chkE, chkOk, o1, o2]; rfl] at HC
  have hcl := cutLines_len s l p
  generalize wasteOf s l p = wv at *
  generalize usedSum s p = us at *
  generalize usedN p = un at *
  generalize hst : (⟨(cutText s l p).toArray⟩ : ByteArray) = st at *
  generalize hhl : (⟨(spaced (headWords un us wv)).toArray⟩ : ByteArray) = hline at HH
  generalize hcs : cutLines s l p = cls at *
  rw [← hn3] at HP hcl
  have HR := hide HR
  have HP := hide HP
  have HH := hide HH
  have Hh0 := hide (show cls[0]? = some (spaced (headWords un us wv)) from Hhead)
  have Hhl := hide hhl
  have Hcl := hide hcl
  have Hs := hide H1.hs
  have Hp := hide H1.hp
  have hn1' := hide hn1
  have hn3' := hide hn3
  have h40 : n3 ≤ 40 := by omega
  clear hs hl hp hB hn1 hn2 hn3 hm1 hm2 hm3 ht hx hts hex hsm hc H H1 l1 l2 l3 o1 o2 o3 o4 Hhead hcl hst hhl hcs hl20 hp40
  go_enter Tryz.func6, Tryz.ntmps6
  go_wp2_with fail
  refine HA.out.mono ?_
  rintro e w1 ⟨rfl, hb1⟩
  have HW := hide hb1
  clear hb1 HA
  go_wp2_with fail
  refine (HS.out _ HW.out).mono ?_
  rintro e w2 ⟨rfl, hb2⟩
  have HW := hide (below_step HW.out hb2 (Nat.le_refl _))
  clear hb2 HS
  go_wp2_with fail
  refine (HR.out _ HW.out).mono ?_
  rintro e w3 ⟨rfl, hb3⟩
  have HW := hide (below_step HW.out hb3 (Nat.le_refl _))
  clear hb3 HR
  go_wp2_with fail
  refine (HC.out _ HW.out).mono ?_
  rintro e w4 ⟨rfl, hb4⟩
  have HW := hide (below_step HW.out hb4 (Nat.le_refl _))
  clear hb4 HC
  go_wp2_with fail
  refine (HU.out _ HW.out).mono ?_
  rintro e w5 ⟨rfl, hb5⟩
  have HW := hide (below_step HW.out hb5 (Nat.le_refl _))
  clear hb5 HU
  go_wp2_with fail
  refine (HWa.out _ HW.out).mono ?_
  rintro e w6 ⟨rfl, hb6⟩
  have HW := hide (below_step HW.out hb6 (Nat.le_refl _))
  clear hb6 HWa
  go_wp2_with fail
  refine (HP.out _ HW.out).mono ?_
  rintro e w7 ⟨b, rfl, hbl, hstr, hb7⟩
  have HW := hide (below_step HW.out hb7 (Nat.le_refl _))
  have Hstr := hide hstr
  have cend : w7.cell? ⟨b, 0 + (n3 + 1), none⟩ = some (.string .empty) := str_cell hstr (by rw [← Hcl.out]; exact lineStrs_end cls)
  have chead : w7.cell? ⟨b, 0 + 0, none⟩ = some (.string hline) := (str_cell hstr (lineStrs_at Hh0.out)).trans (by rw [Hhl.out])
  rw [Nat.zero_add] at cend chead
  clear hb7 hstr HP
  go_wp2_with fail
  refine (HH.out _ HW.out).mono ?_
  rintro e w8 ⟨A9, c9, rfl, hA9, hb8⟩
  have HW8 := hide (below_step HW.out hb8 (Nat.le_refl _))
  have Hb78 := hide hb8
  have Hb8 := hide (Blk.new w8 3 #[.int .i64 un, .int .i64 us, .int .i64 wv])
  have HA9 := hide hA9
  clear hA9 HH cend chead hb8
  go_wp2_with fail
  refine (equalInts_any A9 (some ⟨w8.heap.size, 0, none⟩) [un, us, wv] 3 c9 3 _ (HA9.out.carry (below_new w8 _) (Nat.le_refl _)) (Ints.of_blk (B := w8.heap.size + 1) Hb8.out (Nat.lt_succ_self _)) rfl (by omega)).mono ?_
  rintro e wa ⟨rfl, hba⟩
  have hb7a := hide (Hb78.out.trans (((below_new w8 (.cells #[.int .i64 un, .int .i64 us, .int .i64 wv] 3)).trans (hba.mono (by simp))).mono Hb78.out.size))
  clear HA9 Hb8 HW8 hba Hb78
  go_wp2_with fail
  go_loopw [120] (fun i wr => ∃ k : Nat, k ≤ n3 ∧ i = .int .i64 k ∧ Below w7.heap.size w7 wr) (fun i _ => n3 - (intOf i).toNat)
  case atStart => exact ⟨0, Nat.zero_le _, rfl, hb7a.out⟩
  case round =>
    clear hb7a
    obtain ⟨k, hk, rfl, hbr⟩ := hrel
    have Hbw := hide (below_step HW.out hbr (Nat.le_refl _))
    by_cases hlt : k < n3
    · obtain ⟨bp, off, x, A', c', hA, hbp, hx, hi, e0, e1, e2⟩ := PatsAt.get (k := k) Hp.out (by rw [← hn3'.out]; exact hlt)
      subst hA
      replace e0 := (Hbw.out.cell (p := ⟨bp, off + k * 3, none⟩) hbp).trans e0
      replace e1 := (Hbw.out.cell (p := ⟨bp, off + k * 3 + 1, none⟩) hbp).trans e1
      replace e2 := (Hbw.out.cell (p := ⟨bp, off + k * 3 + 2, none⟩) hbp).trans e2
      obtain ⟨t0, t1, t2, t3⟩ := Hpat.out x (mem_of_get hx)
      have hline := (hbr.cell (p := ⟨b, 0 + (k + 1), none⟩) hbl).trans (str_cell Hstr.out (lineStrs_at (Hat.out k x hx)))
      rw [Nat.zero_add] at hline
      have HNx := hide (fun (wz : World) (hz : Below w.heap.size w wz) => HN.out wz hz x (mem_of_get hx))
      have hps20 : x.pieces.length ≤ 1000 := Nat.le_trans (Hsm.out x (mem_of_get hx)) (by omega)
      generalize (⟨(spaced (patWords s x)).toArray⟩ : ByteArray) = lx at hline HNx
      obtain ⟨st', ps, ti⟩ := x
      simp only at t0 t1 t2 t3 e0 e1 e2 hi HNx hps20
      obtain ⟨j, rfl⟩ := Int.eq_ofNat_of_zero_le t0
      have hj : j < n1 := by have := hn1'.out; omega
      obtain ⟨bs, os, y, hAS, hbs, hy, y0, y1⟩ := StksAt.get (k := j) (Hs.out.carry (Flat.carried _) Hbw.out (Nat.le_refl _)) (by rw [← hn1'.out]; exact hj)
      subst hAS
      have hyl : lenAt s (j : Int) = y.length := by rw [lenAt, show ((j : Int)).toNat = j from rfl, hy]
      rw [hyl] at HNx
      obtain ⟨yl, yc⟩ := y
      simp only at y0 y1 HNx
      have Hi := hide hi
      obtain ⟨q, hqn⟩ : ∃ q, q = ps.length := ⟨_, rfl⟩
      rw [← hqn] at e1 HNx hps20
      have Hqn := hide hqn
      have hbs2 : bs < wr.heap.size := by have := Hbw.out.size; omega
      have hbl2 : b < wr.heap.size := by have := hbr.size; omega
      clear hx hi hy hyl y1 hbs hqn
      go_wp2_with fail
      obtain ⟨w5, hw5⟩ : ∃ w5, w5 = wr.alloc (.cells #[.int .i64 j, .slice A' q c', .int .i64 ti] 63) := ⟨_, rfl⟩
      have bP := Blk.new wr 63 #[.int .i64 j, .slice A' q c', .int .i64 ti]
      have Hb5 := hide (hbr.alloc hbr.size (.cells #[.int .i64 j, .slice A' q c', .int .i64 ti] 63))
      have y2 := (World.cell?_alloc_lt _ (.cells #[.int .i64 j, .slice A' q c', .int .i64 ti] 63) ⟨bs, os + j * 2, none⟩ hbs2).trans y0
      have l2 := (World.cell?_alloc_lt _ (.cells #[.int .i64 j, .slice A' q c', .int .i64 ti] 63) ⟨b, k + 1, none⟩ hbl2).trans hline
      rw [← hw5] at bP Hb5 y2 l2 ⊢
      have g0 := bP.cell 0
      have g1 := bP.cell 1
      have g2 := bP.cell 2
      simp at g0 g1 g2
      obtain ⟨gp, hgp⟩ : ∃ gp, gp = wr.heap.size := ⟨_, rfl⟩
      have hp5 := bP.lt
      rw [← hgp] at bP g0 g1 g2 hp5 ⊢
      have hs5 : wr.heap.size ≤ w5.heap.size := by omega
      have hbs5 : bs < w5.heap.size := by omega
      have hbl5 : b < w5.heap.size := by omega
      have Hb5w := hide (below_step HW.out Hb5.out (Nat.le_refl _))
      have ColS := hide (fun (W : World) (hz : Below w5.heap.size w5 W) => (show W.cell? ⟨b, k + 1, none⟩ = some (.string lx) ∧ W.cell? ⟨gp, 0, none⟩ = some (.int .i64 j) ∧ W.cell? ⟨gp, 1, none⟩ = some (.slice A' q c') ∧ W.cell? ⟨gp, 2, none⟩ = some (.int .i64 ti) ∧ W.cell? ⟨bs, os + j * 2, none⟩ = some (.int .i64 yl) ∧ Below w5.heap.size w5 W from
        ⟨(hz.cell (p := ⟨b, k + 1, none⟩) hbl5).trans l2, (hz.cell (p := ⟨gp, 0, none⟩) hp5).trans g0, (hz.cell (p := ⟨gp, 1, none⟩) hp5).trans g1, (hz.cell (p := ⟨gp, 2, none⟩) hp5).trans g2, (hz.cell (p := ⟨bs, os + j * 2, none⟩) hbs5).trans y2, hz⟩))
      have HN5 := hide (fun (W : World) (hz : Below w5.heap.size w5 W) => HNx.out W (below_step Hb5w.out hz (Nat.le_refl _)))
      have HI5 := hide (fun (W : World) (hz : Below w5.heap.size w5 W) => Ints.carry Hi.out (below_step Hb5w.out hz (Nat.le_refl _)) (Nat.le_refl w.heap.size))
      have RowLit := hide (fun (W : World) (hz : w5.heap.size ≤ W.heap.size) => (show Row (W.alloc (.cells #[.int .i64 yl, .int .i64 ti] 3)) w5.heap.size 3 1 encInt (.slice (some ⟨W.heap.size, 0, none⟩) 2 2) [yl, ti] from World.ownsRow_lit W #[.int .i64 yl, .int .i64 ti] 2 hz (by unfold maxLen; omega) rfl))
      clear hw5 e0 e1 e2 y0 bP hgp hline y2 l2 g0 g1 g2 Hi HNx
      have s1 : IntKind.i64.wrap ((k : Int) + 1) = (k : Int) + 1 := IntWalk.i64_in _ (by omega)
      have s2 : ((k : Int) + 1).toNat = k + 1 := by omega
      have i0 : (0 : Int) ≤ (k : Int) + 1 := by omega
      have i1 : (k : Int) + 1 < (n3 : Int) + 2 := by omega
      have i2 : (0 : Int) ≤ (j : Int) := by omega
      have i3 : (j : Int) < (n1 : Int) := by omega
      go_region_held3 (fun W => W.cell? ⟨b, k + 1, none⟩ = some (.string lx) ∧ W.cell? ⟨gp, 0, none⟩ = some (.int .i64 j) ∧ W.cell? ⟨gp, 1, none⟩ = some (.slice A' q c') ∧ W.cell? ⟨gp, 2, none⟩ = some (.int .i64 ti) ∧ W.cell? ⟨bs, os + j * 2, none⟩ = some (.int .i64 yl) ∧ Below w5.heap.size w5 W)
        (first
          | (with_reducible exact ColS.out _ (Below.drew (Below.refl _ _)))
          | (with_reducible exact ColS.out _ ‹_›)
          | (with_reducible exact ColS.out _ hB8.out)
          | (with_reducible exact ColS.out _ (Below.alloc ‹Below w5.heap.size w5 _› (Below.size ‹Below w5.heap.size w5 _›) _))
          | (with_reducible exact ColS.out _ (Below.drew (below_new w5 _)))
          | go_keep)
        (first
          | (go_at_call 13; have hS := ‹_ ∧ _ ∧ _ ∧ _ ∧ _ ∧ Below w5.heap.size w5 _›; refine (HN5.out _ hS.2.2.2.2.2).mono ?_; rintro e wz ⟨A1, k1, rfl, hA1, hbz, hfz⟩; have hBz := below_step hS.2.2.2.2.2 hbz (Nat.le_refl _))
          | (have a1 := RowLit.out wz hBz.size; have a0 := hBz.alloc hBz.size (.cells #[.int .i64 yl, .int .i64 ti] 3); have a2 := HI5.out (wz.alloc (.cells #[.int .i64 yl, .int .i64 ti] 3)) a0; have a3 : ps.length ≤ 1000000 := (by have := Hqn.out; omega); have a4 := le_alloc hBz.size (.cells #[.int .i64 yl, .int .i64 ti] 3); (first | (refine step_appendN (by rfl) (.tmp 139) (.tmp 141) 32 (by rfl) w5.heap.size 3 Tryz.underlying32 infoInt _ [yl, ti] ps (by rfl) a1 A' q c' (by rfl) Hqn.out a2 (Nat.le_of_ble_eq_true rfl) a3 a4 ?_)); intro A2 k2 w8 hrow8 hb8 hg8; have hA2 := hA1.carry (below_new wz (.cells #[.int .i64 yl, .int .i64 ti] 3)) (Nat.le_refl _); have hI1 := hide (hA2.grown hg8 (by simp) (fun a ha => by simp only [Value.ownBlock]; intro he; injection he with he; have := SlOf.lt_of hA1 ha; omega)); have hI2 := hide (Row.read hrow8 encInt_len (by omega)); have hB8 := hide (a0.trans hb8))
          | (have a1 := (RowLit.out w5 (Nat.le_refl _)).drew.keep hbz; have a2 := HI5.out wz hBz; have a3 : ps.length ≤ 1000000 := (by have := Hqn.out; omega); refine step_appendN (by rfl) (.tmp 139) (.tmp 141) 32 (by rfl) w5.heap.size 3 Tryz.underlying32 infoInt _ [yl, ti] ps (by rfl) a1 A' q c' (by rfl) Hqn.out a2 (Nat.le_of_ble_eq_true rfl) a3 hBz.size ?_; intro A2 k2 w8 hrow8 hb8 hg8; have hI1 := hide (hA1.grown hg8 (Nat.le_refl _) (fun a ha => by simp only [Value.ownBlock]; intro he; injection he with he; have := hfz a ha; simp at this; omega)); have hI2 := hide (Row.read hrow8 encInt_len (by omega)); have hB8 := hide (hBz.trans hb8))
          | (go_at_call 26; refine (equalInts_any A1 A2 (yl :: ti :: ps) (2 + q) k1 k2 _ hI1.out hI2.out (by rw [Hqn.out, List.length_cons, List.length_cons]; omega) (by omega)).mono ?_; rintro e wq ⟨rfl, hbq⟩; have hBq := below_step hB8.out hbq (Nat.le_refl _)))
      all_goals
        have hfin := hide (Hb5.out.trans (hBq.mono Hb5.out.size))
        clear s1 s2 i0 i1 i2 i3 hBq hI1 hI2 hB8 hBz hA1 hbz hfz hbq hrow8 hb8 hg8
        go_wp2_with fail
        go_roundw
        case rel => exact ⟨k + 1, by omega, by go_num, hfin.out⟩
        case measure => simp [intOf]; omega
    · obtain rfl : k = n3 := by omega
      go_wp2_with fail
      go_ret
      exact ⟨rfl, Hbw.out⟩
end
end Go.Proofs.YtnhmdgkhmkeopaaGreatDoor
