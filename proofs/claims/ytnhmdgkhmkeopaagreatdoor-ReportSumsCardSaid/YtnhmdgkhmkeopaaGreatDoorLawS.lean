/- The law of sums: the numbers of bars, and the masses, of all sizes add up to those of the last line. -/
import Derived.Test.YtnhmdgkhmkeopaaGreatDoorNums
import Derived.Test.YtnhmdgkhmkeopaaGreatDoorSmall
import Derived.Test.YtnhmdgkhmkeopaaGreatDoorAwake
import Derived.Test.YtnhmdgkhmkeopaaGreatDoorFinR
import Derived.IntWalk
namespace Go.Proofs.YtnhmdgkhmkeopaaGreatDoor
open Go.RowKit

def repStrs (l : List BarD) : List ByteArray := (repLines l).map (fun y => ⟨y.toArray⟩) ++ [.empty]
def linesN (l : List BarD) : Nat := (massSteps l steelSizes).length
theorem repStrs_len (l : List BarD) : (repStrs l).length = linesN l + 2 := by simp [repStrs, repLines, linesN]
theorem repStrs_at {l : List BarD} {k : Nat} {p : Int × Int} (h : (massSteps l steelSizes)[k]? = some p) : (repStrs l)[k]? = some ⟨(sizeLine l p).toArray⟩ := by
  have hk := lt_of_get h
  rw [repStrs, List.getElem?_append_left (by simp [repLines]; omega), List.getElem?_map, repLines, List.getElem?_append_left (by simpa using hk), List.getElem?_map, h]
  rfl
theorem repStrs_all (l : List BarD) : (repStrs l)[linesN l]? = some ⟨(allLine l).toArray⟩ := by
  simp [repStrs, repLines, linesN]
theorem repStrs_end (l : List BarD) : (repStrs l)[linesN l + 1]? = some .empty := by
  simp [repStrs, repLines, linesN]
theorem steelText_len {l : List BarD} (hok : schedOk l = true) : (steelText l).length ≤ 100000000 := by
  have h1 := sizeLines_len hok (massSteps l steelSizes) (fun p hp => hp)
  have h2 := massSteps_len l
  have h3 := lineBytes_len (allWords_ok hok)
  have h4 : (allWords l).length = 5 := rfl
  rw [steelText, List.length_append]
  rw [h4] at h3
  omega
theorem flat_str (l : List ByteArray) : l.flatMap encStr = l.map Value.string := by
  induction l with
  | nil => rfl
  | cons x r ih => rw [List.flatMap_cons, ih]; rfl
theorem strs_blk (w : World) (t : TypeId) (l : List ByteArray) : StrsAt (w.alloc (.cells (l.map Value.string).toArray t)) (w.heap.size + 1) (some ⟨w.heap.size, 0, none⟩) l :=
  SlOf.lit encStr_len w t _ l (by rw [flat_str]) (by omega)
theorem split_any {l : List BarD} (hok : schedOk l = true) (w : World) {B : Nat} (hm : MX B w) :
    Calls Tryz.prog 12 #[.string ⟨(steelText l).toArray⟩, .string ⟨#[10]⟩] w fun e w' => ∃ b, e = .returned (.slice (some ⟨b, 0, none⟩) (linesN l + 2) (linesN l + 2)) ∧ b < w'.heap.size ∧ StrsAt w' w'.heap.size (some ⟨b, 0, none⟩) (repStrs l) ∧ Below w.heap.size w w' := by
  obtain ⟨_, m, hm⟩ := hm
  have hl := steelText_len hok
  refine (Tryz.strings_Split ⟨(steelText l).toArray⟩ ⟨#[10]⟩ m w (by simp [ByteArray.size]; omega) hm (by decide)).mono ?_
  rintro e w' ⟨he, rfl⟩
  obtain ⟨h1, h2⟩ := split_report hok
  have h3 : Lib.splitB ⟨#[10]⟩ 0 (Lib.countB ⟨(steelText l).toArray⟩ ⟨#[10]⟩) ⟨(steelText l).toArray⟩ = repStrs l := h2
  rw [h3]
  refine ⟨w.heap.size, ?_, by simp, by simpa using strs_blk w 9 (repStrs l), below_new _ _⟩
  rw [he, h1]
  simp [repLines, linesN]

theorem total_bound {m : Int} : ∀ {l : List Int}, (∀ x ∈ l, 0 ≤ x ∧ x ≤ m) → 0 ≤ total l ∧ total l ≤ m * l.length := by
  intro l
  induction l with
  | nil => intro _; simp [total]
  | cons x r ih =>
    intro h
    have h1 := h x (List.mem_cons_self ..)
    have h2 := ih (fun y hy => h y (List.mem_cons_of_mem _ hy))
    rw [total_cons, List.length_cons]
    have : m * ((r.length + 1 : Nat) : Int) = m * r.length + m := by
      rw [Int.natCast_add, Int.mul_add]; simp
    omega
def barsTo (l : List BarD) (k : Nat) : Int := total (((massSteps l steelSizes).take k).map fun p => sumOf BarD.count l p.1)
def massTo (l : List BarD) (k : Nat) : Int := total (((massSteps l steelSizes).take k).map (·.2))
theorem to_range {l : List BarD} (hok : schedOk l = true) (k : Nat) : (0 ≤ barsTo l k ∧ barsTo l k ≤ 600000) ∧ 0 ≤ massTo l k ∧ massTo l k ≤ 10000000000000 := by
  have h9 := massSteps_len l
  have hl : ((massSteps l steelSizes).take k).length ≤ 9 := Nat.le_trans (List.length_take_le' _ _) h9
  have a := total_bound (m := 60000) (l := ((massSteps l steelSizes).take k).map fun p => sumOf BarD.count l p.1) (by
    intro x hx
    obtain ⟨p, hp, rfl⟩ := List.mem_map.1 hx
    exact (mem_size hok (List.mem_of_mem_take hp)).2.1)
  have b := total_bound (m := 1000000000000) (l := ((massSteps l steelSizes).take k).map (·.2)) (by
    intro x hx
    obtain ⟨p, hp, rfl⟩ := List.mem_map.1 hx
    exact (mem_size hok (List.mem_of_mem_take hp)).2.2)
  rw [List.length_map] at a b
  unfold barsTo massTo
  omega
theorem to_snoc {l : List BarD} {k : Nat} {p : Int × Int} (h : (massSteps l steelSizes)[k]? = some p) : barsTo l (k + 1) = barsTo l k + sumOf BarD.count l p.1 ∧ massTo l (k + 1) = massTo l k + p.2 := by
  unfold barsTo massTo
  rw [take_snoc' h, List.map_append, List.map_append]
  exact ⟨total_snoc _ _, total_snoc _ _⟩
theorem to_full {l : List BarD} (hok : schedOk l = true) : barsTo l (linesN l) = sumCount l ∧ massTo l (linesN l) = total (massList l) := by
  unfold barsTo massTo linesN
  rw [List.take_length]
  exact ⟨steps_count hok, steps_mass l⟩
theorem next_size {l : List BarD} {k : Nat} {p q : Int × Int} (hp : (massSteps l steelSizes)[k]? = some p) (hq : (massSteps l steelSizes)[k + 1]? = some q) : p.1 < q.1 := by
  have h := steps_sorted l
  rw [List.pairwise_iff_getElem] at h
  have h1 := lt_of_get hp
  have h2 := lt_of_get hq
  have := h k (k + 1) (by simpa using h1) (by simpa using h2) (by omega)
  rw [List.getElem?_eq_getElem h1] at hp
  rw [List.getElem?_eq_getElem h2] at hq
  injection hp with hp
  injection hq with hq
  simpa [hp, hq] using this
theorem ints_cells {w : World} {B : Nat} {A : Option Addr} {l : List Int} (h : Ints w B A l) (h0 : 0 < l.length) : ∃ b off, A = some ⟨b, off, none⟩ ∧ ∀ k x, l[k]? = some x → w.cell? ⟨b, off + k, none⟩ = some (.int .i64 x) := by
  obtain ⟨b, off, rfl, _, _⟩ := h h0
  refine ⟨b, off, rfl, fun k x hx => ?_⟩
  obtain ⟨b2, off2, y, hA, _, hy, hc⟩ := Ints.get h (lt_of_get hx)
  injection hA with hA
  injection hA with h1 h2
  subst h1; subst h2
  rw [hx] at hy
  injection hy with hy
  rw [hy]; exact hc

theorem size_nums {l : List BarD} (hok : schedOk l = true) {p : Int × Int} (hp : p ∈ massSteps l steelSizes) (w : World) {B : Nat} (hB : B ≤ w.heap.size) (ht : TS B w) (he : EX B w) :
    Calls Tryz.prog 13 #[.string ⟨(sizeLine l p).toArray⟩] w fun e w' => ∃ b off c, e = .returned (.slice (some ⟨b, off, none⟩) 3 c) ∧ w'.cell? ⟨b, off, none⟩ = some (.int .i64 p.1) ∧ w'.cell? ⟨b, off + 1, none⟩ = some (.int .i64 (sumOf BarD.count l p.1)) ∧ w'.cell? ⟨b, off + 2, none⟩ = some (.int .i64 p.2) ∧ Below w.heap.size w w' := by
  obtain ⟨h1, _, h3⟩ := sizeLine_fit hok hp
  refine (numbers_any ⟨(sizeLine l p).toArray⟩ w (by simpa using h1) hB ht he).mono ?_
  rintro e w' ⟨A, c, rfl, hA, hb⟩
  have h4 : lineNums (⟨(sizeLine l p).toArray⟩ : ByteArray).data.toList = [p.1, sumOf BarD.count l p.1, p.2] := by simpa using h3
  rw [h4] at hA ⊢
  obtain ⟨b, off, rfl, hc⟩ := ints_cells hA (by simp)
  exact ⟨b, off, c, rfl, hc 0 _ rfl, hc 1 _ rfl, hc 2 _ rfl, hb⟩
theorem all_nums {l : List BarD} (hok : schedOk l = true) (w : World) {B : Nat} (hB : B ≤ w.heap.size) (ht : TS B w) (he : EX B w) :
    Calls Tryz.prog 13 #[.string ⟨(allLine l).toArray⟩] w fun e w' => ∃ b off c, e = .returned (.slice (some ⟨b, off, none⟩) 2 c) ∧ w'.cell? ⟨b, off, none⟩ = some (.int .i64 (sumCount l)) ∧ w'.cell? ⟨b, off + 1, none⟩ = some (.int .i64 (total (massList l))) ∧ Below w.heap.size w w' := by
  obtain ⟨h1, _, h3⟩ := allLine_fit hok
  refine (numbers_any ⟨(allLine l).toArray⟩ w (by simpa using h1) hB ht he).mono ?_
  rintro e w' ⟨A, c, rfl, hA, hb⟩
  have h4 : lineNums (⟨(allLine l).toArray⟩ : ByteArray).data.toList = [sumCount l, total (massList l)] := by simpa using h3
  rw [h4] at hA ⊢
  obtain ⟨b, off, rfl, hc⟩ := ints_cells hA (by simp)
  exact ⟨b, off, c, rfl, hc 0 _ rfl, hc 1 _ rfl, hb⟩
theorem qv (b : Bool) (v : Int) : qVal b v = if b then v else 0 := rfl
set_option maxHeartbeats 4000000 in
set_option maxRecDepth 100000 in
theorem lawS_any (A : Option Addr) (l : List BarD) (n c : Nat) (w : World) {B : Nat} (h : BarsAt w B A l) (hB : B ≤ w.heap.size) (hn : n = l.length) (hm : (n : Int) ≤ 9223372036854775807) (ht : TB w.heap.size w) (hx : MX w.heap.size w) (hts : TS w.heap.size w) (hex : EX w.heap.size w) :
    Calls Tryz.prog 3 #[.slice A n c] w fun e w' => e = .returned (.bool true) ∧ Below w.heap.size w w' := by
  have hn' := hide hn
  have Hs := hide (h.carry (Below.refl _ _) hB)
  have Ht := hide ht
  have Hx := hide hx
  have Hts := hide hts
  have Hex := hide hex
  clear hn h ht hx hts hex
  go_enter Tryz.func3, Tryz.ntmps3
  go_wp2_with fail
  refine (awake_any w (Nat.le_refl _) Ht.out).mono ?_
  rintro e w1 ⟨rfl, hb1⟩
  have HW := hide hb1
  clear hb1
  go_wp2_with fail
  refine (refSmall_any A l n c 70 _ (Hs.out.carry HW.out (Nat.le_refl _)) hn'.out hm).mono ?_
  rintro e w2 ⟨rfl, rfl⟩
  cases hsm : smallOk l 70
  · clear hsm
    go_wp2_with fail
    go_ret
    exact ⟨rfl, HW.out⟩
  obtain ⟨hl70, htame⟩ := small_tame' hsm
  have Htame := hide htame
  have hn70 : n ≤ 70 := by rw [hn'.out]; exact hl70
  clear htame hsm hm
  have HT := hide (fun wz (hz : Below w.heap.size w wz) => schedTotal_any A l n c wz (Hs.out.carry hz (Nat.le_refl _)) hz.size hn'.out Htame.out (by omega))
  have HQ := hide (fun wz (hz : Below w.heap.size w wz) => quantTotal_any A l n c wz (Hs.out.carry hz (Nat.le_refl _)) hz.size hn'.out Htame.out (by omega))
  cases hok : schedOk l
  · have Hok := hide hok
    rw [hok, show ∀ v, qVal false v = 0 from fun _ => rfl, show ∀ v, qErr false v = v from fun _ => rfl] at HT HQ
    clear hok
    go_wp2_with fail
    refine (repSteel_bad A l n c _ (Hs.out.carry HW.out (Nat.le_refl _)) HW.out.size hn'.out Htame.out (by omega) Hok.out).mono ?_
    rintro e w3 ⟨rfl, hb3⟩
    have HW := hide (below_step HW.out hb3 (Nat.le_refl _))
    clear hb3
    go_wp2_with fail
    refine (HT.out _ HW.out).mono ?_
    rintro e w4 ⟨rfl, hb4⟩
    have HW := hide (below_step HW.out hb4 (Nat.le_refl _))
    clear hb4
    go_wp2_with fail
    refine (HQ.out _ HW.out).mono ?_
    rintro e w5 ⟨rfl, hb5⟩
    have HW := hide (below_step HW.out hb5 (Nat.le_refl _))
    clear hb5
    go_wp2_with fail
    go_ret
    exact ⟨rfl, HW.out⟩
  have Hok := hide hok
  obtain ⟨tc, htc⟩ : ∃ tc, tc = sumCount l := ⟨_, rfl⟩
  obtain ⟨tm, htm⟩ : ∃ tm, tm = total (massList l) := ⟨_, rfl⟩
  rw [hok, ← htc, show ∀ v, qVal true v = v from fun _ => rfl, show ∀ v, qErr true v = 0 from fun _ => rfl] at HT
  rw [hok, ← htm, show ∀ v, qVal true v = v from fun _ => rfl, show ∀ v, qErr true v = 0 from fun _ => rfl] at HQ
  have hS := fun wz (hz : Below w.heap.size w wz) => repSteel_ok A l n c wz (Hs.out.carry hz (Nat.le_refl _)) hz.size hn'.out Htame.out Hok.out (Ht.out.carry hz)
  have hP := fun wz (hz : MX w.heap.size wz) => split_any Hok.out wz hz
  obtain ⟨st, hst⟩ : ∃ st : ByteArray, st = ⟨(steelText l).toArray⟩ := ⟨_, rfl⟩
  rw [← hst] at hS hP
  have HS := hide hS
  have HP := hide hP
  have Htc := hide htc
  have Htm := hide htm
  have h9 := massSteps_len l
  obtain ⟨m, hmm⟩ : ∃ m, m = linesN l := ⟨_, rfl⟩
  have hm9 : m ≤ 9 := by rw [hmm]; exact h9
  rw [← hmm] at HP
  have Hmm := hide hmm
  have rtc := sumCount_range (schedOk_mem hok)
  have rtm := total_range hok
  rw [← htc] at rtc
  rw [← htm] at rtm
  have hl60 := schedOk_len hok
  clear hok hS hP hst htc htm h9 hmm
  go_wp2_with fail
  refine (HS.out _ HW.out).mono ?_
  rintro e w3 ⟨rfl, hb3⟩
  have HW := hide (below_step HW.out hb3 (Nat.le_refl _))
  clear hb3
  go_wp2_with fail
  refine (HT.out _ HW.out).mono ?_
  rintro e w4 ⟨rfl, hb4⟩
  have HW := hide (below_step HW.out hb4 (Nat.le_refl _))
  clear hb4
  go_wp2_with fail
  refine (HQ.out _ HW.out).mono ?_
  rintro e w5 ⟨rfl, hb5⟩
  have HW := hide (below_step HW.out hb5 (Nat.le_refl _))
  clear hb5
  go_wp2_with fail
  refine (HP.out _ (Hx.out.carry HW.out)).mono ?_
  rintro e w6 ⟨b, rfl, hbl, hstr, hb6⟩
  have HW := hide (below_step HW.out hb6 (Nat.le_refl _))
  clear hb6
  have Hstr := hide hstr
  have cend : w6.cell? ⟨b, 0 + (m + 1), none⟩ = some (.string .empty) := str_cell hstr (by rw [Hmm.out]; exact repStrs_end l)
  have call : w6.cell? ⟨b, 0 + m, none⟩ = some (.string ⟨(allLine l).toArray⟩) := str_cell hstr (by rw [Hmm.out]; exact repStrs_all l)
  rw [Nat.zero_add] at cend call
  have Hcall := hide call
  clear hstr call
  have q1 : ((m + 2 : Nat) : Int) - 1 = ((m + 1 : Nat) : Int) := by omega
  have q2 : ((m + 2 : Nat) : Int) - 2 = (m : Int) := by omega
  go_wp2_with fail
  clear cend
  go_loopw [10, 11, 12, 74] (fun bs ms la i wr => ∃ k : Nat, k ≤ m ∧ i = .int .i64 k ∧ (∃ vb vm vl : Int, bs = .int .i64 vb ∧ ms = .int .i64 vm ∧ la = .int .i64 vl ∧ Hid (vb = barsTo l k) ∧ Hid (vm = massTo l k) ∧ Hid (∀ p, (massSteps l steelSizes)[k]? = some p → vl < p.1)) ∧ Below w6.heap.size w6 wr) (fun _ _ _ i _ => m - (intOf i).toNat)
  case atStart =>
    refine ⟨0, Nat.zero_le _, rfl, ⟨0, 0, 0, rfl, rfl, rfl, hide rfl, hide rfl, hide fun p hp => ?_⟩, Below.refl _ _⟩
    have := (steps_mem (mem_of_get hp)).1
    simp only [steelSizes, List.mem_cons, List.not_mem_nil, or_false] at this
    omega
  case round =>
    obtain ⟨k, hk, rfl, ⟨vb, vm, vl, rfl, rfl, rfl, Hvb, Hvm, Hvl⟩, hbr⟩ := hrel
    obtain ⟨⟨r1, r2⟩, r3, r4⟩ := to_range Hok.out k
    rw [← Hvb.out] at r1 r2
    rw [← Hvm.out] at r3 r4
    have HWr := hide (HW.out.trans (hbr.mono HW.out.size))
    by_cases hlt : k < m
    · obtain ⟨p, hp⟩ : ∃ p, (massSteps l steelSizes)[k]? = some p := ⟨_, List.getElem?_eq_getElem (by have := Hmm.out; unfold linesN at this; omega)⟩
      have cl : wr.cell? ⟨b, 0 + k, none⟩ = some (.string ⟨(sizeLine l p).toArray⟩) := (hbr.cell (p := ⟨b, 0 + k, none⟩) hbl).trans (str_cell Hstr.out (repStrs_at hp))
      rw [Nat.zero_add] at cl
      have hlast := Hvl.out p hp
      have hpos := count_pos Hok.out (steps_has (mem_of_get hp))
      obtain ⟨_, ⟨_, b2⟩, c1, c2⟩ := mem_size Hok.out (mem_of_get hp)
      have Hnum := hide (size_nums Hok.out (mem_of_get hp) wr HWr.out.size (Hts.out.carry HWr.out) (Hex.out.carry HWr.out))
      have Hsn := hide (to_snoc hp)
      have Hp := hide hp
      obtain ⟨p1, p2⟩ := p
      simp only at hlast hpos b2 c1 c2 Hnum Hsn
      generalize hcnt : sumOf BarD.count l p1 = cnt at hpos b2 Hnum Hsn
      have Hcnt := hide hcnt
      clear hp hcnt
      go_wp2_with fail
      refine Hnum.out.mono ?_
      rintro e w7 ⟨b9, o9, c9, rfl, e0, e1, e2, hb7⟩
      have HB7 := hide (hbr.trans (hb7.mono hbr.size))
      have d1 : decide (p1 ≤ vl) = false := by simp; omega
      have d2 : decide (cnt < 1) = false := by simp; omega
      clear hb7 cl
      go_wp2_with fail
      have s1 : IntKind.i64.wrap (vb + cnt) = vb + cnt := IntWalk.i64_in _ (by omega)
      have s2 : IntKind.i64.wrap (vm + p2) = vm + p2 := IntWalk.i64_in _ (by omega)
      go_quiet (fail)
      clear s1 s2
      go_wp2_with fail
      go_roundw
      case rel =>
        refine ⟨k + 1, by omega, by go_num, ⟨_, _, _, rfl, rfl, rfl, hide ?_, hide ?_, hide ?_⟩, below_drewN HB7.out _⟩
        · rw [Hsn.out.1, Hvb.out]
        · rw [Hsn.out.2, Hvm.out]
        · intro q hq; exact next_size Hp.out hq
      case measure => simp [intOf]; omega
    · obtain rfl : k = m := by omega
      obtain ⟨f1, f2⟩ := to_full Hok.out
      rw [← Hmm.out, ← Hvb.out, ← Htc.out] at f1
      rw [← Hmm.out, ← Hvm.out, ← Htm.out] at f2
      subst f1
      subst f2
      have cl := (hbr.cell (p := ⟨b, k, none⟩) hbl).trans Hcall.out
      have Hnum := hide (all_nums Hok.out wr HWr.out.size (Hts.out.carry HWr.out) (Hex.out.carry HWr.out))
      rw [← Htc.out, ← Htm.out] at Hnum
      go_wp2_with fail
      refine Hnum.out.mono ?_
      rintro e w7 ⟨b9, o9, c9, rfl, e0, e1, hb7⟩
      have HW := hide (below_step HWr.out hb7 (Nat.le_refl _))
      clear hb7 cl
      go_wp2_with fail
      go_ret
      exact ⟨rfl, HW.out⟩
end Go.Proofs.YtnhmdgkhmkeopaaGreatDoor
