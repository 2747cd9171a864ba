/- steps.At and steps.Short. anchor.Ends: its tests on legs, and what it tells in plain words. anchor.Ends, for valid arguments. Plain: chains of laid bars; what supplies a demand; where it does not suffice. No walk stands here. Laid bars and chains in memory. No walk stands here. Plain: what is known of each laid bar of a valid detail. No walk stands here. Searches in a list of whole numbers by a function value that has captured variables; the first of the least. A map from int to int that the call made. A detail of the call's own, as an argument. No walk stands here. -/
import Derived.Test.YtkmpddaobncheaaGreatDoorQay
import Derived.Test.YtkmpddaobncheaaGreatDoorQax
import Derived.Test.YtkmpddaobncheaaGreatDoorQag
import Derived.Test.YtkmpddaobncheaaGreatDoorQaf
import Derived.Test.YtkmpddaobncheaaGreatDoorQas
import Derived.Test.YtkmpddaobncheaaGreatDoorQac
import Derived.Lib.SlicesCompact
import Derived.Test.YtkmpddaobncheaaGreatDoorQau
import Derived.Maps.OwnSet
namespace Go.Proofs.YtkmpddaobncheaaGreatDoor
open Go.RowKit

/-- Whether a step starts behind a place. -/
def behindB (l : List (Int × Int)) (x : Int) (i : Nat) : Bool := match l[i]? with | some s => decide (x < s.1) | none => false
/-- The value of steps at a place. -/
def stepAt (l : List (Int × Int)) (x : Int) : Int := if searchB (behindB l x) l.length = 0 then 0 else ((l[searchB (behindB l x) l.length - 1]?).map (·.2)).getD 0
set_option maxHeartbeats 1000000 in
theorem stpAt1_ok (l : List (Int × Int)) (A : Option Addr) (n c k : Nat) (x : Int) (gl gx : Nat) (w : World) {B : Nat} (h : StpsAt w B A l) (hB : B ≤ w.heap.size) (hl : Blk w gl 52 #[.slice A n c]) (hx : Blk w gx 3 #[.int .i64 x]) (hn : n = l.length) (hk : k < n) :
    Calls Tryz.prog 202 #[.int .i64 (k : Int), .pointer (some ⟨gl, 0, none⟩), .pointer (some ⟨gx, 0, none⟩)] w fun e w' => e = .returned (.bool (behindB l x k)) ∧ Below w.heap.size w w' := by
  obtain ⟨b, off, s, rfl, hbl, hs, e1, e2⟩ := StpsAt.get (k := k) h (by rw [← hn]; exact hk)
  have lb : b < w.heap.size := Nat.lt_of_lt_of_le hbl hB
  have Hr := hide (show behindB l x k = decide (x < s.1) by rw [behindB, hs])
  have c0 := hl.cell 0
  have c1 := hx.cell 0
  simp at c0 c1
  have ll := hl.lt
  have lx := hx.lt
  clear h hB hl hx hn hs hbl e2
  generalize behindB l x k = t at *
  cases hq : decide (x < s.1)
  · rw [hq] at Hr
    go_enter Tryz.func202, Tryz.ntmps202
    go_wp2_with fail
    go_quiet (fail)
    go_wp2_with fail
    go_ret
    exact ⟨ret_bool (by rw [Hr.out]), ⟨rfl, rfl, rfl, Nat.le_refl _, fun _ _ => rfl⟩⟩
  · rw [hq] at Hr
    go_enter Tryz.func202, Tryz.ntmps202
    go_wp2_with fail
    go_quiet (fail)
    go_wp2_with fail
    go_ret
    exact ⟨ret_bool (by rw [Hr.out]), ⟨rfl, rfl, rfl, Nat.le_refl _, fun _ _ => rfl⟩⟩
theorem searchB_le (p : Nat → Bool) (n : Nat) : searchB p n ≤ n := (search_le p n 0 n (by omega)).2
set_option maxHeartbeats 1000000 in
theorem stpAt_ok (l : List (Int × Int)) (A : Option Addr) (n c : Nat) (x : Int) (w : World) {B : Nat} (h : StpsAt w B A l) (hB : B ≤ w.heap.size) (hn : n = l.length) (hm : n ≤ 60000) :
    Calls Tryz.prog 138 #[.slice A n c, .int .i64 x] w fun e w' => e = .returned (.int .i64 (stepAt l x)) ∧ Below w.heap.size w w' := by
  have KL := (Blk.new w 52 #[.slice A n c]).alloc (.cells #[.int .i64 x] 3)
  have KX := Blk.new1 w (.cells #[.slice A n c] 52) 3 #[.int .i64 x]
  have hW := below_new2 w (.cells #[.slice A n c] 52) (.cells #[.int .i64 x] 3)
  obtain ⟨W0, hW0⟩ : ∃ W0, W0 = (w.alloc (.cells #[.slice A n c] 52)).alloc (.cells #[.int .i64 x] 3) := ⟨_, rfl⟩
  rw [← hW0] at KL KX hW
  have HSr := search_any (behindB l x) n 202 #[.pointer (some ⟨w.heap.size, 0, none⟩), .pointer (some ⟨w.heap.size + 1, 0, none⟩)] W0 (by omega)
    (fun k W hk hz => stpAt1_ok l A n c k x w.heap.size (w.heap.size + 1) W (SlOf.carry (Flat.carried _) h ((below_step hW hz (Nat.le_refl _)).mono hB) (Nat.le_refl _)) (Nat.le_trans hB (below_step hW hz (Nat.le_refl _)).size) (KL.keep hz) (KX.keep hz) hn hk) Tryz.call202
  have HS := hide HSr
  have hle := searchB_le (behindB l x) n
  have Hr := hide (show stepAt l x = if searchB (behindB l x) n = 0 then 0 else ((l[searchB (behindB l x) n - 1]?).map (·.2)).getD 0 by rw [hn]; rfl)
  have HL := hide (fun (W : World) (hz : Below w.heap.size w W) => SlOf.carry (Flat.carried _) h (hz.mono hB) (Nat.le_refl _))
  have HB := hide hB
  have Hn := hide hn
  generalize searchB (behindB l x) n = sn at *
  generalize stepAt l x = t at *
  have HW := hide hW
  have KLh := hide KL
  clear h hB hn KL KX HSr hW
  go_enter Tryz.func138, Tryz.ntmps138
  go_upto_region 1 with fail
  rw [← hW0]
  clear hW0
  have c0 := KLh.out.cell 0
  simp at c0
  have ll := KLh.out.lt
  go_wp2_with fail
  refine HS.out.mono ?_
  rintro e w2 ⟨rfl, hb⟩
  replace HW := hide (below_step HW.out hb (Nat.le_refl _))
  replace KLh := hide (KLh.out.keep hb)
  clear hb HS c0 ll
  by_cases h0 : sn = 0
  · subst h0
    rw [if_pos rfl] at Hr
    go_wp2_with fail
    go_ret
    exact ⟨ret_int (by rw [Hr.out]), HW.out⟩
  · have hq := h0
    rw [if_neg h0] at Hr
    obtain ⟨b, off, s, rfl, hbl, hs, e1, e2⟩ := StpsAt.get (k := sn - 1) (HL.out _ HW.out) (by rw [← Hn.out]; omega)
    have lb : b < w2.heap.size := Nat.lt_of_lt_of_le hbl (Nat.le_trans HB.out HW.out.size)
    rw [hs] at Hr
    have c0 := KLh.out.cell 0
    simp at c0
    have ll := KLh.out.lt
    have z1 : IntKind.i64.wrap ((sn : Int) - 1) = ((sn - 1 : Nat) : Int) := by rw [IntWalk.i64_in _ (by omega)]; omega
    have n0 : ((sn : Int) == 0) = false := by simp; omega
    clear hs hbl e1
    go_wp2_with fail
    go_ret
    exact ⟨ret_int (by rw [Hr.out]; rfl), HW.out⟩
set_option maxHeartbeats 1000000 in
theorem stepsAt_ok (l : List (Int × Int)) (A : Option Addr) (n c : Nat) (x : Int) (w : World) {B : Nat} (h : StpsAt w B A l) (hB : B ≤ w.heap.size) (hn : n = l.length) (hm : n ≤ 60000) (hok : stepsOk l = true) :
    Calls Tryz.prog 88 #[.slice A n c, .int .i64 x] w fun e w' => e = .returned (.tuple #[.int .i64 (stepAt l x), .int .i64 0]) ∧ Below w.heap.size w w' := by
  have HV := hide (stepsValid_any A l n c w h hB hn (by omega))
  rw [hok] at HV
  have HA := hide (fun (W : World) (hz : Below w.heap.size w W) => stpAt_ok l A n c x W (SlOf.carry (Flat.carried _) h (hz.mono hB) (Nat.le_refl _)) (Nat.le_trans hB hz.size) hn hm)
  generalize stepAt l x = t at *
  clear h hB hn hm hok
  go_enter Tryz.func88, Tryz.ntmps88
  go_wp2_with fail
  refine HV.out.mono ?_
  rintro e w1 ⟨rfl, hb⟩
  have HW := hide hb
  clear hb HV
  go_wp2_with fail
  refine (HA.out _ HW.out).mono ?_
  rintro e w2 ⟨rfl, hb⟩
  replace HW := hide (below_step HW.out hb (Nat.le_refl _))
  clear hb HA
  go_wp2_with fail
  go_ret2
  exact ⟨rfl, HW.out⟩
/-- Steps without those that change nothing. -/
def shortFrom : Int → List (Int × Int) → List (Int × Int)
  | _, [] => []
  | last, s :: r => if s.2 = last then shortFrom s.2 r else s :: shortFrom s.2 r
theorem shortFrom_at {l : List (Int × Int)} {k : Nat} {s : Int × Int} (h : l[k]? = some s) (last : Int) : shortFrom last (l.drop k) = if s.2 = last then shortFrom s.2 (l.drop (k + 1)) else s :: shortFrom s.2 (l.drop (k + 1)) := by
  have hk := lt_of_get h
  rw [List.getElem?_eq_getElem hk] at h
  injection h with h
  rw [List.drop_eq_getElem_cons hk, h, shortFrom]
set_option maxHeartbeats 2000000 in
theorem short_ok (l : List (Int × Int)) (A : Option Addr) (n c : Nat) (w : World) {B : Nat} (h : StpsAt w B A l) (hB : B ≤ w.heap.size) (hn : n = l.length) (hm : n ≤ 60000) :
    Calls Tryz.prog 189 #[.slice A n c] w fun e w' => ∃ A' c', e = .returned (.slice A' (shortFrom 0 l).length c') ∧ Row w' w.heap.size 112 2 encStp (.slice A' (shortFrom 0 l).length c') (shortFrom 0 l) ∧ Below w.heap.size w w' := by
  have HL := hide (fun (W : World) (hz : Below w.heap.size w W) => SlOf.carry (Flat.carried _) h (hz.mono hB) (Nat.le_refl _))
  have HB := hide hB
  have Hn := hide hn
  clear h hB hn
  go_enter Tryz.func189, Tryz.ntmps189
  go_wp2_with fail
  go_loopw [3, 4, 9] (fun o la iv wr => ∃ k : Nat, k ≤ n ∧ iv = .int .i64 k ∧ (∃ t : Int, la = .int .i64 t ∧ ∃ (A9 : Option Addr) (c9 : Nat) (acc : List (Int × Int)), o = .slice A9 acc.length c9 ∧ Hid (Row wr w.heap.size 112 2 encStp (.slice A9 acc.length c9) acc) ∧ Hid (acc ++ shortFrom t (l.drop k) = shortFrom 0 l) ∧ Hid (acc.length ≤ k)) ∧ Hid (Below w.heap.size w wr)) (fun _ _ iv _ => n - (intOf iv).toNat)
  case atStart => exact ⟨0, Nat.zero_le _, rfl, ⟨0, rfl, none, 0, [], rfl, hide (Row.nil _ _ _ _ _), hide rfl, hide (Nat.le_refl _)⟩, hide (Below.refl _ _)⟩
  case round =>
    obtain ⟨k, hk, rfl, ⟨t, rfl, A9, c9, acc, rfl, hrow, hacc, hlen⟩, hb⟩ := hrel
    rename World => wr
    by_cases hlt : k < n
    · obtain ⟨b, off, s, hA, hbl, hs, e1, e2⟩ := StpsAt.get (k := k) (HL.out _ hb.out) (by rw [← Hn.out]; exact hlt)
      subst hA
      have lb : b < wr.heap.size := Nat.lt_of_lt_of_le hbl (Nat.le_trans HB.out hb.out.size)
      obtain ⟨s1, s2⟩ := s
      simp only at e1 e2
      have Hs := hide (shortFrom_at hs t)
      have KS := hide (Blk.new wr 112 #[.int .i64 s1, .int .i64 s2])
      have HR1 := hide (hrow.out.alloc (.cells #[.int .i64 s1, .int .i64 s2] 112))
      have HB1 := hide (hb.out.alloc hb.out.size (.cells #[.int .i64 s1, .int .i64 s2] 112))
      have f0 := KS.out.cell 0
      have f1 := KS.out.cell 1
      simp at f0 f1
      have HAP := hide (apart_new hrow.out (Nat.le_refl wr.heap.size))
      clear hs hbl KS hrow
      by_cases hq : s2 = t
      · subst hq
        have n0 : (s2 != s2) = false := by simp
        rw [if_pos rfl] at Hs
        go_wp2_with fail
        go_roundw
        case rel => exact ⟨k + 1, by omega, by go_num, ⟨s2, rfl, A9, c9, acc, rfl, HR1, hide (by rw [← hacc.out, Hs.out]), hide (by have := hlen.out; omega)⟩, HB1⟩
        case measure => simp [intOf]; omega
      · have n0 : (s2 != t) = true := by simpa using hq
        rw [if_neg hq] at Hs
        have HR2 := hide (HR1.out.alloc (.cells #[.int .i64 s1, .int .i64 s2] 112))
        have hsz := hb.out.size
        have hs1 : (wr.alloc (.cells #[.int .i64 s1, .int .i64 s2] 112)).heap.size = wr.heap.size + 1 := by simp
        have hy := SlOf.lit encStp_len (wr.alloc (.cells #[.int .i64 s1, .int .i64 s2] 112)) 112 #[.int .i64 s1, .int .i64 s2] [(s1, s2)] (by simp [encStp]) (Nat.lt_succ_self _)
        rw [hs1] at hy
        have HY := hide hy
        clear hy hs1
        have hal := hlen.out
        go_wp2_with (at_builtin; refine wpList_appendG rfl _ _ 52 rfl w.heap.size 112 (.agg #[.int .i64 0, .int .i64 0]) 2 16 encStp Tryz.underlying52 (by kernel_rfl) rfl (by omega) encStp_len encStp_one _ acc [(s1, s2)] rfl HR2.out (some ⟨wr.heap.size + 1, 0, none⟩) 1 1 rfl rfl HY.out (by omega) (by simp) (by omega) (by simp; omega) ?_; intro A7 c7 w7 hrow7 hb7 hg7; have HR7 := hide hrow7; have HB7 := hide hb7; have KS7 := hide (((Blk.new wr 112 #[.int .i64 s1, .int .i64 s2]).alloc (.cells #[.int .i64 s1, .int .i64 s2] 112)).grown hg7 (show some wr.heap.size ≠ (Value.slice A9 acc.length c9).ownBlock from fun h9 => HAP.out h9.symm)); clear hrow7 hb7 hg7; have g1 := KS7.out.cell 1; simp at g1; have lg := KS7.out.lt)
        go_roundw
        case rel =>
          have hr7 := HR7.out
          have hl7 : (acc ++ [(s1, s2)]).length = acc.length + 1 := by simp
          refine ⟨k + 1, by omega, by go_num, ⟨s2, rfl, A7, c7, acc ++ [(s1, s2)], by rw [hl7], hide (by rw [hl7]; exact hr7), hide (by rw [← hacc.out, Hs.out]; simp), hide (by rw [hl7]; omega)⟩, hide ((HB1.out.alloc HB1.out.size (.cells #[.int .i64 s1, .int .i64 s2] 112)).trans HB7.out)⟩
        case measure => simp [intOf]; omega
    · obtain rfl : k = n := by omega
      have hl : acc = shortFrom 0 l := by
        have h9 := hacc.out
        rw [Hn.out, List.drop_length, shortFrom, List.append_nil] at h9
        exact h9
      have Hl := hide hl
      clear hl hacc hlen
      go_wp2_with fail
      go_ret
      exact ⟨A9, c9, by rw [← Hl.out]; first | done | rfl | simp, by rw [← Hl.out]; exact hrow.out, hb.out⟩
set_option maxHeartbeats 1000000 in
theorem stepsShort_ok (l : List (Int × Int)) (A : Option Addr) (n c : Nat) (w : World) {B : Nat} (h : StpsAt w B A l) (hB : B ≤ w.heap.size) (hn : n = l.length) (hm : n ≤ 60000) (hok : stepsOk l = true) :
    Calls Tryz.prog 133 #[.slice A n c] w fun e w' => ∃ A' c', e = .returned (.tuple #[.slice A' (shortFrom 0 l).length c', .int .i64 0]) ∧ Row w' w.heap.size 112 2 encStp (.slice A' (shortFrom 0 l).length c') (shortFrom 0 l) ∧ Below w.heap.size w w' := by
  have HV := hide (stepsValid_any A l n c w h hB hn (by omega))
  rw [hok] at HV
  have HA := hide (fun (W : World) (hz : Below w.heap.size w W) => short_ok l A n c W (SlOf.carry (Flat.carried _) h (hz.mono hB) (Nat.le_refl _)) (Nat.le_trans hB hz.size) hn hm)
  generalize shortFrom 0 l = L at *
  clear h hB hn hm hok
  go_enter Tryz.func133, Tryz.ntmps133
  go_wp2_with fail
  refine HV.out.mono ?_
  rintro e w1 ⟨rfl, hb⟩
  have HW := hide hb
  have hz := hb.size
  clear hb HV
  go_wp2_with fail
  refine (HA.out _ HW.out).mono ?_
  rintro e w2 ⟨A2, c2, rfl, hr, hb⟩
  have HR := hide hr
  replace HW := hide (below_step HW.out hb (Nat.le_refl _))
  clear hb HA hr
  go_wp2_with fail
  go_ret2
  refine ⟨A2, c2, rfl, ?_, HW.out⟩
  have h9 := HR.out
  refine ⟨h9.1, ?_⟩
  rcases h9.2 with h3 | ⟨g, cap, cur, h3, h4, r⟩
  · exact .inl h3
  · exact .inr ⟨g, cap, cur, h3, Nat.le_trans hz h4, r⟩
end Go.Proofs.YtkmpddaobncheaaGreatDoor
namespace Go.Proofs.YtkmpddaobncheaaGreatDoor
open Go.RowKit

/-- Whether a leg is parallel to X. -/
def alongX (l : BoxD) : Bool := decide (l.lo.1 < l.hi.1) && ((l.lo.2.1 == l.hi.2.1) && (l.lo.2.2 == l.hi.2.2))
set_option maxHeartbeats 1000000 in
theorem isMain_any (l : BoxD) (w : World) : Calls Tryz.prog 283 #[bx l] w fun e w' => e = .returned (.bool (alongX l)) ∧ Below w.heap.size w w' := by
  have Hr := hide (show alongX l = (decide (l.lo.1 < l.hi.1) && ((l.lo.2.1 == l.hi.2.1) && (l.lo.2.2 == l.hi.2.2))) from rfl)
  generalize alongX l = t at *
  obtain ⟨⟨a1, a2, a3⟩, a4, a5, a6⟩ := l
  simp only at Hr
  have HW := hide (below_new w (.cells #[.int .i64 a1, .int .i64 a2, .int .i64 a3, .int .i64 a4, .int .i64 a5, .int .i64 a6] 51))
  show Calls Tryz.prog 283 #[.agg #[.int .i64 a1, .int .i64 a2, .int .i64 a3, .int .i64 a4, .int .i64 a5, .int .i64 a6]] w _
  cases q1 : decide (a1 < a4)
  · rw [q1] at Hr
    go_enter Tryz.func283, Tryz.ntmps283
    go_wp2_with fail
    go_ret
    exact ⟨ret_bool (by rw [Hr.out]; rfl), HW.out⟩
  cases q2 : (a2 == a5)
  · rw [q1, q2] at Hr
    go_enter Tryz.func283, Tryz.ntmps283
    go_wp2_with fail
    go_ret
    exact ⟨ret_bool (by rw [Hr.out]; rfl), HW.out⟩
  cases q3 : (a3 == a6)
  · rw [q1, q2, q3] at Hr
    go_enter Tryz.func283, Tryz.ntmps283
    go_wp2_with fail
    go_ret
    exact ⟨ret_bool (by rw [Hr.out]; rfl), HW.out⟩
  · rw [q1, q2, q3] at Hr
    go_enter Tryz.func283, Tryz.ntmps283
    go_wp2_with fail
    go_ret
    exact ⟨ret_bool (by rw [Hr.out]; rfl), HW.out⟩
set_option maxHeartbeats 1000000 in
theorem endsBad_any (l : BoxD) (w : World) : Calls Tryz.prog 282 #[bx l] w fun e w' => e = .returned (.bool (!boxOk l)) ∧ Below w.heap.size w w' := by
  have HV := hide (fun W => boxValid_any l W)
  generalize boxOk l = t at *
  obtain ⟨⟨a1, a2, a3⟩, a4, a5, a6⟩ := l
  have HW := hide (below_new w (.cells #[.int .i64 a1, .int .i64 a2, .int .i64 a3, .int .i64 a4, .int .i64 a5, .int .i64 a6] 51))
  have K0 := hide (Blk.new w 51 #[.int .i64 a1, .int .i64 a2, .int .i64 a3, .int .i64 a4, .int .i64 a5, .int .i64 a6])
  show Calls Tryz.prog 282 #[.agg #[.int .i64 a1, .int .i64 a2, .int .i64 a3, .int .i64 a4, .int .i64 a5, .int .i64 a6]] w _
  go_enter Tryz.func282, Tryz.ntmps282
  go_wp2_with fail
  refine (HV.out _).mono ?_
  rintro e w1 ⟨rfl, hb⟩
  first
    | (have HB := hide (below_step HW.out hb (Nat.le_refl _))
       clear hb
       go_wp2_with fail
       go_ret
       exact ⟨ret_bool rfl, HB.out⟩)
    | (have HB := hide hb
       clear hb
       go_wp2_with fail
       go_ret
       exact ⟨ret_bool rfl, HB.out⟩)
/-- The end of a main leg is bent where the leg ahead of it, or behind it, holds it. -/
def bentAt (legs : List BoxD) (k : Nat) (p : Pt) : Bool :=
  (decide (1 ≤ k) && ((legs[k - 1]?).map (fun l => holdsB l ⟨p, p⟩)).getD false) || ((legs[k + 1]?).map (fun l => holdsB l ⟨p, p⟩)).getD false
set_option maxHeartbeats 1000000 in
theorem boxContains_ok (a b : BoxD) (w : World) (ha : boxOk a = true) (hb : boxOk b = true) : Calls Tryz.prog 284 #[bx a, bx b] w fun e w' => e = .returned (.tuple #[.bool (holdsB a b), .int .i64 0]) ∧ Below w.heap.size w w' := by
  have HA := hide (fun W => boxValid_any a W)
  have HB := hide (fun W => boxValid_any b W)
  rw [ha] at HA
  rw [hb] at HB
  have HC := hide (fun W => holdsB_any a b W)
  generalize holdsB a b = t at *
  clear ha hb
  obtain ⟨⟨a1, a2, a3⟩, a4, a5, a6⟩ := a
  obtain ⟨⟨b1, b2, b3⟩, b4, b5, b6⟩ := b
  have K0 := hide ((Blk.new w 51 #[.int .i64 a1, .int .i64 a2, .int .i64 a3, .int .i64 a4, .int .i64 a5, .int .i64 a6]).alloc (.cells #[.int .i64 b1, .int .i64 b2, .int .i64 b3, .int .i64 b4, .int .i64 b5, .int .i64 b6] 51))
  have K1 := hide (Blk.new1 w (.cells #[.int .i64 a1, .int .i64 a2, .int .i64 a3, .int .i64 a4, .int .i64 a5, .int .i64 a6] 51) 51 #[.int .i64 b1, .int .i64 b2, .int .i64 b3, .int .i64 b4, .int .i64 b5, .int .i64 b6])
  have HW := hide (below_new2 w (.cells #[.int .i64 a1, .int .i64 a2, .int .i64 a3, .int .i64 a4, .int .i64 a5, .int .i64 a6] 51) (.cells #[.int .i64 b1, .int .i64 b2, .int .i64 b3, .int .i64 b4, .int .i64 b5, .int .i64 b6] 51))
  show Calls Tryz.prog 284 #[.agg #[.int .i64 a1, .int .i64 a2, .int .i64 a3, .int .i64 a4, .int .i64 a5, .int .i64 a6], .agg #[.int .i64 b1, .int .i64 b2, .int .i64 b3, .int .i64 b4, .int .i64 b5, .int .i64 b6]] w _
  go_enter Tryz.func284, Tryz.ntmps284
  go_wp2_with fail
  refine (HA.out _).mono ?_
  rintro e w1 ⟨rfl, hb⟩
  replace K0 := hide (K0.out.keep hb)
  replace K1 := hide (K1.out.keep hb)
  replace HW := hide (below_step HW.out hb (Nat.le_refl _))
  clear hb HA
  go_wp2_with (refine wpList_load_row_g (by rfl) 51 (.tmp 3) rfl (w.heap.size + 1) rfl 51 _ (0, 0) _ K1.out Tryz.underlying51 rfl (by kernel_rfl) ?_)
  refine (HB.out _).mono ?_
  rintro e w2 ⟨rfl, hb⟩
  replace K0 := hide (K0.out.keep hb)
  replace K1 := hide (K1.out.keep hb)
  replace HW := hide (below_step HW.out hb (Nat.le_refl _))
  clear hb HB
  go_wp2_with (first
    | (refine wpList_load_row_g (by rfl) 51 (.tmp 2) rfl w.heap.size rfl 51 _ (0, 0) _ K0.out Tryz.underlying51 rfl (by kernel_rfl) ?_)
    | (refine wpList_load_row_g (by rfl) 51 (.tmp 3) rfl (w.heap.size + 1) rfl 51 _ (0, 0) _ K1.out Tryz.underlying51 rfl (by kernel_rfl) ?_))
  refine (HC.out _).mono ?_
  rintro e w3 ⟨rfl, hb⟩
  replace HW := hide (below_step HW.out hb (Nat.le_refl _))
  clear hb HC
  go_wp2_with fail
  go_ret2
  exact ⟨rfl, HW.out⟩
end Go.Proofs.YtkmpddaobncheaaGreatDoor
namespace Go.Proofs.YtkmpddaobncheaaGreatDoor
open Go.RowKit

/-- What anchor.Ends answers of valid arguments. -/
def endsOf (r : RuleD) (m : MemD) (size : Int) (legs : List BoxD) : Int × Int × Int :=
  match legs.findIdx? alongX with
  | none => (0, 0, 12)
  | some k => match legs[k]? with
    | none => (0, 0, 12)
    | some l => (anchL r size (poorB m l) (bentAt legs k l.lo), anchL r size (poorB m l) (bentAt legs k l.hi), 0)
abbrev endsV (t : Int × Int × Int) : Value := .tuple #[.int .i64 t.1, .int .i64 t.2.1, .int .i64 t.2.2]
theorem endsOf_none {r : RuleD} {m : MemD} {size : Int} {legs : List BoxD} (h : idx alongX legs < 0) : endsOf r m size legs = (0, 0, 12) := by
  unfold idx at h
  unfold endsOf
  split at h
  · omega
  · rename_i q
    rw [q]
theorem endsOf_some {r : RuleD} {m : MemD} {size : Int} {legs : List BoxD} {k : Nat} {l : BoxD} (h : idx alongX legs = k) (hl : legs[k]? = some l) :
    endsOf r m size legs = (anchL r size (poorB m l) (bentAt legs k l.lo), anchL r size (poorB m l) (bentAt legs k l.hi), 0) := by
  unfold idx at h
  unfold endsOf
  split at h
  · rename_i i q
    obtain rfl : i = k := by omega
    rw [q]
    simp only [hl]
  · omega
/-- The point of one end, and what is known of it while the ends are gone through. -/
def endPt (l : BoxD) (j : Nat) : Pt := if j = 0 then l.lo else l.hi
def nbrs (k : Nat) : List Int := [(k : Int) - 1, (k : Int) + 1]
def touchB (legs : List BoxD) (p : Pt) (nv : Int) : Bool := decide (0 ≤ nv) && ((legs[nv.toNat]?).map (fun l => holdsB l ⟨p, p⟩)).getD false
def preB (legs : List BoxD) (k : Nat) (p : Pt) (t : Nat) : Bool := ((nbrs k).take t).any (touchB legs p)
theorem preB_two (legs : List BoxD) (k : Nat) (p : Pt) : preB legs k p 2 = bentAt legs k p := by
  have h2 : ((k : Int) + 1).toNat = k + 1 := by omega
  have h3 : decide ((0 : Int) ≤ (k : Int) + 1) = true := by simp; omega
  have h4 : decide ((0 : Int) ≤ (k : Int) - 1) = decide (1 ≤ k) := by
    by_cases q : 1 ≤ k
    · rw [decide_eq_true q, decide_eq_true (by omega)]
    · rw [decide_eq_false q, decide_eq_false (by omega)]
  have h1 : ((k : Int) - 1).toNat = k - 1 := by omega
  unfold preB nbrs bentAt
  rw [List.take_succ_cons, List.take_succ_cons, List.take_zero, List.any_cons, List.any_cons, List.any_nil, Bool.or_false]
  unfold touchB
  rw [h1, h2, h3, h4, Bool.true_and]
def stgB (legs : List BoxD) (l : BoxD) (k i t j : Nat) : Bool := if j < i then preB legs k (endPt l j) 2 else if j = i then preB legs k (endPt l j) t else false
theorem stgB_zero (legs l) (k j : Nat) : stgB legs l k 0 0 j = false := by
  unfold stgB preB
  simp
theorem stgB_step (legs l) (k i j : Nat) : stgB legs l k i 2 j = stgB legs l k (i + 1) 0 j := by
  unfold stgB
  by_cases q : j < i
  · rw [if_pos q, if_pos (by omega)]
  · rw [if_neg q]
    by_cases q2 : j = i
    · rw [if_pos q2, if_pos (by omega)]
    · rw [if_neg q2, if_neg (by omega)]
      split
      · simp [preB]
      · rfl
theorem stgB_two (legs l) (k j : Nat) (h : j < 2) : stgB legs l k 2 0 j = bentAt legs k (endPt l j) := by
  unfold stgB
  rw [if_pos h, preB_two]
abbrev endCells (l : BoxD) (f : Nat → Bool) : Array Value := #[.int .i64 l.lo.1, .int .i64 l.lo.2.1, .int .i64 l.lo.2.2, .bool (f 0), .int .i64 l.hi.1, .int .i64 l.hi.2.1, .int .i64 l.hi.2.2, .bool (f 1)]
theorem endCells_get (l : BoxD) (f : Nat → Bool) {i : Nat} (h : i < 2) : (endCells l f)[i * 4]? = some (.int .i64 (endPt l i).1) ∧ (endCells l f)[i * 4 + 1]? = some (.int .i64 (endPt l i).2.1) ∧ (endCells l f)[i * 4 + 2]? = some (.int .i64 (endPt l i).2.2) ∧ (endCells l f)[i * 4 + 3]? = some (.bool (f i)) := by
  obtain rfl | rfl : i = 0 ∨ i = 1 := by omega
  · exact ⟨rfl, rfl, rfl, rfl⟩
  · exact ⟨rfl, rfl, rfl, rfl⟩
theorem endCells_set (l : BoxD) (f g : Nat → Bool) {i : Nat} (h : i < 2) (hg : ∀ j, j < 2 → j ≠ i → g j = f j) : (endCells l f).setIfInBounds (i * 4 + 3) (.bool (g i)) = endCells l g := by
  obtain rfl | rfl : i = 0 ∨ i = 1 := by omega
  · rw [endCells, hg 1 (by omega) (by omega) |>.symm]; rfl
  · rw [endCells, hg 0 (by omega) (by omega) |>.symm]; rfl
theorem stgB_next (legs l) {k i t : Nat} {nv : Int} (hn : (nbrs k)[t]? = some nv) : stgB legs l k i (t + 1) i = (stgB legs l k i t i || touchB legs (endPt l i) nv) := by
  unfold stgB
  simp only [Nat.lt_irrefl, if_false, if_true]
  unfold preB
  rw [List.take_add_one, hn]
  simp
theorem stgB_none (legs l) {k i t : Nat} {nv : Int} (hn : (nbrs k)[t]? = some nv) (h : touchB legs (endPt l i) nv = false) : endCells l (stgB legs l k i (t + 1)) = endCells l (stgB legs l k i t) := by
  have key : ∀ j, stgB legs l k i (t + 1) j = stgB legs l k i t j := fun j => by
    by_cases q : j = i
    · subst q; rw [stgB_next legs l hn, h, Bool.or_false]
    · unfold stgB; rw [if_neg q, if_neg q]
  rw [endCells, key, key]
theorem touchB_neg {legs : List BoxD} {p : Pt} {nv : Int} (h : nv < 0) : touchB legs p nv = false := by
  unfold touchB; rw [decide_eq_false (by omega)]; rfl
theorem touchB_far {legs : List BoxD} {p : Pt} {nv : Int} (h : (legs.length : Int) ≤ nv) : touchB legs p nv = false := by
  unfold touchB; rw [List.getElem?_eq_none (by omega)]; simp
theorem touchB_at {legs : List BoxD} {p : Pt} {nv : Nat} {y : BoxD} (h : legs[nv]? = some y) : touchB legs p nv = holdsB y ⟨p, p⟩ := by
  unfold touchB; simp [h]
theorem boxOk_end {l : BoxD} (h : boxOk l = true) (i : Nat) : boxOk ⟨endPt l i, endPt l i⟩ = true := by
  obtain ⟨q1, q2, q3⟩ := boxOk_iff.1 h
  unfold endPt
  split
  · exact boxOk_iff.2 ⟨⟨Int.le_refl _, by simp only; omega, by simp only; omega⟩, ⟨Int.le_refl _, by simp only; omega, by simp only; omega⟩, ⟨Int.le_refl _, by simp only; omega, by simp only; omega⟩⟩
  · exact boxOk_iff.2 ⟨⟨Int.le_refl _, by simp only; omega, by simp only; omega⟩, ⟨Int.le_refl _, by simp only; omega, by simp only; omega⟩, ⟨Int.le_refl _, by simp only; omega, by simp only; omega⟩⟩
theorem endSize {x : BarD} (h : barOk x = true) : 0 ≤ x.size ∧ x.size ≤ 40 := by
  have hm := isSize_mem (barGood_of h).size
  simp [steelSizes] at hm
  omega
theorem nbrs_get (k : Nat) {t : Nat} (h : t < 2) : ∃ nv : Int, (nbrs k)[t]? = some nv ∧ (#[.int .i64 ((k : Int) - 1), .int .i64 ((k : Int) + 1)] : Array Value)[t]? = some (.int .i64 nv) ∧ nv ≤ k + 1 := by
  obtain rfl | rfl : t = 0 ∨ t = 1 := by omega
  · exact ⟨_, rfl, rfl, by omega⟩
  · exact ⟨_, rfl, rfl, by omega⟩
theorem stgB_other (legs l) {k i t j : Nat} (h : j ≠ i) : stgB legs l k i (t + 1) j = stgB legs l k i t j := by
  unfold stgB
  rw [if_neg h, if_neg h]
set_option maxHeartbeats 4000000 in
set_option maxRecDepth 100000 in
theorem ends_ok (r : RuleD) (m : MemD) (x : BarD) (legs : List BoxD) (A1 A2 A3 A4 : Option Addr) (n1 n2 c1 c2 c3 c4 : Nat) (w : World) {B : Nat}
    (h1 : BoxesAt w B A1 m.boxes) (h2 : BoxesAt w B A2 m.holes) (h3 : Ints w B A3 x.dims) (h4 : BoxesAt w B A4 legs) (hB : B ≤ w.heap.size) (hn1 : n1 = m.boxes.length) (hn2 : n2 = m.holes.length) (hnm : m.name.size ≤ maxLen) (hmk : x.mark.size ≤ maxLen) (hd : x.dims.length ≤ 60000) (hll : legs.length ≤ 60000)
    (hr : ruleOk r = true) (hmem : memOk m = true) (hbar : barOk x = true) (hl : legs.all boxOk = true) (hlen : (legLens x).length = legs.length) :
    Calls Tryz.prog 245 #[rlV r, memV m A1 n1 c1 A2 n2 c2, .agg #[.string x.mark, .int .i64 x.size, .int .i64 x.count, .int .i64 x.code, .slice A3 x.dims.length c3], .slice A4 legs.length c4] w fun e w' =>
      e = .returned (endsV (endsOf r m x.size legs)) ∧ Below w.heap.size w w' := by
  have H1 := hide (fun W => anchorValid_any r W)
  have H2 := hide (fun (W : World) (hz : Below w.heap.size w W) => member_any m A1 A2 n1 n2 c1 c2 W (h1.carry (Flat.carried _) (hz.mono hB) (Nat.le_refl _)) (h2.carry (Flat.carried _) (hz.mono hB) (Nat.le_refl _)) (Nat.le_trans hB hz.size) hn1 hn2 hnm)
  have H3 := hide (fun (W : World) (hz : Below w.heap.size w W) => barValid_any x A3 c3 W (h3.carry (hz.mono hB) (Nat.le_refl _)) (Nat.le_trans hB hz.size) hmk hd)
  have H4 := hide (fun (W : World) (hz : Below w.heap.size w W) => containsFuncBox_any A4 legs legs.length c4 282 (fun l => !boxOk l) W (h4.carry (Flat.carried _) (hz.mono hB) (Nat.le_refl _)) (Nat.le_trans hB hz.size) rfl (by omega) Tryz.call282 (fun y W' _ => endsBad_any y W'))
  have H5 := hide (fun (W : World) (hz : Below w.heap.size w W) => barLegs_ok x A3 c3 W (h3.carry (hz.mono hB) (Nat.le_refl _)) (Nat.le_trans hB hz.size) hmk hd hbar)
  have H6 := hide (fun (W : World) (hz : Below w.heap.size w W) => indexFuncBox_any A4 legs legs.length c4 283 alongX W (h4.carry (Flat.carried _) (hz.mono hB) (Nat.le_refl _)) (Nat.le_trans hB hz.size) rfl (by omega) Tryz.call283 (fun y W' _ => isMain_any y W'))
  have H7 := hide (fun (W : World) (hz : Below w.heap.size w W) (l : BoxD) (hlk : boxOk l = true) => poor_ok m A1 A2 n1 n2 c1 c2 l W (h1.carry (Flat.carried _) (hz.mono hB) (Nat.le_refl _)) (h2.carry (Flat.carried _) (hz.mono hB) (Nat.le_refl _)) (Nat.le_trans hB hz.size) hn1 hn2 (by unfold memOk at hmem; simp only [Bool.and_eq_true] at hmem; exact hmem.1.1.1.2) hlk)
  rw [hr] at H1
  rw [hmem] at H2
  rw [hbar] at H3
  have ha : someOf (fun l => !boxOk l) legs = false := by have q := all_some boxOk legs; rw [hl] at q; simpa using q.symm
  rw [ha] at H4
  have HG := hide (fun (W : World) (hz : Below w.heap.size w W) (k : Nat) (hk : k < legs.length) => BoxesAt.get (k := k) (h4.carry (Flat.carried _) (hz.mono hB) (Nat.le_refl _)) hk)
  have HBB := hide hB
  obtain ⟨n, hn⟩ : ∃ n, n = legs.length := ⟨_, rfl⟩
  have Hn := hide hn
  have hir := idx_range alongX legs
  have HE := hide (fun q : idx alongX legs < 0 => endsOf_none (r := r) (m := m) (size := x.size) q)
  have HS := hide (fun (k : Nat) (l : BoxD) (q : idx alongX legs = k) (q2 : legs[k]? = some l) => endsOf_some (r := r) (m := m) (size := x.size) q q2)
  obtain ⟨ix, hix⟩ : ∃ ix, ix = idx alongX legs := ⟨_, rfl⟩
  have Hix := hide hix
  rw [← hix] at H6 hir
  rw [← hn] at H4 H6 hir hll
  show Calls Tryz.prog 245 #[rlV r, memV m A1 n1 c1 A2 n2 c2, .agg #[.string x.mark, .int .i64 x.size, .int .i64 x.count, .int .i64 x.code, .slice A3 x.dims.length c3], .slice A4 legs.length c4] w _
  rw [← hn]
  rw [hlen, ← hn] at H5
  clear hn hix h1 h2 h3 h4 hB hn1 hn2 hnm hmk hmem hlen ha
  have KR := hide (((Blk.new w 32 #[.int .i64 r.num, .int .i64 r.den, .int .i64 r.poorNum, .int .i64 r.poorDen, .int .i64 r.bendNum, .int .i64 r.bendDen, .int .i64 r.lapNum, .int .i64 r.lapDen, .int .i64 r.least]).alloc (.cells #[.string m.name, .slice A1 n1 c1, .slice A2 n2 c2, .int .i64 m.cover, .int .i64 m.aggregate, .int .i64 m.poker] 26)).alloc (.cells #[.string x.mark, .int .i64 x.size, .int .i64 x.count, .int .i64 x.code, .slice A3 x.dims.length c3] 68))
  have KM := hide ((Blk.new1 w (.cells #[.int .i64 r.num, .int .i64 r.den, .int .i64 r.poorNum, .int .i64 r.poorDen, .int .i64 r.bendNum, .int .i64 r.bendDen, .int .i64 r.lapNum, .int .i64 r.lapDen, .int .i64 r.least] 32) 26 #[.string m.name, .slice A1 n1 c1, .slice A2 n2 c2, .int .i64 m.cover, .int .i64 m.aggregate, .int .i64 m.poker]).alloc (.cells #[.string x.mark, .int .i64 x.size, .int .i64 x.count, .int .i64 x.code, .slice A3 x.dims.length c3] 68))
  have KB := hide (Blk.new2 w (.cells #[.int .i64 r.num, .int .i64 r.den, .int .i64 r.poorNum, .int .i64 r.poorDen, .int .i64 r.bendNum, .int .i64 r.bendDen, .int .i64 r.lapNum, .int .i64 r.lapDen, .int .i64 r.least] 32) (.cells #[.string m.name, .slice A1 n1 c1, .slice A2 n2 c2, .int .i64 m.cover, .int .i64 m.aggregate, .int .i64 m.poker] 26) 68 #[.string x.mark, .int .i64 x.size, .int .i64 x.count, .int .i64 x.code, .slice A3 x.dims.length c3])
  have HW0 := below_new2 w (.cells #[.int .i64 r.num, .int .i64 r.den, .int .i64 r.poorNum, .int .i64 r.poorDen, .int .i64 r.bendNum, .int .i64 r.bendDen, .int .i64 r.lapNum, .int .i64 r.lapDen, .int .i64 r.least] 32) (.cells #[.string m.name, .slice A1 n1 c1, .slice A2 n2 c2, .int .i64 m.cover, .int .i64 m.aggregate, .int .i64 m.poker] 26)
  have HW := hide (HW0.alloc HW0.size (.cells #[.string x.mark, .int .i64 x.size, .int .i64 x.count, .int .i64 x.code, .slice A3 x.dims.length c3] 68))
  clear HW0
  go_enter Tryz.func245, Tryz.ntmps245
  go_wp2_with fail
  go_wp2_with (refine wpList_load_row_g (by rfl) 32 (.tmp 4) rfl w.heap.size rfl 32 _ (0, 0) _ KR.out Tryz.underlying32 rfl (by kernel_rfl) ?_)
  refine (H1.out _).mono ?_
  rintro e w1 ⟨rfl, hb⟩
  replace KR := hide (KR.out.keep hb)
  replace KM := hide (KM.out.keep hb)
  replace KB := hide (KB.out.keep hb)
  replace HW := hide (below_step HW.out hb (Nat.le_refl _))
  clear hb
  go_wp2_with (refine wpList_load_row_g (by rfl) 26 (.tmp 5) rfl (w.heap.size + 1) rfl 26 _ (0, 0) _ KM.out Tryz.underlying26 rfl (by kernel_rfl) ?_)
  refine (H2.out _ HW.out).mono ?_
  rintro e w2 ⟨rfl, hb⟩
  replace KR := hide (KR.out.keep hb)
  replace KM := hide (KM.out.keep hb)
  replace KB := hide (KB.out.keep hb)
  replace HW := hide (below_step HW.out hb (Nat.le_refl _))
  clear hb
  go_wp2_with (refine wpList_load_row_g (by rfl) 68 (.tmp 6) rfl (w.heap.size + 2) rfl 68 _ (0, 0) _ KB.out Tryz.underlying68 rfl (by kernel_rfl) ?_)
  refine (H3.out _ HW.out).mono ?_
  rintro e w3 ⟨rfl, hb⟩
  replace KR := hide (KR.out.keep hb)
  replace KM := hide (KM.out.keep hb)
  replace KB := hide (KB.out.keep hb)
  replace HW := hide (below_step HW.out hb (Nat.le_refl _))
  clear hb
  go_wp2_with fail
  refine (H4.out _ HW.out).mono ?_
  rintro e w4 ⟨rfl, hb⟩
  replace KR := hide (KR.out.keep hb)
  replace KM := hide (KM.out.keep hb)
  replace KB := hide (KB.out.keep hb)
  replace HW := hide (below_step HW.out hb (Nat.le_refl _))
  clear hb
  clear H1 H2 H3 H4
  go_wp2_with (refine wpList_load_row_g (by rfl) 68 (.tmp 6) rfl (w.heap.size + 2) rfl 68 _ (0, 0) _ KB.out Tryz.underlying68 rfl (by kernel_rfl) ?_)
  refine (H5.out _ HW.out).mono ?_
  rintro e w5 ⟨A5, c5, rfl, _, hb⟩
  replace KR := hide (KR.out.keep hb)
  replace KM := hide (KM.out.keep hb)
  replace KB := hide (KB.out.keep hb)
  replace HW := hide (below_step HW.out hb (Nat.le_refl _))
  clear hb
  clear H5
  go_wp2_with fail
  refine (H6.out _ HW.out).mono ?_
  rintro e w6 ⟨rfl, hb⟩
  replace KR := hide (KR.out.keep hb)
  replace KM := hide (KM.out.keep hb)
  replace KB := hide (KB.out.keep hb)
  replace HW := hide (below_step HW.out hb (Nat.le_refl _))
  clear hb
  clear H6
  by_cases hneg : ix < 0
  · have Hq := hide (HE.out (by rw [← Hix.out]; exact hneg))
    have d0 : decide (ix < 0) = true := by simpa using hneg
    go_wp2_with fail
    go_ret3
    exact ⟨by rw [Hq.out]; rfl, HW.out⟩
  obtain ⟨k, rfl⟩ : ∃ k : Nat, ix = k := ⟨ix.toNat, by omega⟩
  have hk : k < n := by omega
  obtain ⟨b, off, l, rfl, hbl, hlk, e0, e1, e2, e3, e4, e5⟩ := HG.out _ HW.out k (by rw [← Hn.out]; exact hk)
  have hlok : boxOk l = true := List.all_eq_true.1 hl l (mem_of_get hlk)
  have Hlk := hide hlk
  have d0 : decide ((k : Int) < 0) = false := by simp
  have HS1 := hide (HS.out k l Hix.out.symm hlk)
  have KR7 := hide ((KR.out.alloc (.cells #[.int .i64 l.lo.1, .int .i64 l.lo.2.1, .int .i64 l.lo.2.2, .int .i64 l.hi.1, .int .i64 l.hi.2.1, .int .i64 l.hi.2.2] 51)).alloc (.cells (endCells l fun _ => false) 333))
  have KM7 := hide ((KM.out.alloc (.cells #[.int .i64 l.lo.1, .int .i64 l.lo.2.1, .int .i64 l.lo.2.2, .int .i64 l.hi.1, .int .i64 l.hi.2.1, .int .i64 l.hi.2.2] 51)).alloc (.cells (endCells l fun _ => false) 333))
  have KB7 := hide ((KB.out.alloc (.cells #[.int .i64 l.lo.1, .int .i64 l.lo.2.1, .int .i64 l.lo.2.2, .int .i64 l.hi.1, .int .i64 l.hi.2.1, .int .i64 l.hi.2.2] 51)).alloc (.cells (endCells l fun _ => false) 333))
  have KL7 := hide ((Blk.new w6 51 #[.int .i64 l.lo.1, .int .i64 l.lo.2.1, .int .i64 l.lo.2.2, .int .i64 l.hi.1, .int .i64 l.hi.2.1, .int .i64 l.hi.2.2]).alloc (.cells (endCells l fun _ => false) 333))
  have KA7 := hide (Blk.new1 w6 (.cells #[.int .i64 l.lo.1, .int .i64 l.lo.2.1, .int .i64 l.lo.2.2, .int .i64 l.hi.1, .int .i64 l.hi.2.1, .int .i64 l.hi.2.2] 51) 333 (endCells l fun _ => false))
  have HW7 := hide ((HW.out.alloc HW.out.size (.cells #[.int .i64 l.lo.1, .int .i64 l.lo.2.1, .int .i64 l.lo.2.2, .int .i64 l.hi.1, .int .i64 l.hi.2.1, .int .i64 l.hi.2.2] 51)).alloc (le_alloc HW.out.size _) (.cells (endCells l fun _ => false) 333))
  have hs6 := HW.out.size
  have hs0 := KB.out.lt
  clear hlk KR KM KB HW
  go_upto_region 12 with fail
  have hsz7 : ((w6.alloc (.cells #[.int .i64 l.lo.1, .int .i64 l.lo.2.1, .int .i64 l.lo.2.2, .int .i64 l.hi.1, .int .i64 l.hi.2.1, .int .i64 l.hi.2.2] 51)).alloc (.cells (endCells l fun _ => false) 333)).heap.size = w6.heap.size + 2 := by simp
  obtain ⟨W7, hW7⟩ : ∃ W, W = (w6.alloc (.cells #[.int .i64 l.lo.1, .int .i64 l.lo.2.1, .int .i64 l.lo.2.2, .int .i64 l.hi.1, .int .i64 l.hi.2.1, .int .i64 l.hi.2.2] 51)).alloc (.cells (endCells l fun _ => false) 333) := ⟨_, rfl⟩
  rw [← hW7] at KR7 KM7 KB7 KL7 KA7 HW7 hsz7
  clear e0 e1 e2 e3 e4 e5
  have HI7 := hide (show ∀ wr, wr = ((w6.alloc (.cells #[.int .i64 l.lo.1, .int .i64 l.lo.2.1, .int .i64 l.lo.2.2, .int .i64 l.hi.1, .int .i64 l.hi.2.1, .int .i64 l.hi.2.2] 51)).alloc (.cells (endCells l fun _ => false) 333)) → (Hid (Blk wr (w6.heap.size + 1) 333 (endCells l (stgB legs l k 0 0))) ∧ Hid (Below (w6.heap.size + 1) W7 wr)) by
    rintro wr rfl
    rw [← hW7]
    refine ⟨hide ?_, hide (Below.refl _ _)⟩
    rw [show endCells l (stgB legs l k 0 0) = endCells l fun _ => false by rw [endCells, stgB_zero, stgB_zero]]
    exact KA7.out)
  clear hW7
  go_loopw [64] (fun iv wr => ∃ i : Nat, i ≤ 2 ∧ iv = .int .i64 i ∧ Hid (Blk wr (w6.heap.size + 1) 333 (endCells l (stgB legs l k i 0))) ∧ Hid (Below (w6.heap.size + 1) W7 wr)) (fun iv _ => 2 - (intOf iv).toNat)
  case atStart => exact ⟨0, by omega, rfl, HI7.out _ rfl⟩
  case round =>
    obtain ⟨i, hi, rfl, hKA, hb⟩ := hrel
    rename World => wr
    by_cases hlt : i < 2
    · have hs8 := hb.out.size
      have HWr := hide ((HW7.out.trans (hb.out.mono (by omega))))
      have KA1 := hide (hKA.out.alloc (.cells #[.int .i64 ((k : Int) - 1), .int .i64 ((k : Int) + 1)] 3))
      have KN := hide (Blk.new wr 3 #[.int .i64 ((k : Int) - 1), .int .i64 ((k : Int) + 1)])
      have lA := hKA.out.lt
      clear hKA
      go_upto_region 15 with fail
      clear HWr
      have HI8 := hide (show Hid (Blk (wr.alloc (.cells #[.int .i64 ((k : Int) - 1), .int .i64 ((k : Int) + 1)] 3)) (w6.heap.size + 1) 333 (endCells l (stgB legs l k i 0))) ∧ Hid (Blk (wr.alloc (.cells #[.int .i64 ((k : Int) - 1), .int .i64 ((k : Int) + 1)] 3)) wr.heap.size 3 #[.int .i64 ((k : Int) - 1), .int .i64 ((k : Int) + 1)]) ∧ Hid (Below (w6.heap.size + 1) W7 (wr.alloc (.cells #[.int .i64 ((k : Int) - 1), .int .i64 ((k : Int) + 1)] 3))) from ⟨KA1, KN, hide (hb.out.alloc (by omega) _)⟩)
      clear KA1 KN
      go_loopw [73] (fun iv wv => ∃ t : Nat, t ≤ 2 ∧ iv = .int .i64 t ∧ Hid (Blk wv (w6.heap.size + 1) 333 (endCells l (stgB legs l k i t))) ∧ Hid (Blk wv wr.heap.size 3 #[.int .i64 ((k : Int) - 1), .int .i64 ((k : Int) + 1)]) ∧ Hid (Below (w6.heap.size + 1) W7 wv)) (fun iv _ => 2 - (intOf iv).toNat)
      case atStart => exact ⟨0, by omega, rfl, HI8.out⟩
      case round =>
        obtain ⟨t, ht, rfl, hKA, hKN, hbv⟩ := hrel
        rename World => wv
        by_cases hlt2 : t < 2
        · obtain ⟨nv, hn1, hn2, hn3⟩ := nbrs_get k hlt2
          have f0 := hKN.out.cell t
          rw [hn2] at f0
          have lN := hKN.out.lt
          clear hn2
          have f1 := hide f0
          by_cases qn : nv < 0
          · have Hc := hide (stgB_none legs l (i := i) hn1 (touchB_neg qn))
            have d1 : decide (nv < 0) = true := by simpa using qn
            clear hn1
            go_wp2_with fail
            go_roundw
            case rel => exact ⟨t + 1, by omega, by go_num, hide (by rw [Hc.out]; exact hKA.out), hKN, hbv⟩
            case measure => simp [intOf]; omega
          have d1 : decide (nv < 0) = false := by simpa using qn
          by_cases qf : (n : Int) ≤ nv
          · have Hc := hide (stgB_none legs l (i := i) hn1 (touchB_far (by rw [← Hn.out]; exact qf)))
            have d2 : decide ((n : Int) ≤ nv) = true := by simpa using qf
            clear hn1
            go_wp2_with fail
            go_roundw
            case rel => exact ⟨t + 1, by omega, by go_num, hide (by rw [Hc.out]; exact hKA.out), hKN, hbv⟩
            case measure => simp [intOf]; omega
          have d2 : decide ((n : Int) ≤ nv) = false := by simpa using qf
          obtain ⟨v, rfl⟩ : ∃ v : Nat, nv = v := ⟨nv.toNat, by omega⟩
          have hv : v < n := by omega
          have HWv := HW7.out.trans (hbv.out.mono (show w.heap.size ≤ w6.heap.size + 1 by omega))
          obtain ⟨b9, off9, y, hA9, hb9, hy, g0, g1, g2, g3, g4, g5⟩ := HG.out wv HWv v (by rw [← Hn.out]; exact hv)
          obtain ⟨rfl, rfl⟩ : b9 = b ∧ off9 = off := by simpa [eq_comm] using hA9
          have hyok : boxOk y = true := List.all_eq_true.1 hl y (mem_of_get hy)
          have HC := hide (fun W => boxContains_ok y ⟨endPt l i, endPt l i⟩ W hyok (boxOk_end hlok i))
          have hT := touchB_at (p := endPt l i) hy
          rw [← hT] at HC
          have HN := hide (stgB_next legs l (i := i) hn1)
          obtain ⟨c0, c1', c2', c3'⟩ := endCells_get l (stgB legs l k i t) hlt
          have lb : b9 < wv.heap.size := Nat.lt_of_lt_of_le hb9 (Nat.le_trans HBB.out HWv.size)
          clear hT hyok hy hA9 hb9 hn1
          have lA := hKA.out.lt
          go_upto_region 18 with fail
          replace g0 := cell_regrown g0
          replace g1 := cell_regrown g1
          replace g2 := cell_regrown g2
          replace g3 := cell_regrown g3
          replace g4 := cell_regrown g4
          replace g5 := cell_regrown g5
          have p0 := cell_regrown ((hKA.out.cell (i * 4)).trans c0)
          have p1 := cell_regrown ((hKA.out.cell (i * 4 + 1)).trans c1')
          have p2 := cell_regrown ((hKA.out.cell (i * 4 + 2)).trans c2')
          refine wp_region_quiet_below (by kernel_rfl) (by kernel_rfl) ?_
          repeat (go_big_quiet_step (first
            | (go_at_call 284; with_reducible exact Calls.regrown_of (HC.out _))))
          refine wpQuiet_nil ?_
          intro wq9 hw'
          have hbq := hide (show Below wv.heap.size wv wq9 by obtain ⟨p9, rfl⟩ := hw'; exact below_regrown _ _ _)
          clear hw' g0 g1 g2 g3 g4 g5 p0 p1 p2 HC
          have KA9 := hide (hKA.out.keep hbq.out)
          have KN9 := hide ((hKN.out.keep hbq.out).far (p := ⟨w6.heap.size + 1, i * 4 + 3, none⟩) (show wr.heap.size ≠ w6.heap.size + 1 by omega) (.bool (stgB legs l k i (t + 1) i)))
          have HB9 := hide ((hbv.out.trans (hbq.out.mono (show w6.heap.size + 1 ≤ wv.heap.size by omega))).setCell (p := ⟨w6.heap.size + 1, i * 4 + 3, none⟩) (Nat.le_refl _) (.bool (stgB legs l k i (t + 1) i)))
          have KZ9 := hide (show Blk (wq9.setCell ⟨w6.heap.size + 1, i * 4 + 3, none⟩ (.bool (stgB legs l k i (t + 1) i))) (w6.heap.size + 1) 333 (endCells l (stgB legs l k i (t + 1))) by
            rw [← endCells_set l (stgB legs l k i t) (stgB legs l k i (t + 1)) hlt (fun j _ q => stgB_other legs l q)]
            exact KA9.out.set_ _ _)
          have c9 := (KA9.out.cell (i * 4 + 3)).trans c3'
          have z9 := KA9.out.frozen (i * 4 + 3)
          have l9 := KA9.out.lt
          clear c0 c1' c2' c3' hbq
          generalize stgB legs l k i (t + 1) i = q1 at *
          generalize stgB legs l k i t i = q0 at *
          generalize touchB legs (endPt l i) (v : Int) = q2 at *
          cases q0
          · have h9 : q2 = q1 := by rw [HN.out]; rfl
            subst h9
            go_wp2_with fail
            go_roundw
            case rel => exact ⟨t + 1, by omega, by go_num, KZ9, KN9, HB9⟩
            case measure => simp [intOf]; omega
          · have h9 : true = q1 := by rw [HN.out]; rfl
            subst h9
            go_wp2_with fail
            go_roundw
            case rel => exact ⟨t + 1, by omega, by go_num, KZ9, KN9, HB9⟩
            case measure => simp [intOf]; omega
        · obtain rfl : t = 2 := by omega
          have Hc := hide (show endCells l (stgB legs l k i 2) = endCells l (stgB legs l k (i + 1) 0) by rw [endCells, stgB_step, stgB_step])
          go_wp2_with fail
          go_roundw
          case rel => exact ⟨i + 1, by omega, by go_num, hide (by rw [← Hc.out]; exact hKA.out), hbv⟩
          case measure => simp [intOf]; omega
    · obtain rfl : i = 2 := by omega
      have HWr := hide (HW7.out.trans (hb.out.mono (show w.heap.size ≤ w6.heap.size + 1 by omega)))
      have KRr := hide (KR7.out.below hb.out (by omega))
      have KMr := hide (KM7.out.below hb.out (by omega))
      have KBr := hide (KB7.out.below hb.out (by omega))
      have KLr := hide (KL7.out.below hb.out (by omega))
      have hrg := rule_rng hr
      have hsz := endSize hbar
      have HL0 := hide (fun W => length_ok r x.size (poorB m l) (bentAt legs k l.lo) W hrg hsz.1 hsz.2)
      have HL1 := hide (fun W => length_ok r x.size (poorB m l) (bentAt legs k l.hi) W hrg hsz.1 hsz.2)
      have c3 := stgB_two legs l k 0 (by omega)
      have c7 := stgB_two legs l k 1 (by omega)
      rw [show endPt l 0 = l.lo from rfl] at c3
      rw [show endPt l 1 = l.hi from rfl] at c7
      clear hb KR7 KM7 KB7 KL7 KA7
      go_wp2_with (first
        | (refine wpList_load_row_g (by rfl) 26 (.tmp 5) rfl (w.heap.size + 1) rfl 26 _ (0, 0) _ KMr.out Tryz.underlying26 rfl (by kernel_rfl) ?_)
        | (refine wpList_load_row_g (by rfl) 51 (.tmp 14) rfl w6.heap.size rfl 51 _ (0, 0) _ KLr.out Tryz.underlying51 rfl (by kernel_rfl) ?_))
      refine (H7.out _ HWr.out l hlok).mono ?_
      rintro e w9 ⟨rfl, hb⟩
      have HW9 := hide (below_step HWr.out hb (Nat.le_refl _))
      have r0 := KRr.out.keep hb
      have b0 := KBr.out.keep hb
      have a0 := hKA.out.keep hb
      clear hb KRr KMr KBr KLr
      go_upto_region 23 with fail
      have e0 := cell_regrown (r0.cell 0)
      have e1 := cell_regrown (r0.cell 1)
      have e2 := cell_regrown (r0.cell 2)
      have e3 := cell_regrown (r0.cell 3)
      have e4 := cell_regrown (r0.cell 4)
      have e5 := cell_regrown (r0.cell 5)
      have e6 := cell_regrown (r0.cell 6)
      have e7 := cell_regrown (r0.cell 7)
      have e8 := cell_regrown (r0.cell 8)
      have f1 := cell_regrown (b0.cell 1)
      have g3 := cell_regrown (a0.cell 3)
      have g7 := cell_regrown (a0.cell 7)
      simp [c3, c7] at e0 e1 e2 e3 e4 e5 e6 e7 e8 f1 g3 g7
      generalize bentAt legs k l.lo = t0 at *
      generalize bentAt legs k l.hi = t1 at *
      refine wp_region_quiet_below (by kernel_rfl) (by kernel_rfl) ?_
      repeat (go_big_quiet_step (first
        | (go_at_call 286; first | with_reducible exact Calls.regrown_of (HL0.out _) | with_reducible exact Calls.regrown_of (HL1.out _))))
      refine wpQuiet_nil ?_
      intro wq9 hw'
      have hbq := hide (show Below w9.heap.size w9 wq9 by obtain ⟨p9, rfl⟩ := hw'; exact below_regrown _ _ _)
      clear hw'
      go_wp2_with fail
      go_ret3
      exact ⟨by rw [HS1.out]; rfl, below_step HW9.out hbq.out (Nat.le_refl _)⟩
end Go.Proofs.YtkmpddaobncheaaGreatDoor
namespace Go.Proofs.YtkmpddaobncheaaGreatDoor
open Go.RowKit

/-- What follows a laid bar. -/
def setF (f : Int → Option Int) (x y : Int) : Int → Option Int := fun z => if z = x then some y else f z
def nextF (l : List JoinD) : Int → Option Int := l.foldl (fun f j => setF f j.first j.second) (fun _ => none)
theorem nextF_snoc (l : List JoinD) (j : JoinD) : nextF (l ++ [j]) = setF (nextF l) j.first j.second := by simp [nextF]
def secondsOf (l : List JoinD) : List Int := (l.map (·.second)).reverse
theorem secondsOf_snoc (l : List JoinD) (j : JoinD) : secondsOf (l ++ [j]) = j.second :: secondsOf l := by simp [secondsOf]
theorem fold_next : ∀ (l : List JoinD) (f : Int → Option Int) {i k : Int}, l.foldl (fun f j => setF f j.first j.second) f i = some k → (∃ j ∈ l, j.first = i ∧ j.second = k) ∨ f i = some k := by
  intro l
  induction l with
  | nil => intro f i k h; exact .inr h
  | cons y l ih =>
    intro f i k h
    rcases ih _ h with ⟨j, hj, h1, h2⟩ | h
    · exact .inl ⟨j, List.mem_cons_of_mem _ hj, h1, h2⟩
    · replace h : (if i = y.first then some y.second else f i) = some k := h
      split at h
      · rename_i q
        injection h with h
        exact .inl ⟨y, by simp, q.symm, h⟩
      · exact .inr h
theorem nextF_mem {l : List JoinD} {i k : Int} (h : nextF l i = some k) : ∃ j ∈ l, j.first = i ∧ j.second = k := by
  rcases fold_next l _ h with h | h
  · exact h
  · cases h
/-- How many main legs begin behind a place. -/
def loOf (ms : List MainD) (i : Int) : Int := (mainAt ms i).leg.lo.1
def rankOf (ms : List MainD) (v : Int) : Nat := ms.countP fun m => decide (v < m.leg.lo.1)
theorem rank_cons (m : MainD) (ms : List MainD) (z : Int) : rankOf (m :: ms) z = rankOf ms z + (if z < m.leg.lo.1 then 1 else 0) := by
  rw [rankOf, List.countP_cons]
  simp [rankOf]
theorem rank_le (ms : List MainD) (v : Int) : rankOf ms v ≤ ms.length := List.countP_le_length
theorem rank_mono : ∀ (ms : List MainD) {v u : Int}, v ≤ u → rankOf ms u ≤ rankOf ms v := by
  intro ms
  induction ms with
  | nil => intro v u _; exact Nat.le_refl _
  | cons m ms ih =>
    intro v u h
    have := ih h
    rw [rank_cons, rank_cons]
    split <;> split <;> omega
theorem rank_less : ∀ (ms : List MainD) {v u : Int}, v < u → (∃ m ∈ ms, m.leg.lo.1 = u) → rankOf ms u < rankOf ms v := by
  intro ms
  induction ms with
  | nil => intro v u _ h; obtain ⟨m, hm, _⟩ := h; cases hm
  | cons m ms ih =>
    intro v u hv h
    have hmono := rank_mono ms (Int.le_of_lt hv)
    rw [rank_cons, rank_cons]
    obtain ⟨y, hy, hu⟩ := h
    rcases List.mem_cons.1 hy with rfl | hy
    · rw [if_neg (by omega), if_pos (by omega)]
      omega
    · have := ih hv ⟨y, hy, hu⟩
      split <;> split <;> omega
theorem mainsOf_len (x : DetD) : (mainsOf x).length = (laidAll x.bars x.runs).length := List.length_map ..
theorem next_up {x : DetD} (h : detOk x = true) {i k : Int} (hn : nextF x.laps i = some k) :
    0 ≤ i ∧ i < ((mainsOf x).length : Int) ∧ 0 ≤ k ∧ k < ((mainsOf x).length : Int) ∧ rankOf (mainsOf x) (loOf (mainsOf x) k) < rankOf (mainsOf x) (loOf (mainsOf x) i) := by
  obtain ⟨j, hj, rfl, rfl⟩ := nextF_mem hn
  have hf := lapsFrom_mem _ _ _ (detOk_laps h) j hj
  have hf2 : jointOk (mainsOf x) j = true := by rw [jointOk, mainsOf, mains_opt]; exact hf
  have hr := lapsFit_range hf
  rw [List.length_map, ← mainsOf_len] at hr
  clear hf hj hn
  obtain ⟨f, s⟩ := j
  simp only at hr
  obtain ⟨p, rfl⟩ := Int.eq_ofNat_of_zero_le hr.1
  obtain ⟨q, rfl⟩ := Int.eq_ofNat_of_zero_le hr.2.2.1
  have hp2 : p < (mainsOf x).length := by omega
  have hq2 : q < (mainsOf x).length := by omega
  have ha : (mainsOf x)[p]? = some (mainsOf x)[p] := List.getElem?_eq_getElem hp2
  have hb : (mainsOf x)[q]? = some (mainsOf x)[q] := List.getElem?_eq_getElem hq2
  rw [jointOk_in ha hb] at hf2
  simp only [Bool.and_eq_true, decide_eq_true_eq] at hf2
  have ea : loOf (mainsOf x) (p : Int) = (mainsOf x)[p].leg.lo.1 := by rw [loOf, mainAt, Int.toNat_natCast, List.getD_eq_getElem?_getD, ha]; rfl
  have eb : loOf (mainsOf x) (q : Int) = (mainsOf x)[q].leg.lo.1 := by rw [loOf, mainAt, Int.toNat_natCast, List.getD_eq_getElem?_getD, hb]; rfl
  show 0 ≤ (p : Int) ∧ (p : Int) < ((mainsOf x).length : Int) ∧ 0 ≤ (q : Int) ∧ (q : Int) < ((mainsOf x).length : Int) ∧ rankOf (mainsOf x) (loOf (mainsOf x) (q : Int)) < rankOf (mainsOf x) (loOf (mainsOf x) (p : Int))
  refine ⟨by omega, by omega, by omega, by omega, ?_⟩
  rw [ea, eb]
  exact rank_less _ hf2.1.1.2 ⟨_, List.getElem_mem hq2, rfl⟩
/-- The chain from a laid bar on. -/
def followF (f : Int → Option Int) : Nat → Int → List Int
  | 0, _ => []
  | n + 1, i => i :: (match f i with | none => [] | some k => followF f n k)
def restF (f : Int → Option Int) (n : Nat) : Option Int → List Int
  | none => []
  | some k => followF f n k
theorem followF_succ (f : Int → Option Int) (n : Nat) (i : Int) : followF f (n + 1) i = i :: restF f n (f i) := by
  rw [followF]
  cases f i <;> rfl
theorem followF_len (f : Int → Option Int) : ∀ (n : Nat) (i : Int), (followF f n i).length ≤ n := by
  intro n
  induction n with
  | zero => intro i; exact Nat.le_refl _
  | succ n ih =>
    intro i
    rw [followF_succ, List.length_cons]
    cases h : f i with
    | none => exact Nat.succ_le_succ (Nat.zero_le _)
    | some k => exact Nat.succ_le_succ (ih k)
theorem followF_in {f : Int → Option Int} {N : Nat} (hf : ∀ i k, f i = some k → 0 ≤ k ∧ k < (N : Int)) : ∀ (n : Nat) (i : Int), 0 ≤ i → i < (N : Int) → ∀ z ∈ followF f n i, 0 ≤ z ∧ z < (N : Int) := by
  intro n
  induction n with
  | zero => intro i _ _ z hz; cases hz
  | succ n ih =>
    intro i h0 h1 z hz
    rw [followF_succ] at hz
    rcases List.mem_cons.1 hz with rfl | hz
    · exact ⟨h0, h1⟩
    · cases h : f i with
      | none => rw [h] at hz; cases hz
      | some k =>
        rw [h] at hz
        obtain ⟨a, b⟩ := hf i k h
        exact ih k a b z hz
def headB (x : DetD) (i : Nat) : Bool := !(secondsOf x.laps).contains (i : Int)
def chainAt (x : DetD) (i : Nat) : List Int := followF (nextF x.laps) ((mainsOf x).length + 1) i
def chainsTo (x : DetD) (k : Nat) : List (List Int) := ((List.range k).filter (headB x)).map (chainAt x)
def chainsOf (x : DetD) : List (List Int) := chainsTo x (mainsOf x).length
theorem chainsTo_succ (x : DetD) (k : Nat) : chainsTo x (k + 1) = chainsTo x k ++ (if headB x k then [chainAt x k] else []) := by
  rw [chainsTo, List.range_succ, List.filter_append, List.map_append, chainsTo]
  cases h : headB x k <;> simp [h]
theorem chainsTo_len (x : DetD) (k : Nat) : (chainsTo x k).length ≤ k := by
  rw [chainsTo, List.length_map]
  exact Nat.le_trans (List.length_filter_le _ _) (by simp)
theorem chainsOf_mem {x : DetD} (h : detOk x = true) {c : List Int} (hc : c ∈ chainsOf x) : 0 < c.length ∧ c.length ≤ (mainsOf x).length + 1 ∧ ∀ z ∈ c, 0 ≤ z ∧ z < ((mainsOf x).length : Int) := by
  rw [chainsOf, chainsTo, List.mem_map] at hc
  obtain ⟨i, hi, rfl⟩ := hc
  have hi2 := List.mem_range.1 (List.mem_filter.1 hi).1
  refine ⟨?_, followF_len _ _ _, followF_in (fun i k hk => ⟨(next_up h hk).2.2.1, (next_up h hk).2.2.2.1⟩) _ _ (by omega) (by omega)⟩
  rw [chainAt, followF_succ]
  simp
/-- Laid bars and their main legs. -/
def rodMain (ld : LaidD) : Int := idx alongX (legsOfPts ld.pts)
def noBox : BoxD := ⟨(0, 0, 0), (0, 0, 0)⟩
def rodLeg (ld : LaidD) : BoxD := ((legsOfPts ld.pts)[(rodMain ld).toNat]?).getD noBox
def noLaid : LaidD := ⟨⟨.empty, 0, 0, 0, []⟩, []⟩
def laidAt (L : List LaidD) (i : Int) : LaidD := L.getD i.toNat noLaid
theorem laidAt_get {L : List LaidD} {i : Nat} {ld : LaidD} (h : L[i]? = some ld) : laidAt L (i : Int) = ld := by
  rw [laidAt, Int.toNat_natCast, List.getD_eq_getElem?_getD, h]
  rfl
theorem rodLeg_get {ld : LaidD} (h : 0 ≤ rodMain ld) : (legsOfPts ld.pts)[(rodMain ld).toNat]? = some (rodLeg ld) := by
  have hr := idx_range alongX (legsOfPts ld.pts)
  have hl : (rodMain ld).toNat < (legsOfPts ld.pts).length := by
    have : rodMain ld < ((legsOfPts ld.pts).length : Int) := hr.2
    omega
  rw [rodLeg, List.getElem?_eq_getElem hl]
  rfl
/-- A chain: its bars, its anchored span, its area. -/
structure ChnD where
  bars : List Int
  lo : Int
  hi : Int
  is : Bool
  area : Int
def sizeAt (L : List LaidD) (i : Int) : Int := (laidAt L i).bar.size
def lessF (key : Int → Int) (m y : Int) : Int := if key y < key m then y else m
def minF (key : Int → Int) : List Int → Int
  | [] => 0
  | a :: l => l.foldl (lessF key) a
def thinOf (L : List LaidD) (c : List Int) : Int := minF (sizeAt L) c
def endLo (x : DetD) (ld : LaidD) : Int := (rodLeg ld).lo.1 + (endsOf x.rule x.mem ld.bar.size (legsOfPts ld.pts)).1
def endHi (x : DetD) (ld : LaidD) : Int := (rodLeg ld).hi.1 - (endsOf x.rule x.mem ld.bar.size (legsOfPts ld.pts)).2.1
def spannedB (x : DetD) (a b : LaidD) : Bool := decide (0 ≤ rodMain a) && decide (0 ≤ rodMain b) && decide (endLo x a < endHi x b)
def chnTo (x : DetD) (c : List Int) (a b : LaidD) (area : Int) : ChnD := if spannedB x a b then ⟨c, endLo x a, endHi x b, true, area⟩ else ⟨c, 0, 0, false, area⟩
def chnOf (x : DetD) (L : List LaidD) (c : List Int) : ChnD := chnTo x c (laidAt L (c.headD 0)) (laidAt L (c.getLastD 0)) (areaOf (sizeAt L (thinOf L c)))
def chnsOf (x : DetD) : List ChnD := (chainsOf x).map (chnOf x (laidAll x.bars x.runs))
theorem minF_mem (key : Int → Int) : ∀ (l : List Int) (a : Int), l.foldl (lessF key) a = a ∨ l.foldl (lessF key) a ∈ l := by
  intro l
  induction l with
  | nil => intro a; exact .inl rfl
  | cons y l ih =>
    intro a
    rw [List.foldl_cons]
    rcases ih (lessF key a y) with h | h
    · rw [h, lessF]
      split
      · exact .inr (by simp)
      · exact .inl rfl
    · exact .inr (List.mem_cons_of_mem _ h)
theorem minF_in (key : Int → Int) {c : List Int} (h : 0 < c.length) : minF key c ∈ c := by
  cases c with
  | nil => simp at h
  | cons a l =>
    rw [minF]
    rcases minF_mem key l a with h | h
    · rw [h]; simp
    · exact List.mem_cons_of_mem _ h
/-- What supplies a demand. -/
def outB (d : DemD) (L : List LaidD) (i : Int) : Bool := decide (rodMain (laidAt L i) < 0) || !inZone d (rodLeg (laidAt L i))
def supB (d : DemD) (L : List LaidD) (c : ChnD) : Bool := c.is && !(someOf (outB d L) c.bars)
def supOf (x : DetD) (d : DemD) : List ChnD := (chnsOf x).filter (supB d (laidAll x.bars x.runs))
def overB (p : Int) (c : ChnD) : Bool := decide (c.lo ≤ p) && decide (p < c.hi)
def valStep (p n : Int) (c : ChnD) : Int := if overB p c then IntKind.i64.wrap (n + c.area) else n
def valueOf (l : List ChnD) (p : Int) : Int := l.foldl (valStep p) 0
def endsIn (c : ChnD) : List Int := [c.lo, c.hi]
def spotsOf (l : List ChnD) : List Int := l.flatMap endsIn
def sortC (l : List Int) : List Int := Lib.compact (l.mergeSort fun x y => decide (x ≤ y))
def stepsUp (v : Int → Int) : Int → List Int → List (Int × Int)
  | _, [] => []
  | last, p :: r => if v p = last then stepsUp v last r else (p, v p) :: stepsUp v (v p) r
def rawOf (x : DetD) (d : DemD) : List (Int × Int) := stepsUp (valueOf (supOf x d)) 0 (sortC (spotsOf (supOf x d)))
def supErr (x : DetD) (d : DemD) : Int := if 200 < (rawOf x d).length then 4 else if stepsOk (rawOf x d) then 0 else 1
def supSteps (x : DetD) (d : DemD) : List (Int × Int) := if supErr x d = 0 then shortFrom 0 (rawOf x d) else []
theorem stepsUp_at (v : Int → Int) {l : List Int} {k : Nat} {p : Int} (h : l[k]? = some p) (last : Int) : stepsUp v last (l.drop k) = if v p = last then stepsUp v last (l.drop (k + 1)) else (p, v p) :: stepsUp v (v p) (l.drop (k + 1)) := by
  rw [drop_at' h, stepsUp]
theorem sortC_len (l : List Int) : (sortC l).length ≤ l.length := by
  refine Nat.le_trans (Lib.compact_length_le _) ?_
  rw [List.length_mergeSort]
  exact Nat.le_refl _
theorem spotsOf_len (l : List ChnD) : (spotsOf l).length = 2 * l.length := by
  induction l with
  | nil => rfl
  | cons c l ih => rw [spotsOf, List.flatMap_cons, List.length_append, List.length_cons]; rw [spotsOf] at ih; rw [ih]; simp [endsIn]; omega
theorem supOf_len (x : DetD) (d : DemD) : (supOf x d).length ≤ (mainsOf x).length := by
  refine Nat.le_trans (List.length_filter_le _ _) ?_
  rw [chnsOf, List.length_map]
  exact chainsTo_len x _
theorem steps_cons (o : Option Int) (s : Int × Int) (r : List (Int × Int)) : stepsFrom o (s :: r) = (coordOk s.1 && within s.2 0 1099511627776 && (match o with | none => true | some p => decide (p < s.1)) && stepsFrom (some s.1) r) := by
  cases o <;> rfl
/-- Short steps are steps. -/
theorem shortFrom_from : ∀ (l : List (Int × Int)) (last : Int) (o q : Option Int), stepsFrom o l = true → (∀ p, q = some p → ∃ r, o = some r ∧ p ≤ r) → stepsFrom q (shortFrom last l) = true := by
  intro l
  induction l with
  | nil => intro _ _ _ _ _; rfl
  | cons s l ih =>
    intro last o q h hq
    rw [steps_cons] at h
    simp only [Bool.and_eq_true] at h
    obtain ⟨⟨⟨h1, h2⟩, h3⟩, h4⟩ := h
    rw [shortFrom]
    split
    · refine ih _ _ _ h4 (fun p hp => ⟨s.1, rfl, ?_⟩)
      obtain ⟨r, hr, hpr⟩ := hq p hp
      subst hr
      simp only [decide_eq_true_eq] at h3
      omega
    · rw [steps_cons]
      simp only [Bool.and_eq_true]
      refine ⟨⟨⟨h1, h2⟩, ?_⟩, ih _ _ _ h4 (fun p hp => ⟨s.1, rfl, by injection hp with hp; omega⟩)⟩
      cases q with
      | none => rfl
      | some p =>
        obtain ⟨r, hr, hpr⟩ := hq p rfl
        subst hr
        simp only [decide_eq_true_eq] at h3 ⊢
        omega
theorem shortFrom_len : ∀ (l : List (Int × Int)) (last : Int), (shortFrom last l).length ≤ l.length := by
  intro l
  induction l with
  | nil => intro _; exact Nat.le_refl _
  | cons s l ih =>
    intro last
    rw [shortFrom]
    split
    · exact Nat.le_succ_of_le (ih _)
    · exact Nat.succ_le_succ (ih _)
theorem shortFrom_ok {l : List (Int × Int)} (h : stepsOk l = true) : stepsOk (shortFrom 0 l) = true := by
  rw [stepsOk, Bool.and_eq_true, decide_eq_true_eq] at h ⊢
  exact ⟨Nat.le_trans (shortFrom_len l 0) h.1, shortFrom_from l 0 none none h.2 (fun p hp => by cases hp)⟩
theorem supSteps_ok (x : DetD) (d : DemD) : stepsOk (supSteps x d) = true := by
  unfold supSteps
  split
  · rename_i h
    unfold supErr at h
    split at h
    · cases h
    · split at h
      · rename_i _ q; exact shortFrom_ok q
      · cases h
  · rfl
/-- Where supply and demand are cut into parts, and where the supply is short. -/
def marksOf (s t : List (Int × Int)) : List Int := sortC (((s ++ t).map (·.1)).filter coordOk)
def failAt (s t : List (Int × Int)) (p : Int) : Bool := decide (stepAt s p < stepAt t p)
def failsB (s t : List (Int × Int)) : Bool := (marksOf s t).any (failAt s t)
def shortB (x : DetD) (d : DemD) : Bool := failsB (supSteps x d) d.steps
def errFrom (x : DetD) : List DemD → Int
  | [] => 0
  | d :: r => if supErr x d = 0 then errFrom x r else supErr x d
def shortErr (x : DetD) : Int := errFrom x x.dems
def shortOne (d : DemD) : FinD := ⟨1, d.name⟩
def shortFinsOf (x : DetD) (l : List DemD) : List FinD := (l.filter (shortB x)).map shortOne
def shortRes (x : DetD) : List FinD := if shortErr x = 0 then shortFinsOf x x.dems else []
theorem secFins_snoc (x : DetD) (l : List DemD) (d : DemD) : shortFinsOf x (l ++ [d]) = shortFinsOf x l ++ (if shortB x d then [shortOne d] else []) := by
  rw [shortFinsOf, List.filter_append, List.map_append, shortFinsOf]
  cases h : shortB x d <;> simp [h]
theorem secFins_len (x : DetD) (l : List DemD) : (shortFinsOf x l).length ≤ l.length := by
  rw [shortFinsOf, List.length_map]
  exact List.length_filter_le _ _
theorem errFrom_at (x : DetD) {l : List DemD} {k : Nat} {d : DemD} (h : l[k]? = some d) : errFrom x (l.drop k) = if supErr x d = 0 then errFrom x (l.drop (k + 1)) else supErr x d := by
  rw [drop_at' h, errFrom]
end Go.Proofs.YtkmpddaobncheaaGreatDoor
namespace Go.Proofs.YtkmpddaobncheaaGreatDoor
open Go.RowKit

/-- A block of the call's own that begins with these cells. -/
def RowB (w : World) (t : TypeId) (A : Option Addr) (vals : List Value) : Prop :=
  0 < vals.length → ∃ g cs, A = some ⟨g, 0, none⟩ ∧ Blk w g t cs ∧ ∀ (j : Nat) (u : Value), vals[j]? = some u → cs[j]? = some u
section
variable {α : Type} {w w' : World} {t : TypeId} {A : Option Addr} {vals : List Value} {size : Nat} {enc : α → List Value} {l : List α}
theorem RowB.keep (h : RowB w t A vals) (hk : ∀ g cs, Blk w g t cs → Blk w' g t cs) : RowB w' t A vals := by
  intro hl
  obtain ⟨g, cs, h1, h2, h3⟩ := h hl
  exact ⟨g, cs, h1, hk g cs h2, h3⟩
theorem RowB.below (h : RowB w t A vals) (hb : Below w.heap.size w w') : RowB w' t A vals := h.keep fun _ _ q => q.keep hb
theorem RowB.alloc (h : RowB w t A vals) (o : Obj) : RowB (w.alloc o) t A vals := h.keep fun _ _ q => q.alloc o
theorem RowB.sl (he : ∀ x, (enc x).length = size) (hs : 0 < size) (h : RowB w t A (l.flatMap enc)) : SlOf w w.heap.size size (Flat enc) A l := by
  intro hl
  have hf : 0 < (l.flatMap enc).length := by rw [flatMap_len he]; exact Nat.mul_pos hl hs
  obtain ⟨g, cs, rfl, h2, h3⟩ := h hf
  exact blk_sl he h2 h3 h2.lt hl
theorem RowB.of_row {base n c : Nat} (h : Row w base t size enc (.slice A n c) l) : RowB w t A (l.flatMap enc) := by
  intro hf
  have hl : 0 < l.length := by
    cases l with
    | nil => simp at hf
    | cons a r => simp
  obtain ⟨g, cs, h1, _, h2, h3⟩ := row_blk h hl
  exact ⟨g, cs, h1, h2, h3⟩
/-- The same cells, read as what they stand for. -/
theorem SlOf.read_as {β : Type} {B : Nat} {R : World → Nat → List Value → β → Prop} (f : α → β) (h : SlOf w B size (Flat enc) A l) (hR : ∀ s ∈ l, R w B (enc s) (f s)) : SlOf w B size R A (l.map f) := by
  intro hl
  rw [List.length_map] at hl
  obtain ⟨b, off, h1, h2, h3⟩ := h hl
  refine ⟨b, off, h1, h2, fun k x hx => ?_⟩
  rw [List.getElem?_map] at hx
  cases hs : l[k]? with
  | none => rw [hs] at hx; cases hx
  | some s =>
    rw [hs] at hx
    injection hx with hx
    subst hx
    obtain ⟨vs, q1, q2, q3⟩ := h3 k s hs
    have q2' : vs = enc s := q2
    subst q2'
    exact ⟨_, q1, hR s (mem_of_get hs), q3⟩
end
/-- A laid bar: its line of the schedule, its legs, its main leg. -/
def encRod7 (ld : LaidD) (da : Option Addr) (dc : Nat) (la : Option Addr) (lc : Nat) : List Value :=
  [.string ld.bar.mark, .int .i64 ld.bar.size, .int .i64 ld.bar.count, .int .i64 ld.bar.code, .slice da ld.bar.dims.length dc, .slice la (legsOfPts ld.pts).length lc, .int .i64 (rodMain ld)]
def rodR : World → Nat → List Value → LaidD → Prop := fun w B vs ld => ∃ da dc la lc, vs = encRod7 ld da dc la lc ∧ Ints w B da ld.bar.dims ∧ BoxesAt w B la (legsOfPts ld.pts)
theorem rodR_carried : Carried rodR := fun _ _ _ _ _ _ hb hB ⟨da, dc, la, lc, h, h1, h2⟩ => ⟨da, dc, la, lc, h, h1.carry hb hB, h2.carry (Flat.carried _) hb hB⟩
abbrev RodsW (w : World) (B : Nat) (A : Option Addr) (l : List LaidD) : Prop := SlOf w B 7 rodR A l
theorem RodsW.get {w : World} {B : Nat} {A : Option Addr} {l : List LaidD} (h : RodsW w B A l) {k : Nat} (hk : k < l.length) :
    ∃ b off ld da dc la lc, A = some ⟨b, off, none⟩ ∧ b < B ∧ l[k]? = some ld ∧ Ints w B da ld.bar.dims ∧ BoxesAt w B la (legsOfPts ld.pts) ∧
      ∀ j v, (encRod7 ld da dc la lc)[j]? = some v → w.cell? ⟨b, off + k * 7 + j, none⟩ = some v := by
  obtain ⟨b, off, x, vs, hA, hb, hx, _, ⟨da, dc, la, lc, rfl, h1, h2⟩, hc⟩ := h.at_ hk
  exact ⟨b, off, x, da, dc, la, lc, hA, hb, hx, h1, h2, hc⟩
structure RodX where
  ld : LaidD
  da : Option Addr
  dc : Nat
  la : Option Addr
  lc : Nat
def encRodX (s : RodX) : List Value := encRod7 s.ld s.da s.dc s.la s.lc
theorem encRodX_len (s : RodX) : (encRodX s).length = 7 := rfl
theorem encRodX_one (s : RodX) : ∀ u ∈ encRodX s, u.oneCell' = true := by
  intro u hu
  simp only [encRodX, encRod7, List.mem_cons, List.not_mem_nil, or_false] at hu
  rcases hu with rfl | rfl | rfl | rfl | rfl | rfl | rfl <;> rfl
/-- Lists of whole numbers. -/
def intsR : World → Nat → List Value → List Int → Prop := fun w B vs l => ∃ A c, vs = [.slice A l.length c] ∧ Ints w B A l
theorem intsR_carried : Carried intsR := fun _ _ _ _ _ _ hb hB ⟨A, c, h, h1⟩ => ⟨A, c, h, h1.carry hb hB⟩
abbrev IntLs (w : World) (B : Nat) (A : Option Addr) (l : List (List Int)) : Prop := SlOf w B 1 intsR A l
theorem IntLs.get {w : World} {B : Nat} {A : Option Addr} {l : List (List Int)} (h : IntLs w B A l) {k : Nat} (hk : k < l.length) :
    ∃ b off x A' c', A = some ⟨b, off, none⟩ ∧ b < B ∧ l[k]? = some x ∧ Ints w B A' x ∧ w.cell? ⟨b, off + k, none⟩ = some (.slice A' x.length c') := by
  obtain ⟨b, off, x, vs, hA, hb, hx, _, ⟨A', c', rfl, h1⟩, hc⟩ := h.at_ hk
  have := hc 0 _ rfl
  simp at this
  exact ⟨b, off, x, A', c', hA, hb, hx, h1, this⟩
structure IntsX where
  l : List Int
  A : Option Addr
  c : Nat
def encIntsX (s : IntsX) : List Value := [.slice s.A s.l.length s.c]
theorem encIntsX_len (s : IntsX) : (encIntsX s).length = 1 := rfl
theorem encIntsX_one (s : IntsX) : ∀ u ∈ encIntsX s, u.oneCell' = true := by
  intro u hu
  simp only [encIntsX, List.mem_cons, List.not_mem_nil, or_false] at hu
  rcases hu with rfl
  rfl
/-- Chains. -/
def encChn5 (x : ChnD) (A : Option Addr) (c : Nat) : List Value := [.slice A x.bars.length c, .int .i64 x.lo, .int .i64 x.hi, .bool x.is, .int .i64 x.area]
def chnR : World → Nat → List Value → ChnD → Prop := fun w B vs x => ∃ A c, vs = encChn5 x A c ∧ Ints w B A x.bars
theorem chnR_carried : Carried chnR := fun _ _ _ _ _ _ hb hB ⟨A, c, h, h1⟩ => ⟨A, c, h, h1.carry hb hB⟩
abbrev ChnsW (w : World) (B : Nat) (A : Option Addr) (l : List ChnD) : Prop := SlOf w B 5 chnR A l
theorem ChnsW.get {w : World} {B : Nat} {A : Option Addr} {l : List ChnD} (h : ChnsW w B A l) {k : Nat} (hk : k < l.length) :
    ∃ b off x A' c', A = some ⟨b, off, none⟩ ∧ b < B ∧ l[k]? = some x ∧ Ints w B A' x.bars ∧ ∀ j v, (encChn5 x A' c')[j]? = some v → w.cell? ⟨b, off + k * 5 + j, none⟩ = some v := by
  obtain ⟨b, off, x, vs, hA, hb, hx, _, ⟨A', c', rfl, h1⟩, hc⟩ := h.at_ hk
  exact ⟨b, off, x, A', c', hA, hb, hx, h1, hc⟩
structure ChnX where
  ch : ChnD
  A : Option Addr
  c : Nat
def encChnX (s : ChnX) : List Value := encChn5 s.ch s.A s.c
theorem encChnX_len (s : ChnX) : (encChnX s).length = 5 := rfl
theorem encChnX_one (s : ChnX) : ∀ u ∈ encChnX s, u.oneCell' = true := by
  intro u hu
  simp only [encChnX, encChn5, List.mem_cons, List.not_mem_nil, or_false] at hu
  rcases hu with rfl | rfl | rfl | rfl | rfl <;> rfl
/-- Parts of all places. -/
structure PrtD where
  lo : Int
  hi : Int
  there : Int
  wants : Int
def encPrt (p : PrtD) : List Value := [.int .i64 p.lo, .int .i64 p.hi, .int .i64 p.there, .int .i64 p.wants]
theorem encPrt_len (p : PrtD) : (encPrt p).length = 4 := rfl
theorem encPrt_one (p : PrtD) : ∀ u ∈ encPrt p, u.oneCell' = true := by
  intro u hu
  simp only [encPrt, List.mem_cons, List.not_mem_nil, or_false] at hu
  rcases hu with rfl | rfl | rfl | rfl <;> rfl
abbrev PrtsAt (w : World) (B : Nat) (A : Option Addr) (l : List PrtD) : Prop := SlOf w B 4 (Flat encPrt) A l
theorem PrtsAt.get {w : World} {B : Nat} {A : Option Addr} {l : List PrtD} (h : PrtsAt w B A l) {k : Nat} (hk : k < l.length) :
    ∃ b off x, A = some ⟨b, off, none⟩ ∧ b < B ∧ l[k]? = some x ∧ ∀ j v, (encPrt x)[j]? = some v → w.cell? ⟨b, off + k * 4 + j, none⟩ = some v := by
  obtain ⟨b, off, x, vs, hA, hb, hx, _, hr, hc⟩ := h.at_ hk
  have hr' : vs = encPrt x := hr
  subst hr'
  exact ⟨b, off, x, hA, hb, hx, hc⟩
def lowB (p : PrtD) : Bool := decide (p.there < p.wants)
/-- The last of a row stored anew. -/
theorem row_last {w : World} {base c g : Nat} {e : TypeId} {l : List (Int × Int)} {a : Int × Int} (h : Row w base e 2 encStp (.slice (some ⟨g, 0, none⟩) (l.length + 1) c) (l ++ [a])) (y : Int) :
    Row (w.setCell ⟨g, l.length * 2 + 1, none⟩ (.int .i64 y)) base e 2 encStp (.slice (some ⟨g, 0, none⟩) (l.length + 1) c) (l ++ [(a.1, y)]) := by
  have hl : (l ++ [a]).length = l.length + 1 := by simp
  have hl2 : (l ++ [(a.1, y)]).length = l.length + 1 := by simp
  unfold Row at h ⊢
  rw [hl] at h
  have h2 := (h.stored (l.length * 2 + 1) (.int .i64 y)).1
  have hf : (l.flatMap encStp).length = l.length * 2 := flatMap_len encStp_len l
  have e1 : ((l ++ [a]).flatMap encStp).set (l.length * 2 + 1) (.int .i64 y) = (l ++ [(a.1, y)]).flatMap encStp := by
    rw [List.flatMap_append, List.flatMap_append, List.set_append_right _ _ (by omega), hf, show l.length * 2 + 1 - l.length * 2 = 1 by omega]
    rfl
  rw [hl2, ← e1]
  exact h2
end Go.Proofs.YtkmpddaobncheaaGreatDoor
namespace Go.Proofs.YtkmpddaobncheaaGreatDoor
open Go.RowKit

structure RodOk (x : DetD) (ld : LaidD) : Prop where
  line : ∃ j : Nat, idx (markIs ld.bar.mark) x.bars = (j : Int) ∧ x.bars[j]? = some ld.bar
  bar : barOk ld.bar = true
  size : isSize ld.bar.size = true
  lens : (legLens ld.bar).length = (legsOfPts ld.pts).length
  boxes : (legsOfPts ld.pts).all boxOk = true
  few : (legsOfPts ld.pts).length ≤ 6
theorem legs_boxes : ∀ pts : List Pt, (∀ p ∈ pts, nearBy 1048576 p = true) → (legsOfPts pts).all boxOk = true := by
  intro pts
  induction pts with
  | nil => intro _; rfl
  | cons p l ih =>
    intro h
    cases l with
    | nil => rfl
    | cons q r =>
      have h1 := ih (fun y hy => h y (List.mem_cons_of_mem _ hy))
      show (boxOk (legBox p q) && (legsOfPts (q :: r)).all boxOk) = true
      rw [h1, leg_ok (h p (by simp)) (h q (by simp))]
      rfl
theorem laid_rod {x : DetD} (hok : laidOk x.bars x.runs = true) {ld : LaidD} (h : ld ∈ laidAll x.bars x.runs) : RodOk x ld := by
  have hr := (laidOk_mem hok).2.2
  obtain ⟨i, hi⟩ := List.mem_iff_getElem?.1 h
  obtain ⟨hnear, _, h7⟩ := laid_near x.runs i ld hr hi
  obtain ⟨r, hrm, hm⟩ := List.mem_flatMap.1 h
  obtain ⟨j, b, h1, h2, h3, _⟩ := runOk_bar (hr r hrm)
  rw [markIs_eq (List.find?_some h3)] at h1
  unfold laidRun at hm
  rw [h3] at hm
  obtain ⟨k, _, rfl⟩ := List.mem_map.1 hm
  have hb := mem_of_get h2
  refine ⟨⟨j, h1, h2⟩, (laidOk_mem hok).1 b hb, bar_size hok hb, ?_, legs_boxes _ hnear, ?_⟩
  · show (legLens b).length = (legsOfPts (ptsOf b r k)).length
    rw [legsOfPts_len, ptsOf, List.length_map, pathOf_len, legLens, List.length_map]
    rfl
  · rw [legsOfPts_len]
    have h8 : (ptsOf b r (k : Int)).length ≤ 7 := h7
    show (ptsOf b r (k : Int)).length - 1 ≤ 6
    omega
theorem blk_ne {w : World} {g g' : Nat} {t t' : TypeId} {cs cs' : Array Value} (h : Blk w g t cs) (h' : Blk w g' t' cs') (ht : t ≠ t') : g ≠ g' := by
  intro e
  subst e
  unfold Blk at h h'
  rw [h] at h'
  injection h' with h'
  injection h' with _ h' _
  exact ht h'
theorem RowB.set {w : World} {t : TypeId} {A : Option Addr} {vals : List Value} (h : RowB w t A vals) {g : Nat} {t' : TypeId} {cs : Array Value} (hk : Blk w g t' cs) (ht : t ≠ t') (i : Nat) (u : Value) : RowB (w.setCell ⟨g, i, none⟩ u) t A vals :=
  h.keep fun _ _ hb => hb.far (p := ⟨g, i, none⟩) (blk_ne hb hk ht) u
theorem rodsW_row {w : World} {base c B : Nat} {A : Option Addr} {acc : List RodX} (h : Row w base 258 7 encRodX (.slice A acc.length c) acc) (hB : B ≤ w.heap.size) (hb : ∀ q ∈ acc, RowB w 51 q.la ((legsOfPts q.ld.pts).flatMap encB) ∧ Ints w B q.da q.ld.bar.dims) : RodsW w w.heap.size A (acc.map (·.ld)) :=
  SlOf.read_as (·.ld) (h.read encRodX_len (by omega)) (fun q hq => ⟨q.da, q.dc, q.la, q.lc, rfl, (hb q hq).2.carry (Below.refl _ _) hB, RowB.sl encB_len (by omega) (hb q hq).1⟩)
end Go.Proofs.YtkmpddaobncheaaGreatDoor
namespace Go.Proofs.YtkmpddaobncheaaGreatDoor
open Go.RowKit

set_option maxHeartbeats 1000000 in
theorem indexFuncIntC_any (A : Option Addr) (l : List Int) (n c : Nat) (fid : FuncId) (caps : Array Value) (p : Int → Bool) (w : World) {B : Nat} (h : Ints w B A l) (hB : B ≤ w.heap.size) (hn : n = l.length) (hm : n ≤ 300000)
    (hc : ∀ args w, (callFunc fid args).run Tryz.prog w = .ok (.enter fid args) w)
    (hf : ∀ x (W : World), x ∈ l → Below w.heap.size w W → Calls Tryz.prog fid (#[.int .i64 x] ++ caps) W fun e W' => e = .returned (.bool (p x)) ∧ Below W.heap.size W W') :
    Calls Tryz.prog 237 #[.slice A n c, .func (.func fid) #[] caps] w fun e w' => e = .returned (.int .i64 (idx p l)) ∧ Below w.heap.size w w' := by
  have Hf := hide hf
  have hn' := hide hn
  have Hs := hide h
  clear hf hn h
  go_enter Tryz.func237, Tryz.ntmps237
  go_wp2_with fail
  go_loopw [8] (fun i wr => ∃ k : Nat, k ≤ n ∧ i = .int .i64 k ∧ NoneTo p l k ∧ Below w.heap.size w wr) (fun i _ => n - (intOf i).toNat)
  case atStart => exact ⟨0, Nat.zero_le _, rfl, NoneTo.zero _ _, Below.refl _ _⟩
  case round =>
    obtain ⟨k, hk, rfl, hw, hb⟩ := hrel
    by_cases hlt : k < n
    · obtain ⟨b, off, x, rfl, hbl, hx, h0⟩ := Ints.get (k := k) (Hs.out.carry (hb.mono hB) (Nat.le_refl _)) (by rw [← hn'.out]; exact hlt)
      have Hx := hide hx
      have HF := hide (fun (W : World) (hW : Below w.heap.size w W) => Hf.out x W (mem_of_get hx) hW)
      clear hx hbl
      go_wp2_with fail
      refine (HF.out _ hb).mono ?_
      rintro e w1 ⟨rfl, hb1⟩
      clear h0
      have hb2 := below_step hb hb1 (Nat.le_refl _)
      cases hp : p x
      · have Hp := hide hp
        clear hp
        go_wp2_with fail
        go_roundw
        case rel => exact ⟨k + 1, by omega, by go_num, hw.succ Hx.out Hp.out, hb2⟩
        case measure => simp [intOf]; omega
      · have Hp := hide hp
        clear hp
        go_wp2_with fail
        go_ret
        exact ⟨ret_int (hw.hit Hx.out Hp.out).symm, hb2⟩
    · obtain rfl : k = n := by omega
      go_wp2_with fail
      go_ret
      exact ⟨ret_int (NoneTo.miss (by rw [← hn'.out]; exact hw)).symm, hb⟩
set_option maxHeartbeats 400000 in
theorem containsFuncIntC_any (A : Option Addr) (l : List Int) (n c : Nat) (fid : FuncId) (caps : Array Value) (p : Int → Bool) (w : World) {B : Nat} (h : Ints w B A l) (hB : B ≤ w.heap.size) (hn : n = l.length) (hm : n ≤ 300000)
    (hc : ∀ args w, (callFunc fid args).run Tryz.prog w = .ok (.enter fid args) w)
    (hf : ∀ x (W : World), x ∈ l → Below w.heap.size w W → Calls Tryz.prog fid (#[.int .i64 x] ++ caps) W fun e W' => e = .returned (.bool (p x)) ∧ Below W.heap.size W W') :
    Calls Tryz.prog 180 #[.slice A n c, .func (.func fid) #[] caps] w fun e w' => e = .returned (.bool (someOf p l)) ∧ Below w.heap.size w w' := by
  have Hf := hide hf
  have hn' := hide hn
  have Hc := hide hc
  clear hf hn hc
  go_enter Tryz.func180, Tryz.ntmps180
  go_wp2_with fail
  refine (indexFuncIntC_any A l n c fid caps p w h hB hn'.out hm Hc.out Hf.out).mono ?_
  rintro e w1 ⟨rfl, hb⟩
  go_wp2_with fail
  go_ret
  exact ⟨ret_bool (by rw [idx_any]; rfl), hb⟩
theorem nanI_any (x : Int) (w : World) : Calls Tryz.prog 252 #[.int .i64 x] w fun e w' => e = .returned (.bool false) ∧ w = w' := by
  go_enter Tryz.func252, Tryz.ntmps252
  go_wp2_with fail
  go_ret
  exact ⟨ret_bool (by simp), rfl⟩
def cmpI (x y : Int) : Int := if x < y then -1 else if y < x then 1 else 0
theorem cmpI_neg (x y : Int) : decide (cmpI x y < 0) = decide (x < y) := by
  unfold cmpI
  by_cases h : x < y
  · rw [if_pos h]; simp [h]
  · rw [if_neg h]
    split <;> simp [h]
set_option maxHeartbeats 400000 in
theorem compareI_any (x y : Int) (w : World) : Calls Tryz.prog 243 #[.int .i64 x, .int .i64 y] w fun e w' => e = .returned (.int .i64 (cmpI x y)) ∧ w = w' := by
  have Hr := hide (show cmpI x y = if x < y then -1 else if y < x then 1 else 0 from rfl)
  generalize cmpI x y = t at *
  have HN := hide (fun (z : Int) (W : World) => nanI_any z W)
  by_cases h1 : x < y
  · rw [if_pos h1] at Hr
    have d1 : decide (x < y) = true := decide_eq_true h1
    go_enter Tryz.func243, Tryz.ntmps243
    go_wp2_with fail
    refine (HN.out _ _).mono ?_
    rintro e w1 ⟨rfl, rfl⟩
    go_wp2_with fail
    refine (HN.out _ _).mono ?_
    rintro e w1 ⟨rfl, rfl⟩
    go_wp2_with fail
    go_ret
    exact ⟨ret_int (by rw [Hr.out]), rfl⟩
  · rw [if_neg h1] at Hr
    have d1 : decide (x < y) = false := decide_eq_false h1
    by_cases h2 : y < x
    · rw [if_pos h2] at Hr
      have d2 : decide (y < x) = true := decide_eq_true h2
      go_enter Tryz.func243, Tryz.ntmps243
      go_wp2_with fail
      refine (HN.out _ _).mono ?_
      rintro e w1 ⟨rfl, rfl⟩
      go_wp2_with fail
      refine (HN.out _ _).mono ?_
      rintro e w1 ⟨rfl, rfl⟩
      go_wp2_with fail
      go_ret
      exact ⟨ret_int (by rw [Hr.out]), rfl⟩
    · rw [if_neg h2] at Hr
      have d2 : decide (y < x) = false := decide_eq_false h2
      go_enter Tryz.func243, Tryz.ntmps243
      go_wp2_with fail
      refine (HN.out _ _).mono ?_
      rintro e w1 ⟨rfl, rfl⟩
      go_wp2_with fail
      refine (HN.out _ _).mono ?_
      rintro e w1 ⟨rfl, rfl⟩
      go_wp2_with fail
      go_ret
      exact ⟨ret_int (by rw [Hr.out]), rfl⟩
def lowTo (key : Int → Int) (a : Int) (r : List Int) (k : Nat) : Int := (r.take k).foldl (lessF key) a
theorem lowTo_next {key : Int → Int} {a : Int} {r : List Int} {k : Nat} {y : Int} (h : r[k]? = some y) : lowTo key a r (k + 1) = lessF key (lowTo key a r k) y := by
  rw [lowTo, take_snoc' h, List.foldl_append]
  rfl
theorem lowTo_mem (key : Int → Int) (a : Int) (r : List Int) (k : Nat) : lowTo key a r k ∈ a :: r := by
  rcases minF_mem key (r.take k) a with h | h
  · rw [lowTo, h]; simp
  · exact List.mem_cons_of_mem _ (List.mem_of_mem_take h)
set_option maxHeartbeats 1000000 in
/-- Of a list that is not empty. -/
theorem minFuncI_ok (A : Option Addr) (l : List Int) (n c : Nat) (fid : FuncId) (caps : Array Value) (key : Int → Int) (w : World) {B : Nat} (h : Ints w B A l) (hB : B ≤ w.heap.size) (hn : n = l.length) (hm : n ≤ 300000) (h0 : 0 < n)
    (hc : ∀ args w, (callFunc fid args).run Tryz.prog w = .ok (.enter fid args) w)
    (hf : ∀ x y (W : World), x ∈ l → y ∈ l → Below w.heap.size w W → Calls Tryz.prog fid (#[.int .i64 x, .int .i64 y] ++ caps) W fun e W' => e = .returned (.int .i64 (cmpI (key x) (key y))) ∧ Below W.heap.size W W') :
    Calls Tryz.prog 241 #[.slice A n c, .func (.func fid) #[] caps] w fun e w' => e = .returned (.int .i64 (minF key l)) ∧ Below w.heap.size w w' := by
  obtain ⟨a, r, rfl⟩ : ∃ a r, l = a :: r := by
    cases l with
    | nil => simp at hn; omega
    | cons a r => exact ⟨a, r, rfl⟩
  have Hf := hide hf
  have hn' := hide hn
  have Hs := hide h
  rw [List.length_cons] at hn
  obtain ⟨q, hq⟩ : ∃ q, q = r.length := ⟨_, rfl⟩
  rw [← hq] at hn
  have Hq := hide hq
  obtain ⟨b, off, x, rfl, hbl, hx, hc0⟩ := Ints.get (k := 0) h (by simp)
  obtain rfl : a = x := by simpa using hx
  have lb : b < w.heap.size := Nat.lt_of_lt_of_le hbl hB
  simp only [Nat.add_zero] at hc0
  have HE := hide (show minF key (a :: r) = lowTo key a r q by rw [minF, lowTo, hq, List.take_length])
  generalize minF key (a :: r) = res at *
  clear hf h hx hbl hq
  subst hn
  go_enter Tryz.func241, Tryz.ntmps241
  go_wp2_with fail
  go_loopw [5, 6] (fun mv iv wr => ∃ k : Nat, k ≤ q ∧ iv = .int .i64 ((k : Int) + 1) ∧ mv = .int .i64 (lowTo key a r k) ∧ Below w.heap.size w wr) (fun _ iv _ => q + 1 - (intOf iv).toNat)
  case atStart => exact ⟨0, Nat.zero_le _, rfl, rfl, Below.refl _ _⟩
  case round =>
    obtain ⟨k, hk, rfl, rfl, hb⟩ := hrel
    rename World => wr
    by_cases hlt : k < q
    · obtain ⟨b', off', y, hA, hbl, hx, h0⟩ := Ints.get (k := k + 1) (Hs.out.carry (hb.mono hB) (Nat.le_refl _)) (by simp [← Hq.out]; omega)
      obtain ⟨rfl, rfl⟩ : b' = b ∧ off' = off := by simpa [eq_comm] using hA
      have hx2 : r[k]? = some y := by simpa using hx
      have HF := hide (fun (W : World) (hW : Below w.heap.size w W) => Hf.out y (lowTo key a r k) W (mem_of_get hx) (lowTo_mem key a r k) hW)
      have Hn := hide (lowTo_next (key := key) (a := a) hx2)
      have Hc := hide (cmpI_neg (key y) (key (lowTo key a r k)))
      have lbw : b' < wr.heap.size := Nat.lt_of_lt_of_le lb hb.size
      have Hl := hide (show lessF key (lowTo key a r k) y = if key y < key (lowTo key a r k) then y else lowTo key a r k from rfl)
      clear hx hbl hA hx2
      generalize lowTo key a r k = m at *
      generalize cmpI (key y) (key m) = cv at *
      have z1 : ((k + 1 : Nat) : Int) = (k : Int) + 1 := by omega
      go_wp2_with fail
      refine (HF.out _ hb).mono ?_
      rintro e w1 ⟨rfl, hb1⟩
      have hb2 := below_step hb hb1 (Nat.le_refl _)
      have h1 := (hb1.cell (p := ⟨b', off' + (k + 1), none⟩) lbw).trans h0
      have lb1 : b' < w1.heap.size := Nat.lt_of_lt_of_le lbw hb1.size
      clear h0 hc0
      by_cases hp : key y < key m
      · have d1 : decide (cv < 0) = true := by rw [Hc.out]; exact decide_eq_true hp
        have Hm := hide (show lowTo key a r (k + 1) = y by rw [Hn.out, Hl.out, if_pos hp])
        go_wp2_with fail
        go_roundw
        case rel => exact ⟨k + 1, by omega, by go_num, by rw [Hm.out], hb2⟩
        case measure => simp [intOf]; omega
      · have d1 : decide (cv < 0) = false := by rw [Hc.out]; exact decide_eq_false hp
        have Hm := hide (show lowTo key a r (k + 1) = m by rw [Hn.out, Hl.out, if_neg hp])
        go_wp2_with fail
        go_roundw
        case rel => exact ⟨k + 1, by omega, by go_num, by rw [Hm.out], hb2⟩
        case measure => simp [intOf]; omega
    · obtain rfl : k = q := by omega
      go_wp2_with fail
      go_ret
      exact ⟨ret_int HE.out.symm, hb⟩
end Go.Proofs.YtkmpddaobncheaaGreatDoor
namespace Go.Proofs.YtkmpddaobncheaaGreatDoor
open Go.RowKit Go.Maps

/-- Block b is a map that holds, at each number x, the number f x, if there is one. -/
def NMap (w : World) (b n : Nat) (f : Int → Option Int) : Prop :=
  ∃ D : DataW Unit, IsMap D ∧ w.ownsMap Tryz.prog 3 (plainElem Tryz.prog 3) b n D ∧ ∀ x : Int, InInt x → Maps.has D (.int .i64 x) = (f x).isSome ∧ D.atKey (.int .i64 x) (.lit (.int .i64 0)) = .lit (.int .i64 ((f x).getD 0))
section
variable {w w' : World} {b n : Nat} {f : Int → Option Int}
set_option maxRecDepth 100000 in
theorem NMap.new (w : World) : NMap (w.alloc (.map #[] 0)) w.heap.size 0 (fun _ => none) :=
  ⟨.map [], ⟨[], rfl⟩, World.ownsMap_made _ _ _ _, fun _ _ => ⟨rfl, rfl⟩⟩
set_option maxRecDepth 100000 in
theorem NMap.lt (h : NMap w b n f) : b < w.heap.size := by obtain ⟨D, _, ho, _⟩ := h; exact ho.lt
set_option maxRecDepth 100000 in
theorem NMap.keep (h : NMap w b n f) (hb : Below w.heap.size w w') : NMap w' b n f := by
  obtain ⟨D, hm, ho, ha⟩ := h
  exact ⟨D, hm, ho.kept (row := none) ⟨hb.os, hb.tape, hb.output, hb.size, fun k hk _ => hb.block k hk⟩ (by simp), ha⟩
theorem NMap.alloc (h : NMap w b n f) (o : Obj) : NMap (w.alloc o) b n f := h.keep (below_new w o)
theorem NMap.drew (h : NMap w b n f) : NMap w.drew b n f := h.keep (Below.drew (Below.refl _ _))
set_option maxRecDepth 100000 in
theorem NMap.grown {g : Nat} (h : NMap w b n f) (hg : w.grownBy w' (some g)) (hb : b ≠ g) : NMap w' b n f := by
  obtain ⟨D, hm, ho, ha⟩ := h
  exact ⟨D, hm, ho.kept hg (by simpa using hb), ha⟩
set_option maxRecDepth 100000 in
theorem NMap.below {B : Nat} (h : NMap w b n f) (hb : Below B w w') (hB : b < B) : NMap w' b n f := by
  obtain ⟨D, hm, ho, ha⟩ := h
  obtain ⟨es, clock, h1, h2⟩ := ho
  exact ⟨D, hm, ⟨es, clock, (hb.block b hB).trans h1, h2⟩, ha⟩
set_option maxRecDepth 100000 in
theorem BSet.below {B : Nat} {l : List Int} (h : BSet w b n l) (hb : Below B w w') (hB : b < B) : BSet w' b n l := by
  obtain ⟨D, hm, ho, ha⟩ := h
  obtain ⟨es, clock, h1, h2⟩ := ho
  exact ⟨D, hm, ⟨es, clock, (hb.block b hB).trans h1, h2⟩, ha⟩
set_option maxRecDepth 100000 in
theorem NMap.look (h : NMap w b n f) {x : Int} (hx : InInt x) : (Instr.lookup 350 (.map (some b)) (.int .i64 x) true).run Tryz.prog w = .ok (.tuple #[.int .i64 ((f x).getD 0), .bool (f x).isSome]) w := by
  obtain ⟨D, _, ho, ha⟩ := h
  obtain ⟨v, ps, hrun, hv⟩ := ho.look_ok keyedInt Tryz.underlying350 (zeroInt w) (plainElem_int Tryz.underlying3 (by decide)) (keyOf_int_mk Tryz.underlying3 hx.wf)
  obtain ⟨y, rfl, hz⟩ := plainElem_int_inv' hv
  rw [(ha x hx).2] at hz
  rw [(ha x hx).1] at hrun
  simp only [Prod.mk.injEq, DataW.lit.injEq, Lit.int.injEq, true_and] at hz
  rw [hrun, hz.1]
set_option maxRecDepth 100000 in
theorem NMap.store (h : NMap w b n f) {x : Int} (hx : InInt x) {y : Int} (hy : InInt y) (hn : n ≤ 1000000) :
    ∃ w', (Instr.mapUpdate 350 (.map (some b)) (.int .i64 x) (.int .i64 y)).run Tryz.prog w = .ok () w' ∧ NMap w' b (n + 1) (setF f x y) ∧ w.grownBy w' (some b) := by
  obtain ⟨D, hm, ho, ha⟩ := h
  obtain ⟨w', hrun, ho', hg⟩ := ho.update keyedInt Tryz.underlying350 (by unfold maxLen; omega) (keyOf_int_mk Tryz.underlying3 hx.wf) (plainElem_int Tryz.underlying3 hy.wf)
  refine ⟨w', hrun, ⟨D.put (.int .i64 x) (.lit (.int .i64 y)), ?_, ho', fun z hz => ?_⟩, hg⟩
  · obtain ⟨es, rfl⟩ := hm
    exact ⟨_, rfl⟩
  · unfold setF
    by_cases hst : z = x
    · subst hst
      rw [if_pos rfl]
      exact ⟨has_put_same hm (by trivial) _, atKey_put_same hm (by trivial) _ _⟩
    · rw [if_neg hst]
      have hne : (Lit.int .i64 z) ≠ .int .i64 x := by intro he; injection he with _ he; exact hst he
      exact ⟨(has_put_other hne _).trans (ha z hz).1, (atKey_put_other hne _ _).trans (ha z hz).2⟩
end
end Go.Proofs.YtkmpddaobncheaaGreatDoor
namespace Go.Proofs.YtkmpddaobncheaaGreatDoor
open Go.RowKit

theorem row_high {α : Type} {w : World} {lo size : Nat} {e : TypeId} {enc : α → List Value} {A : Option Addr} {n c : Nat} {l : List α} (h : Row w lo e size enc (.slice A n c) l) : n = l.length ∧ n ≤ c := by
  obtain ⟨A', c', hv, hc⟩ := own_capG h
  injection hv with h1 h2 h3
  subst h2
  subst h3
  exact ⟨rfl, hc⟩
structure OwnLen (x : DetD) (s : DetS) : Prop where
  l1 : s.n1 = x.mem.boxes.length
  l2 : s.n2 = x.mem.holes.length
  l3 : s.n3 = x.bars.length
  l4 : s.n4 = x.runs.length
  l5 : s.n5 = x.laps.length
  l6 : s.n6 = x.dems.length
  k6 : s.n6 ≤ s.c6
theorem OwnDet.len {w : World} {lo : Nat} {x : DetD} {s : DetS} {b : Nat → Nat} {LB : List BarX} {LD : List DemX} (h : OwnDet w lo x s b LB LD) : OwnLen x s :=
  ⟨(row_high h.r1.row).1, (row_high h.r2.row).1, by rw [(row_high h.r3.row).1, ← h.m3, List.length_map], (row_high h.r4.row).1, (row_high h.r5.row).1, by rw [(row_high h.r6.row).1, ← h.m6, List.length_map], (row_high h.r6.row).2⟩
theorem OwnDet.at_ {w : World} {lo : Nat} {x : DetD} {s : DetS} {b : Nat → Nat} {LB : List BarX} {LD : List DemX} (h : OwnDet w lo x s b LB LD) : DetAt w w.heap.size x s := by
  have k3 : ∀ p ∈ LB, Ints w w.heap.size p.2.1 p.1.dims := fun p hp => by
    obtain ⟨k, hk, hkp⟩ := List.getElem_of_mem hp
    exact (h.d3.own.row k p hk (by rw [List.getElem?_eq_getElem hk, hkp])).read encInt_len (by omega)
  have k6 : ∀ p ∈ LD, StpsAt w w.heap.size p.2.1 p.1.steps := fun p hp => by
    obtain ⟨k, hk, hkp⟩ := List.getElem_of_mem hp
    exact (h.d6.own.row k p hk (by rw [List.getElem?_eq_getElem hk, hkp])).read (fun _ => rfl) (by omega)
  have b3 := bars_join (h.r3.row.read encBarX_len (by omega)) k3
  have b6 := dems_join (h.r6.row.read encDemX_len (by omega)) k6
  rw [h.m3] at b3
  rw [h.m6] at b6
  exact ⟨h.r1.row.read encB_len (by omega), h.r2.row.read encB_len (by omega), b3, h.r4.row.read (fun _ => rfl) (by omega), h.r5.row.read (fun _ => rfl) (by omega), b6⟩
theorem OwnLen.fit {x y : DetD} {s s' : DetS} (h : OwnLen y s') (f : DetFit x s) (h1 : y.mem = x.mem) (h2 : y.bars = x.bars) (h3 : y.dems = x.dems) (h4 : y.runs.length ≤ 60000) (h5 : y.laps.length ≤ 60000) : DetFit y s' := by
  refine ⟨h.l1, h.l2, h.l3, h.l4, h.l5, h.l6, ?_, ?_, ?_, ?_, h.k6, ?_, ?_, ?_⟩
  · rw [h.l3, h2, ← f.l3]; exact f.m3
  · rw [h.l4]; exact h4
  · rw [h.l5]; exact h5
  · rw [h.l6, h3, ← f.l6]; exact f.m6
  · rw [h1]; exact f.name
  · rw [h2]; exact f.tame
  · rw [h3]; exact f.dems
/-- A copy, read. -/
theorem Copied.read {lo : Nat} {w : World} {x : DetD} {s s' : DetS} (h : Copied lo w x s s') (f : DetFit x s) : DetAt w w.heap.size x s' ∧ DetFit x s' := by
  obtain ⟨_, b, LB, LD, ho⟩ := h
  exact ⟨ho.at_, ho.len.fit f rfl rfl rfl (by rw [← f.l4]; exact f.m4) (by rw [← f.l5]; exact f.m5)⟩
theorem Copied.keep {lo : Nat} {w w' : World} {x : DetD} {s s' : DetS} (h : Copied lo w x s s') (hb : Below w.heap.size w w') : Copied lo w' x s s' := by
  obtain ⟨hl, b, LB, LD, ho⟩ := h
  exact ⟨hl, b, LB, LD, ho.keep hb⟩
/-- A detail whose rows all lie from a block on (whether or not two of them share one is not said). -/
structure OwnLow (w : World) (lo : Nat) (x : DetD) (s : DetS) (LB : List BarX) (LD : List DemX) : Prop where
  r1 : Row w lo 51 6 encB (.slice s.a1 s.n1 s.c1) x.mem.boxes
  r2 : Row w lo 51 6 encB (.slice s.a2 s.n2 s.c2) x.mem.holes
  r3 : Row w lo 68 5 encBarX (.slice s.a3 s.n3 s.c3) LB
  r4 : Row w lo 120 10 encRun (.slice s.a4 s.n4 s.c4) x.runs
  r5 : Row w lo 163 2 encJoin (.slice s.a5 s.n5 s.c5) x.laps
  r6 : Row w lo 54 8 encDemX (.slice s.a6 s.n6 s.c6) LD
  m3 : LB.map (·.1) = x.bars
  m6 : LD.map (·.1) = x.dems
  d3 : ∀ p ∈ LB, Row w lo 3 1 encInt (.slice p.2.1 p.1.dims.length p.2.2) p.1.dims
  d6 : ∀ p ∈ LD, Row w lo 112 2 encStp (.slice p.2.1 p.1.steps.length p.2.2) p.1.steps
theorem OwnLow.kept {w w' : World} {lo : Nat} {x : DetD} {s : DetS} {LB : List BarX} {LD : List DemX} {row : Option Nat} (h : OwnLow w lo x s LB LD) (hg : w.grownBy w' row) (hr : ∀ k, row = some k → k < lo) : OwnLow w' lo x s LB LD :=
  ⟨row_kept h.r1 hg (fun k hk => row_base h.r1 (hr k hk)), row_kept h.r2 hg (fun k hk => row_base h.r2 (hr k hk)), row_kept h.r3 hg (fun k hk => row_base h.r3 (hr k hk)), row_kept h.r4 hg (fun k hk => row_base h.r4 (hr k hk)), row_kept h.r5 hg (fun k hk => row_base h.r5 (hr k hk)), row_kept h.r6 hg (fun k hk => row_base h.r6 (hr k hk)), h.m3, h.m6,
    fun p hp => row_kept (h.d3 p hp) hg (fun k hk => row_base (h.d3 p hp) (hr k hk)), fun p hp => row_kept (h.d6 p hp) hg (fun k hk => row_base (h.d6 p hp) (hr k hk))⟩
theorem OwnLow.keep {w w' : World} {lo : Nat} {x : DetD} {s : DetS} {LB : List BarX} {LD : List DemX} (h : OwnLow w lo x s LB LD) (hb : Below w.heap.size w w') : OwnLow w' lo x s LB LD := h.kept (grown_below hb none) (fun k hk => by cases hk)
theorem OwnLow.at_ {w : World} {lo : Nat} {x : DetD} {s : DetS} {LB : List BarX} {LD : List DemX} (h : OwnLow w lo x s LB LD) : DetAt w w.heap.size x s := by
  have b3 := bars_join (h.r3.read encBarX_len (by omega)) (fun p hp => (h.d3 p hp).read encInt_len (by omega))
  have b6 := dems_join (h.r6.read encDemX_len (by omega)) (fun p hp => (h.d6 p hp).read (fun _ => rfl) (by omega))
  rw [h.m3] at b3
  rw [h.m6] at b6
  exact ⟨h.r1.read encB_len (by omega), h.r2.read encB_len (by omega), b3, h.r4.read (fun _ => rfl) (by omega), h.r5.read (fun _ => rfl) (by omega), b6⟩
theorem OwnLow.len {w : World} {lo : Nat} {x : DetD} {s : DetS} {LB : List BarX} {LD : List DemX} (h : OwnLow w lo x s LB LD) : OwnLen x s :=
  ⟨(row_high h.r1).1, (row_high h.r2).1, by rw [(row_high h.r3).1, ← h.m3, List.length_map], (row_high h.r4).1, (row_high h.r5).1, by rw [(row_high h.r6).1, ← h.m6, List.length_map], (row_high h.r6).2⟩
/-- The runs' row is put anew, in a block of the row's own or in a new one. -/
theorem OwnDet.runs {w w' : World} {lo : Nat} {x y : DetD} {s s' : DetS} {b : Nat → Nat} {LB : List BarX} {LD : List DemX} {A : Option Addr} {n c : Nat} (h : OwnDet w lo x s b LB LD) (hg : w.grownBy w' (Value.slice s.a4 s.n4 s.c4).ownBlock)
    (hr : Row w' lo 120 10 encRun (.slice A n c) y.runs) (hy : y = ⟨x.mem, x.bars, y.runs, x.laps, x.dems, x.rule⟩) (hs : s' = { s with a4 := A, n4 := n, c4 := c }) : OwnLow w' lo y s' LB LD := by
  have up3 : ∀ j, j ≤ 3 → b j ≤ b 3 := fun j hj => by
    rcases (show j = 0 ∨ j = 1 ∨ j = 2 ∨ j = 3 by omega) with rfl | rfl | rfl | rfl
    · exact Nat.le_trans (h.up 0) (Nat.le_trans (h.up 1) (h.up 2))
    · exact Nat.le_trans (h.up 1) (h.up 2)
    · exact h.up 2
    · exact Nat.le_refl _
  have up4 : ∀ i, 4 ≤ i → b 4 ≤ b i := fun i hi => by
    have : ∀ d, b 4 ≤ b (4 + d) := fun d => by
      induction d with
      | zero => exact Nat.le_refl _
      | succ d ih => exact Nat.le_trans ih (h.up (4 + d))
    have hq := this (i - 4)
    rwa [show 4 + (i - 4) = i by omega] at hq
  have e1 : ∀ i j, j ≤ 3 → ∀ k, (Value.slice s.a4 s.n4 s.c4).ownBlock = some k → k < b i ∨ b j ≤ k := fun i j hj k hk => .inr (Nat.le_trans (up3 j hj) (h.r4.low hk))
  have e2 : ∀ i j, 4 ≤ i → ∀ k, (Value.slice s.a4 s.n4 s.c4).ownBlock = some k → k < b i ∨ b j ≤ k := fun i j hi k hk => .inl (Nat.lt_of_lt_of_le (h.r4.up k hk) (up4 i hi))
  have lw : ∀ i, lo ≤ b i := fun i => Nat.le_trans h.low (h.from0 i)
  have q1 := h.r1.kept hg (e1 0 1 (by omega))
  have q2 := h.r2.kept hg (e1 1 2 (by omega))
  have q3 := h.r3.kept hg (e1 2 3 (by omega))
  have q5 := h.r5.kept hg (e2 4 5 (by omega))
  have q6 := h.r6.kept hg (e2 5 6 (by omega))
  have p3 := h.d3.kept hg (e2 6 7 (by omega))
  have p6 := h.d6.kept hg (e2 7 8 (by omega))
  rw [hy, hs]
  exact ⟨(q1.mono (lw 0) (Nat.le_refl _)).row, (q2.mono (lw 1) (Nat.le_refl _)).row, (q3.mono (lw 2) (Nat.le_refl _)).row, hr, (q5.mono (lw 4) (Nat.le_refl _)).row, (q6.mono (lw 5) (Nat.le_refl _)).row, h.m3, h.m6,
    fun p hp => by
      obtain ⟨k, hk, hkp⟩ := List.getElem_of_mem hp
      exact ((InRow.mk (p3.own.row k p hk (by rw [List.getElem?_eq_getElem hk, hkp])) (fun g hg' => p3.up k p g (by rw [List.getElem?_eq_getElem hk, hkp]) hg')).mono (lw 6) (Nat.le_refl _)).row,
    fun p hp => by
      obtain ⟨k, hk, hkp⟩ := List.getElem_of_mem hp
      exact ((InRow.mk (p6.own.row k p hk (by rw [List.getElem?_eq_getElem hk, hkp])) (fun g hg' => p6.up k p g (by rw [List.getElem?_eq_getElem hk, hkp]) hg')).mono (lw 7) (Nat.le_refl _)).row⟩
end Go.Proofs.YtkmpddaobncheaaGreatDoor
