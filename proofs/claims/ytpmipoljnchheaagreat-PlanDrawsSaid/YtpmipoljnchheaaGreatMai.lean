/- The hull of a solid. Whether a lap is right by itself. Points as boxes. A detail as an argument, in memory. No walk stands here. -/
import Derived.Test.YtpmipoljnchheaaGreatMah
import Derived.Test.YtpmipoljnchheaaGreatMag
import Derived.Test.YtpmipoljnchheaaGreatMaf
import Derived.BigRegion
import Derived.Test.YtpmipoljnchheaaGreatMae
namespace Go.Proofs.YtpmipoljnchheaaGreat
open Go.RowKit

theorem thick_box {b : BoxD} (h : thickOk b = true) : boxOk b = true := by
  simp only [thickOk, Bool.and_eq_true] at h
  exact h.1.1.1
theorem solid_boxes {bs hs : List BoxD} (h : solidOk bs hs = true) : 1 ≤ bs.length ∧ bs.length ≤ 20 ∧ bs.all boxOk = true := by
  simp only [solidOk, Bool.and_eq_true, decide_eq_true_eq] at h
  exact ⟨h.1.1.1.1, h.1.1.1.2, List.all_eq_true.2 fun x hx => thick_box (List.all_eq_true.1 h.1.2 x hx)⟩
set_option maxHeartbeats 2000000 in
set_option maxRecDepth 100000 in
theorem solidHull_ok (bs hs : List BoxD) (A1 A2 : Option Addr) (n1 n2 c1 c2 : Nat) (w : World) {B : Nat} (h1 : BoxesAt w B A1 bs) (h2 : BoxesAt w B A2 hs) (hB : B ≤ w.heap.size) (hn1 : n1 = bs.length) (hn2 : n2 = hs.length) (hok : solidOk bs hs = true) :
    Calls Tryz.prog 61 #[sol A1 n1 c1 A2 n2 c2] w fun e w' => e = .returned (.tuple #[bx (hullOf bs), .int .i64 0]) ∧ Below w.heap.size w w' := by
  obtain ⟨b1, b2, b3⟩ := solid_boxes hok
  have HV := fun (W : World) (hz : Below w.heap.size w W) => solidValid_any bs hs A1 A2 n1 n2 c1 c2 W (h1.carry (Flat.carried _) (hz.mono hB) (Nat.le_refl _)) (h2.carry (Flat.carried _) (hz.mono hB) (Nat.le_refl _)) (Nat.le_trans hB hz.size) hn1 hn2
  rw [hok] at HV
  have HV := hide HV
  have HH := hide (fun (W : World) (hz : Below w.heap.size w W) => boxHull_ok A1 bs n1 c1 W (h1.carry (Flat.carried _) (hz.mono hB) (Nat.le_refl _)) (Nat.le_trans hB hz.size) hn1 (by omega) (by omega) b3)
  generalize hullOf bs = hb at *
  obtain ⟨⟨x1, x2, x3⟩, x4, x5, x6⟩ := hb
  have k0 := (Blk.new w 24 #[.slice A1 n1 c1, .slice A2 n2 c2]).alloc (.cells #[.int .i64 0, .int .i64 0, .int .i64 0, .int .i64 0, .int .i64 0, .int .i64 0] 73)
  have k1 := Blk.new1 w (.cells #[.slice A1 n1 c1, .slice A2 n2 c2] 24) 73 #[.int .i64 0, .int .i64 0, .int .i64 0, .int .i64 0, .int .i64 0, .int .i64 0]
  have K0 := hide k0
  have K1 := hide k1
  have HW := hide (below_new2 w (.cells #[.slice A1 n1 c1, .slice A2 n2 c2] 24) (.cells #[.int .i64 0, .int .i64 0, .int .i64 0, .int .i64 0, .int .i64 0, .int .i64 0] 73))
  clear h1 h2 hB hn1 hn2 hok b1 b2 b3 k0 k1
  go_enter Tryz.func61, Tryz.ntmps61
  go_wp2_with fail
  refine (HV.out _ HW.out).mono ?_
  rintro e w2 ⟨rfl, hb2⟩
  have k0 := K0.out.keep hb2
  have HW2 := hide (below_step HW.out hb2 (Nat.le_refl _))
  have K1 := hide (K1.out.keep hb2)
  have e0 := k0.cell 0
  simp at e0
  clear hb2 k0 K0 HV
  go_wp2_with fail
  refine (HH.out _ HW2.out).mono ?_
  rintro e w3 ⟨rfl, hb3⟩
  have k1 := K1.out.keep hb3
  have HW3 := hide (below_step HW2.out hb3 (Nat.le_refl _))
  have e0 := k1.cell 0
  have e1 := k1.cell 1
  have e2 := k1.cell 2
  have e3 := k1.cell 3
  have e4 := k1.cell 4
  have e5 := k1.cell 5
  have f0 := k1.frozen 0
  have f1 := k1.frozen 1
  have f2 := k1.frozen 2
  have f3 := k1.frozen 3
  have f4 := k1.frozen 4
  have f5 := k1.frozen 5
  simp at e0 e1 e2 e3 e4 e5
  have K1 := hide k1
  clear hb3 k1 HH
  go_wp2_with fail
  refine bodyPost_ret (results_ct rfl rfl ((((((K1.out.set_ 0 _).set_ 1 _).set_ 2 _).set_ 3 _).set_ 4 _).set_ 5 _) Tryz.underlying73 rfl (by kernel_rfl)) rfl ?_
  refine ⟨?_, (((((HW3.out.setCell (p := ⟨w.heap.size + 1, 0, none⟩) (Nat.le_succ _) _).setCell (p := ⟨w.heap.size + 1, 1, none⟩) (Nat.le_succ _) _).setCell (p := ⟨w.heap.size + 1, 2, none⟩) (Nat.le_succ _) _).setCell (p := ⟨w.heap.size + 1, 3, none⟩) (Nat.le_succ _) _).setCell (p := ⟨w.heap.size + 1, 4, none⟩) (Nat.le_succ _) _).setCell (p := ⟨w.heap.size + 1, 5, none⟩) (Nat.le_succ _) _⟩
  simp only [List.setIfInBounds_toArray, List.set_cons_zero, List.set_cons_succ]
  rfl
end Go.Proofs.YtpmipoljnchheaaGreat
namespace Go.Proofs.YtpmipoljnchheaaGreat
open Go.RowKit

set_option maxHeartbeats 4000000 in
set_option maxRecDepth 100000 in
theorem joint_any (A : Option Addr) (l : List MainD) (n c : Nat) (j : JoinD) (w : World) {B : Nat} (h : MainsAt w B A l) (hB : B ≤ w.heap.size) (hn : n = l.length) (hm : n ≤ 60000) :
    Calls Tryz.prog 98 #[.slice A n c, .agg #[.int .i64 j.first, .int .i64 j.second]] w fun e w' => e = .returned (.bool (jointOk l j)) ∧ Below w.heap.size w w' := by
  obtain ⟨f, s⟩ := j
  by_cases hout : f < 0 ∨ (l.length : Int) ≤ f ∨ s < 0 ∨ (l.length : Int) ≤ s
  · have hres := hide (jointOk_out (l := l) (j := ⟨f, s⟩) hout)
    have hways : decide (f < 0) = true ∨ (decide (f < 0) = false ∧ decide ((n : Int) ≤ f) = true) ∨ (decide (f < 0) = false ∧ decide ((n : Int) ≤ f) = false ∧ decide (s < 0) = true) ∨ (decide (f < 0) = false ∧ decide ((n : Int) ≤ f) = false ∧ decide (s < 0) = false ∧ decide ((n : Int) ≤ s) = true) := by
      simp only [decide_eq_true_eq, decide_eq_false_iff_not]
      omega
    generalize jointOk l ⟨f, s⟩ = res at *
    clear h hB hn hout
    rcases hways with q0 | ⟨q0, q1⟩ | ⟨q0, q1, q2⟩ | ⟨q0, q1, q2, q3⟩
    all_goals
      go_enter Tryz.func98, Tryz.ntmps98
      go_wp2_with fail
      go_ret
      exact ⟨ret_bool hres.out.symm, below_new w _⟩
  · have hf0 : 0 ≤ f := by omega
    have hs0 : 0 ≤ s := by omega
    obtain ⟨p, rfl⟩ := Int.eq_ofNat_of_zero_le hf0
    obtain ⟨q, rfl⟩ := Int.eq_ofNat_of_zero_le hs0
    have hp : p < n := by omega
    have hq : q < n := by omega
    obtain ⟨b, off, x, hA, hbl, hx, hcx⟩ := MainsAt.get (k := p) h (by omega)
    obtain ⟨b2, off2, y, hA2, hbl2, hy, hcy⟩ := MainsAt.get (k := q) h (by omega)
    rw [hA] at hA2
    injection hA2 with hA2
    injection hA2 with hA3 hA4
    subst hA3
    subst hA4
    subst hA
    have hres := hide (jointOk_in hx hy)
    generalize jointOk l ⟨p, q⟩ = res at *
    obtain ⟨⟨⟨x1, x2, x3⟩, x4, x5, x6⟩, xh, xs, xm⟩ := x
    obtain ⟨⟨⟨y1, y2, y3⟩, y4, y5, y6⟩, yh, ys, ym⟩ := y
    have hbw : b < w.heap.size := by omega
    have u0 := hcx 0 _ rfl
    have u1 := hcx 1 _ rfl
    have u2 := hcx 2 _ rfl
    have u3 := hcx 3 _ rfl
    have u4 := hcx 4 _ rfl
    have u5 := hcx 5 _ rfl
    have u6 := hcx 6 _ rfl
    have u7 := hcx 7 _ rfl
    have u8 := hcx 8 _ rfl
    have v0 := hcy 0 _ rfl
    have v1 := hcy 1 _ rfl
    have v2 := hcy 2 _ rfl
    have v3 := hcy 3 _ rfl
    have v4 := hcy 4 _ rfl
    have v5 := hcy 5 _ rfl
    have v6 := hcy 6 _ rfl
    have v7 := hcy 7 _ rfl
    have v8 := hcy 8 _ rfl
    simp only [Nat.add_zero] at u0 u1 u2 u3 u4 u5 u6 u7 u8 v0 v1 v2 v3 v4 v5 v6 v7 v8 hres
    clear h hx hy hcx hcy hout hbl hbl2 hn
    go_enter Tryz.func98, Tryz.ntmps98
    have hbw1 : b < w.heap.size + 1 := by omega
    have hbw2 : b < w.heap.size + 1 + 1 := by omega
    have hbw3 : b < w.heap.size + 1 + 1 + 1 := by omega
    have hways : (xh = false ∧ Hid (res = false)) ∨ (xh = true ∧ yh = false ∧ Hid (res = false)) ∨ (xh = true ∧ yh = true ∧ decide (x1 < y1) = false ∧ Hid (res = false)) ∨ (xh = true ∧ yh = true ∧ decide (x1 < y1) = true ∧ decide (x4 < y4) = false ∧ Hid (res = false)) ∨ (xh = true ∧ yh = true ∧ decide (x1 < y1) = true ∧ decide (x4 < y4) = true ∧ Hid (res = decide (y1 ≤ x4))) := by
      have h9 := hres.out
      cases xh
      · exact .inl ⟨rfl, hide (by rw [h9]; rfl)⟩
      right
      cases yh
      · exact .inl ⟨rfl, rfl, hide (by rw [h9]; rfl)⟩
      right
      cases e1 : decide (x1 < y1)
      · exact .inl ⟨rfl, rfl, rfl, hide (by rw [h9, e1]; rfl)⟩
      right
      cases e2 : decide (x4 < y4)
      · exact .inl ⟨rfl, rfl, rfl, rfl, hide (by rw [h9, e1, e2]; rfl)⟩
      · exact .inr ⟨rfl, rfl, rfl, rfl, hide (by rw [h9, e1, e2]; rfl)⟩
    clear hres
    go_wp2_with fail
    go_region
    all_goals
      clear u0 u1 u2 u3 u4 u5 u6 u7 u8 v0 v1 v2 v3 v4 v5 v6 v7 v8
      rcases hways with ⟨rfl, hr⟩ | ⟨rfl, rfl, hr⟩ | ⟨rfl, rfl, q1, hr⟩ | ⟨rfl, rfl, q1, q2, hr⟩ | ⟨rfl, rfl, q1, q2, hr⟩
      all_goals
        go_wp2_with fail
        go_ret
        exact ⟨ret_bool hr.out.symm, (((below_new w _).alloc (by simp) _).alloc (by simp; omega) _).drew⟩
end Go.Proofs.YtpmipoljnchheaaGreat
namespace Go.Proofs.YtpmipoljnchheaaGreat
open Go.RowKit

def ptBox (p : Pt) : BoxD := ⟨p, p⟩
set_option maxHeartbeats 2000000 in
set_option maxRecDepth 100000 in
theorem points_any (A : Option Addr) (l : List Pt) (n c : Nat) (w : World) {B : Nat} (h : PtsAt w B A l) (hB : B ≤ w.heap.size) (hn : n = l.length) (hm : n ≤ 1000) :
    Calls Tryz.prog 54 #[.slice A n c] w fun e w' => ∃ A' c', e = .returned (.slice A' n c') ∧ BoxesAt w' w'.heap.size A' (l.map ptBox) ∧ Below w.heap.size w w' := by
  have Hs := hide h
  have hn' := hide hn
  clear h hn
  go_enter Tryz.func54, Tryz.ntmps54
  go_wp2_with fail
  go_loopw [3, 8] (fun v i wr => ∃ k : Nat, k ≤ n ∧ i = .int .i64 k ∧ (∃ acc : List BoxD, Row wr w.heap.size 73 6 encB v acc ∧ Hid (acc = (l.take k).map ptBox)) ∧ Below w.heap.size w wr) (fun _ i _ => n - (intOf i).toNat)
  case atStart => exact ⟨0, Nat.zero_le _, rfl, ⟨[], Row.nil _ _ _ _ _, hide rfl⟩, Below.refl _ _⟩
  case round =>
    obtain ⟨k, hk, rfl, ⟨acc, hrow, hacc⟩, hbr⟩ := hrel
    obtain ⟨A0, c0, rfl⟩ := hrow.val
    have hal : acc.length ≤ 1000 := by rw [hacc.out, List.length_map, List.length_take]; omega
    have Hrow := hide hrow
    clear hrow
    by_cases hlt : k < n
    · obtain ⟨b, off, p, rfl, hbl, hx, e0, e1, e2⟩ := PtsAt.get (k := k) (Hs.out.carry (Flat.carried _) (hbr.mono hB) (Nat.le_refl _)) (by rw [← hn'.out]; exact hlt)
      have hbw : b < wr.heap.size := by have := hbr.size; omega
      have Hn := hide (show (l.take (k + 1)).map ptBox = acc ++ [ptBox p] by rw [take_snoc' hx, List.map_append, hacc.out]; rfl)
      obtain ⟨p1, p2, p3⟩ := p
      simp only at e0 e1 e2
      have hs1 := hbr.size
      clear hx hbl
      go_wp2_with (at_builtin; refine wpList_append1 rfl (.tmp 12) (.tmp 16) 22 rfl w.heap.size 73 (.agg #[.int .i64 0, .int .i64 0, .int .i64 0, .int .i64 0, .int .i64 0, .int .i64 0]) 6 48 encB Tryz.underlying22 (by kernel_rfl) rfl (by omega) encB_len encB_one _ acc (ptBox (p1, p2, p3)) rfl ((Hrow.out.alloc _).alloc _) _ rfl (Blk.new1 wr _ _ _) (by omega) (by omega) (le_alloc (le_alloc hs1 _) _) ?_; intro A1 c1 w6 hrow6 hb6 _)
      go_roundw
      case rel => exact ⟨k + 1, by omega, by go_num, ⟨acc ++ [ptBox (p1, p2, p3)], by simpa using hrow6, hide Hn.out.symm⟩, ((hbr.alloc hs1 _).alloc (le_alloc hs1 _) _).trans hb6⟩
      case measure => simp [intOf]; omega
    · obtain rfl : k = n := by omega
      have hf : acc = l.map ptBox := by rw [hacc.out, hn'.out, List.take_length]
      have hlen := hide (show acc.length = k by rw [hf, List.length_map]; exact hn'.out.symm)
      have Hr := hide (show BoxesAt wr wr.heap.size A0 (l.map ptBox) by rw [← hf]; exact Row.read Hrow.out encB_len (by omega))
      clear hf hacc Hrow
      generalize acc.length = m at *
      go_wp2_with fail
      go_ret
      exact ⟨A0, c0, by rw [← hlen.out]; rfl, Hr.out, hbr⟩
end Go.Proofs.YtpmipoljnchheaaGreat
namespace Go.Proofs.YtpmipoljnchheaaGreat
open Go.RowKit

/-- The six slices of a detail: addresses, lengths, capacities. -/
structure DetS where
  a1 : Option Addr
  n1 : Nat
  c1 : Nat
  a2 : Option Addr
  n2 : Nat
  c2 : Nat
  a3 : Option Addr
  n3 : Nat
  c3 : Nat
  a4 : Option Addr
  n4 : Nat
  c4 : Nat
  a5 : Option Addr
  n5 : Nat
  c5 : Nat
  a6 : Option Addr
  n6 : Nat
  c6 : Nat
abbrev detCells (m : MemD) (r : RuleD) (s : DetS) : Array Value :=
  #[.string m.name, .slice s.a1 s.n1 s.c1, .slice s.a2 s.n2 s.c2, .int .i64 m.cover, .int .i64 m.aggregate, .int .i64 m.poker, .slice s.a3 s.n3 s.c3, .slice s.a4 s.n4 s.c4, .slice s.a5 s.n5 s.c5, .slice s.a6 s.n6 s.c6,
    .int .i64 r.num, .int .i64 r.den, .int .i64 r.poorNum, .int .i64 r.poorDen, .int .i64 r.bendNum, .int .i64 r.bendDen, .int .i64 r.lapNum, .int .i64 r.lapDen, .int .i64 r.least]
abbrev detV (x : DetD) (s : DetS) : Value := .agg (detCells x.mem x.rule s)
structure DetAt (w : World) (B : Nat) (x : DetD) (s : DetS) : Prop where
  h1 : BoxesAt w B s.a1 x.mem.boxes
  h2 : BoxesAt w B s.a2 x.mem.holes
  h3 : BarsAt w B s.a3 x.bars
  h4 : RunsAt w B s.a4 x.runs
  h5 : JoinsAt w B s.a5 x.laps
  h6 : DemsAt w B s.a6 x.dems
theorem DetAt.carry {w w' : World} {B B' : Nat} {x : DetD} {s : DetS} (h : DetAt w B x s) (hb : Below B w w') (hB : B ≤ B') : DetAt w' B' x s :=
  ⟨h.h1.carry (Flat.carried _) hb hB, h.h2.carry (Flat.carried _) hb hB, h.h3.carry hb hB, h.h4.carry (Flat.carried _) hb hB, h.h5.carry (Flat.carried _) hb hB, SlOf.carry demR_carried h.h6 hb hB⟩
/-- The lengths, and what bounds the sizes. -/
structure DetFit (x : DetD) (s : DetS) : Prop where
  l1 : s.n1 = x.mem.boxes.length
  l2 : s.n2 = x.mem.holes.length
  l3 : s.n3 = x.bars.length
  l4 : s.n4 = x.runs.length
  l5 : s.n5 = x.laps.length
  l6 : s.n6 = x.dems.length
  m3 : s.n3 ≤ 60000
  m4 : s.n4 ≤ 60000
  m5 : s.n5 ≤ 60000
  m6 : s.n6 ≤ 60000
  k6 : s.n6 ≤ s.c6
  name : x.mem.name.size ≤ maxLen
  tame : Tame x.bars
  dems : DemTame x.dems
/-- A row that the call made, as a block that is known. -/
theorem row_blk {α : Type} {w : World} {base size : Nat} {e : TypeId} {enc : α → List Value} {A : Option Addr} {n c : Nat} {l : List α} (h : Row w base e size enc (.slice A n c) l) (hl : 0 < l.length) :
    ∃ g cs, A = some ⟨g, 0, none⟩ ∧ base ≤ g ∧ Blk w g e cs ∧ ∀ (j : Nat) (u : Value), (l.flatMap enc)[j]? = some u → cs[j]? = some u := by
  rcases h.2 with ⟨_, hn⟩ | ⟨g, cap, cur, hv, hb, hh, _, _, _, ht⟩
  · omega
  · injection hv with hA _ _
    refine ⟨g, cur, hA, hb, hh, fun j u hu => ?_⟩
    rw [← ht, List.getElem?_take] at hu
    split at hu
    · simpa using hu
    · cases hu
theorem blk_sl {α : Type} {w : World} {g B size : Nat} {e : TypeId} {enc : α → List Value} {cs : Array Value} {l : List α} (he : ∀ x, (enc x).length = size) (h : Blk w g e cs) (hc : ∀ (j : Nat) (u : Value), (l.flatMap enc)[j]? = some u → cs[j]? = some u) (hg : g < B) : SlOf w B size (Flat enc) (some ⟨g, 0, none⟩) l :=
  SlOf.of_row (xs := l.flatMap enc) hg (fun j u hu => by rw [h.cell]; exact hc j u hu) (fun k x hx => ⟨enc x, he x, rfl, fun j v hj => flatMap_get he l k x hx j v hj⟩)
theorem runOk_mul {bars : List BarD} {r : RunD} (h : runOk bars r = true) {k : Int} (h0 : 0 ≤ k) (h1 : k < r.count) : nearBy 1099511627776 (mulP k r.step) = true := by
  have hc := runOk_count h
  simp only [runOk, runHead, Bool.and_eq_true, Bool.or_eq_true, decide_eq_true_eq] at h
  rcases h.1.1.2 with h9 | h9
  · obtain rfl : k = 0 := by omega
    simp [mulP, nearBy, within]
  · exact step_near h9.2 h0 (by omega)
end Go.Proofs.YtpmipoljnchheaaGreat
