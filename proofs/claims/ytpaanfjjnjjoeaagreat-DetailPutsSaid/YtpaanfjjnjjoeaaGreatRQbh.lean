/- What boxes cover a box: box.parts, box.Covers, solid.Contains, at any box. -/
import Derived.Test.YtpaanfjjnjjoeaaGreatRQbe
import Derived.Test.YtpaanfjjnjjoeaaGreatRQaa
import Derived.Test.YtpaanfjjnjjoeaaGreatRQae
namespace Go.Proofs.YtpaanfjjnjjoeaaGreat
open Go.RowKit
theorem stps_lit (w : World) (e : TypeId) (a b : Int) {B : Nat} (hB : w.heap.size < B) : SlOf (w.alloc (.cells #[.int .i64 a, .int .i64 b] e)) B 2 (Flat encStp) (some ⟨w.heap.size, 0, none⟩) [(a, b)] :=
 SlOf.lit (enc := encStp) encStp_len w e _ [(a, b)] rfl hB
set_option maxHeartbeats 1000000 in
theorem parts_one (A : Option Addr) (l : List BoxD) (n c : Nat) (b : BoxD) (k : Nat) (u : Int) (w : World) (h : (axes b)[k]? = some (u, u)) :
  Calls Tryz.prog 321 #[.slice A n c, bx b, .int .i64 k] w fun e w' => ∃ A' c', e = .returned (.slice A' (partsAt l k u u).length c') ∧ SlOf w' w'.heap.size 2 (Flat encStp) A' (partsAt l k u u) ∧ Below w.heap.size w w' := by
 have HE := hide (fun W => ends_any b k (u, u) h W)
 have Hp := hide (show partsAt l k u u = [(u, u)] by rw [partsAt, if_pos rfl])
 obtain ⟨⟨x, y, z⟩, x2, y2, z2⟩ := b
 clear h
 have HW := hide (below_new w (.cells #[.int .i64 x, .int .i64 y, .int .i64 z, .int .i64 x2, .int .i64 y2, .int .i64 z2] 62))
 go_enter Tryz.func321, Tryz.ntmps321
 go_wp2_with fail
 refine (HE.out _).mono ?_
 rintro e w2 ⟨rfl, hb⟩
 have HB := hide (below_step HW.out hb (Nat.le_refl _))
 have hz : w.heap.size ≤ w2.heap.size := HB.out.size
 clear hb HE
 go_wp2_with fail
 go_ret
 exact ⟨_, 1, by rw [Hp.out]; rfl, by rw [Hp.out]; exact stps_lit w2 _ u u (by simp), HB.out.alloc hz _⟩
set_option maxHeartbeats 4000000 in
set_option maxRecDepth 100000 in
theorem parts_more (HS : SortLaw) (HC : CompLaw) (A : Option Addr) (l : List BoxD) (n c : Nat) (b : BoxD) (k : Nat) (u v : Int) (w : World) {B : Nat} (hl : BoxesAt w B A l) (hB : B ≤ w.heap.size) (hn : n = l.length) (hm : n ≤ 40) (h : (axes b)[k]? = some (u, v)) (hne : u ≠ v) :
  Calls Tryz.prog 321 #[.slice A n c, bx b, .int .i64 k] w fun e w' => ∃ A' c', e = .returned (.slice A' (partsAt l k u v).length c') ∧ SlOf w' w'.heap.size 2 (Flat encStp) A' (partsAt l k u v) ∧ Below w.heap.size w w' := by
 have HE := hide (fun W => ends_any b k (u, v) h W)
 have HF := hide (fun (x : BoxD) (lo hi : Int) (hx : (axes x)[k]? = some (lo, hi)) (W : World) => ends_any x k (lo, hi) hx W)
 have hk : k < 3 := by have := lt_of_get h; simpa [axes] using this
 have HX := hide (fun (x : BoxD) => show ∃ p, (axes x)[k]? = some p from ⟨_, List.getElem?_eq_getElem (by simpa [axes] using hk)⟩)
 have Hp := hide (parts_places (l := l) (k := k) hne)
 have Hsl := hide (show placesAt l k u v = Lib.compact ((u :: v :: cutAt l k u v).mergeSort fun x y => decide (x ≤ y)) from rfl)
 have Hpl := hide (places_len (k := k) (u := u) (v := v) (show l.length ≤ 40 by omega))
 have Hpn := hide (places_ne (l := l) (k := k) (u := u) (v := v))
 have Hpa := hide (fun (q : Nat) (a b : Int) => pairs_at (placesAt l k u v) q a b)
 have Hpe := hide (pairs_len (placesAt l k u v))
 have Hct := hide (fun (q : Nat) (hq : q ≤ l.length) => cutTo_len l k u v q hq)
 have Hcz := hide (cutTo_zero l k u v)
 have Hcs := hide (fun (q : Nat) (x : BoxD) (lo hi : Int) (hx : l[q]? = some x) (hp : (axes x)[k]? = some (lo, hi)) => cutTo_succ (u := u) (v := v) hx hp)
 have Hca := hide (show cutTo l k u v n = cutAt l k u v by rw [hn]; exact cutTo_all l k u v)
 generalize partsAt l k u v = PS at *
 generalize placesAt l k u v = S at *
 generalize cutAt l k u v = CA at *
 generalize cutTo l k u v = CT at *
 have H3 := hide (fun (W : World) (hz : Below w.heap.size w W) => hl.carry (Flat.carried _) (hz.mono hB) (Nat.le_refl B))
 have Hn := hide hn
 have huv : (u == v) = false := by simpa using hne
 obtain ⟨⟨x, y, z⟩, x2, y2, z2⟩ := b
 have HW := hide (below_new w (.cells #[.int .i64 x, .int .i64 y, .int .i64 z, .int .i64 x2, .int .i64 y2, .int .i64 z2] 62))
 clear h hl hB hn hne hk
 go_enter Tryz.func321, Tryz.ntmps321
 go_wp2_with fail
 refine (HE.out _).mono ?_
 rintro e w2 ⟨rfl, hb⟩
 have HB := hide (below_step HW.out hb (Nat.le_refl _))
 have hz : w.heap.size ≤ w2.heap.size := HB.out.size
 clear hb HE HW
 have hrow := World.ownsRow_lit (base := w2.heap.size) (e := 3) (size := 1) w2 #[.int .i64 u, .int .i64 v] 2 (by simp) (by unfold maxLen; omega) rfl
 have Hrow := hide (show Row (w2.alloc (.cells #[.int .i64 u, .int .i64 v] 3)) w2.heap.size 3 1 encInt (.slice (some ⟨w2.heap.size, 0, none⟩) 2 2) [u, v] from hrow)
 clear hrow
 have HBr := hide (HB.out.alloc hz (.cells #[.int .i64 u, .int .i64 v] 3))
 go_wp2_with fail
 go_loopw [9, 36] (fun vv iv wr => ∃ q : Nat, q ≤ n ∧ iv = .int .i64 q ∧ (∃ acc : List Int, Row wr w2.heap.size 3 1 encInt vv acc ∧ Hid (acc = u :: v :: CT q)) ∧ Below w2.heap.size w2 wr) (fun _ iv _ => n - (intOf iv).toNat)
 case atStart => exact ⟨0, Nat.zero_le _, rfl, ⟨[u, v], Hrow.out, hide (by rw [Hcz.out])⟩, below_new _ _⟩
 case round =>
  clear Hrow HBr
  rename World => wo
  obtain ⟨q, hq, rfl, ⟨acc, hrow, hacc⟩, hbr⟩ := hrel
  obtain ⟨A0, c0, rfl⟩ := hrow.val
  have hbs := hbr.size
  have hal : acc.length ≤ 2 * q + 2 := by
   rw [hacc.out]
   have := Hct.out q (by rw [← Hn.out]; exact hq)
   simp only [List.length_cons]
   omega
  by_cases hlt : q < n
  ·obtain ⟨bb, off, xb, rfl, hbl, hx, h0, h1, h2, h3, h4, h5⟩ := BoxesAt.get (k := q) (H3.out _ (below_step HB.out hbr (Nat.le_refl _))) (by rw [← Hn.out]; exact hlt)
   obtain ⟨⟨lo, hi⟩, hp⟩ := HX.out xb
   have Hs := hide (Hcs.out q xb lo hi hx hp)
   have HFx := hide (fun W => HF.out xb lo hi hp W)
   have Hrow := hide (hrow.alloc (.cells #[.int .i64 xb.lo.1, .int .i64 xb.lo.2.1, .int .i64 xb.lo.2.2, .int .i64 xb.hi.1, .int .i64 xb.hi.2.1, .int .i64 xb.hi.2.2] 62))
   have HBa := hide (hbr.alloc hbs (.cells #[.int .i64 xb.lo.1, .int .i64 xb.lo.2.1, .int .i64 xb.lo.2.2, .int .i64 xb.hi.1, .int .i64 xb.hi.2.1, .int .i64 xb.hi.2.2] 62))
   obtain ⟨⟨x1, x2, x3⟩, x4, x5, x6⟩ := xb
   simp only at h0 h1 h2 h3 h4 h5 HFx Hrow HBa
   clear hx hp hbl hrow hbr
   go_wp2_with fail
   refine (HFx.out _).mono ?_
   rintro e w3 ⟨rfl, hb3⟩
   have Hrow3 := hide (Hrow.out.keep hb3)
   have HB3 := hide (below_step HBa.out hb3 (Nat.le_refl _))
   have hs3 : w2.heap.size ≤ w3.heap.size := HB3.out.size
   have HR0 := hide (Hrow3.out.alloc (.cells #[.int .i64 lo, .int .i64 hi] 3))
   have HA0 := hide (apart_new Hrow3.out (Nat.le_refl _))
   have HB0 := hide (HB3.out.alloc hs3 (.cells #[.int .i64 lo, .int .i64 hi] 3))
   have HK0 := hide (Blk.new w3 3 #[.int .i64 lo, .int .i64 hi])
   have hgl : w2.heap.size ≤ w3.heap.size := hs3
   clear hb3 HFx Hrow HBa h0 h1 h2 h3 h4 h5
   obtain ⟨gL, hgL⟩ : ∃ gL, gL = w3.heap.size := ⟨_, rfl⟩
   rw [← hgL] at HA0 HK0 hgl
   have hgw : gL < (w3.alloc (.cells #[.int .i64 lo, .int .i64 hi] 3)).heap.size := by simp; omega
   obtain ⟨w4, hw4⟩ : ∃ w4, w4 = w3.alloc (.cells #[.int .i64 lo, .int .i64 hi] 3) := ⟨_, rfl⟩
   rw [← hw4] at HR0 HB0 HK0 hgw
   go_wp2_with fail
   rw [← hw4, ← hgL]
   clear hw4 hgL hs3 Hrow3 HB3
   go_loopw [9, 50] (fun vv iv wr => ∃ j : Nat, j ≤ 2 ∧ iv = .int .i64 j ∧ (∃ acc2 : List Int, Row wr w2.heap.size 3 1 encInt vv acc2 ∧ Apart vv gL ∧ Hid (acc2 = acc ++ ([lo, hi].take j).filter (betw u v))) ∧ Blk wr gL 3 #[.int .i64 lo, .int .i64 hi] ∧ Below w2.heap.size w2 wr) (fun _ iv _ => 2 - (intOf iv).toNat)
   case atStart => exact ⟨0, Nat.zero_le _, rfl, ⟨acc, HR0.out, HA0.out, hide (by simp)⟩, HK0.out, HB0.out⟩
   case round =>
    clear HR0 HA0 HB0 HK0
    rename World => wr
    obtain ⟨j, hj, rfl, ⟨acc2, hrow, hap, hacc2⟩, hk0, hbr⟩ := hrel
    obtain ⟨A1, c1, rfl⟩ := hrow.val
    have hbs := hbr.size
    have hal2 : acc2.length ≤ 100 := by
     have h9 : (([lo, hi].take j).filter (betw u v)).length ≤ 2 := Nat.le_trans (List.length_filter_le _ _) (by rw [List.length_take]; simp; omega)
     rw [hacc2.out, List.length_append]
     omega
    by_cases hlt2 : j < 2
    ·obtain ⟨m, hm2⟩ : ∃ m, [lo, hi][j]? = some m := ⟨_, List.getElem?_eq_getElem (by simpa using hlt2)⟩
     have hcell : wr.cell? ⟨gL, j, none⟩ = some (.int .i64 m) := by
      rw [hk0.cell]
      rcases Nat.lt_or_ge j 1 with h9 | h9
      ·obtain rfl : j = 0 := by omega
       simp at hm2 ⊢
       exact hm2
      ·obtain rfl : j = 1 := by omega
       simp at hm2 ⊢
       exact hm2
     have hT := take_snoc' hm2
     have hnx : ∀ t, betw u v m = t → acc ++ ([lo, hi].take (j + 1)).filter (betw u v) = acc2 ++ (if t then [m] else []) := by
      intro t ht
      rw [hT, List.filter_append, ← List.append_assoc, ← hacc2.out]
      cases t <;> simp [ht]
     have Hnx := hide hnx
     have hways : (decide (u < m) = false ∧ betw u v m = false) ∨ (decide (u < m) = true ∧ decide (m < v) = false ∧ betw u v m = false) ∨ (decide (u < m) = true ∧ decide (m < v) = true ∧ betw u v m = true) := by
      unfold betw
      cases decide (u < m) <;> cases decide (m < v) <;> simp
     have Hrow := hide hrow
     have Hap := hide hap
     have HK := hide hk0
     have HBr := hide hbr
     have hgr : gL < wr.heap.size := hk0.lt
     clear hm2 hT hnx hrow hap hk0 hbr hacc2
     rcases hways with ⟨q0, hr⟩ | ⟨q0, q1, hr⟩ | ⟨q0, q1, hr⟩
     ·have Hf := hide (Hnx.out _ hr)
      clear hr Hnx
      go_wp2_with fail
      go_roundw
      case rel => exact ⟨j + 1, by omega, by go_num, ⟨acc2, Hrow.out, Hap.out, hide (by rw [Hf.out]; simp)⟩, HK.out, HBr.out⟩
      case measure => simp [intOf]; omega
     ·have Hf := hide (Hnx.out _ hr)
      clear hr Hnx
      go_wp2_with fail
      go_roundw
      case rel => exact ⟨j + 1, by omega, by go_num, ⟨acc2, Hrow.out, Hap.out, hide (by rw [Hf.out]; simp)⟩, HK.out, HBr.out⟩
      case measure => simp [intOf]; omega
     ·have Hf := hide (Hnx.out _ hr)
      clear hr Hnx
      go_wp2_with (at_builtin; refine wp_append1x rfl (.tmp 62) (.tmp 64) 48 rfl w2.heap.size 3 (.int .i64 0) 1 8 encInt Tryz.underlying48 (by kernel_rfl) rfl (by omega) encInt_len encInt_one _ acc2 m rfl (Hrow.out.alloc _) _ rfl (Blk.new wr _ _) (by omega) (by omega) (le_alloc hbs _) ?_; intro A9 c9 w9 hrow9 hb9 hkeep9 hap9)
      go_roundw
      case rel => exact ⟨j + 1, by omega, by go_num, ⟨acc2 ++ [m], by simpa using hrow9, hap9 gL (by simp; omega) Hap.out, hide (by rw [Hf.out]; simp)⟩, hkeep9 _ _ _ Hap.out (HK.out.alloc _), (HBr.out.alloc hbs _).trans hb9⟩
      case measure => simp [intOf]; omega
    ·obtain rfl : j = 2 := by omega
     have Hf := hide (show acc2 = u :: v :: CT (q + 1) by rw [hacc2.out, Hs.out, hacc.out]; simp)
     have Hrow := hide hrow
     have HBr := hide hbr
     clear hacc2 hrow hbr hap hk0 Hs hacc
     go_wp2_with fail
     go_roundw
     case rel => exact ⟨q + 1, by omega, by go_num, ⟨acc2, Hrow.out, Hf⟩, HBr.out⟩
     case measure => simp [intOf]; omega
  ·obtain rfl : q = n := by omega
   have hS : S = Lib.compact (acc.mergeSort fun x y => decide (x ≤ y)) := by rw [hacc.out, Hca.out, Hsl.out]
   have HS1 := hide (fun W (h : Row W w2.heap.size 3 1 encInt (.slice A0 acc.length c0) acc) => HS A0 acc acc.length c0 w2.heap.size W h (by omega))
   have hl2 : (acc.mergeSort fun x y => decide (x ≤ y)).length = acc.length := List.length_mergeSort acc
   have HC1 := hide (fun W (h : Row W w2.heap.size 3 1 encInt (.slice A0 acc.length c0) (acc.mergeSort fun x y => decide (x ≤ y))) => HC A0 (acc.mergeSort fun x y => decide (x ≤ y)) acc.length c0 w2.heap.size W h (by rw [hl2]; omega))
   have Hrow := hide hrow
   have HBr := hide (below_step HB.out hbr (Nat.le_refl _))
   generalize (acc.mergeSort fun x y => decide (x ≤ y)) = ms at *
   rw [← hS] at HC1
   have hSl := Hpl.out
   have hSn := Hpn.out
   clear hS hl2 hrow hacc hbr hbs
   go_wp2_with fail
   refine (HS1.out _ Hrow.out).mono ?_
   rintro e w3 ⟨rfl, hrow3, hb3⟩
   have Hrow3 := hide hrow3
   have HB3 := hide (HBr.out.trans (hb3.mono HB.out.size))
   clear hrow3 hb3 HS1 Hrow HBr
   go_wp2_with fail
   refine (HC1.out _ Hrow3.out).mono ?_
   rintro e w4 ⟨A4, rfl, hrow4, hb4⟩
   have Hrow4 := hide (Row.read hrow4 encInt_len (by omega))
   have HB4 := hide (HB3.out.trans (hb4.mono HB.out.size))
   obtain ⟨N, hN⟩ : ∃ N, N = S.length := ⟨_, rfl⟩
   have HNN := hide hN
   rw [← hN] at hSl hSn ⊢
   clear hrow4 hb4 HC1 Hrow3 HB3 hN
   go_wp2_with fail
   go_loopw [16, 17] (fun vv iv wr => ∃ q : Nat, q + 1 ≤ N ∧ iv = .int .i64 ((q : Int) + 1) ∧ (∃ acc : List (Int × Int), Row wr w4.heap.size 344 2 encStp vv acc ∧ Hid (acc = (pairsOf S).take q)) ∧ Below w4.heap.size w4 wr) (fun _ iv _ => N - (intOf iv).toNat)
   case atStart => exact ⟨0, by omega, rfl, ⟨[], Row.nil _ _ _ _ _, hide rfl⟩, Below.refl _ _⟩
   case round =>
    rename World => wr
    obtain ⟨q, hq, rfl, ⟨acc, hrow, hacc⟩, hbr⟩ := hrel
    obtain ⟨A1, c1, rfl⟩ := hrow.val
    have hbs := hbr.size
    have hal : acc.length ≤ q := by rw [hacc.out]; exact List.length_take_le _ _
    by_cases hlt : q + 1 < N
    ·obtain ⟨g, off, a, rfl, hbl, hxa, hca⟩ := Ints.get (k := q) Hrow4.out (by rw [← HNN.out]; omega)
     obtain ⟨g', off', b, hA', hbl', hxb, hcb⟩ := Ints.get (k := q + 1) Hrow4.out (by rw [← HNN.out]; exact hlt)
     injection hA' with hA'
     injection hA' with hA1 hA2
     subst hA1
     subst hA2
     rw [← hbr.cell (by exact hbl)] at hca hcb
     have Hpr := hide (take_snoc' (Hpa.out q a b hxa hxb))
     have z1 : IntKind.i64.wrap ((q : Int) + 1 - 1) = (q : Int) := by rw [Int.add_sub_cancel]; exact IntWalk.i64_in _ (by omega)
     have z3 : IntKind.i64.wrap ((q : Int) + 1 + 1) = (q : Int) + 1 + 1 := IntWalk.i64_in _ (by omega)
     have z4 : ((q : Int) + 1).toNat = q + 1 := by omega
     have z5 : (0 : Int) ≤ (q : Int) + 1 := by omega
     have z6 : (q : Int) + 1 < (N : Int) := by omega
     have z7 : (0 : Int) ≤ (q : Int) := by omega
     have z8 : (q : Int) < (N : Int) := by omega
     have zn : q < N := by omega
     have z2 : IntKind.i64.wrap (q : Int) = (q : Int) := IntWalk.i64_in _ (by omega)
     have hgl : g < wr.heap.size := Nat.lt_of_lt_of_le hbl hbs
     have hg4 : g < w4.heap.size := hbl
     have Hrow := hide hrow
     have HBr := hide hbr
     clear hxa hxb hbl hbl' hrow hbr
     go_wp2_with fail
     go_region_held3 (fun w' => w'.cell? ⟨g, off + q, none⟩ = some (.int .i64 a) ∧ w'.cell? ⟨g, off + (q + 1), none⟩ = some (.int .i64 b)) (first | go_keep | (exact ⟨by rw [hb5.cell (by exact hg4)]; simp [World.cell?_drew, World.cell?_alloc_lt, hgl, hca], by rw [hb5.cell (by exact hg4)]; simp [World.cell?_drew, World.cell?_alloc_lt, hgl, hcb]⟩))
      ((refine step_append1 (by rfl) (.tmp 78) (.tmp 89) 342 (by rfl) w4.heap.size 344 (.agg #[.int .i64 0, .int .i64 0]) 2 16 encStp Tryz.underlying342 (by kernel_rfl) rfl (by omega) encStp_len encStp_one _ acc (a, b) (by rfl) ((Hrow.out.drew).alloc _) _ (by rfl) (Blk.new _ _ _) (by omega) (by omega) (le_alloc hbs _) ?_; intro A5 c5 w5 hrow5 hb5 hkeep5))
     have hb53 := hide (((HBr.out.alloc hbs _).drew).trans hb5)
     clear hkeep5 hb5
     go_wp2_with fail
     go_roundw
     case rel => exact ⟨q + 1, by omega, by go_num, ⟨acc ++ [(a, b)], by simpa using hrow5, hide (by rw [Hpr.out, ← hacc.out])⟩, hb53.out⟩
     case measure => simp [intOf]; omega
    ·have hfin : acc = PS := by
      rw [hacc.out, Hp.out, List.take_of_length_le]
      rw [Hpe.out, ← HNN.out]
      omega
     have Hrow := hide (Row.read hrow encStp_len (by omega))
     have HBr := hide (below_step HB4.out hbr (Nat.le_refl _))
     have Hf := hide hfin
     have hlt2 : N ≤ q + 1 := by omega
     clear hrow hbr hacc hfin
     go_wp2_with fail
     go_ret
     rw [← Hf.out]
     exact ⟨A1, c1, rfl, Hrow.out, HBr.out⟩
theorem parts_any (HS : SortLaw) (HC : CompLaw) (A : Option Addr) (l : List BoxD) (n c : Nat) (b : BoxD) (k : Nat) (u v : Int) (w : World) {B : Nat} (hl : BoxesAt w B A l) (hB : B ≤ w.heap.size) (hn : n = l.length) (hm : n ≤ 40) (h : (axes b)[k]? = some (u, v)) :
  Calls Tryz.prog 321 #[.slice A n c, bx b, .int .i64 k] w fun e w' => ∃ A' c', e = .returned (.slice A' (partsAt l k u v).length c') ∧ SlOf w' w'.heap.size 2 (Flat encStp) A' (partsAt l k u v) ∧ Below w.heap.size w w' := by
 by_cases hne : u = v
 ·subst hne
  exact parts_one A l n c b k u w h
 ·exact parts_more HS HC A l n c b k u v w hl hB hn hm h hne
set_option maxHeartbeats 8000000 in
set_option maxRecDepth 100000 in
theorem covers_any (HS : SortLaw) (HC : CompLaw) (A : Option Addr) (l : List BoxD) (n c : Nat) (b : BoxD) (w : World) {B : Nat} (h : BoxesAt w B A l) (hB : B ≤ w.heap.size) (hn : n = l.length) (hm : n ≤ 40) (hok : l.all boxOk = true) (hbk : boxOk b = true) :
  Calls Tryz.prog 302 #[.slice A n c, bx b] w fun e w' => e = .returned (.tuple #[.bool (coversB l b), .int .i64 0]) ∧ Below w.heap.size w w' := by
 have HA := hide (fun (W : World) (hz : Below w.heap.size w W) => boxAll_any A l n c W (h.carry (Flat.carried _) (hz.mono hB) (Nat.le_refl _)) (Nat.le_trans hB hz.size) hn (by omega))
 rw [hok] at HA
 have HV := hide (fun W => boxValid_any b W)
 rw [hbk] at HV
 have HP0 := hide (fun (W : World) (hz : Below w.heap.size w W) => parts_any HS HC A l n c b 0 b.lo.1 b.hi.1 W (h.carry (Flat.carried _) (hz.mono hB) (Nat.le_refl _)) (Nat.le_trans hB hz.size) hn hm rfl)
 have HP1 := hide (fun (W : World) (hz : Below w.heap.size w W) => parts_any HS HC A l n c b 1 b.lo.2.1 b.hi.2.1 W (h.carry (Flat.carried _) (hz.mono hB) (Nat.le_refl _)) (Nat.le_trans hB hz.size) hn hm rfl)
 have HP2 := hide (fun (W : World) (hz : Below w.heap.size w W) => parts_any HS HC A l n c b 2 b.lo.2.2 b.hi.2.2 W (h.carry (Flat.carried _) (hz.mono hB) (Nat.le_refl _)) (Nat.le_trans hB hz.size) hn hm rfl)
 have HCC := hide (fun (q : BoxD) (W : World) (hz : Below w.heap.size w W) (g : Nat) (hg : Blk W g 62 #[.int .i64 q.lo.1, .int .i64 q.lo.2.1, .int .i64 q.lo.2.2, .int .i64 q.hi.1, .int .i64 q.hi.2.1, .int .i64 q.hi.2.2]) => containsFuncBoxC_any A l n c 322 #[.pointer (some ⟨g, 0, none⟩)] (holdsAt q) W (h.carry (Flat.carried _) (hz.mono hB) (Nat.le_refl _)) (Nat.le_trans hB hz.size) hn (by omega) Tryz.call322 (fun a W2 _ hb2 => holdsAt_any a q g W2 (hg.keep hb2)))
 obtain ⟨FF, hFF⟩ : ∃ FF : Int × Int → Int × Int → Int × Int → Bool, FF = fun x y z => someOf (holdsAt (partBox x y z)) l := ⟨_, rfl⟩
 have Hff := hide (fun x y z => show someOf (holdsAt (partBox x y z)) l = FF x y z by rw [hFF])
 have Hr := hide (show coversB l b = (partsAt l 0 b.lo.1 b.hi.1).all fun x => (partsAt l 1 b.lo.2.1 b.hi.2.1).all fun y => (partsAt l 2 b.lo.2.2 b.hi.2.2).all fun z => FF x y z by rw [hFF]; rfl)
 have hX := parts_len (k := 0) (u := b.lo.1) (v := b.hi.1) (show l.length ≤ 40 by omega)
 have hY := parts_len (k := 1) (u := b.lo.2.1) (v := b.hi.2.1) (show l.length ≤ 40 by omega)
 have hZ := parts_len (k := 2) (u := b.lo.2.2) (v := b.hi.2.2) (show l.length ≤ 40 by omega)
 obtain ⟨RES, hRES⟩ : ∃ r, r = coversB l b := ⟨_, rfl⟩
 rw [← hRES] at Hr ⊢
 generalize partsAt l 0 b.lo.1 b.hi.1 = PX at *
 generalize partsAt l 1 b.lo.2.1 b.hi.2.1 = PY at *
 generalize partsAt l 2 b.lo.2.2 b.hi.2.2 = PZ at *
 obtain ⟨NX, hNX⟩ : ∃ N, N = PX.length := ⟨_, rfl⟩
 obtain ⟨NY, hNY⟩ : ∃ N, N = PY.length := ⟨_, rfl⟩
 obtain ⟨NZ, hNZ⟩ : ∃ N, N = PZ.length := ⟨_, rfl⟩
 rw [← hNX] at HP0 hX
 rw [← hNY] at HP1 hY
 rw [← hNZ] at HP2 hZ
 have HNX := hide hNX
 have HNY := hide hNY
 have HNZ := hide hNZ
 obtain ⟨⟨x, y, z⟩, x2, y2, z2⟩ := b
 have K0 := hide (Blk.new w 62 #[.int .i64 x, .int .i64 y, .int .i64 z, .int .i64 x2, .int .i64 y2, .int .i64 z2])
 have HW := hide (below_new w (.cells #[.int .i64 x, .int .i64 y, .int .i64 z, .int .i64 x2, .int .i64 y2, .int .i64 z2] 62))
 have dm : decide (40 < (n : Int)) = false := by simp; omega
 clear h hB hn hok hbk hFF hRES hNX hNY hNZ
 go_enter Tryz.func302, Tryz.ntmps302
 go_wp2_with fail
 refine (HA.out _ HW.out).mono ?_
 rintro e w1 ⟨rfl, hb⟩
 replace K0 := hide (K0.out.keep hb)
 replace HW := hide (below_step HW.out hb (Nat.le_refl _))
 have c0 := K0.out.cell 0
 have c1 := K0.out.cell 1
 have c2 := K0.out.cell 2
 have c3 := K0.out.cell 3
 have c4 := K0.out.cell 4
 have c5 := K0.out.cell 5
 simp at c0 c1 c2 c3 c4 c5
 have lk := K0.out.lt
 clear hb HA
 go_wp2_with fail
 refine (HV.out _).mono ?_
 rintro e w2 ⟨rfl, hb⟩
 replace K0 := hide (K0.out.keep hb)
 replace HW := hide (below_step HW.out hb (Nat.le_refl _))
 clear c0 c1 c2 c3 c4 c5 lk
 have c0 := K0.out.cell 0
 have c1 := K0.out.cell 1
 have c2 := K0.out.cell 2
 have c3 := K0.out.cell 3
 have c4 := K0.out.cell 4
 have c5 := K0.out.cell 5
 simp at c0 c1 c2 c3 c4 c5
 have lk := K0.out.lt
 clear hb HV
 go_wp2_with fail
 refine (HP0.out _ HW.out).mono ?_
 rintro e w3 ⟨AX, cX, rfl, hsX, hb⟩
 have K3 := hide (K0.out.keep hb)
 have HW3 := hide (below_step HW.out hb (Nat.le_refl _))
 have HSX := hide hsX
 obtain ⟨gB, hgB⟩ : ∃ g, g = w.heap.size := ⟨_, rfl⟩
 have hg3 := K3.out.lt
 clear hb HP0 hsX c0 c1 c2 c3 c4 c5 lk HW K0
 go_wp2_with fail
 go_loopw [30] (fun iv wr => ∃ q : Nat, q ≤ NX ∧ iv = .int .i64 q ∧ Hid (RES = (PX.drop q).all fun x => PY.all fun y => PZ.all fun z => FF x y z) ∧ Below w3.heap.size w3 wr) (fun iv _ => NX - (intOf iv).toNat)
 case atStart => exact ⟨0, Nat.zero_le _, rfl, Hr, Below.refl _ _⟩
 case round =>
  clear Hr
  rename World => wa
  obtain ⟨q, hq, rfl, hres, hbr⟩ := hrel
  by_cases hlt : q < NX
  ·obtain ⟨bX, oX, px, rfl, hblX, hxX, hX0, hX1⟩ := StpsAt.get (k := q) HSX.out (by rw [← HNX.out]; exact hlt)
   rw [← hbr.cell (by exact hblX)] at hX0 hX1
   have Hres := hide (show RES = ((PY.all fun y => PZ.all fun z => FF px y z) && (PX.drop (q + 1)).all fun x => PY.all fun y => PZ.all fun z => FF x y z) by rw [hres.out, drop_at' hxX, List.all_cons])
   have hba := hbr.size
   have hbX' : bX < wa.heap.size := Nat.lt_of_lt_of_le hblX hba
   have K4 := hide ((K3.out.below hbr hg3).alloc (.cells #[.int .i64 px.1, .int .i64 px.2] 344))
   have KX := hide (Blk.new wa 344 #[.int .i64 px.1, .int .i64 px.2])
   have HBa := hide (hbr.alloc hba (.cells #[.int .i64 px.1, .int .i64 px.2] 344))
   have c0 := K4.out.cell 0
   have c1 := K4.out.cell 1
   have c2 := K4.out.cell 2
   have c3 := K4.out.cell 3
   have c4 := K4.out.cell 4
   have c5 := K4.out.cell 5
   simp at c0 c1 c2 c3 c4 c5
   obtain ⟨xa, xb⟩ := px
   simp only at hX0 hX1 Hres K4 KX HBa
   clear hxX hres hbr hblX
   obtain ⟨R1, hR1⟩ : ∃ r, r = ((PX.drop (q + 1)).all fun x => PY.all fun y => PZ.all fun z => FF x y z) := ⟨_, rfl⟩
   rw [← hR1] at Hres
   have HR1 := hide hR1
   clear hR1
   go_wp2_with fail
   refine (HP1.out _ (below_step HW3.out HBa.out (Nat.le_refl _))).mono ?_
   rintro e w4 ⟨AY, cY, rfl, hsY, hb⟩
   have K5 := hide (K4.out.keep hb)
   have KX5 := hide (KX.out.keep hb)
   have HB4 := hide (below_step HBa.out hb (Nat.le_refl _))
   have HW4 := hide (below_step HW3.out HB4.out (Nat.le_refl _))
   have HSY := hide hsY
   have hg5 := K5.out.lt
   have hgx5 := KX5.out.lt
   obtain ⟨gX, hgX⟩ : ∃ g, g = wa.heap.size := ⟨_, rfl⟩
   rw [← hgX] at KX5 hgx5 ⊢
   clear hb hsY c0 c1 c2 c3 c4 c5 hX0 hX1 K4 KX HBa hgX hba hbX'
   go_wp2_with fail
   go_loopw [38] (fun iv wr => ∃ j : Nat, j ≤ NY ∧ iv = .int .i64 j ∧ Hid (RES = (((PY.drop j).all fun y => PZ.all fun z => FF (xa, xb) y z) && R1)) ∧ Below w4.heap.size w4 wr) (fun iv _ => NY - (intOf iv).toNat)
   case atStart => exact ⟨0, Nat.zero_le _, rfl, Hres, Below.refl _ _⟩
   case round =>
    clear Hres
    rename World => wb
    obtain ⟨j, hj, rfl, hres, hbr⟩ := hrel
    by_cases hlt2 : j < NY
    ·obtain ⟨bY, oY, py, rfl, hblY, hxY, hY0, hY1⟩ := StpsAt.get (k := j) HSY.out (by rw [← HNY.out]; exact hlt2)
     rw [← hbr.cell (by exact hblY)] at hY0 hY1
     have Hres := hide (show RES = ((PZ.all fun z => FF (xa, xb) py z) && (((PY.drop (j + 1)).all fun y => PZ.all fun z => FF (xa, xb) y z) && R1)) by rw [hres.out, drop_at' hxY, List.all_cons, Bool.and_assoc])
     have hbb := hbr.size
     have hbY' : bY < wb.heap.size := Nat.lt_of_lt_of_le hblY hbb
     have K6 := hide ((K5.out.below hbr hg5).alloc (.cells #[.int .i64 py.1, .int .i64 py.2] 344))
     have KX6 := hide ((KX5.out.below hbr hgx5).alloc (.cells #[.int .i64 py.1, .int .i64 py.2] 344))
     have KY := hide (Blk.new wb 344 #[.int .i64 py.1, .int .i64 py.2])
     have HBb := hide (hbr.alloc hbb (.cells #[.int .i64 py.1, .int .i64 py.2] 344))
     have c0 := K6.out.cell 0
     have c1 := K6.out.cell 1
     have c2 := K6.out.cell 2
     have c3 := K6.out.cell 3
     have c4 := K6.out.cell 4
     have c5 := K6.out.cell 5
     simp at c0 c1 c2 c3 c4 c5
     obtain ⟨ya, yb⟩ := py
     simp only at hY0 hY1 Hres K6 KX6 KY HBb
     clear hxY hres hbr hblY
     obtain ⟨R2, hR2⟩ : ∃ r, r = ((PY.drop (j + 1)).all fun y => PZ.all fun z => FF (xa, xb) y z) := ⟨_, rfl⟩
     rw [← hR2] at Hres
     have HR2 := hide hR2
     clear hR2
     go_wp2_with fail
     refine (HP2.out _ (below_step HW4.out HBb.out (Nat.le_refl _))).mono ?_
     rintro e w5 ⟨AZ, cZ, rfl, hsZ, hb⟩
     have KX7 := hide (KX6.out.keep hb)
     have KY7 := hide (KY.out.keep hb)
     have HB5 := hide (below_step HBb.out hb (Nat.le_refl _))
     have HW5 := hide (below_step HW4.out HB5.out (Nat.le_refl _))
     have HSZ := hide hsZ
     have hgx7 := KX7.out.lt
     have hgy7 := KY7.out.lt
     obtain ⟨gY, hgY⟩ : ∃ g, g = wb.heap.size := ⟨_, rfl⟩
     rw [← hgY] at KY7 hgy7 ⊢
     clear hb hsZ c0 c1 c2 c3 c4 c5 hY0 hY1 K6 KX6 KY HBb hgY hbb hbY'
     go_wp2_with fail
     go_loopw [46] (fun iv wr => ∃ i : Nat, i ≤ NZ ∧ iv = .int .i64 i ∧ Hid (RES = (((PZ.drop i).all fun z => FF (xa, xb) (ya, yb) z) && (R2 && R1))) ∧ Below w5.heap.size w5 wr) (fun iv _ => NZ - (intOf iv).toNat)
     case atStart => exact ⟨0, Nat.zero_le _, rfl, Hres, Below.refl _ _⟩
     case round =>
      clear Hres
      rename World => wc
      obtain ⟨i, hi, rfl, hres, hbr⟩ := hrel
      by_cases hlt3 : i < NZ
      ·obtain ⟨bZ, oZ, pz, rfl, hblZ, hxZ, hZ0, hZ1⟩ := StpsAt.get (k := i) HSZ.out (by rw [← HNZ.out]; exact hlt3)
       rw [← hbr.cell (by exact hblZ)] at hZ0 hZ1
       have Hres := hide (show RES = (FF (xa, xb) (ya, yb) pz && (((PZ.drop (i + 1)).all fun z => FF (xa, xb) (ya, yb) z) && (R2 && R1))) by rw [hres.out, drop_at' hxZ, List.all_cons, Bool.and_assoc])
       have hbc := hbr.size
       have hbZ' : bZ < wc.heap.size := Nat.lt_of_lt_of_le hblZ hbc
       have KX8 := hide (KX7.out.below hbr hgx7)
       have KY8 := hide (KY7.out.below hbr hgy7)
       have x0 := KX8.out.cell 0
       have x1 := KX8.out.cell 1
       have y0 := KY8.out.cell 0
       have y1 := KY8.out.cell 1
       simp at x0 x1 y0 y1
       have lx := KX8.out.lt
       have ly := KY8.out.lt
       obtain ⟨za, zb⟩ := pz
       simp only at hZ0 hZ1 Hres
       have HBc := hide ((hbr.alloc hbc (.cells #[.int .i64 za, .int .i64 zb] 344)).alloc (le_alloc hbc _) (.cells #[.int .i64 xa, .int .i64 ya, .int .i64 za, .int .i64 xb, .int .i64 yb, .int .i64 zb] 62))
       have HCx := hide (HCC.out (partBox (xa, xb) (ya, yb) (za, zb)) _ (below_step HW5.out HBc.out (Nat.le_refl _)) (wc.heap.size + 1) (Blk.new1 wc _ _ _))
       have hbcs := HBc.out.size
       rw [Hff.out] at HCx
       obtain ⟨t, ht⟩ : ∃ t, t = FF (xa, xb) (ya, yb) (za, zb) := ⟨_, rfl⟩
       rw [← ht] at HCx Hres
       clear hxZ hres hbr hblZ ht
       go_wp2_with fail
       refine HCx.out.mono ?_
       rintro e w6 ⟨rfl, hb⟩
       have HB6 := hide (below_step HBc.out hb (Nat.le_refl _))
       clear hb HCx x0 x1 y0 y1 lx ly hZ0 hZ1 KX8 KY8 HBc hbcs
       cases t
       ·have Hf := hide (show RES = false by rw [Hres.out]; rfl)
        clear Hres
        go_wp2_with fail
        go_ret2
        exact ⟨by rw [Hf.out] <;> rfl, below_step HW5.out HB6.out (Nat.le_refl _)⟩
       ·have Hf := hide (Hres.out.trans (Bool.true_and _))
        clear Hres
        go_wp2_with fail
        go_roundw
        case rel => exact ⟨i + 1, by omega, by go_num, Hf, HB6.out⟩
        case measure => simp [intOf]; omega
      ·obtain rfl : i = NZ := by omega
       have Hf := hide (show RES = (((PY.drop (j + 1)).all fun y => PZ.all fun z => FF (xa, xb) y z) && R1) by rw [hres.out, List.drop_of_length_le (by rw [← HNZ.out]; exact Nat.le_refl _), List.all_nil, Bool.true_and, HR2.out])
       have HB6 := hide (below_step HB5.out hbr (Nat.le_refl _))
       clear hres hbr
       go_wp2_with fail
       go_roundw
       case rel => exact ⟨j + 1, by omega, by go_num, Hf, HB6.out⟩
       case measure => simp [intOf]; omega
    ·obtain rfl : j = NY := by omega
     have Hf := hide (show RES = ((PX.drop (q + 1)).all fun x => PY.all fun y => PZ.all fun z => FF x y z) by rw [hres.out, List.drop_of_length_le (by rw [← HNY.out]; exact Nat.le_refl _), List.all_nil, Bool.true_and, HR1.out])
     have HB6 := hide (below_step HB4.out hbr (Nat.le_refl _))
     clear hres hbr
     go_wp2_with fail
     go_roundw
     case rel => exact ⟨q + 1, by omega, by go_num, Hf, HB6.out⟩
     case measure => simp [intOf]; omega
  ·obtain rfl : q = NX := by omega
   have Hf := hide (show RES = true by rw [hres.out, List.drop_of_length_le (by rw [← HNX.out]; exact Nat.le_refl _), List.all_nil])
   have HB6 := hide (below_step HW3.out hbr (Nat.le_refl _))
   clear hres hbr
   go_wp2_with fail
   go_ret2
   exact ⟨by rw [Hf.out] <;> rfl, HB6.out⟩
set_option maxHeartbeats 4000000 in
theorem containsBox_any (HSL : SortLaw) (HCL : CompLaw) (bs hs : List BoxD) (A1 A2 : Option Addr) (n1 n2 c1 c2 : Nat) (b : BoxD) (w : World) {B : Nat} (h1 : BoxesAt w B A1 bs) (h2 : BoxesAt w B A2 hs) (hB : B ≤ w.heap.size) (hn1 : n1 = bs.length) (hn2 : n2 = hs.length) (hok : solidOk bs hs = true) (hbk : boxOk b = true) :
  Calls Tryz.prog 275 #[sol A1 n1 c1 A2 n2 c2, bx b] w fun e w' => e = .returned (.tuple #[.bool (!someOf (opensAt b) hs && coversB bs b), .int .i64 0]) ∧ Below w.heap.size w w' := by
 obtain ⟨b1, b2, b3⟩ := solid_boxes hok
 have hh : hs.length ≤ 20 := by simp only [solidOk, Bool.and_eq_true, zzJ] at hok; exact hok.1.1.2
 have HS := hide (fun (W : World) (hz : Below w.heap.size w W) => solidValid_any bs hs A1 A2 n1 n2 c1 c2 W (h1.carry (Flat.carried _) (hz.mono hB) (Nat.le_refl _)) (h2.carry (Flat.carried _) (hz.mono hB) (Nat.le_refl _)) (Nat.le_trans hB hz.size) hn1 hn2)
 rw [hok] at HS
 have HV := hide (fun W => boxValid_any b W)
 rw [hbk] at HV
 have HO := hide (fun (W : World) (hz : Below w.heap.size w W) (g : Nat) (hg : Blk W g 62 #[.int .i64 b.lo.1, .int .i64 b.lo.2.1, .int .i64 b.lo.2.2, .int .i64 b.hi.1, .int .i64 b.hi.2.1, .int .i64 b.hi.2.2]) => containsFuncBoxC_any A2 hs n2 c2 300 #[.pointer (some ⟨g, 0, none⟩)] (opensAt b) W (h2.carry (Flat.carried _) (hz.mono hB) (Nat.le_refl _)) (Nat.le_trans hB hz.size) hn2 (by omega) Tryz.call300 (fun a W2 _ hb2 => opensAt_any a b g W2 (hg.keep hb2)))
 have HC := hide (fun (W : World) (hz : Below w.heap.size w W) => covers_any HSL HCL A1 bs n1 c1 b W (h1.carry (Flat.carried _) (hz.mono hB) (Nat.le_refl _)) (Nat.le_trans hB hz.size) hn1 (by omega) b3 hbk)
 generalize someOf (opensAt b) hs = t1 at *
 generalize coversB bs b = t2 at *
 obtain ⟨⟨x, y, z⟩, x2, y2, z2⟩ := b
 simp only at HO
 have K0 := hide (Blk.new1 w (.cells #[.slice A1 n1 c1, .slice A2 n2 c2] 24) 62 #[.int .i64 x, .int .i64 y, .int .i64 z, .int .i64 x2, .int .i64 y2, .int .i64 z2])
 have KS := hide ((Blk.new w 24 #[.slice A1 n1 c1, .slice A2 n2 c2]).alloc (.cells #[.int .i64 x, .int .i64 y, .int .i64 z, .int .i64 x2, .int .i64 y2, .int .i64 z2] 62))
 have HW := hide (below_new2 w (.cells #[.slice A1 n1 c1, .slice A2 n2 c2] 24) (.cells #[.int .i64 x, .int .i64 y, .int .i64 z, .int .i64 x2, .int .i64 y2, .int .i64 z2] 62))
 clear h1 h2 hB hn1 hn2 hok hbk b1 b2 b3 hh
 go_enter Tryz.func275, Tryz.ntmps275
 go_wp2_with fail
 refine (HS.out _ HW.out).mono ?_
 rintro e w1 ⟨rfl, hb⟩
 replace KS := hide (KS.out.keep hb)
 replace K0 := hide (K0.out.keep hb)
 replace HW := hide (below_step HW.out hb (Nat.le_refl _))
 have c0 := K0.out.cell 0
 have c1 := K0.out.cell 1
 have c2 := K0.out.cell 2
 have c3 := K0.out.cell 3
 have c4 := K0.out.cell 4
 have c5 := K0.out.cell 5
 simp at c0 c1 c2 c3 c4 c5
 have lk := K0.out.lt
 clear hb HS
 go_wp2_with fail
 refine (HV.out _).mono ?_
 rintro e w2 ⟨rfl, hb⟩
 replace KS := hide (KS.out.keep hb)
 replace K0 := hide (K0.out.keep hb)
 replace HW := hide (below_step HW.out hb (Nat.le_refl _))
 clear c0 c1 c2 c3 c4 c5 lk
 have c0 := K0.out.cell 0
 have c1 := K0.out.cell 1
 have c2 := K0.out.cell 2
 have c3 := K0.out.cell 3
 have c4 := K0.out.cell 4
 have c5 := K0.out.cell 5
 simp at c0 c1 c2 c3 c4 c5
 have lk := K0.out.lt
 have s0 := KS.out.cell 0
 have s1 := KS.out.cell 1
 simp at s0 s1
 have ls := KS.out.lt
 clear hb HV
 go_wp2_with fail
 refine (HO.out _ HW.out _ K0.out).mono ?_
 rintro e w3 ⟨rfl, hb⟩
 replace KS := hide (KS.out.keep hb)
 replace K0 := hide (K0.out.keep hb)
 replace HW := hide (below_step HW.out hb (Nat.le_refl _))
 clear c0 c1 c2 c3 c4 c5 lk s0 s1 ls
 have c0 := K0.out.cell 0
 have c1 := K0.out.cell 1
 have c2 := K0.out.cell 2
 have c3 := K0.out.cell 3
 have c4 := K0.out.cell 4
 have c5 := K0.out.cell 5
 simp at c0 c1 c2 c3 c4 c5
 have lk := K0.out.lt
 have s0 := KS.out.cell 0
 simp at s0
 have ls := KS.out.lt
 clear hb HO
 cases t1
 ·go_wp2_with fail
  refine (HC.out _ HW.out).mono ?_
  rintro e w4 ⟨rfl, hb⟩
  replace HW := hide (below_step HW.out hb (Nat.le_refl _))
  clear hb HC c0 c1 c2 c3 c4 c5 lk s0 ls
  go_wp2_with fail
  go_ret2
  exact ⟨rfl, HW.out⟩
 ·go_wp2_with fail
  go_ret2
  exact ⟨rfl, HW.out⟩
end Go.Proofs.YtpaanfjjnjjoeaaGreat
