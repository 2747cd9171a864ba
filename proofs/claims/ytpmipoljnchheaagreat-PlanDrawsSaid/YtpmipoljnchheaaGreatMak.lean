/- The reference of layer 12: the moves of a valid bar. The reference of layer 12: the path of a valid bar. The reference of layer 15: sums, multiples, directions, images of points. The reference of layer 12: the hull of two points. -/
import Derived.Test.YtpmipoljnchheaaGreatMaj
import Derived.Test.YtpmipoljnchheaaGreatMae
import Derived.Test.YtpmipoljnchheaaGreatMag
import Derived.Deep.RegionHeld3
import Derived.Deep.Cut
namespace Go.Proofs.YtpmipoljnchheaaGreat
open Go.RowKit

theorem len1 {l : List Int} (h : l.length = 1) : ∃ a, l = [a] := by
  rcases l with _ | ⟨a, _ | ⟨b, r⟩⟩ <;> simp at h
  exact ⟨a, rfl⟩
theorem len2 {l : List Int} (h : l.length = 2) : ∃ a b, l = [a, b] := by
  rcases l with _ | ⟨a, r⟩
  · simp at h
  · obtain ⟨b, rfl⟩ := len1 (l := r) (by simpa using h)
    exact ⟨a, b, rfl⟩
theorem len3 {l : List Int} (h : l.length = 3) : ∃ a b c, l = [a, b, c] := by
  rcases l with _ | ⟨a, r⟩
  · simp at h
  · obtain ⟨b, c, rfl⟩ := len2 (l := r) (by simpa using h)
    exact ⟨a, b, c, rfl⟩
theorem len5 {l : List Int} (h : l.length = 5) : ∃ a b c d e, l = [a, b, c, d, e] := by
  rcases l with _ | ⟨a, _ | ⟨b, r⟩⟩
  · simp at h
  · simp at h
  · obtain ⟨c, d, e, rfl⟩ := len3 (l := r) (by simpa using h)
    exact ⟨a, b, c, d, e, rfl⟩

theorem refMoves_ok (x : BarD) (A : Option Addr) (c : Nat) (w : World) {B : Nat} (hA : Ints w B A x.dims) (hB : B ≤ w.heap.size) (hok : barOk x = true) :
    Calls Tryz.prog 180 #[.agg #[.string x.mark, .int .i64 x.size, .int .i64 x.count, .int .i64 x.code, .slice A x.dims.length c]] w fun e w' =>
      ∃ A', e = .returned (.slice A' (legsLen x.code) (legsLen x.code)) ∧ PtsAt w' w'.heap.size A' (movesOf x) ∧ Below w.heap.size w w' := by
  have hg := barGood_of hok
  have hc : legsOf x.code ≠ [] := by
    intro he
    exact hg.legs (by simp [legLens, he])
  rw [barOk_pre] at hok
  simp only [Bool.and_eq_true, barPre, decide_eq_true_eq] at hok
  obtain ⟨⟨_, h5⟩, h6⟩ := hok
  obtain ⟨mark, size, count, code, dims⟩ := x
  simp only at h5 h6 hc hA ⊢
  clear hg
  have hb := fits_mem h6
  clear h6
  rcases code_cases hc with rfl | rfl | rfl | rfl | rfl | rfl | rfl | rfl
  · obtain ⟨d0, rfl⟩ := len1 (l := dims) (by have h : (dims.length : Int) = 1 := h5; omega)
    have h := refMoves0 mark size count d0 A c w hA hB (hb _ (by simp))
    exact h
  · obtain ⟨d0, d1, rfl⟩ := len2 (l := dims) (by have h : (dims.length : Int) = 2 := h5; omega)
    have h := refMoves11 mark size count d0 d1 A c w hA hB (hb _ (by simp)) (hb _ (by simp))
    exact h
  · obtain ⟨d0, d1, d2, rfl⟩ := len3 (l := dims) (by have h : (dims.length : Int) = 3 := h5; omega)
    have h := refMoves21 mark size count d0 d1 d2 A c w hA hB (hb _ (by simp)) (hb _ (by simp)) (hb _ (by simp))
    exact h
  · obtain ⟨d0, d1, d2, rfl⟩ := len3 (l := dims) (by have h : (dims.length : Int) = 3 := h5; omega)
    have h := refMoves26 mark size count d0 d1 d2 A c w hA hB (hb _ (by simp)) (hb _ (by simp)) (hb _ (by simp))
    exact h
  · obtain ⟨d0, d1, d2, rfl⟩ := len3 (l := dims) (by have h : (dims.length : Int) = 3 := h5; omega)
    have h := refMoves31 mark size count d0 d1 d2 A c w hA hB (hb _ (by simp)) (hb _ (by simp)) (hb _ (by simp))
    exact h
  · obtain ⟨d0, d1, d2, d3, d4, rfl⟩ := len5 (l := dims) (by have h : (dims.length : Int) = 5 := h5; omega)
    have h := refMoves41 mark size count d0 d1 d2 d3 d4 A c w hA hB (hb _ (by simp)) (hb _ (by simp)) (hb _ (by simp)) (hb _ (by simp)) (hb _ (by simp))
    exact h
  · obtain ⟨d0, d1, d2, rfl⟩ := len3 (l := dims) (by have h : (dims.length : Int) = 3 := h5; omega)
    have h := refMoves51 mark size count d0 d1 d2 A c w hA hB (hb _ (by simp)) (hb _ (by simp)) (hb _ (by simp))
    exact h
  · obtain ⟨d0, d1, d2, rfl⟩ := len3 (l := dims) (by have h : (dims.length : Int) = 3 := h5; omega)
    have h := refMoves98 mark size count d0 d1 d2 A c w hA hB (hb _ (by simp)) (hb _ (by simp)) (hb _ (by simp))
    exact h
end Go.Proofs.YtpmipoljnchheaaGreat
namespace Go.Proofs.YtpmipoljnchheaaGreat
open Go.RowKit

theorem row3 {w : World} {base g : Nat} {e : TypeId} {v : Value} {l : List Pt} (h : Row w base e 3 encPt v l) (hg : g < base) (a b c : Value) : Row (((w.setCell ⟨g, 0, none⟩ a).setCell ⟨g, 1, none⟩ b).setCell ⟨g, 2, none⟩ c) base e 3 encPt v l :=
  rowSet (rowSet (rowSet h (a := ⟨g, 0, none⟩) hg a) (a := ⟨g, 1, none⟩) hg b) (a := ⟨g, 2, none⟩) hg c
theorem blk3 {w : World} {g : Nat} {t : TypeId} {x y z : Value} (h : Blk w g t #[x, y, z]) (a b c : Value) : Blk (((w.setCell ⟨g, 0, none⟩ a).setCell ⟨g, 1, none⟩ b).setCell ⟨g, 2, none⟩ c) g t #[a, b, c] := by
  have h1 := ((h.set_ 0 a).set_ 1 b).set_ 2 c
  simpa only [List.setIfInBounds_toArray, List.set_cons_zero, List.set_cons_succ] using h1
theorem below3 {B g : Nat} {a w : World} (h : Below B a w) (hg : B ≤ g) (x y z : Value) : Below B a (((w.setCell ⟨g, 0, none⟩ x).setCell ⟨g, 1, none⟩ y).setCell ⟨g, 2, none⟩ z) :=
  ((h.setCell (p := ⟨g, 0, none⟩) hg x).setCell (p := ⟨g, 1, none⟩) hg y).setCell (p := ⟨g, 2, none⟩) hg z
theorem size3 (w : World) (g : Nat) (x y z : Value) : (((w.setCell ⟨g, 0, none⟩ x).setCell ⟨g, 1, none⟩ y).setCell ⟨g, 2, none⟩ z).heap.size = w.heap.size := by
  rw [World.size_setCell, World.size_setCell, World.size_setCell]
set_option maxHeartbeats 4000000 in
set_option maxRecDepth 100000 in
theorem refPath_ok (x : BarD) (A : Option Addr) (c : Nat) (w : World) {B : Nat} (hA : Ints w B A x.dims) (hB : B ≤ w.heap.size) (hok : barOk x = true) :
    Calls Tryz.prog 152 #[.agg #[.string x.mark, .int .i64 x.size, .int .i64 x.count, .int .i64 x.code, .slice A x.dims.length c]] w fun e w' =>
      ∃ A' c', e = .returned (.slice A' (pathOf x).length c') ∧ PtsAt w' w'.heap.size A' (pathOf x) ∧ Below w.heap.size w w' := by
  have Hnear := hide (path_near hok)
  have hle := legsLen_le x.code
  have hbo := fun o => (Below.refl B w).alloc hB o
  have HM := hide (refMoves_ok x A c _ (hA.carry (hbo (.cells #[.string x.mark, .int .i64 x.size, .int .i64 x.count, .int .i64 x.code, .slice A x.dims.length c] 65)) (Nat.le_refl _)) (le_alloc hB _) hok)
  have HW := hide (below_new w (.cells #[.string x.mark, .int .i64 x.size, .int .i64 x.count, .int .i64 x.code, .slice A x.dims.length c] 65))
  have Hlen := hide (show (pathOf x).length = legsLen x.code + 1 by rw [pathOf_len]; rfl)
  have Hml := hide (show (movesOf x).length = legsLen x.code by simp [movesOf, legsLen])
  clear hA hB hok hbo
  go_enter Tryz.func152, Tryz.ntmps152
  go_wp2_with fail
  refine HM.out.mono ?_
  rintro e w1 ⟨AM, rfl, hmv, hb1⟩
  have Hmv := hide hmv
  have HW1 := hide (below_step HW.out hb1 (Nat.le_refl _))
  clear hmv hb1 HM HW
  have hrow := World.ownsRow_lit (base := w1.heap.size + 1) (e := 44) (size := 3) (w1.alloc (.cells #[.int .i64 0, .int .i64 0, .int .i64 0] 44)) #[.int .i64 0, .int .i64 0, .int .i64 0] 1 (by simp) (by unfold maxLen; omega) rfl
  rw [size_alloc'] at hrow
  have hp0 : [((0, 0, 0) : Pt)] = (pathOf x).take 1 := by
    have h9 := pathOf_zero x
    have h8 := take_snoc' h9
    simpa using h8.symm
  have hrow2 : Row ((w1.alloc (.cells #[.int .i64 0, .int .i64 0, .int .i64 0] 44)).alloc (.cells #[.int .i64 0, .int .i64 0, .int .i64 0] 44)) (w1.heap.size + 1) 44 3 encPt (.slice (some ⟨w1.heap.size + 1, 0, none⟩) 1 1) [(0, 0, 0)] := hrow
  rw [hp0] at hrow2
  have Hrow := hide hrow2
  have KA := hide ((Blk.new w1 44 #[.int .i64 0, .int .i64 0, .int .i64 0]).alloc (.cells #[.int .i64 0, .int .i64 0, .int .i64 0] 44))
  have HB12 := hide (below_new2 w1 (.cells #[.int .i64 0, .int .i64 0, .int .i64 0] 44) (.cells #[.int .i64 0, .int .i64 0, .int .i64 0] 44))
  clear hrow hrow2 hp0
  go_wp2_with fail
  go_loopw [5, 6] (fun v i wr => ∃ k : Nat, k ≤ legsLen x.code ∧ i = .int .i64 k ∧ (∃ o1 o2 o3 : Int, Hid ((pathOf x)[k]? = some (o1, o2, o3)) ∧ Hid (Blk wr w1.heap.size 44 #[.int .i64 o1, .int .i64 o2, .int .i64 o3])) ∧ Row wr (w1.heap.size + 1) 44 3 encPt v ((pathOf x).take (k + 1)) ∧ Hid (Below w1.heap.size w1 wr)) (fun _ i _ => legsLen x.code - (intOf i).toNat)
  case atStart => exact ⟨0, Nat.zero_le _, rfl, ⟨0, 0, 0, hide (pathOf_zero x), KA⟩, Hrow.out, HB12⟩
  case round =>
    clear KA Hrow HB12
    obtain ⟨k, hk, rfl, ⟨o1, o2, o3, ho, kA⟩, hrow, hbr⟩ := hrel
    obtain ⟨A0, c0, rfl⟩ := hrow.val
    have hbs := hbr.out.size
    have lk := kA.out.lt
    by_cases hlt : k < legsLen x.code
    · obtain ⟨b, off, m, rfl, hbl, hm, g0, g1, g2⟩ := PtsAt.get (k := k) (Hmv.out.carry (Flat.carried _) hbr.out hbs) (by rw [Hml.out]; exact hlt)
      have hnext := pathFrom_at _ _ _ _ _ ho.out hm
      obtain ⟨m1, m2, m3⟩ := m
      have hnear := nearBy_iff.1 (Hnear.out _ (mem_of_get hnext))
      simp only [addP] at hnear hnext g0 g1 g2
      have Hnext := hide hnext
      have a0 := kA.out.cell 0
      have a1 := kA.out.cell 1
      have a2 := kA.out.cell 2
      have f0 := kA.out.frozen 0
      have f1 := kA.out.frozen 1
      have f2 := kA.out.frozen 2
      simp at a0 a1 a2
      have s1 : IntKind.i64.wrap (o1 + m1) = o1 + m1 := IntWalk.i64_in _ (by omega)
      have s2 : IntKind.i64.wrap (o2 + m2) = o2 + m2 := IntWalk.i64_in _ (by omega)
      have s3 : IntKind.i64.wrap (o3 + m3) = o3 + m3 := IntWalk.i64_in _ (by omega)
      have hacc : ((pathOf x).take (k + 1)).length ≤ 1000 := by rw [List.length_take]; omega
      have Htake := hide (take_path Hnext.out)
      generalize (pathOf x).take (k + 1) = acc at hrow hacc Htake ⊢
      have R1 := hide (Row.drew (Row.alloc (row3 (g := w1.heap.size) hrow (Nat.lt_succ_self _) (.int .i64 (o1 + m1)) (.int .i64 (o2 + m2)) (.int .i64 (o3 + m3))) (.cells #[.int .i64 (o1 + m1), .int .i64 (o2 + m2), .int .i64 (o3 + m3)] 44)))
      have R2 := (Blk.drew (Blk.new (((wr.setCell ⟨w1.heap.size, 0, none⟩ (.int .i64 (o1 + m1))).setCell ⟨w1.heap.size, 1, none⟩ (.int .i64 (o2 + m2))).setCell ⟨w1.heap.size, 2, none⟩ (.int .i64 (o3 + m3))) 44 #[.int .i64 (o1 + m1), .int .i64 (o2 + m2), .int .i64 (o3 + m3)]))
      rw [size3] at R2
      have R2 := hide R2
      have R3 := hide (Blk.drew ((blk3 kA.out (.int .i64 (o1 + m1)) (.int .i64 (o2 + m2)) (.int .i64 (o3 + m3))).alloc (.cells #[.int .i64 (o1 + m1), .int .i64 (o2 + m2), .int .i64 (o3 + m3)] 44)))
      have R5 := hide (Below.drew ((below3 (g := w1.heap.size) hbr.out (Nat.le_refl _) (.int .i64 (o1 + m1)) (.int .i64 (o2 + m2)) (.int .i64 (o3 + m3))).alloc (by rw [size3]; exact hbs) (.cells #[.int .i64 (o1 + m1), .int .i64 (o2 + m2), .int .i64 (o3 + m3)] 44)))
      have R6 := hide (show w1.heap.size + 1 ≤ ((((wr.setCell ⟨w1.heap.size, 0, none⟩ (.int .i64 (o1 + m1))).setCell ⟨w1.heap.size, 1, none⟩ (.int .i64 (o2 + m2))).setCell ⟨w1.heap.size, 2, none⟩ (.int .i64 (o3 + m3))).alloc (.cells #[.int .i64 (o1 + m1), .int .i64 (o2 + m2), .int .i64 (o3 + m3)] 44)).drew.heap.size by rw [World.size_drew, size_alloc', size3]; omega)
      clear hm hbl ho kA hrow hbr hnear hnext
      go_wp2_with fail
      go_still_tail 25, (by kernel_rfl)
      change wpList _ _ _ _ _ (World.drew wr)
      go_wp2_with (at_builtin; go_loud (refine wpList_append1 rfl (.tmp 43) (.tmp 45) 74 rfl (w1.heap.size + 1) 44 (.agg #[.int .i64 0, .int .i64 0, .int .i64 0]) 3 24 encPt Tryz.underlying74 (by kernel_rfl) rfl (by omega) encPt_len encPt_one _ acc (o1 + m1, o2 + m2, o3 + m3) rfl R1.out _ rfl R2.out (by omega) (by omega) R6.out ?_); intro A1 c1 w6 hrow6 hb6 hkeep)
      go_roundw
      case rel => exact ⟨k + 1, by omega, by go_num, ⟨o1 + m1, o2 + m2, o3 + m3, Hnext, hide (R3.out.below hb6 (Nat.lt_succ_self _))⟩, by rw [Htake.out]; simpa using hrow6, hide (R5.out.trans (hb6.mono (by omega)))⟩
      case measure => simp [intOf]; omega
    · obtain rfl : k = legsLen x.code := by omega
      have hfull : (pathOf x).take (legsLen x.code + 1) = pathOf x := List.take_of_length_le (by rw [Hlen.out]; exact Nat.le_refl _)
      rw [hfull] at hrow
      have Hrow := hide hrow
      have hfin := hide (below_step HW1.out hbr.out (Nat.le_refl _))
      rw [hfull]
      generalize hgm : (pathOf x).length = m at *
      have Hm := hide hgm
      clear hrow hfull hgm Hlen
      go_wp2_with fail
      go_ret
      exact ⟨A0, c0, by rw [Hm.out]; rfl, Row.read Hrow.out encPt_len (by omega), hfin.out⟩
end Go.Proofs.YtpmipoljnchheaaGreat
namespace Go.Proofs.YtpmipoljnchheaaGreat
open Go.RowKit

theorem refPlus_any (p s : Pt) (w : World) (hp : nearBy 1099511627776 p = true) (hs : nearBy 1099511627776 s = true) :
    Calls Tryz.prog 153 #[ptA p, ptA s] w fun e w' => e = .returned (ptA (addP p s)) ∧ Below w.heap.size w w' := by
  obtain ⟨p1, p2, p3⟩ := p
  obtain ⟨x1, x2, x3⟩ := s
  obtain ⟨⟨r1, r2⟩, ⟨r3, r4⟩, r5, r6⟩ := nearBy_iff.1 hp
  obtain ⟨⟨t1, t2⟩, ⟨t3, t4⟩, t5, t6⟩ := nearBy_iff.1 hs
  simp only at r1 r2 r3 r4 r5 r6 t1 t2 t3 t4 t5 t6
  have z1 : IntKind.i64.wrap (p1 + x1) = p1 + x1 := IntWalk.i64_in _ (by omega)
  have z2 : IntKind.i64.wrap (p2 + x2) = p2 + x2 := IntWalk.i64_in _ (by omega)
  have z3 : IntKind.i64.wrap (p3 + x3) = p3 + x3 := IntWalk.i64_in _ (by omega)
  have kR := hide (Blk.new2 w (.cells #[.int .i64 p1, .int .i64 p2, .int .i64 p3] 44) (.cells #[.int .i64 x1, .int .i64 x2, .int .i64 x3] 44) 44 #[.int .i64 (p1 + x1), .int .i64 (p2 + x2), .int .i64 (p3 + x3)])
  have hB := hide ((below_new2 w (.cells #[.int .i64 p1, .int .i64 p2, .int .i64 p3] 44) (.cells #[.int .i64 x1, .int .i64 x2, .int .i64 x3] 44)).alloc (by simp; omega) (.cells #[.int .i64 (p1 + x1), .int .i64 (p2 + x2), .int .i64 (p3 + x3)] 44))
  clear hp hs
  show Calls Tryz.prog 153 #[.agg #[.int .i64 p1, .int .i64 p2, .int .i64 p3], .agg #[.int .i64 x1, .int .i64 x2, .int .i64 x3]] w _
  go_enter Tryz.func153, Tryz.ntmps153
  go_wp2_with fail
  refine bodyPost_ret (results_c rfl rfl kR.out Tryz.underlying44 rfl (by kernel_rfl)) rfl ?_
  exact ⟨rfl, hB.out⟩
theorem refTimes_any (n : Int) (p : Pt) (w : World) (hs : nearBy 1099511627776 (mulP n p) = true) :
    Calls Tryz.prog 182 #[.int .i64 n, ptA p] w fun e w' => e = .returned (ptA (mulP n p)) ∧ Below w.heap.size w w' := by
  obtain ⟨x1, x2, x3⟩ := p
  obtain ⟨⟨t1, t2⟩, ⟨t3, t4⟩, t5, t6⟩ := nearBy_iff.1 hs
  simp only [mulP] at t1 t2 t3 t4 t5 t6
  have s1 : IntKind.i64.wrap (n * x1) = n * x1 := IntWalk.i64_in _ (by omega)
  have s2 : IntKind.i64.wrap (n * x2) = n * x2 := IntWalk.i64_in _ (by omega)
  have s3 : IntKind.i64.wrap (n * x3) = n * x3 := IntWalk.i64_in _ (by omega)
  have kR := hide (Blk.new1 w (.cells #[.int .i64 x1, .int .i64 x2, .int .i64 x3] 44) 44 #[.int .i64 (n * x1), .int .i64 (n * x2), .int .i64 (n * x3)])
  have hB := hide (below_new2 w (.cells #[.int .i64 x1, .int .i64 x2, .int .i64 x3] 44) (.cells #[.int .i64 (n * x1), .int .i64 (n * x2), .int .i64 (n * x3)] 44))
  clear hs
  show Calls Tryz.prog 182 #[.int .i64 n, .agg #[.int .i64 x1, .int .i64 x2, .int .i64 x3]] w _
  go_enter Tryz.func182, Tryz.ntmps182
  go_wp2_with fail
  refine bodyPost_ret (results_c rfl rfl kR.out Tryz.underlying44 rfl (by kernel_rfl)) rfl ?_
  exact ⟨rfl, hB.out⟩
theorem refTimes16_any (n : Int) (p : Pt) (w : World) (hs : nearBy 1099511627776 (mulP n p) = true) :
    Calls Tryz.prog 154 #[ptA p, .int .i64 n] w fun e w' => e = .returned (ptA (mulP n p)) ∧ Below w.heap.size w w' := by
  obtain ⟨x1, x2, x3⟩ := p
  obtain ⟨⟨t1, t2⟩, ⟨t3, t4⟩, t5, t6⟩ := nearBy_iff.1 hs
  simp only [mulP] at t1 t2 t3 t4 t5 t6
  have m1 : x1 * n = n * x1 := Int.mul_comm _ _
  have m2 : x2 * n = n * x2 := Int.mul_comm _ _
  have m3 : x3 * n = n * x3 := Int.mul_comm _ _
  rw [← m1] at t1 t2
  rw [← m2] at t3 t4
  rw [← m3] at t5 t6
  have s1 : IntKind.i64.wrap (x1 * n) = x1 * n := IntWalk.i64_in _ (by omega)
  have s2 : IntKind.i64.wrap (x2 * n) = x2 * n := IntWalk.i64_in _ (by omega)
  have s3 : IntKind.i64.wrap (x3 * n) = x3 * n := IntWalk.i64_in _ (by omega)
  have kR := hide (Blk.new1 w (.cells #[.int .i64 x1, .int .i64 x2, .int .i64 x3] 44) 44 #[.int .i64 (x1 * n), .int .i64 (x2 * n), .int .i64 (x3 * n)])
  have hB := hide (below_new2 w (.cells #[.int .i64 x1, .int .i64 x2, .int .i64 x3] 44) (.cells #[.int .i64 (x1 * n), .int .i64 (x2 * n), .int .i64 (x3 * n)] 44))
  have hM := hide (show mulP n (x1, x2, x3) = (x1 * n, x2 * n, x3 * n) by simp only [mulP, m1, m2, m3])
  clear hs m1 m2 m3
  show Calls Tryz.prog 154 #[.agg #[.int .i64 x1, .int .i64 x2, .int .i64 x3], .int .i64 n] w _
  go_enter Tryz.func154, Tryz.ntmps154
  go_wp2_with fail
  refine bodyPost_ret (results_c rfl rfl kR.out Tryz.underlying44 rfl (by kernel_rfl)) rfl ?_
  refine ⟨?_, hB.out⟩
  rw [hM.out]
set_option maxHeartbeats 1000000 in
theorem refUnitP_any (n : Int) (w : World) (h : n = 1 ∨ n = 2 ∨ n = 3) : Calls Tryz.prog 181 #[.int .i64 n] w fun e w' => e = .returned (ptA (unitV n)) ∧ Below w.heap.size w w' := by
  rcases h with rfl | rfl | rfl
  all_goals
    go_enter Tryz.func181, Tryz.ntmps181
    go_wp2_with fail
    refine bodyPost_ret (results_c rfl rfl (Blk.new w _ _) Tryz.underlying44 rfl (by kernel_rfl)) rfl ?_
    exact ⟨rfl, below_new w _⟩
theorem unit_neg {n : Int} (h : n = 1 ∨ n = 2 ∨ n = 3) : unitV (-n) = (0 - (unitV n).1, 0 - (unitV n).2.1, 0 - (unitV n).2.2) := by
  rcases h with rfl | rfl | rfl <;> rfl
set_option maxHeartbeats 1000000 in
theorem refUnit_any (n : Int) (w : World) (h : axis6 n) : Calls Tryz.prog 181 #[.int .i64 n] w fun e w' => e = .returned (ptA (unitV n)) ∧ Below w.heap.size w w' := by
  by_cases hp : 0 < n
  · refine refUnitP_any n w ?_
    unfold axis6 at h
    omega
  have H1 := hide (fun W => (show Calls Tryz.prog 181 #[.int .i64 1] W fun e w' => e = .returned (.agg #[.int .i64 1, .int .i64 0, .int .i64 0]) ∧ Below W.heap.size W w' from refUnitP_any 1 W (.inl rfl)))
  have H2 := hide (fun W => (show Calls Tryz.prog 181 #[.int .i64 2] W fun e w' => e = .returned (.agg #[.int .i64 0, .int .i64 1, .int .i64 0]) ∧ Below W.heap.size W w' from refUnitP_any 2 W (.inr (.inl rfl))))
  have H3 := hide (fun W => (show Calls Tryz.prog 181 #[.int .i64 3] W fun e w' => e = .returned (.agg #[.int .i64 0, .int .i64 0, .int .i64 1]) ∧ Below W.heap.size W w' from refUnitP_any 3 W (.inr (.inr rfl))))
  have hn : n = -1 ∨ n = -2 ∨ n = -3 := by unfold axis6 at h; omega
  clear h hp
  have KR := hide (Blk.new w 44 #[.int .i64 0, .int .i64 0, .int .i64 0])
  have HW := hide (below_new w (.cells #[.int .i64 0, .int .i64 0, .int .i64 0] 44))
  rcases hn with rfl | rfl | rfl
  all_goals
    go_enter Tryz.func181, Tryz.ntmps181
    go_wp2_with fail
    first | with_reducible refine (H1.out _).mono ?_ | with_reducible refine (H2.out _).mono ?_ | with_reducible refine (H3.out _).mono ?_
    rintro e w1 ⟨rfl, hb⟩
    have KR := hide (KR.out.keep hb)
    have HW := hide (below_step HW.out hb (Nat.le_refl _))
    clear hb H1 H2 H3
    have d0 := KR.out.cell 0
    have d1 := KR.out.cell 1
    have d2 := KR.out.cell 2
    have f0 := KR.out.frozen 0
    have f1 := KR.out.frozen 1
    have f2 := KR.out.frozen 2
    simp at d0 d1 d2
    have lk := KR.out.lt
    go_wp2_with fail
    refine bodyPost_ret (results_c rfl rfl ((((KR.out.set_ 0 _).set_ 1 _).set_ 2 _).alloc _) Tryz.underlying44 rfl (by kernel_rfl)) rfl ?_
    refine ⟨?_, (((HW.out.setCell (p := ⟨w.heap.size, 0, none⟩) (Nat.le_refl _) _).setCell (p := ⟨w.heap.size, 1, none⟩) (Nat.le_refl _) _).setCell (p := ⟨w.heap.size, 2, none⟩) (Nat.le_refl _) _).alloc (by have := HW.out.size; simpa using this) _⟩
    simp only [List.setIfInBounds_toArray, List.set_cons_zero, List.set_cons_succ]
    rfl
set_option maxHeartbeats 4000000 in
set_option maxRecDepth 100000 in
theorem refCross_any (a b : Pt) (w : World) (ha : unitish a) (hb : unitish b) :
    Calls Tryz.prog 183 #[ptA a, ptA b] w fun e w' => e = .returned (ptA (crossV a b)) ∧ Below w.heap.size w w' := by
  obtain ⟨a1, a2, a3⟩ := a
  obtain ⟨b1, b2, b3⟩ := b
  obtain ⟨x1, x2, x3⟩ := ha
  obtain ⟨y1, y2, y3⟩ := hb
  simp only at x1 x2 x3 y1 y2 y3
  have m1 := mul1_bound x2 y3
  have m2 := mul1_bound x3 y2
  have m3 := mul1_bound x3 y1
  have m4 := mul1_bound x1 y3
  have m5 := mul1_bound x1 y2
  have m6 := mul1_bound x2 y1
  go_enter Tryz.func183, Tryz.ntmps183
  go_wp2_with fail
  refine bodyPost_ret (results_c rfl rfl (Blk.new2 w _ _ _ _) Tryz.underlying44 rfl (by kernel_rfl)) rfl ?_
  exact ⟨rfl, (below_new2 w _ _).alloc (by simp; omega) _⟩
end Go.Proofs.YtpmipoljnchheaaGreat
namespace Go.Proofs.YtpmipoljnchheaaGreat
open Go.RowKit

theorem minI (p q : Int) : (if q < p then q else p) = min p q := by split <;> omega
theorem maxI (p q : Int) : (if p < q then q else p) = max p q := by split <;> omega
set_option maxHeartbeats 4000000 in
set_option maxRecDepth 100000 in
theorem refHull2_any (A : Option Addr) (p q : Pt) (c : Nat) (w : World) {B : Nat} (h : PtsAt w B A [p, q]) (hB : B ≤ w.heap.size) :
    Calls Tryz.prog 84 #[.slice A 2 c] w fun e w' => e = .returned (bxV (legBox p q)) ∧ Below w.heap.size w w' := by
  obtain ⟨b, off, p', rfl, hbl, hp, f0, f1, f2⟩ := PtsAt.get (k := 0) h (by simp)
  obtain ⟨b', off', q', hA, _, hq, g0, g1, g2⟩ := PtsAt.get (k := 1) h (by simp)
  injection hA with hA
  injection hA with e1 e2
  subst e1 e2
  simp at hp hq
  subst hp hq
  obtain ⟨p1, p2, p3⟩ := p
  obtain ⟨q1, q2, q3⟩ := q
  simp only [Nat.zero_mul, Nat.add_zero, Nat.one_mul] at f0 f1 f2 g0 g1 g2
  have hbw : b < w.heap.size := Nat.lt_of_lt_of_le hbl hB
  have HG := hide (fun (W : World) (hz : Below w.heap.size w W) => show W.cell? ⟨b, off + 3, none⟩ = some (.int .i64 q1) ∧ W.cell? ⟨b, off + 3 + 1, none⟩ = some (.int .i64 q2) ∧ W.cell? ⟨b, off + 3 + 2, none⟩ = some (.int .i64 q3) from ⟨(hz.cell (p := ⟨b, off + 3, none⟩) hbw).trans g0, (hz.cell (p := ⟨b, off + 3 + 1, none⟩) hbw).trans g1, (hz.cell (p := ⟨b, off + 3 + 2, none⟩) hbw).trans g2⟩)
  have y1 := minI p1 q1
  have y2 := minI p2 q2
  have y3 := minI p3 q3
  have y4 := maxI p1 q1
  have y5 := maxI p2 q2
  have y6 := maxI p3 q3
  have hres := hide (show legBox (p1, p2, p3) (q1, q2, q3) = ⟨(min p1 q1, min p2 q2, min p3 q3), (max p1 q1, max p2 q2, max p3 q3)⟩ from rfl)
  generalize min p1 q1 = m1 at *
  generalize min p2 q2 = m2 at *
  generalize min p3 q3 = m3 at *
  generalize max p1 q1 = m4 at *
  generalize max p2 q2 = m5 at *
  generalize max p3 q3 = m6 at *
  clear h hbl g0 g1 g2
  go_enter Tryz.func84, Tryz.ntmps84
  go_wp2_with fail
  obtain ⟨wa, hwa⟩ : ∃ wa, wa = w.alloc (.cells #[.int .i64 0, .int .i64 0, .int .i64 0, .int .i64 0, .int .i64 0, .int .i64 0] 73) := ⟨_, rfl⟩
  have KR := hide (Blk.new w 73 #[.int .i64 0, .int .i64 0, .int .i64 0, .int .i64 0, .int .i64 0, .int .i64 0])
  have HW := hide (below_new w (.cells #[.int .i64 0, .int .i64 0, .int .i64 0, .int .i64 0, .int .i64 0, .int .i64 0] 73))
  rw [← hwa] at KR HW ⊢
  have f0 := (HW.out.cell (p := ⟨b, off, none⟩) hbw).trans f0
  have f1 := (HW.out.cell (p := ⟨b, off + 1, none⟩) hbw).trans f1
  have f2 := (HW.out.cell (p := ⟨b, off + 2, none⟩) hbw).trans f2
  clear hwa
  go_cut [3] from 13 (fun s3 wx => s3 = .pointer (some ⟨wa.heap.size, 0, none⟩) ∧ wx = (wa.alloc (.cells #[.int .i64 p1, .int .i64 p2, .int .i64 p3, .int .i64 p1, .int .i64 p2, .int .i64 p3] 73)).drew)
  case first =>
    go_region_held3 (fun W => W.cell? ⟨b, off, none⟩ = some (.int .i64 p1) ∧ W.cell? ⟨b, off + 1, none⟩ = some (.int .i64 p2) ∧ W.cell? ⟨b, off + 2, none⟩ = some (.int .i64 p3))
      (first | go_keep)
      (first | fail)
    all_goals
      go_wp2_with fail
      go_meet
      exact ⟨rfl, rfl⟩
  obtain ⟨rfl, hwb⟩ := hcut
  have HW2 := hide ((HW.out.alloc HW.out.size (.cells #[.int .i64 p1, .int .i64 p2, .int .i64 p3, .int .i64 p1, .int .i64 p2, .int .i64 p3] 73)).drew)
  have KR2 := hide ((KR.out.alloc (.cells #[.int .i64 p1, .int .i64 p2, .int .i64 p3, .int .i64 p1, .int .i64 p2, .int .i64 p3] 73)).drew)
  have KN := hide ((Blk.new wa 73 #[.int .i64 p1, .int .i64 p2, .int .i64 p3, .int .i64 p1, .int .i64 p2, .int .i64 p3]).drew)
  rw [← hwb] at HW2 KR2 KN
  have hwg : w.heap.size < wa.heap.size := KR.out.lt
  clear hwb f0 f1 f2 KR HW
  go_wp2_with fail
  go_loopw [4] (fun iv wr => ∃ k : Nat, (k = 1 ∨ k = 2) ∧ iv = .int .i64 k ∧ Hid (Blk wr wa.heap.size 73 (if k = 1 then #[.int .i64 p1, .int .i64 p2, .int .i64 p3, .int .i64 p1, .int .i64 p2, .int .i64 p3] else #[.int .i64 m1, .int .i64 m2, .int .i64 m3, .int .i64 m4, .int .i64 m5, .int .i64 m6])) ∧ Hid (Blk wr w.heap.size 73 #[.int .i64 0, .int .i64 0, .int .i64 0, .int .i64 0, .int .i64 0, .int .i64 0]) ∧ Hid (Below w.heap.size w wr)) (fun iv _ => 2 - (intOf iv).toNat)
  case atStart => exact ⟨1, .inl rfl, rfl, hide KN.out, KR2, HW2⟩
  case round =>
    obtain ⟨k, hk, rfl, hN, hR, hb⟩ := hrel
    rcases hk with rfl | rfl
    · have KN := hide (show Blk wr wa.heap.size 73 #[.int .i64 p1, .int .i64 p2, .int .i64 p3, .int .i64 p1, .int .i64 p2, .int .i64 p3] from hN.out)
      obtain ⟨g0, g1, g2⟩ := HG.out _ hb.out
      have u0 := KN.out.cell 0
      have u1 := KN.out.cell 1
      have u2 := KN.out.cell 2
      have u3 := KN.out.cell 3
      have u4 := KN.out.cell 4
      have u5 := KN.out.cell 5
      have v0 := KN.out.frozen 0
      have v1 := KN.out.frozen 1
      have v2 := KN.out.frozen 2
      have v3 := KN.out.frozen 3
      have v4 := KN.out.frozen 4
      have v5 := KN.out.frozen 5
      simp at u0 u1 u2 u3 u4 u5
      have lk := KN.out.lt
      have lb : b < wr.heap.size := Nat.lt_of_lt_of_le hbw hb.out.size
      clear hN KR2 HW2
      go_wp2_with fail
      have hz := ((((((KN.out.set_ 0 (.int .i64 m1)).set_ 1 (.int .i64 m2)).set_ 2 (.int .i64 m3)).set_ 3 (.int .i64 m4)).set_ 4 (.int .i64 m5)).set_ 5 (.int .i64 m6)).alloc (.cells #[.int .i64 q1, .int .i64 q2, .int .i64 q3] 44)
      simp only [List.setIfInBounds_toArray, List.set_cons_zero, List.set_cons_succ] at hz
      have hy := hide (((((((hR.out.far (p := ⟨wa.heap.size, 0, none⟩) (Nat.ne_of_lt hwg) (.int .i64 m1)).far (p := ⟨wa.heap.size, 1, none⟩) (Nat.ne_of_lt hwg) (.int .i64 m2)).far (p := ⟨wa.heap.size, 2, none⟩) (Nat.ne_of_lt hwg) (.int .i64 m3)).far (p := ⟨wa.heap.size, 3, none⟩) (Nat.ne_of_lt hwg) (.int .i64 m4)).far (p := ⟨wa.heap.size, 4, none⟩) (Nat.ne_of_lt hwg) (.int .i64 m5)).far (p := ⟨wa.heap.size, 5, none⟩) (Nat.ne_of_lt hwg) (.int .i64 m6)).alloc (.cells #[.int .i64 q1, .int .i64 q2, .int .i64 q3] 44))
      have hx := hide (((((((hb.out.setCell (p := ⟨wa.heap.size, 0, none⟩) (Nat.le_of_lt hwg) (.int .i64 m1)).setCell (p := ⟨wa.heap.size, 1, none⟩) (Nat.le_of_lt hwg) (.int .i64 m2)).setCell (p := ⟨wa.heap.size, 2, none⟩) (Nat.le_of_lt hwg) (.int .i64 m3)).setCell (p := ⟨wa.heap.size, 3, none⟩) (Nat.le_of_lt hwg) (.int .i64 m4)).setCell (p := ⟨wa.heap.size, 4, none⟩) (Nat.le_of_lt hwg) (.int .i64 m5)).setCell (p := ⟨wa.heap.size, 5, none⟩) (Nat.le_of_lt hwg) (.int .i64 m6)).alloc (by have := hb.out.size; simpa using this) (.cells #[.int .i64 q1, .int .i64 q2, .int .i64 q3] 44))
      exact ⟨⟨2, .inr rfl, rfl, hide hz, hy, hx⟩, by simp [intOf]⟩
    · have KN := hide (show Blk wr wa.heap.size 73 #[.int .i64 m1, .int .i64 m2, .int .i64 m3, .int .i64 m4, .int .i64 m5, .int .i64 m6] from hN.out)
      have u0 := KN.out.cell 0
      have u1 := KN.out.cell 1
      have u2 := KN.out.cell 2
      have u3 := KN.out.cell 3
      have u4 := KN.out.cell 4
      have u5 := KN.out.cell 5
      have d0 := hR.out.cell 0
      have d1 := hR.out.cell 1
      have d2 := hR.out.cell 2
      have d3 := hR.out.cell 3
      have d4 := hR.out.cell 4
      have d5 := hR.out.cell 5
      have f0 := hR.out.frozen 0
      have f1 := hR.out.frozen 1
      have f2 := hR.out.frozen 2
      have f3 := hR.out.frozen 3
      have f4 := hR.out.frozen 4
      have f5 := hR.out.frozen 5
      simp at u0 u1 u2 u3 u4 u5 d0 d1 d2 d3 d4 d5
      have lk := KN.out.lt
      clear hN KR2 HW2
      go_wp2_with fail
      refine bodyPost_ret (results_c rfl rfl ((((((hR.out.set_ 0 _).set_ 1 _).set_ 2 _).set_ 3 _).set_ 4 _).set_ 5 _) Tryz.underlying73 rfl (by kernel_rfl)) rfl ?_
      refine ⟨?_, (((((hb.out.setCell (p := ⟨w.heap.size, 0, none⟩) (Nat.le_refl _) _).setCell (p := ⟨w.heap.size, 1, none⟩) (Nat.le_refl _) _).setCell (p := ⟨w.heap.size, 2, none⟩) (Nat.le_refl _) _).setCell (p := ⟨w.heap.size, 3, none⟩) (Nat.le_refl _) _).setCell (p := ⟨w.heap.size, 4, none⟩) (Nat.le_refl _) _).setCell (p := ⟨w.heap.size, 5, none⟩) (Nat.le_refl _) _⟩
      simp only [List.setIfInBounds_toArray, List.set_cons_zero, List.set_cons_succ]
      rw [hres.out]
end Go.Proofs.YtpmipoljnchheaaGreat
