/- The references of layers 9, 17: the hull of boxes, and of a solid. The reference of layer 17: the hull of a solid. The reference of layer 14: the place of a mark, whether a schedule is valid, the sum of its counts, and whether it is small. The reference of layer 16: where a laid bar stands, its line of the schedule. -/
import Derived.Test.YtpmipoljnchheaaGreatMaj
import Derived.Test.YtpmipoljnchheaaGreatMak
import Derived.Test.YtpmipoljnchheaaGreatMah
import Derived.Deep.CutRange
import Derived.Test.YtpmipoljnchheaaGreatMag
namespace Go.Proofs.YtpmipoljnchheaaGreat
open Go.RowKit

def withC (p : Pt) (k : Nat) (v : Int) : Pt := if k = 0 then (v, p.2.1, p.2.2) else if k = 1 then (p.1, v, p.2.2) else (p.1, p.2.1, v)
def axMix (a b : BoxD) : Nat → BoxD
  | 0 => a
  | k + 1 => ⟨withC (axMix a b k).lo k (min (nthC (axMix a b k).lo k) (nthC b.lo k)), withC (axMix a b k).hi k (max (nthC (axMix a b k).hi k) (nthC b.hi k))⟩
theorem axMix3 (a b : BoxD) : axMix a b 3 = ⟨minP a.lo b.lo, maxP a.hi b.hi⟩ := rfl
set_option maxHeartbeats 1000000 in
theorem refWith_any (p1 p2 p3 v : Int) (k : Nat) (hk : k < 3) (w : World) :
    Calls Tryz.prog 113 #[.agg #[.int .i64 p1, .int .i64 p2, .int .i64 p3], .int .i64 k, .int .i64 v] w fun e w' => e = .returned (ptA (withC (p1, p2, p3) k v)) ∧ Below w.heap.size w w' := by
  rcases (show k = 0 ∨ k = 1 ∨ k = 2 by omega) with rfl | rfl | rfl
  all_goals
    go_enter Tryz.func113, Tryz.ntmps113
    go_wp2_with fail
    refine bodyPost_ret (results_c rfl rfl (Blk.new1 w _ _ _) Tryz.underlying44 rfl (by kernel_rfl)) rfl ?_
    exact ⟨rfl, below_new2 w _ _⟩
theorem blk3h {w : World} {g : Nat} {t : TypeId} {x1 x2 x3 x y z : Value} (h : Blk w g t #[x1, x2, x3, x, y, z]) (a b c : Value) : Blk (((w.setCell ⟨g, 3, none⟩ a).setCell ⟨g, 4, none⟩ b).setCell ⟨g, 5, none⟩ c) g t #[x1, x2, x3, a, b, c] := by
  have h1 := ((h.set_ 3 a).set_ 4 b).set_ 5 c
  simpa only [List.setIfInBounds_toArray, List.set_cons_zero, List.set_cons_succ] using h1
theorem blk3l {w : World} {g : Nat} {t : TypeId} {x1 x2 x3 x y z : Value} (h : Blk w g t #[x, y, z, x1, x2, x3]) (a b c : Value) : Blk (((w.setCell ⟨g, 0, none⟩ a).setCell ⟨g, 1, none⟩ b).setCell ⟨g, 2, none⟩ c) g t #[a, b, c, x1, x2, x3] := by
  have h1 := ((h.set_ 0 a).set_ 1 b).set_ 2 c
  simpa only [List.setIfInBounds_toArray, List.set_cons_zero, List.set_cons_succ] using h1
theorem below3h {B g : Nat} {a w : World} (h : Below B a w) (hg : B ≤ g) (x y z : Value) : Below B a (((w.setCell ⟨g, 3, none⟩ x).setCell ⟨g, 4, none⟩ y).setCell ⟨g, 5, none⟩ z) :=
  ((h.setCell (p := ⟨g, 3, none⟩) hg x).setCell (p := ⟨g, 4, none⟩) hg y).setCell (p := ⟨g, 5, none⟩) hg z
set_option maxHeartbeats 8000000 in
set_option maxRecDepth 100000 in
theorem refHull09_ok (A : Option Addr) (l : List BoxD) (n c : Nat) (w : World) {B : Nat} (h : BoxesAt w B A l) (hB : B ≤ w.heap.size) (hn : n = l.length) (hm : n ≤ 60000) (hne : 1 ≤ n) :
    Calls Tryz.prog 80 #[.slice A n c] w fun e w' => e = .returned (bxV (hullOf l)) ∧ Below w.heap.size w w' := by
  obtain ⟨b, off, x, rfl, hbl, hx, f0, f1, f2, f3, f4, f5⟩ := BoxesAt.get (k := 0) h (by omega)
  have hbw : b < w.heap.size := Nat.lt_of_lt_of_le hbl hB
  have hr0 := hide (show hullOf l = hullOn x (l.drop 1) by
    cases l with
    | nil => simp at hx
    | cons y r => simp at hx; subst hx; simp [hullOf, hullOn, minP, maxP])
  have HE := hide h
  have Hn := hide hn
  have HB := hide hB
  simp only [Nat.zero_mul, Nat.add_zero] at f0 f1 f2 f3 f4 f5
  clear h hB hn hbl hx
  obtain ⟨⟨x1, x2, x3⟩, x4, x5, x6⟩ := x
  simp only at f0 f1 f2 f3 f4 f5
  go_enter Tryz.func80, Tryz.ntmps80
  go_wp2_with fail
  obtain ⟨w1, hw1⟩ : ∃ w1, w1 = (w.alloc (.cells #[.int .i64 0, .int .i64 0, .int .i64 0, .int .i64 0, .int .i64 0, .int .i64 0] 73)).alloc (.cells #[.int .i64 x1, .int .i64 x2, .int .i64 x3, .int .i64 x4, .int .i64 x5, .int .i64 x6] 73) := ⟨_, rfl⟩
  have KR := hide ((Blk.new w 73 #[.int .i64 0, .int .i64 0, .int .i64 0, .int .i64 0, .int .i64 0, .int .i64 0]).alloc (.cells #[.int .i64 x1, .int .i64 x2, .int .i64 x3, .int .i64 x4, .int .i64 x5, .int .i64 x6] 73))
  have KO := hide (Blk.new1 w (.cells #[.int .i64 0, .int .i64 0, .int .i64 0, .int .i64 0, .int .i64 0, .int .i64 0] 73) 73 #[.int .i64 x1, .int .i64 x2, .int .i64 x3, .int .i64 x4, .int .i64 x5, .int .i64 x6])
  have HW1 := hide (below_new2 w (.cells #[.int .i64 0, .int .i64 0, .int .i64 0, .int .i64 0, .int .i64 0, .int .i64 0] 73) (.cells #[.int .i64 x1, .int .i64 x2, .int .i64 x3, .int .i64 x4, .int .i64 x5, .int .i64 x6] 73))
  rw [← hw1] at KR KO HW1 ⊢
  clear hw1 f0 f1 f2 f3 f4 f5
  go_loopw [4] (fun iv wr => ∃ i : Nat, 1 ≤ i ∧ i ≤ n ∧ iv = .int .i64 i ∧ (∃ o1 o2 o3 o4 o5 o6 : Int, Hid (hullOn ⟨(x1, x2, x3), (x4, x5, x6)⟩ ((l.drop 1).take (i - 1)) = ⟨(o1, o2, o3), (o4, o5, o6)⟩) ∧ Hid (Blk wr (w.heap.size + 1) 73 #[.int .i64 o1, .int .i64 o2, .int .i64 o3, .int .i64 o4, .int .i64 o5, .int .i64 o6])) ∧ Hid (Below (w.heap.size + 1) w1 wr)) (fun iv _ => n - (intOf iv).toNat)
  case atStart => exact ⟨1, Nat.le_refl _, hne, rfl, ⟨x1, x2, x3, x4, x5, x6, hide rfl, KO⟩, hide (Below.refl _ _)⟩
  case round =>
    clear KO
    rename World => wo
    obtain ⟨i, hi1, hin, rfl, ⟨o1, o2, o3, o4, o5, o6, hq, hO⟩, hBo⟩ := hrel
    by_cases hlt : i < n
    · obtain ⟨b', off', y, hA', _, hy, F1, F2, F3, F4, F5, F6⟩ := BoxesAt.get (k := i) (HE.out.carry (Flat.carried _) (HW1.out.mono HB.out) (Nat.le_refl _)) (by rw [← Hn.out]; exact hlt)
      injection hA' with hA'
      injection hA' with e1 e2
      subst e1 e2
      have hbg : b < w.heap.size + 1 := by omega
      have Hnx := hide (show hullOn ⟨(x1, x2, x3), (x4, x5, x6)⟩ ((l.drop 1).take (i + 1 - 1)) = axMix ⟨(o1, o2, o3), (o4, o5, o6)⟩ y 3 by
        have h9 : (l.drop 1)[i - 1]? = some y := by rw [List.getElem?_drop, show 1 + (i - 1) = i by omega]; exact hy
        rw [axMix3, show i + 1 - 1 = (i - 1) + 1 by omega, take_snoc' h9, hullOn_snoc, hq.out])
      obtain ⟨⟨y1, y2, y3⟩, y4, y5, y6⟩ := y
      simp only at F1 F2 F3 F4 F5 F6
      clear hy hq
      go_wp2_with fail
      go_loopw [5] (fun kv wr => ∃ k : Nat, k ≤ 3 ∧ kv = .int .i64 k ∧ (∃ u1 u2 u3 u4 u5 u6 : Int, Hid (axMix ⟨(o1, o2, o3), (o4, o5, o6)⟩ ⟨(y1, y2, y3), (y4, y5, y6)⟩ k = ⟨(u1, u2, u3), (u4, u5, u6)⟩) ∧ Hid (Blk wr (w.heap.size + 1) 73 #[.int .i64 u1, .int .i64 u2, .int .i64 u3, .int .i64 u4, .int .i64 u5, .int .i64 u6])) ∧ Hid (Below (w.heap.size + 1) w1 wr)) (fun kv _ => 3 - (intOf kv).toNat)
      case atStart => exact ⟨0, by omega, rfl, ⟨o1, o2, o3, o4, o5, o6, hide rfl, hO⟩, hBo⟩
      case round =>
        clear hO hBo
        rename World => wi
        obtain ⟨k, hk, rfl, ⟨u1, u2, u3, u4, u5, u6, hu, hO⟩, hBi⟩ := hrel
        by_cases hk3 : k < 3
        · have dk : decide ((k : Int) < 3) = true := by simp; omega
          go_wp2_with fail
          go_cut [] from 15 to 52 (fun wx => Hid (∃ t : Pt, t = withC (u1, u2, u3) k (min (nthC (u1, u2, u3) k) (nthC (y1, y2, y3) k)) ∧ Blk wx (w.heap.size + 1) 73 #[.int .i64 t.1, .int .i64 t.2.1, .int .i64 t.2.2, .int .i64 u4, .int .i64 u5, .int .i64 u6]) ∧ Hid (Below (w.heap.size + 1) w1 wx))
          case first =>
            have KO := hO.out
            have x0 := KO.cell 0
            have x1 := KO.cell 1
            have x2 := KO.cell 2
            have z0 := KO.frozen 0
            have z1 := KO.frozen 1
            have z2 := KO.frozen 2
            simp at x0 x1 x2
            have lO := KO.lt
            have RS := hide (fun (W : World) (h : Below wi.heap.size wi W) => show W.cell? ⟨w.heap.size + 1, 0, none⟩ = some (.int .i64 u1) ∧ W.cell? ⟨w.heap.size + 1, 1, none⟩ = some (.int .i64 u2) ∧ W.cell? ⟨w.heap.size + 1, 2, none⟩ = some (.int .i64 u3) ∧ W.frozen? ⟨w.heap.size + 1, 0, none⟩ = false ∧ W.frozen? ⟨w.heap.size + 1, 1, none⟩ = false ∧ W.frozen? ⟨w.heap.size + 1, 2, none⟩ = false from
              ⟨(h.cell (p := ⟨w.heap.size + 1, 0, none⟩) lO).trans x0, (h.cell (p := ⟨w.heap.size + 1, 1, none⟩) lO).trans x1, (h.cell (p := ⟨w.heap.size + 1, 2, none⟩) lO).trans x2, (h.frozen (p := ⟨w.heap.size + 1, 0, none⟩) lO).trans z0, (h.frozen (p := ⟨w.heap.size + 1, 1, none⟩) lO).trans z1, (h.frozen (p := ⟨w.heap.size + 1, 2, none⟩) lO).trans z2⟩)
            have HKe := hide (fun (W : World) (h : Below (w.heap.size + 1) w1 W) => show W.cell? ⟨b, off + i * 6, none⟩ = some (.int .i64 y1) ∧ W.cell? ⟨b, off + i * 6 + 1, none⟩ = some (.int .i64 y2) ∧ W.cell? ⟨b, off + i * 6 + 2, none⟩ = some (.int .i64 y3) from
              ⟨(h.cell (p := ⟨b, off + i * 6, none⟩) hbg).trans (F1), (h.cell (p := ⟨b, off + i * 6 + 1, none⟩) hbg).trans (F2), (h.cell (p := ⟨b, off + i * 6 + 2, none⟩) hbg).trans (F3)⟩)
            obtain ⟨ca, hca⟩ : ∃ q, q = nthC (u1, u2, u3) k := ⟨_, rfl⟩
            obtain ⟨cb, hcb⟩ : ∃ q, q = nthC (y1, y2, y3) k := ⟨_, rfl⟩
            obtain ⟨mm, hmm⟩ : ∃ q, q = min ca cb := ⟨_, rfl⟩
            have hmn : (if cb < ca then cb else ca) = mm := by rw [hmm]; exact minI ca cb
            have HCa := hide (fun (W : World) => show Calls Tryz.prog 109 #[.agg #[.int .i64 u1, .int .i64 u2, .int .i64 u3], .int .i64 k] W fun e w' => e = .returned (.int .i64 ca) ∧ Below W.heap.size W w' by rw [hca]; exact refCoord_any u1 u2 u3 k hk3 W)
            have HCb := hide (fun (W : World) => show Calls Tryz.prog 109 #[.agg #[.int .i64 y1, .int .i64 y2, .int .i64 y3], .int .i64 k] W fun e w' => e = .returned (.int .i64 cb) ∧ Below W.heap.size W w' by rw [hcb]; exact refCoord_any y1 y2 y3 k hk3 W)
            obtain ⟨⟨T1, T2, T3⟩, hT⟩ : ∃ t : Pt, t = withC (u1, u2, u3) k mm := ⟨_, rfl⟩
            have HWi := hide (fun (W : World) => show Calls Tryz.prog 113 #[.agg #[.int .i64 u1, .int .i64 u2, .int .i64 u3], .int .i64 k, .int .i64 mm] W fun e w' => e = .returned (.agg #[.int .i64 T1, .int .i64 T2, .int .i64 T3]) ∧ Below W.heap.size W w' from (refWith_any u1 u2 u3 mm k hk3 W).mono (fun e w' hh => by rw [← hT] at hh; exact hh))
            have HT := hide (show (T1, T2, T3) = withC (u1, u2, u3) k (min (nthC (u1, u2, u3) k) (nthC (y1, y2, y3) k)) by rw [hT, hmm, hca, hcb])
            have hB := Below.drew (Below.refl wi.heap.size wi)
            have hS := HKe.out _ (hBi.out).drew
            have KO := hide KO
            clear hT hca hcb hmm
            refine wp_region_held_drew (S := fun W => W.cell? ⟨b, off + i * 6, none⟩ = some (.int .i64 y1) ∧ W.cell? ⟨b, off + i * 6 + 1, none⟩ = some (.int .i64 y2) ∧ W.cell? ⟨b, off + i * 6 + 2, none⟩ = some (.int .i64 y3)) (by kernel_rfl) hS (fun hHeld => ?_)
            refine wpAnyH_take (i := 0) (v := ?_) rfl (by kernel_rfl) (by kernel_rfl) (by kernel_rfl) (fun _ _ _ h => h) (Or.inl ⟨by rfl, ?_⟩) (by assumption) ?_
            rotate_left
            · intro w hSw
              (try dsimp only at hSw)
              go_simp
              first | done | with_reducible rfl
            (try simp only [List.getElem_toArray, List.getElem_cons_succ, List.getElem_cons_zero, Act.put, List.setIfInBounds_toArray, List.set_cons_zero, List.set_cons_succ])
            refine wpAnyH_take (i := 2) (v := ?_) rfl (by kernel_rfl) (by kernel_rfl) (by kernel_rfl) (fun _ _ _ h => h) (Or.inl ⟨by rfl, ?_⟩) (by assumption) ?_
            rotate_left
            · intro w hSw
              (try dsimp only at hSw)
              go_simp
              first | done | with_reducible rfl
            (try simp only [List.getElem_toArray, List.getElem_cons_succ, List.getElem_cons_zero, Act.put, List.setIfInBounds_toArray, List.set_cons_zero, List.set_cons_succ])
            refine wpAnyH_take (i := 3) (v := ?_) rfl (by kernel_rfl) (by kernel_rfl) (by kernel_rfl) (fun _ _ _ h => h) (Or.inl ⟨by rfl, ?_⟩) (by assumption) ?_
            rotate_left
            · intro w hSw
              (try dsimp only at hSw)
              go_simp
              first | done | with_reducible rfl
            (try simp only [List.getElem_toArray, List.getElem_cons_succ, List.getElem_cons_zero, Act.put, List.setIfInBounds_toArray, List.set_cons_zero, List.set_cons_succ])
            refine wpAnyH_take (i := 5) (v := ?_) rfl (by kernel_rfl) (by kernel_rfl) (by kernel_rfl) (fun _ _ _ h => h) (Or.inl ⟨by rfl, ?_⟩) (by assumption) ?_
            rotate_left
            · intro w hSw
              (try dsimp only at hSw)
              go_simp
              first | done | with_reducible rfl
            (try simp only [List.getElem_toArray, List.getElem_cons_succ, List.getElem_cons_zero, Act.put, List.setIfInBounds_toArray, List.set_cons_zero, List.set_cons_succ])
            refine wpAnyH_take (i := 7) (v := ?_) rfl (by kernel_rfl) (by kernel_rfl) (by kernel_rfl) (fun _ _ _ h => h) (Or.inl ⟨by rfl, ?_⟩) (by assumption) ?_
            rotate_left
            · intro w hSw
              (try dsimp only at hSw)
              go_simp
              first | done | with_reducible rfl
            (try simp only [List.getElem_toArray, List.getElem_cons_succ, List.getElem_cons_zero, Act.put, List.setIfInBounds_toArray, List.set_cons_zero, List.set_cons_succ])
            refine wpAnyH_take (i := 8) (v := ?_) rfl (by kernel_rfl) (by kernel_rfl) (by kernel_rfl) (fun _ _ _ h => h) (Or.inl ⟨by rfl, ?_⟩) (by assumption) ?_
            rotate_left
            · intro w hSw
              (try dsimp only at hSw)
              go_simp
              first | done | with_reducible rfl
            (try simp only [List.getElem_toArray, List.getElem_cons_succ, List.getElem_cons_zero, Act.put, List.setIfInBounds_toArray, List.set_cons_zero, List.set_cons_succ])
            refine wpAnyH_take (i := 9) (v := ?_) rfl (by kernel_rfl) (by kernel_rfl) (by kernel_rfl) (fun _ _ _ h => h) (Or.inl ⟨by rfl, ?_⟩) (by assumption) ?_
            rotate_left
            · intro w hSw
              (try dsimp only at hSw)
              go_simp
              first | done | with_reducible rfl
            (try simp only [List.getElem_toArray, List.getElem_cons_succ, List.getElem_cons_zero, Act.put, List.setIfInBounds_toArray, List.set_cons_zero, List.set_cons_succ])
            refine wpAnyH_take (i := 10) (v := ?_) rfl (by kernel_rfl) (by kernel_rfl) (by kernel_rfl) (fun _ _ _ h => h) (Or.inl ⟨by rfl, ?_⟩) (by assumption) ?_
            rotate_left
            · intro w hSw
              (try dsimp only at hSw)
              go_simp
              first | done | with_reducible rfl
            (try simp only [List.getElem_toArray, List.getElem_cons_succ, List.getElem_cons_zero, Act.put, List.setIfInBounds_toArray, List.set_cons_zero, List.set_cons_succ])
            refine wpAnyH_take (i := 11) (v := ?_) rfl (by kernel_rfl) (by kernel_rfl) (by kernel_rfl) (fun _ _ _ h => h) (Or.inl ⟨by rfl, ?_⟩) (by assumption) ?_
            rotate_left
            · intro w hSw
              (try dsimp only at hSw)
              go_simp
              first | done | with_reducible rfl
            (try simp only [List.getElem_toArray, List.getElem_cons_succ, List.getElem_cons_zero, Act.put, List.setIfInBounds_toArray, List.set_cons_zero, List.set_cons_succ])
            refine wpAnyH_take (i := 12) (v := ?_) rfl (by kernel_rfl) (by kernel_rfl) (by kernel_rfl) (fun _ _ _ h => h) (Or.inl ⟨by rfl, ?_⟩) (by assumption) ?_
            rotate_left
            · intro w hSw
              (try dsimp only at hSw)
              go_simp
              first | done | with_reducible rfl
            (try simp only [List.getElem_toArray, List.getElem_cons_succ, List.getElem_cons_zero, Act.put, List.setIfInBounds_toArray, List.set_cons_zero, List.set_cons_succ])
            refine wpAnyH_ready (rs := [1, 4]) (by kernel_rfl) (by simp) (AllReadyH.cons rfl (fun K hK => ?_) (AllReadyH.cons rfl (fun K hK => ?_) AllReadyH.nil))
            · skip
              go_simp
              refine hK.out _ _ hS (fun hHeld => ?_)
              clear hK K
              (try simp only [List.getElem_toArray, List.getElem_cons_succ, List.getElem_cons_zero, Act.put, List.setIfInBounds_toArray, List.set_cons_zero, List.set_cons_succ])
              refine wpAnyH_ready (rs := [4]) (by kernel_rfl) (by simp) (AllReadyH.cons rfl (fun K hK => ?_) AllReadyH.nil)
              · skip
                go_simp
                refine hK.out _ _ hS (fun hHeld => ?_)
                clear hK K
                (try simp only [List.getElem_toArray, List.getElem_cons_succ, List.getElem_cons_zero, Act.put, List.setIfInBounds_toArray, List.set_cons_zero, List.set_cons_succ])
                refine wpAnyH_ready (rs := [6]) (by kernel_rfl) (by simp) (AllReadyH.cons rfl (fun K hK => ?_) AllReadyH.nil)
                · skip
                  go_simp
                  refine (HCa.out _).mono ?_
                  rintro e wz ⟨rfl, hbz⟩
                  have hB := below_step hB hbz (Nat.le_refl wi.heap.size)
                  obtain ⟨d0, d1, d2, e0, e1, e2⟩ := RS.out _ hB
                  have hS := HKe.out _ ((hBi.out).trans (hB.mono (Nat.le_of_lt lO)))
                  go_wp2_with fail
                  refine hK.out _ _ hS (fun hHeld => ?_)
                  clear hK K
                  (try simp only [List.getElem_toArray, List.getElem_cons_succ, List.getElem_cons_zero, Act.put, List.setIfInBounds_toArray, List.set_cons_zero, List.set_cons_succ])
                  refine wpAnyH_ready (rs := [13]) (by kernel_rfl) (by simp) (AllReadyH.cons rfl (fun K hK => ?_) AllReadyH.nil)
                  · skip
                    go_simp
                    refine (HCb.out _).mono ?_
                    rintro e wz ⟨rfl, hbz⟩
                    have hB := below_step hB hbz (Nat.le_refl wi.heap.size)
                    obtain ⟨d0, d1, d2, e0, e1, e2⟩ := RS.out _ hB
                    have hS := HKe.out _ ((hBi.out).trans (hB.mono (Nat.le_of_lt lO)))
                    go_wp2_with fail
                    refine hK.out _ _ hS (fun hHeld => ?_)
                    clear hK K
                    (try simp only [List.getElem_toArray, List.getElem_cons_succ, List.getElem_cons_zero, Act.put, List.setIfInBounds_toArray, List.set_cons_zero, List.set_cons_succ])
                    refine wpAnyH_ready (rs := [14]) (by kernel_rfl) (by simp) (AllReadyH.cons rfl (fun K hK => ?_) AllReadyH.nil)
                    · skip
                      go_simp
                      refine hK.out _ _ hS (fun hHeld => ?_)
                      clear hK K
                      (try simp only [List.getElem_toArray, List.getElem_cons_succ, List.getElem_cons_zero, Act.put, List.setIfInBounds_toArray, List.set_cons_zero, List.set_cons_succ])
                      refine wpAnyH_ready (rs := [15]) (by kernel_rfl) (by simp) (AllReadyH.cons rfl (fun K hK => ?_) AllReadyH.nil)
                      · skip
                        go_simp
                        refine (HWi.out _).mono ?_
                        rintro e wz ⟨rfl, hbz⟩
                        have hB := below_step hB hbz (Nat.le_refl wi.heap.size)
                        obtain ⟨d0, d1, d2, e0, e1, e2⟩ := RS.out _ hB
                        have hS := HKe.out _ ((hBi.out).trans (hB.mono (Nat.le_of_lt lO)))
                        go_wp2_with fail
                        refine hK.out _ _ hS (fun hHeld => ?_)
                        clear hK K
                        (try simp only [List.getElem_toArray, List.getElem_cons_succ, List.getElem_cons_zero, Act.put, List.setIfInBounds_toArray, List.set_cons_zero, List.set_cons_succ])
                        refine wpAnyH_take (i := 16) (v := ?_) rfl (by kernel_rfl) (by kernel_rfl) (by kernel_rfl) (fun _ _ _ h => h) (Or.inl ⟨by rfl, ?_⟩) (by assumption) ?_
                        rotate_left
                        · intro w hSw
                          (try dsimp only at hSw)
                          go_simp
                          first | done | with_reducible rfl
                        (try simp only [List.getElem_toArray, List.getElem_cons_succ, List.getElem_cons_zero, Act.put, List.setIfInBounds_toArray, List.set_cons_zero, List.set_cons_succ])
                        refine wpAnyH_ready (rs := [17]) (by kernel_rfl) (by simp) (AllReadyH.cons rfl (fun K hK => ?_) AllReadyH.nil)
                        · skip
                          go_simp
                          refine hK.out _ _ (HKe.out _ (below3 (g := w.heap.size + 1) ((hBi.out).trans (hB.mono (Nat.le_of_lt lO))) (Nat.le_refl _) _ _ _)) (fun hHeld => ?_)
                          clear hK K
                          (try simp only [List.getElem_toArray, List.getElem_cons_succ, List.getElem_cons_zero, Act.put, List.setIfInBounds_toArray, List.set_cons_zero, List.set_cons_succ])
                          refine wpAnyH_done (by kernel_rfl) ?_ _
                          go_wp2_with fail
                          go_meet
                          exact ⟨hide ⟨(T1, T2, T3), HT.out, blk3l (KO.out.below hB lO) _ _ _⟩, hide (below3 (g := w.heap.size + 1) (hBi.out.trans (hB.mono (Nat.le_of_lt lO))) (Nat.le_refl _) _ _ _)⟩
            · skip
              go_simp
              refine hK.out _ _ hS (fun hHeld => ?_)
              clear hK K
              (try simp only [List.getElem_toArray, List.getElem_cons_succ, List.getElem_cons_zero, Act.put, List.setIfInBounds_toArray, List.set_cons_zero, List.set_cons_succ])
              refine wpAnyH_ready (rs := [1, 6]) (by kernel_rfl) (by simp) (AllReadyH.cons rfl (fun K hK => ?_) (AllReadyH.cons rfl (fun K hK => ?_) AllReadyH.nil))
              · skip
                go_simp
                refine hK.out _ _ hS (fun hHeld => ?_)
                clear hK K
                (try simp only [List.getElem_toArray, List.getElem_cons_succ, List.getElem_cons_zero, Act.put, List.setIfInBounds_toArray, List.set_cons_zero, List.set_cons_succ])
                refine wpAnyH_ready (rs := [6]) (by kernel_rfl) (by simp) (AllReadyH.cons rfl (fun K hK => ?_) AllReadyH.nil)
                · skip
                  go_simp
                  refine (HCa.out _).mono ?_
                  rintro e wz ⟨rfl, hbz⟩
                  have hB := below_step hB hbz (Nat.le_refl wi.heap.size)
                  obtain ⟨d0, d1, d2, e0, e1, e2⟩ := RS.out _ hB
                  have hS := HKe.out _ ((hBi.out).trans (hB.mono (Nat.le_of_lt lO)))
                  go_wp2_with fail
                  refine hK.out _ _ hS (fun hHeld => ?_)
                  clear hK K
                  (try simp only [List.getElem_toArray, List.getElem_cons_succ, List.getElem_cons_zero, Act.put, List.setIfInBounds_toArray, List.set_cons_zero, List.set_cons_succ])
                  refine wpAnyH_ready (rs := [13]) (by kernel_rfl) (by simp) (AllReadyH.cons rfl (fun K hK => ?_) AllReadyH.nil)
                  · skip
                    go_simp
                    refine (HCb.out _).mono ?_
                    rintro e wz ⟨rfl, hbz⟩
                    have hB := below_step hB hbz (Nat.le_refl wi.heap.size)
                    obtain ⟨d0, d1, d2, e0, e1, e2⟩ := RS.out _ hB
                    have hS := HKe.out _ ((hBi.out).trans (hB.mono (Nat.le_of_lt lO)))
                    go_wp2_with fail
                    refine hK.out _ _ hS (fun hHeld => ?_)
                    clear hK K
                    (try simp only [List.getElem_toArray, List.getElem_cons_succ, List.getElem_cons_zero, Act.put, List.setIfInBounds_toArray, List.set_cons_zero, List.set_cons_succ])
                    refine wpAnyH_ready (rs := [14]) (by kernel_rfl) (by simp) (AllReadyH.cons rfl (fun K hK => ?_) AllReadyH.nil)
                    · skip
                      go_simp
                      refine hK.out _ _ hS (fun hHeld => ?_)
                      clear hK K
                      (try simp only [List.getElem_toArray, List.getElem_cons_succ, List.getElem_cons_zero, Act.put, List.setIfInBounds_toArray, List.set_cons_zero, List.set_cons_succ])
                      refine wpAnyH_ready (rs := [15]) (by kernel_rfl) (by simp) (AllReadyH.cons rfl (fun K hK => ?_) AllReadyH.nil)
                      · skip
                        go_simp
                        refine (HWi.out _).mono ?_
                        rintro e wz ⟨rfl, hbz⟩
                        have hB := below_step hB hbz (Nat.le_refl wi.heap.size)
                        obtain ⟨d0, d1, d2, e0, e1, e2⟩ := RS.out _ hB
                        have hS := HKe.out _ ((hBi.out).trans (hB.mono (Nat.le_of_lt lO)))
                        go_wp2_with fail
                        refine hK.out _ _ hS (fun hHeld => ?_)
                        clear hK K
                        (try simp only [List.getElem_toArray, List.getElem_cons_succ, List.getElem_cons_zero, Act.put, List.setIfInBounds_toArray, List.set_cons_zero, List.set_cons_succ])
                        refine wpAnyH_take (i := 16) (v := ?_) rfl (by kernel_rfl) (by kernel_rfl) (by kernel_rfl) (fun _ _ _ h => h) (Or.inl ⟨by rfl, ?_⟩) (by assumption) ?_
                        rotate_left
                        · intro w hSw
                          (try dsimp only at hSw)
                          go_simp
                          first | done | with_reducible rfl
                        (try simp only [List.getElem_toArray, List.getElem_cons_succ, List.getElem_cons_zero, Act.put, List.setIfInBounds_toArray, List.set_cons_zero, List.set_cons_succ])
                        refine wpAnyH_ready (rs := [17]) (by kernel_rfl) (by simp) (AllReadyH.cons rfl (fun K hK => ?_) AllReadyH.nil)
                        · skip
                          go_simp
                          refine hK.out _ _ (HKe.out _ (below3 (g := w.heap.size + 1) ((hBi.out).trans (hB.mono (Nat.le_of_lt lO))) (Nat.le_refl _) _ _ _)) (fun hHeld => ?_)
                          clear hK K
                          (try simp only [List.getElem_toArray, List.getElem_cons_succ, List.getElem_cons_zero, Act.put, List.setIfInBounds_toArray, List.set_cons_zero, List.set_cons_succ])
                          refine wpAnyH_done (by kernel_rfl) ?_ _
                          go_wp2_with fail
                          go_meet
                          exact ⟨hide ⟨(T1, T2, T3), HT.out, blk3l (KO.out.below hB lO) _ _ _⟩, hide (below3 (g := w.heap.size + 1) (hBi.out.trans (hB.mono (Nat.le_of_lt lO))) (Nat.le_refl _) _ _ _)⟩
              · skip
                go_simp
                refine (HCa.out _).mono ?_
                rintro e wz ⟨rfl, hbz⟩
                have hB := below_step hB hbz (Nat.le_refl wi.heap.size)
                obtain ⟨d0, d1, d2, e0, e1, e2⟩ := RS.out _ hB
                have hS := HKe.out _ ((hBi.out).trans (hB.mono (Nat.le_of_lt lO)))
                go_wp2_with fail
                refine hK.out _ _ hS (fun hHeld => ?_)
                clear hK K
                (try simp only [List.getElem_toArray, List.getElem_cons_succ, List.getElem_cons_zero, Act.put, List.setIfInBounds_toArray, List.set_cons_zero, List.set_cons_succ])
                refine wpAnyH_ready (rs := [1, 13]) (by kernel_rfl) (by simp) (AllReadyH.cons rfl (fun K hK => ?_) (AllReadyH.cons rfl (fun K hK => ?_) AllReadyH.nil))
                · skip
                  go_simp
                  refine hK.out _ _ hS (fun hHeld => ?_)
                  clear hK K
                  (try simp only [List.getElem_toArray, List.getElem_cons_succ, List.getElem_cons_zero, Act.put, List.setIfInBounds_toArray, List.set_cons_zero, List.set_cons_succ])
                  refine wpAnyH_ready (rs := [13]) (by kernel_rfl) (by simp) (AllReadyH.cons rfl (fun K hK => ?_) AllReadyH.nil)
                  · skip
                    go_simp
                    refine (HCb.out _).mono ?_
                    rintro e wz ⟨rfl, hbz⟩
                    have hB := below_step hB hbz (Nat.le_refl wi.heap.size)
                    obtain ⟨d0, d1, d2, e0, e1, e2⟩ := RS.out _ hB
                    have hS := HKe.out _ ((hBi.out).trans (hB.mono (Nat.le_of_lt lO)))
                    go_wp2_with fail
                    refine hK.out _ _ hS (fun hHeld => ?_)
                    clear hK K
                    (try simp only [List.getElem_toArray, List.getElem_cons_succ, List.getElem_cons_zero, Act.put, List.setIfInBounds_toArray, List.set_cons_zero, List.set_cons_succ])
                    refine wpAnyH_ready (rs := [14]) (by kernel_rfl) (by simp) (AllReadyH.cons rfl (fun K hK => ?_) AllReadyH.nil)
                    · skip
                      go_simp
                      refine hK.out _ _ hS (fun hHeld => ?_)
                      clear hK K
                      (try simp only [List.getElem_toArray, List.getElem_cons_succ, List.getElem_cons_zero, Act.put, List.setIfInBounds_toArray, List.set_cons_zero, List.set_cons_succ])
                      refine wpAnyH_ready (rs := [15]) (by kernel_rfl) (by simp) (AllReadyH.cons rfl (fun K hK => ?_) AllReadyH.nil)
                      · skip
                        go_simp
                        refine (HWi.out _).mono ?_
                        rintro e wz ⟨rfl, hbz⟩
                        have hB := below_step hB hbz (Nat.le_refl wi.heap.size)
                        obtain ⟨d0, d1, d2, e0, e1, e2⟩ := RS.out _ hB
                        have hS := HKe.out _ ((hBi.out).trans (hB.mono (Nat.le_of_lt lO)))
                        go_wp2_with fail
                        refine hK.out _ _ hS (fun hHeld => ?_)
                        clear hK K
                        (try simp only [List.getElem_toArray, List.getElem_cons_succ, List.getElem_cons_zero, Act.put, List.setIfInBounds_toArray, List.set_cons_zero, List.set_cons_succ])
                        refine wpAnyH_take (i := 16) (v := ?_) rfl (by kernel_rfl) (by kernel_rfl) (by kernel_rfl) (fun _ _ _ h => h) (Or.inl ⟨by rfl, ?_⟩) (by assumption) ?_
                        rotate_left
                        · intro w hSw
                          (try dsimp only at hSw)
                          go_simp
                          first | done | with_reducible rfl
                        (try simp only [List.getElem_toArray, List.getElem_cons_succ, List.getElem_cons_zero, Act.put, List.setIfInBounds_toArray, List.set_cons_zero, List.set_cons_succ])
                        refine wpAnyH_ready (rs := [17]) (by kernel_rfl) (by simp) (AllReadyH.cons rfl (fun K hK => ?_) AllReadyH.nil)
                        · skip
                          go_simp
                          refine hK.out _ _ (HKe.out _ (below3 (g := w.heap.size + 1) ((hBi.out).trans (hB.mono (Nat.le_of_lt lO))) (Nat.le_refl _) _ _ _)) (fun hHeld => ?_)
                          clear hK K
                          (try simp only [List.getElem_toArray, List.getElem_cons_succ, List.getElem_cons_zero, Act.put, List.setIfInBounds_toArray, List.set_cons_zero, List.set_cons_succ])
                          refine wpAnyH_done (by kernel_rfl) ?_ _
                          go_wp2_with fail
                          go_meet
                          exact ⟨hide ⟨(T1, T2, T3), HT.out, blk3l (KO.out.below hB lO) _ _ _⟩, hide (below3 (g := w.heap.size + 1) (hBi.out.trans (hB.mono (Nat.le_of_lt lO))) (Nat.le_refl _) _ _ _)⟩
                · skip
                  go_simp
                  refine (HCb.out _).mono ?_
                  rintro e wz ⟨rfl, hbz⟩
                  have hB := below_step hB hbz (Nat.le_refl wi.heap.size)
                  obtain ⟨d0, d1, d2, e0, e1, e2⟩ := RS.out _ hB
                  have hS := HKe.out _ ((hBi.out).trans (hB.mono (Nat.le_of_lt lO)))
                  go_wp2_with fail
                  refine hK.out _ _ hS (fun hHeld => ?_)
                  clear hK K
                  (try simp only [List.getElem_toArray, List.getElem_cons_succ, List.getElem_cons_zero, Act.put, List.setIfInBounds_toArray, List.set_cons_zero, List.set_cons_succ])
                  refine wpAnyH_ready (rs := [1, 14]) (by kernel_rfl) (by simp) (AllReadyH.cons rfl (fun K hK => ?_) (AllReadyH.cons rfl (fun K hK => ?_) AllReadyH.nil))
                  · skip
                    go_simp
                    refine hK.out _ _ hS (fun hHeld => ?_)
                    clear hK K
                    (try simp only [List.getElem_toArray, List.getElem_cons_succ, List.getElem_cons_zero, Act.put, List.setIfInBounds_toArray, List.set_cons_zero, List.set_cons_succ])
                    refine wpAnyH_ready (rs := [14]) (by kernel_rfl) (by simp) (AllReadyH.cons rfl (fun K hK => ?_) AllReadyH.nil)
                    · skip
                      go_simp
                      refine hK.out _ _ hS (fun hHeld => ?_)
                      clear hK K
                      (try simp only [List.getElem_toArray, List.getElem_cons_succ, List.getElem_cons_zero, Act.put, List.setIfInBounds_toArray, List.set_cons_zero, List.set_cons_succ])
                      refine wpAnyH_ready (rs := [15]) (by kernel_rfl) (by simp) (AllReadyH.cons rfl (fun K hK => ?_) AllReadyH.nil)
                      · skip
                        go_simp
                        refine (HWi.out _).mono ?_
                        rintro e wz ⟨rfl, hbz⟩
                        have hB := below_step hB hbz (Nat.le_refl wi.heap.size)
                        obtain ⟨d0, d1, d2, e0, e1, e2⟩ := RS.out _ hB
                        have hS := HKe.out _ ((hBi.out).trans (hB.mono (Nat.le_of_lt lO)))
                        go_wp2_with fail
                        refine hK.out _ _ hS (fun hHeld => ?_)
                        clear hK K
                        (try simp only [List.getElem_toArray, List.getElem_cons_succ, List.getElem_cons_zero, Act.put, List.setIfInBounds_toArray, List.set_cons_zero, List.set_cons_succ])
                        refine wpAnyH_take (i := 16) (v := ?_) rfl (by kernel_rfl) (by kernel_rfl) (by kernel_rfl) (fun _ _ _ h => h) (Or.inl ⟨by rfl, ?_⟩) (by assumption) ?_
                        rotate_left
                        · intro w hSw
                          (try dsimp only at hSw)
                          go_simp
                          first | done | with_reducible rfl
                        (try simp only [List.getElem_toArray, List.getElem_cons_succ, List.getElem_cons_zero, Act.put, List.setIfInBounds_toArray, List.set_cons_zero, List.set_cons_succ])
                        refine wpAnyH_ready (rs := [17]) (by kernel_rfl) (by simp) (AllReadyH.cons rfl (fun K hK => ?_) AllReadyH.nil)
                        · skip
                          go_simp
                          refine hK.out _ _ (HKe.out _ (below3 (g := w.heap.size + 1) ((hBi.out).trans (hB.mono (Nat.le_of_lt lO))) (Nat.le_refl _) _ _ _)) (fun hHeld => ?_)
                          clear hK K
                          (try simp only [List.getElem_toArray, List.getElem_cons_succ, List.getElem_cons_zero, Act.put, List.setIfInBounds_toArray, List.set_cons_zero, List.set_cons_succ])
                          refine wpAnyH_done (by kernel_rfl) ?_ _
                          go_wp2_with fail
                          go_meet
                          exact ⟨hide ⟨(T1, T2, T3), HT.out, blk3l (KO.out.below hB lO) _ _ _⟩, hide (below3 (g := w.heap.size + 1) (hBi.out.trans (hB.mono (Nat.le_of_lt lO))) (Nat.le_refl _) _ _ _)⟩
                  · skip
                    go_simp
                    refine hK.out _ _ hS (fun hHeld => ?_)
                    clear hK K
                    (try simp only [List.getElem_toArray, List.getElem_cons_succ, List.getElem_cons_zero, Act.put, List.setIfInBounds_toArray, List.set_cons_zero, List.set_cons_succ])
                    refine wpAnyH_ready (rs := [1]) (by kernel_rfl) (by simp) (AllReadyH.cons rfl (fun K hK => ?_) AllReadyH.nil)
                    · skip
                      go_simp
                      refine hK.out _ _ hS (fun hHeld => ?_)
                      clear hK K
                      (try simp only [List.getElem_toArray, List.getElem_cons_succ, List.getElem_cons_zero, Act.put, List.setIfInBounds_toArray, List.set_cons_zero, List.set_cons_succ])
                      refine wpAnyH_ready (rs := [15]) (by kernel_rfl) (by simp) (AllReadyH.cons rfl (fun K hK => ?_) AllReadyH.nil)
                      · skip
                        go_simp
                        refine (HWi.out _).mono ?_
                        rintro e wz ⟨rfl, hbz⟩
                        have hB := below_step hB hbz (Nat.le_refl wi.heap.size)
                        obtain ⟨d0, d1, d2, e0, e1, e2⟩ := RS.out _ hB
                        have hS := HKe.out _ ((hBi.out).trans (hB.mono (Nat.le_of_lt lO)))
                        go_wp2_with fail
                        refine hK.out _ _ hS (fun hHeld => ?_)
                        clear hK K
                        (try simp only [List.getElem_toArray, List.getElem_cons_succ, List.getElem_cons_zero, Act.put, List.setIfInBounds_toArray, List.set_cons_zero, List.set_cons_succ])
                        refine wpAnyH_take (i := 16) (v := ?_) rfl (by kernel_rfl) (by kernel_rfl) (by kernel_rfl) (fun _ _ _ h => h) (Or.inl ⟨by rfl, ?_⟩) (by assumption) ?_
                        rotate_left
                        · intro w hSw
                          (try dsimp only at hSw)
                          go_simp
                          first | done | with_reducible rfl
                        (try simp only [List.getElem_toArray, List.getElem_cons_succ, List.getElem_cons_zero, Act.put, List.setIfInBounds_toArray, List.set_cons_zero, List.set_cons_succ])
                        refine wpAnyH_ready (rs := [17]) (by kernel_rfl) (by simp) (AllReadyH.cons rfl (fun K hK => ?_) AllReadyH.nil)
                        · skip
                          go_simp
                          refine hK.out _ _ (HKe.out _ (below3 (g := w.heap.size + 1) ((hBi.out).trans (hB.mono (Nat.le_of_lt lO))) (Nat.le_refl _) _ _ _)) (fun hHeld => ?_)
                          clear hK K
                          (try simp only [List.getElem_toArray, List.getElem_cons_succ, List.getElem_cons_zero, Act.put, List.setIfInBounds_toArray, List.set_cons_zero, List.set_cons_succ])
                          refine wpAnyH_done (by kernel_rfl) ?_ _
                          go_wp2_with fail
                          go_meet
                          exact ⟨hide ⟨(T1, T2, T3), HT.out, blk3l (KO.out.below hB lO) _ _ _⟩, hide (below3 (g := w.heap.size + 1) (hBi.out.trans (hB.mono (Nat.le_of_lt lO))) (Nat.le_refl _) _ _ _)⟩
          case rest =>
            obtain ⟨⟨⟨t1, t2, t3⟩, ht, hO2⟩, hBi2⟩ := hcut
            rename World => wj
            have Ht := hide ht
            simp only at hO2
            have hO2 := hide hO2
            clear ht hO hBi
            go_wp2_with fail
            have hOw := hO2
            have KO := hOw.out
            have x0 := KO.cell 3
            have x1 := KO.cell 4
            have x2 := KO.cell 5
            have z0 := KO.frozen 3
            have z1 := KO.frozen 4
            have z2 := KO.frozen 5
            simp at x0 x1 x2
            have lO := KO.lt
            have RS := hide (fun (W : World) (h : Below wj.heap.size wj W) => show W.cell? ⟨w.heap.size + 1, 3, none⟩ = some (.int .i64 u4) ∧ W.cell? ⟨w.heap.size + 1, 4, none⟩ = some (.int .i64 u5) ∧ W.cell? ⟨w.heap.size + 1, 5, none⟩ = some (.int .i64 u6) ∧ W.frozen? ⟨w.heap.size + 1, 3, none⟩ = false ∧ W.frozen? ⟨w.heap.size + 1, 4, none⟩ = false ∧ W.frozen? ⟨w.heap.size + 1, 5, none⟩ = false from
              ⟨(h.cell (p := ⟨w.heap.size + 1, 3, none⟩) lO).trans x0, (h.cell (p := ⟨w.heap.size + 1, 4, none⟩) lO).trans x1, (h.cell (p := ⟨w.heap.size + 1, 5, none⟩) lO).trans x2, (h.frozen (p := ⟨w.heap.size + 1, 3, none⟩) lO).trans z0, (h.frozen (p := ⟨w.heap.size + 1, 4, none⟩) lO).trans z1, (h.frozen (p := ⟨w.heap.size + 1, 5, none⟩) lO).trans z2⟩)
            have HKe := hide (fun (W : World) (h : Below (w.heap.size + 1) w1 W) => show W.cell? ⟨b, off + i * 6 + 3, none⟩ = some (.int .i64 y4) ∧ W.cell? ⟨b, off + i * 6 + 4, none⟩ = some (.int .i64 y5) ∧ W.cell? ⟨b, off + i * 6 + 5, none⟩ = some (.int .i64 y6) from
              ⟨(h.cell (p := ⟨b, off + i * 6 + 3, none⟩) hbg).trans (F4), (h.cell (p := ⟨b, off + i * 6 + 4, none⟩) hbg).trans (F5), (h.cell (p := ⟨b, off + i * 6 + 5, none⟩) hbg).trans (F6)⟩)
            obtain ⟨ca, hca⟩ : ∃ q, q = nthC (u4, u5, u6) k := ⟨_, rfl⟩
            obtain ⟨cb, hcb⟩ : ∃ q, q = nthC (y4, y5, y6) k := ⟨_, rfl⟩
            obtain ⟨mm, hmm⟩ : ∃ q, q = max ca cb := ⟨_, rfl⟩
            have hmn : (if ca < cb then cb else ca) = mm := by rw [hmm]; exact maxI ca cb
            have HCa := hide (fun (W : World) => show Calls Tryz.prog 109 #[.agg #[.int .i64 u4, .int .i64 u5, .int .i64 u6], .int .i64 k] W fun e w' => e = .returned (.int .i64 ca) ∧ Below W.heap.size W w' by rw [hca]; exact refCoord_any u4 u5 u6 k hk3 W)
            have HCb := hide (fun (W : World) => show Calls Tryz.prog 109 #[.agg #[.int .i64 y4, .int .i64 y5, .int .i64 y6], .int .i64 k] W fun e w' => e = .returned (.int .i64 cb) ∧ Below W.heap.size W w' by rw [hcb]; exact refCoord_any y4 y5 y6 k hk3 W)
            obtain ⟨⟨T1, T2, T3⟩, hT⟩ : ∃ t : Pt, t = withC (u4, u5, u6) k mm := ⟨_, rfl⟩
            have HWi := hide (fun (W : World) => show Calls Tryz.prog 113 #[.agg #[.int .i64 u4, .int .i64 u5, .int .i64 u6], .int .i64 k, .int .i64 mm] W fun e w' => e = .returned (.agg #[.int .i64 T1, .int .i64 T2, .int .i64 T3]) ∧ Below W.heap.size W w' from (refWith_any u4 u5 u6 mm k hk3 W).mono (fun e w' hh => by rw [← hT] at hh; exact hh))
            have HT := hide (show (T1, T2, T3) = withC (u4, u5, u6) k (max (nthC (u4, u5, u6) k) (nthC (y4, y5, y6) k)) by rw [hT, hmm, hca, hcb])
            have hB := Below.drew (Below.refl wj.heap.size wj)
            have hS := HKe.out _ (hBi2.out).drew
            have KO := hide KO
            clear hT hca hcb hmm
            refine wp_region_held_drew (S := fun W => W.cell? ⟨b, off + i * 6 + 3, none⟩ = some (.int .i64 y4) ∧ W.cell? ⟨b, off + i * 6 + 4, none⟩ = some (.int .i64 y5) ∧ W.cell? ⟨b, off + i * 6 + 5, none⟩ = some (.int .i64 y6)) (by kernel_rfl) hS (fun hHeld => ?_)
            refine wpAnyH_take (i := 0) (v := ?_) rfl (by kernel_rfl) (by kernel_rfl) (by kernel_rfl) (fun _ _ _ h => h) (Or.inl ⟨by rfl, ?_⟩) (by assumption) ?_
            rotate_left
            · intro w hSw
              (try dsimp only at hSw)
              go_simp
              first | done | with_reducible rfl
            (try simp only [List.getElem_toArray, List.getElem_cons_succ, List.getElem_cons_zero, Act.put, List.setIfInBounds_toArray, List.set_cons_zero, List.set_cons_succ])
            refine wpAnyH_take (i := 2) (v := ?_) rfl (by kernel_rfl) (by kernel_rfl) (by kernel_rfl) (fun _ _ _ h => h) (Or.inl ⟨by rfl, ?_⟩) (by assumption) ?_
            rotate_left
            · intro w hSw
              (try dsimp only at hSw)
              go_simp
              first | done | with_reducible rfl
            (try simp only [List.getElem_toArray, List.getElem_cons_succ, List.getElem_cons_zero, Act.put, List.setIfInBounds_toArray, List.set_cons_zero, List.set_cons_succ])
            refine wpAnyH_take (i := 3) (v := ?_) rfl (by kernel_rfl) (by kernel_rfl) (by kernel_rfl) (fun _ _ _ h => h) (Or.inl ⟨by rfl, ?_⟩) (by assumption) ?_
            rotate_left
            · intro w hSw
              (try dsimp only at hSw)
              go_simp
              first | done | with_reducible rfl
            (try simp only [List.getElem_toArray, List.getElem_cons_succ, List.getElem_cons_zero, Act.put, List.setIfInBounds_toArray, List.set_cons_zero, List.set_cons_succ])
            refine wpAnyH_take (i := 5) (v := ?_) rfl (by kernel_rfl) (by kernel_rfl) (by kernel_rfl) (fun _ _ _ h => h) (Or.inl ⟨by rfl, ?_⟩) (by assumption) ?_
            rotate_left
            · intro w hSw
              (try dsimp only at hSw)
              go_simp
              first | done | with_reducible rfl
            (try simp only [List.getElem_toArray, List.getElem_cons_succ, List.getElem_cons_zero, Act.put, List.setIfInBounds_toArray, List.set_cons_zero, List.set_cons_succ])
            refine wpAnyH_take (i := 7) (v := ?_) rfl (by kernel_rfl) (by kernel_rfl) (by kernel_rfl) (fun _ _ _ h => h) (Or.inl ⟨by rfl, ?_⟩) (by assumption) ?_
            rotate_left
            · intro w hSw
              (try dsimp only at hSw)
              go_simp
              first | done | with_reducible rfl
            (try simp only [List.getElem_toArray, List.getElem_cons_succ, List.getElem_cons_zero, Act.put, List.setIfInBounds_toArray, List.set_cons_zero, List.set_cons_succ])
            refine wpAnyH_take (i := 8) (v := ?_) rfl (by kernel_rfl) (by kernel_rfl) (by kernel_rfl) (fun _ _ _ h => h) (Or.inl ⟨by rfl, ?_⟩) (by assumption) ?_
            rotate_left
            · intro w hSw
              (try dsimp only at hSw)
              go_simp
              first | done | with_reducible rfl
            (try simp only [List.getElem_toArray, List.getElem_cons_succ, List.getElem_cons_zero, Act.put, List.setIfInBounds_toArray, List.set_cons_zero, List.set_cons_succ])
            refine wpAnyH_take (i := 9) (v := ?_) rfl (by kernel_rfl) (by kernel_rfl) (by kernel_rfl) (fun _ _ _ h => h) (Or.inl ⟨by rfl, ?_⟩) (by assumption) ?_
            rotate_left
            · intro w hSw
              (try dsimp only at hSw)
              go_simp
              first | done | with_reducible rfl
            (try simp only [List.getElem_toArray, List.getElem_cons_succ, List.getElem_cons_zero, Act.put, List.setIfInBounds_toArray, List.set_cons_zero, List.set_cons_succ])
            refine wpAnyH_take (i := 10) (v := ?_) rfl (by kernel_rfl) (by kernel_rfl) (by kernel_rfl) (fun _ _ _ h => h) (Or.inl ⟨by rfl, ?_⟩) (by assumption) ?_
            rotate_left
            · intro w hSw
              (try dsimp only at hSw)
              go_simp
              first | done | with_reducible rfl
            (try simp only [List.getElem_toArray, List.getElem_cons_succ, List.getElem_cons_zero, Act.put, List.setIfInBounds_toArray, List.set_cons_zero, List.set_cons_succ])
            refine wpAnyH_take (i := 11) (v := ?_) rfl (by kernel_rfl) (by kernel_rfl) (by kernel_rfl) (fun _ _ _ h => h) (Or.inl ⟨by rfl, ?_⟩) (by assumption) ?_
            rotate_left
            · intro w hSw
              (try dsimp only at hSw)
              go_simp
              first | done | with_reducible rfl
            (try simp only [List.getElem_toArray, List.getElem_cons_succ, List.getElem_cons_zero, Act.put, List.setIfInBounds_toArray, List.set_cons_zero, List.set_cons_succ])
            refine wpAnyH_take (i := 12) (v := ?_) rfl (by kernel_rfl) (by kernel_rfl) (by kernel_rfl) (fun _ _ _ h => h) (Or.inl ⟨by rfl, ?_⟩) (by assumption) ?_
            rotate_left
            · intro w hSw
              (try dsimp only at hSw)
              go_simp
              first | done | with_reducible rfl
            (try simp only [List.getElem_toArray, List.getElem_cons_succ, List.getElem_cons_zero, Act.put, List.setIfInBounds_toArray, List.set_cons_zero, List.set_cons_succ])
            refine wpAnyH_ready (rs := [1, 4]) (by kernel_rfl) (by simp) (AllReadyH.cons rfl (fun K hK => ?_) (AllReadyH.cons rfl (fun K hK => ?_) AllReadyH.nil))
            · skip
              go_simp
              refine hK.out _ _ hS (fun hHeld => ?_)
              clear hK K
              (try simp only [List.getElem_toArray, List.getElem_cons_succ, List.getElem_cons_zero, Act.put, List.setIfInBounds_toArray, List.set_cons_zero, List.set_cons_succ])
              refine wpAnyH_ready (rs := [4]) (by kernel_rfl) (by simp) (AllReadyH.cons rfl (fun K hK => ?_) AllReadyH.nil)
              · skip
                go_simp
                refine hK.out _ _ hS (fun hHeld => ?_)
                clear hK K
                (try simp only [List.getElem_toArray, List.getElem_cons_succ, List.getElem_cons_zero, Act.put, List.setIfInBounds_toArray, List.set_cons_zero, List.set_cons_succ])
                refine wpAnyH_ready (rs := [6]) (by kernel_rfl) (by simp) (AllReadyH.cons rfl (fun K hK => ?_) AllReadyH.nil)
                · skip
                  go_simp
                  refine (HCa.out _).mono ?_
                  rintro e wz ⟨rfl, hbz⟩
                  have hB := below_step hB hbz (Nat.le_refl wj.heap.size)
                  obtain ⟨d0, d1, d2, e0, e1, e2⟩ := RS.out _ hB
                  have hS := HKe.out _ ((hBi2.out).trans (hB.mono (Nat.le_of_lt lO)))
                  go_wp2_with fail
                  refine hK.out _ _ hS (fun hHeld => ?_)
                  clear hK K
                  (try simp only [List.getElem_toArray, List.getElem_cons_succ, List.getElem_cons_zero, Act.put, List.setIfInBounds_toArray, List.set_cons_zero, List.set_cons_succ])
                  refine wpAnyH_ready (rs := [13]) (by kernel_rfl) (by simp) (AllReadyH.cons rfl (fun K hK => ?_) AllReadyH.nil)
                  · skip
                    go_simp
                    refine (HCb.out _).mono ?_
                    rintro e wz ⟨rfl, hbz⟩
                    have hB := below_step hB hbz (Nat.le_refl wj.heap.size)
                    obtain ⟨d0, d1, d2, e0, e1, e2⟩ := RS.out _ hB
                    have hS := HKe.out _ ((hBi2.out).trans (hB.mono (Nat.le_of_lt lO)))
                    go_wp2_with fail
                    refine hK.out _ _ hS (fun hHeld => ?_)
                    clear hK K
                    (try simp only [List.getElem_toArray, List.getElem_cons_succ, List.getElem_cons_zero, Act.put, List.setIfInBounds_toArray, List.set_cons_zero, List.set_cons_succ])
                    refine wpAnyH_ready (rs := [14]) (by kernel_rfl) (by simp) (AllReadyH.cons rfl (fun K hK => ?_) AllReadyH.nil)
                    · skip
                      go_simp
                      refine hK.out _ _ hS (fun hHeld => ?_)
                      clear hK K
                      (try simp only [List.getElem_toArray, List.getElem_cons_succ, List.getElem_cons_zero, Act.put, List.setIfInBounds_toArray, List.set_cons_zero, List.set_cons_succ])
                      refine wpAnyH_ready (rs := [15]) (by kernel_rfl) (by simp) (AllReadyH.cons rfl (fun K hK => ?_) AllReadyH.nil)
                      · skip
                        go_simp
                        refine (HWi.out _).mono ?_
                        rintro e wz ⟨rfl, hbz⟩
                        have hB := below_step hB hbz (Nat.le_refl wj.heap.size)
                        obtain ⟨d0, d1, d2, e0, e1, e2⟩ := RS.out _ hB
                        have hS := HKe.out _ ((hBi2.out).trans (hB.mono (Nat.le_of_lt lO)))
                        go_wp2_with fail
                        refine hK.out _ _ hS (fun hHeld => ?_)
                        clear hK K
                        (try simp only [List.getElem_toArray, List.getElem_cons_succ, List.getElem_cons_zero, Act.put, List.setIfInBounds_toArray, List.set_cons_zero, List.set_cons_succ])
                        refine wpAnyH_take (i := 16) (v := ?_) rfl (by kernel_rfl) (by kernel_rfl) (by kernel_rfl) (fun _ _ _ h => h) (Or.inl ⟨by rfl, ?_⟩) (by assumption) ?_
                        rotate_left
                        · intro w hSw
                          (try dsimp only at hSw)
                          go_simp
                          first | done | with_reducible rfl
                        (try simp only [List.getElem_toArray, List.getElem_cons_succ, List.getElem_cons_zero, Act.put, List.setIfInBounds_toArray, List.set_cons_zero, List.set_cons_succ])
                        refine wpAnyH_ready (rs := [17]) (by kernel_rfl) (by simp) (AllReadyH.cons rfl (fun K hK => ?_) AllReadyH.nil)
                        · skip
                          go_simp
                          refine hK.out _ _ (HKe.out _ (below3h (g := w.heap.size + 1) ((hBi2.out).trans (hB.mono (Nat.le_of_lt lO))) (Nat.le_refl _) _ _ _)) (fun hHeld => ?_)
                          clear hK K
                          (try simp only [List.getElem_toArray, List.getElem_cons_succ, List.getElem_cons_zero, Act.put, List.setIfInBounds_toArray, List.set_cons_zero, List.set_cons_succ])
                          refine wpAnyH_done (by kernel_rfl) ?_ _
                          have Hn4 := hide (show axMix ⟨(o1, o2, o3), (o4, o5, o6)⟩ ⟨(y1, y2, y3), (y4, y5, y6)⟩ (k + 1) = ⟨(t1, t2, t3), (T1, T2, T3)⟩ by rw [axMix, hu.out, Ht.out, HT.out])
                          have hO3 := hide (blk3h (KO.out.below hB lO) (.int .i64 T1) (.int .i64 T2) (.int .i64 T3))
                          have hBi3 := hide (below3h (g := w.heap.size + 1) (hBi2.out.trans (hB.mono (Nat.le_of_lt lO))) (Nat.le_refl _) (.int .i64 T1) (.int .i64 T2) (.int .i64 T3))
                          go_wp2_with fail
                          go_roundw
                          case rel => exact ⟨k + 1, by omega, by go_num, ⟨t1, t2, t3, T1, T2, T3, Hn4, hO3⟩, hBi3⟩
                          case measure => simp [intOf]; omega
            · skip
              go_simp
              refine hK.out _ _ hS (fun hHeld => ?_)
              clear hK K
              (try simp only [List.getElem_toArray, List.getElem_cons_succ, List.getElem_cons_zero, Act.put, List.setIfInBounds_toArray, List.set_cons_zero, List.set_cons_succ])
              refine wpAnyH_ready (rs := [1, 6]) (by kernel_rfl) (by simp) (AllReadyH.cons rfl (fun K hK => ?_) (AllReadyH.cons rfl (fun K hK => ?_) AllReadyH.nil))
              · skip
                go_simp
                refine hK.out _ _ hS (fun hHeld => ?_)
                clear hK K
                (try simp only [List.getElem_toArray, List.getElem_cons_succ, List.getElem_cons_zero, Act.put, List.setIfInBounds_toArray, List.set_cons_zero, List.set_cons_succ])
                refine wpAnyH_ready (rs := [6]) (by kernel_rfl) (by simp) (AllReadyH.cons rfl (fun K hK => ?_) AllReadyH.nil)
                · skip
                  go_simp
                  refine (HCa.out _).mono ?_
                  rintro e wz ⟨rfl, hbz⟩
                  have hB := below_step hB hbz (Nat.le_refl wj.heap.size)
                  obtain ⟨d0, d1, d2, e0, e1, e2⟩ := RS.out _ hB
                  have hS := HKe.out _ ((hBi2.out).trans (hB.mono (Nat.le_of_lt lO)))
                  go_wp2_with fail
                  refine hK.out _ _ hS (fun hHeld => ?_)
                  clear hK K
                  (try simp only [List.getElem_toArray, List.getElem_cons_succ, List.getElem_cons_zero, Act.put, List.setIfInBounds_toArray, List.set_cons_zero, List.set_cons_succ])
                  refine wpAnyH_ready (rs := [13]) (by kernel_rfl) (by simp) (AllReadyH.cons rfl (fun K hK => ?_) AllReadyH.nil)
                  · skip
                    go_simp
                    refine (HCb.out _).mono ?_
                    rintro e wz ⟨rfl, hbz⟩
                    have hB := below_step hB hbz (Nat.le_refl wj.heap.size)
                    obtain ⟨d0, d1, d2, e0, e1, e2⟩ := RS.out _ hB
                    have hS := HKe.out _ ((hBi2.out).trans (hB.mono (Nat.le_of_lt lO)))
                    go_wp2_with fail
                    refine hK.out _ _ hS (fun hHeld => ?_)
                    clear hK K
                    (try simp only [List.getElem_toArray, List.getElem_cons_succ, List.getElem_cons_zero, Act.put, List.setIfInBounds_toArray, List.set_cons_zero, List.set_cons_succ])
                    refine wpAnyH_ready (rs := [14]) (by kernel_rfl) (by simp) (AllReadyH.cons rfl (fun K hK => ?_) AllReadyH.nil)
                    · skip
                      go_simp
                      refine hK.out _ _ hS (fun hHeld => ?_)
                      clear hK K
                      (try simp only [List.getElem_toArray, List.getElem_cons_succ, List.getElem_cons_zero, Act.put, List.setIfInBounds_toArray, List.set_cons_zero, List.set_cons_succ])
                      refine wpAnyH_ready (rs := [15]) (by kernel_rfl) (by simp) (AllReadyH.cons rfl (fun K hK => ?_) AllReadyH.nil)
                      · skip
                        go_simp
                        refine (HWi.out _).mono ?_
                        rintro e wz ⟨rfl, hbz⟩
                        have hB := below_step hB hbz (Nat.le_refl wj.heap.size)
                        obtain ⟨d0, d1, d2, e0, e1, e2⟩ := RS.out _ hB
                        have hS := HKe.out _ ((hBi2.out).trans (hB.mono (Nat.le_of_lt lO)))
                        go_wp2_with fail
                        refine hK.out _ _ hS (fun hHeld => ?_)
                        clear hK K
                        (try simp only [List.getElem_toArray, List.getElem_cons_succ, List.getElem_cons_zero, Act.put, List.setIfInBounds_toArray, List.set_cons_zero, List.set_cons_succ])
                        refine wpAnyH_take (i := 16) (v := ?_) rfl (by kernel_rfl) (by kernel_rfl) (by kernel_rfl) (fun _ _ _ h => h) (Or.inl ⟨by rfl, ?_⟩) (by assumption) ?_
                        rotate_left
                        · intro w hSw
                          (try dsimp only at hSw)
                          go_simp
                          first | done | with_reducible rfl
                        (try simp only [List.getElem_toArray, List.getElem_cons_succ, List.getElem_cons_zero, Act.put, List.setIfInBounds_toArray, List.set_cons_zero, List.set_cons_succ])
                        refine wpAnyH_ready (rs := [17]) (by kernel_rfl) (by simp) (AllReadyH.cons rfl (fun K hK => ?_) AllReadyH.nil)
                        · skip
                          go_simp
                          refine hK.out _ _ (HKe.out _ (below3h (g := w.heap.size + 1) ((hBi2.out).trans (hB.mono (Nat.le_of_lt lO))) (Nat.le_refl _) _ _ _)) (fun hHeld => ?_)
                          clear hK K
                          (try simp only [List.getElem_toArray, List.getElem_cons_succ, List.getElem_cons_zero, Act.put, List.setIfInBounds_toArray, List.set_cons_zero, List.set_cons_succ])
                          refine wpAnyH_done (by kernel_rfl) ?_ _
                          have Hn4 := hide (show axMix ⟨(o1, o2, o3), (o4, o5, o6)⟩ ⟨(y1, y2, y3), (y4, y5, y6)⟩ (k + 1) = ⟨(t1, t2, t3), (T1, T2, T3)⟩ by rw [axMix, hu.out, Ht.out, HT.out])
                          have hO3 := hide (blk3h (KO.out.below hB lO) (.int .i64 T1) (.int .i64 T2) (.int .i64 T3))
                          have hBi3 := hide (below3h (g := w.heap.size + 1) (hBi2.out.trans (hB.mono (Nat.le_of_lt lO))) (Nat.le_refl _) (.int .i64 T1) (.int .i64 T2) (.int .i64 T3))
                          go_wp2_with fail
                          go_roundw
                          case rel => exact ⟨k + 1, by omega, by go_num, ⟨t1, t2, t3, T1, T2, T3, Hn4, hO3⟩, hBi3⟩
                          case measure => simp [intOf]; omega
              · skip
                go_simp
                refine (HCa.out _).mono ?_
                rintro e wz ⟨rfl, hbz⟩
                have hB := below_step hB hbz (Nat.le_refl wj.heap.size)
                obtain ⟨d0, d1, d2, e0, e1, e2⟩ := RS.out _ hB
                have hS := HKe.out _ ((hBi2.out).trans (hB.mono (Nat.le_of_lt lO)))
                go_wp2_with fail
                refine hK.out _ _ hS (fun hHeld => ?_)
                clear hK K
                (try simp only [List.getElem_toArray, List.getElem_cons_succ, List.getElem_cons_zero, Act.put, List.setIfInBounds_toArray, List.set_cons_zero, List.set_cons_succ])
                refine wpAnyH_ready (rs := [1, 13]) (by kernel_rfl) (by simp) (AllReadyH.cons rfl (fun K hK => ?_) (AllReadyH.cons rfl (fun K hK => ?_) AllReadyH.nil))
                · skip
                  go_simp
                  refine hK.out _ _ hS (fun hHeld => ?_)
                  clear hK K
                  (try simp only [List.getElem_toArray, List.getElem_cons_succ, List.getElem_cons_zero, Act.put, List.setIfInBounds_toArray, List.set_cons_zero, List.set_cons_succ])
                  refine wpAnyH_ready (rs := [13]) (by kernel_rfl) (by simp) (AllReadyH.cons rfl (fun K hK => ?_) AllReadyH.nil)
                  · skip
                    go_simp
                    refine (HCb.out _).mono ?_
                    rintro e wz ⟨rfl, hbz⟩
                    have hB := below_step hB hbz (Nat.le_refl wj.heap.size)
                    obtain ⟨d0, d1, d2, e0, e1, e2⟩ := RS.out _ hB
                    have hS := HKe.out _ ((hBi2.out).trans (hB.mono (Nat.le_of_lt lO)))
                    go_wp2_with fail
                    refine hK.out _ _ hS (fun hHeld => ?_)
                    clear hK K
                    (try simp only [List.getElem_toArray, List.getElem_cons_succ, List.getElem_cons_zero, Act.put, List.setIfInBounds_toArray, List.set_cons_zero, List.set_cons_succ])
                    refine wpAnyH_ready (rs := [14]) (by kernel_rfl) (by simp) (AllReadyH.cons rfl (fun K hK => ?_) AllReadyH.nil)
                    · skip
                      go_simp
                      refine hK.out _ _ hS (fun hHeld => ?_)
                      clear hK K
                      (try simp only [List.getElem_toArray, List.getElem_cons_succ, List.getElem_cons_zero, Act.put, List.setIfInBounds_toArray, List.set_cons_zero, List.set_cons_succ])
                      refine wpAnyH_ready (rs := [15]) (by kernel_rfl) (by simp) (AllReadyH.cons rfl (fun K hK => ?_) AllReadyH.nil)
                      · skip
                        go_simp
                        refine (HWi.out _).mono ?_
                        rintro e wz ⟨rfl, hbz⟩
                        have hB := below_step hB hbz (Nat.le_refl wj.heap.size)
                        obtain ⟨d0, d1, d2, e0, e1, e2⟩ := RS.out _ hB
                        have hS := HKe.out _ ((hBi2.out).trans (hB.mono (Nat.le_of_lt lO)))
                        go_wp2_with fail
                        refine hK.out _ _ hS (fun hHeld => ?_)
                        clear hK K
                        (try simp only [List.getElem_toArray, List.getElem_cons_succ, List.getElem_cons_zero, Act.put, List.setIfInBounds_toArray, List.set_cons_zero, List.set_cons_succ])
                        refine wpAnyH_take (i := 16) (v := ?_) rfl (by kernel_rfl) (by kernel_rfl) (by kernel_rfl) (fun _ _ _ h => h) (Or.inl ⟨by rfl, ?_⟩) (by assumption) ?_
                        rotate_left
                        · intro w hSw
                          (try dsimp only at hSw)
                          go_simp
                          first | done | with_reducible rfl
                        (try simp only [List.getElem_toArray, List.getElem_cons_succ, List.getElem_cons_zero, Act.put, List.setIfInBounds_toArray, List.set_cons_zero, List.set_cons_succ])
                        refine wpAnyH_ready (rs := [17]) (by kernel_rfl) (by simp) (AllReadyH.cons rfl (fun K hK => ?_) AllReadyH.nil)
                        · skip
                          go_simp
                          refine hK.out _ _ (HKe.out _ (below3h (g := w.heap.size + 1) ((hBi2.out).trans (hB.mono (Nat.le_of_lt lO))) (Nat.le_refl _) _ _ _)) (fun hHeld => ?_)
                          clear hK K
                          (try simp only [List.getElem_toArray, List.getElem_cons_succ, List.getElem_cons_zero, Act.put, List.setIfInBounds_toArray, List.set_cons_zero, List.set_cons_succ])
                          refine wpAnyH_done (by kernel_rfl) ?_ _
                          have Hn4 := hide (show axMix ⟨(o1, o2, o3), (o4, o5, o6)⟩ ⟨(y1, y2, y3), (y4, y5, y6)⟩ (k + 1) = ⟨(t1, t2, t3), (T1, T2, T3)⟩ by rw [axMix, hu.out, Ht.out, HT.out])
                          have hO3 := hide (blk3h (KO.out.below hB lO) (.int .i64 T1) (.int .i64 T2) (.int .i64 T3))
                          have hBi3 := hide (below3h (g := w.heap.size + 1) (hBi2.out.trans (hB.mono (Nat.le_of_lt lO))) (Nat.le_refl _) (.int .i64 T1) (.int .i64 T2) (.int .i64 T3))
                          go_wp2_with fail
                          go_roundw
                          case rel => exact ⟨k + 1, by omega, by go_num, ⟨t1, t2, t3, T1, T2, T3, Hn4, hO3⟩, hBi3⟩
                          case measure => simp [intOf]; omega
                · skip
                  go_simp
                  refine (HCb.out _).mono ?_
                  rintro e wz ⟨rfl, hbz⟩
                  have hB := below_step hB hbz (Nat.le_refl wj.heap.size)
                  obtain ⟨d0, d1, d2, e0, e1, e2⟩ := RS.out _ hB
                  have hS := HKe.out _ ((hBi2.out).trans (hB.mono (Nat.le_of_lt lO)))
                  go_wp2_with fail
                  refine hK.out _ _ hS (fun hHeld => ?_)
                  clear hK K
                  (try simp only [List.getElem_toArray, List.getElem_cons_succ, List.getElem_cons_zero, Act.put, List.setIfInBounds_toArray, List.set_cons_zero, List.set_cons_succ])
                  refine wpAnyH_ready (rs := [1, 14]) (by kernel_rfl) (by simp) (AllReadyH.cons rfl (fun K hK => ?_) (AllReadyH.cons rfl (fun K hK => ?_) AllReadyH.nil))
                  · skip
                    go_simp
                    refine hK.out _ _ hS (fun hHeld => ?_)
                    clear hK K
                    (try simp only [List.getElem_toArray, List.getElem_cons_succ, List.getElem_cons_zero, Act.put, List.setIfInBounds_toArray, List.set_cons_zero, List.set_cons_succ])
                    refine wpAnyH_ready (rs := [14]) (by kernel_rfl) (by simp) (AllReadyH.cons rfl (fun K hK => ?_) AllReadyH.nil)
                    · skip
                      go_simp
                      refine hK.out _ _ hS (fun hHeld => ?_)
                      clear hK K
                      (try simp only [List.getElem_toArray, List.getElem_cons_succ, List.getElem_cons_zero, Act.put, List.setIfInBounds_toArray, List.set_cons_zero, List.set_cons_succ])
                      refine wpAnyH_ready (rs := [15]) (by kernel_rfl) (by simp) (AllReadyH.cons rfl (fun K hK => ?_) AllReadyH.nil)
                      · skip
                        go_simp
                        refine (HWi.out _).mono ?_
                        rintro e wz ⟨rfl, hbz⟩
                        have hB := below_step hB hbz (Nat.le_refl wj.heap.size)
                        obtain ⟨d0, d1, d2, e0, e1, e2⟩ := RS.out _ hB
                        have hS := HKe.out _ ((hBi2.out).trans (hB.mono (Nat.le_of_lt lO)))
                        go_wp2_with fail
                        refine hK.out _ _ hS (fun hHeld => ?_)
                        clear hK K
                        (try simp only [List.getElem_toArray, List.getElem_cons_succ, List.getElem_cons_zero, Act.put, List.setIfInBounds_toArray, List.set_cons_zero, List.set_cons_succ])
                        refine wpAnyH_take (i := 16) (v := ?_) rfl (by kernel_rfl) (by kernel_rfl) (by kernel_rfl) (fun _ _ _ h => h) (Or.inl ⟨by rfl, ?_⟩) (by assumption) ?_
                        rotate_left
                        · intro w hSw
                          (try dsimp only at hSw)
                          go_simp
                          first | done | with_reducible rfl
                        (try simp only [List.getElem_toArray, List.getElem_cons_succ, List.getElem_cons_zero, Act.put, List.setIfInBounds_toArray, List.set_cons_zero, List.set_cons_succ])
                        refine wpAnyH_ready (rs := [17]) (by kernel_rfl) (by simp) (AllReadyH.cons rfl (fun K hK => ?_) AllReadyH.nil)
                        · skip
                          go_simp
                          refine hK.out _ _ (HKe.out _ (below3h (g := w.heap.size + 1) ((hBi2.out).trans (hB.mono (Nat.le_of_lt lO))) (Nat.le_refl _) _ _ _)) (fun hHeld => ?_)
                          clear hK K
                          (try simp only [List.getElem_toArray, List.getElem_cons_succ, List.getElem_cons_zero, Act.put, List.setIfInBounds_toArray, List.set_cons_zero, List.set_cons_succ])
                          refine wpAnyH_done (by kernel_rfl) ?_ _
                          have Hn4 := hide (show axMix ⟨(o1, o2, o3), (o4, o5, o6)⟩ ⟨(y1, y2, y3), (y4, y5, y6)⟩ (k + 1) = ⟨(t1, t2, t3), (T1, T2, T3)⟩ by rw [axMix, hu.out, Ht.out, HT.out])
                          have hO3 := hide (blk3h (KO.out.below hB lO) (.int .i64 T1) (.int .i64 T2) (.int .i64 T3))
                          have hBi3 := hide (below3h (g := w.heap.size + 1) (hBi2.out.trans (hB.mono (Nat.le_of_lt lO))) (Nat.le_refl _) (.int .i64 T1) (.int .i64 T2) (.int .i64 T3))
                          go_wp2_with fail
                          go_roundw
                          case rel => exact ⟨k + 1, by omega, by go_num, ⟨t1, t2, t3, T1, T2, T3, Hn4, hO3⟩, hBi3⟩
                          case measure => simp [intOf]; omega
                  · skip
                    go_simp
                    refine hK.out _ _ hS (fun hHeld => ?_)
                    clear hK K
                    (try simp only [List.getElem_toArray, List.getElem_cons_succ, List.getElem_cons_zero, Act.put, List.setIfInBounds_toArray, List.set_cons_zero, List.set_cons_succ])
                    refine wpAnyH_ready (rs := [1]) (by kernel_rfl) (by simp) (AllReadyH.cons rfl (fun K hK => ?_) AllReadyH.nil)
                    · skip
                      go_simp
                      refine hK.out _ _ hS (fun hHeld => ?_)
                      clear hK K
                      (try simp only [List.getElem_toArray, List.getElem_cons_succ, List.getElem_cons_zero, Act.put, List.setIfInBounds_toArray, List.set_cons_zero, List.set_cons_succ])
                      refine wpAnyH_ready (rs := [15]) (by kernel_rfl) (by simp) (AllReadyH.cons rfl (fun K hK => ?_) AllReadyH.nil)
                      · skip
                        go_simp
                        refine (HWi.out _).mono ?_
                        rintro e wz ⟨rfl, hbz⟩
                        have hB := below_step hB hbz (Nat.le_refl wj.heap.size)
                        obtain ⟨d0, d1, d2, e0, e1, e2⟩ := RS.out _ hB
                        have hS := HKe.out _ ((hBi2.out).trans (hB.mono (Nat.le_of_lt lO)))
                        go_wp2_with fail
                        refine hK.out _ _ hS (fun hHeld => ?_)
                        clear hK K
                        (try simp only [List.getElem_toArray, List.getElem_cons_succ, List.getElem_cons_zero, Act.put, List.setIfInBounds_toArray, List.set_cons_zero, List.set_cons_succ])
                        refine wpAnyH_take (i := 16) (v := ?_) rfl (by kernel_rfl) (by kernel_rfl) (by kernel_rfl) (fun _ _ _ h => h) (Or.inl ⟨by rfl, ?_⟩) (by assumption) ?_
                        rotate_left
                        · intro w hSw
                          (try dsimp only at hSw)
                          go_simp
                          first | done | with_reducible rfl
                        (try simp only [List.getElem_toArray, List.getElem_cons_succ, List.getElem_cons_zero, Act.put, List.setIfInBounds_toArray, List.set_cons_zero, List.set_cons_succ])
                        refine wpAnyH_ready (rs := [17]) (by kernel_rfl) (by simp) (AllReadyH.cons rfl (fun K hK => ?_) AllReadyH.nil)
                        · skip
                          go_simp
                          refine hK.out _ _ (HKe.out _ (below3h (g := w.heap.size + 1) ((hBi2.out).trans (hB.mono (Nat.le_of_lt lO))) (Nat.le_refl _) _ _ _)) (fun hHeld => ?_)
                          clear hK K
                          (try simp only [List.getElem_toArray, List.getElem_cons_succ, List.getElem_cons_zero, Act.put, List.setIfInBounds_toArray, List.set_cons_zero, List.set_cons_succ])
                          refine wpAnyH_done (by kernel_rfl) ?_ _
                          have Hn4 := hide (show axMix ⟨(o1, o2, o3), (o4, o5, o6)⟩ ⟨(y1, y2, y3), (y4, y5, y6)⟩ (k + 1) = ⟨(t1, t2, t3), (T1, T2, T3)⟩ by rw [axMix, hu.out, Ht.out, HT.out])
                          have hO3 := hide (blk3h (KO.out.below hB lO) (.int .i64 T1) (.int .i64 T2) (.int .i64 T3))
                          have hBi3 := hide (below3h (g := w.heap.size + 1) (hBi2.out.trans (hB.mono (Nat.le_of_lt lO))) (Nat.le_refl _) (.int .i64 T1) (.int .i64 T2) (.int .i64 T3))
                          go_wp2_with fail
                          go_roundw
                          case rel => exact ⟨k + 1, by omega, by go_num, ⟨t1, t2, t3, T1, T2, T3, Hn4, hO3⟩, hBi3⟩
                          case measure => simp [intOf]; omega
        · obtain rfl : k = 3 := by omega
          go_wp2_with fail
          go_roundw
          case rel => exact ⟨i + 1, by omega, by omega, by go_num, ⟨u1, u2, u3, u4, u5, u6, hide (Hnx.out.trans hu.out), hO⟩, hBi⟩
          case measure => simp [intOf]; omega
    · obtain rfl : i = n := by omega
      have hfull := hide (show hullOf l = ⟨(o1, o2, o3), (o4, o5, o6)⟩ by
        rw [hr0.out, ← hq.out, List.take_of_length_le (by rw [List.length_drop, ← Hn.out]; exact Nat.le_refl _)])
      have kr := KR.out.below hBo.out (Nat.lt_succ_self _)
      have ko := hO.out
      have d0 := ko.cell 0
      have d1 := ko.cell 1
      have d2 := ko.cell 2
      have d3 := ko.cell 3
      have d4 := ko.cell 4
      have d5 := ko.cell 5
      have e0 := kr.cell 0
      have e1 := kr.cell 1
      have e2 := kr.cell 2
      have e3 := kr.cell 3
      have e4 := kr.cell 4
      have e5 := kr.cell 5
      have g0 := kr.frozen 0
      have g1 := kr.frozen 1
      have g2 := kr.frozen 2
      have g3 := kr.frozen 3
      have g4 := kr.frozen 4
      have g5 := kr.frozen 5
      simp at d0 d1 d2 d3 d4 d5 e0 e1 e2 e3 e4 e5
      have lk := kr.lt
      have lo := ko.lt
      have Kr := hide kr
      have HF := hide (HW1.out.trans (hBo.out.mono (Nat.le_succ _)))
      clear kr ko KR
      go_wp2_with fail
      refine bodyPost_ret (results_c rfl rfl ((((((Kr.out.set_ 0 _).set_ 1 _).set_ 2 _).set_ 3 _).set_ 4 _).set_ 5 _) Tryz.underlying73 rfl (by kernel_rfl)) rfl ?_
      refine ⟨?_, (((((HF.out.setCell (p := ⟨w.heap.size, 0, none⟩) (Nat.le_refl _) _).setCell (p := ⟨w.heap.size, 1, none⟩) (Nat.le_refl _) _).setCell (p := ⟨w.heap.size, 2, none⟩) (Nat.le_refl _) _).setCell (p := ⟨w.heap.size, 3, none⟩) (Nat.le_refl _) _).setCell (p := ⟨w.heap.size, 4, none⟩) (Nat.le_refl _) _).setCell (p := ⟨w.heap.size, 5, none⟩) (Nat.le_refl _) _⟩
      simp only [List.setIfInBounds_toArray, List.set_cons_zero, List.set_cons_succ]
      rw [hfull.out]
end Go.Proofs.YtpmipoljnchheaaGreat
namespace Go.Proofs.YtpmipoljnchheaaGreat
open Go.RowKit

set_option maxHeartbeats 2000000 in
theorem refHull17_ok (bs hs : List BoxD) (A1 A2 : Option Addr) (n1 n2 c1 c2 : Nat) (w : World) {B : Nat} (h1 : BoxesAt w B A1 bs) (hB : B ≤ w.heap.size) (hn1 : n1 = bs.length) (hne : 1 ≤ bs.length) (hm : bs.length ≤ 60000) :
    Calls Tryz.prog 46 #[.agg #[.slice A1 n1 c1, .slice A2 n2 c2]] w fun e w' => e = .returned (bxV (hullOf bs)) ∧ Below w.heap.size w w' := by
  have HH := hide (fun (W : World) (hz : Below w.heap.size w W) => refHull09_ok A1 bs n1 c1 W (h1.carry (Flat.carried _) (hz.mono hB) (Nat.le_refl _)) (Nat.le_trans hB hz.size) hn1 (by omega) (by omega))
  have HW := hide (below_new2 w (.cells #[.slice A1 n1 c1, .slice A2 n2 c2] 24) (.cells #[.int .i64 0, .int .i64 0, .int .i64 0, .int .i64 0, .int .i64 0, .int .i64 0] 73))
  have KR := hide (Blk.new1 w (.cells #[.slice A1 n1 c1, .slice A2 n2 c2] 24) 73 #[.int .i64 0, .int .i64 0, .int .i64 0, .int .i64 0, .int .i64 0, .int .i64 0])
  generalize hullOf bs = H at *
  obtain ⟨⟨x1, x2, x3⟩, x4, x5, x6⟩ := H
  simp only [bxV] at HH ⊢
  clear h1 hB hn1 hne hm
  go_enter Tryz.func46, Tryz.ntmps46
  go_wp2_with fail
  refine (HH.out _ HW.out).mono ?_
  rintro e w2 ⟨rfl, hb⟩
  have kr := KR.out.keep hb
  have e0 := kr.cell 0
  have e1 := kr.cell 1
  have e2 := kr.cell 2
  have e3 := kr.cell 3
  have e4 := kr.cell 4
  have e5 := kr.cell 5
  have g0 := kr.frozen 0
  have g1 := kr.frozen 1
  have g2 := kr.frozen 2
  have g3 := kr.frozen 3
  have g4 := kr.frozen 4
  have g5 := kr.frozen 5
  simp at e0 e1 e2 e3 e4 e5
  have lk := kr.lt
  have Kr := hide kr
  have HF := hide (below_step HW.out hb (Nat.le_refl _))
  clear kr KR HW hb HH
  go_wp2_with fail
  refine bodyPost_ret (results_c rfl rfl ((((((Kr.out.set_ 0 _).set_ 1 _).set_ 2 _).set_ 3 _).set_ 4 _).set_ 5 _) Tryz.underlying73 rfl (by kernel_rfl)) rfl ?_
  refine ⟨?_, (((((HF.out.setCell (p := ⟨w.heap.size + 1, 0, none⟩) (Nat.le_succ _) _).setCell (p := ⟨w.heap.size + 1, 1, none⟩) (Nat.le_succ _) _).setCell (p := ⟨w.heap.size + 1, 2, none⟩) (Nat.le_succ _) _).setCell (p := ⟨w.heap.size + 1, 3, none⟩) (Nat.le_succ _) _).setCell (p := ⟨w.heap.size + 1, 4, none⟩) (Nat.le_succ _) _).setCell (p := ⟨w.heap.size + 1, 5, none⟩) (Nat.le_succ _) _⟩
  simp only [List.setIfInBounds_toArray, List.set_cons_zero, List.set_cons_succ]
end Go.Proofs.YtpmipoljnchheaaGreat
namespace Go.Proofs.YtpmipoljnchheaaGreat
open Go.RowKit

set_option maxHeartbeats 400000 in
theorem refFind_any (A : Option Addr) (l : List BarD) (n c : Nat) (m : ByteArray) (w : World) {B : Nat} (h : BarsAt w B A l) (hn : n = l.length) (hm : n ≤ 60000) :
    Calls Tryz.prog 82 #[.slice A n c, .string m] w fun e w' => e = .returned (.int .i64 (idx (markIs m) l)) ∧ w = w' := by
  have hn' := hide hn
  have Hs := hide h
  clear hn h
  go_enter Tryz.func82, Tryz.ntmps82
  go_wp2_with fail
  go_loop [5] (fun i => ∃ k : Nat, k ≤ n ∧ i = .int .i64 k ∧ NoneTo (markIs m) l k) (fun i => n - (intOf i).toNat)
  case atStart => exact ⟨0, Nat.zero_le _, rfl, NoneTo.zero _ _⟩
  case round =>
    obtain ⟨k, hk, rfl, hw⟩ := hrel
    by_cases hlt : k < n
    · obtain ⟨b, off, x, A', c', hA, hbl, hx, hi, h0, h1, h2, h3, h4⟩ := BarsAt.get (k := k) Hs.out (by rw [← hn'.out]; exact hlt)
      subst hA
      have Hx := hide hx
      clear hx hi hbl h1 h2 h3 h4
      cases hp : markIs m x
      · have Hp := hide hp
        have hq : (x.mark.toList == m.toList) = false := hp
        clear hp
        go_wp2_with fail
        go_round
        case rel => exact ⟨k + 1, by omega, by go_num, hw.succ Hx.out Hp.out⟩
        case measure => simp [intOf]; omega
      · have Hp := hide hp
        have hq : (x.mark.toList == m.toList) = true := hp
        clear hp
        go_wp2_with fail
        go_ret
        exact ⟨ret_int (hw.hit Hx.out Hp.out).symm, rfl⟩
    · obtain rfl : k = n := by omega
      go_wp2_with fail
      go_ret
      exact ⟨ret_int (NoneTo.miss (by rw [← hn'.out]; exact hw)).symm, rfl⟩

set_option maxHeartbeats 1000000 in
theorem refSchedValid_any (A : Option Addr) (l : List BarD) (n c : Nat) (w : World) {B : Nat} (h : BarsAt w B A l) (hB : B ≤ w.heap.size) (hn : n = l.length) (hg : Tame l) (hm : n ≤ 60000) :
    Calls Tryz.prog 72 #[.slice A n c] w fun e w' => e = .returned (.bool (schedOk l)) ∧ Below w.heap.size w w' := by
  have hn' := hide hn
  have Hg := hide hg
  by_cases h60 : n ≤ 60
  · have hs : schedOk l = schedFrom l 0 l := by simp [schedOk, ← hn, h60]
    rw [hs]
    clear hs hn hg hm
    go_enter Tryz.func72, Tryz.ntmps72
    go_wp2_with fail
    go_loopw [3] (fun i wr => ∃ k : Nat, k ≤ n ∧ i = .int .i64 k ∧ Hid (schedFrom l 0 l = schedFrom l k (l.drop k)) ∧ Below w.heap.size w wr) (fun i _ => n - (intOf i).toNat)
    case atStart => exact ⟨0, Nat.zero_le _, rfl, hide rfl, Below.refl _ _⟩
    case round =>
      obtain ⟨k, hk, rfl, hw, hb⟩ := hrel
      by_cases hlt : k < n
      · have HR := hide (h.carry (hb.mono hB) (Nat.le_refl _))
        have hBr := Nat.le_trans hB hb.size
        obtain ⟨b, off, x, A', c', hA, hbl, hx, hi, h0, h1, h2, h3, h4⟩ := BarsAt.get (k := k) HR.out (by rw [← hn'.out]; exact hlt)
        have HA := hide hA
        subst hA
        have Hx := hide hx
        have hgx := Hg.out x (mem_of_get hx)
        have Hw := hide (hw.out.trans (by rw [drop_at' hx, schedFrom]))
        have Hi := hide hi
        clear hx hi h hw
        go_wp2_with fail
        refine (refBarValid_any x A' c' _ Hi.out hBr hgx.1 hgx.2).mono ?_
        rintro e w1 ⟨rfl, hb1⟩
        have c0 := (hb1.cell (p := ⟨b, off + k * 5, none⟩) (Nat.lt_of_lt_of_le hbl hBr)).trans h0
        have hbw1 := hide (below_step hb hb1 (Nat.le_refl _))
        have hB1 := hide (HR.out.carry (hb1.mono hBr) (Nat.le_refl _))
        clear h0 h1 h2 h3 h4 hb1 HR Hi
        cases hp : barOk x
        · have Hp := hide hp
          clear hp
          go_wp2_with fail
          go_ret
          exact ⟨ret_bool (by rw [Hw.out, Hp.out]; rfl), hbw1.out⟩
        · have Hp := hide hp
          clear hp
          go_wp2_with fail
          refine (refFind_any _ l n c x.mark _ hB1.out hn'.out (by omega)).mono ?_
          rintro e w2 ⟨rfl, rfl⟩
          clear c0
          cases hq : decide (idx (markIs x.mark) l = k)
          · have Hq := hide hq
            have hq' : (idx (markIs x.mark) l != (k : Int)) = true := by simpa using hq
            clear hq
            go_wp2_with fail
            go_ret
            exact ⟨ret_bool (by rw [Hw.out, Hp.out, Hq.out]; rfl), hbw1.out⟩
          · have Hq := hide hq
            have hq' : (idx (markIs x.mark) l != (k : Int)) = false := by simpa using hq
            clear hq
            go_wp2_with fail
            go_roundw
            case rel => exact ⟨k + 1, by omega, by go_num, hide (by rw [Hw.out, Hp.out, Hq.out]; rfl), hbw1.out⟩
            case measure => simp [intOf]; omega
      · obtain rfl : k = n := by omega
        go_wp2_with fail
        go_ret
        exact ⟨ret_bool (by rw [hw.out, List.drop_of_length_le (by rw [← hn'.out]; exact Nat.le_refl _)]; rfl), hb⟩
  · have hs : schedOk l = false := by simp [schedOk, ← hn, h60]
    rw [hs]
    clear hs hn hg
    go_enter Tryz.func72, Tryz.ntmps72
    go_wp2_with fail
    go_ret
    exact ⟨rfl, Below.refl _ _⟩
end Go.Proofs.YtpmipoljnchheaaGreat
namespace Go.Proofs.YtpmipoljnchheaaGreat
open Go.RowKit

theorem laid_cons {bars : List BarD} {r : RunD} {l : List RunD} {t : Nat} {ld : LaidD} (hr : runOk bars r = true) (h : (laidAll bars (r :: l))[t]? = some ld) :
    ((t : Int) < r.count → runBar bars r = some ld.bar ∧ ld.pts = ptsOf ld.bar r t) ∧ (r.count ≤ (t : Int) → (laidAll bars l)[t - r.count.toNat]? = some ld) := by
  obtain ⟨j, x, _, _, hx, _⟩ := runOk_bar hr
  have hc := runOk_count hr
  have e : laidAll bars (r :: l) = laidTo x r r.count.toNat ++ laidAll bars l := by rw [← laidRun_of hx]; simp [laidAll]
  rw [e] at h
  constructor
  · intro ht
    have ht' : t < r.count.toNat := by omega
    rw [List.getElem?_append_left (by rw [laidTo_len]; exact ht')] at h
    simp [laidTo, ht'] at h
    subst h
    exact ⟨hx, rfl⟩
  · intro ht
    rw [List.getElem?_append_right (by rw [laidTo_len]; omega), laidTo_len] at h
    exact h
theorem laid_some {bars : List BarD} {runs : List RunD} {k t : Nat} {ld : LaidD} (h : (laidAll bars (runs.drop k))[t]? = some ld) : k < runs.length := by
  rcases Nat.lt_or_ge k runs.length with h1 | h1
  · exact h1
  · rw [List.drop_of_length_le h1] at h
    simp [laidAll] at h
set_option maxHeartbeats 2000000 in
theorem refPlaceL_ok (bars : List BarD) (A : Option Addr) (runs : List RunD) (n c i : Nat) (ld : LaidD) (w : World) {B : Nat} (h : RunsAt w B A runs) (hn : n = runs.length) (hm : n ≤ 60) (hok : ∀ r ∈ runs, runOk bars r = true) (hi : (laidAll bars runs)[i]? = some ld) (hi9 : i ≤ 100000) :
    Calls Tryz.prog 81 #[.slice A n c, .int .i64 i] w fun e w' => ∃ (k j : Nat) (r : RunD), e = .returned (.tuple #[.int .i64 k, .int .i64 j]) ∧ k < n ∧ runs[k]? = some r ∧ (j : Int) < r.count ∧ runBar bars r = some ld.bar ∧ ld.pts = ptsOf ld.bar r j ∧ w = w' := by
  have H2 := hide h
  have hn2' := hide hn
  have Hc := hide (fun (r : RunD) (hr : r ∈ runs) => runOk_count (hok r hr))
  have Hs := hide (fun (k t : Nat) (r : RunD) (hr : runs[k]? = some r) (ht : (laidAll bars (runs.drop k))[t]? = some ld) => laid_cons (l := runs.drop (k + 1)) (hok r (mem_of_get hr)) (by rw [← drop_at' hr]; exact ht))
  have Hi := hide (show (laidAll bars (runs.drop 0))[i]? = some ld from hi)
  clear h hn hok hi
  go_enter Tryz.func81, Tryz.ntmps81
  go_wp2_with fail
  go_loop [6, 1] (fun kv iv => ∃ k t : Nat, kv = .int .i64 k ∧ iv = .int .i64 t ∧ t ≤ 100000 ∧ Hid ((laidAll bars (runs.drop k))[t]? = some ld)) (fun kv _ => n - (intOf kv).toNat)
  case atStart => exact ⟨0, i, rfl, rfl, hi9, Hi⟩
  case round =>
    obtain ⟨k, t, rfl, rfl, ht9, hk⟩ := hrel
    have hlt : k < n := by rw [hn2'.out]; exact laid_some hk.out
    obtain ⟨b, off, r, rfl, hbl, hx, hc⟩ := RunsAt.get (k := k) H2.out (by rw [← hn2'.out]; exact hlt)
    obtain ⟨hc0, hc1⟩ := Hc.out r (mem_of_get hx)
    have p9 := hc 9 _ rfl
    have hh := Hs.out k t r hx hk.out
    have H1 := hide hh.1
    have H3 := hide hh.2
    have Hx := hide hx
    obtain ⟨mark, tx, ty, ⟨a1, a2, a3⟩, ⟨s1, s2, s3⟩, cnt⟩ := r
    simp only at p9 hc0 hc1 H1 H3
    clear hx hbl hc hh
    by_cases hge : cnt ≤ (t : Int)
    · have d0 : decide (cnt ≤ (t : Int)) = true := by simpa using hge
      have Hr := hide (H3.out hge)
      have hz : IntKind.i64.wrap ((t : Int) - cnt) = ((t - cnt.toNat : Nat) : Int) := by
        rw [IntWalk.i64_in _ (by omega)]; omega
      clear hge
      go_wp2_with fail
      go_round
      case rel => exact ⟨k + 1, t - cnt.toNat, by go_num, rfl, by omega, Hr⟩
      case measure => simp [intOf]; omega
    · have d0 : decide (cnt ≤ (t : Int)) = false := by simpa using hge
      have Hr := hide (H1.out (by omega))
      have hg : (t : Int) < cnt := by omega
      clear hge
      go_wp2_with fail
      go_ret2
      exact ⟨k, t, rfl, hlt, _, Hx.out, hg, Hr.out.1, Hr.out.2, rfl⟩
theorem find_bar {bars : List BarD} {r : RunD} {x : BarD} (h : runOk bars r = true) (hx : runBar bars r = some x) : ∃ j : Nat, idx (markIs r.mark) bars = (j : Int) ∧ bars[j]? = some x := by
  obtain ⟨j, y, hj, hy, hb, _⟩ := runOk_bar h
  rw [hx] at hb
  injection hb with hb
  subst hb
  exact ⟨j, hj, hy⟩
set_option maxHeartbeats 4000000 in
set_option maxRecDepth 100000 in
theorem refBar_ok (A3 A4 : Option Addr) (bars : List BarD) (runs : List RunD) (n3 c3 n4 c4 i : Nat) (ld : LaidD) (w : World) {B : Nat} (h3 : BarsAt w B A3 bars) (h4 : RunsAt w B A4 runs) (hB : B ≤ w.heap.size) (l3 : n3 = bars.length) (l4 : n4 = runs.length) (m3 : n3 ≤ 60000) (hok : laidOk bars runs = true) (hi : (laidAll bars runs)[i]? = some ld) :
    Calls Tryz.prog 49 #[.slice A3 n3 c3, .slice A4 n4 c4, .int .i64 i] w fun e w' => ∃ A c, e = .returned (barV ld.bar A c) ∧ Ints w' B A ld.bar.dims ∧ Below w.heap.size w w' := by
  obtain ⟨_, hlen, hruns⟩ := laidOk_mem hok
  have hi9 : i ≤ 100000 := by have := (laidOk_len hok).2; have := lt_of_get hi; omega
  have HP := hide (fun (W : World) (hz : Below w.heap.size w W) => refPlaceL_ok bars A4 runs n4 c4 i ld W (h4.carry (Flat.carried _) (hz.mono hB) (Nat.le_refl _)) l4 (by omega) hruns hi hi9)
  have HF := hide (fun (m : ByteArray) (W : World) (hz : Below w.heap.size w W) => refFind_any A3 bars n3 c3 m W (h3.carry (hz.mono hB) (Nat.le_refl _)) l3 m3)
  have Hfb := hide (fun (k : Nat) (r : RunD) (hk : runs[k]? = some r) (hx : runBar bars r = some ld.bar) => find_bar (hruns r (mem_of_get hk)) hx)
  have H3 := hide h3
  have H4 := hide h4
  have L3 := hide l3
  have L4 := hide l4
  have KR := hide (Blk.new w 65 #[.string .empty, .int .i64 0, .int .i64 0, .int .i64 0, .slice none 0 0])
  have HW := hide (below_new w (.cells #[.string .empty, .int .i64 0, .int .i64 0, .int .i64 0, .slice none 0 0] 65))
  clear h3 h4 l3 l4 hok hi hruns hlen
  go_enter Tryz.func49, Tryz.ntmps49
  go_wp2_with fail
  refine (HP.out _ HW.out).mono ?_
  rintro e w1 ⟨k, j, r, rfl, hk, hx, hj, hrb, hpts, rfl⟩
  obtain ⟨q, hq, hy⟩ := Hfb.out k r hx hrb
  have HWr := HW.out
  obtain ⟨b, off, r', rfl, hbl, hx', hc⟩ := RunsAt.get (k := k) (H4.out.carry (Flat.carried _) (HWr.mono hB) (Nat.le_refl _)) (by rw [← L4.out]; exact hk)
  rw [hx] at hx'
  injection hx' with hx'
  subst hx'
  have p0 := hc 0 _ rfl
  simp only [Nat.add_zero] at p0
  obtain ⟨b3, off3, y, A', c', hA3, hbl3, hy', hdi, f0, f1, f2, f3, f4⟩ := BarsAt.get (k := q) H3.out (lt_of_get hy)
  rw [hy] at hy'
  injection hy' with hy'
  subst hy'
  subst hA3
  have hbw : b3 < w.heap.size := Nat.lt_of_lt_of_le hbl3 hB
  have f0 := (HWr.cell (p := ⟨b3, off3 + q * 5, none⟩) hbw).trans f0
  have f1 := (HWr.cell (p := ⟨b3, off3 + q * 5 + 1, none⟩) hbw).trans f1
  have f2 := (HWr.cell (p := ⟨b3, off3 + q * 5 + 2, none⟩) hbw).trans f2
  have f3 := (HWr.cell (p := ⟨b3, off3 + q * 5 + 3, none⟩) hbw).trans f3
  have f4 := (HWr.cell (p := ⟨b3, off3 + q * 5 + 4, none⟩) hbw).trans f4
  have HFm := hide (HF.out r.mark _ HWr)
  rw [hq] at HFm
  have Hdi := hide hdi
  have hqn : q < n3 := by rw [L3.out]; exact lt_of_get hy
  have hbw3 : b3 < (w.alloc (.cells #[.string .empty, .int .i64 0, .int .i64 0, .int .i64 0, .slice none 0 0] 65)).heap.size := Nat.lt_of_lt_of_le hbl3 (le_alloc hB _)
  obtain ⟨mark, tx, ty, ⟨a1, a2, a3⟩, ⟨s1, s2, s3⟩, cnt⟩ := r
  simp only at p0 HFm
  obtain ⟨⟨mk, sz, ct, cd, dims⟩, pts⟩ := ld
  simp only at f0 f1 f2 f3 f4 Hdi ⊢
  clear hx hq hy hbl hc hdi hj hrb hpts HP HF Hfb H3 H4 L3 L4 hbl3
  go_wp2_with fail
  refine HFm.out.mono ?_
  rintro e w2 ⟨rfl, rfl⟩
  clear HFm
  go_wp2_with fail
  refine bodyPost_ret (results_c rfl rfl (Blk.new w _ _) Tryz.underlying65 rfl (by kernel_rfl)) rfl ?_
  first
    | exact ⟨A', ⟨c', rfl⟩, Hdi.out.carry ((below_new w _).mono hB) (Nat.le_refl _), below_new w _⟩
    | exact ⟨A', c', rfl, Hdi.out.carry ((below_new w _).mono hB) (Nat.le_refl _), below_new w _⟩
end Go.Proofs.YtpmipoljnchheaaGreat
