/- The references of layers 9, 17: the hull of boxes, and of a solid. -/
import Derived.Test.YtmcjpdlkkpnhfaaGreatQay
import Derived.Test.YtmcjpdlkkpnhfaaGreatQaq
import Derived.Test.YtmcjpdlkkpnhfaaGreatQau
import Derived.Test.YtmcjpdlkkpnhfaaGreatQai
import Derived.Deep.CutRange
namespace Go.Proofs.YtmcjpdlkkpnhfaaGreat
open Go.RowKit

def withC (p : Pt) (k : Nat) (v : Int) : Pt := if k = 0 then (v, p.2.1, p.2.2) else if k = 1 then (p.1, v, p.2.2) else (p.1, p.2.1, v)
def axMix (a b : BoxD) : Nat → BoxD
  | 0 => a
  | k + 1 => ⟨withC (axMix a b k).lo k (min (nthC (axMix a b k).lo k) (nthC b.lo k)), withC (axMix a b k).hi k (max (nthC (axMix a b k).hi k) (nthC b.hi k))⟩
theorem axMix3 (a b : BoxD) : axMix a b 3 = ⟨minP a.lo b.lo, maxP a.hi b.hi⟩ := rfl
set_option maxHeartbeats 1000000 in
theorem refWith_any (p1 p2 p3 v : Int) (k : Nat) (hk : k < 3) (w : World) :
    Calls Tryz.prog 110 #[.agg #[.int .i64 p1, .int .i64 p2, .int .i64 p3], .int .i64 k, .int .i64 v] w fun e w' => e = .returned (ptA (withC (p1, p2, p3) k v)) ∧ Below w.heap.size w w' := by
  rcases (show k = 0 ∨ k = 1 ∨ k = 2 by omega) with rfl | rfl | rfl
  all_goals
    go_enter Tryz.func110, Tryz.ntmps110
    go_wp2_with fail
    refine bodyPost_ret (results_c rfl rfl (Blk.new1 w _ _ _) Tryz.underlying61 rfl (by kernel_rfl)) rfl ?_
    exact ⟨rfl, below_new2 w _ _⟩
theorem blk3h {w : World} {g : Nat} {t : TypeId} {x1 x2 x3 x y z : Value} (h : Blk w g t #[x1, x2, x3, x, y, z]) (a b c : Value) : Blk (((w.setCell ⟨g, 3, none⟩ a).setCell ⟨g, 4, none⟩ b).setCell ⟨g, 5, none⟩ c) g t #[x1, x2, x3, a, b, c] := by
  have h1 := ((h.set_ 3 a).set_ 4 b).set_ 5 c
  simpa only [List.setIfInBounds_toArray, List.set_cons_zero, List.set_cons_succ] using h1
theorem blk3l {w : World} {g : Nat} {t : TypeId} {x1 x2 x3 x y z : Value} (h : Blk w g t #[x, y, z, x1, x2, x3]) (a b c : Value) : Blk (((w.setCell ⟨g, 0, none⟩ a).setCell ⟨g, 1, none⟩ b).setCell ⟨g, 2, none⟩ c) g t #[a, b, c, x1, x2, x3] := by
  have h1 := ((h.set_ 0 a).set_ 1 b).set_ 2 c
  simpa only [List.setIfInBounds_toArray, List.set_cons_zero, List.set_cons_succ] using h1
theorem below3h {B g : Nat} {a w : World} (h : Below B a w) (hg : B ≤ g) (x y z : Value) : Below B a (((w.setCell ⟨g, 3, none⟩ x).setCell ⟨g, 4, none⟩ y).setCell ⟨g, 5, none⟩ z) :=
  ((h.setCell (p := ⟨g, 3, none⟩) hg x).setCell (p := ⟨g, 4, none⟩) hg y).setCell (p := ⟨g, 5, none⟩) hg z
set_option maxHeartbeats 8000000 in
set_option maxRecDepth 100000 in
theorem refHull09_ok (A : Option Addr) (l : List BoxD) (n c : Nat) (w : World) {B : Nat} (h : BoxesAt w B A l) (hB : B ≤ w.heap.size) (hn : n = l.length) (hm : n ≤ 60000) (hne : 1 ≤ n) :
    Calls Tryz.prog 74 #[.slice A n c] w fun e w' => e = .returned (bxV (hullOf l)) ∧ Below w.heap.size w w' := by
  obtain ⟨b, off, x, rfl, hbl, hx, f0, f1, f2, f3, f4, f5⟩ := BoxesAt.get (k := 0) h (by omega)
  have hbw : b < w.heap.size := Nat.lt_of_lt_of_le hbl hB
  have hr0 := hide (show hullOf l = hullOn x (l.drop 1) by
    cases l with
    | nil => simp at hx
    | cons y r => simp at hx; subst hx; simp [hullOf, hullOn, minP, maxP])
  have HE := hide h
  have Hn := hide hn
  have HB := hide hB
  simp only [Nat.zero_mul, Nat.add_zero] at f0 f1 f2 f3 f4 f5
  clear h hB hn hbl hx
  obtain ⟨⟨x1, x2, x3⟩, x4, x5, x6⟩ := x
  simp only at f0 f1 f2 f3 f4 f5
  go_enter Tryz.func74, Tryz.ntmps74
  go_wp2_with fail
  obtain ⟨w1, hw1⟩ : ∃ w1, w1 = (w.alloc (.cells #[.int .i64 0, .int .i64 0, .int .i64 0, .int .i64 0, .int .i64 0, .int .i64 0] 63)).alloc (.cells #[.int .i64 x1, .int .i64 x2, .int .i64 x3, .int .i64 x4, .int .i64 x5, .int .i64 x6] 63) := ⟨_, rfl⟩
  have KR := hide ((Blk.new w 63 #[.int .i64 0, .int .i64 0, .int .i64 0, .int .i64 0, .int .i64 0, .int .i64 0]).alloc (.cells #[.int .i64 x1, .int .i64 x2, .int .i64 x3, .int .i64 x4, .int .i64 x5, .int .i64 x6] 63))
  have KO := hide (Blk.new1 w (.cells #[.int .i64 0, .int .i64 0, .int .i64 0, .int .i64 0, .int .i64 0, .int .i64 0] 63) 63 #[.int .i64 x1, .int .i64 x2, .int .i64 x3, .int .i64 x4, .int .i64 x5, .int .i64 x6])
  have HW1 := hide (below_new2 w (.cells #[.int .i64 0, .int .i64 0, .int .i64 0, .int .i64 0, .int .i64 0, .int .i64 0] 63) (.cells #[.int .i64 x1, .int .i64 x2, .int .i64 x3, .int .i64 x4, .int .i64 x5, .int .i64 x6] 63))
  rw [← hw1] at KR KO HW1 ⊢
  clear hw1 f0 f1 f2 f3 f4 f5
  go_loopw [4] (fun iv wr => ∃ i : Nat, 1 ≤ i ∧ i ≤ n ∧ iv = .int .i64 i ∧ (∃ o1 o2 o3 o4 o5 o6 : Int, Hid (hullOn ⟨(x1, x2, x3), (x4, x5, x6)⟩ ((l.drop 1).take (i - 1)) = ⟨(o1, o2, o3), (o4, o5, o6)⟩) ∧ Hid (Blk wr (w.heap.size + 1) 63 #[.int .i64 o1, .int .i64 o2, .int .i64 o3, .int .i64 o4, .int .i64 o5, .int .i64 o6])) ∧ Hid (Below (w.heap.size + 1) w1 wr)) (fun iv _ => n - (intOf iv).toNat)
  case atStart => exact ⟨1, Nat.le_refl _, hne, rfl, ⟨x1, x2, x3, x4, x5, x6, hide rfl, KO⟩, hide (Below.refl _ _)⟩
  case round =>
    clear KO
    rename World => wo
    obtain ⟨i, hi1, hin, rfl, ⟨o1, o2, o3, o4, o5, o6, hq, hO⟩, hBo⟩ := hrel
    by_cases hlt : i < n
    · obtain ⟨b', off', y, hA', _, hy, F1, F2, F3, F4, F5, F6⟩ := BoxesAt.get (k := i) (HE.out.carry (Flat.carried _) (HW1.out.mono HB.out) (Nat.le_refl _)) (by rw [← Hn.out]; exact hlt)
      injection hA' with hA'
      injection hA' with e1 e2
      subst e1 e2
      have hbg : b < w.heap.size + 1 := by omega
      have Hnx := hide (show hullOn ⟨(x1, x2, x3), (x4, x5, x6)⟩ ((l.drop 1).take (i + 1 - 1)) = axMix ⟨(o1, o2, o3), (o4, o5, o6)⟩ y 3 by
        have h9 : (l.drop 1)[i - 1]? = some y := by rw [List.getElem?_drop, show 1 + (i - 1) = i by omega]; exact hy
        rw [axMix3, show i + 1 - 1 = (i - 1) + 1 by omega, take_snoc' h9, hullOn_snoc, hq.out])
      obtain ⟨⟨y1, y2, y3⟩, y4, y5, y6⟩ := y
      simp only at F1 F2 F3 F4 F5 F6
      clear hy hq
      go_wp2_with fail
      go_loopw [5] (fun kv wr => ∃ k : Nat, k ≤ 3 ∧ kv = .int .i64 k ∧ (∃ u1 u2 u3 u4 u5 u6 : Int, Hid (axMix ⟨(o1, o2, o3), (o4, o5, o6)⟩ ⟨(y1, y2, y3), (y4, y5, y6)⟩ k = ⟨(u1, u2, u3), (u4, u5, u6)⟩) ∧ Hid (Blk wr (w.heap.size + 1) 63 #[.int .i64 u1, .int .i64 u2, .int .i64 u3, .int .i64 u4, .int .i64 u5, .int .i64 u6])) ∧ Hid (Below (w.heap.size + 1) w1 wr)) (fun kv _ => 3 - (intOf kv).toNat)
      case atStart => exact ⟨0, by omega, rfl, ⟨o1, o2, o3, o4, o5, o6, hide rfl, hO⟩, hBo⟩
      case round =>
        clear hO hBo
        rename World => wi
        obtain ⟨k, hk, rfl, ⟨u1, u2, u3, u4, u5, u6, hu, hO⟩, hBi⟩ := hrel
        by_cases hk3 : k < 3
        · have dk : decide ((k : Int) < 3) = true := by simp; omega
          go_wp2_with fail
          go_cut [] from 15 to 52 (fun wx => Hid (∃ t : Pt, t = withC (u1, u2, u3) k (min (nthC (u1, u2, u3) k) (nthC (y1, y2, y3) k)) ∧ Blk wx (w.heap.size + 1) 63 #[.int .i64 t.1, .int .i64 t.2.1, .int .i64 t.2.2, .int .i64 u4, .int .i64 u5, .int .i64 u6]) ∧ Hid (Below (w.heap.size + 1) w1 wx))
          case first =>
            have KO := hO.out
            have x0 := KO.cell 0
            have x1 := KO.cell 1
            have x2 := KO.cell 2
            have z0 := KO.frozen 0
            have z1 := KO.frozen 1
            have z2 := KO.frozen 2
            simp at x0 x1 x2
            have lO := KO.lt
            have RS := hide (fun (W : World) (h : Below wi.heap.size wi W) => show W.cell? ⟨w.heap.size + 1, 0, none⟩ = some (.int .i64 u1) ∧ W.cell? ⟨w.heap.size + 1, 1, none⟩ = some (.int .i64 u2) ∧ W.cell? ⟨w.heap.size + 1, 2, none⟩ = some (.int .i64 u3) ∧ W.frozen? ⟨w.heap.size + 1, 0, none⟩ = false ∧ W.frozen? ⟨w.heap.size + 1, 1, none⟩ = false ∧ W.frozen? ⟨w.heap.size + 1, 2, none⟩ = false from
              ⟨(h.cell (p := ⟨w.heap.size + 1, 0, none⟩) lO).trans x0, (h.cell (p := ⟨w.heap.size + 1, 1, none⟩) lO).trans x1, (h.cell (p := ⟨w.heap.size + 1, 2, none⟩) lO).trans x2, (h.frozen (p := ⟨w.heap.size + 1, 0, none⟩) lO).trans z0, (h.frozen (p := ⟨w.heap.size + 1, 1, none⟩) lO).trans z1, (h.frozen (p := ⟨w.heap.size + 1, 2, none⟩) lO).trans z2⟩)
            have HKe := hide (fun (W : World) (h : Below (w.heap.size + 1) w1 W) => show W.cell? ⟨b, off + i * 6, none⟩ = some (.int .i64 y1) ∧ W.cell? ⟨b, off + i * 6 + 1, none⟩ = some (.int .i64 y2) ∧ W.cell? ⟨b, off + i * 6 + 2, none⟩ = some (.int .i64 y3) from
              ⟨(h.cell (p := ⟨b, off + i * 6, none⟩) hbg).trans (F1), (h.cell (p := ⟨b, off + i * 6 + 1, none⟩) hbg).trans (F2), (h.cell (p := ⟨b, off + i * 6 + 2, none⟩) hbg).trans (F3)⟩)
            obtain ⟨ca, hca⟩ : ∃ q, q = nthC (u1, u2, u3) k := ⟨_, rfl⟩
            obtain ⟨cb, hcb⟩ : ∃ q, q = nthC (y1, y2, y3) k := ⟨_, rfl⟩
            obtain ⟨mm, hmm⟩ : ∃ q, q = min ca cb := ⟨_, rfl⟩
            have hmn : (if cb < ca then cb else ca) = mm := by rw [hmm]; exact minI ca cb
            have HCa := hide (fun (W : World) => show Calls Tryz.prog 111 #[.agg #[.int .i64 u1, .int .i64 u2, .int .i64 u3], .int .i64 k] W fun e w' => e = .returned (.int .i64 ca) ∧ Below W.heap.size W w' by rw [hca]; exact refCoord_any u1 u2 u3 k hk3 W)
            have HCb := hide (fun (W : World) => show Calls Tryz.prog 111 #[.agg #[.int .i64 y1, .int .i64 y2, .int .i64 y3], .int .i64 k] W fun e w' => e = .returned (.int .i64 cb) ∧ Below W.heap.size W w' by rw [hcb]; exact refCoord_any y1 y2 y3 k hk3 W)
            obtain ⟨⟨T1, T2, T3⟩, hT⟩ : ∃ t : Pt, t = withC (u1, u2, u3) k mm := ⟨_, rfl⟩
            have HWi := hide (fun (W : World) => show Calls Tryz.prog 110 #[.agg #[.int .i64 u1, .int .i64 u2, .int .i64 u3], .int .i64 k, .int .i64 mm] W fun e w' => e = .returned (.agg #[.int .i64 T1, .int .i64 T2, .int .i64 T3]) ∧ Below W.heap.size W w' from (refWith_any u1 u2 u3 mm k hk3 W).mono (fun e w' hh => by rw [← hT] at hh; exact hh))
            have HT := hide (show (T1, T2, T3) = withC (u1, u2, u3) k (min (nthC (u1, u2, u3) k) (nthC (y1, y2, y3) k)) by rw [hT, hmm, hca, hcb])
            have hB := Below.drew (Below.refl wi.heap.size wi)
            have hS := HKe.out _ (hBi.out).drew
            have KO := hide KO
            clear hT hca hcb hmm
            refine wp_region_held_drew (S := fun W => W.cell? ⟨b, off + i * 6, none⟩ = some (.int .i64 y1) ∧ W.cell? ⟨b, off + i * 6 + 1, none⟩ = some (.int .i64 y2) ∧ W.cell? ⟨b, off + i * 6 + 2, none⟩ = some (.int .i64 y3)) (by kernel_rfl) hS (fun hHeld => ?_)
            refine wpAnyH_take (i := 0) (v := ?_) rfl (by kernel_rfl) (by kernel_rfl) (by kernel_rfl) (fun _ _ _ h => h) (Or.inl ⟨by rfl, ?_⟩) (by assumption) ?_
            rotate_left
            · intro w hSw
              (try dsimp only at hSw)
              go_simp
              first | done | with_reducible rfl
            (try simp only [List.getElem_toArray, List.getElem_cons_zero, Act.put, List.setIfInBounds_toArray, List.set_cons_zero, List.set_cons_succ])
            refine wpAnyH_take (i := 2) (v := ?_) rfl (by kernel_rfl) (by kernel_rfl) (by kernel_rfl) (fun _ _ _ h => h) (Or.inl ⟨by rfl, ?_⟩) (by assumption) ?_
            rotate_left
            · intro w hSw
              (try dsimp only at hSw)
              go_simp
              first | done | with_reducible rfl
            (try simp only [List.getElem_toArray, List.getElem_cons_succ, List.getElem_cons_zero, Act.put, List.setIfInBounds_toArray, List.set_cons_zero, List.set_cons_succ])
            refine wpAnyH_take (i := 3) (v := ?_) rfl (by kernel_rfl) (by kernel_rfl) (by kernel_rfl) (fun _ _ _ h => h) (Or.inl ⟨by rfl, ?_⟩) (by assumption) ?_
            rotate_left
            · intro w hSw
              (try dsimp only at hSw)
              go_simp
              first | done | with_reducible rfl
            (try simp only [List.getElem_toArray, List.getElem_cons_succ, List.getElem_cons_zero, Act.put, List.setIfInBounds_toArray, List.set_cons_zero, List.set_cons_succ])
            refine wpAnyH_take (i := 5) (v := ?_) rfl (by kernel_rfl) (by kernel_rfl) (by kernel_rfl) (fun _ _ _ h => h) (Or.inl ⟨by rfl, ?_⟩) (by assumption) ?_
            rotate_left
            · intro w hSw
              (try dsimp only at hSw)
              go_simp
              first | done | with_reducible rfl
            (try simp only [List.getElem_toArray, List.getElem_cons_succ, List.getElem_cons_zero, Act.put, List.setIfInBounds_toArray, List.set_cons_zero, List.set_cons_succ])
            refine wpAnyH_take (i := 7) (v := ?_) rfl (by kernel_rfl) (by kernel_rfl) (by kernel_rfl) (fun _ _ _ h => h) (Or.inl ⟨by rfl, ?_⟩) (by assumption) ?_
            rotate_left
            · intro w hSw
              (try dsimp only at hSw)
              go_simp
              first | done | with_reducible rfl
            (try simp only [List.getElem_toArray, List.getElem_cons_succ, List.getElem_cons_zero, Act.put, List.setIfInBounds_toArray, List.set_cons_zero, List.set_cons_succ])
            refine wpAnyH_take (i := 8) (v := ?_) rfl (by kernel_rfl) (by kernel_rfl) (by kernel_rfl) (fun _ _ _ h => h) (Or.inl ⟨by rfl, ?_⟩) (by assumption) ?_
            rotate_left
            · intro w hSw
              (try dsimp only at hSw)
              go_simp
              first | done | with_reducible rfl
            (try simp only [List.getElem_toArray, List.getElem_cons_succ, List.getElem_cons_zero, Act.put, List.setIfInBounds_toArray, List.set_cons_zero, List.set_cons_succ])
            refine wpAnyH_take (i := 9) (v := ?_) rfl (by kernel_rfl) (by kernel_rfl) (by kernel_rfl) (fun _ _ _ h => h) (Or.inl ⟨by rfl, ?_⟩) (by assumption) ?_
            rotate_left
            · intro w hSw
              (try dsimp only at hSw)
              go_simp
              first | done | with_reducible rfl
            (try simp only [List.getElem_toArray, List.getElem_cons_succ, List.getElem_cons_zero, Act.put, List.setIfInBounds_toArray, List.set_cons_zero, List.set_cons_succ])
            refine wpAnyH_take (i := 10) (v := ?_) rfl (by kernel_rfl) (by kernel_rfl) (by kernel_rfl) (fun _ _ _ h => h) (Or.inl ⟨by rfl, ?_⟩) (by assumption) ?_
            rotate_left
            · intro w hSw
              (try dsimp only at hSw)
              go_simp
              first | done | with_reducible rfl
            (try simp only [List.getElem_toArray, List.getElem_cons_succ, List.getElem_cons_zero, Act.put, List.setIfInBounds_toArray, List.set_cons_zero, List.set_cons_succ])
            refine wpAnyH_take (i := 11) (v := ?_) rfl (by kernel_rfl) (by kernel_rfl) (by kernel_rfl) (fun _ _ _ h => h) (Or.inl ⟨by rfl, ?_⟩) (by assumption) ?_
            rotate_left
            · intro w hSw
              (try dsimp only at hSw)
              go_simp
              first | done | with_reducible rfl
            (try simp only [List.getElem_toArray, List.getElem_cons_succ, List.getElem_cons_zero, Act.put, List.setIfInBounds_toArray, List.set_cons_zero, List.set_cons_succ])
            refine wpAnyH_take (i := 12) (v := ?_) rfl (by kernel_rfl) (by kernel_rfl) (by kernel_rfl) (fun _ _ _ h => h) (Or.inl ⟨by rfl, ?_⟩) (by assumption) ?_
            rotate_left
            · intro w hSw
              (try dsimp only at hSw)
              go_simp
              first | done | with_reducible rfl
            (try simp only [List.getElem_toArray, List.getElem_cons_succ, List.getElem_cons_zero, Act.put, List.setIfInBounds_toArray, List.set_cons_zero, List.set_cons_succ])
            refine wpAnyH_ready (rs := [1, 4]) (by kernel_rfl) (by simp) (AllReadyH.cons rfl (fun K hK => ?_) (AllReadyH.cons rfl (fun K hK => ?_) AllReadyH.nil))
            · skip
              go_simp
              refine hK.out _ _ hS (fun hHeld => ?_)
              clear hK K
              (try simp only [List.getElem_toArray, List.getElem_cons_succ, List.getElem_cons_zero, Act.put, List.setIfInBounds_toArray, List.set_cons_zero, List.set_cons_succ])
              refine wpAnyH_ready (rs := [4]) (by kernel_rfl) (by simp) (AllReadyH.cons rfl (fun K hK => ?_) AllReadyH.nil)
              · skip
                go_simp
                refine hK.out _ _ hS (fun hHeld => ?_)
                clear hK K
                (try simp only [List.getElem_toArray, List.getElem_cons_succ, List.getElem_cons_zero, Act.put, List.setIfInBounds_toArray, List.set_cons_zero, List.set_cons_succ])
                refine wpAnyH_ready (rs := [6]) (by kernel_rfl) (by simp) (AllReadyH.cons rfl (fun K hK => ?_) AllReadyH.nil)
                · skip
                  go_simp
                  refine (HCa.out _).mono ?_
                  rintro e wz ⟨rfl, hbz⟩
                  have hB := below_step hB hbz (Nat.le_refl wi.heap.size)
                  obtain ⟨d0, d1, d2, e0, e1, e2⟩ := RS.out _ hB
                  have hS := HKe.out _ ((hBi.out).trans (hB.mono (Nat.le_of_lt lO)))
                  go_wp2_with fail
                  refine hK.out _ _ hS (fun hHeld => ?_)
                  clear hK K
                  (try simp only [List.getElem_toArray, List.getElem_cons_succ, List.getElem_cons_zero, Act.put, List.setIfInBounds_toArray, List.set_cons_zero, List.set_cons_succ])
                  refine wpAnyH_ready (rs := [13]) (by kernel_rfl) (by simp) (AllReadyH.cons rfl (fun K hK => ?_) AllReadyH.nil)
                  · skip
                    go_simp
                    refine (HCb.out _).mono ?_
                    rintro e wz ⟨rfl, hbz⟩
                    have hB := below_step hB hbz (Nat.le_refl wi.heap.size)
                    obtain ⟨d0, d1, d2, e0, e1, e2⟩ := RS.out _ hB
                    have hS := HKe.out _ ((hBi.out).trans (hB.mono (Nat.le_of_lt lO)))
                    go_wp2_with fail
                    refine hK.out _ _ hS (fun hHeld => ?_)
                    clear hK K
                    (try simp only [List.getElem_toArray, List.getElem_cons_succ, List.getElem_cons_zero, Act.put, List.setIfInBounds_toArray, List.set_cons_zero, List.set_cons_succ])
                    refine wpAnyH_ready (rs := [14]) (by kernel_rfl) (by simp) (AllReadyH.cons rfl (fun K hK => ?_) AllReadyH.nil)
                    · skip
                      go_simp
                      refine hK.out _ _ hS (fun hHeld => ?_)
                      clear hK K
                      (try simp only [List.getElem_toArray, List.getElem_cons_succ, List.getElem_cons_zero, Act.put, List.setIfInBounds_toArray, List.set_cons_zero, List.set_cons_succ])
                      refine wpAnyH_ready (rs := [15]) (by kernel_rfl) (by simp) (AllReadyH.cons rfl (fun K hK => ?_) AllReadyH.nil)
                      · skip
                        go_simp
                        refine (HWi.out _).mono ?_
                        rintro e wz ⟨rfl, hbz⟩
                        have hB := below_step hB hbz (Nat.le_refl wi.heap.size)
                        obtain ⟨d0, d1, d2, e0, e1, e2⟩ := RS.out _ hB
                        have hS := HKe.out _ ((hBi.out).trans (hB.mono (Nat.le_of_lt lO)))
                        go_wp2_with fail
                        refine hK.out _ _ hS (fun hHeld => ?_)
                        clear hK K
                        (try simp only [List.getElem_toArray, List.getElem_cons_succ, List.getElem_cons_zero, Act.put, List.setIfInBounds_toArray, List.set_cons_zero, List.set_cons_succ])
                        refine wpAnyH_take (i := 16) (v := ?_) rfl (by kernel_rfl) (by kernel_rfl) (by kernel_rfl) (fun _ _ _ h => h) (Or.inl ⟨by rfl, ?_⟩) (by assumption) ?_
                        rotate_left
                        · intro w hSw
                          (try dsimp only at hSw)
                          go_simp
                          first | done | with_reducible rfl
                        (try simp only [List.getElem_toArray, List.getElem_cons_succ, List.getElem_cons_zero, Act.put, List.setIfInBounds_toArray, List.set_cons_zero, List.set_cons_succ])
                        refine wpAnyH_ready (rs := [17]) (by kernel_rfl) (by simp) (AllReadyH.cons rfl (fun K hK => ?_) AllReadyH.nil)
                        · skip
                          go_simp
                          refine hK.out _ _ (HKe.out _ (below3 (g := w.heap.size + 1) ((hBi.out).trans (hB.mono (Nat.le_of_lt lO))) (Nat.le_refl _) _ _ _)) (fun hHeld => ?_)
                          clear hK K
                          (try simp only [List.getElem_toArray, List.getElem_cons_succ, List.getElem_cons_zero, Act.put, List.setIfInBounds_toArray, List.set_cons_zero, List.set_cons_succ])
                          refine wpAnyH_done (by kernel_rfl) ?_ _
                          go_wp2_with fail
                          go_meet
                          exact ⟨hide ⟨(T1, T2, T3), HT.out, blk3l (KO.out.below hB lO) _ _ _⟩, hide (below3 (g := w.heap.size + 1) (hBi.out.trans (hB.mono (Nat.le_of_lt lO))) (Nat.le_refl _) _ _ _)⟩
            · skip
              go_simp
              refine hK.out _ _ hS (fun hHeld => ?_)
              clear hK K
              (try simp only [List.getElem_toArray, List.getElem_cons_succ, List.getElem_cons_zero, Act.put, List.setIfInBounds_toArray, List.set_cons_zero, List.set_cons_succ])
              refine wpAnyH_ready (rs := [1, 6]) (by kernel_rfl) (by simp) (AllReadyH.cons rfl (fun K hK => ?_) (AllReadyH.cons rfl (fun K hK => ?_) AllReadyH.nil))
              · skip
                go_simp
                refine hK.out _ _ hS (fun hHeld => ?_)
                clear hK K
                (try simp only [List.getElem_toArray, List.getElem_cons_succ, List.getElem_cons_zero, Act.put, List.setIfInBounds_toArray, List.set_cons_zero, List.set_cons_succ])
                refine wpAnyH_ready (rs := [6]) (by kernel_rfl) (by simp) (AllReadyH.cons rfl (fun K hK => ?_) AllReadyH.nil)
                · skip
                  go_simp
                  refine (HCa.out _).mono ?_
                  rintro e wz ⟨rfl, hbz⟩
                  have hB := below_step hB hbz (Nat.le_refl wi.heap.size)
                  obtain ⟨d0, d1, d2, e0, e1, e2⟩ := RS.out _ hB
                  have hS := HKe.out _ ((hBi.out).trans (hB.mono (Nat.le_of_lt lO)))
                  go_wp2_with fail
                  refine hK.out _ _ hS (fun hHeld => ?_)
                  clear hK K
                  (try simp only [List.getElem_toArray, List.getElem_cons_succ, List.getElem_cons_zero, Act.put, List.setIfInBounds_toArray, List.set_cons_zero, List.set_cons_succ])
                  refine wpAnyH_ready (rs := [13]) (by kernel_rfl) (by simp) (AllReadyH.cons rfl (fun K hK => ?_) AllReadyH.nil)
                  · skip
                    go_simp
                    refine (HCb.out _).mono ?_
                    rintro e wz ⟨rfl, hbz⟩
                    have hB := below_step hB hbz (Nat.le_refl wi.heap.size)
                    obtain ⟨d0, d1, d2, e0, e1, e2⟩ := RS.out _ hB
                    have hS := HKe.out _ ((hBi.out).trans (hB.mono (Nat.le_of_lt lO)))
                    go_wp2_with fail
                    refine hK.out _ _ hS (fun hHeld => ?_)
                    clear hK K
                    (try simp only [List.getElem_toArray, List.getElem_cons_succ, List.getElem_cons_zero, Act.put, List.setIfInBounds_toArray, List.set_cons_zero, List.set_cons_succ])
                    refine wpAnyH_ready (rs := [14]) (by kernel_rfl) (by simp) (AllReadyH.cons rfl (fun K hK => ?_) AllReadyH.nil)
                    · skip
                      go_simp
                      refine hK.out _ _ hS (fun hHeld => ?_)
                      clear hK K
                      (try simp only [List.getElem_toArray, List.getElem_cons_succ, List.getElem_cons_zero, Act.put, List.setIfInBounds_toArray, List.set_cons_zero, List.set_cons_succ])
                      refine wpAnyH_ready (rs := [15]) (by kernel_rfl) (by simp) (AllReadyH.cons rfl (fun K hK => ?_) AllReadyH.nil)
                      · skip
                        go_simp
                        refine (HWi.out _).mono ?_
                        rintro e wz ⟨rfl, hbz⟩
                        have hB := below_step hB hbz (Nat.le_refl wi.heap.size)
                        obtain ⟨d0, d1, d2, e0, e1, e2⟩ := RS.out _ hB
                        have hS := HKe.out _ ((hBi.out).trans (hB.mono (Nat.le_of_lt lO)))
                        go_wp2_with fail
                        refine hK.out _ _ hS (fun hHeld => ?_)
                        clear hK K
                        (try simp only [List.getElem_toArray, List.getElem_cons_succ, List.getElem_cons_zero, Act.put, List.setIfInBounds_toArray, List.set_cons_zero, List.set_cons_succ])
                        refine wpAnyH_take (i := 16) (v := ?_) rfl (by kernel_rfl) (by kernel_rfl) (by kernel_rfl) (fun _ _ _ h => h) (Or.inl ⟨by rfl, ?_⟩) (by assumption) ?_
                        rotate_left
                        · intro w hSw
                          (try dsimp only at hSw)
                          go_simp
                          first | done | with_reducible rfl
                        (try simp only [List.getElem_toArray, List.getElem_cons_succ, List.getElem_cons_zero, Act.put, List.setIfInBounds_toArray, List.set_cons_zero, List.set_cons_succ])
                        refine wpAnyH_ready (rs := [17]) (by kernel_rfl) (by simp) (AllReadyH.cons rfl (fun K hK => ?_) AllReadyH.nil)
                        · skip
                          go_simp
                          refine hK.out _ _ (HKe.out _ (below3 (g := w.heap.size + 1) ((hBi.out).trans (hB.mono (Nat.le_of_lt lO))) (Nat.le_refl _) _ _ _)) (fun hHeld => ?_)
                          clear hK K
                          (try simp only [List.getElem_toArray, List.getElem_cons_succ, List.getElem_cons_zero, Act.put, List.setIfInBounds_toArray, List.set_cons_zero, List.set_cons_succ])
                          refine wpAnyH_done (by kernel_rfl) ?_ _
                          go_wp2_with fail
                          go_meet
                          exact ⟨hide ⟨(T1, T2, T3), HT.out, blk3l (KO.out.below hB lO) _ _ _⟩, hide (below3 (g := w.heap.size + 1) (hBi.out.trans (hB.mono (Nat.le_of_lt lO))) (Nat.le_refl _) _ _ _)⟩
              · skip
                go_simp
                refine (HCa.out _).mono ?_
                rintro e wz ⟨rfl, hbz⟩
                have hB := below_step hB hbz (Nat.le_refl wi.heap.size)
                obtain ⟨d0, d1, d2, e0, e1, e2⟩ := RS.out _ hB
                have hS := HKe.out _ ((hBi.out).trans (hB.mono (Nat.le_of_lt lO)))
                go_wp2_with fail
                refine hK.out _ _ hS (fun hHeld => ?_)
                clear hK K
                (try simp only [List.getElem_toArray, List.getElem_cons_succ, List.getElem_cons_zero, Act.put, List.setIfInBounds_toArray, List.set_cons_zero, List.set_cons_succ])
                refine wpAnyH_ready (rs := [1, 13]) (by kernel_rfl) (by simp) (AllReadyH.cons rfl (fun K hK => ?_) (AllReadyH.cons rfl (fun K hK => ?_) AllReadyH.nil))
                · skip
                  go_simp
                  refine hK.out _ _ hS (fun hHeld => ?_)
                  clear hK K
                  (try simp only [List.getElem_toArray, List.getElem_cons_succ, List.getElem_cons_zero, Act.put, List.setIfInBounds_toArray, List.set_cons_zero, List.set_cons_succ])
                  refine wpAnyH_ready (rs := [13]) (by kernel_rfl) (by simp) (AllReadyH.cons rfl (fun K hK => ?_) AllReadyH.nil)
                  · skip
                    go_simp
                    refine (HCb.out _).mono ?_
                    rintro e wz ⟨rfl, hbz⟩
                    have hB := below_step hB hbz (Nat.le_refl wi.heap.size)
                    obtain ⟨d0, d1, d2, e0, e1, e2⟩ := RS.out _ hB
                    have hS := HKe.out _ ((hBi.out).trans (hB.mono (Nat.le_of_lt lO)))
                    go_wp2_with fail
                    refine hK.out _ _ hS (fun hHeld => ?_)
                    clear hK K
                    (try simp only [List.getElem_toArray, List.getElem_cons_succ, List.getElem_cons_zero, Act.put, List.setIfInBounds_toArray, List.set_cons_zero, List.set_cons_succ])
                    refine wpAnyH_ready (rs := [14]) (by kernel_rfl) (by simp) (AllReadyH.cons rfl (fun K hK => ?_) AllReadyH.nil)
                    · skip
                      go_simp
                      refine hK.out _ _ hS (fun hHeld => ?_)
                      clear hK K
                      (try simp only [List.getElem_toArray, List.getElem_cons_succ, List.getElem_cons_zero, Act.put, List.setIfInBounds_toArray, List.set_cons_zero, List.set_cons_succ])
                      refine wpAnyH_ready (rs := [15]) (by kernel_rfl) (by simp) (AllReadyH.cons rfl (fun K hK => ?_) AllReadyH.nil)
                      · skip
                        go_simp
                        refine (HWi.out _).mono ?_
                        rintro e wz ⟨rfl, hbz⟩
                        have hB := below_step hB hbz (Nat.le_refl wi.heap.size)
                        obtain ⟨d0, d1, d2, e0, e1, e2⟩ := RS.out _ hB
                        have hS := HKe.out _ ((hBi.out).trans (hB.mono (Nat.le_of_lt lO)))
                        go_wp2_with fail
                        refine hK.out _ _ hS (fun hHeld => ?_)
                        clear hK K
                        (try simp only [List.getElem_toArray, List.getElem_cons_succ, List.getElem_cons_zero, Act.put, List.setIfInBounds_toArray, List.set_cons_zero, List.set_cons_succ])
                        refine wpAnyH_take (i := 16) (v := ?_) rfl (by kernel_rfl) (by kernel_rfl) (by kernel_rfl) (fun _ _ _ h => h) (Or.inl ⟨by rfl, ?_⟩) (by assumption) ?_
                        rotate_left
                        · intro w hSw
                          (try dsimp only at hSw)
                          go_simp
                          first | done | with_reducible rfl
                        (try simp only [List.getElem_toArray, List.getElem_cons_succ, List.getElem_cons_zero, Act.put, List.setIfInBounds_toArray, List.set_cons_zero, List.set_cons_succ])
                        refine wpAnyH_ready (rs := [17]) (by kernel_rfl) (by simp) (AllReadyH.cons rfl (fun K hK => ?_) AllReadyH.nil)
                        · skip
                          go_simp
                          refine hK.out _ _ (HKe.out _ (below3 (g := w.heap.size + 1) ((hBi.out).trans (hB.mono (Nat.le_of_lt lO))) (Nat.le_refl _) _ _ _)) (fun hHeld => ?_)
                          clear hK K
                          (try simp only [List.getElem_toArray, List.getElem_cons_succ, List.getElem_cons_zero, Act.put, List.setIfInBounds_toArray, List.set_cons_zero, List.set_cons_succ])
                          refine wpAnyH_done (by kernel_rfl) ?_ _
                          go_wp2_with fail
                          go_meet
                          exact ⟨hide ⟨(T1, T2, T3), HT.out, blk3l (KO.out.below hB lO) _ _ _⟩, hide (below3 (g := w.heap.size + 1) (hBi.out.trans (hB.mono (Nat.le_of_lt lO))) (Nat.le_refl _) _ _ _)⟩
                · skip
                  go_simp
                  refine (HCb.out _).mono ?_
                  rintro e wz ⟨rfl, hbz⟩
                  have hB := below_step hB hbz (Nat.le_refl wi.heap.size)
                  obtain ⟨d0, d1, d2, e0, e1, e2⟩ := RS.out _ hB
                  have hS := HKe.out _ ((hBi.out).trans (hB.mono (Nat.le_of_lt lO)))
                  go_wp2_with fail
                  refine hK.out _ _ hS (fun hHeld => ?_)
                  clear hK K
                  (try simp only [List.getElem_toArray, List.getElem_cons_succ, List.getElem_cons_zero, Act.put, List.setIfInBounds_toArray, List.set_cons_zero, List.set_cons_succ])
                  refine wpAnyH_ready (rs := [1, 14]) (by kernel_rfl) (by simp) (AllReadyH.cons rfl (fun K hK => ?_) (AllReadyH.cons rfl (fun K hK => ?_) AllReadyH.nil))
                  · skip
                    go_simp
                    refine hK.out _ _ hS (fun hHeld => ?_)
                    clear hK K
                    (try simp only [List.getElem_toArray, List.getElem_cons_succ, List.getElem_cons_zero, Act.put, List.setIfInBounds_toArray, List.set_cons_zero, List.set_cons_succ])
                    refine wpAnyH_ready (rs := [14]) (by kernel_rfl) (by simp) (AllReadyH.cons rfl (fun K hK => ?_) AllReadyH.nil)
                    · skip
                      go_simp
                      refine hK.out _ _ hS (fun hHeld => ?_)
                      clear hK K
                      (try simp only [List.getElem_toArray, List.getElem_cons_succ, List.getElem_cons_zero, Act.put, List.setIfInBounds_toArray, List.set_cons_zero, List.set_cons_succ])
                      refine wpAnyH_ready (rs := [15]) (by kernel_rfl) (by simp) (AllReadyH.cons rfl (fun K hK => ?_) AllReadyH.nil)
                      · skip
                        go_simp
                        refine (HWi.out _).mono ?_
                        rintro e wz ⟨rfl, hbz⟩
                        have hB := below_step hB hbz (Nat.le_refl wi.heap.size)
                        obtain ⟨d0, d1, d2, e0, e1, e2⟩ := RS.out _ hB
                        have hS := HKe.out _ ((hBi.out).trans (hB.mono (Nat.le_of_lt lO)))
                        go_wp2_with fail
                        refine hK.out _ _ hS (fun hHeld => ?_)
                        clear hK K
                        (try simp only [List.getElem_toArray, List.getElem_cons_succ, List.getElem_cons_zero, Act.put, List.setIfInBounds_toArray, List.set_cons_zero, List.set_cons_succ])
                        refine wpAnyH_take (i := 16) (v := ?_) rfl (by kernel_rfl) (by kernel_rfl) (by kernel_rfl) (fun _ _ _ h => h) (Or.inl ⟨by rfl, ?_⟩) (by assumption) ?_
                        rotate_left
                        · intro w hSw
                          (try dsimp only at hSw)
                          go_simp
                          first | done | with_reducible rfl
                        (try simp only [List.getElem_toArray, List.getElem_cons_succ, List.getElem_cons_zero, Act.put, List.setIfInBounds_toArray, List.set_cons_zero, List.set_cons_succ])
                        refine wpAnyH_ready (rs := [17]) (by kernel_rfl) (by simp) (AllReadyH.cons rfl (fun K hK => ?_) AllReadyH.nil)
                        · skip
                          go_simp
                          refine hK.out _ _ (HKe.out _ (below3 (g := w.heap.size + 1) ((hBi.out).trans (hB.mono (Nat.le_of_lt lO))) (Nat.le_refl _) _ _ _)) (fun hHeld => ?_)
                          clear hK K
                          (try simp only [List.getElem_toArray, List.getElem_cons_succ, List.getElem_cons_zero, Act.put, List.setIfInBounds_toArray, List.set_cons_zero, List.set_cons_succ])
                          refine wpAnyH_done (by kernel_rfl) ?_ _
                          go_wp2_with fail
                          go_meet
                          exact ⟨hide ⟨(T1, T2, T3), HT.out, blk3l (KO.out.below hB lO) _ _ _⟩, hide (below3 (g := w.heap.size + 1) (hBi.out.trans (hB.mono (Nat.le_of_lt lO))) (Nat.le_refl _) _ _ _)⟩
                  · skip
                    go_simp
                    refine hK.out _ _ hS (fun hHeld => ?_)
                    clear hK K
                    (try simp only [List.getElem_toArray, List.getElem_cons_succ, List.getElem_cons_zero, Act.put, List.setIfInBounds_toArray, List.set_cons_zero, List.set_cons_succ])
                    refine wpAnyH_ready (rs := [1]) (by kernel_rfl) (by simp) (AllReadyH.cons rfl (fun K hK => ?_) AllReadyH.nil)
                    · skip
                      go_simp
                      refine hK.out _ _ hS (fun hHeld => ?_)
                      clear hK K
                      (try simp only [List.getElem_toArray, List.getElem_cons_succ, List.getElem_cons_zero, Act.put, List.setIfInBounds_toArray, List.set_cons_zero, List.set_cons_succ])
                      refine wpAnyH_ready (rs := [15]) (by kernel_rfl) (by simp) (AllReadyH.cons rfl (fun K hK => ?_) AllReadyH.nil)
                      · skip
                        go_simp
                        refine (HWi.out _).mono ?_
                        rintro e wz ⟨rfl, hbz⟩
                        have hB := below_step hB hbz (Nat.le_refl wi.heap.size)
                        obtain ⟨d0, d1, d2, e0, e1, e2⟩ := RS.out _ hB
                        have hS := HKe.out _ ((hBi.out).trans (hB.mono (Nat.le_of_lt lO)))
                        go_wp2_with fail
                        refine hK.out _ _ hS (fun hHeld => ?_)
                        clear hK K
                        (try simp only [List.getElem_toArray, List.getElem_cons_succ, List.getElem_cons_zero, Act.put, List.setIfInBounds_toArray, List.set_cons_zero, List.set_cons_succ])
                        refine wpAnyH_take (i := 16) (v := ?_) rfl (by kernel_rfl) (by kernel_rfl) (by kernel_rfl) (fun _ _ _ h => h) (Or.inl ⟨by rfl, ?_⟩) (by assumption) ?_
                        rotate_left
                        · intro w hSw
                          (try dsimp only at hSw)
                          go_simp
                          first | done | with_reducible rfl
                        (try simp only [List.getElem_toArray, List.getElem_cons_succ, List.getElem_cons_zero, Act.put, List.setIfInBounds_toArray, List.set_cons_zero, List.set_cons_succ])
                        refine wpAnyH_ready (rs := [17]) (by kernel_rfl) (by simp) (AllReadyH.cons rfl (fun K hK => ?_) AllReadyH.nil)
                        · skip
                          go_simp
                          refine hK.out _ _ (HKe.out _ (below3 (g := w.heap.size + 1) ((hBi.out).trans (hB.mono (Nat.le_of_lt lO))) (Nat.le_refl _) _ _ _)) (fun hHeld => ?_)
                          clear hK K
                          (try simp only [List.getElem_toArray, List.getElem_cons_succ, List.getElem_cons_zero, Act.put, List.setIfInBounds_toArray, List.set_cons_zero, List.set_cons_succ])
                          refine wpAnyH_done (by kernel_rfl) ?_ _
                          go_wp2_with fail
                          go_meet
                          exact ⟨hide ⟨(T1, T2, T3), HT.out, blk3l (KO.out.below hB lO) _ _ _⟩, hide (below3 (g := w.heap.size + 1) (hBi.out.trans (hB.mono (Nat.le_of_lt lO))) (Nat.le_refl _) _ _ _)⟩
          case rest =>
            obtain ⟨⟨⟨t1, t2, t3⟩, ht, hO2⟩, hBi2⟩ := hcut
            rename World => wj
            have Ht := hide ht
            simp only at hO2
            have hO2 := hide hO2
            clear ht hO hBi
            go_wp2_with fail
            have hOw := hO2
            have KO := hOw.out
            have x0 := KO.cell 3
            have x1 := KO.cell 4
            have x2 := KO.cell 5
            have z0 := KO.frozen 3
            have z1 := KO.frozen 4
            have z2 := KO.frozen 5
            simp at x0 x1 x2
            have lO := KO.lt
            have RS := hide (fun (W : World) (h : Below wj.heap.size wj W) => show W.cell? ⟨w.heap.size + 1, 3, none⟩ = some (.int .i64 u4) ∧ W.cell? ⟨w.heap.size + 1, 4, none⟩ = some (.int .i64 u5) ∧ W.cell? ⟨w.heap.size + 1, 5, none⟩ = some (.int .i64 u6) ∧ W.frozen? ⟨w.heap.size + 1, 3, none⟩ = false ∧ W.frozen? ⟨w.heap.size + 1, 4, none⟩ = false ∧ W.frozen? ⟨w.heap.size + 1, 5, none⟩ = false from
              ⟨(h.cell (p := ⟨w.heap.size + 1, 3, none⟩) lO).trans x0, (h.cell (p := ⟨w.heap.size + 1, 4, none⟩) lO).trans x1, (h.cell (p := ⟨w.heap.size + 1, 5, none⟩) lO).trans x2, (h.frozen (p := ⟨w.heap.size + 1, 3, none⟩) lO).trans z0, (h.frozen (p := ⟨w.heap.size + 1, 4, none⟩) lO).trans z1, (h.frozen (p := ⟨w.heap.size + 1, 5, none⟩) lO).trans z2⟩)
            have HKe := hide (fun (W : World) (h : Below (w.heap.size + 1) w1 W) => show W.cell? ⟨b, off + i * 6 + 3, none⟩ = some (.int .i64 y4) ∧ W.cell? ⟨b, off + i * 6 + 4, none⟩ = some (.int .i64 y5) ∧ W.cell? ⟨b, off + i * 6 + 5, none⟩ = some (.int .i64 y6) from
              ⟨(h.cell (p := ⟨b, off + i * 6 + 3, none⟩) hbg).trans (F4), (h.cell (p := ⟨b, off + i * 6 + 4, none⟩) hbg).trans (F5), (h.cell (p := ⟨b, off + i * 6 + 5, none⟩) hbg).trans (F6)⟩)
            obtain ⟨ca, hca⟩ : ∃ q, q = nthC (u4, u5, u6) k := ⟨_, rfl⟩
            obtain ⟨cb, hcb⟩ : ∃ q, q = nthC (y4, y5, y6) k := ⟨_, rfl⟩
            obtain ⟨mm, hmm⟩ : ∃ q, q = max ca cb := ⟨_, rfl⟩
            have hmn : (if ca < cb then cb else ca) = mm := by rw [hmm]; exact maxI ca cb
            have HCa := hide (fun (W : World) => show Calls Tryz.prog 111 #[.agg #[.int .i64 u4, .int .i64 u5, .int .i64 u6], .int .i64 k] W fun e w' => e = .returned (.int .i64 ca) ∧ Below W.heap.size W w' by rw [hca]; exact refCoord_any u4 u5 u6 k hk3 W)
            have HCb := hide (fun (W : World) => show Calls Tryz.prog 111 #[.agg #[.int .i64 y4, .int .i64 y5, .int .i64 y6], .int .i64 k] W fun e w' => e = .returned (.int .i64 cb) ∧ Below W.heap.size W w' by rw [hcb]; exact refCoord_any y4 y5 y6 k hk3 W)
            obtain ⟨⟨T1, T2, T3⟩, hT⟩ : ∃ t : Pt, t = withC (u4, u5, u6) k mm := ⟨_, rfl⟩
            have HWi := hide (fun (W : World) => show Calls Tryz.prog 110 #[.agg #[.int .i64 u4, .int .i64 u5, .int .i64 u6], .int .i64 k, .int .i64 mm] W fun e w' => e = .returned (.agg #[.int .i64 T1, .int .i64 T2, .int .i64 T3]) ∧ Below W.heap.size W w' from (refWith_any u4 u5 u6 mm k hk3 W).mono (fun e w' hh => by rw [← hT] at hh; exact hh))
            have HT := hide (show (T1, T2, T3) = withC (u4, u5, u6) k (max (nthC (u4, u5, u6) k) (nthC (y4, y5, y6) k)) by rw [hT, hmm, hca, hcb])
            have hB := Below.drew (Below.refl wj.heap.size wj)
            have hS := HKe.out _ (hBi2.out).drew
            have KO := hide KO
            clear hT hca hcb hmm
            refine wp_region_held_drew (S := fun W => W.cell? ⟨b, off + i * 6 + 3, none⟩ = some (.int .i64 y4) ∧ W.cell? ⟨b, off + i * 6 + 4, none⟩ = some (.int .i64 y5) ∧ W.cell? ⟨b, off + i * 6 + 5, none⟩ = some (.int .i64 y6)) (by kernel_rfl) hS (fun hHeld => ?_)
            refine wpAnyH_take (i := 0) (v := ?_) rfl (by kernel_rfl) (by kernel_rfl) (by kernel_rfl) (fun _ _ _ h => h) (Or.inl ⟨by rfl, ?_⟩) (by assumption) ?_
            rotate_left
            · intro w hSw
              (try dsimp only at hSw)
              go_simp
              first | done | with_reducible rfl
            (try simp only [List.getElem_toArray, List.getElem_cons_zero, Act.put, List.setIfInBounds_toArray, List.set_cons_zero, List.set_cons_succ])
            refine wpAnyH_take (i := 2) (v := ?_) rfl (by kernel_rfl) (by kernel_rfl) (by kernel_rfl) (fun _ _ _ h => h) (Or.inl ⟨by rfl, ?_⟩) (by assumption) ?_
            rotate_left
            · intro w hSw
              (try dsimp only at hSw)
              go_simp
              first | done | with_reducible rfl
            (try simp only [List.getElem_toArray, List.getElem_cons_succ, List.getElem_cons_zero, Act.put, List.setIfInBounds_toArray, List.set_cons_zero, List.set_cons_succ])
            refine wpAnyH_take (i := 3) (v := ?_) rfl (by kernel_rfl) (by kernel_rfl) (by kernel_rfl) (fun _ _ _ h => h) (Or.inl ⟨by rfl, ?_⟩) (by assumption) ?_
            rotate_left
            · intro w hSw
              (try dsimp only at hSw)
              go_simp
              first | done | with_reducible rfl
            (try simp only [List.getElem_toArray, List.getElem_cons_succ, List.getElem_cons_zero, Act.put, List.setIfInBounds_toArray, List.set_cons_zero, List.set_cons_succ])
            refine wpAnyH_take (i := 5) (v := ?_) rfl (by kernel_rfl) (by kernel_rfl) (by kernel_rfl) (fun _ _ _ h => h) (Or.inl ⟨by rfl, ?_⟩) (by assumption) ?_
            rotate_left
            · intro w hSw
              (try dsimp only at hSw)
              go_simp
              first | done | with_reducible rfl
            (try simp only [List.getElem_toArray, List.getElem_cons_succ, List.getElem_cons_zero, Act.put, List.setIfInBounds_toArray, List.set_cons_zero, List.set_cons_succ])
            refine wpAnyH_take (i := 7) (v := ?_) rfl (by kernel_rfl) (by kernel_rfl) (by kernel_rfl) (fun _ _ _ h => h) (Or.inl ⟨by rfl, ?_⟩) (by assumption) ?_
            rotate_left
            · intro w hSw
              (try dsimp only at hSw)
              go_simp
              first | done | with_reducible rfl
            (try simp only [List.getElem_toArray, List.getElem_cons_succ, List.getElem_cons_zero, Act.put, List.setIfInBounds_toArray, List.set_cons_zero, List.set_cons_succ])
            refine wpAnyH_take (i := 8) (v := ?_) rfl (by kernel_rfl) (by kernel_rfl) (by kernel_rfl) (fun _ _ _ h => h) (Or.inl ⟨by rfl, ?_⟩) (by assumption) ?_
            rotate_left
            · intro w hSw
              (try dsimp only at hSw)
              go_simp
              first | done | with_reducible rfl
            (try simp only [List.getElem_toArray, List.getElem_cons_succ, List.getElem_cons_zero, Act.put, List.setIfInBounds_toArray, List.set_cons_zero, List.set_cons_succ])
            refine wpAnyH_take (i := 9) (v := ?_) rfl (by kernel_rfl) (by kernel_rfl) (by kernel_rfl) (fun _ _ _ h => h) (Or.inl ⟨by rfl, ?_⟩) (by assumption) ?_
            rotate_left
            · intro w hSw
              (try dsimp only at hSw)
              go_simp
              first | done | with_reducible rfl
            (try simp only [List.getElem_toArray, List.getElem_cons_succ, List.getElem_cons_zero, Act.put, List.setIfInBounds_toArray, List.set_cons_zero, List.set_cons_succ])
            refine wpAnyH_take (i := 10) (v := ?_) rfl (by kernel_rfl) (by kernel_rfl) (by kernel_rfl) (fun _ _ _ h => h) (Or.inl ⟨by rfl, ?_⟩) (by assumption) ?_
            rotate_left
            · intro w hSw
              (try dsimp only at hSw)
              go_simp
              first | done | with_reducible rfl
            (try simp only [List.getElem_toArray, List.getElem_cons_succ, List.getElem_cons_zero, Act.put, List.setIfInBounds_toArray, List.set_cons_zero, List.set_cons_succ])
            refine wpAnyH_take (i := 11) (v := ?_) rfl (by kernel_rfl) (by kernel_rfl) (by kernel_rfl) (fun _ _ _ h => h) (Or.inl ⟨by rfl, ?_⟩) (by assumption) ?_
            rotate_left
            · intro w hSw
              (try dsimp only at hSw)
              go_simp
              first | done | with_reducible rfl
            (try simp only [List.getElem_toArray, List.getElem_cons_succ, List.getElem_cons_zero, Act.put, List.setIfInBounds_toArray, List.set_cons_zero, List.set_cons_succ])
            refine wpAnyH_take (i := 12) (v := ?_) rfl (by kernel_rfl) (by kernel_rfl) (by kernel_rfl) (fun _ _ _ h => h) (Or.inl ⟨by rfl, ?_⟩) (by assumption) ?_
            rotate_left
            · intro w hSw
              (try dsimp only at hSw)
              go_simp
              first | done | with_reducible rfl
            (try simp only [List.getElem_toArray, List.getElem_cons_succ, List.getElem_cons_zero, Act.put, List.setIfInBounds_toArray, List.set_cons_zero, List.set_cons_succ])
            refine wpAnyH_ready (rs := [1, 4]) (by kernel_rfl) (by simp) (AllReadyH.cons rfl (fun K hK => ?_) (AllReadyH.cons rfl (fun K hK => ?_) AllReadyH.nil))
            · skip
              go_simp
              refine hK.out _ _ hS (fun hHeld => ?_)
              clear hK K
              (try simp only [List.getElem_toArray, List.getElem_cons_succ, List.getElem_cons_zero, Act.put, List.setIfInBounds_toArray, List.set_cons_zero, List.set_cons_succ])
              refine wpAnyH_ready (rs := [4]) (by kernel_rfl) (by simp) (AllReadyH.cons rfl (fun K hK => ?_) AllReadyH.nil)
              · skip
                go_simp
                refine hK.out _ _ hS (fun hHeld => ?_)
                clear hK K
                (try simp only [List.getElem_toArray, List.getElem_cons_succ, List.getElem_cons_zero, Act.put, List.setIfInBounds_toArray, List.set_cons_zero, List.set_cons_succ])
                refine wpAnyH_ready (rs := [6]) (by kernel_rfl) (by simp) (AllReadyH.cons rfl (fun K hK => ?_) AllReadyH.nil)
                · skip
                  go_simp
                  refine (HCa.out _).mono ?_
                  rintro e wz ⟨rfl, hbz⟩
                  have hB := below_step hB hbz (Nat.le_refl wj.heap.size)
                  obtain ⟨d0, d1, d2, e0, e1, e2⟩ := RS.out _ hB
                  have hS := HKe.out _ ((hBi2.out).trans (hB.mono (Nat.le_of_lt lO)))
                  go_wp2_with fail
                  refine hK.out _ _ hS (fun hHeld => ?_)
                  clear hK K
                  (try simp only [List.getElem_toArray, List.getElem_cons_succ, List.getElem_cons_zero, Act.put, List.setIfInBounds_toArray, List.set_cons_zero, List.set_cons_succ])
                  refine wpAnyH_ready (rs := [13]) (by kernel_rfl) (by simp) (AllReadyH.cons rfl (fun K hK => ?_) AllReadyH.nil)
                  · skip
                    go_simp
                    refine (HCb.out _).mono ?_
                    rintro e wz ⟨rfl, hbz⟩
                    have hB := below_step hB hbz (Nat.le_refl wj.heap.size)
                    obtain ⟨d0, d1, d2, e0, e1, e2⟩ := RS.out _ hB
                    have hS := HKe.out _ ((hBi2.out).trans (hB.mono (Nat.le_of_lt lO)))
                    go_wp2_with fail
                    refine hK.out _ _ hS (fun hHeld => ?_)
                    clear hK K
                    (try simp only [List.getElem_toArray, List.getElem_cons_succ, List.getElem_cons_zero, Act.put, List.setIfInBounds_toArray, List.set_cons_zero, List.set_cons_succ])
                    refine wpAnyH_ready (rs := [14]) (by kernel_rfl) (by simp) (AllReadyH.cons rfl (fun K hK => ?_) AllReadyH.nil)
                    · skip
                      go_simp
                      refine hK.out _ _ hS (fun hHeld => ?_)
                      clear hK K
                      (try simp only [List.getElem_toArray, List.getElem_cons_succ, List.getElem_cons_zero, Act.put, List.setIfInBounds_toArray, List.set_cons_zero, List.set_cons_succ])
                      refine wpAnyH_ready (rs := [15]) (by kernel_rfl) (by simp) (AllReadyH.cons rfl (fun K hK => ?_) AllReadyH.nil)
                      · skip
                        go_simp
                        refine (HWi.out _).mono ?_
                        rintro e wz ⟨rfl, hbz⟩
                        have hB := below_step hB hbz (Nat.le_refl wj.heap.size)
                        obtain ⟨d0, d1, d2, e0, e1, e2⟩ := RS.out _ hB
                        have hS := HKe.out _ ((hBi2.out).trans (hB.mono (Nat.le_of_lt lO)))
                        go_wp2_with fail
                        refine hK.out _ _ hS (fun hHeld => ?_)
                        clear hK K
                        (try simp only [List.getElem_toArray, List.getElem_cons_succ, List.getElem_cons_zero, Act.put, List.setIfInBounds_toArray, List.set_cons_zero, List.set_cons_succ])
                        refine wpAnyH_take (i := 16) (v := ?_) rfl (by kernel_rfl) (by kernel_rfl) (by kernel_rfl) (fun _ _ _ h => h) (Or.inl ⟨by rfl, ?_⟩) (by assumption) ?_
                        rotate_left
                        · intro w hSw
                          (try dsimp only at hSw)
                          go_simp
                          first | done | with_reducible rfl
                        (try simp only [List.getElem_toArray, List.getElem_cons_succ, List.getElem_cons_zero, Act.put, List.setIfInBounds_toArray, List.set_cons_zero, List.set_cons_succ])
                        refine wpAnyH_ready (rs := [17]) (by kernel_rfl) (by simp) (AllReadyH.cons rfl (fun K hK => ?_) AllReadyH.nil)
                        · skip
                          go_simp
                          refine hK.out _ _ (HKe.out _ (below3h (g := w.heap.size + 1) ((hBi2.out).trans (hB.mono (Nat.le_of_lt lO))) (Nat.le_refl _) _ _ _)) (fun hHeld => ?_)
                          clear hK K
                          (try simp only [List.getElem_toArray, List.getElem_cons_succ, List.getElem_cons_zero, Act.put, List.setIfInBounds_toArray, List.set_cons_zero, List.set_cons_succ])
                          refine wpAnyH_done (by kernel_rfl) ?_ _
                          have Hn4 := hide (show axMix ⟨(o1, o2, o3), (o4, o5, o6)⟩ ⟨(y1, y2, y3), (y4, y5, y6)⟩ (k + 1) = ⟨(t1, t2, t3), (T1, T2, T3)⟩ by rw [axMix, hu.out, Ht.out, HT.out])
                          have hO3 := hide (blk3h (KO.out.below hB lO) (.int .i64 T1) (.int .i64 T2) (.int .i64 T3))
                          have hBi3 := hide (below3h (g := w.heap.size + 1) (hBi2.out.trans (hB.mono (Nat.le_of_lt lO))) (Nat.le_refl _) (.int .i64 T1) (.int .i64 T2) (.int .i64 T3))
                          go_wp2_with fail
                          go_roundw
                          case rel => exact ⟨k + 1, by omega, by go_num, ⟨t1, t2, t3, T1, T2, T3, Hn4, hO3⟩, hBi3⟩
                          case measure => simp [intOf]; omega
            · skip
              go_simp
              refine hK.out _ _ hS (fun hHeld => ?_)
              clear hK K
              (try simp only [List.getElem_toArray, List.getElem_cons_succ, List.getElem_cons_zero, Act.put, List.setIfInBounds_toArray, List.set_cons_zero, List.set_cons_succ])
              refine wpAnyH_ready (rs := [1, 6]) (by kernel_rfl) (by simp) (AllReadyH.cons rfl (fun K hK => ?_) (AllReadyH.cons rfl (fun K hK => ?_) AllReadyH.nil))
              · skip
                go_simp
                refine hK.out _ _ hS (fun hHeld => ?_)
                clear hK K
                (try simp only [List.getElem_toArray, List.getElem_cons_succ, List.getElem_cons_zero, Act.put, List.setIfInBounds_toArray, List.set_cons_zero, List.set_cons_succ])
                refine wpAnyH_ready (rs := [6]) (by kernel_rfl) (by simp) (AllReadyH.cons rfl (fun K hK => ?_) AllReadyH.nil)
                · skip
                  go_simp
                  refine (HCa.out _).mono ?_
                  rintro e wz ⟨rfl, hbz⟩
                  have hB := below_step hB hbz (Nat.le_refl wj.heap.size)
                  obtain ⟨d0, d1, d2, e0, e1, e2⟩ := RS.out _ hB
                  have hS := HKe.out _ ((hBi2.out).trans (hB.mono (Nat.le_of_lt lO)))
                  go_wp2_with fail
                  refine hK.out _ _ hS (fun hHeld => ?_)
                  clear hK K
                  (try simp only [List.getElem_toArray, List.getElem_cons_succ, List.getElem_cons_zero, Act.put, List.setIfInBounds_toArray, List.set_cons_zero, List.set_cons_succ])
                  refine wpAnyH_ready (rs := [13]) (by kernel_rfl) (by simp) (AllReadyH.cons rfl (fun K hK => ?_) AllReadyH.nil)
                  · skip
                    go_simp
                    refine (HCb.out _).mono ?_
                    rintro e wz ⟨rfl, hbz⟩
                    have hB := below_step hB hbz (Nat.le_refl wj.heap.size)
                    obtain ⟨d0, d1, d2, e0, e1, e2⟩ := RS.out _ hB
                    have hS := HKe.out _ ((hBi2.out).trans (hB.mono (Nat.le_of_lt lO)))
                    go_wp2_with fail
                    refine hK.out _ _ hS (fun hHeld => ?_)
                    clear hK K
                    (try simp only [List.getElem_toArray, List.getElem_cons_succ, List.getElem_cons_zero, Act.put, List.setIfInBounds_toArray, List.set_cons_zero, List.set_cons_succ])
                    refine wpAnyH_ready (rs := [14]) (by kernel_rfl) (by simp) (AllReadyH.cons rfl (fun K hK => ?_) AllReadyH.nil)
                    · skip
                      go_simp
                      refine hK.out _ _ hS (fun hHeld => ?_)
                      clear hK K
                      (try simp only [List.getElem_toArray, List.getElem_cons_succ, List.getElem_cons_zero, Act.put, List.setIfInBounds_toArray, List.set_cons_zero, List.set_cons_succ])
                      refine wpAnyH_ready (rs := [15]) (by kernel_rfl) (by simp) (AllReadyH.cons rfl (fun K hK => ?_) AllReadyH.nil)
                      · skip
                        go_simp
                        refine (HWi.out _).mono ?_
                        rintro e wz ⟨rfl, hbz⟩
                        have hB := below_step hB hbz (Nat.le_refl wj.heap.size)
                        obtain ⟨d0, d1, d2, e0, e1, e2⟩ := RS.out _ hB
                        have hS := HKe.out _ ((hBi2.out).trans (hB.mono (Nat.le_of_lt lO)))
                        go_wp2_with fail
                        refine hK.out _ _ hS (fun hHeld => ?_)
                        clear hK K
                        (try simp only [List.getElem_toArray, List.getElem_cons_succ, List.getElem_cons_zero, Act.put, List.setIfInBounds_toArray, List.set_cons_zero, List.set_cons_succ])
                        refine wpAnyH_take (i := 16) (v := ?_) rfl (by kernel_rfl) (by kernel_rfl) (by kernel_rfl) (fun _ _ _ h => h) (Or.inl ⟨by rfl, ?_⟩) (by assumption) ?_
                        rotate_left
                        · intro w hSw
                          (try dsimp only at hSw)
                          go_simp
                          first | done | with_reducible rfl
                        (try simp only [List.getElem_toArray, List.getElem_cons_succ, List.getElem_cons_zero, Act.put, List.setIfInBounds_toArray, List.set_cons_zero, List.set_cons_succ])
                        refine wpAnyH_ready (rs := [17]) (by kernel_rfl) (by simp) (AllReadyH.cons rfl (fun K hK => ?_) AllReadyH.nil)
                        · skip
                          go_simp
                          refine hK.out _ _ (HKe.out _ (below3h (g := w.heap.size + 1) ((hBi2.out).trans (hB.mono (Nat.le_of_lt lO))) (Nat.le_refl _) _ _ _)) (fun hHeld => ?_)
                          clear hK K
                          (try simp only [List.getElem_toArray, List.getElem_cons_succ, List.getElem_cons_zero, Act.put, List.setIfInBounds_toArray, List.set_cons_zero, List.set_cons_succ])
                          refine wpAnyH_done (by kernel_rfl) ?_ _
                          have Hn4 := hide (show axMix ⟨(o1, o2, o3), (o4, o5, o6)⟩ ⟨(y1, y2, y3), (y4, y5, y6)⟩ (k + 1) = ⟨(t1, t2, t3), (T1, T2, T3)⟩ by rw [axMix, hu.out, Ht.out, HT.out])
                          have hO3 := hide (blk3h (KO.out.below hB lO) (.int .i64 T1) (.int .i64 T2) (.int .i64 T3))
                          have hBi3 := hide (below3h (g := w.heap.size + 1) (hBi2.out.trans (hB.mono (Nat.le_of_lt lO))) (Nat.le_refl _) (.int .i64 T1) (.int .i64 T2) (.int .i64 T3))
                          go_wp2_with fail
                          go_roundw
                          case rel => exact ⟨k + 1, by omega, by go_num, ⟨t1, t2, t3, T1, T2, T3, Hn4, hO3⟩, hBi3⟩
                          case measure => simp [intOf]; omega
              · skip
                go_simp
                refine (HCa.out _).mono ?_
                rintro e wz ⟨rfl, hbz⟩
                have hB := below_step hB hbz (Nat.le_refl wj.heap.size)
                obtain ⟨d0, d1, d2, e0, e1, e2⟩ := RS.out _ hB
                have hS := HKe.out _ ((hBi2.out).trans (hB.mono (Nat.le_of_lt lO)))
                go_wp2_with fail
                refine hK.out _ _ hS (fun hHeld => ?_)
                clear hK K
                (try simp only [List.getElem_toArray, List.getElem_cons_succ, List.getElem_cons_zero, Act.put, List.setIfInBounds_toArray, List.set_cons_zero, List.set_cons_succ])
                refine wpAnyH_ready (rs := [1, 13]) (by kernel_rfl) (by simp) (AllReadyH.cons rfl (fun K hK => ?_) (AllReadyH.cons rfl (fun K hK => ?_) AllReadyH.nil))
                · skip
                  go_simp
                  refine hK.out _ _ hS (fun hHeld => ?_)
                  clear hK K
                  (try simp only [List.getElem_toArray, List.getElem_cons_succ, List.getElem_cons_zero, Act.put, List.setIfInBounds_toArray, List.set_cons_zero, List.set_cons_succ])
                  refine wpAnyH_ready (rs := [13]) (by kernel_rfl) (by simp) (AllReadyH.cons rfl (fun K hK => ?_) AllReadyH.nil)
                  · skip
                    go_simp
                    refine (HCb.out _).mono ?_
                    rintro e wz ⟨rfl, hbz⟩
                    have hB := below_step hB hbz (Nat.le_refl wj.heap.size)
                    obtain ⟨d0, d1, d2, e0, e1, e2⟩ := RS.out _ hB
                    have hS := HKe.out _ ((hBi2.out).trans (hB.mono (Nat.le_of_lt lO)))
                    go_wp2_with fail
                    refine hK.out _ _ hS (fun hHeld => ?_)
                    clear hK K
                    (try simp only [List.getElem_toArray, List.getElem_cons_succ, List.getElem_cons_zero, Act.put, List.setIfInBounds_toArray, List.set_cons_zero, List.set_cons_succ])
                    refine wpAnyH_ready (rs := [14]) (by kernel_rfl) (by simp) (AllReadyH.cons rfl (fun K hK => ?_) AllReadyH.nil)
                    · skip
                      go_simp
                      refine hK.out _ _ hS (fun hHeld => ?_)
                      clear hK K
                      (try simp only [List.getElem_toArray, List.getElem_cons_succ, List.getElem_cons_zero, Act.put, List.setIfInBounds_toArray, List.set_cons_zero, List.set_cons_succ])
                      refine wpAnyH_ready (rs := [15]) (by kernel_rfl) (by simp) (AllReadyH.cons rfl (fun K hK => ?_) AllReadyH.nil)
                      · skip
                        go_simp
                        refine (HWi.out _).mono ?_
                        rintro e wz ⟨rfl, hbz⟩
                        have hB := below_step hB hbz (Nat.le_refl wj.heap.size)
                        obtain ⟨d0, d1, d2, e0, e1, e2⟩ := RS.out _ hB
                        have hS := HKe.out _ ((hBi2.out).trans (hB.mono (Nat.le_of_lt lO)))
                        go_wp2_with fail
                        refine hK.out _ _ hS (fun hHeld => ?_)
                        clear hK K
                        (try simp only [List.getElem_toArray, List.getElem_cons_succ, List.getElem_cons_zero, Act.put, List.setIfInBounds_toArray, List.set_cons_zero, List.set_cons_succ])
                        refine wpAnyH_take (i := 16) (v := ?_) rfl (by kernel_rfl) (by kernel_rfl) (by kernel_rfl) (fun _ _ _ h => h) (Or.inl ⟨by rfl, ?_⟩) (by assumption) ?_
                        rotate_left
                        · intro w hSw
                          (try dsimp only at hSw)
                          go_simp
                          first | done | with_reducible rfl
                        (try simp only [List.getElem_toArray, List.getElem_cons_succ, List.getElem_cons_zero, Act.put, List.setIfInBounds_toArray, List.set_cons_zero, List.set_cons_succ])
                        refine wpAnyH_ready (rs := [17]) (by kernel_rfl) (by simp) (AllReadyH.cons rfl (fun K hK => ?_) AllReadyH.nil)
                        · skip
                          go_simp
                          refine hK.out _ _ (HKe.out _ (below3h (g := w.heap.size + 1) ((hBi2.out).trans (hB.mono (Nat.le_of_lt lO))) (Nat.le_refl _) _ _ _)) (fun hHeld => ?_)
                          clear hK K
                          (try simp only [List.getElem_toArray, List.getElem_cons_succ, List.getElem_cons_zero, Act.put, List.setIfInBounds_toArray, List.set_cons_zero, List.set_cons_succ])
                          refine wpAnyH_done (by kernel_rfl) ?_ _
                          have Hn4 := hide (show axMix ⟨(o1, o2, o3), (o4, o5, o6)⟩ ⟨(y1, y2, y3), (y4, y5, y6)⟩ (k + 1) = ⟨(t1, t2, t3), (T1, T2, T3)⟩ by rw [axMix, hu.out, Ht.out, HT.out])
                          have hO3 := hide (blk3h (KO.out.below hB lO) (.int .i64 T1) (.int .i64 T2) (.int .i64 T3))
                          have hBi3 := hide (below3h (g := w.heap.size + 1) (hBi2.out.trans (hB.mono (Nat.le_of_lt lO))) (Nat.le_refl _) (.int .i64 T1) (.int .i64 T2) (.int .i64 T3))
                          go_wp2_with fail
                          go_roundw
                          case rel => exact ⟨k + 1, by omega, by go_num, ⟨t1, t2, t3, T1, T2, T3, Hn4, hO3⟩, hBi3⟩
                          case measure => simp [intOf]; omega
                · skip
                  go_simp
                  refine (HCb.out _).mono ?_
                  rintro e wz ⟨rfl, hbz⟩
                  have hB := below_step hB hbz (Nat.le_refl wj.heap.size)
                  obtain ⟨d0, d1, d2, e0, e1, e2⟩ := RS.out _ hB
                  have hS := HKe.out _ ((hBi2.out).trans (hB.mono (Nat.le_of_lt lO)))
                  go_wp2_with fail
                  refine hK.out _ _ hS (fun hHeld => ?_)
                  clear hK K
                  (try simp only [List.getElem_toArray, List.getElem_cons_succ, List.getElem_cons_zero, Act.put, List.setIfInBounds_toArray, List.set_cons_zero, List.set_cons_succ])
                  refine wpAnyH_ready (rs := [1, 14]) (by kernel_rfl) (by simp) (AllReadyH.cons rfl (fun K hK => ?_) (AllReadyH.cons rfl (fun K hK => ?_) AllReadyH.nil))
                  · skip
                    go_simp
                    refine hK.out _ _ hS (fun hHeld => ?_)
                    clear hK K
                    (try simp only [List.getElem_toArray, List.getElem_cons_succ, List.getElem_cons_zero, Act.put, List.setIfInBounds_toArray, List.set_cons_zero, List.set_cons_succ])
                    refine wpAnyH_ready (rs := [14]) (by kernel_rfl) (by simp) (AllReadyH.cons rfl (fun K hK => ?_) AllReadyH.nil)
                    · skip
                      go_simp
                      refine hK.out _ _ hS (fun hHeld => ?_)
                      clear hK K
                      (try simp only [List.getElem_toArray, List.getElem_cons_succ, List.getElem_cons_zero, Act.put, List.setIfInBounds_toArray, List.set_cons_zero, List.set_cons_succ])
                      refine wpAnyH_ready (rs := [15]) (by kernel_rfl) (by simp) (AllReadyH.cons rfl (fun K hK => ?_) AllReadyH.nil)
                      · skip
                        go_simp
                        refine (HWi.out _).mono ?_
                        rintro e wz ⟨rfl, hbz⟩
                        have hB := below_step hB hbz (Nat.le_refl wj.heap.size)
                        obtain ⟨d0, d1, d2, e0, e1, e2⟩ := RS.out _ hB
                        have hS := HKe.out _ ((hBi2.out).trans (hB.mono (Nat.le_of_lt lO)))
                        go_wp2_with fail
                        refine hK.out _ _ hS (fun hHeld => ?_)
                        clear hK K
                        (try simp only [List.getElem_toArray, List.getElem_cons_succ, List.getElem_cons_zero, Act.put, List.setIfInBounds_toArray, List.set_cons_zero, List.set_cons_succ])
                        refine wpAnyH_take (i := 16) (v := ?_) rfl (by kernel_rfl) (by kernel_rfl) (by kernel_rfl) (fun _ _ _ h => h) (Or.inl ⟨by rfl, ?_⟩) (by assumption) ?_
                        rotate_left
                        · intro w hSw
                          (try dsimp only at hSw)
                          go_simp
                          first | done | with_reducible rfl
                        (try simp only [List.getElem_toArray, List.getElem_cons_succ, List.getElem_cons_zero, Act.put, List.setIfInBounds_toArray, List.set_cons_zero, List.set_cons_succ])
                        refine wpAnyH_ready (rs := [17]) (by kernel_rfl) (by simp) (AllReadyH.cons rfl (fun K hK => ?_) AllReadyH.nil)
                        · skip
                          go_simp
                          refine hK.out _ _ (HKe.out _ (below3h (g := w.heap.size + 1) ((hBi2.out).trans (hB.mono (Nat.le_of_lt lO))) (Nat.le_refl _) _ _ _)) (fun hHeld => ?_)
                          clear hK K
                          (try simp only [List.getElem_toArray, List.getElem_cons_succ, List.getElem_cons_zero, Act.put, List.setIfInBounds_toArray, List.set_cons_zero, List.set_cons_succ])
                          refine wpAnyH_done (by kernel_rfl) ?_ _
                          have Hn4 := hide (show axMix ⟨(o1, o2, o3), (o4, o5, o6)⟩ ⟨(y1, y2, y3), (y4, y5, y6)⟩ (k + 1) = ⟨(t1, t2, t3), (T1, T2, T3)⟩ by rw [axMix, hu.out, Ht.out, HT.out])
                          have hO3 := hide (blk3h (KO.out.below hB lO) (.int .i64 T1) (.int .i64 T2) (.int .i64 T3))
                          have hBi3 := hide (below3h (g := w.heap.size + 1) (hBi2.out.trans (hB.mono (Nat.le_of_lt lO))) (Nat.le_refl _) (.int .i64 T1) (.int .i64 T2) (.int .i64 T3))
                          go_wp2_with fail
                          go_roundw
                          case rel => exact ⟨k + 1, by omega, by go_num, ⟨t1, t2, t3, T1, T2, T3, Hn4, hO3⟩, hBi3⟩
                          case measure => simp [intOf]; omega
                  · skip
                    go_simp
                    refine hK.out _ _ hS (fun hHeld => ?_)
                    clear hK K
                    (try simp only [List.getElem_toArray, List.getElem_cons_succ, List.getElem_cons_zero, Act.put, List.setIfInBounds_toArray, List.set_cons_zero, List.set_cons_succ])
                    refine wpAnyH_ready (rs := [1]) (by kernel_rfl) (by simp) (AllReadyH.cons rfl (fun K hK => ?_) AllReadyH.nil)
                    · skip
                      go_simp
                      refine hK.out _ _ hS (fun hHeld => ?_)
                      clear hK K
                      (try simp only [List.getElem_toArray, List.getElem_cons_succ, List.getElem_cons_zero, Act.put, List.setIfInBounds_toArray, List.set_cons_zero, List.set_cons_succ])
                      refine wpAnyH_ready (rs := [15]) (by kernel_rfl) (by simp) (AllReadyH.cons rfl (fun K hK => ?_) AllReadyH.nil)
                      · skip
                        go_simp
                        refine (HWi.out _).mono ?_
                        rintro e wz ⟨rfl, hbz⟩
                        have hB := below_step hB hbz (Nat.le_refl wj.heap.size)
                        obtain ⟨d0, d1, d2, e0, e1, e2⟩ := RS.out _ hB
                        have hS := HKe.out _ ((hBi2.out).trans (hB.mono (Nat.le_of_lt lO)))
                        go_wp2_with fail
                        refine hK.out _ _ hS (fun hHeld => ?_)
                        clear hK K
                        (try simp only [List.getElem_toArray, List.getElem_cons_succ, List.getElem_cons_zero, Act.put, List.setIfInBounds_toArray, List.set_cons_zero, List.set_cons_succ])
                        refine wpAnyH_take (i := 16) (v := ?_) rfl (by kernel_rfl) (by kernel_rfl) (by kernel_rfl) (fun _ _ _ h => h) (Or.inl ⟨by rfl, ?_⟩) (by assumption) ?_
                        rotate_left
                        · intro w hSw
                          (try dsimp only at hSw)
                          go_simp
                          first | done | with_reducible rfl
                        (try simp only [List.getElem_toArray, List.getElem_cons_succ, List.getElem_cons_zero, Act.put, List.setIfInBounds_toArray, List.set_cons_zero, List.set_cons_succ])
                        refine wpAnyH_ready (rs := [17]) (by kernel_rfl) (by simp) (AllReadyH.cons rfl (fun K hK => ?_) AllReadyH.nil)
                        · skip
                          go_simp
                          refine hK.out _ _ (HKe.out _ (below3h (g := w.heap.size + 1) ((hBi2.out).trans (hB.mono (Nat.le_of_lt lO))) (Nat.le_refl _) _ _ _)) (fun hHeld => ?_)
                          clear hK K
                          (try simp only [List.getElem_toArray, List.getElem_cons_succ, List.getElem_cons_zero, Act.put, List.setIfInBounds_toArray, List.set_cons_zero, List.set_cons_succ])
                          refine wpAnyH_done (by kernel_rfl) ?_ _
                          have Hn4 := hide (show axMix ⟨(o1, o2, o3), (o4, o5, o6)⟩ ⟨(y1, y2, y3), (y4, y5, y6)⟩ (k + 1) = ⟨(t1, t2, t3), (T1, T2, T3)⟩ by rw [axMix, hu.out, Ht.out, HT.out])
                          have hO3 := hide (blk3h (KO.out.below hB lO) (.int .i64 T1) (.int .i64 T2) (.int .i64 T3))
                          have hBi3 := hide (below3h (g := w.heap.size + 1) (hBi2.out.trans (hB.mono (Nat.le_of_lt lO))) (Nat.le_refl _) (.int .i64 T1) (.int .i64 T2) (.int .i64 T3))
                          go_wp2_with fail
                          go_roundw
                          case rel => exact ⟨k + 1, by omega, by go_num, ⟨t1, t2, t3, T1, T2, T3, Hn4, hO3⟩, hBi3⟩
                          case measure => simp [intOf]; omega
        · obtain rfl : k = 3 := by omega
          go_wp2_with fail
          go_roundw
          case rel => exact ⟨i + 1, by omega, by omega, by go_num, ⟨u1, u2, u3, u4, u5, u6, hide (Hnx.out.trans hu.out), hO⟩, hBi⟩
          case measure => simp [intOf]; omega
    · obtain rfl : i = n := by omega
      have hfull := hide (show hullOf l = ⟨(o1, o2, o3), (o4, o5, o6)⟩ by
        rw [hr0.out, ← hq.out, List.take_of_length_le (by rw [List.length_drop, ← Hn.out]; exact Nat.le_refl _)])
      have kr := KR.out.below hBo.out (Nat.lt_succ_self _)
      have ko := hO.out
      have d0 := ko.cell 0
      have d1 := ko.cell 1
      have d2 := ko.cell 2
      have d3 := ko.cell 3
      have d4 := ko.cell 4
      have d5 := ko.cell 5
      have e0 := kr.cell 0
      have e1 := kr.cell 1
      have e2 := kr.cell 2
      have e3 := kr.cell 3
      have e4 := kr.cell 4
      have e5 := kr.cell 5
      have g0 := kr.frozen 0
      have g1 := kr.frozen 1
      have g2 := kr.frozen 2
      have g3 := kr.frozen 3
      have g4 := kr.frozen 4
      have g5 := kr.frozen 5
      simp at d0 d1 d2 d3 d4 d5 e0 e1 e2 e3 e4 e5
      have lk := kr.lt
      have lo := ko.lt
      have Kr := hide kr
      have HF := hide (HW1.out.trans (hBo.out.mono (Nat.le_succ _)))
      clear kr ko KR
      go_wp2_with fail
      refine bodyPost_ret (results_c rfl rfl ((((((Kr.out.set_ 0 _).set_ 1 _).set_ 2 _).set_ 3 _).set_ 4 _).set_ 5 _) Tryz.underlying63 rfl (by kernel_rfl)) rfl ?_
      refine ⟨?_, (((((HF.out.setCell (p := ⟨w.heap.size, 0, none⟩) (Nat.le_refl _) _).setCell (p := ⟨w.heap.size, 1, none⟩) (Nat.le_refl _) _).setCell (p := ⟨w.heap.size, 2, none⟩) (Nat.le_refl _) _).setCell (p := ⟨w.heap.size, 3, none⟩) (Nat.le_refl _) _).setCell (p := ⟨w.heap.size, 4, none⟩) (Nat.le_refl _) _).setCell (p := ⟨w.heap.size, 5, none⟩) (Nat.le_refl _) _⟩
      simp only [List.setIfInBounds_toArray, List.set_cons_zero, List.set_cons_succ]
      rw [hfull.out]
end Go.Proofs.YtmcjpdlkkpnhfaaGreat
