/- The reference's copy of a solid: 17.Copy. -/
import Derived.Test.YtpaanfjjnjjoeaaGreatRCpyS
namespace Go.Proofs.YtpaanfjjnjjoeaaGreat
open Go.RowKit
section
variable {P : Program} {ops : Array Oper} {Q : Exit → Act → World → Prop} {md : Region.Mode} {S : World → Prop} {n : Nat}
theorem HeldTo.two {i j : Nat} {oi oj : Oper} {fuel : Nat} {listed : Array Bool} {a : Act} {w : World} (hr : Region.ready md ops listed = [i, j]) (hi : ops[i]? = some oi) (hj : ops[j]? = some oj)
  (h : ∀ K' : Act → World → Prop, Shut (∀ a w, (i < n → S w) → (S w ∨ n ≤ i → HeldTo P md ops Q S n fuel (listed.setIfInBounds i true) a w) → K' a w) → if Region.wanted oi (yielded ops a.tmps) = true then Oper.wp P oi a w K' Q else K' (a.put oi.dst undef) w)
  (h' : ∀ K' : Act → World → Prop, Shut (∀ a w, (j < n → S w) → (S w ∨ n ≤ j → HeldTo P md ops Q S n fuel (listed.setIfInBounds j true) a w) → K' a w) → if Region.wanted oj (yielded ops a.tmps) = true then Oper.wp P oj a w K' Q else K' (a.put oj.dst undef) w) :
  HeldTo P md ops Q S n (fuel + 1) listed a w := by
 refine ⟨fun h0 => (by rw [h0] at hr; cases hr), fun k hk => ?_⟩
 rw [hr] at hk
 rcases List.mem_cons.1 hk with rfl | hk
 ·refine wpOp_step hi (fun K' hK => h K' (fun a w hS hW => hK a w ⟨hS, hW ?_⟩))
  by_cases hn : k < n
  ·exact .inl (hS hn)
  ·exact .inr (by omega)
 ·rw [List.mem_singleton] at hk
  subst hk
  refine wpOp_step hj (fun K' hK => h' K' (fun a w hS hW => hK a w ⟨hS, hW ?_⟩))
  by_cases hn : k < n
  ·exact .inl (hS hn)
  ·exact .inr (by omega)
end
theorem ne_empty {α : Type} {w : World} {base size : Nat} {e : TypeId} {enc : α → List Value} {A : Option Addr} {n c : Nat} {l : List α} (h : Row w base e size enc (.slice A n c) l) (hs : 0 < size) (hl : l ≠ []) {g : Nat} {t : TypeId} (hb : Blk w g t #[]) : Apart (.slice A n c) g := by
 intro he
 rcases h.2 with ⟨hv, _⟩ | ⟨g2, cap, cur, hv, _, hh, h1, _, h3, _⟩
 ·rw [hv] at he
  cases he
 ·rw [hv] at he
  injection he with he
  simp only at he
  subst he
  have h9 := hh.symm.trans hb
  injection h9 with h9
  injection h9 with h9 _ _
  subst h9
  have hpos : 0 < l.length := by
   cases l with
   | nil => exact absurd rfl hl
   | cons _ _ => exact Nat.zero_lt_succ _
  have h4 : cap * size = 0 := by simpa using h3.symm
  rcases Nat.mul_eq_zero.1 h4 with h5 | h5 <;> omega
def Got (W : World) (lo : Nat) (A : Option Addr) (n c : Nat) (l : List BoxD) : Prop := l = [] ∨ Row W lo 62 6 encB (.slice A n c) l
theorem Got.kept {W W' : World} {lo n c : Nat} {A : Option Addr} {l : List BoxD} {row : Option Nat} (h : Got W lo A n c l) (hg : W.grownBy W' row) (hr : ∀ k, row = some k → l ≠ [] → Row W lo 62 6 encB (.slice A n c) l → Apart (.slice A n c) k) : Got W' lo A n c l := by
 rcases h with h | h
 ·exact .inl h
 ·by_cases hl : l = []
  ·exact .inl hl
  ·exact .inr (row_kept h hg (fun k hk => hr k hk hl h))
theorem row_mono {α : Type} {w : World} {lo lo' size : Nat} {e : TypeId} {enc : α → List Value} {v : Value} {l : List α} (h : Row w lo e size enc v l) (hl : lo' ≤ lo) : Row w lo' e size enc v l := by
 refine ⟨h.1, ?_⟩
 rcases h.2 with h3 | ⟨g, cap, cur, h3, h4, r⟩
 ·exact .inl h3
 ·exact .inr ⟨g, cap, cur, h3, Nat.le_trans hl h4, r⟩
theorem Got.mono {W : World} {lo lo' n c : Nat} {A : Option Addr} {l : List BoxD} (h : Got W lo A n c l) (hl : lo' ≤ lo) : Got W lo' A n c l := h.imp id (fun h => row_mono h hl)
theorem Got.read {W : World} {lo n c : Nat} {A : Option Addr} {l : List BoxD} (h : Got W lo A n c l) : BoxesAt W W.heap.size A l := by
 rcases h with h | h
 ·subst h
  exact fun h => absurd h (Nat.not_lt_zero _)
 ·exact h.read encB_len (by omega)
set_option maxHeartbeats 4000000 in
set_option maxRecDepth 100000 in
theorem ref17Copy_any (A1 A2 : Option Addr) (l1 l2 : List BoxD) (n1 n2 c1 c2 : Nat) (w : World) {B : Nat} (h1 : BoxesAt w B A1 l1) (h2 : BoxesAt w B A2 l2) (hB : B ≤ w.heap.size) (e1 : n1 = l1.length) (e2 : n2 = l2.length) (b1 : n1 ≤ 300000) (b2 : n2 ≤ 300000) :
  Calls Tryz.prog 135 #[.agg #[.slice A1 n1 c1, .slice A2 n2 c2]] w fun e w' => ∃ A1' c1' A2' c2', e = .returned (.agg #[.slice A1' n1 c1', .slice A2' n2 c2']) ∧ Got w' w.heap.size A1' n1 c1' l1 ∧ Got w' w.heap.size A2' n2 c2' l2 ∧ Below w.heap.size w w' := by
 have K0 := hide ((Blk.new w 24 #[.slice A1 n1 c1, .slice A2 n2 c2]).alloc (.cells #[.slice none 0 0, .slice none 0 0] 24))
 have K1 := hide (Blk.new1 w (.cells #[.slice A1 n1 c1, .slice A2 n2 c2] 24) 24 #[.slice none 0 0, .slice none 0 0])
 have HW := hide (below_new2 w (.cells #[.slice A1 n1 c1, .slice A2 n2 c2] 24) (.cells #[.slice none 0 0, .slice none 0 0] 24))
 obtain ⟨w2, hw2⟩ : ∃ w2, w2 = (w.alloc (.cells #[.slice A1 n1 c1, .slice A2 n2 c2] 24)).alloc (.cells #[.slice none 0 0, .slice none 0 0] 24) := ⟨_, rfl⟩
 rw [← hw2] at K0 K1 HW
 have HS1 := hide (fun (W : World) (hb : Below w.heap.size w W) => SlOf.carry (Flat.carried _) h1 (hb.mono hB) (Nat.le_refl _))
 have HS2 := hide (fun (W : World) (hb : Below w.heap.size w W) => SlOf.carry (Flat.carried _) h2 (hb.mono hB) (Nat.le_refl _))
 have H1 := hide e1
 have H2 := hide e2
 have l0 := K0.out.lt
 have l1' := K1.out.lt
 clear h1 h2 hB e1 e2
 go_enter Tryz.func135, Tryz.ntmps135
 go_upto_region 1 with fail
 rw [← hw2]
 clear hw2
 have HS := hide (show w2.drew.cell? ⟨w.heap.size, 0, none⟩ = some (.slice A1 n1 c1) ∧ w2.drew.cell? ⟨w.heap.size, 1, none⟩ = some (.slice A2 n2 c2) from ⟨K0.out.drew.cell 0, K0.out.drew.cell 1⟩)
 refine wp_region_heldTo (S := fun V => V.cell? ⟨w.heap.size, 0, none⟩ = some (.slice A1 n1 c1) ∧ V.cell? ⟨w.heap.size, 1, none⟩ = some (.slice A2 n2 c2)) (n := 9) (by kernel_rfl) ?_
 refine HeldTo.take (i := 1) (v := ?_) rfl (by kernel_rfl) (by kernel_rfl) (by kernel_rfl) (by kernel_rfl) (fun _ _ _ h => h) (Or.inl ⟨by rfl, ?_⟩) HS.out ?_
 rotate_left
 ·intro w hSw
  (try dsimp only at hSw)
  go_simp
  first | done | with_reducible rfl
 (try simp only [zzA, zzB, zzC, Act.put, zzD, zzE, zzF])
 refine HeldTo.take (i := 2) (v := ?_) rfl (by kernel_rfl) (by kernel_rfl) (by kernel_rfl) (by kernel_rfl) (fun _ _ _ h => h) (Or.inl ⟨by rfl, ?_⟩) HS.out ?_
 rotate_left
 ·intro w hSw
  (try dsimp only at hSw)
  go_simp
  first | done | with_reducible rfl
 (try simp only [zzA, zzB, zzC, Act.put, zzD, zzE, zzF])
 refine HeldTo.take (i := 5) (v := ?_) rfl (by kernel_rfl) (by kernel_rfl) (by kernel_rfl) (by kernel_rfl) (fun _ _ _ h => h) (Or.inl ⟨by rfl, ?_⟩) HS.out ?_
 rotate_left
 ·intro w hSw
  (try dsimp only at hSw)
  go_simp
  first | done | with_reducible rfl
 (try simp only [zzA, zzB, zzC, Act.put, zzD, zzE, zzF])
 refine HeldTo.take (i := 6) (v := ?_) rfl (by kernel_rfl) (by kernel_rfl) (by kernel_rfl) (by kernel_rfl) (fun _ _ _ h => h) (Or.inl ⟨by rfl, ?_⟩) HS.out ?_
 rotate_left
 ·intro w hSw
  (try dsimp only at hSw)
  go_simp
  first | done | with_reducible rfl
 (try simp only [zzA, zzB, zzC, Act.put, zzD, zzE, zzF])
 have K0d := hide K0.out.drew
 have K1d := hide K1.out.drew
 have HWd := hide (Below.drew HW.out)
 have hszd : w.heap.size + 2 ≤ w2.drew.heap.size := by
  show w.heap.size + 2 ≤ w2.heap.size
  omega
 clear K0 K1 HW l0 l1'
 generalize w2.drew = wd at *
 refine HeldTo.two (i := 0) (j := 4) (by kernel_rfl) rfl rfl (fun K hK => ?_) (fun K hK => ?_)
 ·have HSN := hide (And.intro ((K0d.out.alloc (.cells #[] 62)).cell 0) ((K0d.out.alloc (.cells #[] 62)).cell 1))
  go_simp
  refine hK.out _ _ (fun _ => HSN.out) (fun h8 => ?_)
  clear h8 hK K
  (try simp only [zzA, zzB, zzC, Act.put, zzD, zzE, zzF])
  refine HeldTo.two (i := 3) (j := 4) (by kernel_rfl) rfl rfl (fun K hK => ?_) (fun K hK => ?_)
  ·have hrF0 : Row (wd.alloc (.cells #[] 62)) (w.heap.size + 2) 62 6 encB (.slice (some ⟨wd.heap.size, 0, none⟩) 0 0) [] := World.ownsRow_made wd #[] 0 hszd (Nat.zero_le _) (by simp)
   have HRa := hide hrF0
   have HWa := hide (HWd.out.alloc HWd.out.size (.cells #[] 62))
   clear hrF0 HSN
   refine step_appendG rfl (.tmp 3) (.tmp 5) 22 rfl (w.heap.size + 2) 62 (.agg #[.int .i64 0, .int .i64 0, .int .i64 0, .int .i64 0, .int .i64 0, .int .i64 0]) 6 48 encB Tryz.underlying22 (by kernel_rfl) rfl (by omega) encB_len encB_one _ [] l1 rfl HRa.out A1 n1 c1 rfl H1.out (HS1.out _ HWa.out) (by simp) (by rw [← H1.out]; omega) (by omega) (by simp; omega) ?_
   intro A5 c5 w4 hrow hb hg
   rw [show ([] : List BoxD).length + n1 = n1 from Nat.zero_add n1] at hrow ⊢
   have hz5 : wd.heap.size + 1 ≤ w4.heap.size := by
    have h9 := hb.size
    simp at h9
    omega
   have K04 := hide ((K0d.out.alloc (.cells #[] 62)).grown hg (show some w.heap.size ≠ some wd.heap.size from fun h9 => by have := Option.some.inj h9; omega))
   have K05 := hide (K04.out.alloc (.cells #[] 62))
   have K15 := hide (((K1d.out.alloc (.cells #[] 62)).grown hg (show some (w.heap.size + 1) ≠ some wd.heap.size from fun h9 => by have := Option.some.inj h9; omega)).alloc (.cells #[] 62))
   have E25 := hide (Blk.new w4 62 #[])
   have hr25 : Row (w4.alloc (.cells #[] 62)) (w.heap.size + 2) 62 6 encB (.slice (some ⟨w4.heap.size, 0, none⟩) 0 0) [] := World.ownsRow_made w4 #[] 0 (by omega) (Nat.zero_le _) (by simp)
   have HR25 := hide hr25
   have hw4 := HWa.out.trans (hb.mono (by omega))
   have HW5 := hide (hw4.alloc hw4.size (.cells #[] 62))
   have G15 := hide (Got.kept (show Got w4 (w.heap.size + 2) A5 n1 c5 l1 from .inr hrow) (grown_below (below_new w4 (.cells #[] 62)) none) (fun k hk => by cases hk))
   refine hK.out _ _ (fun _ => ⟨K04.out.cell 0, K04.out.cell 1⟩) (fun h8 => ?_)
   clear h8 hK K
   (try simp only [zzA, zzB, zzC, Act.put, zzD, zzE, zzF])
   clear hrow hb hg HRa HWa hr25 hw4
   refine HeldTo.one (i := 4) (by kernel_rfl) rfl (fun K hK => ?_)
   have HSN := hide (And.intro (K05.out.cell 0) (K05.out.cell 1))
   go_simp
   refine hK.out _ _ (fun _ => HSN.out) (fun h8 => ?_)
   clear h8 hK K
   (try simp only [zzA, zzB, zzC, Act.put, zzD, zzE, zzF])
   clear HSN K04
   refine HeldTo.one (i := 7) (by kernel_rfl) rfl (fun K hK => ?_)
   refine step_appendG rfl (.tmp 7) (.tmp 9) 22 rfl (w.heap.size + 2) 62 (.agg #[.int .i64 0, .int .i64 0, .int .i64 0, .int .i64 0, .int .i64 0, .int .i64 0]) 6 48 encB Tryz.underlying22 (by kernel_rfl) rfl (by omega) encB_len encB_one _ [] l2 rfl HR25.out A2 n2 c2 rfl H2.out (HS2.out _ HW5.out) (by simp) (by rw [← H2.out]; omega) (by omega) (by simp; omega) ?_
   intro A7 c7 w7 hrow hb hg
   rw [show ([] : List BoxD).length + n2 = n2 from Nat.zero_add n2] at hrow ⊢
   have K07 := hide (K05.out.grown hg (show some w.heap.size ≠ some (w4.heap.size) from fun h9 => by have := Option.some.inj h9; omega))
   have K17 := hide (K15.out.grown hg (show some (w.heap.size + 1) ≠ some (w4.heap.size) from fun h9 => by have := Option.some.inj h9; omega))
   have HW7 := hide (HW5.out.trans (hb.mono (by omega)))
   have G1 := hide (G15.out.kept hg (fun k hk hl hr => by
    have h1 : some (w4.heap.size) = some k := hk
    injection h1 with h1
    rw [← h1]
    exact ne_empty hr (by omega) hl E25.out))
   have G2 := hide (show Got w7 (w.heap.size + 2) A7 n2 c7 l2 from .inr hrow)
   refine hK.out _ _ (fun _ => ⟨K07.out.cell 0, K07.out.cell 1⟩) (fun h8 => ?_)
   clear h8 hK K
   (try simp only [zzA, zzB, zzC, Act.put, zzD, zzE, zzF])
   clear hrow hb hg K05 K15 E25 HR25 HW5 G15
   refine HeldTo.one (i := 8) (by kernel_rfl) rfl (fun K hK => ?_)
   go_simp
   refine hK.out _ _ (fun _ => ⟨K07.out.cell 0, K07.out.cell 1⟩) (fun h8 => ?_)
   clear h8 hK K
   (try simp only [zzA, zzB, zzC, Act.put, zzD, zzE, zzF])
   have q0 := K17.out.cell 0
   have q1 := (K17.out.set_ 0 (.slice A5 n1 c5)).cell 1
   have q2 := K17.out.frozen 0
   have q3 := (K17.out.set_ 0 (.slice A5 n1 c5)).frozen 1
   simp at q0 q1
   refine HeldTo.one (i := 9) (by kernel_rfl) rfl (fun K hK => ?_)
   go_simp
   refine hK.out _ _ (fun h9 => absurd h9 (by omega)) (fun h8 => HeldTo.done (by kernel_rfl) ?_ _)
   clear h8 hK K q0 q1 q2 q3
   have k9 := (K17.out.set_ 0 (.slice A5 n1 c5)).set_ 1 (.slice A7 n2 c7)
   have hg9 := (grown_set w7 (w.heap.size + 1) 0 (.slice A5 n1 c5)).trans (grown_set (w7.setCell ⟨w.heap.size + 1, 0, none⟩ (.slice A5 n1 c5)) (w.heap.size + 1) 1 (.slice A7 n2 c7))
   have hw9 := (HW7.out.setCell (p := ⟨w.heap.size + 1, 0, none⟩) (show w.heap.size ≤ w.heap.size + 1 by omega) (.slice A5 n1 c5)).setCell (p := ⟨w.heap.size + 1, 1, none⟩) (show w.heap.size ≤ w.heap.size + 1 by omega) (.slice A7 n2 c7)
   have r1 := (G1.out.kept hg9 (fun k hk _ hr => by
    injection hk with hk
    exact row_base hr (by omega))).mono (show w.heap.size ≤ w.heap.size + 2 by omega)
   have r2 := (G2.out.kept hg9 (fun k hk _ hr => by
    injection hk with hk
    exact row_base hr (by omega))).mono (show w.heap.size ≤ w.heap.size + 2 by omega)
   generalize World.setCell (w7.setCell ⟨w.heap.size + 1, 0, none⟩ (.slice A5 n1 c5)) ⟨w.heap.size + 1, 1, none⟩ (.slice A7 n2 c7) = w9 at *
   have K9 := hide (show Blk w9 (w.heap.size + 1) 24 #[.slice A5 n1 c5, .slice A7 n2 c7] from k9)
   have Hres := hide (And.intro r1 (And.intro r2 hw9))
   clear k9 hg9 hw9 r1 r2 G1 G2 K07 K17 HW7
   have q0 := K9.out.cell 0
   have q1 := K9.out.cell 1
   simp at q0 q1
   go_wp2_with fail
   refine bodyPost_ret (results_c rfl rfl K9.out Tryz.underlying24 rfl (by kernel_rfl)) rfl ?_
   exact ⟨A5, c5, A7, c7, rfl, Hres.out.1, Hres.out.2.1, Hres.out.2.2⟩
  ·have KB0 := hide ((K0d.out.alloc (.cells #[] 62)).alloc (.cells #[] 62))
   have KB1 := hide ((K1d.out.alloc (.cells #[] 62)).alloc (.cells #[] 62))
   have HWb := hide ((HWd.out.alloc HWd.out.size (.cells #[] 62)).alloc (by have := HWd.out.size; simp; omega) (.cells #[] 62))
   have hs1 : (wd.alloc (.cells #[] 62)).heap.size = wd.heap.size + 1 := by simp
   have hrF0 : Row (wd.alloc (.cells #[] 62)) (w.heap.size + 2) 62 6 encB (.slice (some ⟨wd.heap.size, 0, none⟩) 0 0) [] := World.ownsRow_made wd #[] 0 hszd (Nat.zero_le _) (by simp)
   have hrF := hrF0.alloc (.cells #[] 62)
   have hrS : Row ((wd.alloc (.cells #[] 62)).alloc (.cells #[] 62)) (w.heap.size + 2) 62 6 encB (.slice (some ⟨(wd.alloc (.cells #[] 62)).heap.size, 0, none⟩) 0 0) [] := World.ownsRow_made (wd.alloc (.cells #[] 62)) #[] 0 (by rw [hs1]; omega) (Nat.zero_le _) (by simp)
   rw [hs1] at hrS
   have eF := (Blk.new wd 62 #[]).alloc (.cells #[] 62)
   have eS := Blk.new1 wd (.cells #[] 62) 62 #[]
   clear hs1 hrF0
   have HSN := hide (And.intro (KB0.out.cell 0) (KB0.out.cell 1))
   go_simp
   refine hK.out _ _ (fun _ => HSN.out) (fun h8 => ?_)
   clear h8 hK K
   (try simp only [zzA, zzB, zzC, Act.put, zzD, zzE, zzF])
   have HRa := hide hrF
   have HRb := hide hrS
   have EB := hide eS
   clear hrF hrS eF eS HSN
   refine HeldTo.one (i := 3) (by kernel_rfl) rfl (fun K hK => ?_)
   refine step_appendG rfl (.tmp 3) (.tmp 5) 22 rfl (w.heap.size + 2) 62 (.agg #[.int .i64 0, .int .i64 0, .int .i64 0, .int .i64 0, .int .i64 0, .int .i64 0]) 6 48 encB Tryz.underlying22 (by kernel_rfl) rfl (by omega) encB_len encB_one _ [] l1 rfl HRa.out A1 n1 c1 rfl H1.out (HS1.out _ HWb.out) (by simp) (by rw [← H1.out]; omega) (by omega) (by simp; omega) ?_
   intro A5 c5 w5 hrow hb hg
   rw [show ([] : List BoxD).length + n1 = n1 from Nat.zero_add n1] at hrow ⊢
   have K05 := hide (KB0.out.grown hg (show some w.heap.size ≠ some (wd.heap.size) from fun h9 => by have := Option.some.inj h9; omega))
   have K15 := hide (KB1.out.grown hg (show some (w.heap.size + 1) ≠ some (wd.heap.size) from fun h9 => by have := Option.some.inj h9; omega))
   have E25 := hide (EB.out.grown hg (show some (wd.heap.size + 1) ≠ some (wd.heap.size) from fun h9 => by have := Option.some.inj h9; omega))
   have HR25 := hide (row_kept HRb.out hg (fun k hk he => by
    have h1 : some (wd.heap.size) = some k := hk
    have h2 : some (wd.heap.size + 1) = some k := he
    rw [← h1] at h2
    have := Option.some.inj h2
    omega))
   have HW5 := hide (HWb.out.trans (hb.mono (by omega)))
   have G15 := hide (show Got w5 (w.heap.size + 2) A5 n1 c5 l1 from .inr hrow)
   have hz5 : wd.heap.size + 2 ≤ w5.heap.size := by
    have h9 := hb.size
    simp at h9
    omega
   refine hK.out _ _ (fun _ => ⟨K05.out.cell 0, K05.out.cell 1⟩) (fun h8 => ?_)
   clear h8 hK K
   (try simp only [zzA, zzB, zzC, Act.put, zzD, zzE, zzF])
   clear hrow hb hg KB0 KB1 HRa HRb EB HWb
   refine HeldTo.one (i := 7) (by kernel_rfl) rfl (fun K hK => ?_)
   refine step_appendG rfl (.tmp 7) (.tmp 9) 22 rfl (w.heap.size + 2) 62 (.agg #[.int .i64 0, .int .i64 0, .int .i64 0, .int .i64 0, .int .i64 0, .int .i64 0]) 6 48 encB Tryz.underlying22 (by kernel_rfl) rfl (by omega) encB_len encB_one _ [] l2 rfl HR25.out A2 n2 c2 rfl H2.out (HS2.out _ HW5.out) (by simp) (by rw [← H2.out]; omega) (by omega) (by omega) ?_
   intro A7 c7 w7 hrow hb hg
   rw [show ([] : List BoxD).length + n2 = n2 from Nat.zero_add n2] at hrow ⊢
   have K07 := hide (K05.out.grown hg (show some w.heap.size ≠ some (wd.heap.size + 1) from fun h9 => by have := Option.some.inj h9; omega))
   have K17 := hide (K15.out.grown hg (show some (w.heap.size + 1) ≠ some (wd.heap.size + 1) from fun h9 => by have := Option.some.inj h9; omega))
   have HW7 := hide (HW5.out.trans (hb.mono (by omega)))
   have G1 := hide (G15.out.kept hg (fun k hk hl hr => by
    have h1 : some (wd.heap.size + 1) = some k := hk
    injection h1 with h1
    rw [← h1]
    exact ne_empty hr (by omega) hl E25.out))
   have G2 := hide (show Got w7 (w.heap.size + 2) A7 n2 c7 l2 from .inr hrow)
   refine hK.out _ _ (fun _ => ⟨K07.out.cell 0, K07.out.cell 1⟩) (fun h8 => ?_)
   clear h8 hK K
   (try simp only [zzA, zzB, zzC, Act.put, zzD, zzE, zzF])
   clear hrow hb hg K05 K15 E25 HR25 HW5 G15
   refine HeldTo.one (i := 8) (by kernel_rfl) rfl (fun K hK => ?_)
   go_simp
   refine hK.out _ _ (fun _ => ⟨K07.out.cell 0, K07.out.cell 1⟩) (fun h8 => ?_)
   clear h8 hK K
   (try simp only [zzA, zzB, zzC, Act.put, zzD, zzE, zzF])
   have q0 := K17.out.cell 0
   have q1 := (K17.out.set_ 0 (.slice A5 n1 c5)).cell 1
   have q2 := K17.out.frozen 0
   have q3 := (K17.out.set_ 0 (.slice A5 n1 c5)).frozen 1
   simp at q0 q1
   refine HeldTo.one (i := 9) (by kernel_rfl) rfl (fun K hK => ?_)
   go_simp
   refine hK.out _ _ (fun h9 => absurd h9 (by omega)) (fun h8 => HeldTo.done (by kernel_rfl) ?_ _)
   clear h8 hK K q0 q1 q2 q3
   have k9 := (K17.out.set_ 0 (.slice A5 n1 c5)).set_ 1 (.slice A7 n2 c7)
   have hg9 := (grown_set w7 (w.heap.size + 1) 0 (.slice A5 n1 c5)).trans (grown_set (w7.setCell ⟨w.heap.size + 1, 0, none⟩ (.slice A5 n1 c5)) (w.heap.size + 1) 1 (.slice A7 n2 c7))
   have hw9 := (HW7.out.setCell (p := ⟨w.heap.size + 1, 0, none⟩) (show w.heap.size ≤ w.heap.size + 1 by omega) (.slice A5 n1 c5)).setCell (p := ⟨w.heap.size + 1, 1, none⟩) (show w.heap.size ≤ w.heap.size + 1 by omega) (.slice A7 n2 c7)
   have r1 := (G1.out.kept hg9 (fun k hk _ hr => by
    injection hk with hk
    exact row_base hr (by omega))).mono (show w.heap.size ≤ w.heap.size + 2 by omega)
   have r2 := (G2.out.kept hg9 (fun k hk _ hr => by
    injection hk with hk
    exact row_base hr (by omega))).mono (show w.heap.size ≤ w.heap.size + 2 by omega)
   generalize World.setCell (w7.setCell ⟨w.heap.size + 1, 0, none⟩ (.slice A5 n1 c5)) ⟨w.heap.size + 1, 1, none⟩ (.slice A7 n2 c7) = w9 at *
   have K9 := hide (show Blk w9 (w.heap.size + 1) 24 #[.slice A5 n1 c5, .slice A7 n2 c7] from k9)
   have Hres := hide (And.intro r1 (And.intro r2 hw9))
   clear k9 hg9 hw9 r1 r2 G1 G2 K07 K17 HW7
   have q0 := K9.out.cell 0
   have q1 := K9.out.cell 1
   simp at q0 q1
   go_wp2_with fail
   refine bodyPost_ret (results_c rfl rfl K9.out Tryz.underlying24 rfl (by kernel_rfl)) rfl ?_
   exact ⟨A5, c5, A7, c7, rfl, Hres.out.1, Hres.out.2.1, Hres.out.2.2⟩
 ·have HSN := hide (And.intro ((K0d.out.alloc (.cells #[] 62)).cell 0) ((K0d.out.alloc (.cells #[] 62)).cell 1))
  go_simp
  refine hK.out _ _ (fun _ => HSN.out) (fun h8 => ?_)
  clear h8 hK K
  (try simp only [zzA, zzB, zzC, Act.put, zzD, zzE, zzF])
  refine HeldTo.one (i := 0) (by kernel_rfl) rfl (fun K hK => ?_)
  have KB0 := hide ((K0d.out.alloc (.cells #[] 62)).alloc (.cells #[] 62))
  have KB1 := hide ((K1d.out.alloc (.cells #[] 62)).alloc (.cells #[] 62))
  have HWb := hide ((HWd.out.alloc HWd.out.size (.cells #[] 62)).alloc (by have := HWd.out.size; simp; omega) (.cells #[] 62))
  have hs1 : (wd.alloc (.cells #[] 62)).heap.size = wd.heap.size + 1 := by simp
  have hrF0 : Row (wd.alloc (.cells #[] 62)) (w.heap.size + 2) 62 6 encB (.slice (some ⟨wd.heap.size, 0, none⟩) 0 0) [] := World.ownsRow_made wd #[] 0 hszd (Nat.zero_le _) (by simp)
  have hrF := hrF0.alloc (.cells #[] 62)
  have hrS : Row ((wd.alloc (.cells #[] 62)).alloc (.cells #[] 62)) (w.heap.size + 2) 62 6 encB (.slice (some ⟨(wd.alloc (.cells #[] 62)).heap.size, 0, none⟩) 0 0) [] := World.ownsRow_made (wd.alloc (.cells #[] 62)) #[] 0 (by rw [hs1]; omega) (Nat.zero_le _) (by simp)
  rw [hs1] at hrS
  have eF := (Blk.new wd 62 #[]).alloc (.cells #[] 62)
  have eS := Blk.new1 wd (.cells #[] 62) 62 #[]
  clear hs1 hrF0
  have HSN := hide (And.intro (KB0.out.cell 0) (KB0.out.cell 1))
  go_simp
  refine hK.out _ _ (fun _ => HSN.out) (fun h8 => ?_)
  clear h8 hK K
  (try simp only [zzA, zzB, zzC, Act.put, zzD, zzE, zzF])
  have HRa := hide hrS
  have HRb := hide hrF
  have EB := hide eF
  clear hrF hrS eF eS HSN
  refine HeldTo.one (i := 3) (by kernel_rfl) rfl (fun K hK => ?_)
  refine step_appendG rfl (.tmp 3) (.tmp 5) 22 rfl (w.heap.size + 2) 62 (.agg #[.int .i64 0, .int .i64 0, .int .i64 0, .int .i64 0, .int .i64 0, .int .i64 0]) 6 48 encB Tryz.underlying22 (by kernel_rfl) rfl (by omega) encB_len encB_one _ [] l1 rfl HRa.out A1 n1 c1 rfl H1.out (HS1.out _ HWb.out) (by simp) (by rw [← H1.out]; omega) (by omega) (by simp; omega) ?_
  intro A5 c5 w5 hrow hb hg
  rw [show ([] : List BoxD).length + n1 = n1 from Nat.zero_add n1] at hrow ⊢
  have K05 := hide (KB0.out.grown hg (show some w.heap.size ≠ some (wd.heap.size + 1) from fun h9 => by have := Option.some.inj h9; omega))
  have K15 := hide (KB1.out.grown hg (show some (w.heap.size + 1) ≠ some (wd.heap.size + 1) from fun h9 => by have := Option.some.inj h9; omega))
  have E25 := hide (EB.out.grown hg (show some (wd.heap.size) ≠ some (wd.heap.size + 1) from fun h9 => by have := Option.some.inj h9; omega))
  have HR25 := hide (row_kept HRb.out hg (fun k hk he => by
   have h1 : some (wd.heap.size + 1) = some k := hk
   have h2 : some (wd.heap.size) = some k := he
   rw [← h1] at h2
   have := Option.some.inj h2
   omega))
  have HW5 := hide (HWb.out.trans (hb.mono (by omega)))
  have G15 := hide (show Got w5 (w.heap.size + 2) A5 n1 c5 l1 from .inr hrow)
  have hz5 : wd.heap.size + 2 ≤ w5.heap.size := by
   have h9 := hb.size
   simp at h9
   omega
  refine hK.out _ _ (fun _ => ⟨K05.out.cell 0, K05.out.cell 1⟩) (fun h8 => ?_)
  clear h8 hK K
  (try simp only [zzA, zzB, zzC, Act.put, zzD, zzE, zzF])
  clear hrow hb hg KB0 KB1 HRa HRb EB HWb
  refine HeldTo.one (i := 7) (by kernel_rfl) rfl (fun K hK => ?_)
  refine step_appendG rfl (.tmp 7) (.tmp 9) 22 rfl (w.heap.size + 2) 62 (.agg #[.int .i64 0, .int .i64 0, .int .i64 0, .int .i64 0, .int .i64 0, .int .i64 0]) 6 48 encB Tryz.underlying22 (by kernel_rfl) rfl (by omega) encB_len encB_one _ [] l2 rfl HR25.out A2 n2 c2 rfl H2.out (HS2.out _ HW5.out) (by simp) (by rw [← H2.out]; omega) (by omega) (by omega) ?_
  intro A7 c7 w7 hrow hb hg
  rw [show ([] : List BoxD).length + n2 = n2 from Nat.zero_add n2] at hrow ⊢
  have K07 := hide (K05.out.grown hg (show some w.heap.size ≠ some (wd.heap.size) from fun h9 => by have := Option.some.inj h9; omega))
  have K17 := hide (K15.out.grown hg (show some (w.heap.size + 1) ≠ some (wd.heap.size) from fun h9 => by have := Option.some.inj h9; omega))
  have HW7 := hide (HW5.out.trans (hb.mono (by omega)))
  have G1 := hide (G15.out.kept hg (fun k hk hl hr => by
   have h1 : some (wd.heap.size) = some k := hk
   injection h1 with h1
   rw [← h1]
   exact ne_empty hr (by omega) hl E25.out))
  have G2 := hide (show Got w7 (w.heap.size + 2) A7 n2 c7 l2 from .inr hrow)
  refine hK.out _ _ (fun _ => ⟨K07.out.cell 0, K07.out.cell 1⟩) (fun h8 => ?_)
  clear h8 hK K
  (try simp only [zzA, zzB, zzC, Act.put, zzD, zzE, zzF])
  clear hrow hb hg K05 K15 E25 HR25 HW5 G15
  refine HeldTo.one (i := 8) (by kernel_rfl) rfl (fun K hK => ?_)
  go_simp
  refine hK.out _ _ (fun _ => ⟨K07.out.cell 0, K07.out.cell 1⟩) (fun h8 => ?_)
  clear h8 hK K
  (try simp only [zzA, zzB, zzC, Act.put, zzD, zzE, zzF])
  have q0 := K17.out.cell 0
  have q1 := (K17.out.set_ 0 (.slice A5 n1 c5)).cell 1
  have q2 := K17.out.frozen 0
  have q3 := (K17.out.set_ 0 (.slice A5 n1 c5)).frozen 1
  simp at q0 q1
  refine HeldTo.one (i := 9) (by kernel_rfl) rfl (fun K hK => ?_)
  go_simp
  refine hK.out _ _ (fun h9 => absurd h9 (by omega)) (fun h8 => HeldTo.done (by kernel_rfl) ?_ _)
  clear h8 hK K q0 q1 q2 q3
  have k9 := (K17.out.set_ 0 (.slice A5 n1 c5)).set_ 1 (.slice A7 n2 c7)
  have hg9 := (grown_set w7 (w.heap.size + 1) 0 (.slice A5 n1 c5)).trans (grown_set (w7.setCell ⟨w.heap.size + 1, 0, none⟩ (.slice A5 n1 c5)) (w.heap.size + 1) 1 (.slice A7 n2 c7))
  have hw9 := (HW7.out.setCell (p := ⟨w.heap.size + 1, 0, none⟩) (show w.heap.size ≤ w.heap.size + 1 by omega) (.slice A5 n1 c5)).setCell (p := ⟨w.heap.size + 1, 1, none⟩) (show w.heap.size ≤ w.heap.size + 1 by omega) (.slice A7 n2 c7)
  have r1 := (G1.out.kept hg9 (fun k hk _ hr => by
   injection hk with hk
   exact row_base hr (by omega))).mono (show w.heap.size ≤ w.heap.size + 2 by omega)
  have r2 := (G2.out.kept hg9 (fun k hk _ hr => by
   injection hk with hk
   exact row_base hr (by omega))).mono (show w.heap.size ≤ w.heap.size + 2 by omega)
  generalize World.setCell (w7.setCell ⟨w.heap.size + 1, 0, none⟩ (.slice A5 n1 c5)) ⟨w.heap.size + 1, 1, none⟩ (.slice A7 n2 c7) = w9 at *
  have K9 := hide (show Blk w9 (w.heap.size + 1) 24 #[.slice A5 n1 c5, .slice A7 n2 c7] from k9)
  have Hres := hide (And.intro r1 (And.intro r2 hw9))
  clear k9 hg9 hw9 r1 r2 G1 G2 K07 K17 HW7
  have q0 := K9.out.cell 0
  have q1 := K9.out.cell 1
  simp at q0 q1
  go_wp2_with fail
  refine bodyPost_ret (results_c rfl rfl K9.out Tryz.underlying24 rfl (by kernel_rfl)) rfl ?_
  exact ⟨A5, c5, A7, c7, rfl, Hres.out.1, Hres.out.2.1, Hres.out.2.2⟩
end Go.Proofs.YtpaanfjjnjjoeaaGreat
