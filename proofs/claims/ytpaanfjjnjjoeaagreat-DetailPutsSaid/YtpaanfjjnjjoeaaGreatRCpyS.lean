/- The reference's copy of a schedule: 14.Copy. -/
import Derived.Test.YtpaanfjjnjjoeaaGreatRCpyR
namespace Go.Proofs.YtpaanfjjnjjoeaaGreat
open Go.RowKit
theorem own_blk {α : Type} {w : World} {base size : Nat} {e : TypeId} {enc : α → List Value} {v : Value} {l : List α} (h : Row w base e size enc v l) {k : Nat} (hk : v.ownBlock = some k) : ∃ cs, Blk w k e cs := by
 rcases h.2 with ⟨hv, _⟩ | ⟨g, cap, cur, hv, _, hh, _⟩
 ·rw [hv] at hk
  cases hk
 ·rw [hv] at hk
  injection hk with hk
  subst hk
  exact ⟨cur, hh⟩
theorem rows_apart {α β : Type} {w : World} {b1 b2 s1 s2 : Nat} {e1 e2 : TypeId} {enc1 : α → List Value} {enc2 : β → List Value} {v1 v2 : Value} {l1 : List α} {l2 : List β} (h1 : Row w b1 e1 s1 enc1 v1 l1) (h2 : Row w b2 e2 s2 enc2 v2 l2) (hne : e2 ≠ e1) : ∀ k, v2.ownBlock = some k → Apart v1 k := by
 intro k hk
 obtain ⟨cs, hb⟩ := own_blk h2 hk
 exact apart_type h1 hb hne
set_option maxHeartbeats 4000000 in
set_option maxRecDepth 100000 in
theorem ref14Copy_any (A : Option Addr) (l : List BarD) (n c : Nat) (w : World) {B : Nat} (h : BarsAt w B A l) (hB : B ≤ w.heap.size) (hn : n = l.length) (hm : n ≤ 60000) (ht : Tame l) :
  Calls Tryz.prog 136 #[.slice A n c] w fun e w' => ∃ A' c' LB, e = .returned (.slice A' n c') ∧ Row w' w.heap.size 50 5 encBarX (.slice A' n c') LB ∧ LB.map (·.1) = l ∧ (∀ p ∈ LB, Row w' w.heap.size 3 1 encInt (.slice p.2.1 p.1.dims.length p.2.2) p.1.dims) ∧ Below w.heap.size w w' := by
 have Hg := hide (fun (wr : World) (hb : Below w.heap.size w wr) (k : Nat) (hk : k < n) => h.later hB hb (k := k) (by omega))
 have Ht := hide ht
 have HB := hide hB
 have Hn := hide hn
 clear h ht hn hB
 go_enter Tryz.func136, Tryz.ntmps136
 go_wp2_with fail
 go_loopw [3, 4] (fun o iv wr => ∃ k : Nat, k ≤ n ∧ iv = .int .i64 k ∧ (∃ (A9 : Option Addr) (c9 : Nat) (LB : List BarX), o = .slice A9 k c9 ∧ Hid (Row wr w.heap.size 50 5 encBarX (.slice A9 k c9) LB) ∧ Hid (LB.map (·.1) = l.take k) ∧ Hid (∀ p ∈ LB, Row wr w.heap.size 3 1 encInt (.slice p.2.1 p.1.dims.length p.2.2) p.1.dims)) ∧ Hid (Below w.heap.size w wr)) (fun _ iv _ => n - (intOf iv).toNat)
 case atStart => exact ⟨0, Nat.zero_le _, rfl, ⟨none, 0, [], rfl, hide (Row.nil _ _ _ _ _), hide rfl, hide (fun p hp => by cases hp)⟩, hide (Below.refl _ _)⟩
 case round =>
  obtain ⟨k, hk, rfl, ⟨A9, c9, LB, rfl, hrow, hmap, hsub⟩, hb⟩ := hrel
  rename World => wr
  by_cases hlt : k < n
  ·obtain ⟨b, off, x, A1, c1, rfl, lb, hx, hi, p0, p1, p2, p3, p4⟩ := Hg.out wr hb.out k hlt
   have hd1 := (Ht.out x (mem_of_get hx)).2
   have Hx := hide hx
   have hlen : LB.length = k := by
    have h9 := (row_high hrow.out).1
    exact h9.symm
   have hW2 := hide ((hb.out.alloc hb.out.size (.cells #[.string x.mark, .int .i64 x.size, .int .i64 x.count, .int .i64 x.code, .slice A1 x.dims.length c1] 50)).alloc (by have := hb.out.size; simp; omega) (.cells #[] 3))
   have Hs2 := hide (hi.carry (hW2.out.mono HB.out) (Nat.le_refl _))
   have KB0 := hide ((Blk.new wr 50 #[.string x.mark, .int .i64 x.size, .int .i64 x.count, .int .i64 x.code, .slice A1 x.dims.length c1]).alloc (.cells #[] 3))
   have Hl := hide hlen
   have hsz := hb.out.size
   clear hx hi hlen
   obtain ⟨xm, xs, xc, xo, xd⟩ := x
   simp only at p0 p1 p2 p3 p4 hd1 hW2 Hs2 KB0
   obtain ⟨dn, hdn⟩ : ∃ dn, dn = xd.length := ⟨_, rfl⟩
   rw [← hdn] at p4 hd1 hW2 Hs2 KB0
   have Hdn := hide hdn
   clear hdn
   have hs1 : (wr.alloc (.cells #[.string xm, .int .i64 xs, .int .i64 xc, .int .i64 xo, .slice A1 dn c1] 50)).heap.size = wr.heap.size + 1 := by simp
   have hr0 : Row ((wr.alloc (.cells #[.string xm, .int .i64 xs, .int .i64 xc, .int .i64 xo, .slice A1 dn c1] 50)).alloc (.cells #[] 3)) w.heap.size 3 1 encInt (.slice (some ⟨(wr.alloc (.cells #[.string xm, .int .i64 xs, .int .i64 xc, .int .i64 xo, .slice A1 dn c1] 50)).heap.size, 0, none⟩) 0 0) [] := World.ownsRow_made (wr.alloc (.cells #[.string xm, .int .i64 xs, .int .i64 xc, .int .i64 xo, .slice A1 dn c1] 50)) #[] 0 (by rw [hs1]; omega) (Nat.zero_le _) (by simp)
   rw [hs1] at hr0
   have HR0 := hide hr0
   clear hr0 hs1
   go_upto_region 7 with (at_builtin; refine wpList_appendG rfl _ _ 48 rfl w.heap.size 3 (.int .i64 0) 1 8 encInt Tryz.underlying48 (by kernel_rfl) rfl (by omega) encInt_len encInt_one _ [] xd rfl HR0.out A1 dn c1 rfl Hdn.out Hs2.out (by simp) (by rw [← Hdn.out]; omega) (by omega) (by simp; omega) ?_; intro A5 c5 w5 hrow5 hb5 hg5; rw [show ([] : List Int).length + dn = dn from Nat.zero_add dn] at hrow5; have K5 := hide (KB0.out.grown hg5 (show some wr.heap.size ≠ some (wr.heap.size + 1) from fun h9 => by have := Option.some.inj h9; omega)); have HR5 := hide hrow5; have HB5 := hide hb5; have HG5 := hide hg5; clear hrow5 hb5 hg5; have e9 := K5.out.cell 4; have f9 := K5.out.frozen 4; simp at e9)
   have k6 := K5.out.set_ 4 (.slice A5 dn c5)
   have K6 := hide (show Blk (w5.setCell ⟨wr.heap.size, 4, none⟩ (.slice A5 dn c5)) wr.heap.size 50 #[.string xm, .int .i64 xs, .int .i64 xc, .int .i64 xo, .slice A5 dn c5] from k6)
   have HGA := hide (((grown_below (((Below.refl wr.heap.size wr).alloc (Nat.le_refl _) (.cells #[.string xm, .int .i64 xs, .int .i64 xc, .int .i64 xo, .slice A1 dn c1] 50)).alloc (by simp) (.cells #[] 3)) none).andThen HG5.out (fun j hj => by
    have h9 : some (wr.heap.size + 1) = some j := hj
    injection h9 with h9
    left
    omega)).andThen (grown_set w5 wr.heap.size 4 (.slice A5 dn c5)) (fun j hj => by
    injection hj with hj
    left
    omega))
   have HR6 := hide (row_kept HR5.out (grown_set w5 wr.heap.size 4 (.slice A5 dn c5)) (fun k hk => by
    injection hk with hk
    subst hk
    exact apart_type HR5.out K5.out (by decide)))
   have HB6 := hide ((hW2.out.trans HB5.out).setCell (p := ⟨wr.heap.size, 4, none⟩) (show w.heap.size ≤ wr.heap.size from hsz) (.slice A5 dn c5))
   generalize World.setCell w5 ⟨wr.heap.size, 4, none⟩ (.slice A5 dn c5) = w6 at *
   have HO6 := hide ((row_kept hrow.out HGA.out (fun k hk => by cases hk)).alloc (.cells #[.string xm, .int .i64 xs, .int .i64 xc, .int .i64 xo, .slice A5 dn c5] 50))
   have HS6 := hide (fun p hp => (row_kept (hsub.out p hp) HGA.out (fun k hk => by cases hk)).alloc (.cells #[.string xm, .int .i64 xs, .int .i64 xc, .int .i64 xo, .slice A5 dn c5] 50))
   have HN6 := hide (HR6.out.alloc (.cells #[.string xm, .int .i64 xs, .int .i64 xc, .int .i64 xo, .slice A5 dn c5] 50))
   have HY6 := hide (SlOf.lit encBarX_len w6 50 #[.string xm, .int .i64 xs, .int .i64 xc, .int .i64 xo, .slice A5 dn c5] [((⟨xm, xs, xc, xo, xd⟩ : BarD), A5, c5)] (by simp [encBarX, Hdn.out]) (Nat.lt_succ_self w6.heap.size))
   have hsz6 := HB6.out.size
   clear k6 K5 KB0 HGA HR5 HB5 HG5 HR0 HR6 hW2 Hs2 hrow hsub p0 p1 p2 p3 p4 e9 f9 lb
   have l6 := K6.out.lt
   have g0 := K6.out.cell 0
   have g1 := K6.out.cell 1
   have g2 := K6.out.cell 2
   have g3 := K6.out.cell 3
   have g4 := K6.out.cell 4
   simp at g0 g1 g2 g3 g4
   have hkl := Hl.out
   go_wp2_with (at_builtin; refine wpList_appendG rfl _ _ 27 rfl w.heap.size 50 (.agg #[.string ⟨#[]⟩, .int .i64 0, .int .i64 0, .int .i64 0, .slice none 0 0]) 5 64 encBarX Tryz.underlying27 (by kernel_rfl) rfl (by omega) encBarX_len encBarX_one _ LB [((⟨xm, xs, xc, xo, xd⟩ : BarD), A5, c5)] rfl HO6.out (some ⟨w6.heap.size, 0, none⟩) 1 1 rfl rfl HY6.out (by rw [Hl.out]; omega) (by simp) (by omega) (by simp; omega) ?_; intro A7 c7 w7 hrow7 hb7 hg7; have HR7 := hide hrow7; have HB7 := hide hb7; have HG7 := hide hg7; clear hrow7 hb7 hg7)
   go_roundw
   case rel =>
    have hr7 := HR7.out
    rw [Hl.out] at hr7
    refine ⟨k + 1, by omega, by go_num, ⟨A7, c7, LB ++ [((⟨xm, xs, xc, xo, xd⟩ : BarD), A5, c5)], rfl, hide hr7, hide (by rw [List.map_append, hmap.out, take_snoc' Hx.out]; rfl), hide (fun p hp => ?_)⟩, hide ((HB6.out.alloc hsz6 (.cells #[.string xm, .int .i64 xs, .int .i64 xc, .int .i64 xo, .slice A5 dn c5] 50)).trans HB7.out)⟩
    rcases List.mem_append.1 hp with hp | hp
    ·exact row_kept (HS6.out p hp) HG7.out (rows_apart (HS6.out p hp) HO6.out (by decide))
    ·rw [List.mem_singleton] at hp
     subst hp
     have h9 := row_kept HN6.out HG7.out (rows_apart HN6.out HO6.out (by decide))
     rw [Hdn.out] at h9
     exact h9
   case measure => simp [intOf]; omega
  ·obtain rfl : k = n := by omega
   go_wp2_with fail
   go_ret
   refine ⟨A9, c9, LB, rfl, hrow.out, ?_, hsub.out, hb.out⟩
   rw [hmap.out, Hn.out, List.take_length]
end Go.Proofs.YtpaanfjjnjjoeaaGreat
