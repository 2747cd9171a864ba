/- The reference's copy of a detail: 25.Copy. -/
import Derived.Test.YtpaanfjjnjjoeaaGreatRCpyT
namespace Go.Proofs.YtpaanfjjnjjoeaaGreat
open Go.RowKit
structure RefLow (w : World) (lo : Nat) (x : DetD) (s : DetS) (LB : List BarX) (LD : List DemX) : Prop where
 g1 : Got w lo s.a1 s.n1 s.c1 x.mem.boxes
 g2 : Got w lo s.a2 s.n2 s.c2 x.mem.holes
 r3 : Row w lo 50 5 encBarX (.slice s.a3 s.n3 s.c3) LB
 r4 : Row w lo 66 10 encRun (.slice s.a4 s.n4 s.c4) x.runs
 r5 : Row w lo 73 2 encJoin (.slice s.a5 s.n5 s.c5) x.laps
 r6 : Row w lo 69 8 encDemX (.slice s.a6 s.n6 s.c6) LD
 m3 : LB.map (·.1) = x.bars
 m6 : LD.map (·.1) = x.dems
 d3 : ∀ p ∈ LB, Row w lo 3 1 encInt (.slice p.2.1 p.1.dims.length p.2.2) p.1.dims
 d6 : ∀ p ∈ LD, Row w lo 71 2 encStp (.slice p.2.1 p.1.steps.length p.2.2) p.1.steps
section
variable {w w' : World} {lo : Nat} {x : DetD} {s : DetS} {LB : List BarX} {LD : List DemX}
theorem RefLow.kept {row : Option Nat} (h : RefLow w lo x s LB LD) (hg : w.grownBy w' row) (hr : ∀ k, row = some k → k < lo) : RefLow w' lo x s LB LD :=
 ⟨h.g1.kept hg (fun k hk _ q => row_base q (hr k hk)), h.g2.kept hg (fun k hk _ q => row_base q (hr k hk)), row_kept h.r3 hg (fun k hk => row_base h.r3 (hr k hk)), row_kept h.r4 hg (fun k hk => row_base h.r4 (hr k hk)), row_kept h.r5 hg (fun k hk => row_base h.r5 (hr k hk)), row_kept h.r6 hg (fun k hk => row_base h.r6 (hr k hk)), h.m3, h.m6,
  fun p hp => row_kept (h.d3 p hp) hg (fun k hk => row_base (h.d3 p hp) (hr k hk)), fun p hp => row_kept (h.d6 p hp) hg (fun k hk => row_base (h.d6 p hp) (hr k hk))⟩
theorem RefLow.keep (h : RefLow w lo x s LB LD) (hb : Below w.heap.size w w') : RefLow w' lo x s LB LD := h.kept (grown_below hb none) (fun k hk => by cases hk)
theorem RefLow.at_ (h : RefLow w lo x s LB LD) : DetAt w w.heap.size x s := by
 have b3 := bars_join (h.r3.read encBarX_len (by omega)) (fun p hp => (h.d3 p hp).read encInt_len (by omega))
 have b6 := dems_join (h.r6.read encDemX_len (by omega)) (fun p hp => (h.d6 p hp).read (fun _ => rfl) (by omega))
 rw [h.m3] at b3
 rw [h.m6] at b6
 exact ⟨h.g1.read, h.g2.read, b3, h.r4.read (fun _ => rfl) (by omega), h.r5.read (fun _ => rfl) (by omega), b6⟩
theorem RefLow.runs (h : RefLow w lo x s LB LD) {A : Option Addr} {n c : Nat} {L : List RunD} (hg : w.grownBy w' (Value.slice s.a4 s.n4 s.c4).ownBlock) (hr : Row w' lo 66 10 encRun (.slice A n c) L) :
  RefLow w' lo ⟨x.mem, x.bars, L, x.laps, x.dems, x.rule⟩ { s with a4 := A, n4 := n, c4 := c } LB LD :=
 ⟨h.g1.kept hg (fun k hk _ q => rows_apart q h.r4 (by decide) k hk), h.g2.kept hg (fun k hk _ q => rows_apart q h.r4 (by decide) k hk), row_kept h.r3 hg (rows_apart h.r3 h.r4 (by decide)), hr, row_kept h.r5 hg (rows_apart h.r5 h.r4 (by decide)), row_kept h.r6 hg (rows_apart h.r6 h.r4 (by decide)), h.m3, h.m6,
  fun p hp => row_kept (h.d3 p hp) hg (rows_apart (h.d3 p hp) h.r4 (by decide)), fun p hp => row_kept (h.d6 p hp) hg (rows_apart (h.d6 p hp) h.r4 (by decide))⟩
theorem RefLow.far (h : RefLow w lo x s LB LD) {g : Nat} {cs : Array Value} (hg : w.grownBy w' (some g)) (hb : Blk w g 34 cs) : RefLow w' lo x s LB LD := by
 have key : ∀ {α : Type} {size : Nat} {e : TypeId} {enc : α → List Value} {v : Value} {l : List α}, Row w lo e size enc v l → 34 ≠ e → ∀ k, some g = some k → Apart v k := fun hr hne k hk => by
  injection hk with hk
  subst hk
  exact apart_type hr hb hne
 exact ⟨h.g1.kept hg (fun k hk _ q => key q (by decide) k hk), h.g2.kept hg (fun k hk _ q => key q (by decide) k hk), row_kept h.r3 hg (key h.r3 (by decide)), row_kept h.r4 hg (key h.r4 (by decide)), row_kept h.r5 hg (key h.r5 (by decide)), row_kept h.r6 hg (key h.r6 (by decide)), h.m3, h.m6,
  fun p hp => row_kept (h.d3 p hp) hg (key (h.d3 p hp) (by decide)), fun p hp => row_kept (h.d6 p hp) hg (key (h.d6 p hp) (by decide))⟩
theorem RefLow.mono (h : RefLow w lo x s LB LD) {lo' : Nat} (hl : lo' ≤ lo) : RefLow w lo' x s LB LD :=
 ⟨h.g1.mono hl, h.g2.mono hl, row_mono h.r3 hl, row_mono h.r4 hl, row_mono h.r5 hl, row_mono h.r6 hl, h.m3, h.m6, fun p hp => row_mono (h.d3 p hp) hl, fun p hp => row_mono (h.d6 p hp) hl⟩
end
set_option maxHeartbeats 8000000 in
set_option maxRecDepth 100000 in
theorem ref25Copy_any (x : DetD) (s : DetS) (w : World) {B : Nat} (h : DetAt w B x s) (hB : B ≤ w.heap.size) (hf : DetFit x s) (hm1 : s.n1 ≤ 300000) (hm2 : s.n2 ≤ 300000) (hst : ∀ d ∈ x.dems, d.steps.length ≤ 60000) :
  Calls Tryz.prog 80 #[detV x s] w fun e w' => ∃ s' LB LD, e = .returned (detV x s') ∧ SameLen s' s ∧ RefLow w' w.heap.size x s' LB LD ∧ Below w.heap.size w w' := by
 have H17 := hide (fun (W : World) (hz : Below w.heap.size w W) => ref17Copy_any s.a1 s.a2 x.mem.boxes x.mem.holes s.n1 s.n2 s.c1 s.c2 W (h.h1.carry (Flat.carried _) (hz.mono hB) (Nat.le_refl _)) (h.h2.carry (Flat.carried _) (hz.mono hB) (Nat.le_refl _)) (Nat.le_trans hB hz.size) hf.l1 hf.l2 hm1 hm2)
 have H14 := hide (fun (W : World) (hz : Below w.heap.size w W) => ref14Copy_any s.a3 x.bars s.n3 s.c3 W (h.h3.carry (hz.mono hB) (Nat.le_refl _)) (Nat.le_trans hB hz.size) hf.l3 hf.m3 hf.tame)
 have H4 := hide (fun (W : World) (hz : Below w.heap.size w W) => h.h4.carry (Flat.carried _) (hz.mono hB) (Nat.le_refl _))
 have H5 := hide (fun (W : World) (hz : Below w.heap.size w W) => h.h5.carry (Flat.carried _) (hz.mono hB) (Nat.le_refl _))
 have H6 := hide (fun (W : World) (hz : Below w.heap.size w W) (k : Nat) (hk : k < x.dems.length) => DemsAt.later h.h6 hB hz hk)
 have H23 := hide (fun (A : Option Addr) (d : DemD) (c : Nat) (hd : d ∈ x.dems) (hs : StpsAt w B A d.steps) (W : World) (hz : Below w.heap.size w W) => ref23Copy_any A d c W (SlOf.carry (Flat.carried _) hs (hz.mono hB) (Nat.le_refl _)) (Nat.le_trans hB hz.size) (Nat.le_trans (hst d hd) (by decide)))
 have HL4 := hide hf.l4
 have HL5 := hide hf.l5
 have HL6 := hide hf.l6
 have hm4 := hf.m4
 have hm5 := hf.m5
 have hm6 := hf.m6
 have K0 := hide ((Blk.new w 34 (detCells x.mem x.rule s)).alloc (.cells zeroD 34))
 have K1 := hide (Blk.new1 w (.cells (detCells x.mem x.rule s) 34) 34 zeroD)
 have HW := hide (below_new2 w (.cells (detCells x.mem x.rule s) 34) (.cells zeroD 34))
 have Hi := hide (fun s' : DetS => show (Tryz.prog.info? 34).map (·.size) = some (detCells x.mem x.rule s').size from (by kernel_rfl : (Tryz.prog.info? 34).map (·.size) = some 19))
 obtain ⟨w2, hw2⟩ : ∃ w2, w2 = (w.alloc (.cells (detCells x.mem x.rule s) 34)).alloc (.cells zeroD 34) := ⟨_, rfl⟩
 rw [← hw2] at K0 K1 HW
 have l1 := K1.out.lt
 clear h hB hf hm1 hm2 hst
 show Calls Tryz.prog 80 #[.agg (detCells x.mem x.rule s)] w _
 go_enter Tryz.func80, Tryz.ntmps80
 go_upto_region 1 with fail
 rw [← hw2]
 clear hw2
 go_upto_region 2 with (first
  | (refine wpList_load_row rfl 34 (.tmp 1) rfl w.heap.size rfl 34 _ (0, 0) _ K0.out Tryz.underlying34 rfl (Hi.out s) ?_)
  | (refine wpList_store_row rfl 34 (.tmp 3) (.tmp 5) rfl w2.heap.size (detCells x.mem x.rule s) rfl rfl 34 _ (Blk.new w2 34 zeroD) (by kernel_rfl) rfl (by kernel_rfl) ?_))
 have k3 := setRow_heap _ w2.heap.size _ (detCells x.mem x.rule s) _ _ (Blk.new w2 34 zeroD)
 have hb := Below.setRow (below_new w2 (.cells zeroD 34)) (Nat.le_refl _) (detCells x.mem x.rule s)
 generalize World.setRow (w2.alloc (.cells zeroD 34)) w2.heap.size (detCells x.mem x.rule s) = w3 at *
 have K3 := hide (show Blk w3 w2.heap.size 34 (detCells x.mem x.rule s) from k3)
 replace K0 := hide (K0.out.keep hb)
 replace K1 := hide (K1.out.keep hb)
 replace HW := hide (below_step HW.out hb (Nat.le_refl _))
 have l3 := K3.out.lt
 clear hb k3
 generalize w2.heap.size = g3 at *
 have a1 := K0.out.cell 1
 simp only [detCells] at a1
 simp at a1
 have a2 := K0.out.cell 2
 simp only [detCells] at a2
 simp at a2
 have l0 := K0.out.lt
 go_wp2_with fail
 refine (H17.out _ HW.out).mono ?_
 rintro e w4 ⟨A1, c1, A2, c2, rfl, hg1, hg2, hb⟩
 replace H17 := hide (And.intro hg1 hg2)
 replace K0 := hide (K0.out.keep hb)
 replace K1 := hide (K1.out.keep hb)
 replace K3 := hide (K3.out.keep hb)
 replace HW := hide (below_step HW.out hb (Nat.le_refl _))
 have hzb := hb.size
 clear hb hg1 hg2 a1 a2
 have y1 := K3.out.cell 1
 have y2 := (K3.out.set_ 1 (.slice A1 s.n1 c1)).cell 2
 have z1 := K3.out.frozen 1
 have z2 := (K3.out.set_ 1 (.slice A1 s.n1 c1)).frozen 2
 simp only [detCells] at y1 y2
 simp at y1 y2
 go_upto_region 3 with fail
 clear y1 y2 z1 z2
 have hlo : g3 < w4.heap.size := K3.out.lt
 have G1 := hide (H17.out.1.mono (Nat.le_refl _))
 have G2 := hide (H17.out.2.mono (Nat.le_refl _))
 have k3 := (K3.out.set_ 1 (.slice A1 s.n1 c1)).set_ 2 (.slice A2 s.n2 c2)
 have hG := (grown_set w4 g3 1 (.slice A1 s.n1 c1)).trans (grown_set (w4.setCell ⟨g3, 1, none⟩ (.slice A1 s.n1 c1)) g3 2 (.slice A2 s.n2 c2))
 replace K0 := hide ((K0.out.far (p := ⟨g3, 1, none⟩) (show w.heap.size ≠ g3 by omega) (.slice A1 s.n1 c1)).far (p := ⟨g3, 2, none⟩) (show w.heap.size ≠ g3 by omega) (.slice A2 s.n2 c2))
 replace K1 := hide ((K1.out.far (p := ⟨g3, 1, none⟩) (show w.heap.size + 1 ≠ g3 by omega) (.slice A1 s.n1 c1)).far (p := ⟨g3, 2, none⟩) (show w.heap.size + 1 ≠ g3 by omega) (.slice A2 s.n2 c2))
 replace HW := hide ((HW.out.setCell (p := ⟨g3, 1, none⟩) (show w.heap.size ≤ g3 by omega) (.slice A1 s.n1 c1)).setCell (p := ⟨g3, 2, none⟩) (show w.heap.size ≤ g3 by omega) (.slice A2 s.n2 c2))
 replace G1 := hide (G1.out.kept hG (fun k hk _ hr => by
  injection hk with hk
  exact row_base hr (by omega)))
 replace G2 := hide (G2.out.kept hG (fun k hk _ hr => by
  injection hk with hk
  exact row_base hr (by omega)))
 have hz45 := hG.size
 generalize World.setCell (w4.setCell ⟨g3, 1, none⟩ (.slice A1 s.n1 c1)) ⟨g3, 2, none⟩ (.slice A2 s.n2 c2) = w5 at *
 replace K3 := hide (show Blk w5 g3 34 (detCells x.mem x.rule { s with a1 := A1, c1 := c1, a2 := A2, c2 := c2 }) from by
  simp only [detCells, zzD, zzE, zzF] at k3 ⊢
  exact k3)
 clear k3
 clear hG H17
 have a6 := K0.out.cell 6
 simp only [detCells] at a6
 simp at a6
 have l0 := K0.out.lt
 go_wp2_with fail
 refine (H14.out _ HW.out).mono ?_
 rintro e w6 ⟨A3, c3, LB, rfl, hr3, hm3, hd3, hb⟩
 have M3 := hide hm3
 have R3 := hide (row_mono hr3 (show w3.heap.size ≤ w5.heap.size by omega))
 have D3 := hide (fun p hp => row_mono (hd3 p hp) (show w3.heap.size ≤ w5.heap.size by omega))
 replace G1 := hide (G1.out.kept (grown_below hb none) (fun k hk => by cases hk))
 replace G2 := hide (G2.out.kept (grown_below hb none) (fun k hk => by cases hk))
 replace K0 := hide (K0.out.keep hb)
 replace K1 := hide (K1.out.keep hb)
 replace K3 := hide (K3.out.keep hb)
 replace HW := hide (below_step HW.out hb (Nat.le_refl _))
 have hzb := hb.size
 clear hr3 hm3 hd3 hb a6 H14
 have y1 := K3.out.cell 6
 have z1 := K3.out.frozen 6
 simp only [detCells] at y1
 simp at y1
 go_upto_region 4 with fail
 clear y1 z1
 have k3 := K3.out.set_ 6 (.slice A3 s.n3 c3)
 have hG := grown_set w6 g3 6 (.slice A3 s.n3 c3)
 replace K0 := hide (K0.out.far (p := ⟨g3, 6, none⟩) (show w.heap.size ≠ g3 by omega) (.slice A3 s.n3 c3))
 replace K1 := hide (K1.out.far (p := ⟨g3, 6, none⟩) (show w.heap.size + 1 ≠ g3 by omega) (.slice A3 s.n3 c3))
 replace HW := hide (HW.out.setCell (p := ⟨g3, 6, none⟩) (show w.heap.size ≤ g3 by omega) (.slice A3 s.n3 c3))
 replace G1 := hide (G1.out.kept hG (fun k hk _ hr => by
  injection hk with hk
  exact row_base hr (by omega)))
 replace G2 := hide (G2.out.kept hG (fun k hk _ hr => by
  injection hk with hk
  exact row_base hr (by omega)))
 replace R3 := hide (row_kept R3.out hG (fun k hk => by
  injection hk with hk
  exact row_base R3.out (by omega)))
 replace D3 := hide (fun p hp => row_kept (D3.out p hp) hG (fun k hk => by
  injection hk with hk
  exact row_base (D3.out p hp) (by omega)))
 have hz67 := hG.size
 generalize World.setCell w6 ⟨g3, 6, none⟩ (.slice A3 s.n3 c3) = w7 at *
 replace K3 := hide (show Blk w7 g3 34 (detCells x.mem x.rule { s with a1 := A1, c1 := c1, a2 := A2, c2 := c2, a3 := A3, c3 := c3 }) from by
  simp only [detCells, zzD, zzE, zzF] at k3 ⊢
  exact k3)
 clear k3
 clear hG
 have a7 := K0.out.cell 7
 simp only [detCells] at a7
 simp at a7
 have l0 := K0.out.lt
 have hr0 : Row (w7.alloc (.cells #[] 66)) w3.heap.size 66 10 encRun (.slice (some ⟨w7.heap.size, 0, none⟩) 0 0) [] := World.ownsRow_made w7 #[] 0 (by omega) (Nat.zero_le _) (by simp)
 have HR0 := hide hr0
 have Hs := hide (H4.out (w7.alloc (.cells #[] 66)) (HW.out.alloc HW.out.size _))
 clear hr0
 go_upto_region 5 with (at_builtin; refine wpList_appendG rfl _ _ 28 rfl w3.heap.size 66 (.agg #[.string ⟨#[]⟩, .int .i64 0, .int .i64 0, .int .i64 0, .int .i64 0, .int .i64 0, .int .i64 0, .int .i64 0, .int .i64 0, .int .i64 0]) 10 88 encRun Tryz.underlying28 (by kernel_rfl) rfl (by omega) encRun_len encRun_one _ [] x.runs rfl HR0.out s.a4 s.n4 s.c4 rfl HL4.out Hs.out (by simp) (by rw [← HL4.out]; omega) (by omega) (by simp; omega) ?_; intro A4 c4 w8 hrow hb hg; rw [show ([] : List RunD).length + s.n4 = s.n4 from Nat.zero_add s.n4] at hrow; have HRW := hide hrow; have HBB := hide hb; have HGG := hide hg; replace K3 := hide ((K3.out.alloc (.cells #[] 66)).grown hg (show some g3 ≠ some w7.heap.size from fun h9 => by have := Option.some.inj h9; omega)); clear hrow hb hg; have y1 := K3.out.cell 7; have z1 := K3.out.frozen 7; simp only [detCells] at y1; simp at y1)
 clear y1 z1 HR0 Hs
 have k3 := K3.out.set_ 7 (.slice A4 s.n4 c4)
 have hG := ((grown_below (below_new w7 (.cells #[] 66)) (some g3)).andThen HGG.out (fun j hj => by
  have h9 : some w7.heap.size = some j := hj
  injection h9 with h9
  left
  omega)).trans (grown_set w8 g3 7 (.slice A4 s.n4 c4))
 replace K0 := hide (((K0.out.alloc (.cells #[] 66)).grown HGG.out (show some w.heap.size ≠ some w7.heap.size from fun h9 => by have := Option.some.inj h9; omega)).far (p := ⟨g3, 7, none⟩) (show w.heap.size ≠ g3 by omega) (.slice A4 s.n4 c4))
 replace K1 := hide (((K1.out.alloc (.cells #[] 66)).grown HGG.out (show some (w.heap.size + 1) ≠ some w7.heap.size from fun h9 => by have := Option.some.inj h9; omega)).far (p := ⟨g3, 7, none⟩) (show w.heap.size + 1 ≠ g3 by omega) (.slice A4 s.n4 c4))
 replace HW := hide (((HW.out.alloc HW.out.size (.cells #[] 66)).trans (HBB.out.mono (show w.heap.size ≤ w3.heap.size by omega))).setCell (p := ⟨g3, 7, none⟩) (show w.heap.size ≤ g3 by omega) (.slice A4 s.n4 c4))
 have R4 := hide (row_kept HRW.out (grown_set w8 g3 7 (.slice A4 s.n4 c4)) (fun k hk => by
  injection hk with hk
  exact row_base HRW.out (by omega)))
 have hzn := hG.size
 clear HRW HBB HGG
 replace G1 := hide (G1.out.kept hG (fun k hk _ hr => by
  injection hk with hk
  exact row_base hr (by omega)))
 replace G2 := hide (G2.out.kept hG (fun k hk _ hr => by
  injection hk with hk
  exact row_base hr (by omega)))
 replace R3 := hide (row_kept R3.out hG (fun k hk => by
  injection hk with hk
  exact row_base R3.out (by omega)))
 replace D3 := hide (fun p hp => row_kept (D3.out p hp) hG (fun k hk => by
  injection hk with hk
  exact row_base (D3.out p hp) (by omega)))
 generalize World.setCell w8 ⟨g3, 7, none⟩ (.slice A4 s.n4 c4) = w9 at *
 replace K3 := hide (show Blk w9 g3 34 (detCells x.mem x.rule { s with a1 := A1, c1 := c1, a2 := A2, c2 := c2, a3 := A3, c3 := c3, a4 := A4, c4 := c4 }) from by
  simp only [detCells, zzD, zzE, zzF] at k3 ⊢
  exact k3)
 clear k3
 clear hG a7
 have a8 := K0.out.cell 8
 simp only [detCells] at a8
 simp at a8
 have l0 := K0.out.lt
 have hr0 : Row (w9.alloc (.cells #[] 73)) w3.heap.size 73 2 encJoin (.slice (some ⟨w9.heap.size, 0, none⟩) 0 0) [] := World.ownsRow_made w9 #[] 0 (by omega) (Nat.zero_le _) (by simp)
 have HR0 := hide hr0
 have Hs := hide (H5.out (w9.alloc (.cells #[] 73)) (HW.out.alloc HW.out.size _))
 clear hr0
 go_upto_region 6 with (at_builtin; refine wpList_appendG rfl _ _ 29 rfl w3.heap.size 73 (.agg #[.int .i64 0, .int .i64 0]) 2 16 encJoin Tryz.underlying29 (by kernel_rfl) rfl (by omega) encJoin_len encJoin_one _ [] x.laps rfl HR0.out s.a5 s.n5 s.c5 rfl HL5.out Hs.out (by simp) (by rw [← HL5.out]; omega) (by omega) (by simp; omega) ?_; intro A5 c5 wa hrow hb hg; rw [show ([] : List JoinD).length + s.n5 = s.n5 from Nat.zero_add s.n5] at hrow; have HRW := hide hrow; have HBB := hide hb; have HGG := hide hg; replace K3 := hide ((K3.out.alloc (.cells #[] 73)).grown hg (show some g3 ≠ some w9.heap.size from fun h9 => by have := Option.some.inj h9; omega)); clear hrow hb hg; have y1 := K3.out.cell 8; have z1 := K3.out.frozen 8; simp only [detCells] at y1; simp at y1)
 clear y1 z1 HR0 Hs
 have k3 := K3.out.set_ 8 (.slice A5 s.n5 c5)
 have hG := ((grown_below (below_new w9 (.cells #[] 73)) (some g3)).andThen HGG.out (fun j hj => by
  have h9 : some w9.heap.size = some j := hj
  injection h9 with h9
  left
  omega)).trans (grown_set wa g3 8 (.slice A5 s.n5 c5))
 replace K0 := hide (((K0.out.alloc (.cells #[] 73)).grown HGG.out (show some w.heap.size ≠ some w9.heap.size from fun h9 => by have := Option.some.inj h9; omega)).far (p := ⟨g3, 8, none⟩) (show w.heap.size ≠ g3 by omega) (.slice A5 s.n5 c5))
 replace K1 := hide (((K1.out.alloc (.cells #[] 73)).grown HGG.out (show some (w.heap.size + 1) ≠ some w9.heap.size from fun h9 => by have := Option.some.inj h9; omega)).far (p := ⟨g3, 8, none⟩) (show w.heap.size + 1 ≠ g3 by omega) (.slice A5 s.n5 c5))
 replace HW := hide (((HW.out.alloc HW.out.size (.cells #[] 73)).trans (HBB.out.mono (show w.heap.size ≤ w3.heap.size by omega))).setCell (p := ⟨g3, 8, none⟩) (show w.heap.size ≤ g3 by omega) (.slice A5 s.n5 c5))
 have R5 := hide (row_kept HRW.out (grown_set wa g3 8 (.slice A5 s.n5 c5)) (fun k hk => by
  injection hk with hk
  exact row_base HRW.out (by omega)))
 have hzn := hG.size
 clear HRW HBB HGG
 replace G1 := hide (G1.out.kept hG (fun k hk _ hr => by
  injection hk with hk
  exact row_base hr (by omega)))
 replace G2 := hide (G2.out.kept hG (fun k hk _ hr => by
  injection hk with hk
  exact row_base hr (by omega)))
 replace R3 := hide (row_kept R3.out hG (fun k hk => by
  injection hk with hk
  exact row_base R3.out (by omega)))
 replace D3 := hide (fun p hp => row_kept (D3.out p hp) hG (fun k hk => by
  injection hk with hk
  exact row_base (D3.out p hp) (by omega)))
 replace R4 := hide (row_kept R4.out hG (fun k hk => by
  injection hk with hk
  exact row_base R4.out (by omega)))
 generalize World.setCell wa ⟨g3, 8, none⟩ (.slice A5 s.n5 c5) = wb at *
 replace K3 := hide (show Blk wb g3 34 (detCells x.mem x.rule { s with a1 := A1, c1 := c1, a2 := A2, c2 := c2, a3 := A3, c3 := c3, a4 := A4, c4 := c4, a5 := A5, c5 := c5 }) from by
  simp only [detCells, zzD, zzE, zzF] at k3 ⊢
  exact k3)
 clear k3
 clear hG a8
 have y1 := K3.out.cell 9
 have z1 := K3.out.frozen 9
 simp only [detCells] at y1
 simp at y1
 have l3b := K3.out.lt
 go_upto_region 7 with fail
 clear y1 z1
 have k3 := K3.out.set_ 9 (.slice none 0 0)
 have hG := grown_set wb g3 9 (.slice none 0 0)
 replace K0 := hide (K0.out.far (p := ⟨g3, 9, none⟩) (show w.heap.size ≠ g3 by omega) (.slice none 0 0))
 replace K1 := hide (K1.out.far (p := ⟨g3, 9, none⟩) (show w.heap.size + 1 ≠ g3 by omega) (.slice none 0 0))
 replace HW := hide (HW.out.setCell (p := ⟨g3, 9, none⟩) (show w.heap.size ≤ g3 by omega) (.slice none 0 0))
 replace G1 := hide (G1.out.kept hG (fun k hk _ hr => by
  injection hk with hk
  exact row_base hr (by omega)))
 replace G2 := hide (G2.out.kept hG (fun k hk _ hr => by
  injection hk with hk
  exact row_base hr (by omega)))
 replace R3 := hide (row_kept R3.out hG (fun k hk => by
  injection hk with hk
  exact row_base R3.out (by omega)))
 replace D3 := hide (fun p hp => row_kept (D3.out p hp) hG (fun k hk => by
  injection hk with hk
  exact row_base (D3.out p hp) (by omega)))
 replace R4 := hide (row_kept R4.out hG (fun k hk => by
  injection hk with hk
  exact row_base R4.out (by omega)))
 replace R5 := hide (row_kept R5.out hG (fun k hk => by
  injection hk with hk
  exact row_base R5.out (by omega)))
 have hzc := hG.size
 generalize World.setCell wb ⟨g3, 9, none⟩ (.slice none 0 0) = wc at *
 replace K3 := hide (show Blk wc g3 34 (detCells x.mem x.rule { s with a1 := A1, c1 := c1, a2 := A2, c2 := c2, a3 := A3, c3 := c3, a4 := A4, c4 := c4, a5 := A5, c5 := c5, a6 := none, n6 := 0, c6 := 0 }) from by
  simp only [detCells, zzD, zzE, zzF] at k3 ⊢
  exact k3)
 clear k3
 clear hG
 have HGc := hide (grown_below (Below.refl wc.heap.size wc) (some g3))
 have a9 := K0.out.cell 9
 simp only [detCells] at a9
 simp at a9
 have l0 := K0.out.lt
 go_wp2_with fail
 clear a9
 go_loopw [4] (fun iv wv => ∃ i : Nat, i ≤ s.n6 ∧ iv = .int .i64 i ∧ (∃ (A9 : Option Addr) (c9 : Nat) (LD : List DemX), Hid (Blk wv g3 34 (detCells x.mem x.rule { s with a1 := A1, c1 := c1, a2 := A2, c2 := c2, a3 := A3, c3 := c3, a4 := A4, c4 := c4, a5 := A5, c5 := c5, a6 := A9, n6 := i, c6 := c9 })) ∧ Hid (Row wv wc.heap.size 69 8 encDemX (.slice A9 i c9) LD) ∧ Hid (LD.map (·.1) = x.dems.take i) ∧ Hid (∀ p ∈ LD, Row wv wc.heap.size 71 2 encStp (.slice p.2.1 p.1.steps.length p.2.2) p.1.steps)) ∧ Hid (wc.grownBy wv (some g3))) (fun iv _ => s.n6 - (intOf iv).toNat)
 case atStart => exact ⟨0, Nat.zero_le _, rfl, ⟨none, 0, [], K3, hide (Row.nil _ _ _ _ _), hide rfl, hide (fun p hp => by cases hp)⟩, HGc⟩
 case round =>
  clear HGc
  obtain ⟨i, hi, rfl, ⟨A9, c9, LD, hK3, hrow, hmap, hsub⟩, hgr⟩ := hrel
  rename World => wv
  have Kx := hide (K0.out.grown hgr.out (show some w.heap.size ≠ some g3 from fun h9 => by have := Option.some.inj h9; omega))
  have Kz := hide (K1.out.grown hgr.out (show some (w.heap.size + 1) ≠ some g3 from fun h9 => by have := Option.some.inj h9; omega))
  have Hwv := hide (HW.out.grown hgr.out HW.out.size (fun q hq => by injection hq with hq; omega))
  have hLD : LD.length = i := (row_high hrow.out).1.symm
  have HLD := hide hLD
  clear hLD
  by_cases hlt : i < s.n6
  ·obtain ⟨b, off, d, A8, c8, hA, hbl, hx, hs8, p0, p1, p2, p3, p4, p5, p6, p7⟩ := H6.out w (Below.refl _ _) i (by rw [← HL6.out]; exact hlt)
   have HC := hide (H23.out A8 d c8 (mem_of_get hx) hs8)
   have Hx := hide hx
   obtain ⟨dn, ⟨⟨d1, d2, d3⟩, d4, d5, d6⟩, ds⟩ := d
   simp only at p0 p1 p2 p3 p4 p5 p6 p7 HC
   have HP := hide (fun (V : World) (hv : Below w.heap.size w V) => show V.cell? ⟨b, off + i * 8, none⟩ = some (.string dn) ∧ V.cell? ⟨b, off + i * 8 + 1, none⟩ = some (.int .i64 d1) ∧ V.cell? ⟨b, off + i * 8 + 2, none⟩ = some (.int .i64 d2) ∧ V.cell? ⟨b, off + i * 8 + 3, none⟩ = some (.int .i64 d3) ∧ V.cell? ⟨b, off + i * 8 + 4, none⟩ = some (.int .i64 d4) ∧ V.cell? ⟨b, off + i * 8 + 5, none⟩ = some (.int .i64 d5) ∧ V.cell? ⟨b, off + i * 8 + 6, none⟩ = some (.int .i64 d6) ∧ V.cell? ⟨b, off + i * 8 + 7, none⟩ = some (.slice A8 ds.length c8) from
    ⟨(hv.cell (p := ⟨b, _, none⟩) hbl).trans p0, (hv.cell (p := ⟨b, _, none⟩) hbl).trans p1, (hv.cell (p := ⟨b, _, none⟩) hbl).trans p2, (hv.cell (p := ⟨b, _, none⟩) hbl).trans p3, (hv.cell (p := ⟨b, _, none⟩) hbl).trans p4, (hv.cell (p := ⟨b, _, none⟩) hbl).trans p5, (hv.cell (p := ⟨b, _, none⟩) hbl).trans p6, (hv.cell (p := ⟨b, _, none⟩) hbl).trans p7⟩)
   have HBL := hide hbl
   clear p0 p1 p2 p3 p4 p5 p6 p7 hx hs8
   have a9 := Kx.out.cell 9
   simp only [detCells] at a9
   simp at a9
   rw [hA] at a9
   have lx := Kx.out.lt
   have l3c := hK3.out.lt
   have HA := hide hA
   clear hA hbl
   go_upto_region 10 with fail
   clear a9
   have HS := hide (And.intro hK3.out.drew (And.intro Kx.out.drew Hwv.out.drew))
   have HR9 := hide hrow.out.drew
   have HD9 := hide (fun p hp => (hsub.out p hp).drew)
   have HG9 := hide (hgr.out.trans (grown_below (Below.refl wv.heap.size wv).drew (some g3)))
   have Kz9 := hide Kz.out.drew
   have hzv : wc.heap.size ≤ wv.drew.heap.size := hgr.out.size
   refine wp_region_heldTo (S := fun V => Blk V g3 34 (detCells x.mem x.rule { s with a1 := A1, c1 := c1, a2 := A2, c2 := c2, a3 := A3, c3 := c3, a4 := A4, c4 := c4, a5 := A5, c5 := c5, a6 := A9, n6 := i, c6 := c9 }) ∧ Blk V w.heap.size 34 (detCells x.mem x.rule s) ∧ Below w.heap.size w V) (n := 11) (by kernel_rfl) ?_
   clear hK3 hrow hsub hgr Kx Kz Hwv
   generalize wv.drew = wd at *
   refine HeldTo.take (i := 0) (v := ?_) rfl (by kernel_rfl) (by kernel_rfl) (by kernel_rfl) (by kernel_rfl) (fun _ _ _ h => h) (Or.inl ⟨by rfl, ?_⟩) HS.out ?_
   rotate_left
   ·intro V hSw
    (try dsimp only at hSw)
    skip
    go_simp
    first | done | with_reducible rfl
   (try simp only [zzA, zzC, Act.put, zzD, zzE, zzF])
   refine HeldTo.take (i := 1) (v := ?_) rfl (by kernel_rfl) (by kernel_rfl) (by kernel_rfl) (by kernel_rfl) (fun _ _ _ h => h) (Or.inl ⟨by rfl, ?_⟩) HS.out ?_
   rotate_left
   ·intro V hSw
    (try dsimp only at hSw)
    have q9 := hSw.1.cell 9; simp only [detCells] at q9; simp at q9; have lq := hSw.1.lt
    go_simp
    first | done | with_reducible rfl
   (try simp only [zzA, zzB, zzC, Act.put, zzD, zzE, zzF])
   refine HeldTo.take (i := 2) (v := ?_) rfl (by kernel_rfl) (by kernel_rfl) (by kernel_rfl) (by kernel_rfl) (fun _ _ _ h => h) (Or.inl ⟨by rfl, ?_⟩) HS.out ?_
   rotate_left
   ·intro V hSw
    (try dsimp only at hSw)
    skip
    go_simp
    first | done | with_reducible rfl
   (try simp only [zzA, zzB, zzC, Act.put, zzD, zzE, zzF])
   refine HeldTo.take (i := 3) (v := ?_) rfl (by kernel_rfl) (by kernel_rfl) (by kernel_rfl) (by kernel_rfl) (fun _ _ _ h => h) (Or.inl ⟨by rfl, ?_⟩) HS.out ?_
   rotate_left
   ·intro V hSw
    (try dsimp only at hSw)
    have q9 := hSw.2.1.cell 9; simp only [detCells] at q9; simp at q9; rw [HA.out] at q9; have lq := hSw.2.1.lt
    go_simp
    first | done | with_reducible rfl
   (try simp only [zzA, zzB, zzC, Act.put, zzD, zzE, zzF])
   refine HeldTo.take (i := 4) (v := ?_) rfl (by kernel_rfl) (by kernel_rfl) (by kernel_rfl) (by kernel_rfl) (fun _ _ _ h => h) (Or.inl ⟨by rfl, ?_⟩) HS.out ?_
   rotate_left
   ·intro V hSw
    (try dsimp only at hSw)
    skip
    go_simp
    first | done | with_reducible rfl
   (try simp only [zzA, zzB, zzC, Act.put, zzD, zzE, zzF])
   refine HeldTo.take (i := 5) (v := ?_) rfl (by kernel_rfl) (by kernel_rfl) (by kernel_rfl) (by kernel_rfl) (fun _ _ _ h => h) (Or.inl ⟨by rfl, ?_⟩) HS.out ?_
   rotate_left
   ·intro V hSw
    (try dsimp only at hSw)
    skip
    go_simp
    first | done | with_reducible rfl
   (try simp only [zzA, zzB, zzC, Act.put, zzD, zzE, zzF])
   refine HeldTo.take (i := 6) (v := ?_) rfl (by kernel_rfl) (by kernel_rfl) (by kernel_rfl) (by kernel_rfl) (fun _ _ _ h => h) (Or.inl ⟨by rfl, ?_⟩) HS.out ?_
   rotate_left
   ·intro V hSw
    (try dsimp only at hSw)
    obtain ⟨q0, q1, q2, q3, q4, q5, q6, q7⟩ := HP.out V hSw.2.2
    go_simp
    first | done | with_reducible rfl
   (try simp only [zzA, zzB, zzC, Act.put, zzD, zzE, zzF])
   refine HeldTo.one (i := 7) (by kernel_rfl) rfl (fun K hK => ?_)
   go_simp
   refine (HC.out wd HS.out.2.2).mono ?_
   rintro e wz ⟨A7, c7, rfl, hr7, hb7⟩
   go_wp2_with fail
   have HS7 := hide (And.intro (HS.out.1.keep hb7) (And.intro (HS.out.2.1.keep hb7) (below_step HS.out.2.2 hb7 (Nat.le_refl _))))
   have HRz := hide (HR9.out.keep hb7)
   have HDz := hide (fun p hp => (HD9.out p hp).keep hb7)
   have HNz := hide (row_mono hr7 hzv)
   have HGz := hide (HG9.out.trans (grown_below hb7 (some g3)))
   have Kzz := hide (Kz9.out.keep hb7)
   have hzz := hb7.size
   refine hK.out _ _ (fun _ => HS7.out) (fun h8 => ?_)
   clear h8 hK K hr7 hb7 HS HR9 HD9 HG9 Kz9
   (try simp only [zzA, zzB, zzC, Act.put, zzD, zzE, zzF])
   refine HeldTo.one (i := 8) (by kernel_rfl) rfl (fun K hK => ?_)
   go_simp
   have HSa := hide (And.intro (HS7.out.1.alloc (.cells #[.string dn, .int .i64 d1, .int .i64 d2, .int .i64 d3, .int .i64 d4, .int .i64 d5, .int .i64 d6, .slice A7 ds.length c7] 69)) (And.intro (HS7.out.2.1.alloc (.cells #[.string dn, .int .i64 d1, .int .i64 d2, .int .i64 d3, .int .i64 d4, .int .i64 d5, .int .i64 d6, .slice A7 ds.length c7] 69)) (HS7.out.2.2.alloc HS7.out.2.2.size (.cells #[.string dn, .int .i64 d1, .int .i64 d2, .int .i64 d3, .int .i64 d4, .int .i64 d5, .int .i64 d6, .slice A7 ds.length c7] 69))))
   have HRa := hide (HRz.out.alloc (.cells #[.string dn, .int .i64 d1, .int .i64 d2, .int .i64 d3, .int .i64 d4, .int .i64 d5, .int .i64 d6, .slice A7 ds.length c7] 69))
   have HY := hide (SlOf.lit encDemX_len wz 69 #[.string dn, .int .i64 d1, .int .i64 d2, .int .i64 d3, .int .i64 d4, .int .i64 d5, .int .i64 d6, .slice A7 ds.length c7] [((⟨dn, ⟨(d1, d2, d3), d4, d5, d6⟩, ds⟩ : DemD), A7, c7)] (by simp [encDemX, encB]) (Nat.lt_succ_self wz.heap.size))
   refine hK.out _ _ (fun _ => HSa.out) (fun h8 => ?_)
   clear h8 hK K
   (try simp only [zzA, zzB, zzC, Act.put, zzD, zzE, zzF])
   refine HeldTo.one (i := 9) (by kernel_rfl) rfl (fun K hK => ?_)
   refine step_appendG rfl (.tmp 35) (.tmp 42) 30 rfl wc.heap.size 69 (.agg #[.string ⟨#[]⟩, .int .i64 0, .int .i64 0, .int .i64 0, .int .i64 0, .int .i64 0, .int .i64 0, .slice none 0 0]) 8 88 encDemX Tryz.underlying30 (by kernel_rfl) rfl (by omega) encDemX_len encDemX_one _ LD [((⟨dn, ⟨(d1, d2, d3), d4, d5, d6⟩, ds⟩ : DemD), A7, c7)] rfl HRa.out (some ⟨wz.heap.size, 0, none⟩) 1 1 rfl rfl HY.out (by rw [HLD.out]; omega) (by simp) (by omega) (by simp; omega) ?_
   intro B9 e9 w9 hrow9 hb9 hg9
   rw [HLD.out] at hrow9 ⊢
   have hap3 : some g3 ≠ (Value.slice A9 i c9).ownBlock := fun h9 => row_base HRa.out (show g3 < wc.heap.size by omega) h9.symm
   have hap0 : some w.heap.size ≠ (Value.slice A9 i c9).ownBlock := fun h9 => row_base HRa.out (show w.heap.size < wc.heap.size by omega) h9.symm
   have hap1 : some (w.heap.size + 1) ≠ (Value.slice A9 i c9).ownBlock := fun h9 => row_base HRa.out (show w.heap.size + 1 < wc.heap.size by omega) h9.symm
   have HSb := hide (And.intro (HSa.out.1.grown hg9 hap3) (And.intro (HSa.out.2.1.grown hg9 hap0) (HSa.out.2.2.trans (hb9.mono (show w.heap.size ≤ wc.heap.size by omega)))))
   have Kzb := hide ((Kzz.out.alloc (.cells #[.string dn, .int .i64 d1, .int .i64 d2, .int .i64 d3, .int .i64 d4, .int .i64 d5, .int .i64 d6, .slice A7 ds.length c7] 69)).grown hg9 hap1)
   have k3 := HSb.out.1.set_ 9 (.slice B9 (i + 1) e9)
   have K3n := hide (show Blk (w9.setCell ⟨g3, 9, none⟩ (.slice B9 (i + 1) e9)) g3 34 (detCells x.mem x.rule { s with a1 := A1, c1 := c1, a2 := A2, c2 := c2, a3 := A3, c3 := c3, a4 := A4, c4 := c4, a5 := A5, c5 := c5, a6 := B9, n6 := i + 1, c6 := e9 }) from by
    simp only [detCells, zzD, zzE, zzF] at k3 ⊢
    exact k3)
   have hr9' : Row w9 wc.heap.size 69 8 encDemX (.slice B9 (i + 1) e9) (LD ++ [((⟨dn, ⟨(d1, d2, d3), d4, d5, d6⟩, ds⟩ : DemD), A7, c7)]) := hrow9
   have HRn := hide (row_kept hr9' (grown_set w9 g3 9 (.slice B9 (i + 1) e9)) (fun k hk => by
    injection hk with hk
    exact row_base hr9' (by omega)))
   have HDn := hide (fun p (hp : p ∈ LD ++ [((⟨dn, ⟨(d1, d2, d3), d4, d5, d6⟩, ds⟩ : DemD), A7, c7)]) => show Row (w9.setCell ⟨g3, 9, none⟩ (.slice B9 (i + 1) e9)) wc.heap.size 71 2 encStp (.slice p.2.1 p.1.steps.length p.2.2) p.1.steps from by
    have key : Row w9 wc.heap.size 71 2 encStp (.slice p.2.1 p.1.steps.length p.2.2) p.1.steps := by
     rcases List.mem_append.1 hp with hp | hp
     ·exact row_kept ((HDz.out p hp).alloc _) hg9 (rows_apart ((HDz.out p hp).alloc _) HRa.out (by decide))
     ·rw [List.mem_singleton] at hp
      subst hp
      exact row_kept (HNz.out.alloc _) hg9 (rows_apart (HNz.out.alloc _) HRa.out (by decide))
    exact row_kept key (grown_set w9 g3 9 (.slice B9 (i + 1) e9)) (fun k hk => by
     injection hk with hk
     exact row_base key (by omega)))
   have HGn := hide (((HGz.out.trans (grown_below (below_new wz (.cells #[.string dn, .int .i64 d1, .int .i64 d2, .int .i64 d3, .int .i64 d4, .int .i64 d5, .int .i64 d6, .slice A7 ds.length c7] 69)) (some g3))).andThen hg9 (fun q hq => .inl (Nat.le_of_not_lt (fun h9 => row_base HRa.out h9 hq)))).trans (grown_set w9 g3 9 (.slice B9 (i + 1) e9)))
   have e8 := HSb.out.1.cell 9
   have f8 := HSb.out.1.frozen 9
   simp only [detCells] at e8
   simp at e8
   refine hK.out _ _ (fun _ => HSb.out) (fun h8 => ?_)
   clear h8 hK K hap3 hap0 hap1 k3 hr9' hrow9 hb9 hg9 HNz HDz HGz Kzz HS7 HSa HRa HY HRz
   (try simp only [zzA, zzB, zzC, Act.put, zzD, zzE, zzF])
   refine HeldTo.one (i := 10) (by kernel_rfl) rfl (fun K hK => ?_)
   go_simp
   refine hK.out _ _ (fun _ => HSb.out) (fun h8 => ?_)
   clear h8 hK K
   (try simp only [zzA, zzB, zzC, Act.put, zzD, zzE, zzF])
   refine HeldTo.one (i := 11) (by kernel_rfl) rfl (fun K hK => ?_)
   go_simp
   refine hK.out _ _ (fun h9 => absurd h9 (by omega)) (fun h8 => HeldTo.done (by kernel_rfl) ?_ _)
   clear h8 hK K e8 f8 HSb
   go_wp2_with fail
   go_roundw
   case rel => exact ⟨i + 1, by omega, by go_num, ⟨B9, e9, LD ++ [((⟨dn, ⟨(d1, d2, d3), d4, d5, d6⟩, ds⟩ : DemD), A7, c7)], K3n, HRn, hide (by rw [List.map_append, hmap.out, take_snoc' Hx.out]; rfl), HDn⟩, HGn⟩
   case measure => simp [intOf]; omega
  ·obtain rfl : s.n6 = i := by omega
   have a9 := Kx.out.cell 9
   simp only [detCells] at a9
   simp at a9
   have lx := Kx.out.lt
   have hG := hgr.out
   replace G1 := hide (G1.out.kept hG (fun k hk _ hr => by
    injection hk with hk
    exact row_base hr (by omega)))
   replace G2 := hide (G2.out.kept hG (fun k hk _ hr => by
    injection hk with hk
    exact row_base hr (by omega)))
   replace R3 := hide (row_kept R3.out hG (fun k hk => by
    injection hk with hk
    exact row_base R3.out (by omega)))
   replace D3 := hide (fun p hp => row_kept (D3.out p hp) hG (fun k hk => by
    injection hk with hk
    exact row_base (D3.out p hp) (by omega)))
   replace R4 := hide (row_kept R4.out hG (fun k hk => by
    injection hk with hk
    exact row_base R4.out (by omega)))
   replace R5 := hide (row_kept R5.out hG (fun k hk => by
    injection hk with hk
    exact row_base R5.out (by omega)))
   have hl6 : LD.map (·.1) = x.dems := by rw [hmap.out, HL6.out, List.take_length]
   have HLo := hide (RefLow.mk (s := { s with a1 := A1, c1 := c1, a2 := A2, c2 := c2, a3 := A3, c3 := c3, a4 := A4, c4 := c4, a5 := A5, c5 := c5, a6 := A9, n6 := s.n6, c6 := c9 }) G1.out G2.out R3.out R4.out R5.out (row_mono hrow.out (show w3.heap.size ≤ wc.heap.size by omega)) M3.out hl6 D3.out (fun p hp => row_mono (hsub.out p hp) (show w3.heap.size ≤ wc.heap.size by omega)))
   have hi9 : (Tryz.prog.info? 34).map (·.size) = some (detCells x.mem x.rule { s with a1 := A1, c1 := c1, a2 := A2, c2 := c2, a3 := A3, c3 := c3, a4 := A4, c4 := c4, a5 := A5, c5 := c5, a6 := A9, n6 := s.n6, c6 := c9 }).size := Hi.out _
   have Hi9 := hide hi9
   clear hG hl6 G1 G2 R3 D3 R4 R5 M3 hrow hmap hsub hgr hi9
   generalize hcs : detCells x.mem x.rule { s with a1 := A1, c1 := c1, a2 := A2, c2 := c2, a3 := A3, c3 := c3, a4 := A4, c4 := c4, a5 := A5, c5 := c5, a6 := A9, n6 := s.n6, c6 := c9 } = CS at *
   have Hcs := hide hcs
   clear hcs
   have Ho9 := hide (show CS.all (·.oneCell') = true by rw [← Hcs.out]; kernel_rfl)
   have Hz9 := hide (show zeroD.size = CS.size by rw [← Hcs.out]; kernel_rfl)
   go_wp2_with (first
    | (refine wpList_load_row rfl 34 (.tmp 3) rfl g3 rfl 34 _ (0, 0) _ hK3.out Tryz.underlying34 rfl Hi9.out ?_)
    | (refine wpList_store_row rfl 34 (.tmp 2) (.tmp 45) rfl (w.heap.size + 1) CS rfl rfl 34 _ Kz.out Hi9.out Hz9.out Ho9.out ?_))
   refine bodyPost_ret (results_c rfl rfl (setRow_heap _ (w.heap.size + 1) _ _ _ _ Kz.out) Tryz.underlying34 rfl Hi9.out) rfl ?_
   refine ⟨{ s with a1 := A1, c1 := c1, a2 := A2, c2 := c2, a3 := A3, c3 := c3, a4 := A4, c4 := c4, a5 := A5, c5 := c5, a6 := A9, n6 := s.n6, c6 := c9 }, LB, LD, by rw [detV, Hcs.out], ⟨rfl, rfl, rfl, rfl, rfl, rfl⟩, (HLo.out.kept (grown_row _ _ _) (fun k hk => ?_)).mono (show w.heap.size ≤ w3.heap.size by omega), Below.setRow Hwv.out (by omega) _⟩
   injection hk with hk
   omega
end Go.Proofs.YtpaanfjjnjjoeaaGreat
