/- detail.copied. -/
import Derived.Test.YtpaanfjjnjjoeaaGreatSaj
import Derived.Deep.CutRange
set_option maxHeartbeats 8000000
set_option maxRecDepth 100000
namespace Go.Proofs.YtpaanfjjnjjoeaaGreat
open Go.RowKit
theorem zlE {α β : Type} (f : α → β) : ∀ {l : List α} {i : Nat} {p y : α}, l[i]? = some p → f y = f p → (l.set i y).map f = l.map f
 | [], _, _, _, h, _ => by cases h
 | a :: l, 0, _, _, h, hy => by
  injection h with h
  subst h;rw [zzE, List.map_cons, List.map_cons, hy]
 | a :: l, i + 1, _, _, h, hy => by
  rw [zzF, List.map_cons, List.map_cons, zlE f (show l[i]? = _ from h) hy]
theorem zrq (x : DetD) (s : DetS) {B : Nat} (w : World) (h : DetAt w B x s) (hB : B ≤ w.heap.size) (hf : DetFit x s) (hm1 : s.n1 ≤ 300000) (hm2 : s.n2 ≤ 300000) (hm3 : ∀ b ∈ x.bars, b.dims.length ≤ 300000) (hm6 : ∀ d ∈ x.dems, d.steps.length ≤ 300000) :
  Calls Tryz.prog 63 #[zcZ x s] w fun e w' => ∃ (s' : DetS) (b : Nat → Nat) (LB : List zdU) (LD : List zdT), e = .returned (zcZ x s') ∧ (s'.n1 = s.n1 ∧ s'.n2 = s.n2 ∧ s'.n3 = s.n3 ∧ s'.n4 = s.n4 ∧ s'.n5 = s.n5 ∧ s'.n6 = s.n6) ∧ OwnDet w' w.heap.size x s' b LB LD ∧ Below w.heap.size w w' := by
 have HC1 := zf (fun (W : World) (hz : Below w.heap.size w W) => zh1 s.a1 x.mem.boxes s.n1 s.c1 W (h.h1.carry (Flat.carried _) (hz.mono hB) (ze _)) (zh hB hz.size) hf.l1 hm1);have HC2 := zf (fun (W : World) (hz : Below w.heap.size w W) => zh1 s.a2 x.mem.holes s.n2 s.c2 W (h.h2.carry (Flat.carried _) (hz.mono hB) (ze _)) (zh hB hz.size) hf.l2 hm2);obtain ⟨LB, hLB, hSB, hIB⟩ := zpz h.h3;obtain ⟨LD, hLD, hSD, hID⟩ := zpo h.h6;have hlb : s.n3 = LB.length := by rw [hf.l3, ← hLB, zw]
 have hld : s.n6 = LD.length := by rw [hf.l6, ← hLD, zw]
 have hb3 := hf.m3;have hb4 := hf.m4;have hb5 := hf.m5;have hb6 := hf.m6;have HC3 := zf (fun (W : World) (hz : Below w.heap.size w W) => zkB s.a3 LB s.n3 s.c3 W (hSB.carry (Flat.carried _) (hz.mono hB) (ze _)) (zh hB hz.size) hlb (by omega));have HC4 := zf (fun (W : World) (hz : Below w.heap.size w W) => zmu s.a4 x.runs s.n4 s.c4 W (h.h4.carry (Flat.carried _) (hz.mono hB) (ze _)) (zh hB hz.size) hf.l4 (by omega));have HC5 := zf (fun (W : World) (hz : Below w.heap.size w W) => zkz s.a5 x.laps s.n5 s.c5 W (h.h5.carry (Flat.carried _) (hz.mono hB) (ze _)) (zh hB hz.size) hf.l5 (by omega));have HC6 := zf (fun (W : World) (hz : Below w.heap.size w W) => zkA s.a6 LD s.n6 s.c6 W (hSD.carry (Flat.carried _) (hz.mono hB) (ze _)) (zh hB hz.size) hld (by omega));have HI3 := zf (fun (W : World) (hz : Below w.heap.size w W) (p : zdU) (hp : p ∈ LB) => show Ints W W.heap.size p.2.1 p.1.dims from (hIB p hp).carry (hz.mono hB) (zh hB hz.size));have HI6 := zf (fun (W : World) (hz : Below w.heap.size w W) (p : zdT) (hp : p ∈ LD) => show StpsAt W W.heap.size p.2.1 p.1.steps from (hID p hp).carry (Flat.carried _) (hz.mono hB) (zh hB hz.size));have HC7 := zf (fun (p : zdU) (hp : p ∈ LB) (W : World) (hz : Below w.heap.size w W) => zmv p.2.1 p.1.dims p.1.dims.length p.2.2 W (HI3.out W hz p hp) (ze _) rfl (hm3 p.1 (by rw [← hLB]; exact List.mem_map.2 ⟨p, hp, rfl⟩)));have HC8 := zf (fun (p : zdT) (hp : p ∈ LD) (W : World) (hz : Below w.heap.size w W) => zmt p.2.1 p.1.steps p.1.steps.length p.2.2 W (HI6.out W hz p hp) (ze _) rfl (hm6 p.1 (by rw [← hLD]; exact List.mem_map.2 ⟨p, hp, rfl⟩)));have Hlb := zf hlb;have Hld := zf hld;have HLB := zf hLB;have HLD := zf hLD;have K0 := zf ((Blk.new w 34 (zp x.mem x.rule s)).alloc (.cells #[.string ⟨#[]⟩, .slice none 0 0, .slice none 0 0, .int .i64 0, .int .i64 0, .int .i64 0, .slice none 0 0, .slice none 0 0, .slice none 0 0, .slice none 0 0, .int .i64 0, .int .i64 0, .int .i64 0, .int .i64 0, .int .i64 0, .int .i64 0, .int .i64 0, .int .i64 0, .int .i64 0] 34));have K1 := zf (Blk.new1 w (.cells (zp x.mem x.rule s) 34) 34 #[.string ⟨#[]⟩, .slice none 0 0, .slice none 0 0, .int .i64 0, .int .i64 0, .int .i64 0, .slice none 0 0, .slice none 0 0, .slice none 0 0, .slice none 0 0, .int .i64 0, .int .i64 0, .int .i64 0, .int .i64 0, .int .i64 0, .int .i64 0, .int .i64 0, .int .i64 0, .int .i64 0]);have HX := zf (zH w (.cells (zp x.mem x.rule s) 34) (.cells #[.string ⟨#[]⟩, .slice none 0 0, .slice none 0 0, .int .i64 0, .int .i64 0, .int .i64 0, .slice none 0 0, .slice none 0 0, .slice none 0 0, .slice none 0 0, .int .i64 0, .int .i64 0, .int .i64 0, .int .i64 0, .int .i64 0, .int .i64 0, .int .i64 0, .int .i64 0, .int .i64 0] 34));obtain ⟨⟨name, boxes, holes, cover, agg, poker⟩, bars, runs, laps, dems, ⟨r1, r2, r3, r4, r5, r6, r7, r8, r9⟩⟩ := x;obtain ⟨a1, n1, c1, a2, n2, c2, a3, n3, c3, a4, n4, c4, a5, n5, c5, a6, n6, c6⟩ := s;simp only [zp] at K0 K1 HX;simp only at HC1 HC2 HC3 HC4 HC5 HC6 Hlb Hld HLB HLD hb3 hb4 hb5 hb6;have HCa := zf (fun (W : World) (h : Blk W w.heap.size 34 #[.string name, .slice a1 n1 c1, .slice a2 n2 c2, .int .i64 cover, .int .i64 agg, .int .i64 poker, .slice a3 n3 c3, .slice a4 n4 c4, .slice a5 n5 c5, .slice a6 n6 c6, .int .i64 r1, .int .i64 r2, .int .i64 r3, .int .i64 r4, .int .i64 r5, .int .i64 r6, .int .i64 r7, .int .i64 r8, .int .i64 r9]) => show W.cell? ⟨w.heap.size, 1, none⟩ = some (.slice a1 n1 c1) ∧ W.cell? ⟨w.heap.size, 2, none⟩ = some (.slice a2 n2 c2) from ⟨h.cell 1, h.cell 2⟩);clear hm3 hm6 HI3 HI6 h hf hLB hLD hSB hSD hIB hID hlb hld
 show Calls Tryz.prog 63 #[.agg #[.string name, .slice a1 n1 c1, .slice a2 n2 c2, .int .i64 cover, .int .i64 agg, .int .i64 poker, .slice a3 n3 c3, .slice a4 n4 c4, .slice a5 n5 c5, .slice a6 n6 c6, .int .i64 r1, .int .i64 r2, .int .i64 r3, .int .i64 r4, .int .i64 r5, .int .i64 r6, .int .i64 r7, .int .i64 r8, .int .i64 r9]] w _
 go_enter Tryz.func63, Tryz.ntmps63;go_wp2_with fail;generalize World.alloc (World.alloc w _) _ = w2 at K0 K1 HX ⊢;have L2 := K1.out.lt;refine zby (S := fun W => W.cell? ⟨w.heap.size, 1, none⟩ = some (.slice a1 n1 c1) ∧ W.cell? ⟨w.heap.size, 2, none⟩ = some (.slice a2 n2 c2)) (n := 11) (by kernel_rfl) ?_;replace HX := zf HX.out.drew;replace K0 := zf K0.out.drew;replace K1 := zf K1.out.drew;generalize w2.drew = w3 at *;have L3 : w.heap.size + 1 < w3.heap.size := K1.out.lt;refine HeldTo.take (i := 0) (v := ?_) rfl (by kernel_rfl) (by kernel_rfl) (by kernel_rfl) (by kernel_rfl) (fun _ _ _ h => h) (Or.inl ⟨by rfl, ?_⟩) (HCa.out _ K0.out) ?_;rotate_left
 ·intro w hSw
  (try dsimp only at hSw)
  go_simp
  first | done | with_reducible rfl
 (try simp only [zzA, zzC, Act.put, zzD, zzE, zzF])
 refine HeldTo.take (i := 1) (v := ?_) rfl (by kernel_rfl) (by kernel_rfl) (by kernel_rfl) (by kernel_rfl) (fun _ _ _ h => h) (Or.inl ⟨by rfl, ?_⟩) (HCa.out _ K0.out) ?_;rotate_left
 ·intro w hSw
  (try dsimp only at hSw)
  go_simp
  first | done | with_reducible rfl
 (try simp only [zzA, zzB, zzC, Act.put, zzD, zzE, zzF])
 refine HeldTo.take (i := 2) (v := ?_) rfl (by kernel_rfl) (by kernel_rfl) (by kernel_rfl) (by kernel_rfl) (fun _ _ _ h => h) (Or.inl ⟨by rfl, ?_⟩) (HCa.out _ K0.out) ?_;rotate_left
 ·intro w hSw
  (try dsimp only at hSw)
  go_simp
  first | done | with_reducible rfl
 (try simp only [zzA, zzB, zzC, Act.put, zzD, zzE, zzF])
 refine HeldTo.take (i := 3) (v := ?_) rfl (by kernel_rfl) (by kernel_rfl) (by kernel_rfl) (by kernel_rfl) (fun _ _ _ h => h) (Or.inl ⟨by rfl, ?_⟩) (HCa.out _ K0.out) ?_;rotate_left
 ·intro w hSw
  (try dsimp only at hSw)
  go_simp
  first | done | with_reducible rfl
 (try simp only [zzA, zzB, zzC, Act.put, zzD, zzE, zzF])
 refine HeldTo.take (i := 5) (v := ?_) rfl (by kernel_rfl) (by kernel_rfl) (by kernel_rfl) (by kernel_rfl) (fun _ _ _ h => h) (Or.inl ⟨by rfl, ?_⟩) (HCa.out _ K0.out) ?_;rotate_left
 ·intro w hSw
  (try dsimp only at hSw)
  go_simp
  first | done | with_reducible rfl
 (try simp only [zzA, zzB, zzC, Act.put, zzD, zzE, zzF])
 refine HeldTo.take (i := 6) (v := ?_) rfl (by kernel_rfl) (by kernel_rfl) (by kernel_rfl) (by kernel_rfl) (fun _ _ _ h => h) (Or.inl ⟨by rfl, ?_⟩) (HCa.out _ K0.out) ?_;rotate_left
 ·intro w hSw
  (try dsimp only at hSw)
  go_simp
  first | done | with_reducible rfl
 (try simp only [zzA, zzB, zzC, Act.put, zzD, zzE, zzF])
 refine HeldTo.take (i := 7) (v := ?_) rfl (by kernel_rfl) (by kernel_rfl) (by kernel_rfl) (by kernel_rfl) (fun _ _ _ h => h) (Or.inl ⟨by rfl, ?_⟩) (HCa.out _ K0.out) ?_;rotate_left
 ·intro w hSw
  (try dsimp only at hSw)
  go_simp
  first | done | with_reducible rfl
 (try simp only [zzA, zzB, zzC, Act.put, zzD, zzE, zzF])
 refine HeldTo.take (i := 8) (v := ?_) rfl (by kernel_rfl) (by kernel_rfl) (by kernel_rfl) (by kernel_rfl) (fun _ _ _ h => h) (Or.inl ⟨by rfl, ?_⟩) (HCa.out _ K0.out) ?_;rotate_left
 ·intro w hSw
  (try dsimp only at hSw)
  go_simp
  first | done | with_reducible rfl
 (try simp only [zzA, zzB, zzC, Act.put, zzD, zzE, zzF])
 refine HeldTo.one (i := 4) (by kernel_rfl) rfl (fun K hK => ?_);go_simp;refine (HC1.out _ HX.out).mono ?_;rintro e w4 ⟨A1, d1, rfl, hr, hbz⟩;have R1 := zf (InRow.new hr);have zw4 := hbz.size;replace HX := zf (zg HX.out hbz (ze _));replace K0 := zf (K0.out.keep hbz);replace K1 := zf (K1.out.keep hbz);have Lw4 := K1.out.lt;clear hr hbz;go_wp2_with fail;refine hK.out _ _ (fun _ => HCa.out _ K0.out) (fun h8 => ?_);clear h8 hK K
 (try simp only [zzA, zzB, zzC, Act.put, zzD, zzE, zzF])
 refine HeldTo.one (i := 9) (by kernel_rfl) rfl (fun K hK => ?_);go_simp;refine (HC2.out _ HX.out).mono ?_;rintro e w5 ⟨A2, d2, rfl, hr, hbz⟩;have R2 := zf (InRow.new hr);have zw5 := hbz.size;replace HX := zf (zg HX.out hbz (ze _));replace K0 := zf (K0.out.keep hbz);replace K1 := zf (K1.out.keep hbz);replace R1 := zf (R1.out.keep hbz);have Lw5 := K1.out.lt;clear hr hbz;go_wp2_with fail;refine hK.out _ _ (fun _ => HCa.out _ K0.out) (fun h8 => ?_);clear h8 hK K
 (try simp only [zzA, zzB, zzC, Act.put, zzD, zzE, zzF])
 refine HeldTo.one (i := 10) (by kernel_rfl) rfl (fun K hK => ?_);go_simp;refine hK.out _ _ (fun _ => HCa.out _ K0.out) (fun h8 => ?_);clear h8 hK K
 (try simp only [zzA, zzB, zzC, Act.put, zzD, zzE, zzF])
 refine HeldTo.one (i := 11) (by kernel_rfl) rfl (fun K hK => ?_);go_simp;refine hK.out _ _ (fun h9 => absurd h9 (by decide)) (fun h8 => ?_);clear h8 hK K
 (try simp only [zzA, zzB, zzC, Act.put, zzD, zzE, zzF])
 refine HeldTo.one (i := 12) (by kernel_rfl) rfl (fun K hK => ?_);go_simp;refine hK.out _ _ (fun h9 => absurd h9 (by decide)) (fun h8 => ?_);clear h8 hK K
 (try simp only [zzA, zzB, zzC, Act.put, zzD, zzE, zzF])
 have e1 := K0.out.cell 1;have f1 := K0.out.frozen 1;have e2 := (K0.out.set_ 1 (.slice A1 n1 d1)).cell 2;have f2 := (K0.out.set_ 1 (.slice A1 n1 d1)).frozen 2;simp at e1 e2;refine HeldTo.one (i := 13) (by kernel_rfl) rfl (fun K hK => ?_);go_simp;clear e1 f1 e2 f2;refine hK.out _ _ (fun h9 => absurd h9 (by decide)) (fun h8 => ?_);clear h8 hK K HCa;replace HX := zf (HX.out.setCell (p := ⟨w.heap.size, 1, none⟩) (ze _) (.slice A1 n1 d1));replace K0 := zf (K0.out.set_ 1 (.slice A1 n1 d1));replace K1 := zf (K1.out.far (p := ⟨w.heap.size, 1, none⟩) (by simp) (.slice A1 n1 d1));simp only [zzD, zzE, zzF] at K0;replace R1 := zf (R1.out.set_ (a := ⟨w.heap.size, 1, none⟩) (show w.heap.size < _ by omega) (.slice A1 n1 d1));replace R2 := zf (R2.out.set_ (a := ⟨w.heap.size, 1, none⟩) (show w.heap.size < _ by omega) (.slice A1 n1 d1));have zw6x := Nat.le_of_eq (zzG w5 ⟨w.heap.size, 1, none⟩ (.slice A1 n1 d1)).symm;generalize World.setCell w5 ⟨w.heap.size, 1, none⟩ (.slice A1 n1 d1) = w6x at *;replace HX := zf (HX.out.setCell (p := ⟨w.heap.size, 2, none⟩) (ze _) (.slice A2 n2 d2));replace K0 := zf (K0.out.set_ 2 (.slice A2 n2 d2));replace K1 := zf (K1.out.far (p := ⟨w.heap.size, 2, none⟩) (by simp) (.slice A2 n2 d2));simp only [zzD, zzE, zzF] at K0;replace R1 := zf (R1.out.set_ (a := ⟨w.heap.size, 2, none⟩) (show w.heap.size < _ by omega) (.slice A2 n2 d2));replace R2 := zf (R2.out.set_ (a := ⟨w.heap.size, 2, none⟩) (show w.heap.size < _ by omega) (.slice A2 n2 d2));have zw6 := Nat.le_of_eq (zzG w6x ⟨w.heap.size, 2, none⟩ (.slice A2 n2 d2)).symm;generalize World.setCell w6x ⟨w.heap.size, 2, none⟩ (.slice A2 n2 d2) = w6 at *
 (try simp only [zzA, zzB, zzC, Act.put, zzD, zzE, zzF])
 refine HeldTo.done (by kernel_rfl) ?_ _;go_wp2_with fail;have HCb := zf (fun (W : World) (h : Blk W w.heap.size 34 #[.string name, .slice A1 n1 d1, .slice A2 n2 d2, .int .i64 cover, .int .i64 agg, .int .i64 poker, .slice a3 n3 c3, .slice a4 n4 c4, .slice a5 n5 c5, .slice a6 n6 c6, .int .i64 r1, .int .i64 r2, .int .i64 r3, .int .i64 r4, .int .i64 r5, .int .i64 r6, .int .i64 r7, .int .i64 r8, .int .i64 r9]) => show W.cell? ⟨w.heap.size, 6, none⟩ = some (.slice a3 n3 c3) ∧ W.cell? ⟨w.heap.size, 7, none⟩ = some (.slice a4 n4 c4) ∧ W.cell? ⟨w.heap.size, 8, none⟩ = some (.slice a5 n5 c5) ∧ W.cell? ⟨w.heap.size, 9, none⟩ = some (.slice a6 n6 c6) from ⟨h.cell 6, h.cell 7, h.cell 8, h.cell 9⟩);refine zby (S := fun W => W.cell? ⟨w.heap.size, 6, none⟩ = some (.slice a3 n3 c3) ∧ W.cell? ⟨w.heap.size, 7, none⟩ = some (.slice a4 n4 c4) ∧ W.cell? ⟨w.heap.size, 8, none⟩ = some (.slice a5 n5 c5) ∧ W.cell? ⟨w.heap.size, 9, none⟩ = some (.slice a6 n6 c6)) (n := 12) (by kernel_rfl) ?_;replace HX := zf HX.out.drew;replace K0 := zf K0.out.drew;replace K1 := zf K1.out.drew;replace R1 := zf R1.out.drew;replace R2 := zf R2.out.drew;have zw7 : w6.heap.size ≤ w6.drew.heap.size := ze _;generalize w6.drew = w7 at *;have L7 : w.heap.size + 1 < w7.heap.size := K1.out.lt;refine HeldTo.take (i := 0) (v := ?_) rfl (by kernel_rfl) (by kernel_rfl) (by kernel_rfl) (by kernel_rfl) (fun _ _ _ h => h) (Or.inl ⟨by rfl, ?_⟩) (HCb.out _ K0.out) ?_;rotate_left
 ·intro w hSw
  (try dsimp only at hSw)
  go_simp
  first | done | with_reducible rfl
 (try simp only [zzA, zzC, Act.put, zzD, zzE, zzF])
 refine HeldTo.take (i := 1) (v := ?_) rfl (by kernel_rfl) (by kernel_rfl) (by kernel_rfl) (by kernel_rfl) (fun _ _ _ h => h) (Or.inl ⟨by rfl, ?_⟩) (HCb.out _ K0.out) ?_;rotate_left
 ·intro w hSw
  (try dsimp only at hSw)
  go_simp
  first | done | with_reducible rfl
 (try simp only [zzA, zzB, zzC, Act.put, zzD, zzE, zzF])
 refine HeldTo.take (i := 3) (v := ?_) rfl (by kernel_rfl) (by kernel_rfl) (by kernel_rfl) (by kernel_rfl) (fun _ _ _ h => h) (Or.inl ⟨by rfl, ?_⟩) (HCb.out _ K0.out) ?_;rotate_left
 ·intro w hSw
  (try dsimp only at hSw)
  go_simp
  first | done | with_reducible rfl
 (try simp only [zzA, zzB, zzC, Act.put, zzD, zzE, zzF])
 refine HeldTo.take (i := 4) (v := ?_) rfl (by kernel_rfl) (by kernel_rfl) (by kernel_rfl) (by kernel_rfl) (fun _ _ _ h => h) (Or.inl ⟨by rfl, ?_⟩) (HCb.out _ K0.out) ?_;rotate_left
 ·intro w hSw
  (try dsimp only at hSw)
  go_simp
  first | done | with_reducible rfl
 (try simp only [zzA, zzB, zzC, Act.put, zzD, zzE, zzF])
 refine HeldTo.take (i := 6) (v := ?_) rfl (by kernel_rfl) (by kernel_rfl) (by kernel_rfl) (by kernel_rfl) (fun _ _ _ h => h) (Or.inl ⟨by rfl, ?_⟩) (HCb.out _ K0.out) ?_;rotate_left
 ·intro w hSw
  (try dsimp only at hSw)
  go_simp
  first | done | with_reducible rfl
 (try simp only [zzA, zzB, zzC, Act.put, zzD, zzE, zzF])
 refine HeldTo.take (i := 7) (v := ?_) rfl (by kernel_rfl) (by kernel_rfl) (by kernel_rfl) (by kernel_rfl) (fun _ _ _ h => h) (Or.inl ⟨by rfl, ?_⟩) (HCb.out _ K0.out) ?_;rotate_left
 ·intro w hSw
  (try dsimp only at hSw)
  go_simp
  first | done | with_reducible rfl
 (try simp only [zzA, zzB, zzC, Act.put, zzD, zzE, zzF])
 refine HeldTo.take (i := 9) (v := ?_) rfl (by kernel_rfl) (by kernel_rfl) (by kernel_rfl) (by kernel_rfl) (fun _ _ _ h => h) (Or.inl ⟨by rfl, ?_⟩) (HCb.out _ K0.out) ?_;rotate_left
 ·intro w hSw
  (try dsimp only at hSw)
  go_simp
  first | done | with_reducible rfl
 (try simp only [zzA, zzB, zzC, Act.put, zzD, zzE, zzF])
 refine HeldTo.take (i := 10) (v := ?_) rfl (by kernel_rfl) (by kernel_rfl) (by kernel_rfl) (by kernel_rfl) (fun _ _ _ h => h) (Or.inl ⟨by rfl, ?_⟩) (HCb.out _ K0.out) ?_;rotate_left
 ·intro w hSw
  (try dsimp only at hSw)
  go_simp
  first | done | with_reducible rfl
 (try simp only [zzA, zzB, zzC, Act.put, zzD, zzE, zzF])
 refine HeldTo.one (i := 2) (by kernel_rfl) rfl (fun K hK => ?_);go_simp;refine (HC3.out _ HX.out).mono ?_;rintro e w8 ⟨A3, d3, rfl, hr, hbz⟩;have R3 := zf (InRow.new hr);have zw8 := hbz.size;replace HX := zf (zg HX.out hbz (ze _));replace K0 := zf (K0.out.keep hbz);replace K1 := zf (K1.out.keep hbz);replace R1 := zf (R1.out.keep hbz);replace R2 := zf (R2.out.keep hbz);have Lw8 := K1.out.lt;clear hr hbz;go_wp2_with fail;refine hK.out _ _ (fun _ => HCb.out _ K0.out) (fun h8 => ?_);clear h8 hK K
 (try simp only [zzA, zzB, zzC, Act.put, zzD, zzE, zzF])
 refine HeldTo.take (i := 12) (v := ?_) rfl (by kernel_rfl) (by kernel_rfl) (by kernel_rfl) (by kernel_rfl) (fun _ _ _ h => h) (Or.inl ⟨by rfl, ?_⟩) (HCb.out _ K0.out) ?_;rotate_left
 ·intro w hSw
  (try dsimp only at hSw)
  go_simp
  first | done | with_reducible rfl
 (try simp only [zzA, zzB, zzC, Act.put, zzD, zzE, zzF])
 refine HeldTo.one (i := 5) (by kernel_rfl) rfl (fun K hK => ?_);go_simp;refine (HC4.out _ HX.out).mono ?_;rintro e w9 ⟨A4, d4, rfl, hr, hbz⟩;have R4 := zf (InRow.new hr);have zw9 := hbz.size;replace HX := zf (zg HX.out hbz (ze _));replace K0 := zf (K0.out.keep hbz);replace K1 := zf (K1.out.keep hbz);replace R1 := zf (R1.out.keep hbz);replace R2 := zf (R2.out.keep hbz);replace R3 := zf (R3.out.keep hbz);have Lw9 := K1.out.lt;clear hr hbz;go_wp2_with fail;refine hK.out _ _ (fun _ => HCb.out _ K0.out) (fun h8 => ?_);clear h8 hK K
 (try simp only [zzA, zzB, zzC, Act.put, zzD, zzE, zzF])
 refine HeldTo.one (i := 8) (by kernel_rfl) rfl (fun K hK => ?_);go_simp;refine (HC5.out _ HX.out).mono ?_;rintro e w10 ⟨A5, d5, rfl, hr, hbz⟩;have R5 := zf (InRow.new hr);have zw10 := hbz.size;replace HX := zf (zg HX.out hbz (ze _));replace K0 := zf (K0.out.keep hbz);replace K1 := zf (K1.out.keep hbz);replace R1 := zf (R1.out.keep hbz);replace R2 := zf (R2.out.keep hbz);replace R3 := zf (R3.out.keep hbz);replace R4 := zf (R4.out.keep hbz);have Lw10 := K1.out.lt;clear hr hbz;go_wp2_with fail;refine hK.out _ _ (fun _ => HCb.out _ K0.out) (fun h8 => ?_);clear h8 hK K
 (try simp only [zzA, zzB, zzC, Act.put, zzD, zzE, zzF])
 refine HeldTo.one (i := 11) (by kernel_rfl) rfl (fun K hK => ?_);go_simp;refine (HC6.out _ HX.out).mono ?_;rintro e w11 ⟨A6, d6, rfl, hr, hbz⟩;have R6 := zf (InRow.new hr);have zw11 := hbz.size;replace HX := zf (zg HX.out hbz (ze _));replace K0 := zf (K0.out.keep hbz);replace K1 := zf (K1.out.keep hbz);replace R1 := zf (R1.out.keep hbz);replace R2 := zf (R2.out.keep hbz);replace R3 := zf (R3.out.keep hbz);replace R4 := zf (R4.out.keep hbz);replace R5 := zf (R5.out.keep hbz);have Lw11 := K1.out.lt;clear hr hbz;go_wp2_with fail;refine hK.out _ _ (fun _ => HCb.out _ K0.out) (fun h8 => ?_);clear h8 hK K
 (try simp only [zzA, zzB, zzC, Act.put, zzD, zzE, zzF])
 have e1 := K0.out.cell 6;have f1 := K0.out.frozen 6;simp at e1;refine HeldTo.one (i := 13) (by kernel_rfl) rfl (fun K hK => ?_);go_simp;clear e1 f1;refine hK.out _ _ (fun h9 => absurd h9 (by decide)) (fun h8 => ?_);clear h8 hK K;replace HX := zf (HX.out.setCell (p := ⟨w.heap.size, 6, none⟩) (ze _) (.slice A3 n3 d3));replace K0 := zf (K0.out.set_ 6 (.slice A3 n3 d3));replace K1 := zf (K1.out.far (p := ⟨w.heap.size, 6, none⟩) (by simp) (.slice A3 n3 d3));simp only [zzD, zzE, zzF] at K0;replace R1 := zf (R1.out.set_ (a := ⟨w.heap.size, 6, none⟩) (show w.heap.size < _ by omega) (.slice A3 n3 d3));replace R2 := zf (R2.out.set_ (a := ⟨w.heap.size, 6, none⟩) (show w.heap.size < _ by omega) (.slice A3 n3 d3));replace R3 := zf (R3.out.set_ (a := ⟨w.heap.size, 6, none⟩) (show w.heap.size < _ by omega) (.slice A3 n3 d3));replace R4 := zf (R4.out.set_ (a := ⟨w.heap.size, 6, none⟩) (show w.heap.size < _ by omega) (.slice A3 n3 d3));replace R5 := zf (R5.out.set_ (a := ⟨w.heap.size, 6, none⟩) (show w.heap.size < _ by omega) (.slice A3 n3 d3));replace R6 := zf (R6.out.set_ (a := ⟨w.heap.size, 6, none⟩) (show w.heap.size < _ by omega) (.slice A3 n3 d3));have zw12 := Nat.le_of_eq (zzG w11 ⟨w.heap.size, 6, none⟩ (.slice A3 n3 d3)).symm;generalize World.setCell w11 ⟨w.heap.size, 6, none⟩ (.slice A3 n3 d3) = w12 at *
 (try simp only [zzA, zzB, zzC, Act.put, zzD, zzE, zzF])
 refine HeldTo.one (i := 14) (by kernel_rfl) rfl (fun K hK => ?_);go_simp;refine hK.out _ _ (fun h9 => absurd h9 (by decide)) (fun h8 => ?_);clear h8 hK K
 (try simp only [zzA, zzB, zzC, Act.put, zzD, zzE, zzF])
 have e1 := K0.out.cell 7;have f1 := K0.out.frozen 7;simp at e1;refine HeldTo.one (i := 15) (by kernel_rfl) rfl (fun K hK => ?_);go_simp;clear e1 f1;refine hK.out _ _ (fun h9 => absurd h9 (by decide)) (fun h8 => ?_);clear h8 hK K;replace HX := zf (HX.out.setCell (p := ⟨w.heap.size, 7, none⟩) (ze _) (.slice A4 n4 d4));replace K0 := zf (K0.out.set_ 7 (.slice A4 n4 d4));replace K1 := zf (K1.out.far (p := ⟨w.heap.size, 7, none⟩) (by simp) (.slice A4 n4 d4));simp only [zzD, zzE, zzF] at K0;replace R1 := zf (R1.out.set_ (a := ⟨w.heap.size, 7, none⟩) (show w.heap.size < _ by omega) (.slice A4 n4 d4));replace R2 := zf (R2.out.set_ (a := ⟨w.heap.size, 7, none⟩) (show w.heap.size < _ by omega) (.slice A4 n4 d4));replace R3 := zf (R3.out.set_ (a := ⟨w.heap.size, 7, none⟩) (show w.heap.size < _ by omega) (.slice A4 n4 d4));replace R4 := zf (R4.out.set_ (a := ⟨w.heap.size, 7, none⟩) (show w.heap.size < _ by omega) (.slice A4 n4 d4));replace R5 := zf (R5.out.set_ (a := ⟨w.heap.size, 7, none⟩) (show w.heap.size < _ by omega) (.slice A4 n4 d4));replace R6 := zf (R6.out.set_ (a := ⟨w.heap.size, 7, none⟩) (show w.heap.size < _ by omega) (.slice A4 n4 d4));have zw13 := Nat.le_of_eq (zzG w12 ⟨w.heap.size, 7, none⟩ (.slice A4 n4 d4)).symm;generalize World.setCell w12 ⟨w.heap.size, 7, none⟩ (.slice A4 n4 d4) = w13 at *
 (try simp only [zzA, zzB, zzC, Act.put, zzD, zzE, zzF])
 refine HeldTo.one (i := 16) (by kernel_rfl) rfl (fun K hK => ?_);go_simp;refine hK.out _ _ (fun h9 => absurd h9 (by decide)) (fun h8 => ?_);clear h8 hK K
 (try simp only [zzA, zzB, zzC, Act.put, zzD, zzE, zzF])
 have e1 := K0.out.cell 8;have f1 := K0.out.frozen 8;simp at e1;refine HeldTo.one (i := 17) (by kernel_rfl) rfl (fun K hK => ?_);go_simp;clear e1 f1;refine hK.out _ _ (fun h9 => absurd h9 (by decide)) (fun h8 => ?_);clear h8 hK K;replace HX := zf (HX.out.setCell (p := ⟨w.heap.size, 8, none⟩) (ze _) (.slice A5 n5 d5));replace K0 := zf (K0.out.set_ 8 (.slice A5 n5 d5));replace K1 := zf (K1.out.far (p := ⟨w.heap.size, 8, none⟩) (by simp) (.slice A5 n5 d5));simp only [zzD, zzE, zzF] at K0;replace R1 := zf (R1.out.set_ (a := ⟨w.heap.size, 8, none⟩) (show w.heap.size < _ by omega) (.slice A5 n5 d5));replace R2 := zf (R2.out.set_ (a := ⟨w.heap.size, 8, none⟩) (show w.heap.size < _ by omega) (.slice A5 n5 d5));replace R3 := zf (R3.out.set_ (a := ⟨w.heap.size, 8, none⟩) (show w.heap.size < _ by omega) (.slice A5 n5 d5));replace R4 := zf (R4.out.set_ (a := ⟨w.heap.size, 8, none⟩) (show w.heap.size < _ by omega) (.slice A5 n5 d5));replace R5 := zf (R5.out.set_ (a := ⟨w.heap.size, 8, none⟩) (show w.heap.size < _ by omega) (.slice A5 n5 d5));replace R6 := zf (R6.out.set_ (a := ⟨w.heap.size, 8, none⟩) (show w.heap.size < _ by omega) (.slice A5 n5 d5));have zw14 := Nat.le_of_eq (zzG w13 ⟨w.heap.size, 8, none⟩ (.slice A5 n5 d5)).symm;generalize World.setCell w13 ⟨w.heap.size, 8, none⟩ (.slice A5 n5 d5) = w14 at *
 (try simp only [zzA, zzB, zzC, Act.put, zzD, zzE, zzF])
 refine HeldTo.one (i := 18) (by kernel_rfl) rfl (fun K hK => ?_);go_simp;refine hK.out _ _ (fun h9 => absurd h9 (by decide)) (fun h8 => ?_);clear h8 hK K
 (try simp only [zzA, zzB, zzC, Act.put, zzD, zzE, zzF])
 have e1 := K0.out.cell 9;have f1 := K0.out.frozen 9;simp at e1;refine HeldTo.one (i := 19) (by kernel_rfl) rfl (fun K hK => ?_);go_simp;clear e1 f1;refine hK.out _ _ (fun h9 => absurd h9 (by decide)) (fun h8 => ?_);clear h8 hK K;replace HX := zf (HX.out.setCell (p := ⟨w.heap.size, 9, none⟩) (ze _) (.slice A6 n6 d6));replace K0 := zf (K0.out.set_ 9 (.slice A6 n6 d6));replace K1 := zf (K1.out.far (p := ⟨w.heap.size, 9, none⟩) (by simp) (.slice A6 n6 d6));simp only [zzD, zzE, zzF] at K0;replace R1 := zf (R1.out.set_ (a := ⟨w.heap.size, 9, none⟩) (show w.heap.size < _ by omega) (.slice A6 n6 d6));replace R2 := zf (R2.out.set_ (a := ⟨w.heap.size, 9, none⟩) (show w.heap.size < _ by omega) (.slice A6 n6 d6));replace R3 := zf (R3.out.set_ (a := ⟨w.heap.size, 9, none⟩) (show w.heap.size < _ by omega) (.slice A6 n6 d6));replace R4 := zf (R4.out.set_ (a := ⟨w.heap.size, 9, none⟩) (show w.heap.size < _ by omega) (.slice A6 n6 d6));replace R5 := zf (R5.out.set_ (a := ⟨w.heap.size, 9, none⟩) (show w.heap.size < _ by omega) (.slice A6 n6 d6));replace R6 := zf (R6.out.set_ (a := ⟨w.heap.size, 9, none⟩) (show w.heap.size < _ by omega) (.slice A6 n6 d6));have zw15 := Nat.le_of_eq (zzG w14 ⟨w.heap.size, 9, none⟩ (.slice A6 n6 d6)).symm;generalize World.setCell w14 ⟨w.heap.size, 9, none⟩ (.slice A6 n6 d6) = w15 at *
 (try simp only [zzA, zzB, zzC, Act.put, zzD, zzE, zzF])
 refine HeldTo.done (by kernel_rfl) ?_ _;clear HCb;have Hi := zf (show (Tryz.prog.info? 34).map (·.size) = some 19 by kernel_rfl);clear HC1 HC2 HC3 HC4 HC5 HC6 hm1 hm2;have e6 := K0.out.cell 6;simp at e6;go_wp2_with fail;clear e6;have Hsub := zf (SubOwn.zero (t := 3) (size := 1) (enc := zaP) (sl := fun p : zdU => Value.slice p.2.1 p.1.dims.length p.2.2) (ls := fun p => p.1.dims) (w := w15) (lo := w15.heap.size) (L := LB));have Hgr0 := zf (zbW (Below.refl w15.heap.size w15) (Value.slice A3 n3 d3).ownBlock);go_loopw [37] (fun iv wr => ∃ i : Nat, i ≤ n3 ∧ iv = .int .i64 i ∧ (∃ L : List zdU, Hid (Row wr w7.heap.size 50 5 zdg (.slice A3 n3 d3) L) ∧ Hid (L.map (·.1) = LB.map (·.1)) ∧ Hid (∀ k, i ≤ k → L[k]? = LB[k]?) ∧ Hid (SubOwn 3 1 zaP (fun p : zdU => Value.slice p.2.1 p.1.dims.length p.2.2) (fun p => p.1.dims) wr w15.heap.size L i)) ∧ Hid (w15.grownBy wr (Value.slice A3 n3 d3).ownBlock) ∧ Hid (Below w.heap.size w wr)) (fun iv _ => n3 - (intOf iv).toNat)
 case atStart => exact ⟨0, zu _, rfl, ⟨LB, zf R3.out.row, zf rfl, zf (fun _ _ => rfl), Hsub⟩, Hgr0, HX⟩
 case round =>
  clear Hsub Hgr0 HX;obtain ⟨i, hi, rfl, ⟨L, hrow, hmp, hun, hso⟩, hgr, hbx⟩ := hrel;rename World => wr;by_cases hlt : i < n3
  ·have hll : L.length = n3 := by
    have hq9 := congrArg List.length hmp.out;simp only [zw] at hq9;rw [hq9];exact Hlb.out.symm
   obtain ⟨p, hp⟩ : ∃ p, L[i]? = some p := ⟨_, zi (by omega)⟩;have hpm : p ∈ LB := zv ((hun.out i (ze _)).symm.trans hp);obtain ⟨g3, cs, hA, hg3, hblk, hcs, _⟩ := zi7 zfq hrow.out (i := i) (j := 4) (x := p) (y := p) (u := .slice p.2.1 p.1.dims.length p.2.2) hp (by omega) rfl;subst hA;have hg15 : g3 < w15.heap.size := Nat.lt_of_not_le (fun h9 => zcS R3.out.row h9 rfl);have Hp := zf hp;have Hll := zf hll;have hne : some w.heap.size ≠ (Value.slice (some ⟨g3, 0, none⟩) n3 d3).ownBlock := by
    intro h9;injection h9 with h9
    simp only at h9;omega
   replace K0 := zf (K0.out.grown hgr.out hne);have KB := zf hblk;have e6 := K0.out.cell 6;have e4 := KB.out.cell (i * 5 + 4);rw [hcs 4 _ rfl] at e4;have ecs := hcs 4 _ rfl;simp at e6 e4;have HCq := zf (HC7.out p hpm);clear hp hll hblk hcs hpm;have HCc := zf (fun (V : World) (h : Below wr.heap.size wr V) => show V.cell? ⟨w.heap.size, 6, none⟩ = some (.slice (some ⟨g3, 0, none⟩) n3 d3) ∧ V.cell? ⟨g3, i * 5 + 4, none⟩ = some (.slice p.2.1 p.1.dims.length p.2.2) from ⟨(h.cell (p := ⟨w.heap.size, 6, none⟩) K0.out.lt).trans e6, (h.cell (p := ⟨g3, i * 5 + 4, none⟩) KB.out.lt).trans e4⟩);clear e6 e4;have hn9 : n3 ≤ 60000 := by assumption
   go_wp2_with fail;have Hcs := zf (show cs[i * 5 + 4]? = some (.slice p.2.1 p.1.dims.length p.2.2) from ecs);clear ecs;refine zby (S := fun V => V.cell? ⟨w.heap.size, 6, none⟩ = some (.slice (some ⟨g3, 0, none⟩) n3 d3) ∧ V.cell? ⟨g3, i * 5 + 4, none⟩ = some (.slice p.2.1 p.1.dims.length p.2.2)) (n := 10) (by kernel_rfl) ?_;have KX := zf (Below.drew (Below.refl wr.heap.size wr));have KW := zf (show wr.heap.size ≤ wr.drew.heap.size from ze _);have hbd := zf hbx.out.drew;have hsd := zf (hso.out.keep KX.out);generalize wr.drew = wd at *;refine HeldTo.take (i := 0) (v := ?_) rfl (by kernel_rfl) (by kernel_rfl) (by kernel_rfl) (by kernel_rfl) (fun _ _ _ h => h) (Or.inl ⟨by rfl, ?_⟩) (HCc.out _ KX.out) ?_;rotate_left
   ·intro w hSw
    (try dsimp only at hSw)
    go_simp
    first | done | with_reducible rfl
   (try simp only [zzA, zzC, Act.put, zzD, zzE, zzF])
   refine HeldTo.take (i := 1) (v := ?_) rfl (by kernel_rfl) (by kernel_rfl) (by kernel_rfl) (by kernel_rfl) (fun _ _ _ h => h) (Or.inl ⟨by rfl, ?_⟩) (HCc.out _ KX.out) ?_;rotate_left
   ·intro w hSw
    (try dsimp only at hSw)
    go_simp
    first | done | with_reducible rfl
   (try simp only [zzA, zzB, zzC, Act.put, zzD, zzE, zzF])
   refine HeldTo.take (i := 2) (v := ?_) rfl (by kernel_rfl) (by kernel_rfl) (by kernel_rfl) (by kernel_rfl) (fun _ _ _ h => h) (Or.inl ⟨by rfl, ?_⟩) (HCc.out _ KX.out) ?_;rotate_left
   ·intro w hSw
    (try dsimp only at hSw)
    go_simp
    first | done | with_reducible rfl
   (try simp only [zzA, zzB, zzC, Act.put, zzD, zzE, zzF])
   refine HeldTo.take (i := 3) (v := ?_) rfl (by kernel_rfl) (by kernel_rfl) (by kernel_rfl) (by kernel_rfl) (fun _ _ _ h => h) (Or.inl ⟨by rfl, ?_⟩) (HCc.out _ KX.out) ?_;rotate_left
   ·intro w hSw
    (try dsimp only at hSw)
    go_simp
    first | done | with_reducible rfl
   (try simp only [zzA, zzB, zzC, Act.put, zzD, zzE, zzF])
   refine HeldTo.take (i := 4) (v := ?_) rfl (by kernel_rfl) (by kernel_rfl) (by kernel_rfl) (by kernel_rfl) (fun _ _ _ h => h) (Or.inl ⟨by rfl, ?_⟩) (HCc.out _ KX.out) ?_;rotate_left
   ·intro w hSw
    (try dsimp only at hSw)
    go_simp
    first | done | with_reducible rfl
   (try simp only [zzA, zzB, zzC, Act.put, zzD, zzE, zzF])
   refine HeldTo.take (i := 5) (v := ?_) rfl (by kernel_rfl) (by kernel_rfl) (by kernel_rfl) (by kernel_rfl) (fun _ _ _ h => h) (Or.inl ⟨by rfl, ?_⟩) (HCc.out _ KX.out) ?_;rotate_left
   ·intro w hSw
    (try dsimp only at hSw)
    go_simp
    first | done | with_reducible rfl
   (try simp only [zzA, zzB, zzC, Act.put, zzD, zzE, zzF])
   refine HeldTo.take (i := 6) (v := ?_) rfl (by kernel_rfl) (by kernel_rfl) (by kernel_rfl) (by kernel_rfl) (fun _ _ _ h => h) (Or.inl ⟨by rfl, ?_⟩) (HCc.out _ KX.out) ?_;rotate_left
   ·intro w hSw
    (try dsimp only at hSw)
    go_simp
    first | done | with_reducible rfl
   (try simp only [zzA, zzB, zzC, Act.put, zzD, zzE, zzF])
   refine HeldTo.take (i := 7) (v := ?_) rfl (by kernel_rfl) (by kernel_rfl) (by kernel_rfl) (by kernel_rfl) (fun _ _ _ h => h) (Or.inl ⟨by rfl, ?_⟩) (HCc.out _ KX.out) ?_;rotate_left
   ·intro w hSw
    (try dsimp only at hSw)
    go_simp
    first | done | with_reducible rfl
   (try simp only [zzA, zzB, zzC, Act.put, zzD, zzE, zzF])
   refine HeldTo.take (i := 8) (v := ?_) rfl (by kernel_rfl) (by kernel_rfl) (by kernel_rfl) (by kernel_rfl) (fun _ _ _ h => h) (Or.inl ⟨by rfl, ?_⟩) (HCc.out _ KX.out) ?_;rotate_left
   ·intro w hSw
    (try dsimp only at hSw)
    go_simp
    first | done | with_reducible rfl
   (try simp only [zzA, zzB, zzC, Act.put, zzD, zzE, zzF])
   refine HeldTo.one (i := 9) (by kernel_rfl) rfl (fun K hK => ?_);go_simp;refine (HCq.out _ hbd.out).mono ?_;rintro e wz ⟨A9, c9, rfl, hr, hbz⟩;replace KX := zf (zg KX.out hbz (ze _));have Hr := zf hr;have Hbz := zf hbz;clear hr hbz;go_wp2_with fail;refine hK.out _ _ (fun _ => HCc.out _ KX.out) (fun h8 => ?_);clear h8 hK K
   (try simp only [zzA, zzB, zzC, Act.put, zzD, zzE, zzF])
   refine HeldTo.one (i := 10) (by kernel_rfl) rfl (fun K hK => ?_);go_simp;refine hK.out _ _ (fun h9 => absurd h9 (by decide)) (fun h8 => ?_);clear h8 hK K
   (try simp only [zzA, zzB, zzC, Act.put, zzD, zzE, zzF])
   refine HeldTo.one (i := 11) (by kernel_rfl) rfl (fun K hK => ?_);go_simp;refine hK.out _ _ (fun h9 => absurd h9 (by decide)) (fun h8 => ?_);clear h8 hK K
   (try simp only [zzA, zzB, zzC, Act.put, zzD, zzE, zzF])
   have e1 := (KB.out.below KX.out KB.out.lt).cell (i * 5 + 4);have f1 := (KB.out.below KX.out KB.out.lt).frozen (i * 5 + 4);rw [Hcs.out] at e1;refine HeldTo.one (i := 12) (by kernel_rfl) rfl (fun K hK => ?_);go_simp;clear e1 f1;refine hK.out _ _ (fun h9 => absurd h9 (by decide)) (fun h8 => ?_);clear h8 hK K;obtain ⟨g4, cs4, hA4, _, _, _, hrow2⟩ := zi7 zfq (hrow.out.keep KX.out) (i := i) (j := 4) (x := p) (y := (p.1, A9, c9)) (u := .slice A9 p.1.dims.length c9) Hp.out (by omega) rfl;have h34 : g4 = g3 := by
    injection hA4 with hA4
    injection hA4 with hA4
    exact hA4.symm
   subst h34;have hrow2 := zf hrow2;have hw15 := hgr.out.size;have hwd := KW.out;have hso2 := zf (((SubOwn.step hsd.out Hbz.out (y := (p.1, A9, c9)) Hr.out (zh hw15 hwd) (by rw [Hll.out]; exact hlt)).kept (zcy wz g4 (i * 5 + 4) (.slice A9 p.1.dims.length c9)) (fun k hk => by injection hk with hk; omega)))
   have hgr2 := zf (show w15.grownBy (wz.setCell ⟨g4, i * 5 + 4, none⟩ (.slice A9 p.1.dims.length c9)) (Value.slice (some ⟨g4, 0, none⟩) n3 d3).ownBlock from (hgr.out.trans (zbW KX.out _)).trans (zcy _ _ _ _));have hbx2 := zf ((zg hbx.out KX.out (show w.heap.size ≤ w.heap.size from ze _)).setCell (p := ⟨g4, i * 5 + 4, none⟩) (show w.heap.size ≤ g4 by omega) (.slice A9 p.1.dims.length c9));have hmp2 := zf ((zlE (fun q : zdU => q.1) (y := (p.1, A9, c9)) Hp.out rfl).trans hmp.out);have hun2 := zf (fun (k : Nat) (hk : i + 1 ≤ k) => (List.getElem?_set_ne (l := L) (a := ((p.1, A9, c9) : zdU)) (show i ≠ k by omega)).trans (hun.out k (by omega)));clear hA4;generalize World.setCell wz ⟨g4, i * 5 + 4, none⟩ (.slice A9 p.1.dims.length c9) = wn at *
   (try simp only [zzA, zzB, zzC, Act.put, zzD, zzE, zzF])
   refine HeldTo.done (by kernel_rfl) ?_ _;clear KX KW Hr Hbz HCc HCq Hcs KB hbd hsd K0;go_wp2;go_roundw
   case rel => exact ⟨i + 1, by omega, by go_num, ⟨L.set i (p.1, A9, c9), hrow2, hmp2, hun2, hso2⟩, hgr2, hbx2⟩
   case measure => simp [intOf]; omega
  ·obtain rfl : n3 = i := by omega
   replace K0 := zf (K0.out.grown hgr.out (fun h9 => zbs R3.out.row (by omega) h9.symm));replace K1 := zf (K1.out.grown hgr.out (fun h9 => zbs R3.out.row (by omega) h9.symm));replace R1 := zf (R1.out.kept hgr.out (fun k hk => by
    have h1 := R3.out.low hk;have h2 := R3.out.up k hk;omega))
   replace R2 := zf (R2.out.kept hgr.out (fun k hk => by
    have h1 := R3.out.low hk;have h2 := R3.out.up k hk;omega))
   replace R4 := zf (R4.out.kept hgr.out (fun k hk => by
    have h1 := R3.out.low hk;have h2 := R3.out.up k hk;omega))
   replace R5 := zf (R5.out.kept hgr.out (fun k hk => by
    have h1 := R3.out.low hk;have h2 := R3.out.up k hk;omega))
   replace R6 := zf (R6.out.kept hgr.out (fun k hk => by
    have h1 := R3.out.low hk;have h2 := R3.out.up k hk;omega))
   replace R3 := zf (InRow.mk hrow.out R3.out.up);have MR3 := zf (hmp.out.trans HLB.out);have SR3 := zf (SubIn.of hso.out (by
    have hq9 := congrArg List.length hmp.out;simp only [zw] at hq9;rw [hq9];exact Hlb.out))
   have HX := hbx;have zw16 := hgr.out.size;clear hrow hmp hun hso hgr hbx;rename World => w16;rename List zdU => LX;have e6 := K0.out.cell 9;simp at e6;go_wp2_with fail;clear e6;have Hsub := zf (SubOwn.zero (t := 71) (size := 2) (enc := zaF) (sl := fun p : zdT => Value.slice p.2.1 p.1.steps.length p.2.2) (ls := fun p => p.1.steps) (w := w16) (lo := w16.heap.size) (L := LD));have Hgr0 := zf (zbW (Below.refl w16.heap.size w16) (Value.slice A6 n6 d6).ownBlock);go_loopw [56] (fun iv wr => ∃ i : Nat, i ≤ n6 ∧ iv = .int .i64 i ∧ (∃ L : List zdT, Hid (Row wr w10.heap.size 69 8 zdf (.slice A6 n6 d6) L) ∧ Hid (L.map (·.1) = LD.map (·.1)) ∧ Hid (∀ k, i ≤ k → L[k]? = LD[k]?) ∧ Hid (SubOwn 71 2 zaF (fun p : zdT => Value.slice p.2.1 p.1.steps.length p.2.2) (fun p => p.1.steps) wr w16.heap.size L i)) ∧ Hid (w16.grownBy wr (Value.slice A6 n6 d6).ownBlock) ∧ Hid (Below w.heap.size w wr)) (fun iv _ => n6 - (intOf iv).toNat)
   case atStart => exact ⟨0, zu _, rfl, ⟨LD, zf R6.out.row, zf rfl, zf (fun _ _ => rfl), Hsub⟩, Hgr0, HX⟩
   case round =>
    clear Hsub Hgr0 HX;obtain ⟨i, hi, rfl, ⟨L, hrow, hmp, hun, hso⟩, hgr, hbx⟩ := hrel;rename World => wr;by_cases hlt : i < n6
    ·have hll : L.length = n6 := by
      have hq9 := congrArg List.length hmp.out;simp only [zw] at hq9;rw [hq9];exact Hld.out.symm
     obtain ⟨p, hp⟩ : ∃ p, L[i]? = some p := ⟨_, zi (by omega)⟩;have hpm : p ∈ LD := zv ((hun.out i (ze _)).symm.trans hp);obtain ⟨g3, cs, hA, hg3, hblk, hcs, _⟩ := zi7 zfp hrow.out (i := i) (j := 7) (x := p) (y := p) (u := .slice p.2.1 p.1.steps.length p.2.2) hp (by omega) rfl;subst hA;have hg15 : g3 < w16.heap.size := Nat.lt_of_not_le (fun h9 => zcS R6.out.row h9 rfl);have Hp := zf hp;have Hll := zf hll;have hne : some w.heap.size ≠ (Value.slice (some ⟨g3, 0, none⟩) n6 d6).ownBlock := by
      intro h9;injection h9 with h9
      simp only at h9;omega
     replace K0 := zf (K0.out.grown hgr.out hne);have KB := zf hblk;have e6 := K0.out.cell 9;have e4 := KB.out.cell (i * 8 + 7);rw [hcs 7 _ rfl] at e4;have ecs := hcs 7 _ rfl;simp at e6 e4;have HCq := zf (HC8.out p hpm);clear hp hll hblk hcs hpm;have HCc := zf (fun (V : World) (h : Below wr.heap.size wr V) => show V.cell? ⟨w.heap.size, 9, none⟩ = some (.slice (some ⟨g3, 0, none⟩) n6 d6) ∧ V.cell? ⟨g3, i * 8 + 7, none⟩ = some (.slice p.2.1 p.1.steps.length p.2.2) from ⟨(h.cell (p := ⟨w.heap.size, 9, none⟩) K0.out.lt).trans e6, (h.cell (p := ⟨g3, i * 8 + 7, none⟩) KB.out.lt).trans e4⟩);clear e6 e4;have hn9 : n6 ≤ 60000 := by assumption
     go_wp2_with fail;have Hcs := zf (show cs[i * 8 + 7]? = some (.slice p.2.1 p.1.steps.length p.2.2) from ecs);clear ecs;refine zby (S := fun V => V.cell? ⟨w.heap.size, 9, none⟩ = some (.slice (some ⟨g3, 0, none⟩) n6 d6) ∧ V.cell? ⟨g3, i * 8 + 7, none⟩ = some (.slice p.2.1 p.1.steps.length p.2.2)) (n := 10) (by kernel_rfl) ?_;have KX := zf (Below.drew (Below.refl wr.heap.size wr));have KW := zf (show wr.heap.size ≤ wr.drew.heap.size from ze _);have hbd := zf hbx.out.drew;have hsd := zf (hso.out.keep KX.out);generalize wr.drew = wd at *;refine HeldTo.take (i := 0) (v := ?_) rfl (by kernel_rfl) (by kernel_rfl) (by kernel_rfl) (by kernel_rfl) (fun _ _ _ h => h) (Or.inl ⟨by rfl, ?_⟩) (HCc.out _ KX.out) ?_;rotate_left
     ·intro w hSw
      (try dsimp only at hSw)
      go_simp
      first | done | with_reducible rfl
     (try simp only [zzA, zzC, Act.put, zzD, zzE, zzF])
     refine HeldTo.take (i := 1) (v := ?_) rfl (by kernel_rfl) (by kernel_rfl) (by kernel_rfl) (by kernel_rfl) (fun _ _ _ h => h) (Or.inl ⟨by rfl, ?_⟩) (HCc.out _ KX.out) ?_;rotate_left
     ·intro w hSw
      (try dsimp only at hSw)
      go_simp
      first | done | with_reducible rfl
     (try simp only [zzA, zzB, zzC, Act.put, zzD, zzE, zzF])
     refine HeldTo.take (i := 2) (v := ?_) rfl (by kernel_rfl) (by kernel_rfl) (by kernel_rfl) (by kernel_rfl) (fun _ _ _ h => h) (Or.inl ⟨by rfl, ?_⟩) (HCc.out _ KX.out) ?_;rotate_left
     ·intro w hSw
      (try dsimp only at hSw)
      go_simp
      first | done | with_reducible rfl
     (try simp only [zzA, zzB, zzC, Act.put, zzD, zzE, zzF])
     refine HeldTo.take (i := 3) (v := ?_) rfl (by kernel_rfl) (by kernel_rfl) (by kernel_rfl) (by kernel_rfl) (fun _ _ _ h => h) (Or.inl ⟨by rfl, ?_⟩) (HCc.out _ KX.out) ?_;rotate_left
     ·intro w hSw
      (try dsimp only at hSw)
      go_simp
      first | done | with_reducible rfl
     (try simp only [zzA, zzB, zzC, Act.put, zzD, zzE, zzF])
     refine HeldTo.take (i := 4) (v := ?_) rfl (by kernel_rfl) (by kernel_rfl) (by kernel_rfl) (by kernel_rfl) (fun _ _ _ h => h) (Or.inl ⟨by rfl, ?_⟩) (HCc.out _ KX.out) ?_;rotate_left
     ·intro w hSw
      (try dsimp only at hSw)
      go_simp
      first | done | with_reducible rfl
     (try simp only [zzA, zzB, zzC, Act.put, zzD, zzE, zzF])
     refine HeldTo.take (i := 5) (v := ?_) rfl (by kernel_rfl) (by kernel_rfl) (by kernel_rfl) (by kernel_rfl) (fun _ _ _ h => h) (Or.inl ⟨by rfl, ?_⟩) (HCc.out _ KX.out) ?_;rotate_left
     ·intro w hSw
      (try dsimp only at hSw)
      go_simp
      first | done | with_reducible rfl
     (try simp only [zzA, zzB, zzC, Act.put, zzD, zzE, zzF])
     refine HeldTo.take (i := 6) (v := ?_) rfl (by kernel_rfl) (by kernel_rfl) (by kernel_rfl) (by kernel_rfl) (fun _ _ _ h => h) (Or.inl ⟨by rfl, ?_⟩) (HCc.out _ KX.out) ?_;rotate_left
     ·intro w hSw
      (try dsimp only at hSw)
      go_simp
      first | done | with_reducible rfl
     (try simp only [zzA, zzB, zzC, Act.put, zzD, zzE, zzF])
     refine HeldTo.take (i := 7) (v := ?_) rfl (by kernel_rfl) (by kernel_rfl) (by kernel_rfl) (by kernel_rfl) (fun _ _ _ h => h) (Or.inl ⟨by rfl, ?_⟩) (HCc.out _ KX.out) ?_;rotate_left
     ·intro w hSw
      (try dsimp only at hSw)
      go_simp
      first | done | with_reducible rfl
     (try simp only [zzA, zzB, zzC, Act.put, zzD, zzE, zzF])
     refine HeldTo.take (i := 8) (v := ?_) rfl (by kernel_rfl) (by kernel_rfl) (by kernel_rfl) (by kernel_rfl) (fun _ _ _ h => h) (Or.inl ⟨by rfl, ?_⟩) (HCc.out _ KX.out) ?_;rotate_left
     ·intro w hSw
      (try dsimp only at hSw)
      go_simp
      first | done | with_reducible rfl
     (try simp only [zzA, zzB, zzC, Act.put, zzD, zzE, zzF])
     refine HeldTo.one (i := 9) (by kernel_rfl) rfl (fun K hK => ?_);go_simp;refine (HCq.out _ hbd.out).mono ?_;rintro e wz ⟨A9, c9, rfl, hr, hbz⟩;replace KX := zf (zg KX.out hbz (ze _));have Hr := zf hr;have Hbz := zf hbz;clear hr hbz;go_wp2_with fail;refine hK.out _ _ (fun _ => HCc.out _ KX.out) (fun h8 => ?_);clear h8 hK K
     (try simp only [zzA, zzB, zzC, Act.put, zzD, zzE, zzF])
     refine HeldTo.one (i := 10) (by kernel_rfl) rfl (fun K hK => ?_);go_simp;refine hK.out _ _ (fun h9 => absurd h9 (by decide)) (fun h8 => ?_);clear h8 hK K
     (try simp only [zzA, zzB, zzC, Act.put, zzD, zzE, zzF])
     refine HeldTo.one (i := 11) (by kernel_rfl) rfl (fun K hK => ?_);go_simp;refine hK.out _ _ (fun h9 => absurd h9 (by decide)) (fun h8 => ?_);clear h8 hK K
     (try simp only [zzA, zzB, zzC, Act.put, zzD, zzE, zzF])
     have e1 := (KB.out.below KX.out KB.out.lt).cell (i * 8 + 7);have f1 := (KB.out.below KX.out KB.out.lt).frozen (i * 8 + 7);rw [Hcs.out] at e1;refine HeldTo.one (i := 12) (by kernel_rfl) rfl (fun K hK => ?_);go_simp;clear e1 f1;refine hK.out _ _ (fun h9 => absurd h9 (by decide)) (fun h8 => ?_);clear h8 hK K;obtain ⟨g4, cs4, hA4, _, _, _, hrow2⟩ := zi7 zfp (hrow.out.keep KX.out) (i := i) (j := 7) (x := p) (y := (p.1, A9, c9)) (u := .slice A9 p.1.steps.length c9) Hp.out (by omega) rfl;have h34 : g4 = g3 := by
      injection hA4 with hA4
      injection hA4 with hA4
      exact hA4.symm
     subst h34;have hrow2 := zf hrow2;have hw15 := hgr.out.size;have hwd := KW.out;have hso2 := zf (((SubOwn.step hsd.out Hbz.out (y := (p.1, A9, c9)) Hr.out (zh hw15 hwd) (by rw [Hll.out]; exact hlt)).kept (zcy wz g4 (i * 8 + 7) (.slice A9 p.1.steps.length c9)) (fun k hk => by injection hk with hk; omega)))
     have hgr2 := zf (show w16.grownBy (wz.setCell ⟨g4, i * 8 + 7, none⟩ (.slice A9 p.1.steps.length c9)) (Value.slice (some ⟨g4, 0, none⟩) n6 d6).ownBlock from (hgr.out.trans (zbW KX.out _)).trans (zcy _ _ _ _));have hbx2 := zf ((zg hbx.out KX.out (show w.heap.size ≤ w.heap.size from ze _)).setCell (p := ⟨g4, i * 8 + 7, none⟩) (show w.heap.size ≤ g4 by omega) (.slice A9 p.1.steps.length c9));have hmp2 := zf ((zlE (fun q : zdT => q.1) (y := (p.1, A9, c9)) Hp.out rfl).trans hmp.out);have hun2 := zf (fun (k : Nat) (hk : i + 1 ≤ k) => (List.getElem?_set_ne (l := L) (a := ((p.1, A9, c9) : zdT)) (show i ≠ k by omega)).trans (hun.out k (by omega)));clear hA4;generalize World.setCell wz ⟨g4, i * 8 + 7, none⟩ (.slice A9 p.1.steps.length c9) = wn at *
     (try simp only [zzA, zzB, zzC, Act.put, zzD, zzE, zzF])
     refine HeldTo.done (by kernel_rfl) ?_ _;clear KX KW Hr Hbz HCc HCq Hcs KB hbd hsd K0;go_wp2;go_roundw
     case rel => exact ⟨i + 1, by omega, by go_num, ⟨L.set i (p.1, A9, c9), hrow2, hmp2, hun2, hso2⟩, hgr2, hbx2⟩
     case measure => simp [intOf]; omega
    ·obtain rfl : n6 = i := by omega
     replace K0 := zf (K0.out.grown hgr.out (fun h9 => zbs R6.out.row (by omega) h9.symm));replace K1 := zf (K1.out.grown hgr.out (fun h9 => zbs R6.out.row (by omega) h9.symm));replace R1 := zf (R1.out.kept hgr.out (fun k hk => by
      have h1 := R6.out.low hk;have h2 := R6.out.up k hk;omega))
     replace R2 := zf (R2.out.kept hgr.out (fun k hk => by
      have h1 := R6.out.low hk;have h2 := R6.out.up k hk;omega))
     replace R3 := zf (R3.out.kept hgr.out (fun k hk => by
      have h1 := R6.out.low hk;have h2 := R6.out.up k hk;omega))
     replace R4 := zf (R4.out.kept hgr.out (fun k hk => by
      have h1 := R6.out.low hk;have h2 := R6.out.up k hk;omega))
     replace R5 := zf (R5.out.kept hgr.out (fun k hk => by
      have h1 := R6.out.low hk;have h2 := R6.out.up k hk;omega))
     replace SR3 := zf (SR3.out.kept hgr.out (fun k hk => by
      have h1 := R6.out.low hk;have h2 := R6.out.up k hk;omega))
     replace R6 := zf (InRow.mk hrow.out R6.out.up);have MR6 := zf (hmp.out.trans HLD.out);have SR6 := zf (SubIn.of hso.out (by
      have hq9 := congrArg List.length hmp.out;simp only [zw] at hq9;rw [hq9];exact Hld.out))
     have HX := hbx;have zw17 := hgr.out.size;clear hrow hmp hun hso hgr hbx;rename World => w17;rename List zdT => LY;go_wp2_with (first
      | (refine wpList_load_row rfl 34 (.tmp 1) rfl w.heap.size rfl 34 _ (0, 0) _ K0.out Tryz.underlying34 rfl Hi.out ?_)
      | (refine wpList_store_row rfl 34 (.tmp 2) (.tmp 72) rfl (w.heap.size + 1) _ rfl rfl 34 _ K1.out Hi.out rfl (by kernel_rfl) ?_))
     have hown : OwnDet w17 w.heap.size ⟨⟨name, boxes, holes, cover, agg, poker⟩, bars, runs, laps, dems, ⟨r1, r2, r3, r4, r5, r6, r7, r8, r9⟩⟩ ⟨A1, n1, d1, A2, n2, d2, A3, n3, d3, A4, n4, d4, A5, n5, d5, A6, n6, d6⟩ (ztI w3.heap.size w4.heap.size w7.heap.size w8.heap.size w9.heap.size w10.heap.size w15.heap.size w16.heap.size w17.heap.size) LX LY :=
      ⟨show w.heap.size ≤ w3.heap.size by omega, zte (by omega) (by omega) (by omega) (by omega) (by omega) (by omega) (by omega) (by omega),
       R1.out, R2.out.mono (ze _) (show w5.heap.size ≤ w7.heap.size by omega), R3.out, R4.out, R5.out, R6.out.mono (ze _) (show w11.heap.size ≤ w15.heap.size by omega), MR3.out, MR6.out, SR3.out, SR6.out⟩
     refine bodyPost_ret (zaU rfl rfl (setRow_heap _ (w.heap.size + 1) _ _ _ _ K1.out) Tryz.underlying34 rfl (by kernel_rfl)) rfl ?_;exact ⟨⟨A1, n1, d1, A2, n2, d2, A3, n3, d3, A4, n4, d4, A5, n5, d5, A6, n6, d6⟩, _, LX, LY, rfl, ⟨rfl, rfl, rfl, rfl, rfl, rfl⟩, hown.kept (zlb _ _ _) (fun k hk => by
      injection hk with hk
      show k < w3.heap.size
      omega), Below.setRow HX.out (by omega) _⟩
end Go.Proofs.YtpaanfjjnjjoeaaGreat
