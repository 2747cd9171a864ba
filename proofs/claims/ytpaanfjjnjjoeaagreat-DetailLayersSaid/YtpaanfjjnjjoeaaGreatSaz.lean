/- supply.rods: all laid bars of a valid detail. -/
import Derived.Test.YtpaanfjjnjjoeaaGreatSax
set_option maxHeartbeats 8000000
set_option maxRecDepth 100000
namespace Go.Proofs.YtpaanfjjnjjoeaaGreat
open Go.RowKit
theorem zon (x : BarD) (A : Option Addr) (c : Nat) (m : ByteArray) (g : Nat) (w : World) (h0 : w.cell? ⟨g, 0, none⟩ = some (.string m)) :
  Calls Tryz.prog 326 #[.agg #[.string x.mark, .int .i64 x.size, .int .i64 x.count, .int .i64 x.code, .slice A x.dims.length c], .pointer (some ⟨g, 0, none⟩)] w fun e w' => e = .returned (.bool (zaJ m x)) ∧ Below w.heap.size w w' := by
 have hg : g < w.heap.size := World.block_lt_of_cell? w _ h0;have h1 := fun o => (World.cell?_alloc_lt w o ⟨g, 0, none⟩ hg).trans h0;go_enter Tryz.func326, Tryz.ntmps326;go_wp2;go_ret;exact ⟨zo (by rfl), zk _ _⟩
theorem zom (l : BoxD) (w : World) : Calls Tryz.prog 327 #[bx l] w fun e w' => e = .returned (.bool (zcx l)) ∧ Below w.heap.size w w' := by
 have Hr := zf (show zcx l = (decide (l.lo.1 < l.hi.1) && ((l.lo.2.1 == l.hi.2.1) && (l.lo.2.2 == l.hi.2.2))) from rfl);generalize zcx l = t at *;obtain ⟨⟨a1, a2, a3⟩, a4, a5, a6⟩ := l;simp only at Hr;have HW := zf (zk w (.cells #[.int .i64 a1, .int .i64 a2, .int .i64 a3, .int .i64 a4, .int .i64 a5, .int .i64 a6] 62))
 show Calls Tryz.prog 327 #[.agg #[.int .i64 a1, .int .i64 a2, .int .i64 a3, .int .i64 a4, .int .i64 a5, .int .i64 a6]] w _
 cases q1 : decide (a1 < a4)
 ·rw [q1] at Hr;go_enter Tryz.func327, Tryz.ntmps327;go_wp2;go_ret;exact ⟨zo (by rw [Hr.out]; rfl), HW.out⟩
 cases q2 : (a2 == a5)
 ·rw [q1, q2] at Hr;go_enter Tryz.func327, Tryz.ntmps327;go_wp2;go_ret;exact ⟨zo (by rw [Hr.out]; rfl), HW.out⟩
 cases q3 : (a3 == a6)
 ·rw [q1, q2, q3] at Hr;go_enter Tryz.func327, Tryz.ntmps327;go_wp2;go_ret;exact ⟨zo (by rw [Hr.out]; rfl), HW.out⟩
 ·rw [q1, q2, q3] at Hr;go_enter Tryz.func327, Tryz.ntmps327;go_wp2;go_ret;exact ⟨zo (by rw [Hr.out]; rfl), HW.out⟩
theorem zr3 (x : DetD) (s : DetS) (w : World) {B : Nat} (h : DetAt w B x s) (hB : B ≤ w.heap.size) (hf : DetFit x s) (hok : zaj x.bars x.runs = true) :
  Calls Tryz.prog 304 #[zcZ x s] w fun e w' => ∃ A c, e = .returned (.tuple #[.slice A (zx x.bars x.runs).length c, .int .i64 0]) ∧ RodsW w' w'.heap.size A (zx x.bars x.runs) ∧ Below w.heap.size w w' := by
 have HC := zf (fun (W : World) (hz : Below w.heap.size w W) => zeQ s.a3 x.bars s.n3 s.c3 s.a4 x.runs s.n4 s.c4 W (h.h3.carry (hz.mono hB) (ze _)) (h.h4.carry (Flat.carried _) (hz.mono hB) (ze _)) (zh hB hz.size) hf.l3 hf.l4 hf.m3 hf.m4 hf.tame hok);have HM := zf (fun (W : World) (hz : Below w.heap.size w W) (i : Nat) (l : LaidD) (hl : (zx x.bars x.runs)[i]? = some l) => ziQ s.a3 x.bars s.n3 s.c3 s.a4 x.runs s.n4 s.c4 W (h.h3.carry (hz.mono hB) (ze _)) (h.h4.carry (Flat.carried _) (hz.mono hB) (ze _)) (zh hB hz.size) hf.l3 hf.l4 hf.m3 hf.m4 hf.tame hok (i : Int) l.bar.mark (by omega) (by have := zaa hl; have := (zat hok).2; omega) (zhV x.runs i l (zap hok).2.2 hl));have HL := zf (fun (W : World) (hz : Below w.heap.size w W) (i : Nat) (l : LaidD) (hl : (zx x.bars x.runs)[i]? = some l) => zhS s.a3 s.a4 x.bars x.runs s.n3 s.c3 s.n4 s.c4 i l W (h.h3.carry (hz.mono hB) (ze _)) (h.h4.carry (Flat.carried _) (hz.mono hB) (ze _)) (zh hB hz.size) hf.l3 hf.l4 hf.m3 hf.m4 hf.tame hok hl);have HI := zf (fun (W : World) (hz : Below w.heap.size w W) (g : Nat) (m : ByteArray) (h0 : ∀ W', Below W.heap.size W W' → W'.cell? ⟨g, 0, none⟩ = some (.string m)) => zd6 s.a3 x.bars s.n3 s.c3 326 #[.pointer (some ⟨g, 0, none⟩)] (zaJ m) W (h.h3.carry (hz.mono hB) (ze _)) (zh hB hz.size) hf.l3 hf.m3 Tryz.call326 (fun y A' c' W' _ hb _ => zon y A' c' m g W' (h0 W' hb)));have H3 := zf (fun (W : World) (hz : Below w.heap.size w W) => h.h3.carry (hz.mono hB) (ze B));have HBB := zf hB;have Hrod := zf (fun (ld : LaidD) (hl : ld ∈ zx x.bars x.runs) => zc6 hok hl);have L3 := zf hf.l3;have hn3 : s.n3 ≤ 60000 := hf.m3;obtain ⟨L, hL⟩ : ∃ L, L = zx x.bars x.runs := ⟨_, rfl⟩;obtain ⟨N, hN⟩ : ∃ N, N = L.length := ⟨_, rfl⟩;have hcn : zD x.runs = (N : Int) := by rw [hN, hL]; exact (zat hok).1.symm
 rw [hcn] at HC;have HN := zf hN;have hN2 : N ≤ 2000 := by rw [hN, hL]; exact (zat hok).2
 rw [← hL] at HM HL Hrod ⊢;rw [← hN];have HC6 := zf (show (zp x.mem x.rule s)[6]? = some (.slice s.a3 s.n3 s.c3) ∧ (zp x.mem x.rule s)[7]? = some (.slice s.a4 s.n4 s.c4) from ⟨rfl, rfl⟩)
 show Calls Tryz.prog 304 #[.agg (zp x.mem x.rule s)] w _
 generalize zp x.mem x.rule s = C at *;obtain ⟨a1, n1, c1, a2, n2, c2, a3, n3, c3, a4, n4, c4, a5, n5, c5, a6, n6, c6⟩ := s;simp only at HC HM HL HI H3 HC6 L3 hn3;have K0 := zf (Blk.new w 34 C);have HW := zf (zk w (.cells C 34));clear h hB hf hok hL hN hcn;have e6 := (K0.out.cell 6).trans HC6.out.1;have e7 := (K0.out.cell 7).trans HC6.out.2;have lk := K0.out.lt;go_enter Tryz.func304, Tryz.ntmps304;go_wp2_with fail;refine (HC.out _ HW.out).mono ?_;rintro e w1 ⟨rfl, hb1⟩;replace K0 := zf (K0.out.keep hb1);have HW1 := zf (zg HW.out hb1 (ze _));have hz1 := HW1.out.size;clear hb1 HC HW e6 e7 lk;go_wp2;go_loopw [6, 23] (fun v iv wr => ∃ k : Nat, k ≤ N ∧ iv = .int .i64 k ∧ (∃ acc : List RodX, Row wr w1.heap.size 305 7 zeI v acc ∧ Hid (acc.map (·.ld) = L.take k) ∧ Hid (∀ q ∈ acc, RowB wr 62 q.la ((zy q.ld.pts).flatMap zdm) ∧ Ints wr B q.da q.ld.bar.dims)) ∧ Below w1.heap.size w1 wr) (fun _ iv _ => N - (intOf iv).toNat)
 case atStart => exact ⟨0, zu _, rfl, ⟨[], Row.nil _ _ _ _ _, zf rfl, zf (fun q h => by cases h)⟩, Below.refl _ _⟩
 case round =>
  rename World => wr;obtain ⟨k, hk, rfl, ⟨acc, hrow, hacc, hq⟩, hbr⟩ := hrel;obtain ⟨A0, c0, rfl⟩ := hrow.val;have hal : acc.length ≤ 2000 := by
   have h9 := congrArg List.length hacc.out;rw [zw, zG] at h9;omega
  have HWr := zf (zg HW1.out hbr (ze _));by_cases hlt : k < N
  ·obtain ⟨ld, hld⟩ : ∃ ld, L[k]? = some ld := ⟨_, zi (by rw [← HN.out]; exact hlt)⟩;have Hacc := zf (show (acc.map (·.ld)) ++ [ld] = L.take (k + 1) by rw [zQ hld, hacc.out]);have HMk := zf (fun (W : World) (hz : Below w.heap.size w W) => HM.out W hz k ld hld);have HLk := zf (fun (W : World) (hz : Below w.heap.size w W) => HL.out W hz k ld hld);have hro := Hrod.out ld (zv hld);obtain ⟨j, hj1, hj2⟩ := hro.line;have hjn : j < n3 := by rw [L3.out]; exact zaa hj2
   have hfew := hro.few;have HIk := zf (fun (W : World) (hz : Below w.heap.size w W) (g : Nat) (h0 : ∀ W', Below W.heap.size W W' → W'.cell? ⟨g, 0, none⟩ = some (.string ld.bar.mark)) => by
    have h9 := HI.out W hz g ld.bar.mark h0;rw [hj1] at h9;exact h9)
   have HJ := zf (And.intro hj2 hro.boxes);have HM1 := zf (show zaB ld = idx zcx (zy ld.pts) from rfl);have Hrow := zf hrow;have Hq := zf hq.out;have Hbr := zf hbr;replace K0 := zf (K0.out.below hbr K0.out.lt);have e6 := (K0.out.cell 6).trans HC6.out.1;have e7 := (K0.out.cell 7).trans HC6.out.2;have lk := K0.out.lt;clear hld hro hj1 hj2 hrow hq hbr;go_wp2_with fail;refine (HMk.out _ HWr.out).mono ?_;rintro e wA ⟨rfl, hb2⟩;have HX := zf hb2;have hzA := hb2.size;clear hb2 HMk e6 e7 lk;have KM := zf ((Blk.new wA 9 #[.string ld.bar.mark]).alloc (.cells #[.string ⟨#[]⟩, .int .i64 0, .int .i64 0, .int .i64 0, .slice none 0 0, .slice none 0 0, .int .i64 0] 305));have KR := zf (Blk.new1 wA (.cells #[.string ld.bar.mark] 9) 305 #[.string ⟨#[]⟩, .int .i64 0, .int .i64 0, .int .i64 0, .slice none 0 0, .slice none 0 0, .int .i64 0]);replace HX := zf ((HX.out.alloc hzA (.cells #[.string ld.bar.mark] 9)).alloc (zM hzA _) (.cells #[.string ⟨#[]⟩, .int .i64 0, .int .i64 0, .int .i64 0, .slice none 0 0, .slice none 0 0, .int .i64 0] 305));obtain ⟨gm, hgm⟩ : ∃ q, q = wA.heap.size := ⟨_, rfl⟩;obtain ⟨wB, hwB⟩ : ∃ q, q = (wA.alloc (.cells #[.string ld.bar.mark] 9)).alloc (.cells #[.string ⟨#[]⟩, .int .i64 0, .int .i64 0, .int .i64 0, .slice none 0 0, .slice none 0 0, .int .i64 0] 305) := ⟨_, rfl⟩;rw [← hwB, ← hgm] at KM KR;rw [← hwB] at HX;rw [← hgm] at hzA;go_upto_region 12 with fail
   rw [← hwB, ← hgm];clear hwB hgm;have kb := K0.out.keep HX.out;have e6 := (kb.cell 6).trans HC6.out.1;have e7 := (kb.cell 7).trans HC6.out.2;have lk := kb.lt;clear kb;go_wp2_with fail;refine (HLk.out _ (zg HWr.out HX.out (ze _))).mono ?_;rintro e wC ⟨A6, c6', rfl, hlg, hb3⟩;have Hlg := zf (RowB.of_row hlg);replace KM := zf (KM.out.keep hb3);replace KR := zf (KR.out.keep hb3);replace HX := zf (zg HX.out hb3 (ze _));clear hb3 hlg HLk e6 e7 lk;have z5 := KR.out.frozen 5;have y5 := KR.out.cell 5;simp at y5;have lr := KR.out.lt;go_upto_region 15 with fail
   clear z5 y5;generalize hll : (zy ld.pts).length = ll at *;have Hll := zf hll;clear hll;have kr := KR.out.set_ 5 (.slice A6 ll c6');simp only [zzD, zzE, zzF] at kr;have hlg2 := RowB.set Hlg.out KR.out (by decide) 5 (.slice A6 ll c6');have km := KM.out.far (p := ⟨gm + 1, 5, none⟩) (show gm ≠ gm + 1 by omega) (.slice A6 ll c6');have hx := HX.out.setCell (p := ⟨gm + 1, 5, none⟩) (show wr.heap.size ≤ gm + 1 by omega) (.slice A6 ll c6');generalize World.setCell wC ⟨gm + 1, 5, none⟩ (.slice A6 ll c6') = wD at *;replace KR := zf kr.drew;replace KM := zf km.drew;replace Hlg := zf (hlg2.keep (fun _ _ q => q.drew));replace HX := zf (Below.drew hx);clear kr km hlg2 hx lr;have kd := K0.out.keep HX.out;have HS := zf (And.intro kd (And.intro KM.out (And.intro KR.out (zg HWr.out HX.out (ze _)))));have Hbar := zf (fun (V : World) (hv : Below w.heap.size w V) => BarsAt.get (k := j) (H3.out V hv) (by rw [← L3.out]; exact hjn));obtain ⟨b, off, y, dA, dc, rfl, hbl, hy, hyd, h0, h1, h2, h3, h4⟩ := Hbar.out w (Below.refl _ _);obtain rfl : y = ld.bar := by rw [HJ.out.1] at hy; injection hy with hy; exact hy.symm
   have HP := zf (fun (V : World) (hv : Below w.heap.size w V) => show V.cell? ⟨b, off + j * 5, none⟩ = some (.string ld.bar.mark) ∧ V.cell? ⟨b, off + j * 5 + 1, none⟩ = some (.int .i64 ld.bar.size) ∧ V.cell? ⟨b, off + j * 5 + 2, none⟩ = some (.int .i64 ld.bar.count) ∧ V.cell? ⟨b, off + j * 5 + 3, none⟩ = some (.int .i64 ld.bar.code) ∧ V.cell? ⟨b, off + j * 5 + 4, none⟩ = some (.slice dA ld.bar.dims.length dc) from
    ⟨(hv.cell (p := ⟨b, _, none⟩) (zt hbl HBB.out)).trans h0, (hv.cell (p := ⟨b, _, none⟩) (zt hbl HBB.out)).trans h1, (hv.cell (p := ⟨b, _, none⟩) (zt hbl HBB.out)).trans h2, (hv.cell (p := ⟨b, _, none⟩) (zt hbl HBB.out)).trans h3, (hv.cell (p := ⟨b, _, none⟩) (zt hbl HBB.out)).trans h4⟩)
   have HD := zf (fun (V : World) (hv : Below w.heap.size w V) => Ints.carry hyd (hv.mono HBB.out) (ze B));clear Hbar hy hyd h0 h1 h2 h3 h4 hbl kd KM KR;refine zby (S := fun V => Blk V w.heap.size 34 C ∧ Blk V gm 9 #[.string ld.bar.mark] ∧ Blk V (gm + 1) 305 #[.string ⟨#[]⟩, .int .i64 0, .int .i64 0, .int .i64 0, .slice none 0 0, .slice A6 ll c6', .int .i64 0] ∧ Below w.heap.size w V) (n := 9) (by kernel_rfl) ?_;generalize wD.drew = wd at *;refine HeldTo.take (i := 0) (v := ?_) rfl (by kernel_rfl) (by kernel_rfl) (by kernel_rfl) (by kernel_rfl) (fun _ _ _ h => h) (Or.inl ⟨by rfl, ?_⟩) HS.out ?_;rotate_left
   ·intro V hSw
    (try dsimp only at hSw)
    skip
    go_simp
    first | done | with_reducible rfl
   (try simp only [zzA, zzC, Act.put, zzD, zzE, zzF])
   refine HeldTo.take (i := 1) (v := ?_) rfl (by kernel_rfl) (by kernel_rfl) (by kernel_rfl) (by kernel_rfl) (fun _ _ _ h => h) (Or.inl ⟨by rfl, ?_⟩) HS.out ?_;rotate_left
   ·intro V hSw
    (try dsimp only at hSw)
    have q6 := (hSw.1.cell 6).trans HC6.out.1; have lq := hSw.1.lt;go_simp
    first | done | with_reducible rfl
   (try simp only [zzA, zzB, zzC, Act.put, zzD, zzE, zzF])
   refine HeldTo.take (i := 2) (v := ?_) rfl (by kernel_rfl) (by kernel_rfl) (by kernel_rfl) (by kernel_rfl) (fun _ _ _ h => h) (Or.inl ⟨by rfl, ?_⟩) HS.out ?_;rotate_left
   ·intro V hSw
    (try dsimp only at hSw)
    skip
    go_simp
    first | done | with_reducible rfl
   (try simp only [zzA, zzB, zzC, Act.put, zzD, zzE, zzF])
   refine HeldTo.take (i := 3) (v := ?_) rfl (by kernel_rfl) (by kernel_rfl) (by kernel_rfl) (by kernel_rfl) (fun _ _ _ h => h) (Or.inl ⟨by rfl, ?_⟩) HS.out ?_;rotate_left
   ·intro V hSw
    (try dsimp only at hSw)
    have q6 := (hSw.1.cell 6).trans HC6.out.1; have lq := hSw.1.lt;go_simp
    first | done | with_reducible rfl
   (try simp only [zzA, zzB, zzC, Act.put, zzD, zzE, zzF])
   refine HeldTo.take (i := 4) (v := ?_) rfl (by kernel_rfl) (by kernel_rfl) (by kernel_rfl) (by kernel_rfl) (fun _ _ _ h => h) (Or.inl ⟨by rfl, ?_⟩) HS.out ?_;rotate_left
   ·intro V hSw
    (try dsimp only at hSw)
    skip
    go_simp
    first | done | with_reducible rfl
   (try simp only [zzA, zzB, zzC, Act.put, zzD, zzE, zzF])
   refine HeldTo.one (i := 5) (by kernel_rfl) rfl (fun K hK => ?_);go_simp;refine (HIk.out wd HS.out.2.2.2 gm (fun W' hb => by have h9 := (HS.out.2.1.keep hb).cell 0; simpa using h9)).mono ?_;rintro e we ⟨rfl, hb7⟩;go_wp2_with fail;replace HS := zf (And.intro (HS.out.1.keep hb7) (And.intro (HS.out.2.1.keep hb7) (And.intro (HS.out.2.2.1.keep hb7) (zg HS.out.2.2.2 hb7 (ze _)))));replace HX := zf (zg HX.out hb7 (ze _));replace Hlg := zf (Hlg.out.below hb7);refine hK.out _ _ (fun _ => HS.out) (fun h8 => ?_);clear h8 hK K hb7 HIk
   (try simp only [zzA, zzB, zzC, Act.put, zzD, zzE, zzF])
   refine HeldTo.take (i := 6) (v := ?_) rfl (by kernel_rfl) (by kernel_rfl) (by kernel_rfl) (by kernel_rfl) (fun _ _ _ h => h) (Or.inl ⟨by rfl, ?_⟩) HS.out ?_;rotate_left
   ·intro V hSw
    (try dsimp only at hSw)
    skip
    go_simp
    first | done | with_reducible rfl
   (try simp only [zzA, zzB, zzC, Act.put, zzD, zzE, zzF])
   refine HeldTo.take (i := 7) (v := ?_) rfl (by kernel_rfl) (by kernel_rfl) (by kernel_rfl) (by kernel_rfl) (fun _ _ _ h => h) (Or.inl ⟨by rfl, ?_⟩) HS.out ?_;rotate_left
   ·intro V hSw
    (try dsimp only at hSw)
    obtain ⟨q0, q1, q2, q3, q4⟩ := HP.out V hSw.2.2.2;go_simp
    first | done | with_reducible rfl
   (try simp only [zzA, zzB, zzC, Act.put, zzD, zzE, zzF])
   refine HeldTo.take (i := 8) (v := ?_) rfl (by kernel_rfl) (by kernel_rfl) (by kernel_rfl) (by kernel_rfl) (fun _ _ _ h => h) (Or.inl ⟨by rfl, ?_⟩) HS.out ?_;rotate_left
   ·intro V hSw
    (try dsimp only at hSw)
    skip
    go_simp
    first | done | with_reducible rfl
   (try simp only [zzA, zzB, zzC, Act.put, zzD, zzE, zzF])
   have z0 := HS.out.2.2.1.frozen 0;have z1 := HS.out.2.2.1.frozen 1;have z2 := HS.out.2.2.1.frozen 2;have z3 := HS.out.2.2.1.frozen 3;have z4 := HS.out.2.2.1.frozen 4;have y0 := HS.out.2.2.1.cell 0;have y1 := HS.out.2.2.1.cell 1;have y2 := HS.out.2.2.1.cell 2;have y3 := HS.out.2.2.1.cell 3;have y4 := HS.out.2.2.1.cell 4;simp at y0 y1 y2 y3 y4;have lr := HS.out.2.2.1.lt;refine HeldTo.one (i := 9) (by kernel_rfl) rfl (fun K hK => ?_);go_simp;have hne : ∀ (g : Nat) (cs : Array Value), Blk we g 62 cs → g ≠ gm + 1 := fun g cs hb => zrP hb HS.out.2.2.1 (by decide);have kr := ((((HS.out.2.2.1.set_ 0 (.string ld.bar.mark)).set_ 1 (.int .i64 ld.bar.size)).set_ 2 (.int .i64 ld.bar.count)).set_ 3 (.int .i64 ld.bar.code)).set_ 4 (.slice dA ld.bar.dims.length dc);simp only [zzD, zzE, zzF] at kr;have hx := ((((HX.out.setCell (p := ⟨gm + 1, 0, none⟩) (show wr.heap.size ≤ gm + 1 by omega) (.string ld.bar.mark)).setCell (p := ⟨gm + 1, 1, none⟩) (show wr.heap.size ≤ gm + 1 by omega) (.int .i64 ld.bar.size)).setCell (p := ⟨gm + 1, 2, none⟩) (show wr.heap.size ≤ gm + 1 by omega) (.int .i64 ld.bar.count)).setCell (p := ⟨gm + 1, 3, none⟩) (show wr.heap.size ≤ gm + 1 by omega) (.int .i64 ld.bar.code)).setCell (p := ⟨gm + 1, 4, none⟩) (show wr.heap.size ≤ gm + 1 by omega) (.slice dA ld.bar.dims.length dc);have hlg := Hlg.out.keep (fun g cs hb => ((((hb.far (p := ⟨gm + 1, 0, none⟩) (hne g cs hb) (.string ld.bar.mark)).far (p := ⟨gm + 1, 1, none⟩) (hne g cs hb) (.int .i64 ld.bar.size)).far (p := ⟨gm + 1, 2, none⟩) (hne g cs hb) (.int .i64 ld.bar.count)).far (p := ⟨gm + 1, 3, none⟩) (hne g cs hb) (.int .i64 ld.bar.code)).far (p := ⟨gm + 1, 4, none⟩) (hne g cs hb) (.slice dA ld.bar.dims.length dc));obtain ⟨wF, hwF⟩ : ∃ q, q = ((((we.setCell ⟨gm + 1, 0, none⟩ (.string ld.bar.mark)).setCell ⟨gm + 1, 1, none⟩ (.int .i64 ld.bar.size)).setCell ⟨gm + 1, 2, none⟩ (.int .i64 ld.bar.count)).setCell ⟨gm + 1, 3, none⟩ (.int .i64 ld.bar.code)).setCell ⟨gm + 1, 4, none⟩ (.slice dA ld.bar.dims.length dc) := ⟨_, rfl⟩;rw [← hwF] at kr hx hlg;refine hK.out _ _ (fun h9 => absurd h9 (by omega)) (fun h8 => HeldTo.done (by kernel_rfl) ?_ _);rw [← hwF];clear h8 hK K hwF hne z0 z1 z2 z3 z4 y0 y1 y2 y3 y4 lr HS HP;have KR := zf kr;replace HX := zf hx;replace Hlg := zf hlg;have HIf := zf (zd5 A6 (zy ld.pts) ll c6' 327 zcx wF (RowB.sl zcN (by omega) Hlg.out) (ze _) Hll.out.symm (by omega) Tryz.call327 (fun y W' _ => zom y W'));have y5 := KR.out.cell 5;simp at y5;have lr := KR.out.lt;clear kr hx hlg;go_wp2_with fail;refine HIf.out.mono ?_;rintro e wG ⟨rfl, hb⟩;rw [← HM1.out];replace KR := zf (KR.out.keep hb);replace HX := zf (zg HX.out hb (ze _));replace Hlg := zf (Hlg.out.below hb);clear hb HIf y5 lr;have y6 := KR.out.cell 6;have z6 := KR.out.frozen 6;simp at y6;have lr := KR.out.lt;go_upto_region 17 with fail
   clear y6 z6 lr;have kr := KR.out.set_ 6 (.int .i64 (zaB ld));simp only [zzD, zzE, zzF] at kr;have hlg2 := RowB.set Hlg.out KR.out (by decide) 6 (.int .i64 (zaB ld));have hx := HX.out.setCell (p := ⟨gm + 1, 6, none⟩) (show wr.heap.size ≤ gm + 1 by omega) (.int .i64 (zaB ld));generalize World.setCell wG ⟨gm + 1, 6, none⟩ (.int .i64 (zaB ld)) = wH at *;have Hrow9 := zf (Hrow.out.keep hx);have Hq9 := zf (fun q hq => And.intro ((Hq.out q hq).1.below hx) (Ints.carry (Hq.out q hq).2 (hx.mono (zh HBB.out HWr.out.size)) (ze B)));have HD9 := HD.out wH (zg HWr.out hx (ze _));have hx2 := Hbr.out.trans (hx.mono Hbr.out.size);have hxz := hx2.size;have HY := zf (show zeI ⟨ld, dA, dc, A6, c6'⟩ = [.string ld.bar.mark, .int .i64 ld.bar.size, .int .i64 ld.bar.count, .int .i64 ld.bar.code, .slice dA ld.bar.dims.length dc, .slice A6 ll c6', .int .i64 (zaB ld)] by rw [zeI, zfW, Hll.out]);have KN := zf (show Blk (wH.alloc (.cells #[.string ld.bar.mark, .int .i64 ld.bar.size, .int .i64 ld.bar.count, .int .i64 ld.bar.code, .slice dA ld.bar.dims.length dc, .slice A6 ll c6', .int .i64 (zaB ld)] 305)) wH.heap.size 305 (zeI ⟨ld, dA, dc, A6, c6'⟩).toArray by rw [HY.out]; exact Blk.new wH _ _);have hbz1 : B ≤ w1.heap.size := zh HBB.out hz1;go_wp2_with (first
    | (refine zL (by rfl) 305 (.tmp 10) rfl (gm + 1) rfl 305 _ (0, 0) _ kr Tryz.underlying305 rfl (by kernel_rfl) ?_)
    | (at_builtin; refine zO rfl (.tmp 65) (.tmp 67) 278 rfl w1.heap.size 305 (.agg #[.string ⟨#[]⟩, .int .i64 0, .int .i64 0, .int .i64 0, .slice none 0 0, .slice none 0 0, .int .i64 0]) 7 96 zeI Tryz.underlying278 (by kernel_rfl) rfl (by omega) ziU znT _ acc ⟨ld, dA, dc, A6, c6'⟩ rfl (Hrow9.out.alloc _) _ rfl KN.out (by omega) (by omega) (zM hxz _) ?_; intro A9 c9 w9 hrow9 hb9 hkeep9))
   go_roundw
   case rel => exact ⟨k + 1, by omega, by go_num, ⟨acc ++ [⟨ld, dA, dc, A6, c6'⟩], by simpa using hrow9, zf (by rw [zV]; exact Hacc.out), zf (fun q hq => by
    rcases List.mem_append.1 hq with hq | hq
    ·exact ⟨((Hq9.out q hq).1.alloc _).keep (fun g cs hb => hkeep9 g _ cs (by decide) hb), Ints.carry (Ints.carry (Hq9.out q hq).2 ((zk wH _).mono (zh hbz1 hxz)) (ze _)) (hb9.mono hbz1) (ze _)⟩
    ·rw [zP] at hq;subst hq;exact ⟨(hlg2.alloc _).keep (fun g cs hb => hkeep9 g _ cs (by decide) hb), Ints.carry (Ints.carry HD9 ((zk wH _).mono (zh hbz1 hxz)) (ze _)) (hb9.mono hbz1) (ze _)⟩)⟩, (hx2.alloc hxz _).trans hb9⟩
   case measure => simp [intOf]; omega
  ·obtain rfl : k = N := by omega
   have hfull : acc.map (·.ld) = L := by rw [hacc.out, HN.out, zF]
   have hlen : k = acc.length := by rw [HN.out, ← hfull, zw]
   have HRo := zf (show RodsW wr wr.heap.size A0 L by rw [← hfull]; exact zqm hrow (zh HBB.out HWr.out.size) hq.out);have Hlen := zf hlen;clear hacc hrow hq hbr hfull hlen;generalize acc.length = na at *;go_wp2;go_ret2;exact ⟨A0, c0, by rw [Hlen.out]; rfl, HRo.out, HWr.out⟩
end Go.Proofs.YtpaanfjjnjjoeaaGreat
