/- The findings of laps: lap.Check, of a valid detail. -/
import Derived.Test.YtpaanfjjnjjoeaaGreatRQbl
namespace Go.Proofs.YtpaanfjjnjjoeaaGreat
open Go.RowKit
set_option maxHeartbeats 8000000 in
set_option maxRecDepth 100000 in
theorem lapCheck_ok (x : DetD) (s : DetS) (w : World) {B : Nat} (h : DetAt w B x s) (hB : B ≤ w.heap.size) (hf : DetFit x s) (hd : detOk x = true) :
  Calls Tryz.prog 21 #[detV x s] w fun e w' => ∃ A c, e = .returned (.tuple #[.slice A (lapFins x).length c, .int .i64 0]) ∧ FinRow w.heap.size w' A (lapFins x).length c (lapFins x) ∧ Below w.heap.size w w' := by
 have hmem : memOk x.mem = true := by simp only [detOk, detHead, Bool.and_eq_true] at hd; exact hd.1.1.1.1.1
 have hrul : ruleOk x.rule = true := by simp only [detOk, detHead, Bool.and_eq_true] at hd; exact hd.1.1.2
 have h1000 : x.laps.length ≤ 1000 := by simp only [detOk, detHead, Bool.and_eq_true, zzJ] at hd; exact hd.1.2
 have hN := (laidOk_len (detOk_parts hd).2.1).2
 have HL := hide (fun (W : World) (hz : Below w.heap.size w W) => (look_any x s W (h.carry (hz.mono hB) (Nat.le_refl _)) (Nat.le_trans hB hz.size) hf).mono (fun e w' hp => show ∃ A c, e = .returned (.tuple #[.slice A (laidAll x.bars x.runs).length c, .bool true]) ∧ MainsAt w' w'.heap.size A (mainsOf x) ∧ Below W.heap.size W w' from by
  rcases hp with ⟨h9, _⟩ | ⟨_, h9⟩
  ·rw [hd] at h9; cases h9
  ·exact h9))
 have HP := hide (fun (leg : BoxD) (hlk : boxOk leg = true) (W : World) (hz : Below w.heap.size w W) => anchPoor_ok x.mem s.a1 s.a2 s.n1 s.n2 s.c1 s.c2 leg W (h.h1.carry (Flat.carried _) (hz.mono hB) (Nat.le_refl _)) (h.h2.carry (Flat.carried _) (hz.mono hB) (Nat.le_refl _)) (Nat.le_trans hB hz.size) hf.l1 hf.l2 hf.name hmem hlk)
 have HLn := hide (fun (d : Int) (p : Bool) (hs : isSize d = true) (W : World) => lapLength_ok x.rule d p W hrul hs)
 have HSq := hide (fun (a b : BoxD) (ha : boxOk a = true) (hb : boxOk b = true) (W : World) => square_ok a b W ha hb)
 have H5 := hide (fun (W : World) (hz : Below w.heap.size w W) => SlOf.carry (Flat.carried _) h.h5 (hz.mono hB) (Nat.le_refl B))
 have Hn5 := hide hf.l5
 have hn5 : s.n5 ≤ 1000 := by rw [hf.l5]; exact h1000
 have Hlg := hide (fun (j : JoinD) (hj : j ∈ x.laps) => lap_get hd hj)
 have Hts := hide (fun (k p q : Nat) (j : JoinD) (a b : MainD) (hj : x.laps[k]? = some j) (h : LapR x j p q a b) => lapTo_succ hj h)
 have Htl := hide (fun (k : Nat) (hk : k ≤ s.n5) => lapTo_len x k (by rw [← hf.l5]; exact hk))
 have Hta := hide (show lapTo x s.n5 = lapFins x by rw [lapTo, hf.l5, List.take_length]; rfl)
 have Ht0 := hide (show lapTo x 0 = [] from rfl)
 have Hone := hide (fun (a b : MainD) => show lapOne x.mem x.rule a b = (if shortLap x.mem x.rule a b then [⟨1, a.mark⟩] else []) ++ (if farLap a b then [⟨2, a.mark⟩] else []) from rfl)
 have Hsh := hide (fun (a b : MainD) => show shortLap x.mem x.rule a b = decide (a.leg.hi.1 - b.leg.lo.1 < lapL x.rule (min a.size b.size) (poorB x.mem a.leg || poorB x.mem b.leg)) from rfl)
 have Hfr := hide (fun (a b : MainD) => show farLap a b = decide ((a.size + b.size + 50) * (a.size + b.size + 50) < squareB a.leg b.leg) from rfl)
 generalize lapFins x = LF at *
 generalize lapTo x = LT at *
 obtain ⟨MS, hMS⟩ : ∃ q, q = mainsOf x := ⟨_, rfl⟩
 rw [← hMS] at HL
 have HMS := hide hMS
 clear hMS
 generalize lapOne x.mem x.rule = ONE at *
 generalize shortLap x.mem x.rule = SH at *
 generalize lapL x.rule = LL at *
 generalize poorB x.mem = PB at *
 have HNl := hide hN
 have Hi := hide (show (Tryz.prog.info? 34).map (·.size) = some 19 by kernel_rfl)
 have K0 := hide (Blk.new w 34 (detCells x.mem x.rule s))
 have HW := hide (below_new w (.cells (detCells x.mem x.rule s) 34))
 clear h hB hf hd hmem hrul h1000 hN
 obtain ⟨mem, bars, runs, laps, dems, rule⟩ := x
 obtain ⟨a1, n1, c1, a2, n2, c2, a3, n3, c3, a4, n4, c4, a5, n5, c5, a6, n6, c6⟩ := s
 obtain ⟨name, boxes, holes, cover, agg, poker⟩ := mem
 obtain ⟨r1, r2, r3, r4, r5, r6, r7, r8, r9⟩ := rule
 simp only [detCells] at K0 HW
 simp only at H5 Hn5 hn5 Hlg Hts Htl Hta HL HP HLn HNl
 show Calls Tryz.prog 21 #[.agg #[.string name, .slice a1 n1 c1, .slice a2 n2 c2, .int .i64 cover, .int .i64 agg, .int .i64 poker, .slice a3 n3 c3, .slice a4 n4 c4, .slice a5 n5 c5, .slice a6 n6 c6, .int .i64 r1, .int .i64 r2, .int .i64 r3, .int .i64 r4, .int .i64 r5, .int .i64 r6, .int .i64 r7, .int .i64 r8, .int .i64 r9]] w _
 go_enter Tryz.func21, Tryz.ntmps21
 go_wp2_with (refine wpList_load_row rfl 34 (.tmp 1) rfl w.heap.size rfl 34 _ (0, 0) _ K0.out Tryz.underlying34 rfl Hi.out ?_)
 refine (HL.out _ HW.out).mono ?_
 rintro e w1 ⟨AM, cM, rfl, hms, hb⟩
 replace K0 := hide (K0.out.keep hb)
 replace HW := hide (below_step HW.out hb (Nat.le_refl _))
 have HMs := hide hms
 have e8 := K0.out.cell 8
 simp at e8
 have hg0 := K0.out.lt
 have HLn0 := hide (show (laidAll bars runs).length = MS.length by rw [HMS.out, mainsOf, List.length_map])
 generalize (laidAll bars runs).length = nl at *
 clear hb hms HL Hi
 go_wp2_with fail
 go_loopw [6, 28] (fun vv iv wr => ∃ k : Nat, k ≤ n5 ∧ iv = .int .i64 k ∧ (∃ acc : List FinD, Row wr w1.heap.size 47 2 encFin vv acc ∧ Hid (acc = LT k)) ∧ Below w1.heap.size w1 wr) (fun _ iv _ => n5 - (intOf iv).toNat)
 case atStart => exact ⟨0, Nat.zero_le _, rfl, ⟨[], Row.nil _ _ _ _ _, hide Ht0.out.symm⟩, Below.refl _ _⟩
 case round =>
  clear e8
  obtain ⟨k, hk, rfl, ⟨acc, hrow, hacc⟩, hbr⟩ := hrel
  obtain ⟨Ao, co, rfl⟩ := hrow.val
  have hal : acc.length ≤ 2 * k := by rw [hacc.out]; exact Htl.out k hk
  have hbs := hbr.size
  by_cases hlt : k < n5
  ·obtain ⟨bj, oj, j, rfl, hbl, hx, c0, c1⟩ := JoinsAt.get (k := k) (H5.out _ (below_step HW.out hbr (Nat.le_refl _))) (by rw [← Hn5.out]; exact hlt)
   obtain ⟨p, q, a, b, R⟩ := Hlg.out j (mem_of_get hx)
   have Hnx := hide (Hts.out k p q j a b hx R)
   have hla := boxOk_iff.1 R.la
   have hlb := boxOk_iff.1 R.lb
   have hsa := isSize_range R.sa
   have hsb := isSize_range R.sb
   have HPa := hide (HP.out a.leg R.la)
   have HPb := hide (HP.out b.leg R.lb)
   have HLx := hide (fun W => HLn.out (min a.size b.size) (PB a.leg || PB b.leg) (isSize_min R.sa R.sb) W)
   have HSx := hide (fun W => HSq.out a.leg b.leg R.la R.lb W)
   have hpa := R.a1
   have hpb := R.b1
   rw [← HMS.out] at hpa hpb
   have HOv := hide (fun (W : World) (hz : Below w1.heap.size w1 W) => overlap_ok AM MS nl cM p q a b W (HMs.out.carry (Flat.carried _) hz (Nat.le_refl _)) hz.size HLn0.out HNl.out hpa hpb)
   have hp := lt_of_get hpa
   have hq := lt_of_get hpb
   rw [← HLn0.out] at hp hq
   obtain ⟨g, off, xa, hAM, hblm, hxa, hca⟩ := MainsAt.get (k := p) HMs.out (by rw [← HLn0.out]; exact hp)
   obtain ⟨g', off', xb, hA', _, hxb, hcb⟩ := MainsAt.get (k := q) HMs.out (by rw [← HLn0.out]; exact hq)
   rw [hAM] at hA'
   injection hA' with hA'
   injection hA' with hA1 hA2
   subst hA1
   subst hA2
   obtain rfl : xa = a := by rw [hxa] at hpa; injection hpa
   obtain rfl : xb = b := by rw [hxb] at hpb; injection hpb
   subst hAM
   have Hone2 := hide (Hone.out xa xb)
   have Hsh2 := hide (Hsh.out xa xb)
   have Hfr2 := hide (Hfr.out xa xb)
   have hjj := R.at1
   subst hjj
   simp only at c0 c1
   obtain ⟨pa, hpa2⟩ : ∃ d, d = PB xa.leg := ⟨_, rfl⟩
   obtain ⟨pb, hpb2⟩ : ∃ d, d = PB xb.leg := ⟨_, rfl⟩
   rw [← hpa2] at HPa HLx Hsh2
   rw [← hpb2] at HPb HLx Hsh2
   obtain ⟨sq, hsq⟩ : ∃ d, d = squareB xa.leg xb.leg := ⟨_, rfl⟩
   rw [← hsq] at HSx Hfr2
   obtain ⟨lv, hlv⟩ : ∃ d, d = LL (min xa.size xb.size) (pa || pb) := ⟨_, rfl⟩
   rw [← hlv] at HLx Hsh2
   obtain ⟨one, hone⟩ : ∃ d, d = ONE xa xb := ⟨_, rfl⟩
   rw [← hone] at Hone2 Hnx
   obtain ⟨sh, hsh⟩ : ∃ d, d = SH xa xb := ⟨_, rfl⟩
   rw [← hsh] at Hone2 Hsh2
   obtain ⟨fr, hfr⟩ : ∃ d, d = farLap xa xb := ⟨_, rfl⟩
   rw [← hfr] at Hone2 Hfr2
   clear hpa2 hpb2 hsq hlv hone hsh hfr R hxa hxb hpa hpb
   obtain ⟨⟨⟨x1, x2, x3⟩, x4, x5, x6⟩, xh, xs, xm⟩ := xa
   obtain ⟨⟨⟨y1, y2, y3⟩, y4, y5, y6⟩, yh, ys, ym⟩ := xb
   simp only at hla hlb hsa hsb Hone2 Hsh2 Hfr2 HLx
   obtain ⟨⟨xo1, xo2, xo3⟩, _⟩ := hla
   obtain ⟨⟨yo1, yo2, yo3⟩, _⟩ := hlb
   have HJ := hide ((K0.out.below hbr hg0).alloc (.cells #[.int .i64 (p : Int), .int .i64 (q : Int)] 73))
   have KJ := hide (Blk.new wr 73 #[.int .i64 (p : Int), .int .i64 (q : Int)])
   have HRw := hide (hrow.alloc (.cells #[.int .i64 (p : Int), .int .i64 (q : Int)] 73))
   have HB3 := hide (hbr.alloc hbs (.cells #[.int .i64 (p : Int), .int .i64 (q : Int)] 73))
   obtain ⟨gJ, hgJ⟩ : ∃ d, d = wr.heap.size := ⟨_, rfl⟩
   obtain ⟨w3, hw3⟩ : ∃ d, d = wr.alloc (.cells #[.int .i64 (p : Int), .int .i64 (q : Int)] 73) := ⟨_, rfl⟩
   rw [← hgJ] at KJ
   rw [← hw3] at HJ KJ HRw HB3
   clear hx hbl hrow hbr
   go_upto_region 8 with fail
   rw [← hw3, ← hgJ]
   clear hw3 hgJ c0 c1
   have hgm : g < w3.heap.size := Nat.lt_of_lt_of_le hblm HB3.out.size
   have hgm1 : g < w3.heap.size + 1 := by omega
   have hgm2 : g < w3.heap.size + 1 + 1 := by omega
   have u0 := hca 0 _ rfl
   have u1 := hca 1 _ rfl
   have u2 := hca 2 _ rfl
   have u3 := hca 3 _ rfl
   have u4 := hca 4 _ rfl
   have u5 := hca 5 _ rfl
   have u6 := hca 6 _ rfl
   have u7 := hca 7 _ rfl
   have u8 := hca 8 _ rfl
   have v0 := hcb 0 _ rfl
   have v1 := hcb 1 _ rfl
   have v2 := hcb 2 _ rfl
   have v3 := hcb 3 _ rfl
   have v4 := hcb 4 _ rfl
   have v5 := hcb 5 _ rfl
   have v6 := hcb 6 _ rfl
   have v7 := hcb 7 _ rfl
   have v8 := hcb 8 _ rfl
   simp only [Nat.add_zero] at u0 u1 u2 u3 u4 u5 u6 u7 u8 v0 v1 v2 v3 v4 v5 v6 v7 v8
   rw [← HB3.out.cell (by exact hblm)] at u0 u1 u2 u3 u4 u5 u6 u7 u8 v0 v1 v2 v3 v4 v5 v6 v7 v8
   have p1 : (p : Int) < (nl : Int) := by omega
   have q1 : (q : Int) < (nl : Int) := by omega
   have p2 : (0 : Int) ≤ (p : Int) := by omega
   have q2 : (0 : Int) ≤ (q : Int) := by omega
   have j0 := KJ.out.cell 0
   have j1 := KJ.out.cell 1
   simp at j0 j1
   have lj := KJ.out.lt
   go_cut [9, 10] from 32 to 42 (fun a b W => ∃ g9 g10 : Nat, a = .pointer (some ⟨g9, 0, none⟩) ∧ b = .pointer (some ⟨g10, 0, none⟩) ∧ Hid (Blk W g9 117 #[.int .i64 x1, .int .i64 x2, .int .i64 x3, .int .i64 x4, .int .i64 x5, .int .i64 x6, .bool xh, .int .i64 xs, .string xm]) ∧ Hid (Blk W g10 117 #[.int .i64 y1, .int .i64 y2, .int .i64 y3, .int .i64 y4, .int .i64 y5, .int .i64 y6, .bool yh, .int .i64 ys, .string ym]) ∧ Hid (Below w3.heap.size w3 W))
   case first =>
    clear HPa HPb HLx HSx HOv Hone2 Hsh2 Hfr2 Hnx hacc HRw HB3 HJ HP HLn HSq H5 Hn5 Hlg Hts Htl Hta Hone Hsh Hfr HMS HMs HLn0 HNl Ht0
    go_region
    all_goals go_wp2_with fail
    all_goals go_meet
    ·refine ⟨w3.heap.size, w3.heap.size + 1, rfl, rfl, ?_, ?_, ?_⟩
     ·exact hide (Blk.drew (Blk.alloc (Blk.new w3 _ _) _))
     ·exact hide (Blk.drew (Blk.new1 w3 _ _ _))
     ·exact hide (Below.drew (below_new2 w3 _ _))
    ·refine ⟨w3.heap.size + 1, w3.heap.size, rfl, rfl, ?_, ?_, ?_⟩
     ·exact hide (Blk.drew (Blk.new1 w3 _ _ _))
     ·exact hide (Blk.drew (Blk.alloc (Blk.new w3 _ _) _))
     ·exact hide (Below.drew (below_new2 w3 _ _))
   case rest =>
    clear u0 u1 u2 u3 u4 u5 u6 u7 u8 v0 v1 v2 v3 v4 v5 v6 v7 v8 j0 j1 lj p1 q1 p2 q2 hgm hgm1 hgm2 hca hcb
    obtain ⟨g9, g10, rfl, rfl, K9, K10, hbc⟩ := hcut
    rename World => w4
    replace HJ := hide (HJ.out.keep (hbc.out))
    replace KJ := hide (KJ.out.keep (hbc.out))
    replace HRw := hide (HRw.out.keep (hbc.out))
    replace HB3 := hide (below_step HB3.out (hbc.out) (Nat.le_refl _))
    clear hbc
    have s0 := HJ.out.cell 0
    have s1 := HJ.out.cell 1
    have s2 := HJ.out.cell 2
    have s3 := HJ.out.cell 3
    have s4 := HJ.out.cell 4
    have s5 := HJ.out.cell 5
    simp at s0 s1 s2 s3 s4 s5
    have ls := HJ.out.lt
    have t0 := K9.out.cell 0
    have t1 := K9.out.cell 1
    have t2 := K9.out.cell 2
    have t3 := K9.out.cell 3
    have t4 := K9.out.cell 4
    have t5 := K9.out.cell 5
    simp at t0 t1 t2 t3 t4 t5
    have lt9 := K9.out.lt
    go_wp2_with fail
    refine (HPa.out _ (below_step HW.out HB3.out (Nat.le_refl _))).mono ?_
    rintro e w5 ⟨rfl, hb⟩
    replace K9 := hide (K9.out.keep hb)
    replace K10 := hide (K10.out.keep hb)
    replace HJ := hide (HJ.out.keep (hb))
    replace KJ := hide (KJ.out.keep (hb))
    replace HRw := hide (HRw.out.keep (hb))
    replace HB3 := hide (below_step HB3.out (hb) (Nat.le_refl _))
    clear hb HPa s0 s1 s2 s3 s4 s5 ls t0 t1 t2 t3 t4 t5 lt9
    have s0 := HJ.out.cell 0
    have s1 := HJ.out.cell 1
    have s2 := HJ.out.cell 2
    have s3 := HJ.out.cell 3
    have s4 := HJ.out.cell 4
    have s5 := HJ.out.cell 5
    simp at s0 s1 s2 s3 s4 s5
    have ls := HJ.out.lt
    have t0 := K10.out.cell 0
    have t1 := K10.out.cell 1
    have t2 := K10.out.cell 2
    have t3 := K10.out.cell 3
    have t4 := K10.out.cell 4
    have t5 := K10.out.cell 5
    simp at t0 t1 t2 t3 t4 t5
    have lt10 := K10.out.lt
    go_wp2_with fail
    refine (HPb.out _ (below_step HW.out HB3.out (Nat.le_refl _))).mono ?_
    rintro e w6 ⟨rfl, hb⟩
    replace K9 := hide (K9.out.keep hb)
    replace K10 := hide (K10.out.keep hb)
    replace HJ := hide (HJ.out.keep (hb))
    replace KJ := hide (KJ.out.keep (hb))
    replace HRw := hide (HRw.out.keep (hb))
    replace HB3 := hide (below_step HB3.out (hb) (Nat.le_refl _))
    clear hb HPb s0 s1 s2 s3 s4 s5 ls t0 t1 t2 t3 t4 t5 lt10
    go_upto_region 15 with fail
    have d10 := HJ.out.cell 10
    have d11 := HJ.out.cell 11
    have d12 := HJ.out.cell 12
    have d13 := HJ.out.cell 13
    have d14 := HJ.out.cell 14
    have d15 := HJ.out.cell 15
    have d16 := HJ.out.cell 16
    have d17 := HJ.out.cell 17
    have d18 := HJ.out.cell 18
    simp at d10 d11 d12 d13 d14 d15 d16 d17 d18
    have ls := HJ.out.lt
    have t7 := K9.out.cell 7
    have z7 := K10.out.cell 7
    simp at t7 z7
    have lt9 := K9.out.lt
    have lt10 := K10.out.lt
    go_cut [14, 12] from 65 to 79 (fun a b W => a = .int .i64 lv ∧ b = .int .i64 0 ∧ Hid (Below w6.heap.size w6 W))
    case first =>
     rcases Int.lt_or_le ys xs with hc | hc
     all_goals
      first | rw [Int.min_eq_right (Int.le_of_lt hc)] at HLx | rw [Int.min_eq_left hc] at HLx
      cases pa
      ·rw [Bool.false_or] at HLx
       go_wp2_with fail
       refine (HLx.out _).mono ?_
       rintro e w7 ⟨rfl, hb⟩
       have Hb := hide hb
       clear hb
       go_wp2_with fail
       go_meet
       exact ⟨rfl, rfl, Hb⟩
      ·rw [Bool.true_or] at HLx
       go_wp2_with fail
       refine (HLx.out _).mono ?_
       rintro e w7 ⟨rfl, hb⟩
       have Hb := hide hb
       clear hb
       go_wp2_with fail
       go_meet
       exact ⟨rfl, rfl, Hb⟩
    case rest =>
     clear d10 d11 d12 d13 d14 d15 d16 d17 d18 ls t7 z7 lt9 lt10 HLx
     obtain ⟨rfl, rfl, hbc⟩ := hcut
     rename World => w7
     replace K9 := hide (K9.out.keep hbc.out)
     replace K10 := hide (K10.out.keep hbc.out)
     replace HJ := hide (HJ.out.keep (hbc.out))
     replace KJ := hide (KJ.out.keep (hbc.out))
     replace HRw := hide (HRw.out.keep (hbc.out))
     replace HB3 := hide (below_step HB3.out (hbc.out) (Nat.le_refl _))
     clear hbc
     have j0 := KJ.out.cell 0
     have j1 := KJ.out.cell 1
     simp at j0 j1
     have lj := KJ.out.lt
     go_wp2_with fail
     refine (HOv.out _ HB3.out).mono ?_
     rintro e w8 ⟨rfl, hb⟩
     replace K9 := hide ((K9.out.keep hb).alloc (.cells #[.int .i64 y1, .int .i64 x4] 77))
     replace K10 := hide ((K10.out.keep hb).alloc (.cells #[.int .i64 y1, .int .i64 x4] 77))
     replace HJ := hide (HJ.out.keep (hb))
     replace KJ := hide (KJ.out.keep (hb))
     replace HRw := hide (HRw.out.keep (hb))
     replace HB3 := hide (below_step HB3.out (hb) (Nat.le_refl _))
     have hs8 := HB3.out.size
     replace HJ := hide (HJ.out.alloc (.cells #[.int .i64 y1, .int .i64 x4] 77))
     replace HRw := hide (HRw.out.alloc (.cells #[.int .i64 y1, .int .i64 x4] 77))
     replace HB3 := hide (HB3.out.alloc hs8 (.cells #[.int .i64 y1, .int .i64 x4] 77))
     clear hb HOv j0 j1 lj KJ
     have t8 := K9.out.cell 8
     simp at t8
     have lt9 := K9.out.lt
     cases sh
     ·have dsh : decide (x4 - y1 < lv) = false := Hsh2.out.symm
      have Hon := hide (show LT (k + 1) = acc ++ (if fr = true then [⟨2, xm⟩] else []) by rw [Hnx.out, Hone2.out, hacc.out]; rfl)
      clear Hsh2 t8 lt9 Hnx Hone2 hacc
      go_upto_region 21 with fail
      have t0 := K9.out.cell 0
      have t1 := K9.out.cell 1
      have t2 := K9.out.cell 2
      have t3 := K9.out.cell 3
      have t4 := K9.out.cell 4
      have t5 := K9.out.cell 5
      simp at t0 t1 t2 t3 t4 t5
      have lt9 := K9.out.lt
      have z0 := K10.out.cell 0
      have z1 := K10.out.cell 1
      have z2 := K10.out.cell 2
      have z3 := K10.out.cell 3
      have z4 := K10.out.cell 4
      have z5 := K10.out.cell 5
      simp at z0 z1 z2 z3 z4 z5
      have lt10 := K10.out.lt
      go_wp2_with fail
      refine (HSx.out _).mono ?_
      rintro e w10 ⟨rfl, hb⟩
      replace K9 := hide (K9.out.keep hb)
      replace K10 := hide (K10.out.keep hb)
      replace HRw := hide (HRw.out.keep hb)
      replace HB3 := hide (below_step HB3.out hb (Nat.le_refl _))
      have hs10 := HB3.out.size
      clear hb HSx t0 t1 t2 t3 t4 t5 lt9 z0 z1 z2 z3 z4 z5 lt10
      have t7 := K9.out.cell 7
      have t8 := K9.out.cell 8
      have z7 := K10.out.cell 7
      simp at t7 t8 z7
      have lt9 := K9.out.lt
      have lt10 := K10.out.lt
      have hmu := up_mul (n := xs + ys + 50) (d := xs + ys + 50) (a := 130) (b := 130) (by omega) (by omega) (by omega) (by omega) (by omega)
      have zz : wrap64 ((xs + ys + 50) * (xs + ys + 50)) = (xs + ys + 50) * (xs + ys + 50) := IntWalk.wrap64_in ((xs + ys + 50) * (xs + ys + 50)) (by omega)
      cases fr
      ·have dfr : decide ((xs + ys + 50) * (xs + ys + 50) < sq) = false := Hfr2.out.symm
       have Hf := hide (show LT (k + 1) = acc by rw [Hon.out]; simp)
       clear Hfr2 Hon hmu
       go_wp2_with fail
       go_roundw
       case rel => exact ⟨k + 1, by omega, by go_num, ⟨acc, by simpa using HRw.out, hide Hf.out.symm⟩, HB3.out⟩
       case measure => simp [intOf]; omega
      ·have dfr : decide ((xs + ys + 50) * (xs + ys + 50) < sq) = true := Hfr2.out.symm
       have Hf := hide (show LT (k + 1) = acc ++ [⟨2, xm⟩] by rw [Hon.out]; simp)
       clear Hfr2 Hon hmu
       go_wp2_with (at_builtin; refine wpList_append1 rfl (.tmp 120) (.tmp 124) 37 rfl w1.heap.size 47 (.agg #[.int .i64 0, .string .empty]) 2 24 encFin Tryz.underlying37 (by kernel_rfl) rfl (by omega) encFin_len encFin_one _ acc ⟨2, xm⟩ rfl (HRw.out.alloc _) _ rfl (Blk.new w10 _ _) (by first | omega | (rw [hal]; omega)) (by omega) (le_alloc hs10 _) ?_; intro A4 c4' w11 hrow4 hb4 _)
       have Hr4 := hide hrow4
       have Hb4 := hide ((HB3.out.alloc hs10 (.cells #[.int .i64 2, .string xm] 47)).trans hb4)
       clear hrow4 hb4
       go_wp2_with fail
       go_roundw
       case rel => exact ⟨k + 1, by omega, by go_num, ⟨acc ++ [⟨2, xm⟩], by simpa using Hr4.out, hide Hf.out.symm⟩, Hb4.out⟩
       case measure => simp [intOf]; omega
     ·have dsh : decide (x4 - y1 < lv) = true := Hsh2.out.symm
      have Hon := hide (show LT (k + 1) = (acc ++ [⟨1, xm⟩]) ++ (if fr = true then [⟨2, xm⟩] else []) by rw [Hnx.out, Hone2.out, hacc.out, List.append_assoc]; rfl)
      clear Hsh2 Hnx Hone2 hacc
      have hs9 := HB3.out.size
      go_upto_region 21 with (at_builtin; refine wpList_append1 rfl (.tmp 92) (.tmp 96) 37 rfl w1.heap.size 47 (.agg #[.int .i64 0, .string .empty]) 2 24 encFin Tryz.underlying37 (by kernel_rfl) rfl (by omega) encFin_len encFin_one _ acc ⟨1, xm⟩ rfl (HRw.out.alloc _) _ rfl (Blk.new1 w8 _ _ _) (by omega) (by omega) (le_alloc hs9 _) ?_; intro A3 c3 w9 hrow3 hb3 hkeep3)
      replace K9 := hide (hkeep3 _ _ _ (by decide) (K9.out.alloc _))
      replace K10 := hide (hkeep3 _ _ _ (by decide) (K10.out.alloc _))
      replace HRw := hide hrow3
      replace HB3 := hide ((HB3.out.alloc hs9 (.cells #[.int .i64 1, .string xm] 47)).trans hb3)
      have hal2 : (acc ++ [(⟨1, xm⟩ : FinD)]).length = acc.length + 1 := by simp
      clear hkeep3 hrow3 hb3 t8 lt9 hs9 HJ
      have t0 := K9.out.cell 0
      have t1 := K9.out.cell 1
      have t2 := K9.out.cell 2
      have t3 := K9.out.cell 3
      have t4 := K9.out.cell 4
      have t5 := K9.out.cell 5
      simp at t0 t1 t2 t3 t4 t5
      have lt9 := K9.out.lt
      have z0 := K10.out.cell 0
      have z1 := K10.out.cell 1
      have z2 := K10.out.cell 2
      have z3 := K10.out.cell 3
      have z4 := K10.out.cell 4
      have z5 := K10.out.cell 5
      simp at z0 z1 z2 z3 z4 z5
      have lt10 := K10.out.lt
      go_wp2_with fail
      refine (HSx.out _).mono ?_
      rintro e w10 ⟨rfl, hb⟩
      replace K9 := hide (K9.out.keep hb)
      replace K10 := hide (K10.out.keep hb)
      replace HRw := hide (HRw.out.keep hb)
      replace HB3 := hide (below_step HB3.out hb (Nat.le_refl _))
      have hs10 := HB3.out.size
      clear hb HSx t0 t1 t2 t3 t4 t5 lt9 z0 z1 z2 z3 z4 z5 lt10
      have t7 := K9.out.cell 7
      have t8 := K9.out.cell 8
      have z7 := K10.out.cell 7
      simp at t7 t8 z7
      have lt9 := K9.out.lt
      have lt10 := K10.out.lt
      have hmu := up_mul (n := xs + ys + 50) (d := xs + ys + 50) (a := 130) (b := 130) (by omega) (by omega) (by omega) (by omega) (by omega)
      have zz : wrap64 ((xs + ys + 50) * (xs + ys + 50)) = (xs + ys + 50) * (xs + ys + 50) := IntWalk.wrap64_in ((xs + ys + 50) * (xs + ys + 50)) (by omega)
      cases fr
      ·have dfr : decide ((xs + ys + 50) * (xs + ys + 50) < sq) = false := Hfr2.out.symm
       have Hf := hide (show LT (k + 1) = (acc ++ [⟨1, xm⟩]) by rw [Hon.out]; simp)
       clear Hfr2 Hon hmu
       go_wp2_with fail
       go_roundw
       case rel => exact ⟨k + 1, by omega, by go_num, ⟨(acc ++ [⟨1, xm⟩]), by simpa using HRw.out, hide Hf.out.symm⟩, HB3.out⟩
       case measure => simp [intOf]; omega
      ·have dfr : decide ((xs + ys + 50) * (xs + ys + 50) < sq) = true := Hfr2.out.symm
       have Hf := hide (show LT (k + 1) = (acc ++ [⟨1, xm⟩]) ++ [⟨2, xm⟩] by rw [Hon.out]; simp)
       clear Hfr2 Hon hmu
       go_wp2_with (at_builtin; refine wpList_append1 rfl (.tmp 120) (.tmp 124) 37 rfl w1.heap.size 47 (.agg #[.int .i64 0, .string .empty]) 2 24 encFin Tryz.underlying37 (by kernel_rfl) rfl (by omega) encFin_len encFin_one _ (acc ++ [⟨1, xm⟩]) ⟨2, xm⟩ rfl (HRw.out.alloc _) _ rfl (Blk.new w10 _ _) (by first | omega | (rw [hal2]; omega)) (by omega) (le_alloc hs10 _) ?_; intro A4 c4' w11 hrow4 hb4 _)
       have Hr4 := hide hrow4
       have Hb4 := hide ((HB3.out.alloc hs10 (.cells #[.int .i64 2, .string xm] 47)).trans hb4)
       clear hrow4 hb4
       go_wp2_with fail
       go_roundw
       case rel => exact ⟨k + 1, by omega, by go_num, ⟨(acc ++ [⟨1, xm⟩]) ++ [⟨2, xm⟩], by simpa using Hr4.out, hide Hf.out.symm⟩, Hb4.out⟩
       case measure => simp [intOf]; omega
  ·obtain rfl : k = n5 := by omega
   have hf : acc = LF := by rw [hacc.out, Hta.out]
   have Hlen := hide (show LF.length = acc.length by rw [hf])
   have Hr := hide (show FinRow w.heap.size wr Ao acc.length co LF by rw [← hf]; exact rowLow HW.out.size hrow)
   have HB9 := hide (below_step HW.out hbr (Nat.le_refl _))
   clear hf hacc hrow hbr
   generalize acc.length = ml at *
   go_wp2_with fail
   go_ret2
   exact ⟨Ao, co, by rw [Hlen.out] <;> rfl, by rw [Hlen.out]; exact Hr.out, HB9.out⟩
end Go.Proofs.YtpaanfjjnjjoeaaGreat
