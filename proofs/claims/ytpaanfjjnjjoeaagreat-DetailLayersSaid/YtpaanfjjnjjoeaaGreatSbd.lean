/- sections.parts: supply and demand, part by part. -/
import Derived.Test.YtpaanfjjnjjoeaaGreatSbc
set_option maxHeartbeats 8000000
set_option maxRecDepth 100000
namespace Go.Proofs.YtpaanfjjnjjoeaaGreat
open Go.RowKit
theorem zlT (p : Int) (w : World) : Calls Tryz.prog 198 #[.int .i64 p] w fun e w' => e = .returned (.bool (zaS p)) ∧ w = w' := by
 have Hr := zf (show zaS p = (decide (-1048576 ≤ p) && decide (p ≤ 1048576)) from rfl);generalize zaS p = t at *;cases h1 : decide (-1048576 ≤ p)
 ·rw [h1] at Hr;go_enter Tryz.func198, Tryz.ntmps198;go_wp2;go_ret;exact ⟨zo (by rw [Hr.out]; rfl), rfl⟩
 ·rw [h1] at Hr;go_enter Tryz.func198, Tryz.ntmps198;go_wp2;go_ret;exact ⟨zo (by rw [Hr.out]; rfl), rfl⟩
theorem znc (x : DetD) (s : DetS) (q : Nat) (w : World) {B : Nat} (h : DetAt w B x s) (hB : B ≤ w.heap.size) (hf : DetFit x s) (hd : zah x = true) (hq : q < s.n6) :
  Calls Tryz.prog 195 #[zcZ x s, .int .i64 (q : Int)] w fun e w' => e = .returned (.int .i64 0) ∧ Below w.heap.size w w' := by
 have HV := zf (fun (W : World) (hz : Below w.heap.size w W) => show Calls Tryz.prog 61 #[.agg (zp x.mem x.rule s)] W _ from zdO x s W (h.carry (hz.mono hB) (ze _)) (zh hB hz.size) hf);rw [hd] at HV;have HC9 := zf (show (zp x.mem x.rule s)[9]? = some (.slice s.a6 s.n6 s.c6) from rfl);have K0 := zf (Blk.new w 34 (zp x.mem x.rule s));have HW := zf (zk w (.cells (zp x.mem x.rule s) 34));have Hi := zf (show (Tryz.prog.info? 34).map (·.size) = some 19 by kernel_rfl);have Hsz := zf (show (zp x.mem x.rule s).size = 19 from rfl)
 show Calls Tryz.prog 195 #[.agg (zp x.mem x.rule s), .int .i64 (q : Int)] w _
 generalize zp x.mem x.rule s = C at *;obtain ⟨a1, n1, c1, a2, n2, c2, a3, n3, c3, a4, n4, c4, a5, n5, c5, a6, n6, c6⟩ := s;simp only at hq HC9;clear h hB hf hd;go_enter Tryz.func195, Tryz.ntmps195;go_wp2_with (refine wpList_load_row rfl 34 (.tmp 2) rfl w.heap.size rfl 34 _ (0, 0) _ K0.out Tryz.underlying34 rfl (by rw [Hsz.out]; exact Hi.out) ?_);refine (HV.out _ HW.out).mono ?_;rintro e w1 ⟨rfl, hb⟩;replace K0 := zf (K0.out.keep hb);replace HW := zf (zg HW.out hb (ze _));clear hb HV;have e9 := (K0.out.cell 9).trans HC9.out;have lk0 := K0.out.lt;have j1 : decide ((q : Int) < 0) = false := by simp
 have j2 : decide ((n6 : Int) ≤ (q : Int)) = false := by simp; omega
 have j3 : decide (n6 ≤ q) = false := by simp; omega
 go_wp2;go_ret;exact ⟨rfl, HW.out⟩
theorem zpE {α β : Type} {f : α → Bool} {g : β → Bool} {l : List α} {m : List β} (h : l.map f = m.map g) : l.any f = m.any g := by
 have e1 : l.any f = (l.map f).any id := by rw [List.any_map]; rfl
 have e2 : m.any g = (m.map g).any id := by rw [List.any_map]; rfl
 rw [e1, e2, h]
def ztA (S T : List (Int × Int)) : List Int := ((S ++ T).map (·.1)).filter zaS
theorem zso {S T : List (Int × Int)} {p : Int} (h : p ∈ zhv S T) : -1048576 ≤ p ∧ p ≤ 1048576 := by
 have h1 : p ∈ ztA S T := (zdS (ztA S T)).2 p |>.1 h;have h2 := (List.mem_filter.1 h1).2;simp only [zaS, zm, zzJ] at h2;exact h2
def zlL (x : DetD) (d : DemD) (w : World) (e : Ending) (w' : World) : Prop :=
 (zbk x d ≠ 0 ∧ e = .returned (.tuple #[.slice none 0 0, .int .i64 (zbk x d)]) ∧ Below w.heap.size w w') ∨
 (zbk x d = 0 ∧ ∃ A c PT, e = .returned (.tuple #[.slice A (List.length PT) c, .int .i64 0]) ∧ PrtsAt w' w'.heap.size A PT ∧ PT.length ≤ 1000 ∧ PT.any zkh = zes x d ∧ (∀ p ∈ PT, (-2000000 ≤ p.lo ∧ p.lo ≤ 2000000) ∧ -2000000 ≤ p.hi ∧ p.hi ≤ 2000000) ∧ Below w.heap.size w w')
theorem zsi (HSL : zbU) (HCL : zbV) (x : DetD) (s : DetS) (q : Nat) (d : DemD) (w : World) {B : Nat} (h : DetAt w B x s) (hB : B ≤ w.heap.size) (hf : DetFit x s) (hd : zah x = true) (hq : x.dems[q]? = some d)
  (hdem : ∀ d ∈ x.dems, d.name.size ≤ maxLen ∧ (d.steps.length : Int) ≤ 9223372036854775807 ∧ zeC d = true) :
  Calls Tryz.prog 127 #[zcZ x s, .int .i64 (q : Int)] w fun e w' => zlL x d w e w' := by
 have hq6 : q < s.n6 := by rw [hf.l6]; exact zaa hq
 have HKn := zf (fun (W : World) (hz : Below w.heap.size w W) => show Calls Tryz.prog 195 #[.agg (zp x.mem x.rule s), .int .i64 (q : Int)] W _ from znc x s q W (h.carry (hz.mono hB) (ze _)) (zh hB hz.size) hf hd hq6);have HOf := zf (fun (W : World) (hz : Below w.heap.size w W) => show Calls Tryz.prog 196 #[.agg (zp x.mem x.rule s), .int .i64 (q : Int)] W _ from zrX HSL HCL x s q d W (h.carry (hz.mono hB) (ze _)) (zh hB hz.size) hf hd hq hdem);have hTok : zau d.steps = true := by
  have h9 := (hdem d (zv hq)).2.2;simp only [zeC, zm] at h9;exact h9.2
 have hSok := zm6 x d;have hTl : d.steps.length ≤ 200 := by
  have h9 := hTok;simp only [zau, zm, zzJ] at h9;exact h9.1
 have hSl : (zbR x d).length ≤ 200 := by
  have h9 := hSok;simp only [zau, zm, zzJ] at h9;exact h9.1
 have Hsb := zf (show zes x d = (zhv (zbR x d) d.steps).any (zic (zbR x d) d.steps) from rfl);obtain ⟨b6, o6, d', A9, c9, hA6, hb6, hd', hs9, hc9⟩ := DemsAt.get (k := q) h.h6 (zaa hq);obtain rfl : d' = d := by rw [hq] at hd'; injection hd' with hd'; exact hd'.symm
 have HD7 := zf (fun (W : World) (hz : Below w.heap.size w W) => show W.cell? ⟨b6, o6 + q * 8 + 7, none⟩ = some (.slice A9 d'.steps.length c9) from (hz.cell (p := ⟨b6, _, none⟩) (zt hb6 hB)).trans (hc9 7 _ rfl));have HL7 := zf (fun (W : World) (hz : Below w.heap.size w W) => show b6 < W.heap.size from zt hb6 (zh hB hz.size));have HT9 := zf (fun (W : World) (hz : Below w.heap.size w W) => SlOf.carry (Flat.carried _) hs9 (hz.mono hB) (ze B));have HC9 := zf (show (zp x.mem x.rule s)[9]? = some (.slice (some ⟨b6, o6, none⟩) s.n6 s.c6) by rw [← hA6]; rfl);have K0 := zf (Blk.new w 34 (zp x.mem x.rule s));have HW := zf (zk w (.cells (zp x.mem x.rule s) 34));have Hi := zf (show (Tryz.prog.info? 34).map (·.size) = some 19 by kernel_rfl);have Hsz := zf (show (zp x.mem x.rule s).size = 19 from rfl);have HBB := zf hB;have P1 := zf (fun (w' : World) (q1 : zbk x d' ≠ 0) (hb : Below w.heap.size w w') => show zlL x d' w (.returned (.tuple #[.slice none 0 0, .int .i64 (zbk x d')])) w' from .inl ⟨q1, rfl, hb⟩);have P2 := zf (fun (w' : World) (q1 : zbk x d' = 0) (A : Option Addr) (c : Nat) (PT : List PrtD) (h1 : PrtsAt w' w'.heap.size A PT) (h2 : PT.length ≤ 1000) (h3 : PT.any zkh = zes x d') (h4 : ∀ p ∈ PT, (-2000000 ≤ p.lo ∧ p.lo ≤ 2000000) ∧ -2000000 ≤ p.hi ∧ p.hi ≤ 2000000) (hb : Below w.heap.size w w') =>
  show zlL x d' w (.returned (.tuple #[.slice A (List.length PT) c, .int .i64 0])) w' from .inr ⟨q1, A, c, PT, rfl, h1, h2, h3, h4, hb⟩)
 show Calls Tryz.prog 127 #[.agg (zp x.mem x.rule s), .int .i64 (q : Int)] w _
 generalize zp x.mem x.rule s = C at *;obtain ⟨a1, n1, c1, a2, n2, c2, a3, n3, c3, a4, n4, c4, a5, n5, c5, a6, n6, c6⟩ := s;simp only at hq6 HC9;generalize zbR x d' = S at *;generalize zbk x d' = SE at *;generalize zes x d' = SB at *;obtain ⟨T, hT⟩ : ∃ T, T = d'.steps := ⟨_, rfl⟩;rw [← hT] at hTok hTl Hsb HD7 HT9;clear h hB hf hd hq hdem hA6 hb6 hd' hs9 hc9 hT;go_enter Tryz.func127, Tryz.ntmps127;go_wp2_with (refine wpList_load_row rfl 34 (.tmp 2) rfl w.heap.size rfl 34 _ (0, 0) _ K0.out Tryz.underlying34 rfl (by rw [Hsz.out]; exact Hi.out) ?_);refine (HKn.out _ HW.out).mono ?_;rintro e w1 ⟨rfl, hb⟩;replace K0 := zf (K0.out.keep hb);replace HW := zf (zg HW.out hb (ze _));clear hb HKn;go_wp2_with (refine wpList_load_row rfl 34 (.tmp 2) rfl w.heap.size rfl 34 _ (0, 0) _ K0.out Tryz.underlying34 rfl (by rw [Hsz.out]; exact Hi.out) ?_);refine (HOf.out _ HW.out).mono ?_;rintro e w2 ⟨A1, cS, rfl, hS, hb⟩;replace K0 := zf (K0.out.keep hb);replace HW := zf (zg HW.out hb (ze _));have HSt := zf hS;clear hb HOf hS;by_cases hse : SE = 0
 rotate_left
 ·have dse : (SE != 0) = true := by simpa using hse
  go_wp2;go_ret2;exact P1.out _ hse HW.out
 subst hse;obtain ⟨nS, hnS⟩ : ∃ n, n = S.length := ⟨_, rfl⟩;obtain ⟨nT, hnT⟩ : ∃ n, n = T.length := ⟨_, rfl⟩;have HnS := zf hnS;have HnT := zf hnT;rw [← hnS] at hSl ⊢;rw [← hnT] at hTl HD7;clear hnS hnT;have e9 := (K0.out.cell 9).trans HC9.out;have lk0 := K0.out.lt;have d7 := HD7.out w2 HW.out;have lb7 := HL7.out w2 HW.out;have q1 : (q : Int) < (n6 : Int) := by omega
 have q2 : (0 : Int) ≤ (q : Int) := by omega
 have HCo := zf (zmr A1 A9 S T nS cS nT c9 w2.heap.size (w2.alloc (.cells #[.slice A1 nS cS, .slice A9 nT c9] 67)) (B := w2.heap.size) (SlOf.carry (Flat.carried _) HSt.out (zk w2 _) (ze _)) (SlOf.carry (Flat.carried _) (HT9.out _ HW.out) ((zk w2 _).mono (zh HBB.out HW.out.size)) (zh HBB.out HW.out.size)) (by simp) HnS.out HnT.out (by omega) (by omega) (Blk.new w2 _ _));have HX := zf (zk w2 (.cells #[.slice A1 nS cS, .slice A9 nT c9] 67));go_wp2_with fail;refine HCo.out.mono ?_;rintro e w3 ⟨A3, c3', rfl, hr3, hb⟩;replace HX := zf (zg HX.out hb (ze _));have HST := zf (Row.read hr3 zbi (by omega));clear hb hr3 HCo e9 lk0 d7 lb7;have hSTl : (S ++ T).length ≤ 400 := by rw [zC, ← HnS.out, ← HnT.out]; omega
 obtain ⟨ST, hST⟩ : ∃ ST, ST = S ++ T := ⟨_, rfl⟩;obtain ⟨LC, hLC⟩ : ∃ LC, LC = ST.length := ⟨_, rfl⟩;rw [← hST] at HST hSTl ⊢;rw [← hLC] at hSTl ⊢;have HLC := zf hLC;have HM0 := zf (show zhv S T = zgn ((ST.map (·.1)).filter zaS) by rw [hST]; rfl);have HW3 := zf (zg HW.out HX.out (ze _));replace K0 := zf (K0.out.keep HX.out);clear hLC hST;go_wp2;go_loopw [9, 44] (fun v iv wr => ∃ k : Nat, k ≤ LC ∧ iv = .int .i64 k ∧ (∃ acc : List Int, Row wr w3.heap.size 3 1 zaP v acc ∧ Hid (acc = ((ST.take k).map (·.1)).filter zaS)) ∧ Below w3.heap.size w3 wr) (fun _ iv _ => LC - (intOf iv).toNat)
 case atStart => exact ⟨0, zu _, rfl, ⟨[], Row.nil _ _ _ _ _, zf rfl⟩, Below.refl _ _⟩
 case round =>
  rename World => wr;obtain ⟨k, hk, rfl, ⟨acc, hrow, hacc⟩, hbr⟩ := hrel;obtain ⟨A2', c2', rfl⟩ := hrow.val;have hal : acc.length ≤ 400 := by
   have h9 := congrArg List.length hacc.out;have h8 := zal zaS ((ST.take k).map (·.1));rw [zw, zG] at h8;omega
  by_cases hlt : k < LC
  ·obtain ⟨b, off, y, hA, hbl, hy, e0, e1⟩ := StpsAt.get (k := k) (SlOf.carry (Flat.carried _) HST.out hbr (ze _)) (by rw [← HLC.out]; exact hlt);subst hA;have Htk := zf (show ((ST.take (k + 1)).map (·.1)).filter zaS = acc ++ (if zaS y.1 then [y.1] else []) by
    rw [zQ hy, zV, zbw, ← hacc.out]
    congr 1
    cases hq9 : zaS y.1 <;> simp [hq9])
   have lb : b < wr.heap.size := zt hbl hbr.size;obtain ⟨y1, y2⟩ := y;simp only at e0 e1 Htk;have HPl := zf (fun W => zlT y1 W);have hbz := hbr.size;have KS := zf (Blk.new wr 71 #[.int .i64 y1, .int .i64 y2]);have HR := zf (hrow.alloc (.cells #[.int .i64 y1, .int .i64 y2] 71));have HBr := zf (hbr.alloc hbz (.cells #[.int .i64 y1, .int .i64 y2] 71));have f0 := KS.out.cell 0;simp at f0;have lf := KS.out.lt;generalize zaS y1 = co at *;clear hy hbl hrow hbr;go_wp2_with fail;refine (HPl.out _).mono ?_;rintro e wz ⟨rfl, rfl⟩;cases co
   ·go_wp2;go_roundw
    case rel => exact ⟨k + 1, by omega, by go_num, ⟨acc, HR.out, zf (by rw [Htk.out]; simp)⟩, HBr.out⟩
    case measure => simp [intOf]; omega
   ·have hz9 := HBr.out.size;go_wp2_with (at_builtin; refine zO rfl (.tmp 51) (.tmp 54) 48 rfl w3.heap.size 3 (.int .i64 0) 1 8 zaP Tryz.underlying48 (by kernel_rfl) rfl (by omega) zbq zd4 _ acc y1 rfl (HR.out.alloc _) _ rfl (Blk.new1 wr _ _ _) (by omega) (by omega) (zM hz9 _) ?_; intro A9' c9' w9 hrow9 hb9 hkeep9);go_roundw
    case rel => exact ⟨k + 1, by omega, by go_num, ⟨acc ++ [y1], by simpa using hrow9, zf (by rw [Htk.out]; rfl)⟩, (HBr.out.alloc hz9 _).trans hb9⟩
    case measure => simp [intOf]; omega
  ·obtain rfl : k = LC := by omega
   have hmarks : zgn acc = zhv S T := by rw [HM0.out, hacc.out, HLC.out, zF]
   have HSo := zf (HSL A2' acc acc.length c2' w3.heap.size wr hrow (by omega));have Hbr := zf hbr;clear hrow hbr hacc;go_wp2_with fail;refine HSo.out.mono ?_;rintro e w4 ⟨rfl, hr4, hb4⟩;have hml : (acc.mergeSort fun x y => decide (x ≤ y)).length = acc.length := List.length_mergeSort acc;have HCc := zf (HCL A2' _ acc.length c2' w3.heap.size w4 hr4 (by rw [hml]; omega));replace Hbr := zf (Hbr.out.trans hb4);clear hr4 hb4 HSo;go_wp2_with fail;refine HCc.out.mono ?_;rintro e w6 ⟨A6', rfl, hr6, hb6'⟩;replace Hbr := zf (Hbr.out.trans hb6');have hPl := zkS acc;have Hsc := zf (show Lib.compact (acc.mergeSort fun x y => decide (x ≤ y)) = zgn acc from rfl);rw [Hsc.out] at hr6 ⊢;obtain ⟨PL, hPL⟩ : ∃ PL, PL = zgn acc := ⟨_, rfl⟩;rw [← hPL] at hr6 hPl hmarks ⊢;obtain ⟨P, hP⟩ : ∃ P, P = PL.length := ⟨_, rfl⟩;rw [← hP] at hr6 hPl ⊢;have HP := zf hP;have HPr := zf (Row.read hr6 zbq (by omega));have Hin := zf (fun (p : Int) (hp : p ∈ PL) => zso (S := S) (T := T) (by rw [← hmarks]; exact hp));rw [← hmarks] at Hsb;clear hr6 hb6' HCc hml hPL Hsc hP hmarks HM0;have hz36 := Hbr.out.size;have HWw := zf (zg HW3.out Hbr.out (ze _));have HX2 := zf (zg HX.out Hbr.out (ze _));have F0 := zf (fun (W : World) (hz : Below w6.heap.size w6 W) => (K0.out.keep Hbr.out).keep hz);have HS1 := zf (fun (W : World) (hz : Below w6.heap.size w6 W) (p : Int) => zjE S A1 nS cS p W (SlOf.carry (Flat.carried _) (SlOf.carry (Flat.carried _) HSt.out HX2.out (ze _)) (hz.mono HX2.out.size) (ze _)) (zh HX2.out.size hz.size) HnS.out (by omega) hSok);have HT1 := zf (fun (W : World) (hz : Below w6.heap.size w6 W) (p : Int) => zjE T A9 nT c9 p W (HT9.out W (zg HWw.out hz (ze _))) (zh (zh HBB.out HWw.out.size) hz.size) HnT.out (by omega) hTok);replace HD7 := zf (fun (W : World) (hz : Below w6.heap.size w6 W) => HD7.out W (zg HWw.out hz (ze _)));replace HL7 := zf (fun (W : World) (hz : Below w6.heap.size w6 W) => HL7.out W (zg HWw.out hz (ze _)));go_wp2;go_loopw [12, 63] (fun o iv wo => ∃ i : Nat, i ≤ P ∧ iv = .int .i64 i ∧ (∃ acc : List PrtD, Row wo w6.heap.size 188 4 zfN o acc ∧ Hid (acc.map zkh = (PL.take i).map (zic S T)) ∧ Hid (∀ p ∈ acc, (-2000000 ≤ p.lo ∧ p.lo ≤ 2000000) ∧ -2000000 ≤ p.hi ∧ p.hi ≤ 2000000)) ∧ Hid (Below w6.heap.size w6 wo)) (fun _ iv _ => P - (intOf iv).toNat)
   case atStart => exact ⟨0, zu _, rfl, ⟨[], Row.nil _ _ _ _ _, zf rfl, zf (fun p h => by cases h)⟩, zf (Below.refl _ _)⟩
   case round =>
    obtain ⟨i, hi, rfl, ⟨acc, hrow, hacc, hbd⟩, hbo⟩ := hrel;obtain ⟨A8, c8, rfl⟩ := hrow.val;rename World => wo;have hrow := zf hrow;have hal : acc.length ≤ 400 := by
     have h9 := congrArg List.length hacc.out;rw [zw, zw, zG] at h9;omega
    by_cases hlt : i < P
    ·obtain ⟨b, off, p, hA, hbl, hp, e0⟩ := Ints.get (k := i) (Ints.carry HPr.out hbo.out (ze _)) (by rw [← HP.out]; exact hlt);subst hA;have lb : b < wo.heap.size := zt hbl hbo.out.size;have Htk := zf (show PL.take (i + 1) = PL.take i ++ [p] from zQ hp);obtain ⟨hp1, hp2⟩ := Hin.out p (zv hp);by_cases hnx : i + 1 < P
     ·obtain ⟨b', off', p', hA', _, hp', e1⟩ := Ints.get (k := i + 1) (Ints.carry HPr.out hbo.out (ze _)) (by rw [← HP.out]; exact hnx);obtain ⟨rfl, rfl⟩ : b' = b ∧ off' = off := by simpa [eq_comm] using hA'
      obtain ⟨hp3, hp4⟩ := Hin.out p' (zv hp');have n1 : IntKind.i64.wrap ((i : Int) + 1) = ((i + 1 : Nat) : Int) := by rw [zr _ (by omega)]; omega
      have n2 : IntKind.i64.wrap (p' - 1) = p' - 1 := zr _ (by omega);have n3 : wrap64 (p' - 1) = p' - 1 := zas _ (by omega);have n4 : decide (((i + 1 : Nat) : Int) < (P : Int)) = true := by simp; omega
      have n5 : decide (i + 1 < P) = true := by simp; omega
      have n6' : decide ((i : Int) + 1 < (P : Int)) = true := by simp; omega
      clear hp hp' hbl hA';go_wp2_with fail;refine (HS1.out wo hbo.out p).mono ?_;rintro e w7 ⟨rfl, hb⟩;replace hrow := zf (hrow.out.keep hb);replace hbo := zf (zg hbo.out hb (ze _));clear hb;have k0 := F0.out w7 hbo.out;have e9 := (k0.cell 9).trans HC9.out;have lk0 := k0.lt;have d7 := HD7.out w7 hbo.out;have lb7 := HL7.out w7 hbo.out;clear k0;go_wp2_with fail;refine (HT1.out w7 hbo.out p).mono ?_;rintro e w8 ⟨rfl, hb⟩;replace hrow := zf (hrow.out.keep hb);replace hbo := zf (zg hbo.out hb (ze _));clear hb e9 lk0 d7 lb7;have Hlow := zf (show zkh ⟨p, (p' - 1), zdv S p, zdv T p⟩ = zic S T p from rfl);generalize zdv S p = v1 at *;generalize zdv T p = v2 at *;have hoz := hbo.out.size;go_wp2_with (at_builtin; refine zO rfl (.tmp 102) (.tmp 109) 184 rfl w6.heap.size 188 (.agg #[.int .i64 0, .int .i64 0, .int .i64 0, .int .i64 0]) 4 32 zfN Tryz.underlying184 (by kernel_rfl) rfl (by omega) zhm zjX _ acc ⟨p, (p' - 1), v1, v2⟩ rfl (hrow.out.alloc _) _ rfl (Blk.new w8 _ _) (by omega) (by omega) (zM hoz _) ?_; intro A9 c9 w9 hrow9 hb9 hkeep9);go_roundw
      case rel => exact ⟨i + 1, by omega, by go_num, ⟨acc ++ [⟨p, (p' - 1), v1, v2⟩], by simpa using hrow9, zf (by rw [zV, hacc.out, Htk.out, zV, List.map_cons, List.map_nil, List.map_cons, List.map_nil, Hlow.out]), zf (fun z hz => by
       rcases List.mem_append.1 hz with hz | hz
       ·exact hbd.out z hz
       ·rw [zP] at hz;subst hz;exact ⟨⟨by show -2000000 ≤ p; omega, by show p ≤ 2000000; omega⟩, by show -2000000 ≤ (p' - 1); omega, by show (p' - 1) ≤ 2000000; omega⟩)⟩, zf ((hbo.out.alloc hoz _).trans hb9)⟩
      case measure => simp [intOf]; omega
     ·have n1 : IntKind.i64.wrap ((i : Int) + 1) = ((i + 1 : Nat) : Int) := by rw [zr _ (by omega)]; omega
      have n4 : decide (((i + 1 : Nat) : Int) < (P : Int)) = false := by simp; omega
      have n5 : decide (i + 1 < P) = false := by simp; omega
      have n6' : decide ((i : Int) + 1 < (P : Int)) = false := by simp; omega
      clear hp hbl;go_wp2_with fail;refine (HS1.out wo hbo.out p).mono ?_;rintro e w7 ⟨rfl, hb⟩;replace hrow := zf (hrow.out.keep hb);replace hbo := zf (zg hbo.out hb (ze _));clear hb;have k0 := F0.out w7 hbo.out;have e9 := (k0.cell 9).trans HC9.out;have lk0 := k0.lt;have d7 := HD7.out w7 hbo.out;have lb7 := HL7.out w7 hbo.out;clear k0;go_wp2_with fail;refine (HT1.out w7 hbo.out p).mono ?_;rintro e w8 ⟨rfl, hb⟩;replace hrow := zf (hrow.out.keep hb);replace hbo := zf (zg hbo.out hb (ze _));clear hb e9 lk0 d7 lb7;have Hlow := zf (show zkh ⟨p, (1048576 : Int), zdv S p, zdv T p⟩ = zic S T p from rfl);generalize zdv S p = v1 at *;generalize zdv T p = v2 at *;have hoz := hbo.out.size;go_wp2_with (at_builtin; refine zO rfl (.tmp 102) (.tmp 109) 184 rfl w6.heap.size 188 (.agg #[.int .i64 0, .int .i64 0, .int .i64 0, .int .i64 0]) 4 32 zfN Tryz.underlying184 (by kernel_rfl) rfl (by omega) zhm zjX _ acc ⟨p, (1048576 : Int), v1, v2⟩ rfl (hrow.out.alloc _) _ rfl (Blk.new w8 _ _) (by omega) (by omega) (zM hoz _) ?_; intro A9 c9 w9 hrow9 hb9 hkeep9);go_roundw
      case rel => exact ⟨i + 1, by omega, by go_num, ⟨acc ++ [⟨p, (1048576 : Int), v1, v2⟩], by simpa using hrow9, zf (by rw [zV, hacc.out, Htk.out, zV, List.map_cons, List.map_nil, List.map_cons, List.map_nil, Hlow.out]), zf (fun z hz => by
       rcases List.mem_append.1 hz with hz | hz
       ·exact hbd.out z hz
       ·rw [zP] at hz;subst hz;exact ⟨⟨by show -2000000 ≤ p; omega, by show p ≤ 2000000; omega⟩, by show -2000000 ≤ (1048576 : Int); omega, by show (1048576 : Int) ≤ 2000000; omega⟩)⟩, zf ((hbo.out.alloc hoz _).trans hb9)⟩
      case measure => simp [intOf]; omega
    ·obtain rfl : i = P := by omega
     have hfin : acc.map zkh = PL.map (zic S T) := by rw [hacc.out, HP.out, zF]
     have hany : acc.any zkh = SB := by
      rw [Hsb.out];exact zpE hfin
     have HPt := zf (Row.read hrow.out zhm (by omega));have HB9 := zf (zg HWw.out hbo.out (ze _));have Hany := zf hany;have Hal := zf (show acc.length ≤ 1000 by omega);clear hrow hacc hfin hany;go_wp2;go_ret2;exact P2.out _ (by trivial) A8 c8 acc HPt.out Hal.out Hany.out hbd.out HB9.out
theorem znu {α : Type} (l : List α) : l = [] ∨ ∃ i a, l = i ++ [a] := by
 rcases List.eq_nil_or_concat l with h | ⟨i, a, h⟩
 ·exact .inl h
 ·exact .inr ⟨i, a, by simpa using h⟩
def zjd (x : DetD) (d : DemD) (w : World) (e : Ending) (w' : World) : Prop :=
 (zbk x d ≠ 0 ∧ e = .returned (.tuple #[.slice none 0 0, .int .i64 (zbk x d)]) ∧ Below w.heap.size w w') ∨
 (zbk x d = 0 ∧ ∃ A n c, e = .returned (.tuple #[.slice A n c, .int .i64 0]) ∧ n ≤ 1000 ∧ decide (0 < n) = zes x d ∧ Below w.heap.size w w')
theorem zr4 (HSL : zbU) (HCL : zbV) (x : DetD) (s : DetS) (q : Nat) (d : DemD) (w : World) {B : Nat} (h : DetAt w B x s) (hB : B ≤ w.heap.size) (hf : DetFit x s) (hd : zah x = true) (hq : x.dems[q]? = some d)
  (hdem : ∀ d ∈ x.dems, d.name.size ≤ maxLen ∧ (d.steps.length : Int) ≤ 9223372036854775807 ∧ zeC d = true) :
  Calls Tryz.prog 62 #[zcZ x s, .int .i64 (q : Int)] w fun e w' => zjd x d w e w' := by
 have HPt := zf (fun (W : World) (hz : Below w.heap.size w W) => show Calls Tryz.prog 127 #[.agg (zp x.mem x.rule s), .int .i64 (q : Int)] W _ from zsi HSL HCL x s q d W (h.carry (hz.mono hB) (ze _)) (zh hB hz.size) hf hd hq hdem);have P1 := zf (fun (w' : World) (q1 : zbk x d ≠ 0) (hb : Below w.heap.size w w') => show zjd x d w (.returned (.tuple #[.slice none 0 0, .int .i64 (zbk x d)])) w' from .inl ⟨q1, rfl, hb⟩);have P2 := zf (fun (w' : World) (q1 : zbk x d = 0) (A : Option Addr) (n c : Nat) (h2 : n ≤ 1000) (h3 : decide (0 < n) = zes x d) (hb : Below w.heap.size w w') =>
  show zjd x d w (.returned (.tuple #[.slice A n c, .int .i64 0])) w' from .inr ⟨q1, A, n, c, rfl, h2, h3, hb⟩)
 have K0 := zf (Blk.new w 34 (zp x.mem x.rule s));have HW := zf (zk w (.cells (zp x.mem x.rule s) 34));have Hi := zf (show (Tryz.prog.info? 34).map (·.size) = some 19 by kernel_rfl);have Hsz := zf (show (zp x.mem x.rule s).size = 19 from rfl)
 show Calls Tryz.prog 62 #[.agg (zp x.mem x.rule s), .int .i64 (q : Int)] w _
 generalize zp x.mem x.rule s = C at *;clear h hB hf hd hq hdem;go_enter Tryz.func62, Tryz.ntmps62;go_wp2_with (refine wpList_load_row rfl 34 (.tmp 2) rfl w.heap.size rfl 34 _ (0, 0) _ K0.out Tryz.underlying34 rfl (by rw [Hsz.out]; exact Hi.out) ?_);refine (HPt.out _ HW.out).mono ?_;rintro e w1 (⟨hse, rfl, hb⟩ | ⟨hse, A1, c1, PT, rfl, hpt, hpl, hany, hbd, hb⟩)
 ·have HW1 := zf (zg HW.out hb (ze _));have dse : (zbk x d != 0) = true := by simpa using hse
  have Hse := zf hse;generalize zbk x d = SE at *;go_wp2;go_ret2;exact P1.out _ Hse.out HW1.out
 have HW1 := zf (zg HW.out hb (ze _));have Hse := zf hse;have HPr := zf hpt;have Hany := zf hany;have Hbd := zf hbd;obtain ⟨PN, hPN⟩ : ∃ n, n = PT.length := ⟨_, rfl⟩;have HPN := zf hPN;rw [← hPN] at hpl ⊢;clear hb hse hpt hany hbd hPN HPt HW K0 P1 Hi Hsz;go_wp2;go_loopw [8, 23] (fun v iv wr => ∃ k : Nat, k ≤ PN ∧ iv = .int .i64 k ∧ (∃ acc : List (Int × Int), Row wr w1.heap.size 77 2 zaF v acc ∧ Hid (acc.length ≤ k) ∧ Hid (decide (0 < acc.length) = (PT.take k).any zkh) ∧ Hid (∀ y ∈ acc, -2000000 ≤ y.2 ∧ y.2 ≤ 2000000)) ∧ Hid (Below w1.heap.size w1 wr)) (fun _ iv _ => PN - (intOf iv).toNat)
 case atStart => exact ⟨0, zu _, rfl, ⟨[], Row.nil _ _ _ _ _, zf (ze _), zf rfl, zf (fun p h => by cases h)⟩, zf (Below.refl _ _)⟩
 case round =>
  rename World => wr;obtain ⟨k, hk, rfl, ⟨acc, hrow, hlen, hdec, hbd⟩, hbr⟩ := hrel;obtain ⟨A2, c2, rfl⟩ := hrow.val;have hal := hlen.out;by_cases hlt : k < PN
  ·obtain ⟨b, off, y, hA, hbl, hy, hc⟩ := PrtsAt.get (k := k) (SlOf.carry (Flat.carried _) HPr.out hbr.out (ze _)) (by rw [← HPN.out]; exact hlt);subst hA;have hyb := Hbd.out y (zv hy);have Htk := zf (show (PT.take (k + 1)).any zkh = (decide (0 < acc.length) || decide (y.there < y.wants)) by rw [zQ hy, List.any_append, hdec.out]; simp [zkh]);have e0 := hc 0 _ rfl;have e1 := hc 1 _ rfl;have e2 := hc 2 _ rfl;have e3 := hc 3 _ rfl;simp only [Nat.add_zero] at e0;have lb : b < wr.heap.size := zt hbl hbr.out.size;obtain ⟨lo, hi, there, wants⟩ := y;simp only at e0 e1 e2 e3 Htk hyb;obtain ⟨⟨hl1, hl2⟩, hh1, hh2⟩ := hyb;have hbz := hbr.out.size;have KP := zf (Blk.new wr 188 #[.int .i64 lo, .int .i64 hi, .int .i64 there, .int .i64 wants]);have HR := zf (hrow.alloc (.cells #[.int .i64 lo, .int .i64 hi, .int .i64 there, .int .i64 wants] 188));have HBr := zf (hbr.out.alloc hbz (.cells #[.int .i64 lo, .int .i64 hi, .int .i64 there, .int .i64 wants] 188));have hz9 := HBr.out.size;clear hy hc hbl hrow hbr;by_cases hlow : there < wants
   rotate_left
   ·have d1 : decide (wants ≤ there) = true := by simp; omega
    have d2 : decide (there < wants) = false := by simp; omega
    rw [d2, Bool.or_false] at Htk;go_wp2;go_roundw
    case rel => exact ⟨k + 1, by omega, by go_num, ⟨acc, HR.out, zf (by omega), zf Htk.out.symm, hbd⟩, HBr⟩
    case measure => simp [intOf]; omega
   ·have d1 : decide (wants ≤ there) = false := by simp; omega
    have d2 : decide (there < wants) = true := by simp; omega
    rw [d2, Bool.or_true] at Htk;rcases znu acc with rfl | ⟨ini, last, rfl⟩
    ·go_wp2_with fail;go_quiet (fail)
     have HRq := zf (Row.keep HR.out (zaT (Below.refl _ _) nq));have HBq := zf (zaT HBr.out nq);have KPq := zf (KP.out.drewN nq);have hzq := HBq.out.size;generalize World.drewN (wr.alloc (.cells #[.int .i64 lo, .int .i64 hi, .int .i64 there, .int .i64 wants] 188)) nq = wq at *;have p0 := KPq.out.cell 0;have p1 := KPq.out.cell 1;simp at p0 p1;have lp := KPq.out.lt;have Hlw := zf (show ∀ y ∈ ([] : List (Int × Int)) ++ [(lo, hi)], -2000000 ≤ y.2 ∧ y.2 ≤ 2000000 from fun y hy => by
      rcases List.mem_append.1 hy with hy | hy
      ·exact hbd.out y hy
      ·rw [zP] at hy;subst hy;exact ⟨hh1, hh2⟩)
     go_wp2_with (at_builtin; refine zO rfl (.tmp 29) (.tmp 32) 122 rfl w1.heap.size 77 (.agg #[.int .i64 0, .int .i64 0]) 2 16 zaF Tryz.underlying122 (by kernel_rfl) rfl (by omega) zbi zda _ (([] : List (Int × Int))) (lo, hi) rfl (HRq.out.alloc _) _ rfl (Blk.new _ _ _) (by simp) (by omega) (zM hzq _) ?_; intro A9 c9 w9 hrow9 hb9 hkeep9);go_roundw
     case rel => exact ⟨k + 1, by omega, by go_num, ⟨([] : List (Int × Int)) ++ [(lo, hi)], by simpa using hrow9, zf (by rw [zC, za7]; omega), zf (by rw [Htk.out]; simp), Hlw⟩, zf ((HBq.out.alloc hzq _).trans hb9)⟩
     case measure => simp [intOf]; omega
    ·obtain ⟨la1, la2⟩ := last;have hl : (ini ++ [(la1, la2)]).length = ini.length + 1 := by simp
     have hb9 := hbd.out (la1, la2) (by simp);simp only at hb9;rw [hl] at HR hal ⊢;obtain ⟨g, cs, hA2, hbg, hblk, hcs⟩ := zi8 HR.out (by simp);subst hA2;have KC := zf (show cs[ini.length * 2 + 1]? = some (.int .i64 la2) from hcs _ _ (zcd zbi (ini ++ [(la1, la2)]) ini.length (la1, la2) (by simp) 1 (.int .i64 la2) rfl));have KB := zf hblk;have Hm6 := zf (show decide ((0 : Int) < (ini.length : Int) + 1) = true from zI (by omega));have Hm7 := zf (show (0 : Int) ≤ (ini.length : Int) from by omega);have Hm8 := zf (show (ini.length : Int) < (ini.length : Int) + 1 from by omega);have Hm1 := zf (show IntKind.i64.wrap ((ini.length : Int) + 1 - 1) = (ini.length : Int) from by rw [zbL]; exact zr _ (by omega));have Hm2 := zf (show IntKind.i64.wrap (ini.length : Int) = (ini.length : Int) from zr _ (by omega));have Hm3 := zf (show wrap64 (ini.length : Int) = (ini.length : Int) from zas _ (by omega));have Hm4 := zf (show IntKind.i64.wrap (la2 + 1) = la2 + 1 from zr _ (by omega));have Hm5 := zf (show wrap64 (la2 + 1) = la2 + 1 from zas _ (by omega));have Hw1w := zf (show wrap64 ((ini.length : Int) + 1 - 1) = (ini.length : Int) from by rw [zbL]; exact zas _ (by omega));have k0 := cell_regrown ((KB.out.cell (ini.length * 2 + 1)).trans KC.out);have k9 := (KB.out.cell (ini.length * 2 + 1)).trans KC.out;have lg := KB.out.lt;clear hblk hcs;cases hq : (la2 + 1 == lo)
     ·skip
      have m6 := Hm6.out;have m7 := Hm7.out;have m8 := Hm8.out;have m1 := Hm1.out;have m2 := Hm2.out;have m3 := Hm3.out;have m4 := Hm4.out;have m5 := Hm5.out;have w1' := Hw1w.out;go_wp2_with fail;go_quiet (fail)
      clear m6 m7 m8 m1 m2 m3 m4 m5 w1';have HRq := zf (Row.keep HR.out (zaT (Below.refl _ _) nq));have HBq := zf (zaT HBr.out nq);have KPq := zf (KP.out.drewN nq);have hzq := HBq.out.size;generalize World.drewN (wr.alloc (.cells #[.int .i64 lo, .int .i64 hi, .int .i64 there, .int .i64 wants] 188)) nq = wq at *;have p0 := KPq.out.cell 0;have p1 := KPq.out.cell 1;simp at p0 p1;have lp := KPq.out.lt;have Hlw := zf (show ∀ y ∈ (ini ++ [(la1, la2)]) ++ [(lo, hi)], -2000000 ≤ y.2 ∧ y.2 ≤ 2000000 from fun y hy => by
       rcases List.mem_append.1 hy with hy | hy
       ·exact hbd.out y hy
       ·rw [zP] at hy;subst hy;exact ⟨hh1, hh2⟩)
      go_wp2_with (at_builtin; refine zO rfl (.tmp 29) (.tmp 32) 122 rfl w1.heap.size 77 (.agg #[.int .i64 0, .int .i64 0]) 2 16 zaF Tryz.underlying122 (by kernel_rfl) rfl (by omega) zbi zda _ ((ini ++ [(la1, la2)])) (lo, hi) rfl (HRq.out.alloc _) _ rfl (Blk.new _ _ _) (by rw [hl]; omega) (by omega) (zM hzq _) ?_; intro A9 c9 w9 hrow9 hb9 hkeep9);go_roundw
      case rel => exact ⟨k + 1, by omega, by go_num, ⟨(ini ++ [(la1, la2)]) ++ [(lo, hi)], by simpa using hrow9, zf (by rw [zC, za7]; omega), zf (by rw [Htk.out]; simp), Hlw⟩, zf ((HBq.out.alloc hzq _).trans hb9)⟩
      case measure => simp [intOf]; omega
     ·skip
      have m6 := Hm6.out;have m7 := Hm7.out;have m8 := Hm8.out;have m1 := Hm1.out;have m2 := Hm2.out;have m3 := Hm3.out;have m4 := Hm4.out;have m5 := Hm5.out;have w1' := Hw1w.out;go_wp2_with fail;go_quiet (fail)
      have HRq := zf (Row.keep HR.out (zaT (Below.refl _ _) nq));have HBq := zf (zaT HBr.out nq);have KPq := zf (KP.out.drewN nq);have KBq := zf (KB.out.drewN nq);generalize World.drewN (wr.alloc (.cells #[.int .i64 lo, .int .i64 hi, .int .i64 there, .int .i64 wants] 188)) nq = wq at *;have p1 := KPq.out.cell 1;simp at p1;have lp := KPq.out.lt;have kc := (KBq.out.cell (ini.length * 2 + 1)).trans KC.out;have zc := KBq.out.frozen (ini.length * 2 + 1);have lq := KBq.out.lt;have Hlw := zf (show ∀ y ∈ ini ++ [(la1, hi)], -2000000 ≤ y.2 ∧ y.2 ≤ 2000000 from fun y hy => by
       rcases List.mem_append.1 hy with hy | hy
       ·exact hbd.out y (List.mem_append.2 (.inl hy))
       ·rw [zP] at hy;subst hy;exact ⟨hh1, hh2⟩)
      go_wp2_with fail;clear m6 m7 m8 m1 m2 m3 m4 m5 w1';go_roundw
      case rel => exact ⟨k + 1, by omega, by go_num, ⟨ini ++ [(la1, hi)], zsd HRq.out hi, zf (by rw [zC, za7]; omega), zf (by rw [Htk.out]; simp), Hlw⟩, zf (HBq.out.setCell (p := ⟨g, ini.length * 2 + 1, none⟩) hbg _)⟩
      case measure => simp [intOf]; omega
  ·obtain rfl : k = PN := by omega
   have hfin : decide (0 < acc.length) = zes x d := by rw [hdec.out, HPN.out, zF, Hany.out]
   have HB9 := zf (zg HW1.out hbr.out (ze _));have Hfin := zf hfin;have Hal := zf (show acc.length ≤ 1000 by omega);clear hrow hdec hbd hbr hfin;go_wp2;go_ret2;exact P2.out _ Hse.out A2 acc.length c2 Hal.out Hfin.out HB9.out
theorem ziC (HSL : zbU) (HCL : zbV) (x : DetD) (s : DetS) (w : World) {B : Nat} (h : DetAt w B x s) (hB : B ≤ w.heap.size) (hf : DetFit x s) (hd : zah x = true) :
  Calls Tryz.prog 22 #[zcZ x s] w fun e w' => ∃ A c, e = .returned (.tuple #[.slice A (zaW x).length c, .int .i64 (zbp x)]) ∧ FinRow w.heap.size w' A (zaW x).length c (zaW x) ∧ Below w.heap.size w w' := by
 have hdo : zb0 x.dems = true := by
  simp only [zah, zcI, zm] at hd;exact hd.1.1.1.2
 have hdl : x.dems.length ≤ 20 := by
  simp only [zb0, zm, zzJ] at hdo;exact hdo.1
 have hdm : ∀ (l done : List DemD), zc7 done l = true → ∀ d ∈ l, zeC d = true := by
  intro l
  induction l with
  | nil => intro _ _ d hd; cases hd
  | cons y l ih =>
   intro done h9 d hd;simp only [zc7, zm] at h9;rcases List.mem_cons.1 hd with rfl | hd
   ·exact h9.1.1
   ·exact ih _ h9.2 d hd
 have hdem : ∀ d ∈ x.dems, d.name.size ≤ maxLen ∧ (d.steps.length : Int) ≤ 9223372036854775807 ∧ zeC d = true := fun d hm => ⟨(hf.dems d hm).1, (hf.dems d hm).2, hdm _ _ (by simp only [zb0, zm] at hdo; exact hdo.2) d hm⟩;have HV := zf (fun (W : World) (hz : Below w.heap.size w W) => show Calls Tryz.prog 61 #[.agg (zp x.mem x.rule s)] W _ from zdO x s W (h.carry (hz.mono hB) (ze _)) (zh hB hz.size) hf);rw [hd] at HV;have HSp := zf (fun (W : World) (hz : Below w.heap.size w W) (q : Nat) (d : DemD) (hq : x.dems[q]? = some d) => show Calls Tryz.prog 62 #[.agg (zp x.mem x.rule s), .int .i64 (q : Int)] W fun e w' => zjd x d W e w' from zr4 HSL HCL x s q d W (h.carry (hz.mono hB) (ze _)) (zh hB hz.size) hf hd hq hdem);have H6 := zf (fun (W : World) (hz : Below w.heap.size w W) => SlOf.carry zba h.h6 (hz.mono hB) (ze B));have L6 := zf hf.l6;have hn6 : s.n6 ≤ 20 := by rw [hf.l6]; exact hdl
 have HBB := zf hB;have HC9 := zf (show (zp x.mem x.rule s)[9]? = some (.slice s.a6 s.n6 s.c6) from rfl);have K0 := zf (Blk.new w 34 (zp x.mem x.rule s));have HW := zf (zk w (.cells (zp x.mem x.rule s) 34));have Hi := zf (show (Tryz.prog.info? 34).map (·.size) = some 19 by kernel_rfl);have Hsz := zf (show (zp x.mem x.rule s).size = 19 from rfl);have He0 := zf (show zfV x (x.dems.drop 0) = zbp x from rfl);have Hr1 := zf (fun (q : zbp x = 0) => show zaW x = zbO x x.dems by rw [zaW, if_pos q]);have Hr2 := zf (fun (q : zbp x ≠ 0) => show zaW x = [] by rw [zaW, if_neg q]);generalize zbp x = SE at *;generalize zaW x = SR at *
 show Calls Tryz.prog 22 #[.agg (zp x.mem x.rule s)] w _
 generalize zp x.mem x.rule s = C at *;obtain ⟨a1, n1, c1, a2, n2, c2, a3, n3, c3, a4, n4, c4, a5, n5, c5, a6, n6, c6⟩ := s;simp only at H6 L6 hn6 HC9;clear h hB hf hd hdo hdl hdm hdem;go_enter Tryz.func22, Tryz.ntmps22;go_wp2_with (refine wpList_load_row rfl 34 (.tmp 1) rfl w.heap.size rfl 34 _ (0, 0) _ K0.out Tryz.underlying34 rfl (by rw [Hsz.out]; exact Hi.out) ?_);refine (HV.out _ HW.out).mono ?_;rintro e w1 ⟨rfl, hb⟩;replace K0 := zf (K0.out.keep hb);replace HW := zf (zg HW.out hb (ze _));clear hb HV;have e9 := (K0.out.cell 9).trans HC9.out;have lk0 := K0.out.lt;go_wp2_with fail;clear e9 lk0;go_loopw [4, 15] (fun v iv wr => ∃ k : Nat, k ≤ n6 ∧ iv = .int .i64 k ∧ (∃ acc : List FinD, Row wr w1.heap.size 47 2 zbB v acc ∧ Hid (acc = zbO x (x.dems.take k)) ∧ Hid (zfV x (x.dems.drop k) = SE)) ∧ Hid (Below w1.heap.size w1 wr)) (fun _ iv _ => n6 - (intOf iv).toNat)
 case atStart => exact ⟨0, zu _, rfl, ⟨[], Row.nil _ _ _ _ _, zf rfl, He0⟩, zf (Below.refl _ _)⟩
 case round =>
  clear He0;rename World => wr;obtain ⟨k, hk, rfl, ⟨acc, hrow, hacc, herr⟩, hbr⟩ := hrel;obtain ⟨A2, c2', rfl⟩ := hrow.val;have hal : acc.length ≤ 20 := by
   have h9 := ziB x (x.dems.take k);rw [← hacc.out, zG] at h9;omega
  have HWr := zf (zg HW.out hbr.out (ze _));by_cases hlt : k < n6
  ·obtain ⟨b, off, d, A9, c9, hA, hbl, hx, _, hc⟩ := DemsAt.get (k := k) (H6.out _ HWr.out) (by rw [← L6.out]; exact hlt);subst hA;have Hek := zf (herr.out.symm.trans (zpf x hx));have Hn := zf (show zbO x (x.dems.take (k + 1)) = acc ++ (if zes x d then [zgx d] else []) by rw [zQ hx, zlU, hacc.out]);have HSk := zf (fun (W : World) (hz : Below w.heap.size w W) => HSp.out W hz k d hx);have lb : b < wr.heap.size := zt hbl (zh HBB.out HWr.out.size);have e0 := hc 0 _ rfl;have e1 := hc 1 _ rfl;have e2 := hc 2 _ rfl;have e3 := hc 3 _ rfl;have e4 := hc 4 _ rfl;have e5 := hc 5 _ rfl;have e6 := hc 6 _ rfl;have e7 := hc 7 _ rfl;simp only [Nat.add_zero] at e0;have K0r := zf (K0.out.below hbr.out K0.out.lt);have KD := zf (Blk.new wr 69 #[.string d.name, .int .i64 d.zone.lo.1, .int .i64 d.zone.lo.2.1, .int .i64 d.zone.lo.2.2, .int .i64 d.zone.hi.1, .int .i64 d.zone.hi.2.1, .int .i64 d.zone.hi.2.2, .slice A9 d.steps.length c9]);have HX := zf (zk wr (.cells #[.string d.name, .int .i64 d.zone.lo.1, .int .i64 d.zone.lo.2.1, .int .i64 d.zone.lo.2.2, .int .i64 d.zone.hi.1, .int .i64 d.zone.hi.2.1, .int .i64 d.zone.hi.2.2, .slice A9 d.steps.length c9] 69));have Hrow := zf hrow;have hbz := hbr.out.size;have K0q := zf (K0r.out.keep HX.out);clear hx hc hbl hrow herr hacc;go_wp2_with (refine wpList_load_row rfl 34 (.tmp 1) rfl w.heap.size rfl 34 _ (0, 0) _ K0q.out Tryz.underlying34 rfl (by rw [Hsz.out]; exact Hi.out) ?_);refine (HSk.out _ (zg HWr.out HX.out (ze _))).mono ?_;clear e0 e1 e2 e3 e4 e5 e6 e7 lb HSk;rintro e w5 (⟨hse, rfl, hb⟩ | ⟨hse, A5, n5', c5', rfl, hn5, hdec, hb⟩)
   ·have h9 := Hek.out;rw [if_neg hse] at h9;have HB9 := zf (zg (zg HWr.out HX.out (ze _)) hb (ze _));have dse : (zbk x d != 0) = true := by simpa using hse
    have Hse := zf hse;have H9 := zf h9;clear hb h9 hse Hek Hn;generalize zbk x d = es at *;go_wp2;go_ret2;have hr := Hr2.out (by rw [H9.out]; exact Hse.out);exact ⟨none, 0, by rw [hr, H9.out]; rfl, by rw [hr]; exact Row.nil _ _ _ _ _, HB9.out⟩
   ·have h9 := Hek.out;rw [if_pos hse] at h9;have H9 := zf h9.symm;have HXc := zf (zg HX.out hb (ze _));have KD2 := zf (KD.out.keep hb);have Hrow2 := zf (Hrow.out.keep HXc.out);have hx2 := zf (hbr.out.trans (HXc.out.mono hbz));have hxz := hx2.out.size;clear hb h9 hse Hek KD Hrow;have f0 := KD2.out.cell 0;simp at f0;have lf := KD2.out.lt;cases hsb : zes x d
    ·rw [hsb] at hdec Hn;have hn0 : ¬ 0 < n5' := of_decide_eq_false hdec;have t1 : decide ((0 : Int) < (n5' : Int)) = false := zE (by omega);have t2 : decide (0 < n5') = false := hdec;clear hsb;go_wp2;go_roundw
     case rel => exact ⟨k + 1, by omega, by go_num, ⟨acc, Hrow2.out, zf (by rw [Hn.out]; simp), H9⟩, hx2⟩
     case measure => simp [intOf]; omega
    ·rw [hsb] at hdec Hn;have hn0 : 0 < n5' := of_decide_eq_true hdec;have t1 : decide ((0 : Int) < (n5' : Int)) = true := zI (by omega);have t2 : decide (0 < n5') = true := hdec;clear hsb;go_wp2_with (at_builtin; refine zO rfl (.tmp 32) (.tmp 36) 37 rfl w1.heap.size 47 (.agg #[.int .i64 0, .string .empty]) 2 24 zbB Tryz.underlying37 (by kernel_rfl) rfl (by omega) zbv zb6 _ acc (zgx d) rfl (Hrow2.out.alloc _) _ rfl (Blk.new w5 _ _) (by omega) (by omega) (zM hxz _) ?_; intro A7 c7 w7 hrow7 hb7 hkeep7);go_roundw
     case rel => exact ⟨k + 1, by omega, by go_num, ⟨acc ++ [zgx d], by simpa using hrow7, zf (by rw [Hn.out]; rfl), H9⟩, zf ((hx2.out.alloc hxz _).trans hb7)⟩
     case measure => simp [intOf]; omega
  ·obtain rfl : k = n6 := by omega
   have hse : SE = 0 := by
    rw [← herr.out, L6.out, zar]
    rfl
   have hr : SR = acc := by rw [Hr1.out hse, hacc.out, L6.out, zF]
   have HR := zf (show FinRow w.heap.size wr A2 SR.length c2' SR by rw [hr]; exact zg8 HW.out.size hrow);have Hr := zf hr;have Hse := zf hse;clear hrow hacc herr hbr hr hse;go_wp2;go_ret2;exact ⟨A2, c2', by rw [Hr.out, Hse.out]; rfl, HR.out, HWr.out⟩
theorem zkf {f n : Int} : ∀ (l : List JoinD) {y : JoinD} {r : List JoinD}, zaO f n l = y :: r → ∃ t j0, l[t]? = some j0 ∧ zcV f n j0 = true ∧ zcc f n j0 = y ∧ zaO f n (l.drop (t + 1)) = r := by
 intro l
 induction l with
 | nil => intro y r h; cases h
 | cons j l ih =>
  intro y r h;cases hk : zcV f n j
  ·have h2 : zaO f n l = y :: r := by
    rw [zaO, List.filter_cons_of_neg (by rw [hk]; simp)] at h;exact h
   obtain ⟨t, j0, a, b, c, d⟩ := ih h2;exact ⟨t + 1, j0, by simpa using a, b, c, by simpa using d⟩
  ·rw [zaO, List.filter_cons_of_pos hk, List.map_cons] at h;injection h with h1 h2
   exact ⟨0, j, rfl, hk, h1, h2⟩
theorem zpl {x : DetD} (h : zah x = true) {k : Nat} (hk : k < x.runs.length) (s1 s2 : List FinD) (h1 : ∀ f ∈ s1, f.kind = 1) (h2 : ∀ f ∈ s2, f.kind = 1) :
  zay 1 2 (zbn (zan x k) (zbm (zan x k)) s2) = zay 1 2 (zbn x (zbm x) s1) ∧ zay 5 5 (zbn (zan x k) (zbm (zan x k)) s2) ≤ zay 5 5 (zbn x (zbm x) s1) ∧ zay 6 7 (zbn (zan x k) (zbm (zan x k)) s2) ≤ zay 6 7 (zbn x (zbm x) s1) := by
 obtain ⟨a1, _, a3, a4, _, _⟩ := zle (x := x) (lp := zbm x) (sc := s1) zjw h1;obtain ⟨b1, _, b3, b4, _, _⟩ := zle (x := zan x k) (lp := zbm (zan x k)) (sc := s2) zjw h2;rw [a1, a3, a4, b1, b3, b4];exact ⟨rfl, zsM h hk, zst h hk⟩
theorem znX {x : DetD} (h : zah x = true) {sc : List FinD} (hs : sc.length ≤ 1000) : (zbn x (zbm x) sc).length ≤ 100000 := by
 have hok := (zaG h).2.1;have h1000 : x.laps.length ≤ 1000 := by simp only [zah, zcI, zm, zzJ] at h; exact h.1.2
 have h60 : x.bars.length ≤ 60 := by have := zeP hok; simp only [zbz, zm, zzJ] at this; exact this.1
 have a1 := zlh x.bars (zap hok).1;have a2 := ziZ x.bars x.runs;have a3 : (zag x).length ≤ 2000 := zh (zgg _ _) (zat hok).2;have a4 := ziO x;unfold zbn;simp only [zC, zw];omega
theorem zjY {x : DetD} (h : zah x = true) {sc : List FinD} (hs : sc.length ≤ 1000) (er : Int) : (zck x sc er).length ≤ 300000 := by
 unfold zck
 split
 ·have := znX h hs;omega
 ·exact zu _
end Go.Proofs.YtpaanfjjnjjoeaaGreat
