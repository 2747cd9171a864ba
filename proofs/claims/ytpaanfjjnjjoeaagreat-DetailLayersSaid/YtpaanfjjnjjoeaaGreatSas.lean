/- Plain: the covers of the chapter's example suffice. -/
import Derived.Test.YtpaanfjjnjjoeaaGreatSar
import Derived.LoopN
import Derived.Laws.Rows
set_option maxHeartbeats 8000000
set_option maxRecDepth 100000
namespace Go.Proofs.YtpaanfjjnjjoeaaGreat
open Go.RowKit
theorem zqB {m : MemD} {d : Int} : ∀ (l : List BoxD) (a : Int), 0 ≤ a → (∀ b ∈ l, 0 ≤ zcJ m d b) → 0 ≤ l.foldl (fun a b => min a (zcJ m d b)) a := by
 intro l
 induction l with
 | nil => intro a h _; exact h
 | cons b l ih =>
  intro a h hl;have := hl b (by simp);exact ih _ (by simp only; omega) (fun q hq => hl q (by simp [hq]))
theorem zjz {x : DetD} (h0 : x.mem.cover = 0) (h : ∀ y ∈ zx x.bars x.runs, ∀ b ∈ zy y.pts, 0 ≤ zcJ x.mem y.bar.size b) : zag x = [] := by
 rw [zag, zbE, List.flatMap_eq_nil_iff];intro y hy;have := zqB (m := x.mem) (d := y.bar.size) (zy y.pts) 2097152 (by omega) (h y hy);rw [zel, if_neg];rw [zd8, h0];omega
theorem zsx {q b : BoxD} (h : zad b = true) (hi : zob b q) : zht [q] [] b = true := by
 obtain ⟨⟨i1, i2⟩, ⟨i3, i4⟩, i5, i6⟩ := hi;simp only [zht, zm, Bool.not_eq_true'];refine ⟨h, rfl, ?_⟩;rw [zps (zkE h)];rintro t ⟨⟨a1, a2⟩, ⟨b1, b2⟩, c1, c2⟩;exact ⟨q, by simp, ⟨by omega, by omega⟩, ⟨by omega, by omega⟩, by omega, by omega⟩
theorem zqU (b : BoxD) : zaY b 0 = b := by
 obtain ⟨⟨a, b, c⟩, d, e, f⟩ := b;simp [zaY]
theorem zrn {m : MemD} {q leg : BoxD} {d : Int} (hm : m.boxes = [q]) (hh : m.holes = []) (h : zad (zaY leg (zbl d)) = true) (hi : zob (zaY leg (zbl d)) q) : 0 ≤ zcJ m d leg := by
 rw [zcJ, if_pos h];refine zrm ?_;rw [zqU, hm, hh];exact zsx h hi
def zkI (k : Int) : BoxD := ⟨(100, 50 + 50 * k, 50), (2100, 50 + 50 * k, 50)⟩
theorem zim (n : Nat) {k : Int} (h0 : 0 ≤ k) (h1 : k ≤ 1) : 0 ≤ zcJ (exN n).mem 12 (zkI k) := by
 refine zrn (q := ⟨(0, 0, 0), (3000, 200, 400)⟩) rfl rfl ?_ ?_
 ·rw [zbo];simp only [zaY, zkI, zbl];omega
 ·simp only [zob, zaY, zkI, zbl];omega
theorem zqY : (zx (exN 1).bars (exN 1).runs).map (fun y => (y.bar.size, zy y.pts)) = [(12, [zkI 0])] := by kernel_rfl
theorem zqX : (zx (exN 2).bars (exN 2).runs).map (fun y => (y.bar.size, zy y.pts)) = [(12, [zkI 0]), (12, [zkI 1])] := by kernel_rfl
theorem zmW : zag (exN 0) = [] := zjz rfl (fun y hy => by cases hy)
theorem zmV : zag (exN 1) = [] := zjz rfl (fun y hy b hb => by
 have h := List.mem_map_of_mem (f := fun y : LaidD => (y.bar.size, zy y.pts)) hy;rw [zqY] at h;simp only [zP, Prod.mk.injEq] at h;rw [h.2, zP] at hb;rw [h.1, hb];exact zim 1 (by omega) (by omega))
theorem zmU : zag (exN 2) = [] := zjz rfl (fun y hy b hb => by
 have h := List.mem_map_of_mem (f := fun y : LaidD => (y.bar.size, zy y.pts)) hy;rw [zqX] at h;simp only [List.mem_cons, List.not_mem_nil, or_false, Prod.mk.injEq] at h;rcases h with h | h
 ·rw [h.2, zP] at hb;rw [h.1, hb];exact zim 2 (by omega) (by omega)
 ·rw [h.2, zP] at hb;rw [h.1, hb];exact zim 2 (by omega) (by omega))
theorem zq1 : zbn (exN 0) [] [] = [⟨3, zi0⟩] := by
 rw [zbn, zsI, zmW]
 show [zix].flatMap zbh ++ _ ++ _ ++ _ ++ _ = _
 simp [zjy, zcp]
theorem zq0 : zbn (exN 1) [] [] = [] := by
 rw [zbn, zsH, zmV]
 show [zix].flatMap zbh ++ _ ++ _ ++ _ ++ _ = _
 simp [zjy]
theorem zqZ : zbn (exN 2) [] [] = [⟨4, zi0⟩] := by
 rw [zbn, zsG, zmU]
 show [zix].flatMap zbh ++ _ ++ _ ++ _ ++ _ = _
 simp [zjy, zcp]
def upN (n num den : Int) : Int := (n * num + den - 1) / den
def zdx (r : RuleD) (d : Int) : Int := max r.least (upN d r.num r.den)
def zfF (r : RuleD) (d : Int) (poor : Bool) : Int := if poor then upN (zdx r d) r.poorNum r.poorDen else zdx r d
def zdC (r : RuleD) (d : Int) (poor bent : Bool) : Int := max (if bent then upN (zfF r d poor) r.bendNum r.bendDen else zfF r d poor) r.least
def zeA (m : MemD) (leg : BoxD) : Bool := decide (250 < leg.lo.2.2 - (zex m.boxes).lo.2.2)
def zp0 (r : RuleD) (d : Int) (poor : Bool) : Int := (zdC r d poor false * r.lapNum + r.lapDen - 1) / r.lapDen
def zhe (al ah bl bh : Int) : Int := max 0 (max (bl - ah) (al - bh))
def zfR (a b : BoxD) : Int :=
 zhe a.lo.1 a.hi.1 b.lo.1 b.hi.1 * zhe a.lo.1 a.hi.1 b.lo.1 b.hi.1 + zhe a.lo.2.1 a.hi.2.1 b.lo.2.1 b.hi.2.1 * zhe a.lo.2.1 a.hi.2.1 b.lo.2.1 b.hi.2.1 + zhe a.lo.2.2 a.hi.2.2 b.lo.2.2 b.hi.2.2 * zhe a.lo.2.2 a.hi.2.2 b.lo.2.2 b.hi.2.2
def ztN : MainD := ⟨⟨(0, 0, 0), (0, 0, 0)⟩, false, 0, .empty⟩
def zhy (m : MemD) (r : RuleD) (a b : MainD) : Bool := decide (a.leg.hi.1 - b.leg.lo.1 < zp0 r (min a.size b.size) (zeA m a.leg || zeA m b.leg))
def zlx (a b : MainD) : Bool := decide ((a.size + b.size + 50) * (a.size + b.size + 50) < zfR a.leg b.leg)
def zgt (m : MemD) (r : RuleD) (a b : MainD) : List FinD := (if zhy m r a b then [⟨1, a.mark⟩] else []) ++ (if zlx a b then [⟨2, a.mark⟩] else [])
def zU (x : DetD) : List MainD := (zx x.bars x.runs).map zaK
def zcD (ms : List MainD) (i : Int) : MainD := ms.getD i.toNat ztN
def zjj (m : MemD) (r : RuleD) (ms : List MainD) (j : JoinD) : List FinD := zgt m r (zcD ms j.first) (zcD ms j.second)
def zbm (x : DetD) : List FinD := x.laps.flatMap (zjj x.mem x.rule (zU x))
def ze2 (ms : List MainD) (j : JoinD) : Int × Int := ((zcD ms j.second).leg.lo.1, (zcD ms j.first).leg.hi.1)
theorem zjw {x : DetD} : ∀ f ∈ zbm x, f.kind = 1 ∨ f.kind = 2 := by
 intro f hf;rw [zbm, zcB] at hf;obtain ⟨j, _, hj⟩ := hf;rw [zjj, zgt, zcQ] at hj;rcases hj with hj | hj <;> split at hj <;> simp at hj <;> subst hj <;> simp
theorem zk7 {bars : List BarD} {runs : List RunD} {k : Nat} (h : zaj bars runs = true) (hk : k < runs.length) :
  ∃ P S T : List LaidD, zx bars runs = P ++ S ++ T ∧ zx bars (runs.eraseIdx k) = P ++ T ∧ (P.length : Int) = zD (runs.take k) ∧ (S.length : Int) = zcT runs k := by
 have hm := (zap h).2.2;have hs : runs = runs.take k ++ [runs[k]] ++ runs.drop (k + 1) := by
  rw [zaI, List.singleton_append, ← List.drop_eq_getElem_cons hk, List.take_append_drop]
 refine ⟨zx bars (runs.take k), zd9 bars runs[k], zx bars (runs.drop (k + 1)), ?_, ?_, ?_, ?_⟩
 ·conv => lhs; rw [hs]
  rw [zdA, zdA]
  congr 2
  simp [zx]
 ·rw [zfo, zdA]
 ·exact zfn _ (fun r hr => hm r (List.mem_of_mem_take hr))
 ·rw [ziP (hm _ (List.getElem_mem hk)), zcT, zi hk]
theorem zjP {P S T : List MainD} {i : Int} (h0 : 0 ≤ i) (hk : zc3 P.length S.length i = false) : zcD (P ++ T) (zcb P.length S.length i) = zcD (P ++ S ++ T) i := by
 obtain ⟨a1, a2⟩ := zih h0 hk;rw [zcD, zcD, a2, zaz];exact zil a1
theorem zsM {x : DetD} (h : zah x = true) {k : Nat} (hk : k < x.runs.length) : (zag (zan x k)).length ≤ (zag x).length := by
 obtain ⟨P, S, T, e1, e2, _, _⟩ := zk7 (zaG h).2.1 hk
 show (zbE x.mem (zx x.bars (x.runs.eraseIdx k))).length ≤ (zbE x.mem (zx x.bars x.runs)).length
 rw [e1, e2];simp only [zbE, zae, zC];omega
theorem zqC {α : Type} (f g : JoinD → List α) (p : JoinD → Bool) (q : JoinD → JoinD) : ∀ l : List JoinD, (∀ j ∈ l, p j = true → f (q j) = g j) → (((l.filter p).map q).flatMap f).length ≤ (l.flatMap g).length := by
 intro l
 induction l with
 | nil => intro _; simp
 | cons j l ih =>
  intro h;have h1 := ih (fun y hy => h y (zZ _ hy));cases hp : p j
  ·rw [List.filter_cons_of_neg (by rw [hp]; simp), zaf, zC];omega
  ·rw [List.filter_cons_of_pos hp, List.map_cons, zaf, zaf, zC, zC, h j (by simp) hp];omega
theorem ziL {x : DetD} (h : zah x = true) {k : Nat} (hk : k < x.runs.length) {j : JoinD} (hj : j ∈ x.laps) (hkp : zcV (zD (x.runs.take k)) (zcT x.runs k) j = true) :
  zcD (zU (zan x k)) (zcc (zD (x.runs.take k)) (zcT x.runs k) j).first = zcD (zU x) j.first ∧ zcD (zU (zan x k)) (zcc (zD (x.runs.take k)) (zcT x.runs k) j).second = zcD (zU x) j.second := by
 obtain ⟨P, S, T, e1, e2, e3, e4⟩ := zk7 (zaG h).2.1 hk;have hr := zgW h j hj;have m1 : zU x = P.map zaK ++ S.map zaK ++ T.map zaK := by rw [zU, e1, zV, zV]
 have m2 : zU (zan x k) = P.map zaK ++ T.map zaK := by
  show (zx x.bars (x.runs.eraseIdx k)).map zaK = _
  rw [e2, zV]
 have hP : zD (x.runs.take k) = ((P.map zaK).length : Int) := by rw [zw, e3]
 have hS : zcT x.runs k = ((S.map zaK).length : Int) := by rw [zw, e4]
 rw [hP, hS] at hkp ⊢;simp only [zcV, zm, Bool.not_eq_true'] at hkp;rw [m1, m2];exact ⟨zjP hr.1 hkp.1, zjP hr.2.2.1 hkp.2⟩
theorem zst {x : DetD} (h : zah x = true) {k : Nat} (hk : k < x.runs.length) : (zbm (zan x k)).length ≤ (zbm x).length := by
 refine zqC _ _ _ _ x.laps (fun j hj hp => ?_);obtain ⟨a, b⟩ := ziL h hk hj hp
 show zgt x.mem x.rule _ _ = zgt x.mem x.rule _ _
 rw [a, b]
theorem zqv {x : DetD} (h : zah x = true) {k : Nat} (hk : k < x.runs.length) {j : JoinD} (hj : j ∈ x.laps) (hp : zcV (zD (x.runs.take k)) (zcT x.runs k) j = true) :
  ze2 (zU (zan x k)) (zcc (zD (x.runs.take k)) (zcT x.runs k) j) = ze2 (zU x) j := by
 obtain ⟨a, b⟩ := ziL h hk hj hp;rw [ze2, a, b]
 rfl
theorem zpw {x : DetD} (_h : zah x = true) {k : Nat} (hk : k < x.runs.length) : zD (x.runs.eraseIdx k) = zD x.runs - zcT x.runs k := by
 have hs : x.runs = x.runs.take k ++ x.runs[k] :: x.runs.drop (k + 1) := by rw [← List.drop_eq_getElem_cons hk, List.take_append_drop]
 have e1 : zD x.runs = zD (x.runs.take k) + ((x.runs[k]).count + zD (x.runs.drop (k + 1))) := by
  conv => lhs; rw [hs]
  rw [zeb, zcA]
 rw [e1, zfo, zeb, zcT, zi hk]
 show _ = _ - (x.runs[k]).count
 omega
def zcl (x : BarD) (L : List Int) (n k : Nat) : List FinD := ((L.take k).zipIdx).flatMap (zcX x n)
theorem ziY (x : BarD) {L : List Int} (n : Nat) {k : Nat} {y : Int} (h : L[k]? = some y) : zcl x L n (k + 1) = zcl x L n k ++ zcX x n (y, k) := by
 have hk := zaa h;rw [zcl, zQ h, List.zipIdx_append, zae, zG, Nat.min_eq_left (by omega)];simp [zcl]
theorem zj3 (x : BarD) (L : List Int) (n : Nat) : zcl x L n L.length = L.zipIdx.flatMap (zcX x n) := by rw [zcl, zF]
theorem zj2 (x : BarD) (L : List Int) (n : Nat) : ∀ k, (zcl x L n k).length ≤ k := by
 intro k
 induction k with
 | zero => simp [zcl]
 | succ k ih =>
  by_cases hk : k < L.length
  ·rw [ziY x n (zi hk), zC];have : (zcX x n (L[k], k)).length ≤ 1 := by
    unfold zcX
    split <;> split <;> simp
   omega
  ·have : zcl x L n (k + 1) = zcl x L n k := by rw [zcl, zcl, List.take_of_length_le (by omega), List.take_of_length_le (by omega)]
   rw [this];omega
theorem zrv (x : BarD) (n k : Nat) (y : Int) :
  (((k : Int) == 0) = true ∧ decide (y < za4 x.size + 5 * x.size) = true ∧ zcX x n (y, k) = [⟨1, x.mark⟩]) ∨ (((k : Int) == 0) = true ∧ decide (y < za4 x.size + 5 * x.size) = false ∧ zcX x n (y, k) = []) ∨
  (((k : Int) == 0) = false ∧ ((k : Int) == (n : Int) - 1) = true ∧ decide (y < za4 x.size + 5 * x.size) = true ∧ zcX x n (y, k) = [⟨1, x.mark⟩]) ∨ (((k : Int) == 0) = false ∧ ((k : Int) == (n : Int) - 1) = true ∧ decide (y < za4 x.size + 5 * x.size) = false ∧ zcX x n (y, k) = []) ∨
  (((k : Int) == 0) = false ∧ ((k : Int) == (n : Int) - 1) = false ∧ decide (y < 2 * za4 x.size) = true ∧ zcX x n (y, k) = [⟨2, x.mark⟩]) ∨ (((k : Int) == 0) = false ∧ ((k : Int) == (n : Int) - 1) = false ∧ decide (y < 2 * za4 x.size) = false ∧ zcX x n (y, k) = []) := by
 have hR : zrH x.size = za4 x.size := rfl;unfold zcX;rw [hR];simp only;by_cases h0 : k = 0
 ·rw [if_pos (.inl h0)];have e0 : ((k : Int) == 0) = true := by simp; omega
  by_cases h1 : y < za4 x.size + 5 * x.size
  ·exact .inl ⟨e0, by simpa using h1, by rw [if_pos h1]⟩
  ·exact .inr (.inl ⟨e0, by simpa using h1, by rw [if_neg h1]⟩)
 ·have e0 : ((k : Int) == 0) = false := by simp; omega
  by_cases h2 : k + 1 = n
  ·rw [if_pos (.inr h2)];have e1 : ((k : Int) == (n : Int) - 1) = true := by simp; omega
   by_cases h1 : y < za4 x.size + 5 * x.size
   ·exact .inr (.inr (.inl ⟨e0, e1, by simpa using h1, by rw [if_pos h1]⟩))
   ·exact .inr (.inr (.inr (.inl ⟨e0, e1, by simpa using h1, by rw [if_neg h1]⟩)))
  ·rw [if_neg (by omega)];have e1 : ((k : Int) == (n : Int) - 1) = false := by simp; omega
   by_cases h1 : y < 2 * za4 x.size
   ·exact .inr (.inr (.inr (.inr (.inl ⟨e0, e1, by simpa using h1, by rw [if_pos h1]⟩))))
   ·exact .inr (.inr (.inr (.inr (.inr ⟨e0, e1, by simpa using h1, by rw [if_neg h1]⟩))))
theorem zkl {d : Int} (h : za1 d = true) : 15 ≤ za4 d ∧ za4 d ≤ 160 := by
 have := zbN h;unfold za4
 split <;> omega
theorem zny {x : BarD} (h : BarGood x) : ∀ n ∈ zaq x, 1 ≤ n ∧ n ≤ 262144 := by
 intro n hn;obtain ⟨p, hp, rfl⟩ := List.mem_map.1 hn;exact ⟨(h.leg p hp).2.2.2.1, (h.leg p hp).2.2.2.2⟩
theorem ziM {x : BarD} (h : BarGood x) : 1 ≤ (zaq x).length ∧ (zaq x).length ≤ 8 := by
 have hl := h.legs;refine ⟨by cases hq : zaq x with | nil => exact absurd hq hl | cons a r => simp, ?_⟩
 have hne : zbb x.code ≠ [] := by
  intro h0;apply hl;rw [zaq, h0]
  rfl
 rw [zaq, zw];rcases zf6 hne with hc | hc | hc | hc | hc | hc | hc | hc <;> rw [hc] <;> decide
theorem zmw (x : BarD) (A : Option Addr) (c : Nat) (w : World) {B : Nat} (hA : Ints w B A x.dims) (hB : B ≤ w.heap.size) (hm : x.mark.size ≤ maxLen) (hd : x.dims.length ≤ 60000) (hok : zcr x = true) (hsz : za1 x.size = true) :
  Calls Tryz.prog 18 #[.agg #[.string x.mark, .int .i64 x.size, .int .i64 x.count, .int .i64 x.code, .slice A x.dims.length c]] w fun e w' =>
   ∃ A' c', e = .returned (.tuple #[.slice A' (zbh x).length c', .int .i64 0]) ∧ FinRow w.heap.size w' A' (zbh x).length c' (zbh x) ∧ Below w.heap.size w w' := by
 have HL := zf (fun (W : World) (hz : Below w.heap.size w W) => zj4 x A c W (hA.carry (hz.mono hB) (ze _)) (zh hB hz.size) hm hd hok);have HB := zf (fun (W : World) => ztv x.size W hsz);have hbr := zkl hsz;have hsr := zbN hsz;have hgood := zdb hok;have Hlm := zf (zny hgood);have Hfin := zf (show zbh x = if (zaq x).length = 1 then [] else zcl x (zaq x) (zaq x).length (zaq x).length by rw [zj3]; rfl);have Hst := zf (fun (k : Nat) (y : Int) (h : (zaq x)[k]? = some y) => ziY x (zaq x).length h);have Hwy := zf (fun (k : Nat) (y : Int) => zrv x (zaq x).length k y);have Hle := zf (fun k => zj2 x (zaq x) (zaq x).length k);have hln : 1 ≤ (zaq x).length ∧ (zaq x).length ≤ 8 := ziM hgood;obtain ⟨N, hN⟩ : ∃ N, N = (zaq x).length := ⟨_, rfl⟩;rw [← hN] at HL Hfin Hst Hwy Hle hln;have HN := zf hN;clear hA hm hd hok hsz hN hgood;generalize zaq x = L at *;have K0 := zf (Blk.new w 50 #[.string x.mark, .int .i64 x.size, .int .i64 x.count, .int .i64 x.code, .slice A x.dims.length c]);have HW := zf (zk w (.cells #[.string x.mark, .int .i64 x.size, .int .i64 x.count, .int .i64 x.code, .slice A x.dims.length c] 50));go_enter Tryz.func18, Tryz.ntmps18;go_wp2_with fail;refine (HL.out _ HW.out).mono ?_;rintro e w1 ⟨A1, c1, rfl, hL1, hb⟩;have K1 := zf (K0.out.keep hb);have HW1 := zf (zg HW.out hb (ze _));have hg1 := K1.out.lt;have e1 := K1.out.cell 1;simp at e1;have HLL := zf hL1;clear hb hL1 K0 HW HL;go_wp2_with fail;refine (HB.out _).mono ?_;rintro e w2 ⟨rfl, hb⟩;have K2 := zf (K1.out.keep hb);have HW2 := zf (zg HW1.out hb (ze _));have HL2 := zf (HLL.out.carry hb hb.size);clear hb K1 HW1 HLL HB e1 hg1;have z0 : IntKind.i64.wrap ((N : Int) - 1) = (N : Int) - 1 := zr _ (by omega);by_cases h1 : N = 1
 ·have t0 : (((N : Int) - 1) == 0) = true := by simp; omega
  have hr := Hfin.out;rw [if_pos h1] at hr;have Hr := zf hr;clear hr Hfin;go_wp2;go_ret2;rw [Hr.out];exact ⟨none, 0, rfl, Row.nil _ _ _ _ _, HW2.out⟩
 have t0 : (((N : Int) - 1) == 0) = false := by simp; omega
 have hr := Hfin.out;rw [if_neg h1] at hr;have Hr := zf hr;clear hr Hfin;go_wp2;go_loopw [8, 36] (fun ov iv wr => ∃ k : Nat, k ≤ N ∧ iv = .int .i64 k ∧ (∃ acc : List FinD, Row wr w2.heap.size 47 2 zbB ov acc ∧ Hid (acc = zcl x L N k)) ∧ Hid (Below w2.heap.size w2 wr)) (fun _ iv _ => N - (intOf iv).toNat)
 case atStart => exact ⟨0, zu _, rfl, ⟨[], Row.nil _ _ _ _ _, zf rfl⟩, zf (Below.refl _ _)⟩
 case round =>
  obtain ⟨k, hk, rfl, ⟨acc, hrow, hacc⟩, hbr⟩ := hrel;have Hrow := zf hrow;obtain ⟨Ao, co, rfl⟩ := hrow.val;have hbs := hbr.out.size;have K3 := zf (K2.out.below hbr.out K2.out.lt);have hg3 := K3.out.lt;have e0 := K3.out.cell 0;have e1 := K3.out.cell 1;simp at e0 e1;have hal := Hle.out k;rw [← hacc.out] at hal;clear hrow;by_cases hlt : k < N
  ·have dk : decide ((k : Int) < (N : Int)) = true := by simp; omega
   obtain ⟨b, off, y, rfl, hbl, hy, f0⟩ := Ints.get (k := k) (HL2.out.carry hbr.out hbs) (by rw [← HN.out]; exact hlt);obtain ⟨y1, y2⟩ := Hlm.out y (zv hy);have Hs := zf (Hst.out k y hy);have z1 : IntKind.i64.wrap (5 * x.size) = 5 * x.size := zr _ (by omega);have z2 : IntKind.i64.wrap (za4 x.size + 5 * x.size) = za4 x.size + 5 * x.size := zr _ (by omega);have z3 : IntKind.i64.wrap (2 * za4 x.size) = 2 * za4 x.size := zr _ (by omega);have hwy := Hwy.out k y;clear hy;rcases hwy with ⟨g0, g1, hone⟩ | ⟨g0, g1, hone⟩ | ⟨g0, g1, g2, hone⟩ | ⟨g0, g1, g2, hone⟩ | ⟨g0, g1, g2, hone⟩ | ⟨g0, g1, g2, hone⟩
   ·go_wp2_with (at_builtin; refine zO rfl (.tmp 59) (.tmp 63) 37 rfl w2.heap.size 47 (.agg #[.int .i64 0, .string .empty]) 2 24 zbB Tryz.underlying37 (by kernel_rfl) rfl (by omega) zbv zb6 _ acc ⟨1, x.mark⟩ rfl (Hrow.out.alloc _) _ rfl (Blk.new wr _ _) (by omega) (by omega) (zM hbs _) ?_; intro A3 c3 w3 hrow3 hb3 _);have Hr3 := zf hrow3;have Hb3 := zf ((hbr.out.alloc hbs (.cells #[.int .i64 1, .string x.mark] 47)).trans hb3);have Hx := zf (show acc ++ [⟨1, x.mark⟩] = zcl x L N (k + 1) by rw [Hs.out, hone, hacc.out]);clear hrow3 hb3 hone hbr hacc;go_wp2;go_roundw
    case rel => exact ⟨k + 1, by omega, by go_num, ⟨_, Hr3.out, Hx⟩, Hb3⟩
    case measure => simp [intOf]; omega
   ·have Hx := zf (show acc = zcl x L N (k + 1) by rw [Hs.out, hone, hacc.out, zbj]);clear hone hacc;go_wp2;go_roundw
    case rel => exact ⟨k + 1, by omega, by go_num, ⟨_, Hrow.out, Hx⟩, hbr⟩
    case measure => simp [intOf]; omega
   ·go_wp2_with (at_builtin; refine zO rfl (.tmp 59) (.tmp 63) 37 rfl w2.heap.size 47 (.agg #[.int .i64 0, .string .empty]) 2 24 zbB Tryz.underlying37 (by kernel_rfl) rfl (by omega) zbv zb6 _ acc ⟨1, x.mark⟩ rfl (Hrow.out.alloc _) _ rfl (Blk.new wr _ _) (by omega) (by omega) (zM hbs _) ?_; intro A3 c3 w3 hrow3 hb3 _);have Hr3 := zf hrow3;have Hb3 := zf ((hbr.out.alloc hbs (.cells #[.int .i64 1, .string x.mark] 47)).trans hb3);have Hx := zf (show acc ++ [⟨1, x.mark⟩] = zcl x L N (k + 1) by rw [Hs.out, hone, hacc.out]);clear hrow3 hb3 hone hbr hacc;go_wp2;go_roundw
    case rel => exact ⟨k + 1, by omega, by go_num, ⟨_, Hr3.out, Hx⟩, Hb3⟩
    case measure => simp [intOf]; omega
   ·have Hx := zf (show acc = zcl x L N (k + 1) by rw [Hs.out, hone, hacc.out, zbj]);clear hone hacc;go_wp2;go_roundw
    case rel => exact ⟨k + 1, by omega, by go_num, ⟨_, Hrow.out, Hx⟩, hbr⟩
    case measure => simp [intOf]; omega
   ·go_wp2_with (at_builtin; refine zO rfl (.tmp 74) (.tmp 78) 37 rfl w2.heap.size 47 (.agg #[.int .i64 0, .string .empty]) 2 24 zbB Tryz.underlying37 (by kernel_rfl) rfl (by omega) zbv zb6 _ acc ⟨2, x.mark⟩ rfl (Hrow.out.alloc _) _ rfl (Blk.new wr _ _) (by omega) (by omega) (zM hbs _) ?_; intro A3 c3 w3 hrow3 hb3 _);have Hr3 := zf hrow3;have Hb3 := zf ((hbr.out.alloc hbs (.cells #[.int .i64 2, .string x.mark] 47)).trans hb3);have Hx := zf (show acc ++ [⟨2, x.mark⟩] = zcl x L N (k + 1) by rw [Hs.out, hone, hacc.out]);clear hrow3 hb3 hone hbr hacc;go_wp2;go_roundw
    case rel => exact ⟨k + 1, by omega, by go_num, ⟨_, Hr3.out, Hx⟩, Hb3⟩
    case measure => simp [intOf]; omega
   ·have Hx := zf (show acc = zcl x L N (k + 1) by rw [Hs.out, hone, hacc.out, zbj]);clear hone hacc;go_wp2;go_roundw
    case rel => exact ⟨k + 1, by omega, by go_num, ⟨_, Hrow.out, Hx⟩, hbr⟩
    case measure => simp [intOf]; omega
  ·obtain rfl : k = N := by omega
   have dk : decide ((k : Int) < (k : Int)) = false := by simp
   have HB := zf (zg HW2.out hbr.out (ze _));have HF := zf (zg8 HW2.out.size Hrow.out);have Hac := zf hacc.out;clear hacc hbr Hrow hal;go_wp2;go_ret2;rw [Hr.out, ← Hac.out];exact ⟨Ao, co, rfl, HF.out, HB.out⟩
def zfe (l : List BarD) : ByteArray → Int := l.foldl (fun f b => zeZ f b.mark b.count) (fun _ => 0)
theorem zhq (l : List BarD) (b : BarD) : zfe (l ++ [b]) = zeZ (zfe l) b.mark b.count := by simp [zfe, List.foldl_append]
theorem zsO : ∀ (l : List BarD), zje l → ∀ x ∈ l, zfe l x.mark = x.count := by
 refine zjs ?_ ?_
 ·intro _ x hx; simp at hx
 ·intro l z ih h x hx;rw [zhq, zeZ];by_cases he : x.mark = z.mark
  ·rw [if_pos he];obtain ⟨i, hi, hxi⟩ := List.getElem_of_mem hx;have h1 : (l ++ [z])[i]? = some x := by rw [zi hi, hxi]
   have h2 : (l ++ [z])[l.length]? = some z := by simp
   have h3 := h i l.length x z h1 h2 he;rw [h3, h2] at h1;injection h1 with h1
   rw [h1]
  ·rw [if_neg he];rcases List.mem_append.1 hx with h1 | h1
   ·refine ih (fun i j u v hu hv huv => h i j u v ?_ ?_ huv) x h1
    ·rw [List.getElem?_append_left (zaa hu)]; exact hu
    ·rw [List.getElem?_append_left (zaa hv)]; exact hv
   ·rw [zP] at h1;exact absurd (by rw [h1]) he
theorem zrr : ∀ (l : List BarD), (∀ x ∈ l, 1 ≤ x.count ∧ x.count ≤ 1000) → ∀ m, 0 ≤ zfe l m ∧ zfe l m ≤ 1000 := by
 refine zjs ?_ ?_
 ·intro _ m; simp [zfe]
 ·intro l z ih h m;rw [zhq, zeZ];have h1 := h z (by simp);have h2 := ih (fun x hx => h x (by simp [hx])) m
  split <;> omega
def za6 (bars : List BarD) (runs : List RunD) : ByteArray → Int := fun m => zfe bars m - zgu runs m
theorem zoY (bars : List BarD) : za6 bars [] = zfe bars := by
 funext m
 simp [za6, zgu, zD]
theorem znA (bars : List BarD) (runs : List RunD) (r : RunD) : za6 bars (runs ++ [r]) = zeZ (za6 bars runs) r.mark (za6 bars runs r.mark - r.count) := by
 funext t
 simp only [za6, zeZ, zgu, zbw];by_cases h : t = r.mark
 ·subst h;have : zkG r.mark r = true := by simp [zkG]
  rw [if_pos rfl, List.filter_cons_of_pos this, List.filter_nil, zcz];omega
 ·have : ¬ zkG t r = true := fun hr => h (toList_inj hr).symm;rw [if_neg h, List.filter_cons_of_neg this, List.filter_nil, zbj]
theorem znz (bars : List BarD) (runs : List RunD) {m : ByteArray} (h : za6 bars runs m = 0) : zeZ (za6 bars runs) m 0 = za6 bars runs := by
 funext t
 unfold zeZ
 split
 ·rename_i he; rw [he, h]
 ·rfl
theorem zoX {bars : List BarD} {runs : List RunD} (hb : ∀ x ∈ bars, 1 ≤ x.count ∧ x.count ≤ 1000) (hr : ∀ r ∈ runs, 1 ≤ r.count ∧ r.count ≤ 1000) (hn : runs.length ≤ 60) (m : ByteArray) : -60000 ≤ za6 bars runs m ∧ za6 bars runs m ≤ 1000 := by
 have h1 := zrr bars hb m;have h2 := zdu (runs.filter (zkG m)) (fun r h => hr r (List.mem_filter.1 h).1);have h3 := zal (zkG m) runs;unfold za6 zgu;omega
def zee (bars : List BarD) (runs : List RunD) (k : Nat) : List FinD := zbt (bars.take k) runs
theorem zj5 {bars : List BarD} (runs : List RunD) {k : Nat} {x : BarD} (h : bars[k]? = some x) : zee bars runs (k + 1) = zee bars runs k ++ zfz runs x := by
 rw [zee, zQ h, zbt, zae];simp [zee, zbt]
theorem zll (bars : List BarD) (runs : List RunD) : zee bars runs bars.length = zbt bars runs := by rw [zee, zF]
theorem zlk (bars : List BarD) (runs : List RunD) : ∀ k, (zee bars runs k).length ≤ k := by
 intro k
 induction k with
 | zero => simp [zee, zbt]
 | succ k ih =>
  by_cases hk : k < bars.length
  ·rw [zj5 runs (zi hk), zC];have : (zfz runs bars[k]).length ≤ 1 := by
    unfold zfz
    split
    ·simp
    ·split <;> simp
   omega
  ·have : zee bars runs (k + 1) = zee bars runs k := by rw [zee, zee, List.take_of_length_le (by omega), List.take_of_length_le (by omega)]
   rw [this];omega
theorem zsS {bars : List BarD} {runs : List RunD} (hone : zje bars) {k : Nat} {x : BarD} (h : bars[k]? = some x) :
  (decide (0 < za6 bars runs x.mark) = true ∧ decide (za6 bars runs x.mark < 0) = false ∧ zfz runs x = [⟨1, x.mark⟩]) ∨
  (decide (0 < za6 bars runs x.mark) = false ∧ decide (za6 bars runs x.mark < 0) = true ∧ zfz runs x = [⟨2, x.mark⟩]) ∨
  (decide (0 < za6 bars runs x.mark) = false ∧ decide (za6 bars runs x.mark < 0) = false ∧ zfz runs x = []) := by
 have he : za6 bars runs x.mark = x.count - zgu runs x.mark := by rw [za6, zsO bars hone x (zv h)]
 rw [he, zfz];generalize x.count - zgu runs x.mark = d;by_cases h1 : 0 < d
 ·exact .inl ⟨by simpa using h1, by simp; omega, by rw [if_pos h1]⟩
 ·by_cases h2 : d < 0
  ·exact .inr (.inl ⟨by simp; omega, by simpa using h2, by rw [if_neg h1, if_pos h2]⟩)
  ·exact .inr (.inr ⟨by simp; omega, by simp; omega, by rw [if_neg h1, if_neg h2]⟩)
theorem zkn (x : DetD) (s : DetS) (w : World) {B : Nat} (h : DetAt w B x s) (hB : B ≤ w.heap.size) (hf : DetFit x s) (hd : zah x = true) (h0 : x.dems = []) :
  Calls Tryz.prog 22 #[zcZ x s] w fun e w' => ∃ A c, e = .returned (.tuple #[.slice A 0 c, .int .i64 0]) ∧ FinRow w.heap.size w' A 0 c [] ∧ Below w.heap.size w w' := by
 have HV := zf (fun (W : World) (hz : Below w.heap.size w W) => zdO x s W (h.carry (hz.mono hB) (ze _)) (zh hB hz.size) hf);rw [hd] at HV;have hn6 : s.n6 = 0 := by rw [hf.l6, h0]; rfl
 have HCX := zf (show (zp x.mem x.rule s)[9]? = some (.slice s.a6 s.n6 s.c6) from rfl);rw [hn6] at HCX;have K0 := zf (Blk.new w 34 (zp x.mem x.rule s));have HW := zf (zk w (.cells (zp x.mem x.rule s) 34));have Hi := zf (show (Tryz.prog.info? 34).map (·.size) = some 19 by kernel_rfl);have Hsz := zf (show (zp x.mem x.rule s).size = 19 from rfl);clear h hf hB hd h0 hn6
 show Calls Tryz.prog 22 #[.agg (zp x.mem x.rule s)] w _
 replace HV := zf (fun (W : World) (hz : Below w.heap.size w W) => show Calls Tryz.prog 61 #[.agg (zp x.mem x.rule s)] W _ from HV.out W hz);generalize zp x.mem x.rule s = C at *;go_enter Tryz.func22, Tryz.ntmps22;go_wp2_with (refine wpList_load_row rfl 34 (.tmp 1) rfl w.heap.size rfl 34 _ (0, 0) _ K0.out Tryz.underlying34 rfl (by rw [Hsz.out]; exact Hi.out) ?_);refine (HV.out _ HW.out).mono ?_;rintro e w2 ⟨rfl, hb⟩;replace K0 := zf (K0.out.keep hb);replace HW := zf (zg HW.out hb (ze _));clear hb HV Hi;have x9 := (K0.out.cell 9).trans HCX.out;have lk := K0.out.lt;go_wp2_with fail;refine wp_loop_rounds 1 ?_;rw [rounds_succ];go_wp2;go_ret2;exact ⟨none, 0, rfl, Row.nil _ _ _ _ _, HW.out⟩
theorem zhX (A A' : Option Addr) (l : List FinD) (n c c' : Nat) (w : World) {B B' : Nat} (h : FinsAt w B A l) (h' : FinsAt w B' A' l) (hn : n = l.length) (hm : n ≤ 300000) :
  Calls Tryz.prog 16 #[.slice A n c, .slice A' n c'] w fun e w' => e = .returned (.bool true) ∧ Below w.heap.size w w' := by
 have hn' := zf hn;have H1 := zf h;have H2 := zf h';clear hn h h';go_enter Tryz.func16, Tryz.ntmps16;go_wp2;go_loopw [13] (fun i wr => ∃ k : Nat, k ≤ n ∧ i = .int .i64 k ∧ ∃ d : Nat, wr = w.drewN d) (fun i _ => n - (intOf i).toNat)
 case atStart => exact ⟨0, zu _, rfl, 0, rfl⟩
 case round =>
  obtain ⟨k, hk, rfl, d, rfl⟩ := hrel;by_cases hlt : k < n
  ·obtain ⟨b, off, x, hA, _, hx, c0, c1⟩ := FinsAt.get (k := k) H1.out (by rw [← hn'.out]; exact hlt);obtain ⟨b2, off2, y, hA2, _, hy, d0, d1⟩ := FinsAt.get (k := k) H2.out (by rw [← hn'.out]; exact hlt);rw [hx] at hy;injection hy with hy
   subst hy;subst hA;subst hA2;clear hx;have e0 : (w.drewN d).cell? ⟨b, off + k * 2, none⟩ = some (.int .i64 x.kind) := c0;have e1 : (w.drewN d).cell? ⟨b, off + k * 2 + 1, none⟩ = some (.string x.name) := c1;have e2 : (w.drewN d).cell? ⟨b2, off2 + k * 2, none⟩ = some (.int .i64 x.kind) := d0;have e3 : (w.drewN d).cell? ⟨b2, off2 + k * 2 + 1, none⟩ = some (.string x.name) := d1;go_wp2_with fail;go_quiet (fail)
   go_wp2;go_roundw
   case rel => exact ⟨k + 1, by omega, by go_num, _, rfl⟩
   case measure => simp [intOf]; omega
  ·obtain rfl : k = n := by omega
   go_wp2;go_ret;exact ⟨rfl, zaT (Below.refl _ _) d⟩
theorem zsF {x : DetD} {s : DetS} (f : Few x s) : ∀ d ∈ x.dems, d.name.size ≤ maxLen ∧ d.steps.length ≤ 60000 :=
 fun d hd => ⟨zh (f.dems d hd).1 (by decide), by have := (f.dems d hd).2; omega⟩
theorem zL {P : Program} {ops : Array Oper} {rest : List Oper} {o : Oper} {a : Act} {w : World} {Q : Exit → Act → World → Prop} (hw : Region.wanted o (yielded ops a.tmps) = true) (ty : TypeId) (x : Operand) (ho : o.op = .load ty x)
  (g : Nat) (hx : a.eval x = .pointer (some ⟨g, 0, none⟩)) (t : TypeId) (cs : Array Value) (fr : Nat × Nat) (d : TypeDesc) (hg : w.heap[g]? = some (.cells cs t fr))
  (hu : P.underlying ty = some d) (hd : (match d with | .struct _ | .array _ _ => true | _ => false) = true) (hi : (P.info? ty).map (·.size) = some cs.size)
  (h : wpList P ops Q rest (a.put o.dst (.agg cs)) w) : wpList P ops Q (o :: rest) a w :=
 wpList_step fun K hK => by
  rw [if_pos hw];exact wp_load_row ty x ho g hx t cs fr d hg hu hd hi (hK _ _ h)
theorem zne (x : DetD) (s : DetS) (w : World) {B : Nat} (h : DetAt w B x s) (hB : B ≤ w.heap.size) (hl : DetLen x s) :
  Calls Tryz.prog 17 #[zcZ x s] w fun e w' => zp1 e (Few x s ∧ zah x = true) ∧ Below w.heap.size w w' := by
 have HF := zf (fun (W : World) (hz : Below w.heap.size w W) => zm8 x s W (h.carry (hz.mono hB) (ze _)) (zh hB hz.size) hl);have HV := zf (fun (f : Few x s) (W : World) (hz : Below w.heap.size w W) => zka x s W (h.carry (hz.mono hB) (ze _)) (zh hB hz.size) (zfU hl f) (zsF f));have Hi := zf (show (Tryz.prog.info? 34).map (·.size) = some 19 by kernel_rfl);have K0 := zf (Blk.new w 34 (zp x.mem x.rule s));have HW := zf (zk w (.cells (zp x.mem x.rule s) 34));clear h hB hl;go_enter Tryz.func17, Tryz.ntmps17;go_wp2_with (refine wpList_load_row rfl 34 (.tmp 1) rfl w.heap.size rfl 34 _ (0, 0) _ K0.out Tryz.underlying34 rfl Hi.out ?_);refine (HF.out _ HW.out).mono ?_;rintro e w1 ⟨⟨t, rfl, ht⟩, hb⟩;have Ht := zf ht;have K0 := zf (K0.out.keep hb);have HW := zf (zg HW.out hb (ze _));clear hb ht HF;cases t
 ·go_wp2;go_ret;exact ⟨⟨false, rfl, fun h => by cases h⟩, HW.out⟩
 have Hf := zf (Ht.out rfl);have HVf := zf (HV.out Hf.out);clear Ht HV;go_wp2_with (refine zL (by rfl) 34 (.tmp 1) rfl w.heap.size rfl 34 _ (0, 0) _ K0.out Tryz.underlying34 rfl Hi.out ?_);refine (HVf.out _ HW.out).mono ?_;rintro e w2 ⟨rfl, hb⟩;have HW := zf (zg HW.out hb (ze _));obtain ⟨t, ht⟩ : ∃ t, t = zah x := ⟨_, rfl⟩;rw [← ht];have Ht := zf ht;clear hb HVf ht;go_wp2;go_ret;exact ⟨⟨t, rfl, fun h9 => ⟨Hf.out, by rw [← Ht.out, h9]⟩⟩, HW.out⟩
abbrev zcF : Array Value := #[.string ⟨#[]⟩, .slice none 0 0, .slice none 0 0, .int .i64 0, .int .i64 0, .int .i64 0, .slice none 0 0, .slice none 0 0, .slice none 0 0, .slice none 0 0, .int .i64 0, .int .i64 0, .int .i64 0, .int .i64 0, .int .i64 0, .int .i64 0, .int .i64 0, .int .i64 0, .int .i64 0]
abbrev zfr (g1 g3 : Nat) (A4 : Option Addr) (n4 : Nat) : DetS := ⟨some ⟨g1, 0, none⟩, 1, 1, none, 0, 0, some ⟨g3, 0, none⟩, 1, 1, A4, n4, n4, none, 0, 0, none, 0, 0⟩
theorem zrN {W : World} {n g1 g2 g3 : Nat} {A4 : Option Addr} {t1 t2 t3 : TypeId} (h1 : Blk W g1 t1 #[.int .i64 0, .int .i64 0, .int .i64 0, .int .i64 3000, .int .i64 200, .int .i64 400]) (h2 : Blk W g2 t2 #[.int .i64 2000])
    (h3 : Blk W g3 t3 #[.string ⟨#[97]⟩, .int .i64 12, .int .i64 1, .int .i64 0, .slice (some ⟨g2, 0, none⟩) 1 1]) (h4 : RunsAt W W.heap.size A4 (exN n).runs) (n4 : Nat) : DetAt W W.heap.size (exN n) (zfr g1 g3 A4 n4) :=
  ⟨zhc zcN h1 (fun j u h => by simpa [exN, zdm] using h) h1.lt, SlOf.nil _ _ _ _ _,
   SlOf.of_row (xs := [.string ⟨#[97]⟩, .int .i64 12, .int .i64 1, .int .i64 0, .slice (some ⟨g2, 0, none⟩) 1 1]) h3.lt (fun j u hu => by rw [h3.cell]; simpa using hu)
     (fun k x hx => by
       have hk : k = 0 := by rcases Nat.lt_or_ge k 1 with h | h; · omega
                             · rw [zdW (by simpa [exN] using h)] at hx; cases hx
       subst hk;obtain rfl : x = zix := by simpa [exN] using hx.symm
       refine ⟨[.string ⟨#[97]⟩, .int .i64 12, .int .i64 1, .int .i64 0, .slice (some ⟨g2, 0, none⟩) 1 1], rfl, ⟨some ⟨g2, 0, none⟩, 1, rfl, zhc zbq h2 (fun j u h => by simpa [zaP, zix] using h) h2.lt⟩, fun j v hj => ?_⟩
       simpa using hj),
   h4, SlOf.nil _ _ _ _ _, SlOf.nil _ _ _ _ _⟩
theorem zpR (n g1 g3 : Nat) (A4 : Option Addr) (n4 : Nat) (h : n4 = (exN n).runs.length) : DetFit (exN n) (zfr g1 g3 A4 n4) :=
 ⟨rfl, rfl, rfl, h, rfl, rfl, (by decide : (1 : Nat) ≤ 60000), (by rw [h]; unfold exN; simp only; split <;> simp), (by decide : (0 : Nat) ≤ 60000), (by decide : (0 : Nat) ≤ 60000), (by decide : (0 : Nat) ≤ 0), (by show (1 : Nat) ≤ maxLen; decide), fun x hx => by
  obtain rfl : x = zix := by simpa [exN] using hx
  exact ⟨by decide, by decide⟩, fun d hd => by simp [exN] at hd⟩
theorem zge (n : Nat) (w : World) (hn : n ≤ 2) : Calls Tryz.prog 35 #[.int .i64 (n : Int)] w fun e w' => ∃ s : DetS, e = .returned (zcZ (exN n) s) ∧ DetAt w' w'.heap.size (exN n) s ∧ DetFit (exN n) s ∧ Below w.heap.size w w' := by
 have KZ := zf (((((Blk.new w 34 zcF).alloc (.cells #[.int .i64 0, .int .i64 0, .int .i64 0, .int .i64 3000, .int .i64 200, .int .i64 400] 62)).alloc (.cells #[.int .i64 2000] 3)).alloc (.cells #[.string ⟨#[97]⟩, .int .i64 12, .int .i64 1, .int .i64 0, .slice (some ⟨w.heap.size + 1 + 1, 0, none⟩) 1 1] 50)).alloc (.cells zcF 34));have KB := zf ((((Blk.new1 w (.cells zcF 34) 62 #[.int .i64 0, .int .i64 0, .int .i64 0, .int .i64 3000, .int .i64 200, .int .i64 400]).alloc (.cells #[.int .i64 2000] 3)).alloc (.cells #[.string ⟨#[97]⟩, .int .i64 12, .int .i64 1, .int .i64 0, .slice (some ⟨w.heap.size + 1 + 1, 0, none⟩) 1 1] 50)).alloc (.cells zcF 34));have KI := zf (((Blk.new2 w (.cells zcF 34) (.cells #[.int .i64 0, .int .i64 0, .int .i64 0, .int .i64 3000, .int .i64 200, .int .i64 400] 62) 3 #[.int .i64 2000]).alloc (.cells #[.string ⟨#[97]⟩, .int .i64 12, .int .i64 1, .int .i64 0, .slice (some ⟨w.heap.size + 1 + 1, 0, none⟩) 1 1] 50)).alloc (.cells zcF 34));have kr := (Blk.new2 (w.alloc (.cells zcF 34)) (.cells #[.int .i64 0, .int .i64 0, .int .i64 0, .int .i64 3000, .int .i64 200, .int .i64 400] 62) (.cells #[.int .i64 2000] 3) 50 #[.string ⟨#[97]⟩, .int .i64 12, .int .i64 1, .int .i64 0, .slice (some ⟨w.heap.size + 1 + 1, 0, none⟩) 1 1]).alloc (.cells zcF 34);rw [zq] at kr;have kd := Blk.new2 ((w.alloc (.cells zcF 34)).alloc (.cells #[.int .i64 0, .int .i64 0, .int .i64 0, .int .i64 3000, .int .i64 200, .int .i64 400] 62)) (.cells #[.int .i64 2000] 3) (.cells #[.string ⟨#[97]⟩, .int .i64 12, .int .i64 1, .int .i64 0, .slice (some ⟨w.heap.size + 1 + 1, 0, none⟩) 1 1] 50) 34 zcF;rw [zq, zq] at kd;have KR := zf (show Blk _ (w.heap.size + 1 + 1 + 1) 50 _ from kr);have KD := zf (show Blk _ (w.heap.size + 1 + 1 + 1 + 1) 34 _ from kd);have HW := zf (((((zk w (.cells zcF 34)).alloc (by simp) (.cells #[.int .i64 0, .int .i64 0, .int .i64 0, .int .i64 3000, .int .i64 200, .int .i64 400] 62)).alloc (by simp; omega) (.cells #[.int .i64 2000] 3)).alloc (by simp; omega) (.cells #[.string ⟨#[97]⟩, .int .i64 12, .int .i64 1, .int .i64 0, .slice (some ⟨w.heap.size + 1 + 1, 0, none⟩) 1 1] 50)).alloc (by simp; omega) (.cells zcF 34));have Hi : Hid ((Tryz.prog.info? 34).map (·.size) = some 19) := zf (by kernel_rfl);have Hone : Hid ((zp (exN 0).mem (exN 0).rule (zfr (w.heap.size + 1) (w.heap.size + 1 + 1 + 1) none 0)).all (·.oneCell') = true) := zf (by kernel_rfl);clear kr kd;go_enter Tryz.func35, Tryz.ntmps35;go_upto_region 2 with (refine wpList_store_row rfl 34 (.tmp 3) (.tmp 13) rfl (w.heap.size + 1 + 1 + 1 + 1) (zp (exN 0).mem (exN 0).rule (zfr (w.heap.size + 1) (w.heap.size + 1 + 1 + 1) none 0)) rfl rfl 34 _ KD.out Hi.out rfl Hone.out ?_)
 have kD := setRow_heap _ (w.heap.size + 1 + 1 + 1 + 1) _ (zp (exN 0).mem (exN 0).rule (zfr (w.heap.size + 1) (w.heap.size + 1 + 1 + 1) none 0)) _ _ KD.out;have kZ := (setRow_other _ (w.heap.size + 1 + 1 + 1 + 1) w.heap.size (zp (exN 0).mem (exN 0).rule (zfr (w.heap.size + 1) (w.heap.size + 1 + 1 + 1) none 0)) (by omega)).trans KZ.out;have kB := (setRow_other _ (w.heap.size + 1 + 1 + 1 + 1) (w.heap.size + 1) (zp (exN 0).mem (exN 0).rule (zfr (w.heap.size + 1) (w.heap.size + 1 + 1 + 1) none 0)) (by omega)).trans KB.out;have kI := (setRow_other _ (w.heap.size + 1 + 1 + 1 + 1) (w.heap.size + 1 + 1) (zp (exN 0).mem (exN 0).rule (zfr (w.heap.size + 1) (w.heap.size + 1 + 1 + 1) none 0)) (by omega)).trans KI.out;have kR := (setRow_other _ (w.heap.size + 1 + 1 + 1 + 1) (w.heap.size + 1 + 1 + 1) (zp (exN 0).mem (exN 0).rule (zfr (w.heap.size + 1) (w.heap.size + 1 + 1 + 1) none 0)) (by omega)).trans KR.out;have hW := Below.setRow HW.out (show w.heap.size ≤ w.heap.size + 1 + 1 + 1 + 1 by omega) (zp (exN 0).mem (exN 0).rule (zfr (w.heap.size + 1) (w.heap.size + 1 + 1 + 1) none 0));obtain ⟨w6, hw6⟩ : ∃ q, q = World.setRow (((((w.alloc (.cells zcF 34)).alloc (.cells #[.int .i64 0, .int .i64 0, .int .i64 0, .int .i64 3000, .int .i64 200, .int .i64 400] 62)).alloc (.cells #[.int .i64 2000] 3)).alloc (.cells #[.string ⟨#[97]⟩, .int .i64 12, .int .i64 1, .int .i64 0, .slice (some ⟨w.heap.size + 1 + 1, 0, none⟩) 1 1] 50)).alloc (.cells zcF 34)) (w.heap.size + 1 + 1 + 1 + 1) (zp (exN 0).mem (exN 0).rule (zfr (w.heap.size + 1) (w.heap.size + 1 + 1 + 1) none 0)) := ⟨_, rfl⟩;rw [← hw6] at kD kZ kB kI kR hW;have hs6 : w6.heap.size = w.heap.size + 1 + 1 + 1 + 1 + 1 := by rw [hw6]; simp
 replace KD := zf (show Blk w6 (w.heap.size + 1 + 1 + 1 + 1) 34 (zp (exN 0).mem (exN 0).rule (zfr (w.heap.size + 1) (w.heap.size + 1 + 1 + 1) none 0)) from kD);replace KZ := zf (show Blk w6 w.heap.size 34 zcF from kZ);replace KB := zf (show Blk w6 (w.heap.size + 1) 62 #[.int .i64 0, .int .i64 0, .int .i64 0, .int .i64 3000, .int .i64 200, .int .i64 400] from kB);replace KI := zf (show Blk w6 (w.heap.size + 1 + 1) 3 #[.int .i64 2000] from kI);replace KR := zf (show Blk w6 (w.heap.size + 1 + 1 + 1) 50 #[.string ⟨#[97]⟩, .int .i64 12, .int .i64 1, .int .i64 0, .slice (some ⟨w.heap.size + 1 + 1, 0, none⟩) 1 1] from kR);replace HW := zf hW;rw [← hw6];have Hs6 := zf hs6;clear hw6 kD kZ kB kI kR hW hs6;by_cases h0 : n = 0
 ·subst h0;have d0 : decide ((0 : Int) < ((0 : Nat) : Int)) = false := by decide
  go_wp2_with (first
   | (refine wpList_load_row rfl 34 (.tmp 3) rfl (w.heap.size + 1 + 1 + 1 + 1) rfl 34 _ (0, 0) _ KD.out Tryz.underlying34 rfl Hi.out ?_)
   | (refine wpList_store_row rfl 34 (.tmp 2) (.tmp 23) rfl w.heap.size (zp (exN 0).mem (exN 0).rule (zfr (w.heap.size + 1) (w.heap.size + 1 + 1 + 1) none 0)) rfl rfl 34 _ KZ.out Hi.out rfl Hone.out ?_))
  have kE := setRow_heap _ w.heap.size _ (zp (exN 0).mem (exN 0).rule (zfr (w.heap.size + 1) (w.heap.size + 1 + 1 + 1) none 0)) _ _ KZ.out;refine bodyPost_ret (zaU rfl rfl kE Tryz.underlying34 rfl (by kernel_rfl)) rfl ?_;have q := Hs6.out;refine ⟨zfr (w.heap.size + 1) (w.heap.size + 1 + 1 + 1) none 0, rfl, zrN (g2 := w.heap.size + 1 + 1) ((setRow_other _ _ _ _ (by omega)).trans KB.out) ((setRow_other _ _ _ _ (by omega)).trans KI.out) ((setRow_other _ _ _ _ (by omega)).trans KR.out) (SlOf.nil _ _ _ _ _) 0, zpR 0 _ _ _ _ rfl, ?_⟩;exact Below.setRow HW.out (ze _) _
 ·have d0 : decide ((0 : Int) < (n : Int)) = true := by simp; omega
  have e7 := (KD.out.alloc (.cells #[.string ⟨#[97]⟩, .int .i64 1, .int .i64 2, .int .i64 100, .int .i64 50, .int .i64 50, .int .i64 0, .int .i64 50, .int .i64 0, .int .i64 (n : Int)] 66)).cell 7;simp [zp, exN] at e7;have f7 := (KD.out.alloc (.cells #[.string ⟨#[97]⟩, .int .i64 1, .int .i64 2, .int .i64 100, .int .i64 50, .int .i64 50, .int .i64 0, .int .i64 50, .int .i64 0, .int .i64 (n : Int)] 66)).frozen 7;have hs := Hs6.out;have kD := (KD.out.alloc (.cells #[.string ⟨#[97]⟩, .int .i64 1, .int .i64 2, .int .i64 100, .int .i64 50, .int .i64 50, .int .i64 0, .int .i64 50, .int .i64 0, .int .i64 (n : Int)] 66)).set_ 7 (.slice (some ⟨w6.heap.size, 0, none⟩) 1 1);have kT := (Blk.new w6 66 #[.string ⟨#[97]⟩, .int .i64 1, .int .i64 2, .int .i64 100, .int .i64 50, .int .i64 50, .int .i64 0, .int .i64 50, .int .i64 0, .int .i64 (n : Int)]).far (p := ⟨w.heap.size + 1 + 1 + 1 + 1, 7, none⟩) (show w6.heap.size ≠ w.heap.size + 1 + 1 + 1 + 1 by omega) (.slice (some ⟨w6.heap.size, 0, none⟩) 1 1);have kZ := (KZ.out.alloc (.cells #[.string ⟨#[97]⟩, .int .i64 1, .int .i64 2, .int .i64 100, .int .i64 50, .int .i64 50, .int .i64 0, .int .i64 50, .int .i64 0, .int .i64 (n : Int)] 66)).far (p := ⟨w.heap.size + 1 + 1 + 1 + 1, 7, none⟩) (show w.heap.size ≠ w.heap.size + 1 + 1 + 1 + 1 by omega) (.slice (some ⟨w6.heap.size, 0, none⟩) 1 1);have kB := (KB.out.alloc (.cells #[.string ⟨#[97]⟩, .int .i64 1, .int .i64 2, .int .i64 100, .int .i64 50, .int .i64 50, .int .i64 0, .int .i64 50, .int .i64 0, .int .i64 (n : Int)] 66)).far (p := ⟨w.heap.size + 1 + 1 + 1 + 1, 7, none⟩) (show w.heap.size + 1 ≠ w.heap.size + 1 + 1 + 1 + 1 by omega) (.slice (some ⟨w6.heap.size, 0, none⟩) 1 1);have kI := (KI.out.alloc (.cells #[.string ⟨#[97]⟩, .int .i64 1, .int .i64 2, .int .i64 100, .int .i64 50, .int .i64 50, .int .i64 0, .int .i64 50, .int .i64 0, .int .i64 (n : Int)] 66)).far (p := ⟨w.heap.size + 1 + 1 + 1 + 1, 7, none⟩) (show w.heap.size + 1 + 1 ≠ w.heap.size + 1 + 1 + 1 + 1 by omega) (.slice (some ⟨w6.heap.size, 0, none⟩) 1 1);have kR := (KR.out.alloc (.cells #[.string ⟨#[97]⟩, .int .i64 1, .int .i64 2, .int .i64 100, .int .i64 50, .int .i64 50, .int .i64 0, .int .i64 50, .int .i64 0, .int .i64 (n : Int)] 66)).far (p := ⟨w.heap.size + 1 + 1 + 1 + 1, 7, none⟩) (show w.heap.size + 1 + 1 + 1 ≠ w.heap.size + 1 + 1 + 1 + 1 by omega) (.slice (some ⟨w6.heap.size, 0, none⟩) 1 1);have hW := (HW.out.alloc (show w.heap.size ≤ w6.heap.size by omega) (.cells #[.string ⟨#[97]⟩, .int .i64 1, .int .i64 2, .int .i64 100, .int .i64 50, .int .i64 50, .int .i64 0, .int .i64 50, .int .i64 0, .int .i64 (n : Int)] 66)).setCell (p := ⟨w.heap.size + 1 + 1 + 1 + 1, 7, none⟩) (show w.heap.size ≤ w.heap.size + 1 + 1 + 1 + 1 by omega) (.slice (some ⟨w6.heap.size, 0, none⟩) 1 1);obtain ⟨w8, hw8⟩ : ∃ q, q = (w6.alloc (.cells #[.string ⟨#[97]⟩, .int .i64 1, .int .i64 2, .int .i64 100, .int .i64 50, .int .i64 50, .int .i64 0, .int .i64 50, .int .i64 0, .int .i64 (n : Int)] 66)).setCell ⟨w.heap.size + 1 + 1 + 1 + 1, 7, none⟩ (.slice (some ⟨w6.heap.size, 0, none⟩) 1 1) := ⟨_, rfl⟩;rw [← hw8] at kD kT kZ kB kI kR hW;replace KD := zf (show Blk w8 (w.heap.size + 1 + 1 + 1 + 1) 34 (zp (exN n).mem (exN n).rule (zfr (w.heap.size + 1) (w.heap.size + 1 + 1 + 1) (some ⟨w6.heap.size, 0, none⟩) 1)) from kD);replace KZ := zf kZ;have KT := zf kT;replace KB := zf kB;replace KI := zf kI;replace KR := zf kR;replace HW := zf hW;have Hone2 : Hid ((zp (exN n).mem (exN n).rule (zfr (w.heap.size + 1) (w.heap.size + 1 + 1 + 1) (some ⟨w6.heap.size, 0, none⟩) 1)).all (·.oneCell') = true) := zf (by kernel_rfl);have Hw8 := zf hw8;clear kD kT kZ kB kI kR hW hw8 hs;go_upto_region 4 with fail
  rw [← Hw8.out];clear e7 f7 Hw8;go_wp2_with (first
   | (refine wpList_load_row rfl 34 (.tmp 3) rfl (w.heap.size + 1 + 1 + 1 + 1) rfl 34 _ (0, 0) _ KD.out Tryz.underlying34 rfl Hi.out ?_)
   | (refine wpList_store_row rfl 34 (.tmp 2) (.tmp 23) rfl w.heap.size (zp (exN n).mem (exN n).rule (zfr (w.heap.size + 1) (w.heap.size + 1 + 1 + 1) (some ⟨w6.heap.size, 0, none⟩) 1)) rfl rfl 34 _ KZ.out Hi.out rfl Hone2.out ?_))
  have kE := setRow_heap _ w.heap.size _ (zp (exN n).mem (exN n).rule (zfr (w.heap.size + 1) (w.heap.size + 1 + 1 + 1) (some ⟨w6.heap.size, 0, none⟩) 1)) _ _ KZ.out;refine bodyPost_ret (zaU rfl rfl kE Tryz.underlying34 rfl (by kernel_rfl)) rfl ?_;have q := Hs6.out;have hr : (exN n).runs = [⟨zi0, 1, 2, (100, 50, 50), (0, 50, 0), n⟩] := by simp [exN, h0]
  have kT2 := (setRow_other w8 w.heap.size w6.heap.size (zp (exN n).mem (exN n).rule (zfr (w.heap.size + 1) (w.heap.size + 1 + 1 + 1) (some ⟨w6.heap.size, 0, none⟩) 1)) (by omega)).trans KT.out;refine ⟨zfr (w.heap.size + 1) (w.heap.size + 1 + 1 + 1) (some ⟨w6.heap.size, 0, none⟩) 1, rfl, zrN (g2 := w.heap.size + 1 + 1) ((setRow_other _ _ _ _ (by omega)).trans KB.out) ((setRow_other _ _ _ _ (by omega)).trans KI.out) ((setRow_other _ _ _ _ (by omega)).trans KR.out) ?_ 1, zpR n _ _ _ _ (by rw [hr]; rfl), ?_⟩
  ·rw [hr];exact zhc zcL (show Blk _ w6.heap.size 66 _ from kT2) (fun j u h => by simpa [zcw, zi0] using h) (Blk.lt (show Blk _ w6.heap.size 66 _ from kT2))
  ·exact Below.setRow HW.out (ze _) _
end Go.Proofs.YtpaanfjjnjjoeaaGreat
