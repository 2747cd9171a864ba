/- Whether a schedule and runs are valid together; the line of a mark in a valid schedule. -/
import Derived.Test.YtpaanfjjnjjoeaaGreatSah
set_option maxHeartbeats 8000000
set_option maxRecDepth 100000
namespace Go.Proofs.YtpaanfjjnjjoeaaGreat
open Go.RowKit
theorem zoA {bars : List BarD} {runs : List RunD} {k : Nat} {r : RunD} (h : runs[k]? = some r) (rest : Int) : zcG bars rest (runs.drop k) = (zaC bars r && decide (r.count ≤ rest) && zcG bars (rest - r.count) (runs.drop (k + 1))) := by
 rw [zaX h, zcG]
theorem zaw {bars : List BarD} {r : RunD} (h : zaC bars r = true) : 1 ≤ r.count ∧ r.count ≤ 1000 := by
 simp only [zaC, zds, zm, zzJ] at h;exact ⟨h.1.1.1.1.1.2, h.1.1.1.1.2⟩
theorem zlV : ∀ (l r : List BarD) (k : Nat), zbP l k r = true → ∀ x ∈ r, zcr x = true := by
 intro l r
 induction r with
 | nil => intro _ _ x hx; cases hx
 | cons y r ih =>
  intro k h x hx;rw [zbP, zm, zm] at h;rcases List.mem_cons.1 hx with rfl | hx
  ·exact h.1.1
  ·exact ih _ h.2 x hx
theorem zga {l : List BarD} (h : zbz l = true) : ∀ x ∈ l, zcr x = true := by
 rw [zbz, zm] at h;exact zlV l l 0 h.2
theorem zdr (A : Option Addr) (bars : List BarD) (n c : Nat) (A2 : Option Addr) (runs : List RunD) (n2 c2 : Nat) (w : World) {B : Nat} (h : BarsAt w B A bars) (h2 : RunsAt w B A2 runs) (hB : B ≤ w.heap.size) (hn : n = bars.length) (hn2 : n2 = runs.length) (hm : n ≤ 60000) (hm2 : n2 ≤ 60000) (htame : zer bars) :
  Calls Tryz.prog 53 #[.slice A n c, .slice A2 n2 c2] w fun e w' => e = .returned (.bool (zaj bars runs)) ∧ Below w.heap.size w w' := by
 have HS := zgL A bars n c w h hB hn htame hm;cases hs : zbz bars
 ·have hres := zf (show zaj bars runs = false by rw [zaj, hs]; rfl);rw [hs] at HS;have HS := zf HS;clear h h2 hB hn hn2 hm hm2 htame hs;go_enter Tryz.func53, Tryz.ntmps53;go_wp2_with fail;refine HS.out.mono ?_;rintro e w2 ⟨rfl, hb2⟩;clear HS;go_wp2;go_ret;exact ⟨zo hres.out.symm, hb2⟩
 rw [hs] at HS;have HS := zf HS;have hbars := zga hs;by_cases h60 : 60 < n2
 ·have hres := zf (show zaj bars runs = false by rw [zaj, zE (by omega)]; simp);have d0 : decide (60 < (n2 : Int)) = true := by simp; omega
  clear h h2 hB hn hn2 hm hm2 htame hs h60 hbars;go_enter Tryz.func53, Tryz.ntmps53;go_wp2_with fail;refine HS.out.mono ?_;rintro e w2 ⟨rfl, hb2⟩;clear HS;go_wp2;go_ret;exact ⟨zo hres.out.symm, hb2⟩
 have Hr := zf (show zaj bars runs = zcG bars 2000 (runs.drop 0) by rw [zaj, hs, zI (by omega)]; rfl);have d0 : decide (60 < (n2 : Int)) = false := by simp; omega
 have HR := zf (fun (r : RunD) (W : World) (hz : Below w.heap.size w W) => zqn A bars n c r W (h.carry (hz.mono hB) (ze _)) (zh hB hz.size) hn hm htame hbars);have H2 := zf h2;have hn2' := zf hn2;have hn60 : n2 ≤ 60 := by omega
 clear h h2 hn hn2 hm hm2 htame hs h60 hbars;go_enter Tryz.func53, Tryz.ntmps53;go_wp2_with fail;refine HS.out.mono ?_;rintro e w2 ⟨rfl, hb2⟩;have Hb2 := zf hb2;clear HS hb2;go_wp2;go_loopw [5, 18] (fun v i wr => ∃ k : Nat, k ≤ n2 ∧ i = .int .i64 k ∧ (∃ rest : Int, v = .int .i64 rest ∧ 0 ≤ rest ∧ rest ≤ 2000 ∧ Hid (zaj bars runs = zcG bars rest (runs.drop k))) ∧ Below w.heap.size w wr) (fun _ i _ => n2 - (intOf i).toNat)
 case atStart => exact ⟨0, zu _, rfl, ⟨2000, rfl, by omega, by omega, Hr⟩, Hb2.out⟩
 case round =>
  clear Hb2 Hr;obtain ⟨k, hk, rfl, ⟨rest, rfl, hr0, hr1, hq⟩, hbr⟩ := hrel;by_cases hlt : k < n2
  ·obtain ⟨b, off, r, rfl, hbl, hx, hc⟩ := RunsAt.get (k := k) (H2.out.carry (Flat.carried _) (hbr.mono hB) (ze _)) (by rw [← hn2'.out]; exact hlt);have hbw : b < wr.heap.size := by have := hbr.size; omega
   have Hq := zf (hq.out.trans (zoA hx rest));have Hcnt := zf (fun (h : zaC bars r = true) => zaw h);have HRr := zf (HR.out r);obtain ⟨ok, hok⟩ : ∃ ok, ok = zaC bars r := ⟨_, rfl⟩;rw [← hok] at Hq HRr Hcnt;obtain ⟨mark, tx, ty, ⟨a1, a2, a3⟩, ⟨s1, s2, s3⟩, cnt⟩ := r;have p0 := hc 0 _ rfl;have p1 := hc 1 _ rfl;have p2 := hc 2 _ rfl;have p3 := hc 3 _ rfl;have p4 := hc 4 _ rfl;have p5 := hc 5 _ rfl;have p6 := hc 6 _ rfl;have p7 := hc 7 _ rfl;have p8 := hc 8 _ rfl;have p9 := hc 9 _ rfl;simp only [Nat.add_zero] at p0 p1 p2 p3 p4 p5 p6 p7 p8 p9 HRr Hq Hcnt;clear hx hbl hc hq hok;go_wp2_with fail;have HWn := zf (hbr.alloc hbr.size (.cells #[.string mark, .int .i64 tx, .int .i64 ty, .int .i64 a1, .int .i64 a2, .int .i64 a3, .int .i64 s1, .int .i64 s2, .int .i64 s3, .int .i64 cnt] 66));have KN := zf (Blk.new wr 66 #[.string mark, .int .i64 tx, .int .i64 ty, .int .i64 a1, .int .i64 a2, .int .i64 a3, .int .i64 s1, .int .i64 s2, .int .i64 s3, .int .i64 cnt]);refine (HRr.out _ HWn.out).mono ?_;rintro e w3 ⟨rfl, hb3⟩;have k0 := KN.out.keep hb3;have e9 := k0.cell 9;simp at e9;have HW3 := zf (zg HWn.out hb3 (ze _));clear hb3 k0 KN HWn HRr p0 p1 p2 p3 p4 p5 p6 p7 p8 p9;cases ok
   ·have hres := zf (show zaj bars runs = false by rw [Hq.out]; rfl);go_wp2;go_ret;exact ⟨zo hres.out.symm, HW3.out⟩
   ·obtain ⟨hc0, hc1⟩ := Hcnt.out rfl;by_cases hcr : rest < cnt
    ·have d1 : decide (rest < cnt) = true := by simpa using hcr
     have hres := zf (show zaj bars runs = false by rw [Hq.out, zE (by omega)]; rfl);go_wp2;go_ret;exact ⟨zo hres.out.symm, HW3.out⟩
    ·have d1 : decide (rest < cnt) = false := by simpa using hcr
     have Hq2 := zf (show zaj bars runs = zcG bars (rest - cnt) (runs.drop (k + 1)) by rw [Hq.out, zI (by omega)]; rfl);clear Hq;go_wp2;go_roundw
     case rel => exact ⟨k + 1, by omega, by go_num, ⟨rest - cnt, rfl, by omega, by omega, Hq2⟩, HW3.out⟩
     case measure => simp [intOf]; omega
  ·obtain rfl : k = n2 := by omega
   have hfull := zf (show zaj bars runs = true by rw [hq.out, hn2'.out, zar]; rfl);go_wp2;go_ret;exact ⟨zo hfull.out.symm, hbr⟩
def zD (l : List RunD) : Int := l.foldl (fun s r => s + r.count) 0
theorem zcz (l : List RunD) (r : RunD) : zD (l ++ [r]) = zD l + r.count := by simp [zD]
theorem znd {bars : List BarD} : ∀ (l : List RunD) (rest : Int), zcG bars rest l = true → ∀ r ∈ l, zaC bars r = true := by
 intro l
 induction l with
 | nil => intro _ _ r hr; cases hr
 | cons y l ih =>
  intro rest h r hr;rw [zcG, zm, zm] at h;rcases List.mem_cons.1 hr with rfl | hr
  ·exact h.1.1
  ·exact ih _ h.2 r hr
theorem zap {bars : List BarD} {runs : List RunD} (h : zaj bars runs = true) : (∀ x ∈ bars, zcr x = true) ∧ runs.length ≤ 60 ∧ ∀ r ∈ runs, zaC bars r = true := by
 simp only [zaj, zm, zzJ] at h;exact ⟨zga h.1.1, h.1.2, znd runs 2000 h.2⟩
theorem zdu : ∀ (l : List RunD), (∀ r ∈ l, 1 ≤ r.count ∧ r.count ≤ 1000) → 0 ≤ zD l ∧ zD l ≤ 1000 * l.length := by
 have key : ∀ q : List RunD, (∀ r ∈ q.reverse, 1 ≤ r.count ∧ r.count ≤ 1000) → 0 ≤ zD q.reverse ∧ zD q.reverse ≤ 1000 * q.reverse.length := by
  intro q
  induction q with
  | nil => intro _; simp [zD]
  | cons y q ih =>
   intro h;rw [List.reverse_cons] at h ⊢;have a := ih (fun z hz => h z (List.mem_append_left _ hz));have b := h y (by simp);rw [zcz, zC, za7];omega
 intro l h;have := key l.reverse;rw [List.reverse_reverse] at this;exact this h
theorem zko (A : Option Addr) (l : List BarD) (n c : Nat) (m : ByteArray) (w : World) {B : Nat} (h : BarsAt w B A l) (hB : B ≤ w.heap.size) (hn : n = l.length) (hm : n ≤ 60000) (htame : zer l) (hok : zbz l = true) (j : Nat) (hj : idx (zaJ m) l = (j : Int)) :
  Calls Tryz.prog 188 #[.slice A n c, .string m] w fun e w' => e = .returned (.tuple #[.int .i64 j, .int .i64 0]) ∧ Below w.heap.size w w' := by
 have HS := zgL A l n c w h hB hn htame hm;rw [hok] at HS;have HS := zf HS;have HI := fun (W : World) (hz : Below w.heap.size w W) => zgM A l n c m W (h.carry (hz.mono hB) (ze _)) (zh hB hz.size) hn hm;rw [hj] at HI;have HI := zf HI;have d0 : decide ((j : Int) < 0) = false := by simp
 clear h hB hn hm htame hok hj;go_enter Tryz.func188, Tryz.ntmps188;go_wp2_with fail;refine HS.out.mono ?_;rintro e w2 ⟨rfl, hb2⟩;have Hb2 := zf hb2;clear HS hb2;go_wp2_with fail;refine (HI.out _ Hb2.out).mono ?_;rintro e w3 ⟨rfl, hb3⟩;have Hb3 := zf (zg Hb2.out hb3 (ze _));clear HI hb3 Hb2;go_wp2;go_ret2;exact ⟨rfl, Hb3.out⟩
theorem zeQ (A : Option Addr) (bars : List BarD) (n c : Nat) (A2 : Option Addr) (runs : List RunD) (n2 c2 : Nat) (w : World) {B : Nat} (h : BarsAt w B A bars) (h2 : RunsAt w B A2 runs) (hB : B ≤ w.heap.size) (hn : n = bars.length) (hn2 : n2 = runs.length) (hm : n ≤ 60000) (hm2 : n2 ≤ 60000) (htame : zer bars) (hok : zaj bars runs = true) :
  Calls Tryz.prog 31 #[.slice A n c, .slice A2 n2 c2] w fun e w' => e = .returned (.tuple #[.int .i64 (zD runs), .int .i64 0]) ∧ Below w.heap.size w w' := by
 have HV := zdr A bars n c A2 runs n2 c2 w h h2 hB hn hn2 hm hm2 htame;rw [hok] at HV;have HV := zf HV;obtain ⟨_, h60, hmem⟩ := zap hok;have hn60 : n2 ≤ 60 := by omega
 have Hc := zf (fun (r : RunD) (hr : r ∈ runs) => zaw (hmem r hr));have Hrg := zf (fun (k : Nat) => zdu (runs.take k) (fun r hr => zaw (hmem r (List.mem_of_mem_take hr))));have H2 := zf h2;have hn2' := zf hn2;clear h h2 hn hn2 hm hm2 htame hok hmem h60;go_enter Tryz.func31, Tryz.ntmps31;go_wp2_with fail;refine HV.out.mono ?_;rintro e w2 ⟨rfl, hb2⟩;have Hb2 := zf hb2;clear HV hb2;go_wp2;go_loopw [6, 15] (fun v i wr => ∃ k : Nat, k ≤ n2 ∧ i = .int .i64 k ∧ (∃ t : Int, v = .int .i64 t ∧ Hid (t = zD (runs.take k))) ∧ Below w.heap.size w wr) (fun _ i _ => n2 - (intOf i).toNat)
 case atStart => exact ⟨0, zu _, rfl, ⟨0, rfl, zf rfl⟩, Hb2.out⟩
 case round =>
  clear Hb2;obtain ⟨k, hk, rfl, ⟨t, rfl, ht⟩, hbr⟩ := hrel;have hrg := Hrg.out k;rw [← ht.out, zG] at hrg;by_cases hlt : k < n2
  ·obtain ⟨b, off, r, rfl, hbl, hx, hc⟩ := RunsAt.get (k := k) (H2.out.carry (Flat.carried _) (hbr.mono hB) (ze _)) (by rw [← hn2'.out]; exact hlt);obtain ⟨hc0, hc1⟩ := Hc.out r (zv hx);have Hn := zf (show zD (runs.take (k + 1)) = t + r.count by rw [zQ hx, zcz, ht.out]);obtain ⟨mark, tx, ty, ⟨a1, a2, a3⟩, ⟨s1, s2, s3⟩, cnt⟩ := r;have p0 := hc 0 _ rfl;have p1 := hc 1 _ rfl;have p2 := hc 2 _ rfl;have p3 := hc 3 _ rfl;have p4 := hc 4 _ rfl;have p5 := hc 5 _ rfl;have p6 := hc 6 _ rfl;have p7 := hc 7 _ rfl;have p8 := hc 8 _ rfl;have p9 := hc 9 _ rfl;simp only [Nat.add_zero] at p0 p1 p2 p3 p4 p5 p6 p7 p8 p9 hc0 hc1 Hn;clear hx hbl hc;go_wp2;go_roundw
   case rel => exact ⟨k + 1, by omega, by go_num, ⟨t + cnt, rfl, zf Hn.out.symm⟩, hbr.alloc hbr.size _⟩
   case measure => simp [intOf]; omega
  ·obtain rfl : k = n2 := by omega
   have hf := zf (show t = zD runs by rw [ht.out, hn2'.out, zF]);go_wp2;go_ret2;exact ⟨by rw [hf.out]; rfl, hbr⟩
def zfL : List RunD → Int → Option ByteArray
 | [], _ => none
 | r :: l, i => if i < r.count then some r.mark else zfL l (i - r.count)
theorem ziQ (A : Option Addr) (bars : List BarD) (n c : Nat) (A2 : Option Addr) (runs : List RunD) (n2 c2 : Nat) (w : World) {B : Nat} (h : BarsAt w B A bars) (h2 : RunsAt w B A2 runs) (hB : B ≤ w.heap.size) (hn : n = bars.length) (hn2 : n2 = runs.length) (hm : n ≤ 60000) (hm2 : n2 ≤ 60000) (htame : zer bars) (hok : zaj bars runs = true) (i : Int) (m : ByteArray) (hi0 : 0 ≤ i) (hi1 : i ≤ 100000) (hmk : zfL runs i = some m) :
  Calls Tryz.prog 114 #[.slice A n c, .slice A2 n2 c2, .int .i64 i] w fun e w' => e = .returned (.tuple #[.string m, .int .i64 0]) ∧ Below w.heap.size w w' := by
 have HV := zdr A bars n c A2 runs n2 c2 w h h2 hB hn hn2 hm hm2 htame;rw [hok] at HV;have HV := zf HV;obtain ⟨_, h60, hmem⟩ := zap hok;have hn60 : n2 ≤ 60 := by omega
 have Hc := zf (fun (r : RunD) (hr : r ∈ runs) => zaw (hmem r hr));have Hmk := zf (show zfL (runs.drop 0) i = some m from hmk);have d0 : decide (i < 0) = false := by simp; omega
 have H2 := zf h2;have hn2' := zf hn2;clear h h2 hn hn2 hm hm2 htame hok hmem h60 hmk;go_enter Tryz.func114, Tryz.ntmps114;go_wp2_with fail;refine HV.out.mono ?_;rintro e w2 ⟨rfl, hb2⟩;have Hb2 := zf hb2;clear HV hb2;go_wp2;go_loopw [2, 18] (fun v i wr => ∃ k : Nat, k ≤ n2 ∧ i = .int .i64 k ∧ (∃ t : Int, v = .int .i64 t ∧ 0 ≤ t ∧ t ≤ 100000 ∧ Hid (zfL (runs.drop k) t = some m)) ∧ Below w.heap.size w wr) (fun _ i _ => n2 - (intOf i).toNat)
 case atStart => exact ⟨0, zu _, rfl, ⟨i, rfl, hi0, hi1, Hmk⟩, Hb2.out⟩
 case round =>
  clear Hb2;obtain ⟨k, hk, rfl, ⟨t, rfl, ht0, ht1, ht⟩, hbr⟩ := hrel;by_cases hlt : k < n2
  ·obtain ⟨b, off, r, rfl, hbl, hx, hc⟩ := RunsAt.get (k := k) (H2.out.carry (Flat.carried _) (hbr.mono hB) (ze _)) (by rw [← hn2'.out]; exact hlt);obtain ⟨hc0, hc1⟩ := Hc.out r (zv hx);have Hn := zf (show (if t < r.count then some r.mark else zfL (runs.drop (k + 1)) (t - r.count)) = some m by rw [← ht.out, zaX hx, zfL]);obtain ⟨mark, tx, ty, ⟨a1, a2, a3⟩, ⟨s1, s2, s3⟩, cnt⟩ := r;have p0 := hc 0 _ rfl;have p1 := hc 1 _ rfl;have p2 := hc 2 _ rfl;have p3 := hc 3 _ rfl;have p4 := hc 4 _ rfl;have p5 := hc 5 _ rfl;have p6 := hc 6 _ rfl;have p7 := hc 7 _ rfl;have p8 := hc 8 _ rfl;have p9 := hc 9 _ rfl;simp only [Nat.add_zero] at p0 p1 p2 p3 p4 p5 p6 p7 p8 p9 hc0 hc1 Hn;clear hx hbl hc;by_cases htc : t < cnt
   ·have d1 : decide (t < cnt) = true := by simpa using htc
    have hres := zf (show mark = m by have h9 := Hn.out; rw [if_pos htc] at h9; injection h9);go_wp2;go_ret2;exact ⟨by rw [← hres.out]; rfl, hbr.alloc hbr.size _⟩
   ·have d1 : decide (t < cnt) = false := by simpa using htc
    have hres := zf (show zfL (runs.drop (k + 1)) (t - cnt) = some m by have h9 := Hn.out; rwa [if_neg htc] at h9);go_wp2;go_roundw
    case rel => exact ⟨k + 1, by omega, by go_num, ⟨t - cnt, rfl, by omega, by omega, hres⟩, hbr.alloc hbr.size _⟩
    case measure => simp [intOf]; omega
  ·obtain rfl : k = n2 := by omega
   have h9 := ht.out;rw [hn2'.out, zar] at h9;cases h9
theorem zp3 (b : ByteArray) : ∀ (n i : Nat) (r : List UInt8), b.size - i = n → ByteArray.toList.loop b i r = r.reverse ++ b.data.toList.drop i := by
 intro n
 induction n with
 | zero =>
  intro i r h;rw [ByteArray.toList.loop, if_neg (by omega)];rw [List.drop_eq_nil_of_le (by simp; exact Nat.le_of_sub_eq_zero h)];simp
 | succ n ih =>
  intro i r h;have hi : i < b.size := by omega
  rw [ByteArray.toList.loop, if_pos hi, ih (i + 1) _ (by omega)];have hl : i < b.data.toList.length := by simpa using hi
  rw [List.drop_eq_getElem_cons hl];have : b.get! i = b.data.toList[i] := by simp [ByteArray.get!, hi]
  simp [this]
theorem toList_eq (b : ByteArray) : b.toList = b.data.toList := by
 rw [ByteArray.toList, zp3 b _ 0 [] rfl];simp
theorem toList_inj {a b : ByteArray} (h : (a.toList == b.toList) = true) : a = b := by
 rw [beq_iff_eq, toList_eq, toList_eq] at h;obtain ⟨⟨x⟩⟩ := a;obtain ⟨⟨y⟩⟩ := b;simp only at h;rw [h]
theorem zii {m : ByteArray} {x : BarD} (h : zaJ m x = true) : m = x.mark := (toList_inj h).symm
theorem zfE {bars : List BarD} {runs : List RunD} {j : Nat} {r : RunD} (h : runs[j]? = some r) : zx bars runs = zx bars (runs.take j) ++ (zd9 bars r ++ zx bars (runs.drop (j + 1))) := by
 conv => lhs; rw [← List.take_append_drop j runs, zaX h]
 simp [zx]
theorem zhU {bars : List BarD} {runs : List RunD} {j : Nat} {r : RunD} (h : runs[j]? = some r) : zx bars (runs.take (j + 1)) = zx bars (runs.take j) ++ zd9 bars r := by
 rw [zQ h];simp [zx]
def zcv (x : BarD) (r : RunD) (k : Nat) : List LaidD := (List.range k).map fun (j : Nat) => ⟨x, zbJ x r j⟩
theorem znG (x : BarD) (r : RunD) (k : Nat) : zcv x r (k + 1) = zcv x r k ++ [⟨x, zbJ x r (k : Int)⟩] := by simp [zcv, List.range_succ]
theorem zbu (x : BarD) (r : RunD) (k : Nat) : (zcv x r k).length = k := by simp [zcv]
theorem zb5 {bars : List BarD} {r : RunD} {x : BarD} (h : zdD bars r = some x) : zd9 bars r = zcv x r r.count.toNat := by
 simp [zd9, h, zcv]
theorem zth {bars : List BarD} {runs : List RunD} {j k : Nat} {r : RunD} {x : BarD} (h : runs[j]? = some r) (hx : zdD bars r = some x) (hk : (k : Int) < r.count) :
  (zx bars runs)[(zx bars (runs.take j)).length + k]? = some ⟨x, zbJ x r (k : Int)⟩ := by
 rw [zfE h, List.getElem?_append_right (by omega), Nat.add_sub_cancel_left, zb5 hx];have hk' : k < r.count.toNat := by omega
 rw [List.getElem?_append_left (by rw [zbu]; exact hk')];simp [zcv, hk']
theorem zca {bars : List BarD} {r : RunD} (h : zaC bars r = true) : ∃ (j : Nat) (x : BarD), idx (zaJ r.mark) bars = (j : Int) ∧ bars[j]? = some x ∧ zdD bars r = some x ∧ zav r.tx r.ty = true := by
 simp only [zaC, zds, zm, zzJ] at h;obtain ⟨⟨⟨⟨⟨⟨⟨h0, h1⟩, _⟩, _⟩, _⟩, _⟩, _⟩, _⟩ := h;obtain ⟨j, hj⟩ := Int.eq_ofNat_of_zero_le h0;obtain ⟨x, hx, _⟩ := zgB hj;exact ⟨j, x, hj, hx, zid hj hx, h1⟩
theorem zjI {bars : List BarD} {r : RunD} {x : BarD} (h : zaC bars r = true) (hx : zdD bars r = some x) {k : Int} (h0 : 0 ≤ k) (h1 : k < r.count) : ∀ p ∈ zbJ x r k, zJ 1048576 p = true := by
 simp only [zaC, zm] at h;simp only [zg7, hx] at h;exact zr8 h.1.2 h.2 h0 (by omega)
theorem ziF {bars : List BarD} {r : RunD} (h : zaC bars r = true) : zJ 1048576 r.place = true := by
 simp only [zaC, zds, zm] at h;exact h.1.1.1.2
theorem zqP (x y : Int) : zeF x y (0, 0, 0) = (0, 0, 0) := by simp [zeF, zoa]
theorem zsb {bars : List BarD} {r : RunD} {x : BarD} (h : zaC bars r = true) (hx : zdD bars r = some x) {k : Int} (h0 : 0 ≤ k) (h1 : k < r.count) : zJ 1048576 (zbf r.place (zbe k r.step)) = true := by
 refine zjI h hx h0 h1 _ (List.mem_map.2 ⟨(0, 0, 0), zv (zen x), ?_⟩);rw [zqP];simp [zbf]
theorem zju (x : BarD) (r : RunD) (k : Int) : zbJ x r k = (zai x).map fun p => zbf (zbf r.place (zbe k r.step)) (zeF r.tx r.ty p) := by
 unfold zbJ;apply List.map_congr_left;intro p _;simp only [zbf];refine Prod.ext ?_ (Prod.ext ?_ ?_) <;> simp only <;> omega
theorem zfn {bars : List BarD} : ∀ (runs : List RunD), (∀ r ∈ runs, zaC bars r = true) → ((zx bars runs).length : Int) = zD runs := by
 have key : ∀ q : List RunD, (∀ r ∈ q.reverse, zaC bars r = true) → ((zx bars q.reverse).length : Int) = zD q.reverse := by
  intro q
  induction q with
  | nil => intro _; rfl
  | cons y q ih =>
   intro h;rw [List.reverse_cons] at h ⊢;have a := ih (fun z hz => h z (List.mem_append_left _ hz));have b := h y (by simp);obtain ⟨j, x, _, _, hx, _⟩ := zca b;have hc := zaw b;have e : zx bars (q.reverse ++ [y]) = zx bars q.reverse ++ zd9 bars y := by simp [zx]
   rw [zcz, e, zC, zb5 hx, zbu];omega
 intro runs h;have := key runs.reverse;rw [List.reverse_reverse] at this;exact this h
theorem zhV {bars : List BarD} : ∀ (runs : List RunD) (i : Nat) (l : LaidD), (∀ r ∈ runs, zaC bars r = true) → (zx bars runs)[i]? = some l → zfL runs (i : Int) = some l.bar.mark := by
 intro runs
 induction runs with
 | nil => intro i l _ h; simp [zx] at h
 | cons r runs ih =>
  intro i l hok h;obtain ⟨j, x, hj, hx', hx, _⟩ := zca (hok r (by simp));have hc := zaw (hok r (by simp));have e : zx bars (r :: runs) = zcv x r r.count.toNat ++ zx bars runs := by rw [← zb5 hx]; simp [zx]
  rw [e] at h;rw [zfL];by_cases hi : (i : Int) < r.count
  ·rw [if_pos hi];rw [List.getElem?_append_left (by rw [zbu]; omega)] at h;have : l.bar = x := by
    simp [zcv] at h;obtain ⟨k, _, h⟩ := h;rw [← h]
   rw [this];obtain ⟨y, hy, hm, _⟩ := zgB hj;rw [hx'] at hy;injection hy with hy
   subst hy;rw [zii hm]
  ·rw [if_neg hi];rw [List.getElem?_append_right (by rw [zbu]; omega), zbu] at h;have := ih (i - r.count.toNat) l (fun z hz => hok z (zZ _ hz)) h;rw [← this]
   congr 1
   omega
theorem zat {bars : List BarD} {runs : List RunD} (h : zaj bars runs = true) : ((zx bars runs).length : Int) = zD runs ∧ (zx bars runs).length ≤ 2000 := by
 have h1 := (zap h).2.2;have h2 := zfn runs h1;refine ⟨h2, ?_⟩;have key : ∀ (l : List RunD) (rest : Int), 0 ≤ rest → zcG bars rest l = true → ((zx bars l).length : Int) ≤ rest := by
  intro l
  induction l with
  | nil => intro rest h0 _; simpa [zx] using h0
  | cons r l ih =>
   intro rest h0 hf;rw [zcG, zm, zm, zzJ] at hf;obtain ⟨⟨a, b⟩, c⟩ := hf;obtain ⟨_, x, _, _, hx, _⟩ := zca a;have hc := zaw a;have e : zx bars (r :: l) = zcv x r r.count.toNat ++ zx bars l := by rw [← zb5 hx]; simp [zx]
   have := ih (rest - r.count) (by omega) c;rw [e, zC, zbu];omega
 simp only [zaj, zm] at h;have := key runs 2000 (by omega) h.2;omega
theorem zcA (r : RunD) (l : List RunD) : zD (r :: l) = r.count + zD l := by
 have key : ∀ (l : List RunD) (a : Int), l.foldl (fun s r => s + r.count) a = a + zD l := by
  intro l
  induction l with
  | nil => intro a; simp [zD]
  | cons x l ih =>
   intro a;have h1 := ih (a + x.count);have h2 := ih x.count;simp only [zD, List.foldl_cons, Int.zero_add] at h1 h2 ⊢;rw [h1, h2];omega
 have h := key l r.count;simp only [zD, List.foldl_cons, Int.zero_add] at h ⊢;exact h
theorem ziu {bars : List BarD} : ∀ (l : List RunD), l.all (zaC bars) = true → 0 ≤ zD l := by
 intro l
 induction l with
 | nil => intro _; simp [zD]
 | cons r l ih =>
  intro h;rw [List.all_cons, zm] at h;have := ih h.2;have := zaw h.1;rw [zcA];omega
theorem ziE {bars : List BarD} : ∀ (l : List RunD) (rest : Int), 0 ≤ rest → zcG bars rest l = (l.all (zaC bars) && decide (zD l ≤ rest)) := by
 intro l
 induction l with
 | nil => intro rest h; simp [zcG, zD, h]
 | cons r l ih =>
  intro rest h;rw [zcG, List.all_cons, zcA];cases h1 : zaC bars r
  ·rfl
  have hc := zaw h1;by_cases h2 : r.count ≤ rest
  ·rw [zI h2, ih _ (by omega), Bool.and_self, Bool.true_and, Bool.true_and]
   congr 1
   exact decide_eq_decide.2 (by omega)
  ·rw [zE h2];cases h3 : l.all (zaC bars)
   ·rfl
   have := ziu l h3;rw [zE (by omega)]
   rfl
theorem zo2 (bars : List BarD) (runs : List RunD) : zaj bars runs = (zbz bars && decide (runs.length ≤ 60) && runs.all (zaC bars) && decide (zD runs ≤ 2000)) := by
 rw [zaj, ziE _ _ (by decide), Bool.and_assoc, Bool.and_assoc, Bool.and_assoc]
def zfx (l : List DemD) : Nat → List DemD → Bool
 | _, [] => true
 | k, d :: r => zb8 d.name && decide (idx (zc2 d.name) l = k) && zad d.zone && zau d.steps && zfx l (k + 1) r
theorem ztj {done r : List DemD} {d : DemD} : decide (idx (zc2 d.name) (done ++ d :: r) = (done.length : Nat)) = !done.any (zc2 d.name) := by
 cases h : done.any (zc2 d.name)
 ·rw [Bool.not_false, zzJ];refine NoneTo.hit (y := d) (fun j y hj hy => ?_) (by simp) (by simp [zc2]);rw [List.getElem?_append_left hj] at hy;rw [List.any_eq_false] at h
  simpa using h y (zv hy)
 ·rw [Bool.not_true, zzI];intro h2;obtain ⟨y, _, _, h3⟩ := zgB h2;obtain ⟨z, hz, hp⟩ := List.any_eq_true.1 h;obtain ⟨j, hj, rfl⟩ := List.getElem_of_mem hz;have := h3 j _ hj (by rw [List.getElem?_append_left hj]; exact zi hj);rw [hp] at this;cases this
theorem zrh : ∀ (r done : List DemD), zfx (done ++ r) done.length r = zc7 done r := by
 intro r
 induction r with
 | nil => intro done; rfl
 | cons d r ih =>
  intro done;have h := ih (done ++ [d]);rw [zaI, List.singleton_append, zC, za7] at h;rw [zfx, zc7, ztj, h, zeC];cases zb8 d.name <;> cases zad d.zone <;> cases zau d.steps <;> cases done.any (zc2 d.name) <;> rfl
theorem zpp (l : List DemD) : zb0 l = (decide (l.length ≤ 20) && zfx l 0 l) := by
 rw [zb0, ← zrh l []]
 rfl
def zg9 (done : List JoinD) (j : JoinD) : Bool := !done.any fun i => decide (i.first = j.first) || decide (i.second = j.second)
def zew (ms : List (Option BoxD)) : List JoinD → List JoinD → Bool
 | _, [] => true
 | done, j :: r => zbA ms j && zg9 done j && zew ms (done ++ [j]) r
theorem zqG (done : List JoinD) (f s : List Int) (j : JoinD) (hf : ∀ n, n ∈ f ↔ ∃ i ∈ done, i.first = n) (hs : ∀ n, n ∈ s ↔ ∃ i ∈ done, i.second = n) : zg9 done j = (!f.contains j.first && !s.contains j.second) := by
 have h1 : (f.contains j.first || s.contains j.second) = done.any fun i => decide (i.first = j.first) || decide (i.second = j.second) := by
  rw [Bool.eq_iff_iff, Bool.or_eq_true, List.contains_iff_mem, List.contains_iff_mem, hf, hs, List.any_eq_true];simp only [Bool.or_eq_true, zzJ]
  constructor
  ·rintro (⟨i, h1, h2⟩ | ⟨i, h1, h2⟩)
   ·exact ⟨i, h1, .inl h2⟩
   ·exact ⟨i, h1, .inr h2⟩
  ·rintro ⟨i, h1, h2 | h2⟩
   ·exact .inl ⟨i, h1, h2⟩
   ·exact .inr ⟨i, h1, h2⟩
 rw [zg9, ← h1, Bool.not_or]
theorem zqE (ms : List (Option BoxD)) : ∀ (r done : List JoinD) (f s : List Int), (∀ n, n ∈ f ↔ ∃ i ∈ done, i.first = n) → (∀ n, n ∈ s ↔ ∃ i ∈ done, i.second = n) → zew ms done r = zbD ms f s r := by
 intro r
 induction r with
 | nil => intro done f s _ _; rfl
 | cons j r ih =>
  intro done f s hf hs;rw [zew, zbD, zqG done f s j hf hs, ih (done ++ [j]) (j.first :: f) (j.second :: s)]
  ·cases zbA ms j <;> cases f.contains j.first <;> cases s.contains j.second <;> rfl
  ·intro n;rw [List.mem_cons, hf];simp only [zcQ, zP]
   constructor
   ·rintro (rfl | ⟨i, h1, h2⟩)
    ·exact ⟨j, .inr rfl, rfl⟩
    ·exact ⟨i, .inl h1, h2⟩
   ·rintro ⟨i, h1 | rfl, h2⟩
    ·exact .inr ⟨i, h1, h2⟩
    ·exact .inl h2.symm
  ·intro n;rw [List.mem_cons, hs];simp only [zcQ, zP]
   constructor
   ·rintro (rfl | ⟨i, h1, h2⟩)
    ·exact ⟨j, .inr rfl, rfl⟩
    ·exact ⟨i, .inl h1, h2⟩
   ·rintro ⟨i, h1 | rfl, h2⟩
    ·exact .inr ⟨i, h1, h2⟩
    ·exact .inl h2.symm
theorem zre (x : DetD) : zah x = (zdj x.mem && zaj x.bars x.runs && zb0 x.dems && zbH x.rule && decide (x.laps.length ≤ 1000) && zew ((zx x.bars x.runs).map zaR) [] x.laps) := by
 rw [zah, zcI, zqE _ x.laps [] [] [] (by simp) (by simp)]
end Go.Proofs.YtpaanfjjnjjoeaaGreat
namespace Go.Proofs.YtpaanfjjnjjoeaaGreat
open Go.RowKit Go.Maps
theorem zjx : Keyed Tryz.prog 9 := string_keyed Tryz.underlying9
def zmy (s : ByteArray) : Lit := .string s.data.toList
theorem zta (s : ByteArray) : WideAt.IsKeyLit (zmy s) := trivial
theorem zmG {a b : ByteArray} (h : zmy a = zmy b) : a = b := by
 simp only [zmy, Lit.string.injEq] at h;exact toList_inj (by rw [toList_eq, toList_eq, h]; exact beq_self_eq_true _)
theorem zpI (w : World) : (zeroValue 3).run Tryz.prog w = .ok (.int .i64 0) w := by kernel_rfl
theorem zfa {v : Value} {z : DataW Unit × List MemPlace} (h : plainElem Tryz.prog 3 v = some z) : ∃ x, v = .int .i64 x ∧ z = (.lit (.int .i64 x), []) := by
 obtain ⟨a, h1, h2, _⟩ := plainElem_int_inv Tryz.underlying3 h;exact ⟨a, h1, h2⟩
def SMap (w : World) (b n : Nat) (f : ByteArray → Int) : Prop :=
 ∃ D : DataW Unit, IsMap D ∧ w.ownsMap Tryz.prog 9 (plainElem Tryz.prog 3) b n D ∧ ∀ s : ByteArray, s.size ≤ maxLen → D.atKey (zmy s) (.lit (.int .i64 0)) = .lit (.int .i64 (f s))
def zeZ (f : ByteArray → Int) (s : ByteArray) (x : Int) : ByteArray → Int := fun t => if t = s then x else f t
section
variable {w w' : World} {b n : Nat} {f : ByteArray → Int}
theorem SMap.new (w : World) : SMap (w.alloc (.map #[] 0)) w.heap.size 0 (fun _ => 0) :=
 ⟨.map [], ⟨[], rfl⟩, World.ownsMap_made _ _ _ _, fun _ _ => rfl⟩
theorem SMap.lt (h : SMap w b n f) : b < w.heap.size := by obtain ⟨D, _, ho, _⟩ := h; exact ho.lt
theorem SMap.keep (h : SMap w b n f) (hb : Below w.heap.size w w') : SMap w' b n f := by
 obtain ⟨D, hm, ho, ha⟩ := h;exact ⟨D, hm, ho.kept (row := none) ⟨hb.os, hb.tape, hb.output, hb.size, fun k hk _ => hb.block k hk⟩ (by simp), ha⟩
theorem SMap.alloc (h : SMap w b n f) (o : Obj) : SMap (w.alloc o) b n f := h.keep (zk w o)
theorem SMap.below {B : Nat} (h : SMap w b n f) (hb : Below B w w') (hB : b < B) (_hw : B ≤ w.heap.size) : SMap w' b n f := by
 obtain ⟨D, hm, ho, ha⟩ := h;obtain ⟨es, clock, h1, h2⟩ := ho;exact ⟨D, hm, ⟨es, clock, (hb.block b hB).trans h1, h2⟩, ha⟩
theorem SMap.look (h : SMap w b n f) {s : ByteArray} (hs : s.size ≤ maxLen) : (Instr.lookup 109 (.map (some b)) (.string s) false).run Tryz.prog w = .ok (.int .i64 (f s)) w := by
 obtain ⟨D, _, ho, ha⟩ := h;obtain ⟨v, ps, hrun, hv⟩ := ho.lookup zjx Tryz.underlying109 (zpI w) (plainElem_int Tryz.underlying3 (by decide)) (WideMaps.keyOf_string_mk Tryz.underlying9 hs);obtain ⟨y, rfl, hz⟩ := zfa hv;rw [show (Lit.string s.data.toList) = zmy s from rfl, ha s hs] at hz;simp only [Prod.mk.injEq, DataW.lit.injEq, Lit.int.injEq, true_and] at hz;rw [hrun, hz.1]
theorem SMap.store (h : SMap w b n f) {s : ByteArray} (hs : s.size ≤ maxLen) {x : Int} (hx : InInt x) (hn : n ≤ 1000000) :
  ∃ w', (Instr.mapUpdate 109 (.map (some b)) (.string s) (.int .i64 x)).run Tryz.prog w = .ok () w' ∧ SMap w' b (n + 1) (zeZ f s x) ∧ w.grownBy w' (some b) := by
 obtain ⟨D, hm, ho, ha⟩ := h;obtain ⟨w', hrun, ho', hg⟩ := ho.update zjx Tryz.underlying109 (by unfold maxLen; omega) (WideMaps.keyOf_string_mk Tryz.underlying9 hs) (plainElem_int Tryz.underlying3 hx.wf);refine ⟨w', hrun, ⟨D.put (zmy s) (.lit (.int .i64 x)), ?_, ho', fun t ht => ?_⟩, hg⟩
 ·obtain ⟨es, rfl⟩ := hm;exact ⟨_, rfl⟩
 ·unfold zeZ;by_cases hst : t = s
  ·subst hst;rw [atKey_put_same hm (zta t), if_pos rfl]
  ·rw [atKey_put_other (fun he => hst (zmG he)), ha t ht, if_neg hst]
end
theorem zcY {w : World} {ops : Array Oper} {rest : List Oper} {o : Oper} {a : Act} {Q : Exit → Act → World → Prop} (hg : o.guard = none) (m x v : Operand) (hop : o.op = Op.mapUpdate 109 m x v)
  (b n : Nat) (f : ByteArray → Int) (hm : a.eval m = .map (some b)) (hown : SMap w b n f) (hn : n ≤ 1000000) (s : ByteArray) (y : Int) (hx : a.eval x = .string s) (hv : a.eval v = .int .i64 y) (hs : s.size ≤ maxLen) (hy : InInt y)
  (hK : ∀ w', SMap w' b (n + 1) (zeZ f s y) → w.grownBy w' (some b) → wpList Tryz.prog ops Q rest (a.put o.dst undef) w') : wpList Tryz.prog ops Q (o :: rest) a w := by
 refine wpList_plain hg fun K' hK' => ?_;obtain ⟨w', hrun, r1, r2⟩ := hown.store hs hy hn;unfold Oper.wp;simp [execOp, hop, hm, hx, hv, hrun, Result.andThen];exact hK' _ _ (hK w' r1 r2)
end Go.Proofs.YtpaanfjjnjjoeaaGreat
namespace Go.Proofs.YtpaanfjjnjjoeaaGreat
open Go.RowKit
theorem zqI {bars : List BarD} {r : RunD} {l : List RunD} {t : Nat} {ld : LaidD} (hr : zaC bars r = true) (h : (zx bars (r :: l))[t]? = some ld) :
  ((t : Int) < r.count → zdD bars r = some ld.bar ∧ ld.pts = zbJ ld.bar r t) ∧ (r.count ≤ (t : Int) → (zx bars l)[t - r.count.toNat]? = some ld) := by
 obtain ⟨j, x, _, _, hx, _⟩ := zca hr;have hc := zaw hr;have e : zx bars (r :: l) = zcv x r r.count.toNat ++ zx bars l := by rw [← zb5 hx]; simp [zx]
 rw [e] at h
 constructor
 ·intro ht;have ht' : t < r.count.toNat := by omega
  rw [List.getElem?_append_left (by rw [zbu]; exact ht')] at h;simp [zcv, ht'] at h;subst h;exact ⟨hx, rfl⟩
 ·intro ht;rw [List.getElem?_append_right (by rw [zbu]; omega), zbu] at h;exact h
theorem zqH {bars : List BarD} {runs : List RunD} {k t : Nat} {ld : LaidD} (h : (zx bars (runs.drop k))[t]? = some ld) : k < runs.length := by
 rcases Nat.lt_or_ge k runs.length with h1 | h1
 ·exact h1
 ·rw [List.drop_of_length_le h1] at h;simp [zx] at h
theorem zhJ (bars : List BarD) (A : Option Addr) (runs : List RunD) (n c i : Nat) (ld : LaidD) (w : World) {B : Nat} (h : RunsAt w B A runs) (hn : n = runs.length) (hm : n ≤ 60) (hok : ∀ r ∈ runs, zaC bars r = true) (hi : (zx bars runs)[i]? = some ld) (hi9 : i ≤ 100000) :
  Calls Tryz.prog 157 #[.slice A n c, .int .i64 i] w fun e w' => ∃ (k j : Nat) (r : RunD), e = .returned (.tuple #[.int .i64 k, .int .i64 j]) ∧ k < n ∧ runs[k]? = some r ∧ (j : Int) < r.count ∧ zdD bars r = some ld.bar ∧ ld.pts = zbJ ld.bar r j ∧ w = w' := by
 have H2 := zf h;have hn2' := zf hn;have Hc := zf (fun (r : RunD) (hr : r ∈ runs) => zaw (hok r hr));have Hs := zf (fun (k t : Nat) (r : RunD) (hr : runs[k]? = some r) (ht : (zx bars (runs.drop k))[t]? = some ld) => zqI (l := runs.drop (k + 1)) (hok r (zv hr)) (by rw [← zaX hr]; exact ht));have Hi := zf (show (zx bars (runs.drop 0))[i]? = some ld from hi);clear h hn hok hi;go_enter Tryz.func157, Tryz.ntmps157;go_wp2;go_loop [6, 1] (fun kv iv => ∃ k t : Nat, kv = .int .i64 k ∧ iv = .int .i64 t ∧ t ≤ 100000 ∧ Hid ((zx bars (runs.drop k))[t]? = some ld)) (fun kv _ => n - (intOf kv).toNat)
 case atStart => exact ⟨0, i, rfl, rfl, hi9, Hi⟩
 case round =>
  obtain ⟨k, t, rfl, rfl, ht9, hk⟩ := hrel;have hlt : k < n := by rw [hn2'.out]; exact zqH hk.out
  obtain ⟨b, off, r, rfl, hbl, hx, hc⟩ := RunsAt.get (k := k) H2.out (by rw [← hn2'.out]; exact hlt);obtain ⟨hc0, hc1⟩ := Hc.out r (zv hx);have p9 := hc 9 _ rfl;have hh := Hs.out k t r hx hk.out;have H1 := zf hh.1;have H3 := zf hh.2;have Hx := zf hx;obtain ⟨mark, tx, ty, ⟨a1, a2, a3⟩, ⟨s1, s2, s3⟩, cnt⟩ := r;simp only at p9 hc0 hc1 H1 H3;clear hx hbl hc hh;by_cases hge : cnt ≤ (t : Int)
  ·have d0 : decide (cnt ≤ (t : Int)) = true := by simpa using hge
   have Hr := zf (H3.out hge);have hz : IntKind.i64.wrap ((t : Int) - cnt) = ((t - cnt.toNat : Nat) : Int) := by
    rw [zr _ (by omega)]; omega
   clear hge;go_wp2_with fail;go_round
   case rel => exact ⟨k + 1, t - cnt.toNat, by go_num, rfl, by omega, Hr⟩
   case measure => simp [intOf]; omega
  ·have d0 : decide (cnt ≤ (t : Int)) = false := by simpa using hge
   have Hr := zf (H1.out (by omega));have hg : (t : Int) < cnt := by omega
   clear hge;go_wp2;go_ret2;exact ⟨k, t, rfl, hlt, _, Hx.out, hg, Hr.out.1, Hr.out.2, rfl⟩
theorem zmT {bars : List BarD} {r : RunD} {x : BarD} (h : zaC bars r = true) (hx : zdD bars r = some x) : ∃ j : Nat, idx (zaJ r.mark) bars = (j : Int) ∧ bars[j]? = some x := by
 obtain ⟨j, y, hj, hy, hb, _⟩ := zca h;rw [hx] at hb;injection hb with hb
 subst hb;exact ⟨j, hj, hy⟩
theorem zqq (A3 A4 : Option Addr) (bars : List BarD) (runs : List RunD) (n3 c3 n4 c4 i : Nat) (ld : LaidD) (w : World) {B : Nat} (h3 : BarsAt w B A3 bars) (h4 : RunsAt w B A4 runs) (hB : B ≤ w.heap.size) (l3 : n3 = bars.length) (l4 : n4 = runs.length) (m3 : n3 ≤ 60000) (hok : zaj bars runs = true) (hi : (zx bars runs)[i]? = some ld) :
  Calls Tryz.prog 99 #[.slice A3 n3 c3, .slice A4 n4 c4, .int .i64 i] w fun e w' => ∃ A c, e = .returned (ztZ ld.bar A c) ∧ Ints w' B A ld.bar.dims ∧ Below w.heap.size w w' := by
 obtain ⟨_, hlen, hruns⟩ := zap hok;have hi9 : i ≤ 100000 := by have := (zat hok).2; have := zaa hi; omega
 have HP := zf (fun (W : World) (hz : Below w.heap.size w W) => zhJ bars A4 runs n4 c4 i ld W (h4.carry (Flat.carried _) (hz.mono hB) (ze _)) l4 (by omega) hruns hi hi9);have HF := zf (fun (m : ByteArray) (W : World) (hz : Below w.heap.size w W) => zgF A3 bars n3 c3 m W (h3.carry (hz.mono hB) (ze _)) l3 m3);have Hfb := zf (fun (k : Nat) (r : RunD) (hk : runs[k]? = some r) (hx : zdD bars r = some ld.bar) => zmT (hruns r (zv hk)) hx);have H3 := zf h3;have H4 := zf h4;have L3 := zf l3;have L4 := zf l4;have KR := zf (Blk.new w 50 #[.string .empty, .int .i64 0, .int .i64 0, .int .i64 0, .slice none 0 0]);have HW := zf (zk w (.cells #[.string .empty, .int .i64 0, .int .i64 0, .int .i64 0, .slice none 0 0] 50));clear h3 h4 l3 l4 hok hi hruns hlen;go_enter Tryz.func99, Tryz.ntmps99;go_wp2_with fail;refine (HP.out _ HW.out).mono ?_;rintro e w1 ⟨k, j, r, rfl, hk, hx, hj, hrb, hpts, rfl⟩;obtain ⟨q, hq, hy⟩ := Hfb.out k r hx hrb;have HWr := HW.out;obtain ⟨b, off, r', rfl, hbl, hx', hc⟩ := RunsAt.get (k := k) (H4.out.carry (Flat.carried _) (HWr.mono hB) (ze _)) (by rw [← L4.out]; exact hk);rw [hx] at hx';injection hx' with hx'
 subst hx';have p0 := hc 0 _ rfl;simp only [Nat.add_zero] at p0;obtain ⟨b3, off3, y, A', c', hA3, hbl3, hy', hdi, f0, f1, f2, f3, f4⟩ := BarsAt.get (k := q) H3.out (zaa hy);rw [hy] at hy';injection hy' with hy'
 subst hy';subst hA3;have hbw : b3 < w.heap.size := zt hbl3 hB;have f0 := (HWr.cell (p := ⟨b3, off3 + q * 5, none⟩) hbw).trans f0;have f1 := (HWr.cell (p := ⟨b3, off3 + q * 5 + 1, none⟩) hbw).trans f1;have f2 := (HWr.cell (p := ⟨b3, off3 + q * 5 + 2, none⟩) hbw).trans f2;have f3 := (HWr.cell (p := ⟨b3, off3 + q * 5 + 3, none⟩) hbw).trans f3;have f4 := (HWr.cell (p := ⟨b3, off3 + q * 5 + 4, none⟩) hbw).trans f4;have HFm := zf (HF.out r.mark _ HWr);rw [hq] at HFm;have Hdi := zf hdi;have hqn : q < n3 := by rw [L3.out]; exact zaa hy
 have hbw3 : b3 < (w.alloc (.cells #[.string .empty, .int .i64 0, .int .i64 0, .int .i64 0, .slice none 0 0] 50)).heap.size := zt hbl3 (zM hB _);obtain ⟨mark, tx, ty, ⟨a1, a2, a3⟩, ⟨s1, s2, s3⟩, cnt⟩ := r;simp only at p0 HFm;obtain ⟨⟨mk, sz, ct, cd, dims⟩, pts⟩ := ld;simp only at f0 f1 f2 f3 f4 Hdi ⊢;clear hx hq hy hbl hc hdi hj hrb hpts HP HF Hfb H3 H4 L3 L4 hbl3;go_wp2_with fail;refine HFm.out.mono ?_;rintro e w2 ⟨rfl, rfl⟩;clear HFm;go_wp2_with fail;refine bodyPost_ret (zaU rfl rfl (Blk.new w _ _) Tryz.underlying50 rfl (by kernel_rfl)) rfl ?_
 first
  | exact ⟨A', ⟨c', rfl⟩, Hdi.out.carry ((zk w _).mono hB) (ze _), zk w _⟩
  | exact ⟨A', c', rfl, Hdi.out.carry ((zk w _).mono hB) (ze _), zk w _⟩
theorem zgk (n : Int) (w : World) :
  Calls Tryz.prog 148 #[.int .i64 n] w fun e w' => e = .returned (.bool (zaS n)) ∧ w = w' := by
 have hr : zaS n = (decide (-1048576 ≤ n) && decide (n ≤ 1048576)) := rfl;rw [hr];cases q0 : decide (-1048576 ≤ n) <;> cases q1 : decide (n ≤ 1048576)
 all_goals
  go_enter Tryz.func148, Tryz.ntmps148;go_wp2;go_ret;exact ⟨rfl, rfl⟩
theorem ze9 (n : Int) (w : World) :
  Calls Tryz.prog 206 #[.int .i64 n] w fun e w' => e = .returned (.bool (within n (-1048576) 1048576)) ∧ w = w' := by
 have hr : within n (-1048576) 1048576 = (decide (-1048576 ≤ n) && decide (n ≤ 1048576)) := rfl;rw [hr];cases q0 : decide (-1048576 ≤ n) <;> cases q1 : decide (n ≤ 1048576)
 all_goals
  go_enter Tryz.func206, Tryz.ntmps206;go_wp2;go_ret;exact ⟨rfl, rfl⟩
theorem ziI (n : Int) (w : World) :
  Calls Tryz.prog 205 #[.int .i64 n] w fun e w' => e = .returned (.bool (zc0 n)) ∧ w = w' := by
 have hr : zc0 n = (!decide (n = 0) && decide (-3 ≤ n) && decide (n ≤ 3)) := rfl;rw [hr];by_cases q2 : n = 0
 ·subst q2;go_enter Tryz.func205, Tryz.ntmps205;go_wp2;go_ret;exact ⟨rfl, rfl⟩
 have q2' : (n == 0) = false := by simpa using q2
 rw [zE q2];clear hr q2;cases q0 : decide (-3 ≤ n) <;> cases q1 : decide (n ≤ 3)
 all_goals
  go_enter Tryz.func205, Tryz.ntmps205;go_wp2;go_ret;exact ⟨zo (by simp [bne, q2']), rfl⟩
abbrev bxV (b : BoxD) : Value := .agg #[.int .i64 b.lo.1, .int .i64 b.lo.2.1, .int .i64 b.lo.2.2, .int .i64 b.hi.1, .int .i64 b.hi.2.1, .int .i64 b.hi.2.2]
def zn8 (p : Pt) (k : Nat) : Int := if k = 0 then p.1 else if k = 1 then p.2.1 else p.2.2
theorem zhM (p1 p2 p3 : Int) (k : Nat) (hk : k < 3) (w : World) :
  Calls Tryz.prog 149 #[.agg #[.int .i64 p1, .int .i64 p2, .int .i64 p3], .int .i64 k] w fun e w' => e = .returned (.int .i64 (zn8 (p1, p2, p3) k)) ∧ Below w.heap.size w w' := by
 rcases (show k = 0 ∨ k = 1 ∨ k = 2 by omega) with rfl | rfl | rfl
 all_goals
  go_enter Tryz.func149, Tryz.ntmps149;go_wp2;go_ret;exact ⟨rfl, zk _ _⟩
theorem ziH (p : Pt) (w : World) :
  Calls Tryz.prog 144 #[ptA p] w fun e w' => e = .returned (.bool (zJ 1048576 p)) ∧ Below w.heap.size w w' := by
 obtain ⟨p1, p2, p3⟩ := p;have hr : zJ 1048576 (p1, p2, p3) = (within p1 (-1048576) 1048576 && within p2 (-1048576) 1048576 && within p3 (-1048576) 1048576) := rfl;rw [hr];have H1 := fun W => ze9 p1 W;have H2 := fun W => ze9 p2 W;have H3 := fun W => ze9 p3 W;generalize within p1 (-1048576) 1048576 = a1 at *;generalize within p2 (-1048576) 1048576 = a2 at *;generalize within p3 (-1048576) 1048576 = a3 at *;have H1 := zf H1;have H2 := zf H2;have H3 := zf H3;clear hr;go_enter Tryz.func144, Tryz.ntmps144;go_wp2_with fail;refine (H1.out _).mono ?_;rintro e w1 ⟨rfl, rfl⟩;cases a1
 ·go_wp2;go_ret;exact ⟨rfl, zk _ _⟩
 go_wp2_with fail;refine (H2.out _).mono ?_;rintro e w1 ⟨rfl, rfl⟩;cases a2
 ·go_wp2;go_ret;exact ⟨rfl, zk _ _⟩
 go_wp2_with fail;refine (H3.out _).mono ?_;rintro e w1 ⟨rfl, rfl⟩;go_wp2;go_ret;exact ⟨rfl, zk _ _⟩
theorem zlZ (p : Pt) (w : World) :
  Calls Tryz.prog 145 #[ptA p] w fun e w' => e = .returned (.bool (zJ 2097152 p)) ∧ Below w.heap.size w w' := by
 obtain ⟨p1, p2, p3⟩ := p;have hr : zJ 2097152 (p1, p2, p3) = ((decide (-2097152 ≤ p1) && decide (p1 ≤ 2097152)) && (decide (-2097152 ≤ p2) && decide (p2 ≤ 2097152)) && (decide (-2097152 ≤ p3) && decide (p3 ≤ 2097152))) := rfl;rw [hr];have hways : ((decide (-2097152 ≤ p1) && decide (p1 ≤ 2097152)) && (decide (-2097152 ≤ p2) && decide (p2 ≤ 2097152)) && (decide (-2097152 ≤ p3) && decide (p3 ≤ 2097152))) = (decide (-2097152 ≤ p1) && (decide (p1 ≤ 2097152) && (decide (-2097152 ≤ p2) && (decide (p2 ≤ 2097152) && (decide (-2097152 ≤ p3) && decide (p3 ≤ 2097152)))))) := by simp only [Bool.and_assoc]
 rw [hways];clear hr hways;cases q0 : decide (-2097152 ≤ p1)
 ·go_enter Tryz.func145, Tryz.ntmps145;go_wp2;go_ret;exact ⟨rfl, zk _ _⟩
 cases q1 : decide (p1 ≤ 2097152)
 ·go_enter Tryz.func145, Tryz.ntmps145;go_wp2;go_ret;exact ⟨rfl, zk _ _⟩
 cases q2 : decide (-2097152 ≤ p2)
 ·go_enter Tryz.func145, Tryz.ntmps145;go_wp2;go_ret;exact ⟨rfl, zk _ _⟩
 cases q3 : decide (p2 ≤ 2097152)
 ·go_enter Tryz.func145, Tryz.ntmps145;go_wp2;go_ret;exact ⟨rfl, zk _ _⟩
 cases q4 : decide (-2097152 ≤ p3)
 ·go_enter Tryz.func145, Tryz.ntmps145;go_wp2;go_ret;exact ⟨rfl, zk _ _⟩
 cases q5 : decide (p3 ≤ 2097152)
 all_goals
  go_enter Tryz.func145, Tryz.ntmps145;go_wp2;go_ret;exact ⟨rfl, zk _ _⟩
theorem znh (x y : Int) (w : World) :
  Calls Tryz.prog 143 #[.agg #[.int .i64 x, .int .i64 y]] w fun e w' => e = .returned (.bool (zav x y)) ∧ Below w.heap.size w w' := by
 have hr : zav x y = (zc0 x && (zc0 y && (!decide (x = y) && !decide (x = -y)))) := by simp only [zav, Bool.and_assoc]
 rw [hr];have hy : zc0 y = true → -3 ≤ y ∧ y ≤ 3 := by
  intro h;simp only [zc0, zm, zzJ] at h;omega
 have H1 := fun W => ziI x W;have H2 := fun W => ziI y W;generalize zc0 x = a1 at *;generalize zc0 y = a2 at *;have H1 := zf H1;have H2 := zf H2;have Hy := zf hy;clear hr hy;go_enter Tryz.func143, Tryz.ntmps143;go_wp2_with fail;refine (H1.out _).mono ?_;rintro e w1 ⟨rfl, rfl⟩;cases a1
 ·go_wp2;go_ret;exact ⟨rfl, zk _ _⟩
 go_wp2_with fail;refine (H2.out _).mono ?_;rintro e w1 ⟨rfl, rfl⟩;cases a2
 ·go_wp2;go_ret;exact ⟨rfl, zk _ _⟩
 have y1 := Hy.out rfl;have y2 : wrap64 (-y) = -y := zas (-y) (by omega);clear y1;go_wp2_with fail
 all_goals go_ret
 all_goals exact ⟨zo (by cases h1 : decide (x = y) <;> cases h2 : decide (x = -y) <;> simp_all [bne]), zk _ _⟩
theorem zqJ (A : Option Addr) (l : List MainD) (n c : Nat) (j : JoinD) (w : World) {B : Nat} (h : MainsAt w B A l) (hB : B ≤ w.heap.size) (hn : n = l.length) (_hm : n ≤ 60000) :
  Calls Tryz.prog 121 #[.slice A n c, .agg #[.int .i64 j.first, .int .i64 j.second]] w fun e w' => e = .returned (.bool (zcW l j)) ∧ Below w.heap.size w w' := by
 obtain ⟨f, s⟩ := j;by_cases hout : f < 0 ∨ (l.length : Int) ≤ f ∨ s < 0 ∨ (l.length : Int) ≤ s
 ·have hres := zf (znK (l := l) (j := ⟨f, s⟩) hout);have hways : decide (f < 0) = true ∨ (decide (f < 0) = false ∧ decide ((n : Int) ≤ f) = true) ∨ (decide (f < 0) = false ∧ decide ((n : Int) ≤ f) = false ∧ decide (s < 0) = true) ∨ (decide (f < 0) = false ∧ decide ((n : Int) ≤ f) = false ∧ decide (s < 0) = false ∧ decide ((n : Int) ≤ s) = true) := by
   simp only [zzJ, zzI];omega
  generalize zcW l ⟨f, s⟩ = res at *;clear h hB hn hout;rcases hways with q0 | ⟨q0, q1⟩ | ⟨q0, q1, q2⟩ | ⟨q0, q1, q2, q3⟩
  all_goals
   go_enter Tryz.func121, Tryz.ntmps121;go_wp2;go_ret;exact ⟨zo hres.out.symm, zk w _⟩
 ·have hf0 : 0 ≤ f := by omega
  have hs0 : 0 ≤ s := by omega
  obtain ⟨p, rfl⟩ := Int.eq_ofNat_of_zero_le hf0;obtain ⟨q, rfl⟩ := Int.eq_ofNat_of_zero_le hs0;have hp : p < n := by omega
  have hq : q < n := by omega
  obtain ⟨b, off, x, hA, hbl, hx, hcx⟩ := MainsAt.get (k := p) h (by omega);obtain ⟨b2, off2, y, hA2, hbl2, hy, hcy⟩ := MainsAt.get (k := q) h (by omega);rw [hA] at hA2;injection hA2 with hA2
  injection hA2 with hA3 hA4
  subst hA3;subst hA4;subst hA;have hres := zf (zjT hx hy);generalize zcW l ⟨p, q⟩ = res at *;obtain ⟨⟨⟨x1, x2, x3⟩, x4, x5, x6⟩, xh, xs, xm⟩ := x;obtain ⟨⟨⟨y1, y2, y3⟩, y4, y5, y6⟩, yh, ys, ym⟩ := y;have hbw : b < w.heap.size := by omega
  have u0 := hcx 0 _ rfl;have u1 := hcx 1 _ rfl;have u2 := hcx 2 _ rfl;have u3 := hcx 3 _ rfl;have u4 := hcx 4 _ rfl;have u5 := hcx 5 _ rfl;have u6 := hcx 6 _ rfl;have u7 := hcx 7 _ rfl;have u8 := hcx 8 _ rfl;have v0 := hcy 0 _ rfl;have v1 := hcy 1 _ rfl;have v2 := hcy 2 _ rfl;have v3 := hcy 3 _ rfl;have v4 := hcy 4 _ rfl;have v5 := hcy 5 _ rfl;have v6 := hcy 6 _ rfl;have v7 := hcy 7 _ rfl;have v8 := hcy 8 _ rfl;simp only [Nat.add_zero] at u0 u1 u2 u3 u4 u5 u6 u7 u8 v0 v1 v2 v3 v4 v5 v6 v7 v8 hres;clear h hx hy hcx hcy hout hbl hbl2 hn;go_enter Tryz.func121, Tryz.ntmps121;have hbw1 : b < w.heap.size + 1 := by omega
  have hbw2 : b < w.heap.size + 1 + 1 := by omega
  have hbw3 : b < w.heap.size + 1 + 1 + 1 := by omega
  have hways : (xh = false ∧ Hid (res = false)) ∨ (xh = true ∧ yh = false ∧ Hid (res = false)) ∨ (xh = true ∧ yh = true ∧ decide (x1 < y1) = false ∧ Hid (res = false)) ∨ (xh = true ∧ yh = true ∧ decide (x1 < y1) = true ∧ decide (x4 < y4) = false ∧ Hid (res = false)) ∨ (xh = true ∧ yh = true ∧ decide (x1 < y1) = true ∧ decide (x4 < y4) = true ∧ Hid (res = decide (y1 ≤ x4))) := by
   have h9 := hres.out;cases xh
   ·exact .inl ⟨rfl, zf (by rw [h9]; rfl)⟩
   right
   cases yh
   ·exact .inl ⟨rfl, rfl, zf (by rw [h9]; rfl)⟩
   right
   cases e1 : decide (x1 < y1)
   ·exact .inl ⟨rfl, rfl, rfl, zf (by rw [h9, e1]; rfl)⟩
   right
   cases e2 : decide (x4 < y4)
   ·exact .inl ⟨rfl, rfl, rfl, rfl, zf (by rw [h9, e1, e2]; rfl)⟩
   ·exact .inr ⟨rfl, rfl, rfl, rfl, zf (by rw [h9, e1, e2]; rfl)⟩
  clear hres;go_wp2_with fail;go_region
  all_goals
   clear u0 u1 u2 u3 u4 u5 u6 u7 u8 v0 v1 v2 v3 v4 v5 v6 v7 v8;rcases hways with ⟨rfl, hr⟩ | ⟨rfl, rfl, hr⟩ | ⟨rfl, rfl, q1, hr⟩ | ⟨rfl, rfl, q1, q2, hr⟩ | ⟨rfl, rfl, q1, q2, hr⟩
   all_goals
    go_wp2;go_ret;exact ⟨zo hr.out.symm, (((zk w _).alloc (by simp) _).alloc (by simp; omega) _).drew⟩
end Go.Proofs.YtpaanfjjnjjoeaaGreat
