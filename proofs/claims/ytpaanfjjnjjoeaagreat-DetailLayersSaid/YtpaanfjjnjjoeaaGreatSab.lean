/- The catalogue of shapes: legs of a code, how many dimensions it has, whether a bar is valid, and its. -/
import Derived.Test.YtpaanfjjnjjoeaaGreatSaa
import Derived.Laws.Cells
set_option maxHeartbeats 8000000
namespace Go.Proofs.YtpaanfjjnjjoeaaGreat
open Go.RowKit
def zbb (code : Int) : List (Int × Int) :=
 if code = 0 then [(0, 120)] else if code = 11 then [(0, 120), (1, 121)] else if code = 21 then [(0, 89), (1, 120), (2, 121)] else if code = 26 then [(0, 120), (1, 121), (2, 120)]
 else if code = 31 then [(0, 120), (1, 121), (2, 122)] else if code = 41 then [(0, 120), (1, 121), (2, 120), (3, 89), (4, 120)]
 else if code = 51 then [(2, 89), (0, 120), (1, 121), (0, 88), (1, 89), (2, 120)] else if code = 98 then [(0, 122), (1, 89), (2, 120), (1, 121), (0, 122)] else []
def zaM (code : Int) : Nat := (zbb code).length
theorem zf2 (code : Int) : zaM code ≤ 6 := by unfold zaM zbb; (repeat' split) <;> simp
theorem zk5 (code : Int) : ∀ p ∈ zbb code, 0 ≤ p.1 ∧ p.1 ≤ 4 := by
 have h : (zbb code).all (fun p => decide (0 ≤ p.1) && decide (p.1 ≤ 4)) = true := by
  unfold zbb
  (repeat' split) <;> rfl
 intro p hp;have := List.all_eq_true.1 h p hp
 simpa using this
def zly (p : Int × Int) : List Value := [.int .i64 p.1, .int .u8 p.2]
theorem zhn (p : Int × Int) : (zly p).length = 2 := rfl
abbrev LegsAt (w : World) (B : Nat) (A : Option Addr) (l : List (Int × Int)) : Prop := SlOf w B 2 (Flat zly) A l
theorem LegsAt.get {w : World} {B : Nat} {A : Option Addr} {l : List (Int × Int)} (h : LegsAt w B A l) {k : Nat} (hk : k < l.length) :
  ∃ b off d y, A = some ⟨b, off, none⟩ ∧ b < B ∧ l[k]? = some (d, y) ∧ w.cell? ⟨b, off + k * 2, none⟩ = some (.int .i64 d) ∧ w.cell? ⟨b, off + k * 2 + 1, none⟩ = some (.int .u8 y) := by
 obtain ⟨b, off, ⟨d, y⟩, vs, hA, hb, hx, _, hr, hc⟩ := h.at_ hk;have hr' : vs = zly (d, y) := hr;subst hr';exact ⟨b, off, d, y, hA, hb, hx, by simpa using hc 0 _ rfl, by simpa using hc 1 _ rfl⟩
theorem zmP (code : Int) (w : World) :
  Calls Tryz.prog 108 #[.int .i64 code] w fun e w' => ∃ A, e = .returned (.slice A (zaM code) (zaM code)) ∧ LegsAt w' w'.heap.size A (zbb code) ∧ Below w.heap.size w w' := by
 by_cases hno : zbb code = []
 ·have hl : zaM code = 0 := by simp [zaM, hno]
  rw [hl, hno];have hs : code ≠ 0 ∧ code ≠ 11 ∧ code ≠ 21 ∧ code ≠ 26 ∧ code ≠ 31 ∧ code ≠ 41 ∧ code ≠ 51 ∧ code ≠ 98 := by
   refine ⟨?_, ?_, ?_, ?_, ?_, ?_, ?_, ?_⟩ <;> (rintro rfl; simp [zbb] at hno)
  obtain ⟨h0, h1, h2, h3, h4, h5, h6, h7⟩ := hs;clear hno hl;go_enter Tryz.func108, Tryz.ntmps108;go_wp2;go_ret;exact ⟨none, rfl, SlOf.nil _ _ _ _ _, Below.refl _ _⟩
 ·have hs : code = 0 ∨ code = 11 ∨ code = 21 ∨ code = 26 ∨ code = 31 ∨ code = 41 ∨ code = 51 ∨ code = 98 := by
   have h := hno;unfold zbb at h;refine Decidable.byContradiction fun hn => ?_;simp only [not_or] at hn;obtain ⟨h0, h1, h2, h3, h4, h5, h6, h7⟩ := hn;simp [h0, h1, h2, h3, h4, h5, h6, h7] at h
  clear hno;rcases hs with rfl | rfl | rfl | rfl | rfl | rfl | rfl | rfl
  all_goals
   go_enter Tryz.func108, Tryz.ntmps108;go_wp2;go_ret;exact ⟨_, rfl, SlOf.lit zhn _ _ _ _ rfl (by simp), zk _ _⟩
def zcq (code : Int) : Int := ((zbb code).foldl (fun a p => max a p.1) (-1)) + 1
def zed (code : Int) : Int := if zcq code = 0 then 11 else 0
theorem zmY (code : Int) (w : World) :
  Calls Tryz.prog 166 #[.int .i64 code] w fun e w' => e = .returned (.tuple #[.int .i64 (zcq code), .int .i64 (zed code)]) ∧ Below w.heap.size w w' := by
 have hle := zf2 code;go_enter Tryz.func166, Tryz.ntmps166;go_wp2_with fail;refine (zmP _ _).mono ?_; rintro e w1 ⟨A, rfl, hA, hb⟩;go_wp2;go_loopw [4, 10] (fun m i wr => ∃ k : Nat, k ≤ zaM code ∧ i = .int .i64 k ∧ (∃ d : Int, -1 ≤ d ∧ d ≤ 4 ∧ m = .int .i64 d ∧ Hid (d = ((zbb code).take k).foldl (fun a p => max a p.1) (-1))) ∧ Below w1.heap.size w1 wr) (fun _ i _ => zaM code - (intOf i).toNat)
 case atStart => exact ⟨0, zu _, rfl, ⟨-1, by omega, by omega, rfl, zf rfl⟩, Below.refl _ _⟩
 case round =>
  obtain ⟨k, hk, rfl, ⟨m, hm1, hm2, rfl, hm⟩, hbr⟩ := hrel;by_cases hlt : k < zaM code
  ·obtain ⟨b, off, d, y, rfl, hbl, hx, hc0, hc1⟩ := hA.get (k := k) hlt;rw [← hbr.cell (by exact hbl)] at hc0 hc1;have Hx := zf hx;have hd := zk5 code _ (zv hx);obtain ⟨hd0, hd4⟩ : 0 ≤ d ∧ d ≤ 4 := hd;clear hx hA hbl;go_wp2;go_roundw
   case rel => exact ⟨k + 1, by omega, by go_num, ⟨max m d, by omega, by omega, by rw [zlw], zf (by rw [zQ Hx.out, List.foldl_append, ← hm.out]; rfl)⟩, hbr.alloc hbr.size _⟩
   case measure => simp [intOf]; omega
  ·obtain rfl : k = zaM code := by omega
   have hm' := hm.out;rw [List.take_of_length_le (by simp [zaM])] at hm';have hN := zf (show zcq code = m + 1 by rw [zcq, hm']);clear hm';go_wp2_with fail
   ·go_ret2;exact ⟨by rw [zed, hN.out, show m + 1 = 0 by omega]; rfl, zg hb hbr (ze _)⟩
   ·go_ret2;exact ⟨by rw [zed, hN.out, if_neg (by omega)]; rfl, zg hb hbr (ze _)⟩
structure BarD where
 mark : ByteArray
 size : Int
 count : Int
 code : Int
 dims : List Int
def zfb (rest : Int) : List Int → Bool
 | [] => true
 | d :: r => decide (1 ≤ d) && decide (d ≤ rest) && zfb (rest - d) r
def zcr (x : BarD) : Bool :=
 decide (zed x.code = 0) && zb8 x.mark && za1 x.size && decide (1 ≤ x.count) && decide (x.count ≤ 1000) && decide ((x.dims.length : Int) = zcq x.code) && zfb 262144 x.dims
def zgv (x : BarD) : Bool :=
 decide (zed x.code = 0) && zb8 x.mark && za1 x.size && decide (1 ≤ x.count) && decide (x.count ≤ 1000) && decide ((x.dims.length : Int) = zcq x.code)
theorem zfK (x : BarD) : zcr x = (zgv x && zfb 262144 x.dims) := rfl
theorem zeS (x : BarD) (A : Option Addr) (c : Nat) (w : World) {B : Nat} (hA : Ints w B A x.dims) (hB : B ≤ w.heap.size) (hm : x.mark.size ≤ maxLen) (hd : x.dims.length ≤ 60000) :
    Calls Tryz.prog 107 #[.agg #[.string x.mark, .int .i64 x.size, .int .i64 x.count, .int .i64 x.code, .slice A x.dims.length c]] w fun e w' => e = .returned (.bool (zcr x)) ∧ Below w.heap.size w w' := by
  rw [zfK];cases hpre : zgv x
  · obtain ⟨mark, size, count, code, dims⟩ := x
    have Hp := zf hpre;simp only at hA hm hd ⊢;clear hpre hA;go_enter Tryz.func107, Tryz.ntmps107;go_wp2_with fail;refine (zmY _ _).mono ?_; rintro e w1 ⟨rfl, hb⟩;have b0 := (Blk.new w 50 #[.string mark, .int .i64 size, .int .i64 count, .int .i64 code, .slice A dims.length c]).keep hb;have c0 := b0.cell 0;have c1 := b0.cell 1;have c2 := b0.cell 2;have c4 := b0.cell 4;simp at c0 c1 c2 c4;clear b0;have hAll := zg (zk w _) hb (ze _);clear hb;go_wp2_with (first
      | (go_at_call 167; refine (zf3 _ _ hm).mono ?_; rintro e w' ⟨rfl, rfl⟩)
      | (go_at_call 168; refine (zhx _ _).mono ?_; rintro e w2 ⟨rfl, hb2⟩; have e2 := cell_later hb2 c2; have e4 := cell_later hb2 c4))
    any_goals (go_ret; exact ⟨by simp, by first | exact hAll | exact zg hAll hb2 (ze _)⟩)
    all_goals
      exfalso;have h := Hp.out
      simp_all [zgv]
  · have hP := hpre
    simp only [zgv, zm, zzJ] at hP;obtain ⟨⟨⟨⟨⟨p0, p1⟩, p2⟩, p3⟩, p4⟩, p5⟩ := hP;obtain ⟨mark, size, count, code, dims⟩ := x;simp only at hA hm hd p0 p1 p2 p3 p4 p5 ⊢;have H0 := zf p0;have H1 := zf p1;have H2 := zf p2;have h5 : ((dims.length : Int) != zcq code) = false := by simp [p5]
    clear p0 p1 p2 p5 hpre;go_enter Tryz.func107, Tryz.ntmps107;go_wp2_with fail;refine (zmY _ _).mono ?_; rintro e w1 ⟨rfl, hb⟩; rw [H0.out];have b0 := (Blk.new w 50 #[.string mark, .int .i64 size, .int .i64 count, .int .i64 code, .slice A dims.length c]).keep hb;have c0 := b0.cell 0;have c1 := b0.cell 1;have c2 := b0.cell 2;have c4 := b0.cell 4;simp at c0 c1 c2 c4;clear b0;have hBs := hb.size;simp at hBs;have hA1 : Ints w1 B A dims := hA.carry (((Below.refl _ _).alloc hB _).trans (hb.mono (by simp; omega))) (ze _);have hAll := zg (zk w _) hb (ze _);clear hA hb;go_wp2_with (first
      | (go_at_call 167; refine (zf3 _ _ hm).mono ?_; rintro e w' ⟨rfl, rfl⟩; rw [H1.out])
      | (go_at_call 168; refine (zhx _ _).mono ?_; rintro e w2 ⟨rfl, hb2⟩; rw [H2.out]; have e2 := cell_later hb2 c2; have e4 := cell_later hb2 c4))
    have hA2 := hA1.carry (hb2.mono (by omega)) (ze B);have hw2 := zg hAll hb2 (ze _);clear hA1 hAll c0 c1 c2 c4 e2 hb2;go_loop [5, 48] (fun r i => ∃ k : Nat, k ≤ dims.length ∧ i = .int .i64 k ∧ ∃ rest : Int, 0 ≤ rest ∧ rest ≤ 262144 ∧ r = .int .i64 rest ∧ Hid (zfb 262144 dims = zfb rest (dims.drop k))) (fun _ i => dims.length - (intOf i).toNat)
    case atStart => exact ⟨0, zu _, rfl, 262144, by omega, by omega, rfl, zf rfl⟩
    case round =>
      obtain ⟨k, hk, rfl, rest, hr0, hr1, rfl, hf⟩ := hrel;by_cases hlt : k < dims.length
      · obtain ⟨b, off, y, rfl, hbl, hy, hc⟩ := hA2.get (k := k) hlt
        have Hf := zf (hf.out.trans (by rw [zaX hy, zfb]));clear hy hbl hA2 hf e4;go_wp2_with fail
        all_goals first
          | (go_ret; exact ⟨zo (by rw [Hf.out]; simp_all <;> omega), hw2⟩)
          | (go_round
             case rel => exact ⟨k + 1, by omega, by go_num, rest - y, by omega, by omega, rfl, zf (by rw [Hf.out]; simp_all)⟩
             case measure => simp [intOf]; omega)
      · obtain rfl : k = dims.length := by omega
        go_wp2;go_ret;exact ⟨zo (by rw [hf.out]; simp [zfb]), hw2⟩
def ztL : World → Nat → List Value → BarD → Prop := fun w B vs x => ∃ A c, vs = [.string x.mark, .int .i64 x.size, .int .i64 x.count, .int .i64 x.code, .slice A x.dims.length c] ∧ Ints w B A x.dims
theorem zmx : zfX ztL := fun _ _ _ _ _ _ hb hB ⟨A, c, h, hi⟩ => ⟨A, c, h, hi.carry hb hB⟩
abbrev BarsAt (w : World) (B : Nat) (A : Option Addr) (l : List BarD) : Prop := SlOf w B 5 ztL A l
theorem BarsAt.carry {w w' : World} {B B' : Nat} {A : Option Addr} {l : List BarD} (h : BarsAt w B A l) (hb : Below B w w') (hB : B ≤ B') : BarsAt w' B' A l := SlOf.carry zmx h hb hB
theorem BarsAt.get {w : World} {B : Nat} {A : Option Addr} {l : List BarD} (h : BarsAt w B A l) {k : Nat} (hk : k < l.length) :
  ∃ b off x A' c', A = some ⟨b, off, none⟩ ∧ b < B ∧ l[k]? = some x ∧ Ints w B A' x.dims ∧ w.cell? ⟨b, off + k * 5, none⟩ = some (.string x.mark) ∧ w.cell? ⟨b, off + k * 5 + 1, none⟩ = some (.int .i64 x.size) ∧
   w.cell? ⟨b, off + k * 5 + 2, none⟩ = some (.int .i64 x.count) ∧ w.cell? ⟨b, off + k * 5 + 3, none⟩ = some (.int .i64 x.code) ∧ w.cell? ⟨b, off + k * 5 + 4, none⟩ = some (.slice A' x.dims.length c') := by
 obtain ⟨b, off, x, vs, hA, hb, hx, _, ⟨A', c', rfl, hi⟩, hc⟩ := h.at_ hk;exact ⟨b, off, x, A', c', hA, hb, hx, hi, by simpa using hc 0 _ rfl, by simpa using hc 1 _ rfl, by simpa using hc 2 _ rfl, by simpa using hc 3 _ rfl, by simpa using hc 4 _ rfl⟩
def ztZ (x : BarD) (A : Option Addr) (c : Nat) : Value := .agg #[.string x.mark, .int .i64 x.size, .int .i64 x.count, .int .i64 x.code, .slice A x.dims.length c]
theorem zd6 (A : Option Addr) (l : List BarD) (n c : Nat) (fid : FuncId) (caps : Array Value) (p : BarD → Bool) (w : World) {B : Nat} (h : BarsAt w B A l) (hB : B ≤ w.heap.size) (hn : n = l.length) (hm : n ≤ 60000)
  (hc : ∀ args w, (callFunc fid args).run Tryz.prog w = .ok (.enter fid args) w)
  (hf : ∀ x A' c' (W : World), x ∈ l → Below w.heap.size w W → Ints W B A' x.dims →
   Calls Tryz.prog fid (#[.agg #[.string x.mark, .int .i64 x.size, .int .i64 x.count, .int .i64 x.code, .slice A' x.dims.length c']] ++ caps) W fun e W' => e = .returned (.bool (p x)) ∧ Below W.heap.size W W') :
  Calls Tryz.prog 227 #[.slice A n c, .func (.func fid) #[] caps] w fun e w' => e = .returned (.int .i64 (idx p l)) ∧ Below w.heap.size w w' := by
 have Hf := zf hf;have hn' := zf hn;clear hf hn;go_enter Tryz.func227, Tryz.ntmps227;go_wp2;go_loopw [8] (fun i wr => ∃ k : Nat, k ≤ n ∧ i = .int .i64 k ∧ NoneTo p l k ∧ Below w.heap.size w wr) (fun i _ => n - (intOf i).toNat)
 case atStart => exact ⟨0, zu _, rfl, NoneTo.zero _ _, Below.refl _ _⟩
 case round =>
  obtain ⟨k, hk, rfl, hw, hb⟩ := hrel;by_cases hlt : k < n
  ·obtain ⟨b, off, x, A', c', rfl, hbl, hx, hi, h0, h1, h2, h3, h4⟩ := BarsAt.get (k := k) (h.carry (hb.mono hB) (ze _)) (by rw [← hn'.out]; exact hlt);have Hx := zf hx;have Hi := zf hi;clear hx hi h hbl;go_wp2_with fail;refine (Hf.out x A' c' _ (zv Hx.out) hb Hi.out).mono ?_;rintro e w1 ⟨rfl, hb1⟩;clear h0 h1 h2 h3 h4;have hb2 := zg hb hb1 (ze _);cases hp : p x
   ·have Hp := zf hp;clear hp;go_wp2;go_roundw
    case rel => exact ⟨k + 1, by omega, by go_num, hw.succ Hx.out Hp.out, hb2⟩
    case measure => simp [intOf]; omega
   ·have Hp := zf hp;clear hp;go_wp2;go_ret;exact ⟨zam (hw.hit Hx.out Hp.out).symm, hb2⟩
  ·obtain rfl : k = n := by omega
   go_wp2;go_ret;exact ⟨zam (NoneTo.miss (by rw [← hn'.out]; exact hw)).symm, hb⟩
def zaJ (m : ByteArray) (x : BarD) : Bool := x.mark.toList == m.toList
theorem zo8 (x : BarD) (A : Option Addr) (c : Nat) (m : ByteArray) (g : Nat) (w : World) (h0 : w.cell? ⟨g, 0, none⟩ = some (.string m)) :
  Calls Tryz.prog 228 #[.agg #[.string x.mark, .int .i64 x.size, .int .i64 x.count, .int .i64 x.code, .slice A x.dims.length c], .pointer (some ⟨g, 0, none⟩)] w fun e w' => e = .returned (.bool (zaJ m x)) ∧ Below w.heap.size w w' := by
 have hg : g < w.heap.size := by
  have := World.block_lt_of_cell? w _ h0;exact this
 have h1 := fun o => (World.cell?_alloc_lt w o ⟨g, 0, none⟩ hg).trans h0;go_enter Tryz.func228, Tryz.ntmps228;go_wp2;go_ret;exact ⟨zo (by rfl), zk _ _⟩
theorem zgM (A : Option Addr) (l : List BarD) (n c : Nat) (m : ByteArray) (w : World) {B : Nat} (h : BarsAt w B A l) (hB : B ≤ w.heap.size) (hn : n = l.length) (hm : n ≤ 60000) :
  Calls Tryz.prog 169 #[.slice A n c, .string m] w fun e w' => e = .returned (.int .i64 (idx (zaJ m) l)) ∧ Below w.heap.size w w' := by
 have hn' := zf hn;have h1 := zf (h.carry ((Below.refl B w).alloc hB (.cells #[.string m] 9)) (ze B));have h2 := zf (zM hB (.cells #[.string m] 9));clear hn;go_enter Tryz.func169, Tryz.ntmps169;go_wp2_with fail;refine (zd6 A l n c 228 #[.pointer (some ⟨w.heap.size, 0, none⟩)] (zaJ m) _ h1.out h2.out hn'.out hm Tryz.call228 (fun x A' c' W _ hb _ => zo8 x A' c' m w.heap.size W (by have h0 := ((Blk.new w 9 #[.string m]).keep hb).cell 0; simpa using h0))).mono ?_;rintro e w1 ⟨rfl, hb⟩;go_wp2;go_ret;exact ⟨rfl, zg (zk _ _) hb (ze _)⟩
def zer (l : List BarD) : Prop := ∀ x ∈ l, x.mark.size ≤ maxLen ∧ x.dims.length ≤ 60000
def zbP (l : List BarD) : Nat → List BarD → Bool
 | _, [] => true
 | k, x :: r => zcr x && decide (idx (zaJ x.mark) l = k) && zbP l (k + 1) r
def zbz (l : List BarD) : Bool := decide (l.length ≤ 60) && zbP l 0 l
theorem zgL (A : Option Addr) (l : List BarD) (n c : Nat) (w : World) {B : Nat} (h : BarsAt w B A l) (hB : B ≤ w.heap.size) (hn : n = l.length) (hg : zer l) (hm : n ≤ 60000) :
  Calls Tryz.prog 111 #[.slice A n c] w fun e w' => e = .returned (.bool (zbz l)) ∧ Below w.heap.size w w' := by
 have hn' := zf hn;have Hg := zf hg;by_cases h60 : n ≤ 60
 ·have hs : zbz l = zbP l 0 l := by simp [zbz, ← hn, h60]
  rw [hs];clear hs hn hg hm;go_enter Tryz.func111, Tryz.ntmps111;go_wp2;go_loopw [10] (fun i wr => ∃ k : Nat, k ≤ n ∧ i = .int .i64 k ∧ Hid (zbP l 0 l = zbP l k (l.drop k)) ∧ Below w.heap.size w wr) (fun i _ => n - (intOf i).toNat)
  case atStart => exact ⟨0, zu _, rfl, zf rfl, Below.refl _ _⟩
  case round =>
   obtain ⟨k, hk, rfl, hw, hb⟩ := hrel;by_cases hlt : k < n
   ·have HR := zf (h.carry (hb.mono hB) (ze _));have hBr := zh hB hb.size;obtain ⟨b, off, x, A', c', hA, hbl, hx, hi, h0, h1, h2, h3, h4⟩ := BarsAt.get (k := k) HR.out (by rw [← hn'.out]; exact hlt);have HA := zf hA;subst hA;have Hx := zf hx;have hgx := Hg.out x (zv hx);have Hw := zf (hw.out.trans (by rw [zaX hx, zbP]));have Hi := zf hi;have hbo := fun o => zf ((Below.refl B wr).alloc hBr o);clear hx hi h hbl hw;go_wp2_with fail;refine (zeS x A' c' _ (Hi.out.carry (hbo _).out (ze _)) (zM hBr _) hgx.1 hgx.2).mono ?_;rintro e w1 ⟨rfl, hb1⟩;have b0 := (Blk.new wr 50 #[.string x.mark, .int .i64 x.size, .int .i64 x.count, .int .i64 x.code, .slice A' x.dims.length c']).keep hb1;have c0 := b0.cell 0;simp at c0;have hbw1 := zf (zg (zg hb (zk wr _) (ze _)) hb1 (ze _));have hB1 := zf (HR.out.carry (((hbo _).out).trans (hb1.mono (zM hBr _))) (ze _));have hs1 := zh hB hbw1.out.size;clear b0 h0 h1 h2 h3 h4 hbo hb1 HR Hi;cases hp : zcr x
    ·have Hp := zf hp;clear hp;go_wp2;go_ret;exact ⟨zo (by rw [Hw.out, Hp.out]; rfl), hbw1.out⟩
    ·have Hp := zf hp;clear hp;go_wp2_with fail;refine (zgM _ l n c x.mark _ hB1.out hs1 hn'.out (by omega)).mono ?_;rintro e w2 ⟨rfl, hb2⟩;have hbw2 := zf (zg hbw1.out hb2 (ze _));clear hb2 c0;cases hq : decide (idx (zaJ x.mark) l = k)
     ·have Hq := zf hq;have hq' : (idx (zaJ x.mark) l != (k : Int)) = true := by simpa using hq
      clear hq;go_wp2;go_ret;exact ⟨zo (by rw [Hw.out, Hp.out, Hq.out]; rfl), hbw2.out⟩
     ·have Hq := zf hq;have hq' : (idx (zaJ x.mark) l != (k : Int)) = false := by simpa using hq
      clear hq;go_wp2;go_roundw
      case rel => exact ⟨k + 1, by omega, by go_num, zf (by rw [Hw.out, Hp.out, Hq.out]; rfl), hbw2.out⟩
      case measure => simp [intOf]; omega
   ·obtain rfl : k = n := by omega
    go_wp2;go_ret;exact ⟨zo (by rw [hw.out, List.drop_of_length_le (by rw [← hn'.out]; exact ze _)]; rfl), hb⟩
 ·have hs : zbz l = false := by simp [zbz, ← hn, h60]
  rw [hs];clear hs hn hg;go_enter Tryz.func111, Tryz.ntmps111;go_wp2;go_ret;exact ⟨rfl, Below.refl _ _⟩
theorem zmK {α : Type} {w : World} {base size : Nat} {e : TypeId} {enc : α → List Value} {v : Value} {l : List α} (h : Row w base e size enc v l) : ∃ A c, v = .slice A l.length c ∧ l.length ≤ c := by
 rcases h.2 with ⟨hv, h0⟩ | ⟨g, cap, cur, hv, _, _, hnc, _⟩
 ·exact ⟨none, 0, by rw [hv, h0], by omega⟩
 ·exact ⟨some ⟨g, 0, none⟩, cap, hv, hnc⟩
theorem zjB {α : Type} {P : Program} {w : World} {o : Oper} {a : Act} {K : Act → World → Prop} {Q : Exit → Act → World → Prop} (s x : Operand) (t : TypeId)
  (ho : o.op = .call { callee := .builtin .append, args := #[s, x], argTypes := #[t, t] }) (base : Nat) (e : TypeId) (z : Value) (size bytes : Nat) (enc : α → List Value)
  (ht : P.underlying t = some (.slice e)) (hi : (P.info? e).map (fun i => (i.zero, i.size, i.bytes)) = some (some z, size, bytes)) (hzs : z.cells.size = size) (hsz : 0 < size) (he : ∀ x, (enc x).length = size) (h1 : ∀ x, ∀ u ∈ enc x, u.oneCell' = true)
  (v : Value) (l ys : List α) (hs : a.eval s = v) (hown : Row w base e size enc v l) (A : Option Addr) (m c : Nat) (hx : a.eval x = .slice A m c) (hm : m = ys.length) {B : Nat} (hys : SlOf w B size (Flat enc) A ys)
  (hn : l.length ≤ 1000000) (hy : ys.length ≤ 1000000) (hby : bytes ≤ 1000) (hbase : base ≤ w.heap.size)
  (h : ∀ A' c' w', Row w' base e size enc (.slice A' (l.length + m) c') (l ++ ys) → Below base w w' → w.grownBy w' v.ownBlock → K (a.put o.dst (.slice A' (l.length + m) c')) w') : o.wp P a w K Q := by
 obtain ⟨i, hi0, hz, h2, h3⟩ := info_parts hi;have hlen : (ys.flatMap enc).length = ys.length * size := zbG he ys;have hmm : (l.length + ys.length) * bytes ≤ 2000000 * 1000 := Nat.mul_le_mul (by omega) hby
 have key : ∀ ad : Addr, (∀ j u, (ys.flatMap enc)[j]? = some u → w.cell? (ad.add j) = some u) → ∃ v' w', (Builtin.append_ #[t, t] o.type #[v, .slice (some ad) m c]).run P w = .ok v' w' ∧ w'.ownsRow base e size v' (l.length + m) (l.flatMap enc ++ ys.flatMap enc) ∧ w.grownBy w' v.ownBlock := by
  intro ad hcells;obtain ⟨v', w', r1, r2, r3, _⟩ := run_append_own (P := P) w base t o.type e i z size bytes ht hi0 hz h2 h3 hzs hsz v l.length (l.flatMap enc) hown ad m c (ys.flatMap enc) (by rw [hlen, hm]) hcells
   (fun u hu => by
    obtain ⟨y, _, hy⟩ := List.mem_flatMap.1 hu;exact h1 y u hy) (by unfold maxLen; omega) (by rw [hm]; omega) hbase
  exact ⟨v', w', r1, r2, r3⟩
 have hrun : ∃ v' w', (Builtin.append_ #[t, t] o.type #[v, .slice A m c]).run P w = .ok v' w' ∧ w'.ownsRow base e size v' (l.length + m) (l.flatMap enc ++ ys.flatMap enc) ∧ w.grownBy w' v.ownBlock := by
  by_cases h0 : 0 < ys.length
  ·obtain ⟨b, off, rfl, _, hc⟩ := hys h0;refine key ⟨b, off, none⟩ (fun j u hu => ?_);have hadd : (⟨b, off, none⟩ : Addr).add j = ⟨b, off + j, none⟩ := by unfold Addr.add; split <;> simp_all
   have hj : j < (ys.flatMap enc).length := zaa hu;rw [hlen] at hj;have hdm : j / size < ys.length := Nat.div_lt_of_lt_mul (by rw [Nat.mul_comm]; exact hj);obtain ⟨y, hyj⟩ : ∃ y, ys[j / size]? = some y := ⟨_, zi hdm⟩;obtain ⟨vs, _, hr, hcell⟩ := hc (j / size) y hyj;have hr' : vs = enc y := hr;subst hr';have hmod : j % size < (enc y).length := by rw [he]; exact Nat.mod_lt _ hsz
   have h8 : (enc y)[j % size]? = some (enc y)[j % size] := zi hmod;have h9 := zcd he ys (j / size) y hyj (j % size) _ h8;have hsum : j / size * size + j % size = j := by rw [Nat.mul_comm]; exact Nat.div_add_mod j size
   rw [hsum, hu] at h9;injection h9 with h9
   have h7 := hcell (j % size) _ h8;rw [Nat.add_assoc, hsum] at h7;rw [hadd, h7, h9]
  ·have hm0 : m = 0 := by omega
   have hys0 : ys = [] := List.eq_nil_of_length_eq_zero (by omega);have hk := fun ad => key ad (by intro j u hu; rw [hys0] at hu; simp at hu);cases A with
   | some ad => exact hk ad
   | none =>
    obtain ⟨v', w', r1, r2, r3⟩ := hk ⟨0, 0, none⟩;refine ⟨v', w', ?_, r2, r3⟩;rw [hm0] at r1 ⊢;obtain ⟨A1, c1, hv1, hc1⟩ := zmK hown;rw [hv1] at r1 ⊢;rw [zn5 t o.type e i ht hi0 A1 l.length c1 ⟨0, 0, none⟩ c hc1];exact r1
 obtain ⟨v', w', hr, hown', hg⟩ := hrun;have hR : Row w' base e size enc v' (l ++ ys) := by
  unfold Row;rw [zae, zC, ← hm];exact hown'
 obtain ⟨A', c', hv⟩ := hR.val;rw [zC, ← hm] at hv;subst hv;unfold Oper.wp execOp;simp only [ho, resolve, invoke, builtin, Sem.run_bind, Sem.run_pure, Result.andThen_ok, List.map_toArray, List.map_cons, List.map_nil, hs, hx, hr];exact h A' c' w' hR ((Below.refl base w).grown hg hbase (fun k hk => (hown.lt k hk).1)) hg
theorem za2 {α : Type} {P : Program} {w : World} {ops : Array Oper} {rest : List Oper} {o : Oper} {a : Act} {Q : Exit → Act → World → Prop} (hgd : o.guard = none) (s x : Operand) (t : TypeId)
  (ho : o.op = .call { callee := .builtin .append, args := #[s, x], argTypes := #[t, t] }) (base : Nat) (e : TypeId) (z : Value) (size bytes : Nat) (enc : α → List Value)
  (ht : P.underlying t = some (.slice e)) (hi : (P.info? e).map (fun i => (i.zero, i.size, i.bytes)) = some (some z, size, bytes)) (hzs : z.cells.size = size) (hsz : 0 < size) (he : ∀ x, (enc x).length = size) (h1 : ∀ x, ∀ u ∈ enc x, u.oneCell' = true)
  (v : Value) (l ys : List α) (hs : a.eval s = v) (hown : Row w base e size enc v l) (A : Option Addr) (m c : Nat) (hx : a.eval x = .slice A m c) (hm : m = ys.length) {B : Nat} (hys : SlOf w B size (Flat enc) A ys)
  (hn : l.length ≤ 1000000) (hy : ys.length ≤ 1000000) (hby : bytes ≤ 1000) (hbase : base ≤ w.heap.size)
  (h : ∀ A' c' w', Row w' base e size enc (.slice A' (l.length + m) c') (l ++ ys) → Below base w w' → w.grownBy w' v.ownBlock → wpList P ops Q rest (a.put o.dst (.slice A' (l.length + m) c')) w') : wpList P ops Q (o :: rest) a w :=
 wpList_plain hgd fun _ hK => zjB s x t ho base e z size bytes enc ht hi hzs hsz he h1 v l ys hs hown A m c hx hm hys hn hy hby hbase fun A' c' w' h2 h3 h4 => hK _ _ (h A' c' w' h2 h3 h4)
theorem zlO {α : Type} {P : Program} {w : World} {ops : Array Oper} {o : Oper} {a : Act} {K : Act → World → Prop} {Q : Exit → Act → World → Prop} {E : Prop} (hgd : o.guard = none) (s x : Operand) (t : TypeId)
  (ho : o.op = .call { callee := .builtin .append, args := #[s, x], argTypes := #[t, t] }) (base : Nat) (e : TypeId) (z : Value) (size bytes : Nat) (enc : α → List Value)
  (ht : P.underlying t = some (.slice e)) (hi : (P.info? e).map (fun i => (i.zero, i.size, i.bytes)) = some (some z, size, bytes)) (hzs : z.cells.size = size) (hsz : 0 < size) (he : ∀ x, (enc x).length = size) (h1 : ∀ x, ∀ u ∈ enc x, u.oneCell' = true)
  (v : Value) (l ys : List α) (hs : a.eval s = v) (hown : Row w base e size enc v l) (A : Option Addr) (m c : Nat) (hx : a.eval x = .slice A m c) (hm : m = ys.length) {B : Nat} (hys : SlOf w B size (Flat enc) A ys)
  (hn : l.length ≤ 1000000) (hy : ys.length ≤ 1000000) (hby : bytes ≤ 1000) (hbase : base ≤ w.heap.size)
  (h : ∀ A' c' w', Row w' base e size enc (.slice A' (l.length + m) c') (l ++ ys) → Below base w w' → w.grownBy w' v.ownBlock → K (a.put o.dst (.slice A' (l.length + m) c')) w') : if Region.wanted o (yielded ops a.tmps) = true then Oper.wp P o a w K Q else E := by
 have hw : Region.wanted o (yielded ops a.tmps) = true := by simp [Region.wanted, hgd]
 rw [if_pos hw];exact zjB s x t ho base e z size bytes enc ht hi hzs hsz he h1 v l ys hs hown A m c hx hm hys hn hy hby hbase h
theorem zjt (d x : Int) (fid : FuncId) (caps : Array Value) (w : World) (hd : za1 d = true) (hc : ∀ args w, (callFunc fid args).run Tryz.prog w = .ok (.enter fid args) w)
  (hf : ∀ W : World, Below w.heap.size w W → Calls Tryz.prog fid caps W fun e W' => e = .returned (.int .i64 x) ∧ W = W') :
  Calls Tryz.prog 109 #[.int .i64 d, .func (.func fid) #[] caps] w fun e w' => e = .returned (.tuple #[.int .i64 x, .int .i64 0]) ∧ Below w.heap.size w w' := by
 have Hf := zf hf;have Hd := zf hd;clear hf hd;go_enter Tryz.func109, Tryz.ntmps109;go_wp2_with fail;refine (zhx _ _).mono ?_; rintro e w1 ⟨rfl, hb⟩; rw [Hd.out];go_wp2_with fail;refine (Hf.out _ hb).mono ?_; rintro e w1 ⟨rfl, rfl⟩;go_wp2;go_ret2;exact ⟨rfl, hb⟩
def zjn (d : Int) : Int := (d + 1) / 2
theorem zoB (d : Int) (w : World) (g : Nat) (hd : za1 d = true) (h1 : w.cell? ⟨g, 0, none⟩ = some (.int .i64 d)) :
  Calls Tryz.prog 274 #[.pointer (some ⟨g, 0, none⟩)] w fun e w' => e = .returned (.int .i64 (zjn d)) ∧ w = w' := by
 have hr := zbN hd;clear hd;go_enter Tryz.func274, Tryz.ntmps274;go_wp2_with fail
 all_goals
  go_ret;exact ⟨zam (by unfold zjn; omega), rfl⟩
theorem zse (d : Int) (w : World) (hd : za1 d = true) :
  Calls Tryz.prog 236 #[.int .i64 d] w fun e w' => e = .returned (.tuple #[.int .i64 (zjn d), .int .i64 0]) ∧ Below w.heap.size w w' := by
 have Hd := zf hd;clear hd;go_enter Tryz.func236, Tryz.ntmps236;go_wp2_with fail;refine (zjt d (zjn d) _ _ _ Hd.out Tryz.call274 (fun W hb => zoB d W _ Hd.out (((Blk.new w 3 #[.int .i64 d]).keep hb).cell 0))).mono ?_;rintro e w1 ⟨rfl, hb⟩;go_wp2;go_ret2;exact ⟨rfl, zg (zk _ _) hb (ze _)⟩
def za4 (d : Int) : Int := if d ≤ 16 then 5 * d / 2 else 4 * d
theorem zrw (d : Int) (w : World) (g : Nat) (hd : za1 d = true) (h1 : w.cell? ⟨g, 0, none⟩ = some (.int .i64 d)) :
  Calls Tryz.prog 110 #[.pointer (some ⟨g, 0, none⟩)] w fun e w' => e = .returned (.int .i64 (za4 d)) ∧ w = w' := by
 have hr := zbN hd;clear hd;go_enter Tryz.func110, Tryz.ntmps110;go_wp2_with fail
 all_goals
  go_ret;exact ⟨zam (by unfold za4; split <;> omega), rfl⟩
theorem ztv (d : Int) (w : World) (hd : za1 d = true) :
  Calls Tryz.prog 52 #[.int .i64 d] w fun e w' => e = .returned (.tuple #[.int .i64 (za4 d), .int .i64 0]) ∧ Below w.heap.size w w' := by
 have Hd := zf hd;clear hd;go_enter Tryz.func52, Tryz.ntmps52;go_wp2_with fail;refine (zjt d (za4 d) _ _ _ Hd.out Tryz.call110 (fun W hb => zrw d W _ Hd.out (((Blk.new w 3 #[.int .i64 d]).keep hb).cell 0))).mono ?_;rintro e w1 ⟨rfl, hb⟩;go_wp2;go_ret2;exact ⟨rfl, zg (zk _ _) hb (ze _)⟩
def zt4 : Oper := ⟨none, .assign (.const undef), 0, "", #[], none⟩
def opK (ops : List Oper) (k : Nat) : Oper := ops.getD k zt4
def zfs (P : Program) (ops : List Oper) (Q : Exit → Act → World → Prop) (k : Nat) (a : Act) (w : World) : Prop := wpList P ops.toArray Q (ops.drop k) a w
def zeg (id : Nat) : Code → Option (List Oper)
 | .region i ops _ => if i = id then some ops.toList else none
 | .seq a b => match zeg id a with | some l => some l | none => zeg id b
 | .cond _ a b => match zeg id a with | some l => some l | none => zeg id b
 | .block _ c => zeg id c
 | .loop c => zeg id c
 | .scope c => zeg id c
 | _ => none
def zt3 (fn : Func) (id : Nat) : List Oper := match fn.body with | some c => (zeg id c).getD [] | none => []
section
variable {P : Program} {ops : List Oper} {Q : Exit → Act → World → Prop} {a : Act} {w : World}
theorem zlM {id : Nat} {l : List Oper} (ops : List Oper) (he : l = ops) (h : zfs P ops Q 0 a w) : (Code.region id l.toArray false).wp P Q a w := by
 subst he;exact wp_region_lit h
theorem zlJ {k : Nat} (hk : decide (k < ops.length) = true) : ops.drop k = opK ops k :: ops.drop (k + 1) := by
 have hk := of_decide_eq_true hk;rw [opK, zY, zi hk];exact List.drop_eq_getElem_cons hk
theorem zrR (k : Nat) (v : Value) (hk : decide (k < ops.length) = true) (hw : Region.wanted (opK ops k) (yielded ops.toArray a.tmps) = true) (hr : (execOp a.eval (opK ops k)).run P w = .ok (.value v) w) (next : zfs P ops Q (k + 1) (a.put (opK ops k).dst v) w) : zfs P ops Q k a w := by
 unfold zfs;rw [zlJ hk, wpList, if_pos hw];refine .inl ?_;unfold Oper.wp;rw [hr];exact next
theorem ztx (k : Nat) (f : FuncId) (args : Array Value) {R : Ending → World → Prop} (hk : decide (k < ops.length) = true) (hw : Region.wanted (opK ops k) (yielded ops.toArray a.tmps) = true) (hr : (execOp a.eval (opK ops k)).run P w = .ok (.enter f args) w) (hc : Calls P f args w R) (next : ∀ e w2, R e w2 → ∃ v, e = .returned v ∧ zfs P ops Q (k + 1) (a.put (opK ops k).dst v) w2) : zfs P ops Q k a w := by
 unfold zfs;rw [zlJ hk, wpList, if_pos hw];refine .inl ?_;unfold Oper.wp;rw [hr];refine hc.mono fun e w2 hR => ?_;obtain ⟨v, rfl, hn⟩ := next e w2 hR;exact hn
theorem ztT (k : Nat) (hk : decide (ops.length ≤ k) = true) (hq : Q .normal a w) : zfs P ops Q k a w := by
 unfold zfs;rw [List.drop_of_length_le (of_decide_eq_true hk)];exact hq
theorem zfh {w : World} {b c : Bool} {r : Result Next} (h : r = .ok (.value (.bool b)) w) (hb : b = c) : r = .ok (.value (.bool c)) w := by rw [h, hb]
theorem zaD {o : Oper} {ρ : Operand → Value} (t : TypeId) (x : Operand) (p : Addr) (v : Value) (hop : o.op = .load t x) (hx : ρ x = .pointer (some p)) (hc : w.cell? p = some v) (hs : ∀ w : World, (isAgg t).run P w = .ok false w) : (execOp ρ o).run P w = .ok (.value v) w := by
 unfold execOp;simp [hop, hx, go_sem, hs, hc]
theorem zhF {o : Oper} {ρ : Operand → Value} (t : TypeId) (x : Operand) (p : Addr) (cs : List Value) (hop : o.op = .load t x) (hx : ρ x = .pointer (some p)) (hc : ∀ j v, cs[j]? = some v → w.cell? (p.add j) = some v) (hs : ∀ w : World, (isAgg t).run P w = .ok true w) (hz : ∀ w : World, (sizeOf t).run P w = .ok cs.length w) : (execOp ρ o).run P w = .ok (.value (.agg cs.toArray)) w := by
 have hl := run_loadCells_list (P := P) w p cs hc;unfold loadCells at hl;unfold execOp;simp [hop, hx, go_sem, hs, hz, hl]
theorem zqj {o : Oper} {ρ : Operand → Value} (op : BinOp) (t u : TypeId) (x y : Operand) (vx vy v : Value) (hop : o.op = .binOp op t x y u) (hx : ρ x = vx) (hy : ρ y = vy) (he : (eqGuard op t x y vx vy).run P w = .ok () w) (hb : (binOp op t vx vy).run P w = .ok v w) : (execOp ρ o).run P w = .ok (.value v) w := by
 unfold execOp;simp only [hop, hx, hy, Sem.run_bind, he, hb, Result.andThen_ok, Sem.run_pure]
def frm (base : List Value) (n : Nat) (vs : List Value) : Act := ⟨(base ++ (vs.reverse ++ List.replicate (n - base.length - vs.length) undef)).toArray, []⟩
theorem zjb (base : List Value) (n : Nat) (vs : List Value) (v : Value) (h : base.length + vs.length < n) : (frm base n vs).put (some (base.length + vs.length)) v = frm base n (v :: vs) := by
 obtain ⟨m, hm⟩ : ∃ m, n - base.length - vs.length = m + 1 := ⟨n - base.length - vs.length - 1, by omega⟩;have hm2 : n - base.length - (v :: vs).length = m := by rw [zac]; omega
 simp only [frm, Act.put, hm, hm2, zzD]
 congr 2
 rw [List.set_append_right _ _ (by omega), Nat.add_sub_cancel_left, List.set_append_right _ _ (by rw [List.length_reverse]; exact ze _), List.length_reverse, Nat.sub_self, List.replicate_succ, zzE, List.reverse_cons, zaI]
 rfl
variable {base vs : List Value} {n : Nat}
theorem zS (k : Nat) (v : Value) (hk : decide (k < ops.length) = true) (hw : Region.wanted (opK ops k) (yielded ops.toArray (frm base n vs).tmps) = true) (hd : (opK ops k).dst = some (base.length + vs.length)) (hl : decide (base.length + vs.length < n) = true) (hr : (execOp (frm base n vs).eval (opK ops k)).run P w = .ok (.value v) w) (next : zfs P ops Q (k + 1) (frm base n (v :: vs)) w) : zfs P ops Q k (frm base n vs) w := by
 refine zrR k v hk hw hr ?_;rw [hd, zjb base n vs v (of_decide_eq_true hl)];exact next
theorem zfJ (k : Nat) (f : FuncId) (args : Array Value) {R : Ending → World → Prop} (hk : decide (k < ops.length) = true) (hw : Region.wanted (opK ops k) (yielded ops.toArray (frm base n vs).tmps) = true) (hd : (opK ops k).dst = some (base.length + vs.length)) (hl : decide (base.length + vs.length < n) = true) (hr : (execOp (frm base n vs).eval (opK ops k)).run P w = .ok (.enter f args) w) (hc : Calls P f args w R) (next : ∀ e w2, R e w2 → ∃ v, e = .returned v ∧ zfs P ops Q (k + 1) (frm base n (v :: vs)) w2) : zfs P ops Q k (frm base n vs) w := by
 refine ztx k f args hk hw hr hc fun e w2 hR => ?_;obtain ⟨v, he, hn⟩ := next e w2 hR;refine ⟨v, he, ?_⟩;rw [hd, zjb base n vs v (of_decide_eq_true hl)];exact hn
def zjh (ops : Array Oper) (base : List Value) (n : Nat) : List Oper → List Value → Option (List Value)
 | [], vs => some vs
 | o :: r, vs =>
  match o.dst with
  | none => none
  | some d =>
   if d = base.length + vs.length ∧ base.length + vs.length < n then
    if Region.wanted o (yielded ops (frm base n vs).tmps) then
     match zgz (frm base n vs) o with
     | some v => zjh ops base n r (v :: vs)
     | none => none
    else zjh ops base n r (undef :: vs)
   else none
theorem zs7 {l2 : List Oper} : ∀ (l : List Oper) (vs vs' : List Value), zjh ops.toArray base n l vs = some vs' → wpList P ops.toArray Q l2 (frm base n vs') w → wpList P ops.toArray Q (l ++ l2) (frm base n vs) w := by
 intro l
 induction l with
 | nil =>
  intro vs vs' h hq;injection h with h
  subst h;exact hq
 | cons o r ih =>
  intro vs vs' h hq;rw [zjh] at h;cases hd : o.dst with
  | none => rw [hd] at h; cases h
  | some d =>
   rw [hd] at h;simp only at h;by_cases hc : d = base.length + vs.length ∧ base.length + vs.length < n
   ·rw [if_pos hc] at h;obtain ⟨rfl, hl⟩ := hc;rw [List.cons_append];unfold wpList;by_cases hw : Region.wanted o (yielded ops.toArray (frm base n vs).tmps) = true
    ·rw [if_pos hw] at h ⊢;cases hv : zgz (frm base n vs) o with
     | none => rw [hv] at h; cases h
     | some v =>
      rw [hv] at h;refine .inl (zmJ hv ?_);rw [hd, zjb base n vs v hl];exact ih _ _ h hq
    ·rw [if_neg hw] at h ⊢;rw [hd, zjb base n vs undef hl];exact ih _ _ h hq
   ·rw [if_neg hc] at h;cases h
theorem zsU (k m : Nat) (vs' : List Value) (hm : decide (k ≤ m) = true) (h : zjh ops.toArray base n ((ops.drop k).take (m - k)) vs = some vs') (next : zfs P ops Q m (frm base n vs') w) : zfs P ops Q k (frm base n vs) w := by
 have hm := of_decide_eq_true hm;unfold zfs at next ⊢;have e : ops.drop k = (ops.drop k).take (m - k) ++ ops.drop m := by
  conv => lhs; rw [← List.take_append_drop (m - k) (ops.drop k)]
  rw [List.drop_drop]
  congr 2
  omega
 rw [e];exact zs7 _ _ _ h next
theorem zsB (h : base.length + vs.length ≤ n) : (frm base n vs).tmps.size = n := by
 simp [frm];omega
theorem zcn (k m r : Nat) (v : Value) (hm : decide (k ≤ m) = true) (hmk : decide (m + 1 = ops.length) = true)
  (h : (zjh ops.toArray base n ((ops.drop k).take (m - k)) vs).map (fun vs' => (zgz (frm base n vs') (opK ops m), decide (base.length + vs'.length ≤ n))) = some (some v, true)) (hg : (opK ops m).guard = none) (hd : (opK ops m).dst = some r) (hr : decide (r < n) = true)
  (hq : ∀ a' : Act, a'.tmps.getD r undef = v → a'.defers = [] → Q .normal a' w) : zfs P ops Q k (frm base n vs) w := by
 cases ht : zjh ops.toArray base n ((ops.drop k).take (m - k)) vs with
 | none => rw [ht] at h; cases h
 | some vs' =>
  rw [ht] at h;injection h with h
  injection h with h1 h2
  have h2 := of_decide_eq_true h2;have hr := of_decide_eq_true hr;have hmk := of_decide_eq_true hmk;refine zsU k m vs' hm ht ?_;unfold zfs;rw [zlJ (by rw [zzJ]; omega), wpList, if_pos (by simp [Region.wanted, hg])];refine .inl (zmJ h1 ?_);rw [List.drop_of_length_le (by omega)];refine hq _ ?_ (by rw [hd]; rfl);rw [hd];simp only [Act.put];have hs := zsB h2;simp [Array.getD, hs, hr]
theorem zsV {a' : Act} {k : Nat} (h : a' = a) (hn : zfs P ops Q k a' w) : zfs P ops Q k a w := h ▸ hn
end
theorem zg4 (c : Int) (w : World) :
  Calls Tryz.prog 138 #[.int .u8 c] w fun e w' => e = .returned (.bool (zej c)) ∧ w = w' := by
 go_enter Tryz.func138, Tryz.ntmps138;go_wp2
 all_goals
  go_ret;exact ⟨zo (by rw [Bool.eq_iff_iff]; simp [zej]; omega), rfl⟩
theorem zl7 (c : Int) (w : World) :
  Calls Tryz.prog 202 #[.int .u8 c] w fun e w' => e = .returned (.bool (zhw c)) ∧ w = w' := by
 go_enter Tryz.func202, Tryz.ntmps202;go_wp2
 all_goals
  go_ret;exact ⟨zo (by rw [Bool.eq_iff_iff]; simp [zhw]; try omega), rfl⟩
theorem zng (s : ByteArray) (i : Nat) (w : World) (hs : s.size ≤ maxLen) (hi : i ≤ s.size) :
    Calls Tryz.prog 139 #[.string s, .int .i64 i] w fun e w' => e = .returned (.int .i64 (i + zcU (s.data.toList.drop i) : Nat)) ∧ w = w' := by
  unfold maxLen at hs;go_enter Tryz.func139, Tryz.ntmps139;go_wp2;go_loop [1] (fun j => ∃ k : Nat, k ≤ s.size ∧ j = .int .i64 k ∧ Hid (k + zcU (s.data.toList.drop k) = i + zcU (s.data.toList.drop i))) (fun j => s.size - (intOf j).toNat)
  case atStart => exact ⟨i, hi, rfl, zf rfl⟩
  case round =>
    obtain ⟨k, hk, rfl, hw⟩ := hrel;by_cases hlt : k < s.size
    · have hd := zf (zpS s k hlt)
      go_wp2_with (first | (go_at_call 138; refine (zg4 _ _).mono ?_; rintro e w' ⟨rfl, rfl⟩) | (go_at_call 202; refine (zl7 _ _).mono ?_; rintro e w' ⟨rfl, rfl⟩))
      all_goals first
        | (go_ret
           exact ⟨zam (by have h1 := hw.out; rw [hd.out, zeM, if_neg (by simp_all [zia])] at h1; omega), rfl⟩)
        | (go_round
           case rel => exact ⟨k + 1, by omega, by go_num, zf (by have h1 := hw.out; rw [hd.out, zeM, if_pos (by simp_all [zia])] at h1; omega)⟩
           case measure => simp [intOf]; omega)
    · go_wp2
      go_ret;exact ⟨zam (by have h1 := hw.out; rw [List.drop_eq_nil_of_le (by simp; omega)] at h1; simp [zcU] at h1 ⊢; omega), rfl⟩
theorem zlY (s : ByteArray) (w : World) (hs : s.size ≤ maxLen) :
  Calls Tryz.prog 139 #[.string s, .int .i64 0] w fun e w' => e = .returned (.int .i64 (zcU s.data.toList)) ∧ w = w' := by
 have h := zng s 0 w hs (zu _)
 simpa using h
theorem zfB (s : ByteArray) (w : World) (hs : s.size ≤ maxLen) :
    Calls Tryz.prog 85 #[.string s] w fun e w' => e = .returned (.bool (zb8 s)) ∧ w = w' := by
  by_cases h0 : s.size = 0
  · have hn := zf (show zb8 s = false by simp [zb8, h0])
    have he : ((s.size : Int) == 0) = true := by simp [h0]
    clear hs h0;go_enter Tryz.func85, Tryz.ntmps85;go_wp2;go_ret;exact ⟨zo (by rw [hn.out]), rfl⟩
  · obtain ⟨c, r, hl⟩ : ∃ c r, s.data.toList = c :: r := by
      cases h : s.data.toList with
      | nil => exfalso; have : s.data.toList.length = s.size := by simp
               rw [h] at this; simp at this; omega
      | cons c r => exact ⟨c, r, rfl⟩
    have hn := zf (ziR hl);have hp : 0 < s.size := by omega
    have hc : s[0]'hp = c := by
      have : s.data.toList[0]? = some c := by rw [hl]; rfl
      have h2 : s.data.toList[0]? = some (s[0]'hp) := zi (by simp; omega);rw [h2] at this; injection this
    have he : ((s.size : Int) == 0) = false := beq_eq_false_iff_ne.2 (by omega);have HC := zf hc;have HL := zf hl;clear h0 hc hl;go_enter Tryz.func85, Tryz.ntmps85;go_wp2_with (first | (go_at_call 138; refine (zg4 _ _).mono ?_; rintro e w' ⟨rfl, rfl⟩) | (go_at_call 139; refine (zlY s _ hs).mono ?_; rintro e w' ⟨rfl, rfl⟩))
    all_goals
      go_ret;refine ⟨zo ?_, rfl⟩;rw [hn.out, ← HL.out, ← HC.out, Bool.eq_iff_iff]
      simp_all
      all_goals first
        | omega
        | (intro h1 h2
           exfalso;have h3 : 20 < (s.size : Int) ∨ zej (s[0].toNat : Int) = false := by assumption
           rcases h3 with h3 | h3
           · omega
           · rw [h2] at h3; cases h3)
theorem zl2 (w : World) :
  Calls Tryz.prog 257 #[] w fun e w' => ∃ A, e = .returned (.slice A 9 9) ∧ Ints w' w'.heap.size A zb3 ∧ Below w.heap.size w w' := by
 go_enter Tryz.func257, Tryz.ntmps257;go_wp2;go_ret;exact ⟨_, rfl, SlOf.lit zbq _ _ _ _ rfl (by simp), zk _ _⟩
theorem zni (d : Int) (w : World) :
  Calls Tryz.prog 203 #[.int .i64 d] w fun e w' => e = .returned (.bool (za1 d)) ∧ Below w.heap.size w w' := by
 go_enter Tryz.func203, Tryz.ntmps203;go_wp2_with fail;refine (zl2 _).mono ?_;rintro e w1 ⟨S, rfl, hS, hb1⟩;go_wp2;go_loop [4] (fun i => ∃ k : Nat, k ≤ 9 ∧ i = .int .i64 k ∧ NoneTo (fun y => y == d) zb3 k) (fun i => 9 - (intOf i).toNat)
 case atStart => exact ⟨0, zu _, rfl, NoneTo.zero _ _⟩
 case round =>
  obtain ⟨k, hk, rfl, hn⟩ := hrel;by_cases hlt : k < 9
  ·obtain ⟨b, off, y, rfl, hbl, hy, hc⟩ := hS.get (k := k) hlt;have Hy := zf hy;have Hb1 := zf hb1;clear hy hbl hS hb1;go_wp2_with fail
   ·go_ret;refine ⟨zo ?_, Hb1.out⟩;have h1 : (y == d) = true := by assumption
    have := zv Hy.out;have h2 : y = d := by simpa using h1
    rw [za1, has]; simp; rw [← h2]; exact this
   ·go_round
    case rel => exact ⟨k + 1, by omega, by go_num, hn.succ Hy.out (by assumption)⟩
    case measure => simp [intOf]; omega
  ·obtain rfl : k = 9 := by omega
   go_wp2;go_ret;refine ⟨zo ?_, hb1⟩;have h1 := NoneTo.miss (p := fun y => y == d) (l := zb3) hn;have h2 := zfj (fun y => y == d) zb3;rw [h1] at h2;rw [za1, has];simp at h2 ⊢;exact fun h => h2 _ h rfl
def zi9 (code : Int) : Int := if code = 0 then 1 else if code = 11 then 2 else if code = 21 ∨ code = 26 ∨ code = 31 ∨ code = 51 ∨ code = 98 then 3 else if code = 41 then 5 else 0
theorem zjJ (code : Int) : zi9 code = zcq code := by
 unfold zi9;by_cases h0 : code = 0
 ·subst h0; rfl
 by_cases h1 : code = 11
 ·subst h1; rfl
 by_cases h2 : code = 21
 ·subst h2; rfl
 by_cases h3 : code = 26
 ·subst h3; rfl
 by_cases h4 : code = 31
 ·subst h4; rfl
 by_cases h5 : code = 51
 ·subst h5; rfl
 by_cases h6 : code = 98
 ·subst h6; rfl
 by_cases h7 : code = 41
 ·subst h7; rfl
 simp [h0, h1, h2, h3, h4, h5, h6, h7, zcq, zbb]
theorem zdc (code : Int) (w : World) :
  Calls Tryz.prog 204 #[.int .i64 code] w fun e w' => e = .returned (.int .i64 (zcq code)) ∧ w = w' := by
 rw [← zjJ];go_enter Tryz.func204, Tryz.ntmps204;go_wp2_with fail
 all_goals
  go_ret;exact ⟨zam (by unfold zi9; simp_all), rfl⟩
end Go.Proofs.YtpaanfjjnjjoeaaGreat
