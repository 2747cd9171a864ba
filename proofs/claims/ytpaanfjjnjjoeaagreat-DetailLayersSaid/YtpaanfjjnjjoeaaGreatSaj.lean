/- A detail as an argument, in memory. -/
import Derived.Test.YtpaanfjjnjjoeaaGreatSai
import Derived.Maps.OwnSet
set_option maxHeartbeats 8000000
set_option maxRecDepth 100000
namespace Go.Proofs.YtpaanfjjnjjoeaaGreat
open Go.RowKit
structure DetS where
 a1 : Option Addr
 n1 : Nat
 c1 : Nat
 a2 : Option Addr
 n2 : Nat
 c2 : Nat
 a3 : Option Addr
 n3 : Nat
 c3 : Nat
 a4 : Option Addr
 n4 : Nat
 c4 : Nat
 a5 : Option Addr
 n5 : Nat
 c5 : Nat
 a6 : Option Addr
 n6 : Nat
 c6 : Nat
abbrev zp (m : MemD) (r : RuleD) (s : DetS) : Array Value :=
  #[.string m.name, .slice s.a1 s.n1 s.c1, .slice s.a2 s.n2 s.c2, .int .i64 m.cover, .int .i64 m.aggregate, .int .i64 m.poker, .slice s.a3 s.n3 s.c3, .slice s.a4 s.n4 s.c4, .slice s.a5 s.n5 s.c5, .slice s.a6 s.n6 s.c6,
    .int .i64 r.num, .int .i64 r.den, .int .i64 r.poorNum, .int .i64 r.poorDen, .int .i64 r.bendNum, .int .i64 r.bendDen, .int .i64 r.lapNum, .int .i64 r.lapDen, .int .i64 r.least]
abbrev zcZ (x : DetD) (s : DetS) : Value := .agg (zp x.mem x.rule s)
structure DetAt (w : World) (B : Nat) (x : DetD) (s : DetS) : Prop where
 h1 : BoxesAt w B s.a1 x.mem.boxes
 h2 : BoxesAt w B s.a2 x.mem.holes
 h3 : BarsAt w B s.a3 x.bars
 h4 : RunsAt w B s.a4 x.runs
 h5 : JoinsAt w B s.a5 x.laps
 h6 : DemsAt w B s.a6 x.dems
theorem DetAt.carry {w w' : World} {B B' : Nat} {x : DetD} {s : DetS} (h : DetAt w B x s) (hb : Below B w w') (hB : B ≤ B') : DetAt w' B' x s :=
 ⟨h.h1.carry (Flat.carried _) hb hB, h.h2.carry (Flat.carried _) hb hB, h.h3.carry hb hB, h.h4.carry (Flat.carried _) hb hB, h.h5.carry (Flat.carried _) hb hB, SlOf.carry zba h.h6 hb hB⟩
structure DetFit (x : DetD) (s : DetS) : Prop where
 l1 : s.n1 = x.mem.boxes.length
 l2 : s.n2 = x.mem.holes.length
 l3 : s.n3 = x.bars.length
 l4 : s.n4 = x.runs.length
 l5 : s.n5 = x.laps.length
 l6 : s.n6 = x.dems.length
 m3 : s.n3 ≤ 60000
 m4 : s.n4 ≤ 60000
 m5 : s.n5 ≤ 60000
 m6 : s.n6 ≤ 60000
 k6 : s.n6 ≤ s.c6
 name : x.mem.name.size ≤ maxLen
 tame : zer x.bars
 dems : zpV x.dems
theorem zi8 {α : Type} {w : World} {base size : Nat} {e : TypeId} {enc : α → List Value} {A : Option Addr} {n c : Nat} {l : List α} (h : Row w base e size enc (.slice A n c) l) (hl : 0 < l.length) :
  ∃ g cs, A = some ⟨g, 0, none⟩ ∧ base ≤ g ∧ Blk w g e cs ∧ ∀ (j : Nat) (u : Value), (l.flatMap enc)[j]? = some u → cs[j]? = some u := by
 rcases h.2 with ⟨_, hn⟩ | ⟨g, cap, cur, hv, hb, hh, _, _, _, ht⟩
 ·omega
 ·injection hv with hA _ _
  refine ⟨g, cur, hA, hb, hh, fun j u hu => ?_⟩;rw [← ht, List.getElem?_take] at hu
  split at hu
  ·simpa using hu
  ·cases hu
theorem zhc {α : Type} {w : World} {g B size : Nat} {e : TypeId} {enc : α → List Value} {cs : Array Value} {l : List α} (he : ∀ x, (enc x).length = size) (h : Blk w g e cs) (hc : ∀ (j : Nat) (u : Value), (l.flatMap enc)[j]? = some u → cs[j]? = some u) (hg : g < B) : SlOf w B size (Flat enc) (some ⟨g, 0, none⟩) l :=
 SlOf.of_row (xs := l.flatMap enc) hg (fun j u hu => by rw [h.cell]; exact hc j u hu) (fun k x hx => ⟨enc x, he x, rfl, fun j v hj => zcd he l k x hx j v hj⟩)
theorem zkV {bars : List BarD} {r : RunD} (h : zaC bars r = true) {k : Int} (h0 : 0 ≤ k) (h1 : k < r.count) : zJ 1099511627776 (zbe k r.step) = true := by
 have hc := zaw h;simp only [zaC, zds, zm, Bool.or_eq_true, zzJ] at h;rcases h.1.1.2 with h9 | h9
 ·obtain rfl : k = 0 := by omega
  simp [zbe, zJ, within]
 ·exact zkR h9.2 h0 (by omega)
end Go.Proofs.YtpaanfjjnjjoeaaGreat
namespace Go.Proofs.YtpaanfjjnjjoeaaGreat
open Go.RowKit Go.Maps
theorem SMap.drop {w : World} {b n : Nat} {f : ByteArray → Int} (h : SMap w b n f) {s : ByteArray} (hs : s.size ≤ maxLen) (ty : TypeId) :
  ∃ w', (Builtin.delete_ #[109, 9] ty #[.map (some b), .string s]).run Tryz.prog w = .ok (.tuple #[]) w' ∧ SMap w' b n (zeZ f s 0) ∧ w.grownBy w' (some b) := by
 obtain ⟨D, hm, ho, ha⟩ := h;obtain ⟨w', hrun, ho', hg⟩ := ho.drop zjx Tryz.underlying109 (WideMaps.keyOf_string_mk Tryz.underlying9 hs) ty;refine ⟨w', hrun, ⟨D.del (zmy s), ?_, ho', fun t ht => ?_⟩, hg.grown⟩
 ·obtain ⟨es, rfl⟩ := hm;exact ⟨_, rfl⟩
 ·unfold zeZ;by_cases hst : t = s
  ·subst hst;rw [if_pos rfl];exact atKey_del_same _
  ·rw [if_neg hst, ← ha t ht];exact atKey_del_other (fun he => hst (zmG he)) _
theorem ziq {w : World} {ops : Array Oper} {rest : List Oper} {o : Oper} {a : Act} {Q : Exit → Act → World → Prop} (hg : o.guard = none) (m x : Operand) (hop : o.op = Op.call { callee := Callee.builtin Builtin.delete, args := #[m, x], argTypes := #[109, 9] })
  (b n : Nat) (f : ByteArray → Int) (hm : a.eval m = .map (some b)) (hown : SMap w b n f) (s : ByteArray) (hx : a.eval x = .string s) (hs : s.size ≤ maxLen)
  (hK : ∀ w', SMap w' b n (zeZ f s 0) → w.grownBy w' (some b) → wpList Tryz.prog ops Q rest (a.put o.dst (.tuple #[])) w') : wpList Tryz.prog ops Q (o :: rest) a w := by
 refine wpList_plain hg fun K' hK' => ?_;obtain ⟨w', hrun, r1, r2⟩ := hown.drop hs o.type;unfold Oper.wp;simp [execOp, hop, resolve, invoke, builtin, hm, hx, hrun, Result.andThen];exact hK' _ _ (hK w' r1 r2)
end Go.Proofs.YtpaanfjjnjjoeaaGreat
namespace Go.Proofs.YtpaanfjjnjjoeaaGreat
open Go.RowKit
def zp1 (e : Ending) (p : Prop) : Prop := ∃ t : Bool, e = .returned (.bool t) ∧ (t = true → p)
theorem zqe (m : ByteArray) (a b d : Int) (A : Option Addr) (n c : Nat) (w : World) :
  Calls Tryz.prog 84 #[.agg #[.string m, .int .i64 a, .int .i64 b, .int .i64 d, .slice A n c]] w fun e w' => zp1 e (n ≤ 8 ∧ m.size ≤ 60) ∧ Below w.heap.size w w' := by
 have kB := zf (Blk.new w 50 #[.string m, .int .i64 a, .int .i64 b, .int .i64 d, .slice A n c]);have hW := zf (zk w (.cells #[.string m, .int .i64 a, .int .i64 b, .int .i64 d, .slice A n c] 50));have d1 : decide ((n : Int) ≤ 8) = decide (n ≤ 8) := by congr 1; simp; omega
 have d2 : decide ((m.size : Int) ≤ 60) = decide (m.size ≤ 60) := by congr 1; simp; omega
 go_enter Tryz.func84, Tryz.ntmps84;go_wp2_with fail
 all_goals go_ret
 all_goals exact ⟨⟨_, rfl, fun h => by simp at h <;> omega⟩, hW.out⟩
theorem zna (A1 A2 : Option Addr) (n1 c1 n2 c2 : Nat) (w : World) :
  Calls Tryz.prog 36 #[.agg #[.slice A1 n1 c1, .slice A2 n2 c2], .int .i64 4] w fun e w' => zp1 e (n1 ≤ 25 ∧ n2 ≤ 25) ∧ Below w.heap.size w w' := by
 have kB := zf (Blk.new w 24 #[.slice A1 n1 c1, .slice A2 n2 c2]);have hW := zf (zk w (.cells #[.slice A1 n1 c1, .slice A2 n2 c2] 24));go_enter Tryz.func36, Tryz.ntmps36;go_wp2_with fail;go_region
 all_goals (go_wp2_with fail)
 all_goals go_ret
 all_goals exact ⟨⟨_, rfl, fun h => by simp at h <;> omega⟩, hW.out.drew⟩
theorem ziX (A : Option Addr) (l : List RunD) (n c : Nat) (w : World) {B : Nat} (h : RunsAt w B A l) (hB : B ≤ w.heap.size) (hn : n = l.length) (hm : n ≤ 60) (hok : ∀ r ∈ l, 1 ≤ r.count ∧ r.count ≤ 1000) :
  Calls Tryz.prog 81 #[.slice A n c] w fun e w' => e = .returned (.int .i64 (zD l)) ∧ Below w.heap.size w w' := by
 have H2 := zf h;have hn2' := zf hn;have Hc := zf hok;have Hrg := zf (fun (k : Nat) => zdu (l.take k) (fun r hr => hok r (List.mem_of_mem_take hr)));clear h hok hn;go_enter Tryz.func81, Tryz.ntmps81;go_wp2;go_loopw [3, 4] (fun v i wr => ∃ k : Nat, k ≤ n ∧ i = .int .i64 k ∧ (∃ t : Int, v = .int .i64 t ∧ Hid (t = zD (l.take k))) ∧ Below w.heap.size w wr) (fun _ i _ => n - (intOf i).toNat)
 case atStart => exact ⟨0, zu _, rfl, ⟨0, rfl, zf rfl⟩, Below.refl _ _⟩
 case round =>
  obtain ⟨k, hk, rfl, ⟨t, rfl, ht⟩, hbr⟩ := hrel;have hrg := Hrg.out k;rw [← ht.out, zG] at hrg;by_cases hlt : k < n
  ·obtain ⟨b, off, r, rfl, hbl, hx, hc⟩ := RunsAt.get (k := k) (H2.out.carry (Flat.carried _) (hbr.mono hB) (ze _)) (by rw [← hn2'.out]; exact hlt);obtain ⟨hc0, hc1⟩ := Hc.out r (zv hx);have Hn := zf (show zD (l.take (k + 1)) = t + r.count by rw [zQ hx, zcz, ht.out]);obtain ⟨mark, tx, ty, ⟨a1, a2, a3⟩, ⟨s1, s2, s3⟩, cnt⟩ := r;have p9 := hc 9 _ rfl;simp only at p9 hc0 hc1 Hn;clear hx hbl hc;go_wp2;go_roundw
   case rel => exact ⟨k + 1, by omega, by go_num, ⟨t + cnt, rfl, zf Hn.out.symm⟩, hbr⟩
   case measure => simp [intOf]; omega
  ·obtain rfl : k = n := by omega
   have hf := zf (show t = zD l by rw [ht.out, hn2'.out, zF]);go_wp2;go_ret;exact ⟨by rw [← hf.out]; rfl, hbr⟩
theorem zm9 (A : Option Addr) (l : List DemD) (n c : Nat) (w : World) {B : Nat} (h : DemsAt w B A l) (hB : B ≤ w.heap.size) (hn : n = l.length) :
    Calls Tryz.prog 38 #[.slice A n c, .int .i64 4] w fun e w' => zp1 e (n ≤ 25 ∧ ∀ d ∈ l, d.name.size ≤ 60 ∧ d.steps.length ≤ 205) ∧ Below w.heap.size w w' := by
  have hn' := zf hn;have Hs := zf h;clear hn h;by_cases hcut : n ≤ 4 ∨ (20 < n ∧ n ≤ 25)
  case neg =>
    have d1 : (decide (4 < (n : Int)) && decide ((n : Int) ≤ 20) || decide (25 < (n : Int))) = true := by
      simp only [Bool.or_eq_true, zm, zzJ]; omega
    go_enter Tryz.func38, Tryz.ntmps38;go_wp2_with fail
    all_goals go_ret
    all_goals exact ⟨⟨_, rfl, fun h => by simp at h <;> omega⟩, Below.refl _ _⟩
  case pos =>
    have hn25 : n ≤ 25 := by omega
    clear hcut;go_enter Tryz.func38, Tryz.ntmps38;go_wp2_with fail
    any_goals (
      go_loopw [5] (fun i wr => ∃ k : Nat, k ≤ n ∧ i = .int .i64 k ∧ Hid (∀ d ∈ l.take k, d.name.size ≤ 60 ∧ d.steps.length ≤ 205) ∧ Below w.heap.size w wr) (fun i _ => n - (intOf i).toNat)
      case atStart => exact ⟨0, zu _, rfl, zf (by simp), Below.refl _ _⟩
      case round =>
        obtain ⟨k, hk, rfl, hq, hbr⟩ := hrel;by_cases hlt : k < n
        · have HR := zf (Hs.out.carry zba (hbr.mono hB) (ze B))
          obtain ⟨b, off, x, A', c', rfl, hbl, hx, hi, hcells⟩ := DemsAt.get (k := k) HR.out (by rw [← hn'.out]; exact hlt);have h0 := hcells 0 _ rfl;have h7 := hcells 7 _ rfl;rw [Nat.add_zero] at h0;have Hnext := fun (hx1 : x.name.size ≤ 60) (hx2 : x.steps.length ≤ 205) => (show ∀ d ∈ l.take (k + 1), d.name.size ≤ 60 ∧ d.steps.length ≤ 205 by
            rw [zQ hx];intro d hd;rcases List.mem_append.1 hd with h | h
            · exact hq.out d h
            · obtain rfl := List.mem_singleton.1 h; exact ⟨hx1, hx2⟩)
          have Hnext := zf Hnext;clear hx hi hcells hbl hq;obtain ⟨name, zone, steps⟩ := x;simp only [] at h0 h7 Hnext;generalize steps.length = sl at *;go_wp2_with fail
          all_goals first
            | (go_roundw
               case rel => exact ⟨k + 1, by omega, by go_num, zf (Hnext.out (by omega) (by omega)), hbr⟩
               case measure => simp [intOf]; omega)
            | (go_ret
               exact ⟨⟨false, rfl, fun h => by cases h⟩, hbr⟩)
        · obtain rfl : k = n := by omega
          have hfull := zf (show ∀ d ∈ l, d.name.size ≤ 60 ∧ d.steps.length ≤ 205 by have := hq.out; rwa [hn'.out, zF] at this);go_wp2;go_ret
          first
            | exact ⟨⟨true, rfl, fun _ => hfull.out⟩, hbr⟩
            | exact ⟨⟨true, rfl, fun _ => ⟨by omega, hfull.out⟩⟩, hbr⟩)
    all_goals go_ret
    all_goals exact ⟨⟨false, rfl, fun h => by cases h⟩, Below.refl _ _⟩
theorem znb (A : Option Addr) (l : List BarD) (n c : Nat) (A2 : Option Addr) (l2 : List RunD) (n2 c2 : Nat) (w : World) {B : Nat} (h : BarsAt w B A l) (h2 : RunsAt w B A2 l2) (hB : B ≤ w.heap.size) (hn : n = l.length) (hn2 : n2 = l2.length) :
    Calls Tryz.prog 37 #[.slice A n c, .slice A2 n2 c2, .int .i64 6, .int .i64 16] w fun e w' => zp1 e (n ≤ 63 ∧ n2 ≤ 63 ∧ zer l) ∧ Below w.heap.size w w' := by
  have hn' := zf hn;have hn2' := zf hn2;have Hs := zf h;have H2 := zf h2;clear hn hn2 h h2;go_enter Tryz.func37, Tryz.ntmps37;go_upto_region 1 with fail
  go_cut [41] from 12 (fun v W => (∃ t : Bool, v = .bool t ∧ Hid (t = false → n ≤ 63 ∧ n2 ≤ 63)) ∧ Below w.heap.size w W)
  case first =>
    go_wp2_with fail
    all_goals go_meet
    all_goals exact ⟨⟨_, rfl, zf (fun h => by simp at h <;> omega)⟩, Below.refl _ _⟩
  case rest =>
    obtain ⟨⟨t, rfl, ht⟩, hb⟩ := hcut;cases t
    case true =>
      go_wp2;go_ret;exact ⟨⟨false, rfl, fun h => by cases h⟩, hb⟩
    case false =>
      obtain ⟨h63, h263⟩ := ht.out rfl;clear ht;have hb0 := zf hb;clear hb;go_wp2;go_loopw [9] (fun i wr => ∃ k : Nat, k ≤ n ∧ i = .int .i64 k ∧ Hid (zer (l.take k)) ∧ Below w.heap.size w wr) (fun i _ => n - (intOf i).toNat)
      case atStart => exact ⟨0, zu _, rfl, zf (by intro x hx; simp at hx), hb0.out⟩
      case round =>
        clear hb0;obtain ⟨k, hk, rfl, hq, hbr⟩ := hrel;by_cases hlt : k < n
        · have HR := zf (Hs.out.carry (hbr.mono hB) (ze B))
          obtain ⟨b, off, x, A', c', rfl, hbl, hx, hi, h0, h1, h2, h3, h4⟩ := BarsAt.get (k := k) HR.out (by rw [← hn'.out]; exact hlt);have Hnext := zf (fun (hx1 : x.dims.length ≤ 8 ∧ x.mark.size ≤ 60) => (show zer (l.take (k + 1)) by
            rw [zQ hx];intro d hd;rcases List.mem_append.1 hd with h | h
            · exact hq.out d h
            · obtain rfl := List.mem_singleton.1 h; exact ⟨zh hx1.2 (by decide), by omega⟩))
          clear hx hi hbl hq;obtain ⟨mark, size, cnt, code, dims⟩ := x;simp only [] at h0 h1 h2 h3 h4 Hnext;generalize dims.length = dl at *;go_wp2_with fail;refine (zqe mark size cnt code A' dl c' _).mono ?_;rintro e w2 ⟨⟨t, rfl, ht⟩, hb2⟩;have Hb2 := zf (hbr.trans (hb2.mono hbr.size));clear hb2;cases t
          · clear ht Hnext
            go_wp2;go_ret;exact ⟨⟨false, rfl, fun h => by cases h⟩, Hb2.out⟩
          · have Hnext := zf (Hnext.out (ht rfl))
            clear ht;go_wp2;go_roundw
            case rel => exact ⟨k + 1, by omega, by go_num, Hnext, Hb2.out⟩
            case measure => simp [intOf]; omega
        · obtain rfl : k = n := by omega
          have HT := zf (show zer l by have := hq.out; rwa [hn'.out, zF] at this);have Hb0 := zf hbr;clear hq hbr;rename World => wo;go_wp2;go_loopw [10, 11] (fun v i wr => ∃ j : Nat, j ≤ n2 ∧ i = .int .i64 j ∧ (∃ t : Int, v = .int .i64 t ∧ 0 ≤ t ∧ t ≤ 16 * j) ∧ Below w.heap.size w wr) (fun _ i _ => n2 - (intOf i).toNat)
          case atStart => exact ⟨0, zu _, rfl, ⟨0, rfl, by omega, by omega⟩, Hb0.out⟩
          case round =>
            clear Hb0;obtain ⟨j, hj, rfl, ⟨t, rfl, ht0, ht1⟩, hbr⟩ := hrel;by_cases hlt : j < n2
            · obtain ⟨b, off, r, rfl, hbl, hx, hc⟩ := RunsAt.get (k := j) (H2.out.carry (Flat.carried _) (hbr.mono hB) (ze _)) (by rw [← hn2'.out]; exact hlt)
              obtain ⟨mark, tx, ty, ⟨a1, a2, a3⟩, ⟨s1, s2, s3⟩, cnt⟩ := r;have p0 := hc 0 _ rfl;have p9 := hc 9 _ rfl;simp only [Nat.add_zero] at p0 p9;clear hx hbl hc;go_wp2_with fail
              all_goals first
                | (go_roundw
                   case rel => exact ⟨j + 1, by omega, by go_num, ⟨_, rfl, by omega, by omega⟩, hbr⟩
                   case measure => simp [intOf]; omega)
                | (go_ret
                   exact ⟨⟨false, rfl, fun h => by cases h⟩, hbr⟩)
            · obtain rfl : j = n2 := by omega
              go_wp2_with fail
              all_goals go_ret
              all_goals first
                | exact ⟨⟨_, rfl, fun _ => HT.out⟩, hbr⟩
                | exact ⟨⟨_, rfl, fun _ => ⟨h63, h263, HT.out⟩⟩, hbr⟩
                | exact ⟨⟨_, rfl, fun _ => ⟨by omega, by omega, HT.out⟩⟩, hbr⟩
theorem znP {α : Type} {enc : α → List Value} {size : Nat} (he : ∀ x, (enc x).length = size) {u : Value} {y : α} {j : Nat} (hj : j < size) :
  ∀ (l : List α) (i : Nat) (x : α), l[i]? = some x → enc y = (enc x).set j u → (l.set i y).flatMap enc = (l.flatMap enc).set (i * size + j) u := by
 intro l
 induction l with
 | nil => intro i x hx; cases hx
 | cons a l ih =>
  intro i x hx hy;cases i with
  | zero =>
   injection hx with hx
   subst hx;rw [zzE, zaf, zaf, hy, Nat.zero_mul, Nat.zero_add, List.set_append, if_pos (by rw [he]; exact hj)]
  | succ i =>
   rw [zzF, zaf, zaf, ih i x hx hy, List.set_append, if_neg (by rw [he, Nat.succ_mul]; omega), he];rw [show (i + 1) * size + j - size = i * size + j by rw [Nat.succ_mul]; omega]
theorem zi7 {α : Type} {w : World} {base size : Nat} {e : TypeId} {enc : α → List Value} {A : Option Addr} {n c : Nat} {l : List α} (he : ∀ x, (enc x).length = size) (h : Row w base e size enc (.slice A n c) l) {i j : Nat} {x y : α} {u : Value}
  (hx : l[i]? = some x) (hj : j < size) (hy : enc y = (enc x).set j u) :
  ∃ g cs, A = some ⟨g, 0, none⟩ ∧ base ≤ g ∧ Blk w g e cs ∧ (∀ (k : Nat) (v : Value), (enc x)[k]? = some v → cs[i * size + k]? = some v) ∧ Row (w.setCell ⟨g, i * size + j, none⟩ u) base e size enc (.slice A n c) (l.set i y) := by
 have hlt := zaa hx;rcases h.2 with ⟨_, hn⟩ | ⟨g, cap, cur, hv, hb, hh, h1, h2, h3, ht⟩
 ·omega
 ·injection hv with hA hn hc
  refine ⟨g, cur, hA, hb, hh, fun k v hk => ?_, ?_, .inr ⟨g, cap, cur.setIfInBounds (i * size + j) u, ?_, hb, Blk.set_ hh _ u, ?_, h2, ?_, ?_⟩⟩
  ·have hq := zcd he l i x hx k v hk;rw [← ht, List.getElem?_take] at hq
   split at hq
   ·simpa using hq
   ·cases hq
  ·rw [zbG he, List.length_set]
  ·rw [hA, hn, hc, List.length_set]
  ·rw [List.length_set];exact h1
  ·simpa using h3
  ·rw [znP he hj l i x hx hy, ← ht, List.length_set, Array.toList_setIfInBounds, List.take_set]
theorem zcy (w : World) (g o : Nat) (u : Value) : w.grownBy (w.setCell ⟨g, o, none⟩ u) (some g) :=
 ⟨((Below.refl 0 w).setCell (p := ⟨g, o, none⟩) (zu _) u).os, ((Below.refl 0 w).setCell (p := ⟨g, o, none⟩) (zu _) u).tape, ((Below.refl 0 w).setCell (p := ⟨g, o, none⟩) (zu _) u).output, ((Below.refl 0 w).setCell (p := ⟨g, o, none⟩) (zu _) u).size,
  fun k _ hne => Below.heap_setCell w ⟨g, o, none⟩ u k (fun h => hne (by rw [h]))⟩
theorem zbW {w w' : World} (h : Below w.heap.size w w') (row : Option Nat) : w.grownBy w' row := ⟨h.os, h.tape, h.output, h.size, fun k hk _ => h.block k hk⟩
theorem zb2 {α : Type} {w w' : World} {base size : Nat} {e : TypeId} {enc : α → List Value} {v : Value} {l : List α} {row : Option Nat} (h : Row w base e size enc v l) (hg : w.grownBy w' row) (hr : ∀ k, row = some k → zeE v k) : Row w' base e size enc v l :=
 World.ownsRow.kept h hg (by
  cases hv : v.ownBlock with
  | none => exact .inl rfl
  | some k => exact .inr (fun he => hr k he.symm hv))
theorem zbs {α : Type} {w : World} {base size : Nat} {e : TypeId} {enc : α → List Value} {v : Value} {l : List α} (h : Row w base e size enc v l) {k : Nat} (hk : k < base) : zeE v k := by
 intro he;rcases h.2 with ⟨hv, _⟩ | ⟨g, cap, cur, hv, hb, _⟩
 ·rw [hv] at he;cases he
 ·rw [hv] at he;injection he with he
  simp only at he;omega
structure InRow {α : Type} (w : World) (lo hi : Nat) (e : TypeId) (size : Nat) (enc : α → List Value) (v : Value) (l : List α) : Prop where
 row : Row w lo e size enc v l
 up : ∀ k, v.ownBlock = some k → k < hi
section
variable {α : Type} {w w' : World} {lo hi size : Nat} {e : TypeId} {enc : α → List Value} {v : Value} {l : List α}
theorem InRow.new (h : Row w lo e size enc v l) : InRow w lo w.heap.size e size enc v l := ⟨h, fun _ hk => Nat.lt_of_not_le (fun h9 => zcS h h9 hk)⟩
theorem InRow.low (h : InRow w lo hi e size enc v l) {k : Nat} (hk : v.ownBlock = some k) : lo ≤ k := Nat.le_of_not_lt (fun h9 => zbs h.row h9 hk)
theorem InRow.keep (h : InRow w lo hi e size enc v l) (hb : Below w.heap.size w w') : InRow w' lo hi e size enc v l := ⟨h.row.keep hb, h.up⟩
theorem InRow.drew (h : InRow w lo hi e size enc v l) : InRow w.drew lo hi e size enc v l := ⟨h.row.drew, h.up⟩
theorem InRow.kept {row : Option Nat} (h : InRow w lo hi e size enc v l) (hg : w.grownBy w' row) (hr : ∀ k, row = some k → k < lo ∨ hi ≤ k) : InRow w' lo hi e size enc v l :=
 ⟨zb2 h.row hg (fun k hk he => by
  have h1 := h.low he;have h2 := h.up k he;have h3 := hr k hk;omega), h.up⟩
theorem InRow.set_ (h : InRow w lo hi e size enc v l) {a : Addr} (ha : a.block < lo) (u : Value) : InRow (w.setCell a u) lo hi e size enc v l := ⟨ownsRow_setCell_below h.row ha u, h.up⟩
end
structure SubOwn {α β : Type} (t : TypeId) (size : Nat) (enc : β → List Value) (sl : α → Value) (ls : α → List β) (w : World) (lo : Nat) (L : List α) (i : Nat) : Prop where
 row : ∀ k p, k < i → L[k]? = some p → Row w lo t size enc (sl p) (ls p)
 far : ∀ j k p q, j < k → k < i → L[j]? = some p → L[k]? = some q → ∀ g, (sl p).ownBlock = some g → zeE (sl q) g
section
variable {α β : Type} {t : TypeId} {size : Nat} {enc : β → List Value} {sl : α → Value} {ls : α → List β} {w w' : World} {lo : Nat} {L : List α} {i : Nat}
theorem SubOwn.zero : SubOwn t size enc sl ls w lo L 0 := ⟨fun k _ h => absurd h (Nat.not_lt_zero k), fun _ k _ _ _ h => absurd h (Nat.not_lt_zero k)⟩
theorem SubOwn.kept {row : Option Nat} (h : SubOwn t size enc sl ls w lo L i) (hg : w.grownBy w' row) (hr : ∀ k, row = some k → k < lo) : SubOwn t size enc sl ls w' lo L i :=
 ⟨fun k p hk hp => zb2 (h.row k p hk hp) hg (fun g hg' => zbs (h.row k p hk hp) (hr g hg')), h.far⟩
theorem SubOwn.keep (h : SubOwn t size enc sl ls w lo L i) (hb : Below w.heap.size w w') : SubOwn t size enc sl ls w' lo L i := ⟨fun k p hk hp => (h.row k p hk hp).keep hb, h.far⟩
theorem SubOwn.step (h : SubOwn t size enc sl ls w lo L i) (hb : Below w.heap.size w w') {y : α} (hr : Row w' w.heap.size t size enc (sl y) (ls y)) (hlo : lo ≤ w.heap.size) (hi : i < L.length) : SubOwn t size enc sl ls w' lo (L.set i y) (i + 1) := by
 have old : ∀ k p, k < i → (L.set i y)[k]? = some p → L[k]? = some p := fun k p hk hp => by
  rw [List.getElem?_set_ne (by omega)] at hp;exact hp
 have new : ∀ p, (L.set i y)[i]? = some p → p = y := fun p hp => by
  rw [List.getElem?_set_self hi] at hp;exact (Option.some.inj hp).symm
 refine ⟨fun k p hk hp => ?_, fun j k p q hj hk hp hq g hg => ?_⟩
 ·rcases Nat.lt_or_ge k i with h1 | h1
  ·exact (h.row k p h1 (old k p h1 hp)).keep hb
  ·obtain rfl : k = i := by omega
   obtain rfl := new p hp;refine ⟨hr.1, ?_⟩;rcases hr.2 with h2 | ⟨g, cap, cur, h2, h3, r⟩
   ·exact .inl h2
   ·exact .inr ⟨g, cap, cur, h2, zh hlo h3, r⟩
 ·rcases Nat.lt_or_ge k i with h1 | h1
  ·exact h.far j k p q hj h1 (old j p (by omega) hp) (old k q h1 hq) g hg
  ·obtain rfl : k = i := by omega
   obtain rfl := new q hq;refine zbs hr ?_;rcases Nat.lt_or_ge g w.heap.size with h2 | h2
   ·exact h2
   ·exact absurd hg (zcS (h.row j p hj (old j p hj hp)) h2)
theorem SubOwn.up (h : SubOwn t size enc sl ls w lo L i) {k : Nat} {p : α} (hk : k < i) (hp : L[k]? = some p) {g : Nat} (hg : (sl p).ownBlock = some g) : g < w.heap.size := Nat.lt_of_not_le (fun h9 => zcS (h.row k p hk hp) h9 hg)
end
structure SubIn {α β : Type} (t : TypeId) (size : Nat) (enc : β → List Value) (sl : α → Value) (ls : α → List β) (w : World) (lo hi : Nat) (L : List α) : Prop where
 own : SubOwn t size enc sl ls w lo L L.length
 up : ∀ (k : Nat) (p : α) (g : Nat), L[k]? = some p → (sl p).ownBlock = some g → g < hi
theorem SubIn.of {α β : Type} {t : TypeId} {size : Nat} {enc : β → List Value} {sl : α → Value} {ls : α → List β} {w : World} {lo i : Nat} {L : List α} (h : SubOwn t size enc sl ls w lo L i) (hi : i = L.length) : SubIn t size enc sl ls w lo w.heap.size L := by
 subst hi;exact ⟨h, fun k p g hp hg => h.up (zaa hp) hp hg⟩
theorem SubIn.kept {α β : Type} {t : TypeId} {size : Nat} {enc : β → List Value} {sl : α → Value} {ls : α → List β} {w w' : World} {lo hi : Nat} {L : List α} {row : Option Nat} (h : SubIn t size enc sl ls w lo hi L) (hg : w.grownBy w' row) (hr : ∀ k, row = some k → k < lo ∨ hi ≤ k) : SubIn t size enc sl ls w' lo hi L :=
 ⟨⟨fun k p hk hp => zb2 (h.own.row k p hk hp) hg (fun g hg' he => by
   have h1 := hr g hg';have h2 := h.up k p g hp he;have h3 : lo ≤ g := Nat.le_of_not_lt (fun h9 => zbs (h.own.row k p hk hp) h9 he);omega), h.own.far⟩, h.up⟩
structure OwnDet (w : World) (lo : Nat) (x : DetD) (s : DetS) (b : Nat → Nat) (LB : List zdU) (LD : List zdT) : Prop where
 low : lo ≤ b 0
 up : ∀ i, b i ≤ b (i + 1)
 r1 : InRow w (b 0) (b 1) 62 6 zdm (.slice s.a1 s.n1 s.c1) x.mem.boxes
 r2 : InRow w (b 1) (b 2) 62 6 zdm (.slice s.a2 s.n2 s.c2) x.mem.holes
 r3 : InRow w (b 2) (b 3) 50 5 zdg (.slice s.a3 s.n3 s.c3) LB
 r4 : InRow w (b 3) (b 4) 66 10 zcw (.slice s.a4 s.n4 s.c4) x.runs
 r5 : InRow w (b 4) (b 5) 73 2 zcs (.slice s.a5 s.n5 s.c5) x.laps
 r6 : InRow w (b 5) (b 6) 69 8 zdf (.slice s.a6 s.n6 s.c6) LD
 m3 : LB.map (·.1) = x.bars
 m6 : LD.map (·.1) = x.dems
 d3 : SubIn 3 1 zaP (fun p : zdU => Value.slice p.2.1 p.1.dims.length p.2.2) (fun p => p.1.dims) w (b 6) (b 7) LB
 d6 : SubIn 71 2 zaF (fun p : zdT => Value.slice p.2.1 p.1.steps.length p.2.2) (fun p => p.1.steps) w (b 7) (b 8) LD
theorem OwnDet.from0 {w : World} {lo : Nat} {x : DetD} {s : DetS} {b : Nat → Nat} {LB : List zdU} {LD : List zdT} (h : OwnDet w lo x s b LB LD) : ∀ i, b 0 ≤ b i
 | 0 => ze _
 | i + 1 => zh (h.from0 i) (h.up i)
theorem OwnDet.kept {w w' : World} {lo : Nat} {x : DetD} {s : DetS} {b : Nat → Nat} {LB : List zdU} {LD : List zdT} {row : Option Nat} (h : OwnDet w lo x s b LB LD) (hg : w.grownBy w' row) (hr : ∀ k, row = some k → k < b 0) : OwnDet w' lo x s b LB LD := by
 have key : ∀ i j k, row = some k → k < b i ∨ b j ≤ k := fun i _ k hk => .inl (zt (hr k hk) (h.from0 i));exact ⟨h.low, h.up, h.r1.kept hg (key 0 1), h.r2.kept hg (key 1 2), h.r3.kept hg (key 2 3), h.r4.kept hg (key 3 4), h.r5.kept hg (key 4 5), h.r6.kept hg (key 5 6), h.m3, h.m6, h.d3.kept hg (key 6 7), h.d6.kept hg (key 7 8)⟩
theorem InRow.mono {α : Type} {w : World} {lo hi lo' hi' size : Nat} {e : TypeId} {enc : α → List Value} {v : Value} {l : List α} (h : InRow w lo hi e size enc v l) (h1 : lo' ≤ lo) (h2 : hi ≤ hi') : InRow w lo' hi' e size enc v l := by
 refine ⟨⟨h.row.1, ?_⟩, fun k hk => zt (h.up k hk) h2⟩;rcases h.row.2 with h3 | ⟨g, cap, cur, h3, h4, r⟩
 ·exact .inl h3
 ·exact .inr ⟨g, cap, cur, h3, zh h1 h4, r⟩
theorem zlb (w : World) (g : Nat) (cs : Array Value) : w.grownBy (w.setRow g cs) (some g) :=
 ⟨(Below.setRow (Below.refl 0 w) (zu g) cs).os, (Below.setRow (Below.refl 0 w) (zu g) cs).tape, (Below.setRow (Below.refl 0 w) (zu g) cs).output, (Below.setRow (Below.refl 0 w) (zu g) cs).size,
  fun k _ hne => setRow_other w g k cs (fun h => hne (by rw [h]))⟩
def ztI (b0 b1 b2 b3 b4 b5 b6 b7 b8 : Nat) : Nat → Nat
 | 0 => b0
 | 1 => b1
 | 2 => b2
 | 3 => b3
 | 4 => b4
 | 5 => b5
 | 6 => b6
 | 7 => b7
 | _ + 8 => b8
theorem zte {b0 b1 b2 b3 b4 b5 b6 b7 b8 : Nat} (h0 : b0 ≤ b1) (h1 : b1 ≤ b2) (h2 : b2 ≤ b3) (h3 : b3 ≤ b4) (h4 : b4 ≤ b5) (h5 : b5 ≤ b6) (h6 : b6 ≤ b7) (h7 : b7 ≤ b8) : ∀ i, ztI b0 b1 b2 b3 b4 b5 b6 b7 b8 i ≤ ztI b0 b1 b2 b3 b4 b5 b6 b7 b8 (i + 1)
 | 0 => h0
 | 1 => h1
 | 2 => h2
 | 3 => h3
 | 4 => h4
 | 5 => h5
 | 6 => h6
 | 7 => h7
 | _ + 8 => ze _
theorem zem (p s : Pt) (w : World) (hp : zJ 1099511627776 p = true) (hs : zJ 1099511627776 s = true) :
  Calls Tryz.prog 208 #[ptA p, ptA s] w fun e w' => e = .returned (ptA (zbf p s)) ∧ Below w.heap.size w w' := by
 obtain ⟨p1, p2, p3⟩ := p;obtain ⟨x1, x2, x3⟩ := s;obtain ⟨⟨r1, r2⟩, ⟨r3, r4⟩, r5, r6⟩ := zab.1 hp;obtain ⟨⟨t1, t2⟩, ⟨t3, t4⟩, t5, t6⟩ := zab.1 hs;simp only at r1 r2 r3 r4 r5 r6 t1 t2 t3 t4 t5 t6;have z1 : IntKind.i64.wrap (p1 + x1) = p1 + x1 := zr _ (by omega);have z2 : IntKind.i64.wrap (p2 + x2) = p2 + x2 := zr _ (by omega);have z3 : IntKind.i64.wrap (p3 + x3) = p3 + x3 := zr _ (by omega);have kR := zf (Blk.new2 w (.cells #[.int .i64 p1, .int .i64 p2, .int .i64 p3] 60) (.cells #[.int .i64 x1, .int .i64 x2, .int .i64 x3] 60) 60 #[.int .i64 (p1 + x1), .int .i64 (p2 + x2), .int .i64 (p3 + x3)]);have hB := zf ((zH w (.cells #[.int .i64 p1, .int .i64 p2, .int .i64 p3] 60) (.cells #[.int .i64 x1, .int .i64 x2, .int .i64 x3] 60)).alloc (by simp; omega) (.cells #[.int .i64 (p1 + x1), .int .i64 (p2 + x2), .int .i64 (p3 + x3)] 60));clear hp hs
 show Calls Tryz.prog 208 #[.agg #[.int .i64 p1, .int .i64 p2, .int .i64 p3], .agg #[.int .i64 x1, .int .i64 x2, .int .i64 x3]] w _
 go_enter Tryz.func208, Tryz.ntmps208;go_wp2_with fail;refine bodyPost_ret (zaU rfl rfl kR.out Tryz.underlying60 rfl (by kernel_rfl)) rfl ?_;exact ⟨rfl, hB.out⟩
theorem zgb (n : Int) (p : Pt) (w : World) (hs : zJ 1099511627776 (zbe n p) = true) :
  Calls Tryz.prog 259 #[.int .i64 n, ptA p] w fun e w' => e = .returned (ptA (zbe n p)) ∧ Below w.heap.size w w' := by
 obtain ⟨x1, x2, x3⟩ := p;obtain ⟨⟨t1, t2⟩, ⟨t3, t4⟩, t5, t6⟩ := zab.1 hs;simp only [zbe] at t1 t2 t3 t4 t5 t6;have s1 : IntKind.i64.wrap (n * x1) = n * x1 := zr _ (by omega);have s2 : IntKind.i64.wrap (n * x2) = n * x2 := zr _ (by omega);have s3 : IntKind.i64.wrap (n * x3) = n * x3 := zr _ (by omega);have kR := zf (Blk.new1 w (.cells #[.int .i64 x1, .int .i64 x2, .int .i64 x3] 60) 60 #[.int .i64 (n * x1), .int .i64 (n * x2), .int .i64 (n * x3)]);have hB := zf (zH w (.cells #[.int .i64 x1, .int .i64 x2, .int .i64 x3] 60) (.cells #[.int .i64 (n * x1), .int .i64 (n * x2), .int .i64 (n * x3)] 60));clear hs
 show Calls Tryz.prog 259 #[.int .i64 n, .agg #[.int .i64 x1, .int .i64 x2, .int .i64 x3]] w _
 go_enter Tryz.func259, Tryz.ntmps259;go_wp2_with fail;refine bodyPost_ret (zaU rfl rfl kR.out Tryz.underlying60 rfl (by kernel_rfl)) rfl ?_;exact ⟨rfl, hB.out⟩
theorem zkb (n : Int) (p : Pt) (w : World) (hs : zJ 1099511627776 (zbe n p) = true) :
  Calls Tryz.prog 209 #[ptA p, .int .i64 n] w fun e w' => e = .returned (ptA (zbe n p)) ∧ Below w.heap.size w w' := by
 obtain ⟨x1, x2, x3⟩ := p;obtain ⟨⟨t1, t2⟩, ⟨t3, t4⟩, t5, t6⟩ := zab.1 hs;simp only [zbe] at t1 t2 t3 t4 t5 t6;have m1 : x1 * n = n * x1 := Int.mul_comm _ _;have m2 : x2 * n = n * x2 := Int.mul_comm _ _;have m3 : x3 * n = n * x3 := Int.mul_comm _ _;rw [← m1] at t1 t2;rw [← m2] at t3 t4;rw [← m3] at t5 t6;have s1 : IntKind.i64.wrap (x1 * n) = x1 * n := zr _ (by omega);have s2 : IntKind.i64.wrap (x2 * n) = x2 * n := zr _ (by omega);have s3 : IntKind.i64.wrap (x3 * n) = x3 * n := zr _ (by omega);have kR := zf (Blk.new1 w (.cells #[.int .i64 x1, .int .i64 x2, .int .i64 x3] 60) 60 #[.int .i64 (x1 * n), .int .i64 (x2 * n), .int .i64 (x3 * n)]);have hB := zf (zH w (.cells #[.int .i64 x1, .int .i64 x2, .int .i64 x3] 60) (.cells #[.int .i64 (x1 * n), .int .i64 (x2 * n), .int .i64 (x3 * n)] 60));have hM := zf (show zbe n (x1, x2, x3) = (x1 * n, x2 * n, x3 * n) by simp only [zbe, m1, m2, m3]);clear hs m1 m2 m3
 show Calls Tryz.prog 209 #[.agg #[.int .i64 x1, .int .i64 x2, .int .i64 x3], .int .i64 n] w _
 go_enter Tryz.func209, Tryz.ntmps209;go_wp2_with fail;refine bodyPost_ret (zaU rfl rfl kR.out Tryz.underlying60 rfl (by kernel_rfl)) rfl ?_;refine ⟨?_, hB.out⟩;rw [hM.out]
theorem zeN (n : Int) (w : World) (h : n = 1 ∨ n = 2 ∨ n = 3) : Calls Tryz.prog 258 #[.int .i64 n] w fun e w' => e = .returned (ptA (zaQ n)) ∧ Below w.heap.size w w' := by
 rcases h with rfl | rfl | rfl
 all_goals
  go_enter Tryz.func258, Tryz.ntmps258;go_wp2_with fail;refine bodyPost_ret (zaU rfl rfl (Blk.new w _ _) Tryz.underlying60 rfl (by kernel_rfl)) rfl ?_;exact ⟨rfl, zk w _⟩
theorem ziG (n : Int) (w : World) (h : ze0 n) : Calls Tryz.prog 258 #[.int .i64 n] w fun e w' => e = .returned (ptA (zaQ n)) ∧ Below w.heap.size w w' := by
 by_cases hp : 0 < n
 ·refine zeN n w ?_;unfold ze0 at h;omega
 have H1 := zf (fun W => (show Calls Tryz.prog 258 #[.int .i64 1] W fun e w' => e = .returned (.agg #[.int .i64 1, .int .i64 0, .int .i64 0]) ∧ Below W.heap.size W w' from zeN 1 W (.inl rfl)));have H2 := zf (fun W => (show Calls Tryz.prog 258 #[.int .i64 2] W fun e w' => e = .returned (.agg #[.int .i64 0, .int .i64 1, .int .i64 0]) ∧ Below W.heap.size W w' from zeN 2 W (.inr (.inl rfl))));have H3 := zf (fun W => (show Calls Tryz.prog 258 #[.int .i64 3] W fun e w' => e = .returned (.agg #[.int .i64 0, .int .i64 0, .int .i64 1]) ∧ Below W.heap.size W w' from zeN 3 W (.inr (.inr rfl))));have hn : n = -1 ∨ n = -2 ∨ n = -3 := by unfold ze0 at h; omega
 clear h hp;have KR := zf (Blk.new w 60 #[.int .i64 0, .int .i64 0, .int .i64 0]);have HW := zf (zk w (.cells #[.int .i64 0, .int .i64 0, .int .i64 0] 60));rcases hn with rfl | rfl | rfl
 all_goals
  go_enter Tryz.func258, Tryz.ntmps258;go_wp2_with fail
  first | with_reducible refine (H1.out _).mono ?_ | with_reducible refine (H2.out _).mono ?_ | with_reducible refine (H3.out _).mono ?_
  rintro e w1 ⟨rfl, hb⟩;have KR := zf (KR.out.keep hb);have HW := zf (zg HW.out hb (ze _));clear hb H1 H2 H3;have d0 := KR.out.cell 0;have d1 := KR.out.cell 1;have d2 := KR.out.cell 2;have f0 := KR.out.frozen 0;have f1 := KR.out.frozen 1;have f2 := KR.out.frozen 2;simp at d0 d1 d2;have lk := KR.out.lt;go_wp2_with fail;refine bodyPost_ret (zaU rfl rfl ((((KR.out.set_ 0 _).set_ 1 _).set_ 2 _).alloc _) Tryz.underlying60 rfl (by kernel_rfl)) rfl ?_;refine ⟨?_, (((HW.out.setCell (p := ⟨w.heap.size, 0, none⟩) (ze _) _).setCell (p := ⟨w.heap.size, 1, none⟩) (ze _) _).setCell (p := ⟨w.heap.size, 2, none⟩) (ze _) _).alloc (by have := HW.out.size; simpa using this) _⟩;simp only [zzD, zzE, zzF]
  rfl
theorem zl8 (a b : Pt) (w : World) (ha : zeG a) (hb : zeG b) :
  Calls Tryz.prog 260 #[ptA a, ptA b] w fun e w' => e = .returned (ptA (zdw a b)) ∧ Below w.heap.size w w' := by
 obtain ⟨a1, a2, a3⟩ := a;obtain ⟨b1, b2, b3⟩ := b;obtain ⟨x1, x2, x3⟩ := ha;obtain ⟨y1, y2, y3⟩ := hb;simp only at x1 x2 x3 y1 y2 y3;have m1 := zbQ x2 y3;have m2 := zbQ x3 y2;have m3 := zbQ x3 y1;have m4 := zbQ x1 y3;have m5 := zbQ x1 y2;have m6 := zbQ x2 y1;go_enter Tryz.func260, Tryz.ntmps260;go_wp2_with fail;refine bodyPost_ret (zaU rfl rfl (Blk.new2 w _ _ _ _) Tryz.underlying60 rfl (by kernel_rfl)) rfl ?_;exact ⟨rfl, (zH w _ _).alloc (by simp; omega) _⟩
theorem ztg {x y : Int} (p : Pt) : zeF x y p = zbf (zbe p.1 (zaQ x)) (zbf (zbe p.2.1 (zaQ y)) (zbe p.2.2 (zdw (zaQ x) (zaQ y)))) := by
 simp only [zeF, zoa, zbf, zbe, Prod.mk.injEq];refine ⟨?_, ?_, ?_⟩ <;> rw [Int.mul_comm p.1, Int.mul_comm p.2.1, Int.mul_comm p.2.2, Int.add_assoc]
theorem zjv {n m : Int} {a : Pt} (ha : zeG a) (hn : -m ≤ n ∧ n ≤ m) (hm : 0 ≤ m) : zJ m (zbe n a) = true := by
 obtain ⟨a1, a2, a3⟩ := ha;have h1 := zaL a1 hn hm;have h2 := zaL a2 hn hm;have h3 := zaL a3 hn hm;rw [zab];simp only [zbe];rw [Int.mul_comm n, Int.mul_comm n, Int.mul_comm n];exact ⟨h1, h2, h3⟩
theorem zmM {m n : Int} {p q : Pt} (hp : zJ m p = true) (hq : zJ n q = true) : zJ (m + n) (zbf p q) = true := by
 have h1 := zab.1 hp;have h2 := zab.1 hq;rw [zab];simp only [zbf];omega
def ImgR (w W : World) : Prop := (∃ u0 u1 u2, Blk W (w.heap.size + 1 + 1) 60 #[u0, u1, u2]) ∧ Below w.heap.size w W
theorem ImgR.step {w W wz : World} (h : ImgR w W) (hb : Below W.heap.size W wz) : ImgR w wz := by
 obtain ⟨⟨u0, u1, u2, hk⟩, hw⟩ := h;exact ⟨⟨u0, u1, u2, hk.keep hb⟩, zg hw hb (ze _)⟩
theorem ImgR.drew {w W : World} (h : ImgR w W) : ImgR w W.drew := by
 obtain ⟨⟨u0, u1, u2, hk⟩, hw⟩ := h;exact ⟨⟨u0, u1, u2, hk.drew⟩, hw.drew⟩
theorem ImgR.store {w W : World} (h : ImgR w W) (x y z : Value) : ImgR w (((W.setCell ⟨w.heap.size + 1 + 1, 0, none⟩ x).setCell ⟨w.heap.size + 1 + 1, 1, none⟩ y).setCell ⟨w.heap.size + 1 + 1, 2, none⟩ z) := by
 obtain ⟨⟨u0, u1, u2, hk⟩, hw⟩ := h;have h1 := ((hk.set_ 0 x).set_ 1 y).set_ 2 z;simp only [zzD, zzE, zzF] at h1;exact ⟨⟨x, y, z, h1⟩, ((hw.setCell (p := ⟨w.heap.size + 1 + 1, 0, none⟩) (by show w.heap.size ≤ w.heap.size + 1 + 1; omega) x).setCell (p := ⟨w.heap.size + 1 + 1, 1, none⟩) (by show w.heap.size ≤ w.heap.size + 1 + 1; omega) y).setCell (p := ⟨w.heap.size + 1 + 1, 2, none⟩) (by show w.heap.size ≤ w.heap.size + 1 + 1; omega) z⟩
theorem ImgR.facts {w W : World} (h : ImgR w W) : ∃ u0 u1 u2, W.cell? ⟨w.heap.size + 1 + 1, 0, none⟩ = some u0 ∧ W.cell? ⟨w.heap.size + 1 + 1, 1, none⟩ = some u1 ∧ W.cell? ⟨w.heap.size + 1 + 1, 2, none⟩ = some u2 ∧ W.frozen? ⟨w.heap.size + 1 + 1, 0, none⟩ = false ∧ W.frozen? ⟨w.heap.size + 1 + 1, 1, none⟩ = false ∧ W.frozen? ⟨w.heap.size + 1 + 1, 2, none⟩ = false := by
 obtain ⟨⟨u0, u1, u2, hk⟩, hw⟩ := h;exact ⟨u0, u1, u2, hk.cell 0, hk.cell 1, hk.cell 2, hk.frozen 0, hk.frozen 1, hk.frozen 2⟩
theorem kc {W wz : World} {g i : Nat} {v : Value} (h : W.cell? ⟨g, i, none⟩ = some v) (hb : Below W.heap.size W wz) : wz.cell? ⟨g, i, none⟩ = some v := (hb.cell (p := ⟨g, i, none⟩) (zhi h)).trans h
theorem ks {W : World} {k g i : Nat} {v : Value} (hne : k ≠ g) (h : W.cell? ⟨g, i, none⟩ = some v) (x y z : Value) : (((W.setCell ⟨k, 0, none⟩ x).setCell ⟨k, 1, none⟩ y).setCell ⟨k, 2, none⟩ z).cell? ⟨g, i, none⟩ = some v :=
 zcP (.inl (Ne.symm hne)) (zcP (.inl (Ne.symm hne)) (zcP (.inl (Ne.symm hne)) h))
theorem zhL (x y : Int) (p : Pt) (w : World) (h : zav x y = true) (hp : zJ 1048576 p = true) :
  Calls Tryz.prog 210 #[.agg #[.int .i64 x, .int .i64 y], ptA p] w fun e w' => e = .returned (ptA (zeF x y p)) ∧ Below w.heap.size w w' := by
 have hx : ze0 x := by
  simp only [zav, zm] at h;exact zdq h.1.1.1
 have hy : ze0 y := by
  simp only [zav, zm] at h;exact zdq h.1.1.2
 obtain ⟨HP1, HP2, HP3⟩ := zab.1 hp;have n1 := zjv (zcm hx) HP1 (by omega);have n2 := zjv (zcm hy) HP2 (by omega);have n3 := zjv (zho h) HP3 (by omega);have n4 := zmM n2 n3;have HX := zf (fun (w : World) => ziG x w hx);have HY := zf (fun (w : World) => ziG y w hy);have HC := zf (fun (w : World) => zl8 (zaQ x) (zaQ y) w (zcm hx) (zcm hy));have HT1 := zf (fun (w : World) => zgb p.1 (zaQ x) w (zak n1 (by omega)));have HT2 := zf (fun (w : World) => zgb p.2.1 (zaQ y) w (zak n2 (by omega)));have HT3 := zf (fun (w : World) => zgb p.2.2 (zdw (zaQ x) (zaQ y)) w (zak n3 (by omega)));have HS1 := zf (fun (w : World) => zem (zbe p.2.1 (zaQ y)) (zbe p.2.2 (zdw (zaQ x) (zaQ y))) w (zak n2 (by omega)) (zak n3 (by omega)));have HS2 := zf (fun (w : World) => zem (zbe p.1 (zaQ x)) (zbf (zbe p.2.1 (zaQ y)) (zbe p.2.2 (zdw (zaQ x) (zaQ y)))) w (zak n1 (by omega)) (zak n4 (by omega)));rw [ztg];generalize zbf (zbe p.1 (zaQ x)) (zbf (zbe p.2.1 (zaQ y)) (zbe p.2.2 (zdw (zaQ x) (zaQ y)))) = R at *;generalize zbf (zbe p.2.1 (zaQ y)) (zbe p.2.2 (zdw (zaQ x) (zaQ y))) = S at *;generalize zbe p.1 (zaQ x) = T1 at *;generalize zbe p.2.1 (zaQ y) = T2 at *;generalize zbe p.2.2 (zdw (zaQ x) (zaQ y)) = T3 at *;generalize zdw (zaQ x) (zaQ y) = c at *;generalize zaQ x = a at *;generalize zaQ y = b at *;clear n1 n2 n3 n4 h hp hx hy HP1 HP2 HP3;obtain ⟨p1, p2, p3⟩ := p;obtain ⟨a1, a2, a3⟩ := a;obtain ⟨b1, b2, b3⟩ := b;obtain ⟨c1, c2, c3⟩ := c;obtain ⟨t1, t2, t3⟩ := T1;obtain ⟨u1, u2, u3⟩ := T2;obtain ⟨v1, v2, v3⟩ := T3;obtain ⟨s1, s2, s3⟩ := S;obtain ⟨r1, r2, r3⟩ := R;simp only [ptA] at HX HY HC HT1 HT2 HT3 HS1 HS2 ⊢;have KT := zf ((((Blk.new w 64 #[.int .i64 x, .int .i64 y]).alloc (.cells #[.int .i64 p1, .int .i64 p2, .int .i64 p3] 60)).alloc (.cells #[.int .i64 0, .int .i64 0, .int .i64 0] 60)));have KP := zf ((Blk.new1 w (.cells #[.int .i64 x, .int .i64 y] 64) 60 #[.int .i64 p1, .int .i64 p2, .int .i64 p3]).alloc (.cells #[.int .i64 0, .int .i64 0, .int .i64 0] 60));have KR := zf (Blk.new2 w (.cells #[.int .i64 x, .int .i64 y] 64) (.cells #[.int .i64 p1, .int .i64 p2, .int .i64 p3] 60) 60 #[.int .i64 0, .int .i64 0, .int .i64 0]);have HW := zf ((zH w (.cells #[.int .i64 x, .int .i64 y] 64) (.cells #[.int .i64 p1, .int .i64 p2, .int .i64 p3] 60)).alloc (by simp; omega) (.cells #[.int .i64 0, .int .i64 0, .int .i64 0] 60));go_enter Tryz.func210, Tryz.ntmps210;go_wp2_with fail;refine (HX.out _).mono ?_;rintro e w1 ⟨rfl, hb⟩;have KT := zf ((KT.out.keep hb).alloc (.cells #[.int .i64 a1, .int .i64 a2, .int .i64 a3] 60));have KP := zf ((KP.out.keep hb).alloc (.cells #[.int .i64 a1, .int .i64 a2, .int .i64 a3] 60));have KR := zf ((KR.out.keep hb).alloc (.cells #[.int .i64 a1, .int .i64 a2, .int .i64 a3] 60));have KA := zf (Blk.new w1 60 #[.int .i64 a1, .int .i64 a2, .int .i64 a3]);have HW1 := zf (zg HW.out hb (ze _));have HW := zf (HW1.out.alloc HW1.out.size (.cells #[.int .i64 a1, .int .i64 a2, .int .i64 a3] 60));have hb1' := hb.size;clear hb HX HW1;have e1 := KT.out.cell 1;simp at e1;have lt := KT.out.lt;go_wp2_with fail;refine (HY.out _).mono ?_;rintro e w2 ⟨rfl, hb⟩;have KP := zf ((KP.out.keep hb).alloc (.cells #[.int .i64 b1, .int .i64 b2, .int .i64 b3] 60));have KR := zf ((KR.out.keep hb).alloc (.cells #[.int .i64 b1, .int .i64 b2, .int .i64 b3] 60));have KA := zf ((KA.out.keep hb).alloc (.cells #[.int .i64 b1, .int .i64 b2, .int .i64 b3] 60));have KB := zf (Blk.new w2 60 #[.int .i64 b1, .int .i64 b2, .int .i64 b3]);have HW1 := zf (zg HW.out hb (ze _));have HW := zf (HW1.out.alloc HW1.out.size (.cells #[.int .i64 b1, .int .i64 b2, .int .i64 b3] 60));have hgA : w.heap.size + 2 < w1.heap.size := by
  have := hb1';simp at this;omega
 have hgB : w1.heap.size < w2.heap.size := by
  have := hb.size;simp at this;omega
 clear hb HY e1 lt KT HW1;obtain ⟨wa, hwa⟩ : ∃ wa, wa = w2.alloc (.cells #[.int .i64 b1, .int .i64 b2, .int .i64 b3] 60) := ⟨_, rfl⟩;go_wp2_with fail;rw [← hwa] at KP KR KA KB HW ⊢;clear hwa;have x0 := KP.out.cell 0;have x1 := KP.out.cell 1;have x2 := KP.out.cell 2;have y0 := KA.out.cell 0;have y1 := KA.out.cell 1;have y2 := KA.out.cell 2;have z0 := KB.out.cell 0;have z1 := KB.out.cell 1;have z2 := KB.out.cell 2;simp at x0 x1 x2 y0 y1 y2 z0 z1 z2;have KR := zf (show Blk wa (w.heap.size + 1 + 1) 60 #[.int .i64 0, .int .i64 0, .int .i64 0] from KR.out);have l1 := KP.out.lt;have l2 := KA.out.lt;have l3 := KB.out.lt;have hR0 : ImgR w wa := ⟨⟨_, _, _, KR.out⟩, HW.out⟩;have hg1 : w.heap.size + 1 + 1 ≠ w1.heap.size := by have := hgA; omega
 have hg2 : w.heap.size + 1 + 1 ≠ w2.heap.size := by have := hgB; omega
 have KC := zf (fun (W wz : World) (hS : W.cell? ⟨w.heap.size + 1, 0, none⟩ = some (.int .i64 p1) ∧ W.cell? ⟨w.heap.size + 1, 1, none⟩ = some (.int .i64 p2) ∧ W.cell? ⟨w.heap.size + 1, 2, none⟩ = some (.int .i64 p3) ∧ W.cell? ⟨w1.heap.size, 0, none⟩ = some (.int .i64 a1) ∧ W.cell? ⟨w1.heap.size, 1, none⟩ = some (.int .i64 a2) ∧ W.cell? ⟨w1.heap.size, 2, none⟩ = some (.int .i64 a3) ∧ W.cell? ⟨w2.heap.size, 0, none⟩ = some (.int .i64 b1) ∧ W.cell? ⟨w2.heap.size, 1, none⟩ = some (.int .i64 b2) ∧ W.cell? ⟨w2.heap.size, 2, none⟩ = some (.int .i64 b3) ∧ ImgR w W) (hbz : Below W.heap.size W wz) => show wz.cell? ⟨w.heap.size + 1, 0, none⟩ = some (.int .i64 p1) ∧ wz.cell? ⟨w.heap.size + 1, 1, none⟩ = some (.int .i64 p2) ∧ wz.cell? ⟨w.heap.size + 1, 2, none⟩ = some (.int .i64 p3) ∧ wz.cell? ⟨w1.heap.size, 0, none⟩ = some (.int .i64 a1) ∧ wz.cell? ⟨w1.heap.size, 1, none⟩ = some (.int .i64 a2) ∧ wz.cell? ⟨w1.heap.size, 2, none⟩ = some (.int .i64 a3) ∧ wz.cell? ⟨w2.heap.size, 0, none⟩ = some (.int .i64 b1) ∧ wz.cell? ⟨w2.heap.size, 1, none⟩ = some (.int .i64 b2) ∧ wz.cell? ⟨w2.heap.size, 2, none⟩ = some (.int .i64 b3) ∧ ImgR w wz from
  ⟨kc hS.1 hbz, kc hS.2.1 hbz, kc hS.2.2.1 hbz, kc hS.2.2.2.1 hbz, kc hS.2.2.2.2.1 hbz, kc hS.2.2.2.2.2.1 hbz, kc hS.2.2.2.2.2.2.1 hbz, kc hS.2.2.2.2.2.2.2.1 hbz, kc hS.2.2.2.2.2.2.2.2.1 hbz, hS.2.2.2.2.2.2.2.2.2.step hbz⟩)
 have KS := zf (fun (W : World) (x y z : Value) (hS : W.cell? ⟨w.heap.size + 1, 0, none⟩ = some (.int .i64 p1) ∧ W.cell? ⟨w.heap.size + 1, 1, none⟩ = some (.int .i64 p2) ∧ W.cell? ⟨w.heap.size + 1, 2, none⟩ = some (.int .i64 p3) ∧ W.cell? ⟨w1.heap.size, 0, none⟩ = some (.int .i64 a1) ∧ W.cell? ⟨w1.heap.size, 1, none⟩ = some (.int .i64 a2) ∧ W.cell? ⟨w1.heap.size, 2, none⟩ = some (.int .i64 a3) ∧ W.cell? ⟨w2.heap.size, 0, none⟩ = some (.int .i64 b1) ∧ W.cell? ⟨w2.heap.size, 1, none⟩ = some (.int .i64 b2) ∧ W.cell? ⟨w2.heap.size, 2, none⟩ = some (.int .i64 b3) ∧ ImgR w W) => show (((W.setCell ⟨w.heap.size + 1 + 1, 0, none⟩ x).setCell ⟨w.heap.size + 1 + 1, 1, none⟩ y).setCell ⟨w.heap.size + 1 + 1, 2, none⟩ z).cell? ⟨w.heap.size + 1, 0, none⟩ = some (.int .i64 p1) ∧ (((W.setCell ⟨w.heap.size + 1 + 1, 0, none⟩ x).setCell ⟨w.heap.size + 1 + 1, 1, none⟩ y).setCell ⟨w.heap.size + 1 + 1, 2, none⟩ z).cell? ⟨w.heap.size + 1, 1, none⟩ = some (.int .i64 p2) ∧ (((W.setCell ⟨w.heap.size + 1 + 1, 0, none⟩ x).setCell ⟨w.heap.size + 1 + 1, 1, none⟩ y).setCell ⟨w.heap.size + 1 + 1, 2, none⟩ z).cell? ⟨w.heap.size + 1, 2, none⟩ = some (.int .i64 p3) ∧ (((W.setCell ⟨w.heap.size + 1 + 1, 0, none⟩ x).setCell ⟨w.heap.size + 1 + 1, 1, none⟩ y).setCell ⟨w.heap.size + 1 + 1, 2, none⟩ z).cell? ⟨w1.heap.size, 0, none⟩ = some (.int .i64 a1) ∧ (((W.setCell ⟨w.heap.size + 1 + 1, 0, none⟩ x).setCell ⟨w.heap.size + 1 + 1, 1, none⟩ y).setCell ⟨w.heap.size + 1 + 1, 2, none⟩ z).cell? ⟨w1.heap.size, 1, none⟩ = some (.int .i64 a2) ∧ (((W.setCell ⟨w.heap.size + 1 + 1, 0, none⟩ x).setCell ⟨w.heap.size + 1 + 1, 1, none⟩ y).setCell ⟨w.heap.size + 1 + 1, 2, none⟩ z).cell? ⟨w1.heap.size, 2, none⟩ = some (.int .i64 a3) ∧ (((W.setCell ⟨w.heap.size + 1 + 1, 0, none⟩ x).setCell ⟨w.heap.size + 1 + 1, 1, none⟩ y).setCell ⟨w.heap.size + 1 + 1, 2, none⟩ z).cell? ⟨w2.heap.size, 0, none⟩ = some (.int .i64 b1) ∧ (((W.setCell ⟨w.heap.size + 1 + 1, 0, none⟩ x).setCell ⟨w.heap.size + 1 + 1, 1, none⟩ y).setCell ⟨w.heap.size + 1 + 1, 2, none⟩ z).cell? ⟨w2.heap.size, 1, none⟩ = some (.int .i64 b2) ∧ (((W.setCell ⟨w.heap.size + 1 + 1, 0, none⟩ x).setCell ⟨w.heap.size + 1 + 1, 1, none⟩ y).setCell ⟨w.heap.size + 1 + 1, 2, none⟩ z).cell? ⟨w2.heap.size, 2, none⟩ = some (.int .i64 b3) ∧ ImgR w (((W.setCell ⟨w.heap.size + 1 + 1, 0, none⟩ x).setCell ⟨w.heap.size + 1 + 1, 1, none⟩ y).setCell ⟨w.heap.size + 1 + 1, 2, none⟩ z) from
  ⟨ks (by omega) hS.1 x y z, ks (by omega) hS.2.1 x y z, ks (by omega) hS.2.2.1 x y z, ks hg1 hS.2.2.2.1 x y z, ks hg1 hS.2.2.2.2.1 x y z, ks hg1 hS.2.2.2.2.2.1 x y z, ks hg2 hS.2.2.2.2.2.2.1 x y z, ks hg2 hS.2.2.2.2.2.2.2.1 x y z, ks hg2 hS.2.2.2.2.2.2.2.2.1 x y z, hS.2.2.2.2.2.2.2.2.2.store x y z⟩)
 go_region_held3 (fun W => W.cell? ⟨w.heap.size + 1, 0, none⟩ = some (.int .i64 p1) ∧ W.cell? ⟨w.heap.size + 1, 1, none⟩ = some (.int .i64 p2) ∧ W.cell? ⟨w.heap.size + 1, 2, none⟩ = some (.int .i64 p3) ∧ W.cell? ⟨w1.heap.size, 0, none⟩ = some (.int .i64 a1) ∧ W.cell? ⟨w1.heap.size, 1, none⟩ = some (.int .i64 a2) ∧ W.cell? ⟨w1.heap.size, 2, none⟩ = some (.int .i64 a3) ∧ W.cell? ⟨w2.heap.size, 0, none⟩ = some (.int .i64 b1) ∧ W.cell? ⟨w2.heap.size, 1, none⟩ = some (.int .i64 b2) ∧ W.cell? ⟨w2.heap.size, 2, none⟩ = some (.int .i64 b3) ∧ ImgR w W)
  (first
   | (with_reducible assumption)
   | (refine KS.out _ _ _ _ ?_; with_reducible assumption)
   | (exact ⟨x0, x1, x2, y0, y1, y2, z0, z1, z2, ImgR.drew hR0⟩)
   | (exact ⟨x0, x1, x2, y0, y1, y2, z0, z1, z2, hR0⟩)
   | go_keep)
  (first
   | (go_at_call 259; have hS := ‹_ ∧ _ ∧ _ ∧ _ ∧ _ ∧ _ ∧ _ ∧ _ ∧ _ ∧ ImgR w _›; (first | (with_reducible refine (HT1.out _).mono ?_) | (with_reducible refine (HT2.out _).mono ?_) | (with_reducible refine (HT3.out _).mono ?_)); rintro e wz ⟨rfl, hbz⟩; have hS2 := KC.out _ _ hS hbz; obtain ⟨u0, u1, u2, d0, d1, d2, g0, g1, g2⟩ := hS2.2.2.2.2.2.2.2.2.2.facts)
   | (go_at_call 260; have hS := ‹_ ∧ _ ∧ _ ∧ _ ∧ _ ∧ _ ∧ _ ∧ _ ∧ _ ∧ ImgR w _›; (with_reducible refine (HC.out _).mono ?_); rintro e wz ⟨rfl, hbz⟩; have hS2 := KC.out _ _ hS hbz; obtain ⟨u0, u1, u2, d0, d1, d2, g0, g1, g2⟩ := hS2.2.2.2.2.2.2.2.2.2.facts)
   | (go_at_call 208; have hS := ‹_ ∧ _ ∧ _ ∧ _ ∧ _ ∧ _ ∧ _ ∧ _ ∧ _ ∧ ImgR w _›; (first | (with_reducible refine (HS1.out _).mono ?_) | (with_reducible refine (HS2.out _).mono ?_)); rintro e wz ⟨rfl, hbz⟩; have hS2 := KC.out _ _ hS hbz; obtain ⟨u0, u1, u2, d0, d1, d2, g0, g1, g2⟩ := hS2.2.2.2.2.2.2.2.2.2.facts))
 go_goals
 have hSz := ‹_ ∧ _ ∧ _ ∧ _ ∧ _ ∧ _ ∧ _ ∧ _ ∧ _ ∧ ImgR w wz›;obtain ⟨⟨i0, i1, i2, hk⟩, hwz⟩ := hSz.2.2.2.2.2.2.2.2.2;have Hk := zf hk;have Hwz := zf hwz;go_wp2_with fail;refine bodyPost_ret (zaU rfl rfl (((Hk.out.set_ 0 _).set_ 1 _).set_ 2 _) Tryz.underlying60 rfl (by kernel_rfl)) rfl ?_;refine ⟨?_, ((Hwz.out.setCell (p := ⟨w.heap.size + 1 + 1, 0, none⟩) (by show w.heap.size ≤ w.heap.size + 1 + 1; omega) _).setCell (p := ⟨w.heap.size + 1 + 1, 1, none⟩) (by show w.heap.size ≤ w.heap.size + 1 + 1; omega) _).setCell (p := ⟨w.heap.size + 1 + 1, 2, none⟩) (by show w.heap.size ≤ w.heap.size + 1 + 1; omega) _⟩;simp only [zzD, zzE, zzF]
def zt0 (b : BoxD) (k : Nat) : Int × Int := (zn8 b.lo k, zn8 b.hi k)
theorem ztw (b : BoxD) (k : Nat) (hk : k < 3) : (zbI b).drop k = zt0 b k :: (zbI b).drop (k + 1) := by
 rcases (show k = 0 ∨ k = 1 ∨ k = 2 by omega) with rfl | rfl | rfl <;> rfl
theorem zjK (b : BoxD) (w : World) :
  Calls Tryz.prog 90 #[bxV b] w fun e w' => e = .returned (.bool (zad b)) ∧ Below w.heap.size w w' := by
 obtain ⟨⟨x1, x2, x3⟩, x4, x5, x6⟩ := b;have K0 := zf (Blk.new w 62 #[.int .i64 x1, .int .i64 x2, .int .i64 x3, .int .i64 x4, .int .i64 x5, .int .i64 x6]);have HW := zf (zk w (.cells #[.int .i64 x1, .int .i64 x2, .int .i64 x3, .int .i64 x4, .int .i64 x5, .int .i64 x6] 62));have hb : zad ⟨(x1, x2, x3), (x4, x5, x6)⟩ = ((zbI ⟨(x1, x2, x3), (x4, x5, x6)⟩).drop 0).all zdp := rfl;rw [hb];clear hb;go_enter Tryz.func90, Tryz.ntmps90;go_wp2;go_loopw [3] (fun i wr => ∃ k : Nat, k ≤ 3 ∧ i = .int .i64 k ∧ Hid (((zbI ⟨(x1, x2, x3), (x4, x5, x6)⟩).drop 0).all zdp = ((zbI ⟨(x1, x2, x3), (x4, x5, x6)⟩).drop k).all zdp) ∧ Hid (Blk wr w.heap.size 62 #[.int .i64 x1, .int .i64 x2, .int .i64 x3, .int .i64 x4, .int .i64 x5, .int .i64 x6]) ∧ Below w.heap.size w wr) (fun i _ => 3 - (intOf i).toNat)
 case atStart => exact ⟨0, by omega, rfl, zf rfl, K0, HW.out⟩
 case round =>
  obtain ⟨k, hk, rfl, hq, hK, hbr⟩ := hrel;by_cases hlt : k < 3
  ·have Hq := zf (hq.out.trans (by rw [ztw _ k hlt, List.all_cons]));have CL := fun W => zhM x1 x2 x3 k hlt W;have CH := fun W => zhM x4 x5 x6 k hlt W;have hax : zdp (zt0 ⟨(x1, x2, x3), (x4, x5, x6)⟩ k) = zfA (zn8 (x1, x2, x3) k) (zn8 (x4, x5, x6) k) := rfl;rw [hax] at Hq;generalize zn8 (x1, x2, x3) k = lo at *;generalize zn8 (x4, x5, x6) k = hi at *;have HL := fun W => zgk lo W;have HH := fun W => zgk hi W;have hao : zfA lo hi = (zaS lo && zaS hi && !decide (hi < lo)) := by
    rw [Bool.eq_iff_iff];simp only [zfA, zaS, zm, zzJ, Bool.not_eq_true', zzI];omega
   rw [hao] at Hq;generalize zaS lo = a1 at *;generalize zaS hi = a2 at *;have CL := zf CL;have CH := zf CH;have HL := zf HL;have HH := zf HH;have Hbr := zf hbr;have HK := zf hK.out;have c0 := cell_regrown (hK.out.cell 0);have c1 := cell_regrown (hK.out.cell 1);have c2 := cell_regrown (hK.out.cell 2);have c3 := cell_regrown (hK.out.cell 3);have c4 := cell_regrown (hK.out.cell 4);have c5 := cell_regrown (hK.out.cell 5);simp at c0 c1 c2 c3 c4 c5;clear hq hax hao hbr hK;cases a1
   ·go_wp2_with fail;refine wp_region_quiet_below (by kernel_rfl) (by kernel_rfl) ?_
    repeat (go_big_quiet_step (first
     | (go_at_call 148; first | with_reducible exact zW (HL.out _) | with_reducible exact zW (HH.out _))
     | (go_at_call 149; first | with_reducible exact Calls.regrown_of (CL.out _) | with_reducible exact Calls.regrown_of (CH.out _))))
    refine wpQuiet_nil ?_;intro w2 hw';have hbq := zf (show Below _ _ w2 by obtain ⟨p, rfl⟩ := hw'; exact below_regrown _ _ _);clear hw';go_wp2;go_ret;exact ⟨zo (by rw [Hq.out]; rfl), zg Hbr.out hbq.out (ze _)⟩
   cases a2
   ·go_wp2_with fail;refine wp_region_quiet_below (by kernel_rfl) (by kernel_rfl) ?_
    repeat (go_big_quiet_step (first
     | (go_at_call 148; first | with_reducible exact zW (HL.out _) | with_reducible exact zW (HH.out _))
     | (go_at_call 149; first | with_reducible exact Calls.regrown_of (CL.out _) | with_reducible exact Calls.regrown_of (CH.out _))))
    refine wpQuiet_nil ?_;intro w2 hw';have hbq := zf (show Below _ _ w2 by obtain ⟨p, rfl⟩ := hw'; exact below_regrown _ _ _);clear hw';go_wp2;go_ret;exact ⟨zo (by rw [Hq.out]; rfl), zg Hbr.out hbq.out (ze _)⟩
   cases hd : decide (hi < lo)
   ·have Hd := zf hd;go_wp2_with fail;refine wp_region_quiet_below (by kernel_rfl) (by kernel_rfl) ?_
    repeat (go_big_quiet_step (first
     | (go_at_call 148; first | with_reducible exact zW (HL.out _) | with_reducible exact zW (HH.out _))
     | (go_at_call 149; first | with_reducible exact Calls.regrown_of (CL.out _) | with_reducible exact Calls.regrown_of (CH.out _))))
    refine wpQuiet_nil ?_;intro w2 hw';have hbq := zf (show Below _ _ w2 by obtain ⟨p, rfl⟩ := hw'; exact below_regrown _ _ _);clear hw';go_wp2;go_roundw
    case rel => exact ⟨k + 1, by omega, by go_num, zf (by rw [Hq.out, Hd.out]; rfl), zf (HK.out.keep hbq.out), zg Hbr.out hbq.out (ze _)⟩
    case measure => simp [intOf]; omega
   ·have Hd := zf hd;go_wp2_with fail;refine wp_region_quiet_below (by kernel_rfl) (by kernel_rfl) ?_
    repeat (go_big_quiet_step (first
     | (go_at_call 148; first | with_reducible exact zW (HL.out _) | with_reducible exact zW (HH.out _))
     | (go_at_call 149; first | with_reducible exact Calls.regrown_of (CL.out _) | with_reducible exact Calls.regrown_of (CH.out _))))
    refine wpQuiet_nil ?_;intro w2 hw';have hbq := zf (show Below _ _ w2 by obtain ⟨p, rfl⟩ := hw'; exact below_regrown _ _ _);clear hw';go_wp2;go_ret;exact ⟨zo (by rw [Hq.out, Hd.out]; rfl), zg Hbr.out hbq.out (ze _)⟩
  ·obtain rfl : k = 3 := by omega
   go_wp2;go_ret;exact ⟨zo (by rw [hq.out]; rfl), hbr⟩
theorem zhH (b : BoxD) (w : World) :
  Calls Tryz.prog 140 #[bxV b] w fun e w' => e = .returned (.bool (zbd b)) ∧ Below w.heap.size w w' := by
 have HB := fun W => zjK b W;have hr : zbd b = (zad b && (decide (b.lo.1 < b.hi.1) && (decide (b.lo.2.1 < b.hi.2.1) && decide (b.lo.2.2 < b.hi.2.2)))) := by simp only [zbd, Bool.and_assoc]
 rw [hr];clear hr;generalize zad b = a at *;obtain ⟨⟨x1, x2, x3⟩, x4, x5, x6⟩ := b;simp only;have HB := zf HB;have K0 := zf (Blk.new w 62 #[.int .i64 x1, .int .i64 x2, .int .i64 x3, .int .i64 x4, .int .i64 x5, .int .i64 x6]);have HW := zf (zk w (.cells #[.int .i64 x1, .int .i64 x2, .int .i64 x3, .int .i64 x4, .int .i64 x5, .int .i64 x6] 62));go_enter Tryz.func140, Tryz.ntmps140;go_wp2_with fail;refine (HB.out _).mono ?_;rintro e w1 ⟨rfl, hb⟩;have K0 := zf (K0.out.keep hb);have HW := zf (zg HW.out hb (ze _));clear hb HB;have c0 := K0.out.cell 0;have c1 := K0.out.cell 1;have c2 := K0.out.cell 2;have c3 := K0.out.cell 3;have c4 := K0.out.cell 4;have c5 := K0.out.cell 5;simp at c0 c1 c2 c3 c4 c5;have lk := K0.out.lt;cases a
 ·go_wp2;go_ret;exact ⟨zo (by first | rfl | (rw [q0]; rfl) | (rw [q0, q1]; rfl) | (rw [q0, q1, q2]; rfl)), HW.out⟩
 cases q0 : decide (x1 < x4)
 ·go_wp2;go_ret;exact ⟨zo (by first | rfl | (rw [q0]; rfl) | (rw [q0, q1]; rfl) | (rw [q0, q1, q2]; rfl)), HW.out⟩
 cases q1 : decide (x2 < x5)
 ·go_wp2;go_ret;exact ⟨zo (by first | rfl | (rw [q0]; rfl) | (rw [q0, q1]; rfl) | (rw [q0, q1, q2]; rfl)), HW.out⟩
 cases q2 : decide (x3 < x6)
 all_goals
  go_wp2;go_ret;exact ⟨zo (by first | rfl | (rw [q0]; rfl) | (rw [q0, q1]; rfl) | (rw [q0, q1, q2]; rfl)), HW.out⟩
theorem zlz {α : Type} {p : α → Bool} {l : List α} {k : Nat} {x : α} (h : l[k]? = some x) : (l.drop k).all p = (p x && (l.drop (k + 1)).all p) := by
 rw [zaX h, List.all_cons]
theorem zl1 (bs hs : List BoxD) (A1 A2 : Option Addr) (n1 n2 c1 c2 : Nat) (w : World) {B : Nat} (h1 : BoxesAt w B A1 bs) (h2 : BoxesAt w B A2 hs) (hB : B ≤ w.heap.size) (l1 : n1 = bs.length) (l2 : n2 = hs.length) :
  Calls Tryz.prog 86 #[.agg #[.slice A1 n1 c1, .slice A2 n2 c2]] w fun e w' => e = .returned (.bool (zaZ bs hs)) ∧ Below w.heap.size w w' := by
 have L1 := zf l1;have L2 := zf l2;have H1 := zf h1;have H2 := zf h2;have K0 := zf (Blk.new w 24 #[.slice A1 n1 c1, .slice A2 n2 c2]);have HW := zf (zk w (.cells #[.slice A1 n1 c1, .slice A2 n2 c2] 24));by_cases hlen : ¬(1 ≤ n1 ∧ n1 ≤ 20 ∧ n2 ≤ 20)
 ·have hr := zf (show zaZ bs hs = false by
   cases hx : zaZ bs hs with
   | false => rfl
   | true => simp only [zaZ, zm, zzJ] at hx; omega)
  clear h1 h2 l1 l2;by_cases a : n1 < 1
  ·obtain rfl : n1 = 0 := by omega
   go_enter Tryz.func86, Tryz.ntmps86;go_wp2;go_ret;exact ⟨zo hr.out.symm, HW.out⟩
  have d0 : decide ((n1 : Int) < 1) = false := by simp; omega
  by_cases b : 20 < n1
  ·have d1 : decide (20 < (n1 : Int)) = true := by simp; omega
   clear hlen a b;go_enter Tryz.func86, Tryz.ntmps86;go_wp2;go_ret;exact ⟨zo hr.out.symm, HW.out⟩
  have d1 : decide (20 < (n1 : Int)) = false := by simp; omega
  have d2 : decide (20 < (n2 : Int)) = true := by simp; omega
  clear hlen a b;go_enter Tryz.func86, Tryz.ntmps86;go_wp2;go_ret;exact ⟨zo hr.out.symm, HW.out⟩
 have hl1 : 1 ≤ n1 ∧ n1 ≤ 20 ∧ n2 ≤ 20 := by omega
 obtain ⟨m1, m20, m2⟩ := hl1;have hr := zf (show zaZ bs hs = ((bs.drop 0).all zbd && (hs.drop 0).all zbd) by
  rw [zaZ, zI (by omega), zI (by omega), zI (by omega)]; rfl)
 have d0 : decide ((n1 : Int) < 1) = false := by simp; omega
 have d1 : decide (20 < (n1 : Int)) = false := by simp; omega
 have d2 : decide (20 < (n2 : Int)) = false := by simp; omega
 clear hlen h1 h2 l1 l2;go_enter Tryz.func86, Tryz.ntmps86;go_wp2;go_loopw [3] (fun i wr => ∃ k : Nat, k ≤ n1 ∧ i = .int .i64 k ∧ Hid ((bs.drop 0).all zbd = (bs.drop k).all zbd) ∧ Hid (Blk wr w.heap.size 24 #[.slice A1 n1 c1, .slice A2 n2 c2]) ∧ Below w.heap.size w wr) (fun i _ => n1 - (intOf i).toNat)
 case atStart => exact ⟨0, zu _, rfl, zf rfl, K0, HW.out⟩
 case round =>
  obtain ⟨k, hk, rfl, hq, hK, hbr⟩ := hrel;have e0 := hK.out.cell 0;simp at e0;have lk := hK.out.lt;by_cases hlt : k < n1
  ·obtain ⟨b, off, x, rfl, hbl, hx, f0, f1, f2, f3, f4, f5⟩ := BoxesAt.get (k := k) (H1.out.carry (Flat.carried _) (hbr.mono hB) (ze _)) (by rw [← L1.out]; exact hlt);have Hq := zf (hq.out.trans (zlz hx));have HT := zf (fun W => zhH x W);generalize zbd x = a at *;obtain ⟨⟨x1, x2, x3⟩, x4, x5, x6⟩ := x;simp only at f0 f1 f2 f3 f4 f5;have HK := zf hK.out;have Hbr := zf hbr;clear hx hbl hq hK hbr;go_wp2_with fail;refine (HT.out _).mono ?_;rintro e w1 ⟨rfl, hb⟩;have HK := zf (HK.out.keep hb);have Hbr := zf (zg Hbr.out hb (ze _));clear hb HT f0 f1 f2 f3 f4 f5 e0 lk;cases a
   ·go_wp2;go_ret;exact ⟨zo (by rw [hr.out, Hq.out]; rfl), Hbr.out⟩
   ·go_wp2;go_roundw
    case rel => exact ⟨k + 1, by omega, by go_num, zf (by rw [Hq.out]; rfl), HK, Hbr.out⟩
    case measure => simp [intOf]; omega
  ·obtain rfl : n1 = k := by omega
   have hf := zf (show (bs.drop 0).all zbd = true by rw [hq.out, L1.out, zar]; rfl);have K1 := hK;have HW1 := zf hbr;rename World => wo;clear hq hbr;go_wp2;go_loopw [4] (fun i wr => ∃ k : Nat, k ≤ n2 ∧ i = .int .i64 k ∧ Hid ((hs.drop 0).all zbd = (hs.drop k).all zbd) ∧ Hid (Blk wr w.heap.size 24 #[.slice A1 n1 c1, .slice A2 n2 c2]) ∧ Below w.heap.size w wr) (fun i _ => n2 - (intOf i).toNat)
   case atStart => exact ⟨0, zu _, rfl, zf rfl, K1, HW1.out⟩
   case round =>
    obtain ⟨k, hk, rfl, hq, hK, hbr⟩ := hrel;have e1 := hK.out.cell 1;simp at e1;have lk := hK.out.lt;by_cases hlt : k < n2
    ·obtain ⟨b, off, x, rfl, hbl, hx, f0, f1, f2, f3, f4, f5⟩ := BoxesAt.get (k := k) (H2.out.carry (Flat.carried _) (hbr.mono hB) (ze _)) (by rw [← L2.out]; exact hlt);have Hq := zf (hq.out.trans (zlz hx));have HT := zf (fun W => zhH x W);generalize zbd x = a at *;obtain ⟨⟨x1, x2, x3⟩, x4, x5, x6⟩ := x;simp only at f0 f1 f2 f3 f4 f5;have HK := zf hK.out;have Hbr := zf hbr;clear hx hbl hq hK hbr;go_wp2_with fail;refine (HT.out _).mono ?_;rintro e w1 ⟨rfl, hb⟩;have HK := zf (HK.out.keep hb);have Hbr := zf (zg Hbr.out hb (ze _));clear hb HT f0 f1 f2 f3 f4 f5 e1 lk;cases a
     ·go_wp2;go_ret;exact ⟨zo (by rw [hr.out, Hq.out, hf.out]; rfl), Hbr.out⟩
     ·go_wp2;go_roundw
      case rel => exact ⟨k + 1, by omega, by go_num, zf (by rw [Hq.out]; rfl), HK, Hbr.out⟩
      case measure => simp [intOf]; omega
    ·obtain rfl : n2 = k := by omega
     have hf2 := zf (show (hs.drop 0).all zbd = true by rw [hq.out, L2.out, zar]; rfl);go_wp2;go_ret;exact ⟨zo (by rw [hr.out, hf.out, hf2.out]; rfl), hbr⟩
theorem zkq (m : MemD) (A1 A2 : Option Addr) (n1 n2 c1 c2 : Nat) (w : World) {B : Nat} (h1 : BoxesAt w B A1 m.boxes) (h2 : BoxesAt w B A2 m.holes) (hB : B ≤ w.heap.size) (l1 : n1 = m.boxes.length) (l2 : n2 = m.holes.length) (hnm : m.name.size ≤ maxLen) :
  Calls Tryz.prog 40 #[.agg #[.string m.name, .slice A1 n1 c1, .slice A2 n2 c2, .int .i64 m.cover, .int .i64 m.aggregate, .int .i64 m.poker]] w fun e w' => e = .returned (.bool (zdj m)) ∧ Below w.heap.size w w' := by
 have HI := zf (fun (W : World) => zfB m.name W hnm);have HS := zf (fun (W : World) (hz : Below w.heap.size w W) => zl1 m.boxes m.holes A1 A2 n1 n2 c1 c2 W (h1.carry (Flat.carried _) (hz.mono hB) (ze _)) (h2.carry (Flat.carried _) (hz.mono hB) (ze _)) (zh hB hz.size) l1 l2);have hr : zdj m = (zb8 m.name && (zaZ m.boxes m.holes && (decide (0 ≤ m.cover) && (decide (m.cover ≤ 200) && (decide (1 ≤ m.aggregate) && (decide (m.aggregate ≤ 100) && (decide (1 ≤ m.poker) && decide (m.poker ≤ 200)))))))) := by
  simp only [zdj, within, Bool.and_assoc]
 rw [hr];clear hr h1 h2 l1 l2 hB hnm;generalize zb8 m.name = a1 at *;generalize zaZ m.boxes m.holes = a2 at *;obtain ⟨name, boxes, holes, cover, agg, poker⟩ := m;simp only at HI HS ⊢;have K0 := zf (Blk.new w 26 #[.string name, .slice A1 n1 c1, .slice A2 n2 c2, .int .i64 cover, .int .i64 agg, .int .i64 poker]);have HW := zf (zk w (.cells #[.string name, .slice A1 n1 c1, .slice A2 n2 c2, .int .i64 cover, .int .i64 agg, .int .i64 poker] 26));go_enter Tryz.func40, Tryz.ntmps40;go_wp2_with fail;refine (HI.out _).mono ?_;rintro e w1 ⟨rfl, rfl⟩;cases a1
 ·go_wp2;go_ret;exact ⟨rfl, HW.out⟩
 go_wp2_with fail;refine (HS.out _ HW.out).mono ?_;rintro e w1 ⟨rfl, hb⟩;have K0 := zf (K0.out.keep hb);have HW := zf (zg HW.out hb (ze _));clear hb HS HI;have e3 := K0.out.cell 3;have e4 := K0.out.cell 4;have e5 := K0.out.cell 5;simp at e3 e4 e5;have lk := K0.out.lt;cases a2
 ·go_wp2;go_ret;exact ⟨rfl, HW.out⟩
 cases q0 : decide (0 ≤ cover)
 ·go_wp2;go_ret;exact ⟨zo (by first | rfl | (rw [q0]; rfl) | (rw [q0, q1]; rfl) | (rw [q0, q1, q2]; rfl) | (rw [q0, q1, q2, q3]; rfl) | (rw [q0, q1, q2, q3, q4]; rfl) | (rw [q0, q1, q2, q3, q4, q5]; rfl)), HW.out⟩
 cases q1 : decide (cover ≤ 200)
 ·go_wp2;go_ret;exact ⟨zo (by first | rfl | (rw [q0]; rfl) | (rw [q0, q1]; rfl) | (rw [q0, q1, q2]; rfl) | (rw [q0, q1, q2, q3]; rfl) | (rw [q0, q1, q2, q3, q4]; rfl) | (rw [q0, q1, q2, q3, q4, q5]; rfl)), HW.out⟩
 cases q2 : decide (1 ≤ agg)
 ·go_wp2;go_ret;exact ⟨zo (by first | rfl | (rw [q0]; rfl) | (rw [q0, q1]; rfl) | (rw [q0, q1, q2]; rfl) | (rw [q0, q1, q2, q3]; rfl) | (rw [q0, q1, q2, q3, q4]; rfl) | (rw [q0, q1, q2, q3, q4, q5]; rfl)), HW.out⟩
 cases q3 : decide (agg ≤ 100)
 ·go_wp2;go_ret;exact ⟨zo (by first | rfl | (rw [q0]; rfl) | (rw [q0, q1]; rfl) | (rw [q0, q1, q2]; rfl) | (rw [q0, q1, q2, q3]; rfl) | (rw [q0, q1, q2, q3, q4]; rfl) | (rw [q0, q1, q2, q3, q4, q5]; rfl)), HW.out⟩
 cases q4 : decide (1 ≤ poker)
 ·go_wp2;go_ret;exact ⟨zo (by first | rfl | (rw [q0]; rfl) | (rw [q0, q1]; rfl) | (rw [q0, q1, q2]; rfl) | (rw [q0, q1, q2, q3]; rfl) | (rw [q0, q1, q2, q3, q4]; rfl) | (rw [q0, q1, q2, q3, q4, q5]; rfl)), HW.out⟩
 cases q5 : decide (poker ≤ 200)
 all_goals
  go_wp2;go_ret;exact ⟨zo (by first | rfl | (rw [q0]; rfl) | (rw [q0, q1]; rfl) | (rw [q0, q1, q2]; rfl) | (rw [q0, q1, q2, q3]; rfl) | (rw [q0, q1, q2, q3, q4]; rfl) | (rw [q0, q1, q2, q3, q4, q5]; rfl)), HW.out⟩
theorem zsk {l : List Pt} {k : Nat} {x : Pt} (h : l[k]? = some x) : (l.drop k).all (zJ 1048576) = (zJ 1048576 x && (l.drop (k + 1)).all (zJ 1048576)) := zlz h
theorem zhK (A : Option Addr) (l : List Pt) (n c : Nat) (w : World) {B : Nat} (h : PtsAt w B A l) (hB : B ≤ w.heap.size) (hn : n = l.length) (hm : n ≤ 60000) :
  Calls Tryz.prog 146 #[.slice A n c] w fun e w' => e = .returned (.bool (l.all (zJ 1048576))) ∧ Below w.heap.size w w' := by
 have hn' := zf hn;have Hs := zf h;have hr := zf (show l.all (zJ 1048576) = (l.drop 0).all (zJ 1048576) from rfl);clear hn h;go_enter Tryz.func146, Tryz.ntmps146;go_wp2;go_loopw [3] (fun i wr => ∃ k : Nat, k ≤ n ∧ i = .int .i64 k ∧ Hid ((l.drop 0).all (zJ 1048576) = (l.drop k).all (zJ 1048576)) ∧ Below w.heap.size w wr) (fun i _ => n - (intOf i).toNat)
 case atStart => exact ⟨0, zu _, rfl, zf rfl, Below.refl _ _⟩
 case round =>
  obtain ⟨k, hk, rfl, hq, hbr⟩ := hrel;by_cases hlt : k < n
  ·obtain ⟨b, off, x, rfl, hbl, hx, f0, f1, f2⟩ := PtsAt.get (k := k) (Hs.out.carry (Flat.carried _) (hbr.mono hB) (ze _)) (by rw [← hn'.out]; exact hlt);have Hq := zf (hq.out.trans (zsk hx));have HT := zf (fun W => ziH x W);generalize zJ 1048576 x = a at *;obtain ⟨x1, x2, x3⟩ := x;simp only [ptA] at f0 f1 f2 HT;have Hbr := zf hbr;clear hx hbl hq hbr;go_wp2_with fail;refine (HT.out _).mono ?_;rintro e w1 ⟨rfl, hb⟩;have Hbr := zf (zg Hbr.out hb (ze _));clear hb HT f0 f1 f2;cases a
   ·go_wp2;go_ret;exact ⟨zo (by rw [hr.out, Hq.out]; rfl), Hbr.out⟩
   ·go_wp2;go_roundw
    case rel => exact ⟨k + 1, by omega, by go_num, zf (by rw [Hq.out]; rfl), Hbr.out⟩
    case measure => simp [intOf]; omega
  ·obtain rfl : k = n := by omega
   go_wp2;go_ret;exact ⟨zo (by rw [hr.out, hq.out, List.drop_of_length_le (by rw [← hn'.out]; exact ze _)]; rfl), hbr⟩
theorem znl (b : BoxD) (w : World) :
  Calls Tryz.prog 213 #[bxV b] w fun e w' => e = .returned (.bool (zbT b)) ∧ Below w.heap.size w w' := by
 obtain ⟨⟨x1, x2, x3⟩, x4, x5, x6⟩ := b;have hr : zbT ⟨(x1, x2, x3), (x4, x5, x6)⟩ = (decide (x1 < x4) && (decide (x2 = x5) && decide (x3 = x6))) := by simp only [zbT, Bool.and_assoc]
 have h1 : (x2 == x5) = decide (x2 = x5) := rfl;have h2 : (x3 == x6) = decide (x3 = x6) := rfl;rw [hr];clear hr;cases q0 : decide (x1 < x4)
 ·clear h1 h2;go_enter Tryz.func213, Tryz.ntmps213;go_wp2;go_ret;exact ⟨rfl, zk _ _⟩
 cases q1 : decide (x2 = x5)
 ·rw [q1] at h1;clear h2;go_enter Tryz.func213, Tryz.ntmps213;go_wp2;go_ret;exact ⟨rfl, zk _ _⟩
 cases q2 : decide (x3 = x6)
 all_goals
  rw [q1] at h1;rw [q2] at h2;go_enter Tryz.func213, Tryz.ntmps213;go_wp2;go_ret;exact ⟨rfl, zk _ _⟩
theorem zkc (A : Option Addr) (l : List BoxD) (n c : Nat) (w : World) {B : Nat} (h : BoxesAt w B A l) (hB : B ≤ w.heap.size) (hn : n = l.length) (hm : n ≤ 60000) :
  Calls Tryz.prog 153 #[.slice A n c] w fun e w' => e = .returned (.int .i64 (idx zbT l)) ∧ Below w.heap.size w w' := by
 have hn' := zf hn;have Hs := zf h;clear hn h;go_enter Tryz.func153, Tryz.ntmps153;go_wp2;go_loopw [3] (fun i wr => ∃ k : Nat, k ≤ n ∧ i = .int .i64 k ∧ NoneTo zbT l k ∧ Below w.heap.size w wr) (fun i _ => n - (intOf i).toNat)
 case atStart => exact ⟨0, zu _, rfl, NoneTo.zero _ _, Below.refl _ _⟩
 case round =>
  obtain ⟨k, hk, rfl, hq, hbr⟩ := hrel;by_cases hlt : k < n
  ·obtain ⟨b, off, x, rfl, hbl, hx, f0, f1, f2, f3, f4, f5⟩ := BoxesAt.get (k := k) (Hs.out.carry (Flat.carried _) (hbr.mono hB) (ze _)) (by rw [← hn'.out]; exact hlt);have Hx := zf hx;have HT := zf (fun W => znl x W);obtain ⟨a, ha⟩ : ∃ a, a = zbT x := ⟨_, rfl⟩;rw [← ha] at HT;have Ha := zf ha.symm;obtain ⟨⟨x1, x2, x3⟩, x4, x5, x6⟩ := x;simp only [bxV] at f0 f1 f2 f3 f4 f5 HT;have Hbr := zf hbr;clear hx hbl hbr ha;go_wp2_with fail;refine (HT.out _).mono ?_;rintro e w1 ⟨rfl, hb⟩;have Hbr := zf (zg Hbr.out hb (ze _));clear hb HT f0 f1 f2 f3 f4 f5;cases a
   ·go_wp2;go_roundw
    case rel => exact ⟨k + 1, by omega, by go_num, hq.succ Hx.out Ha.out, Hbr.out⟩
    case measure => simp [intOf]; omega
   ·go_wp2;go_ret;exact ⟨zam (hq.hit Hx.out Ha.out).symm, Hbr.out⟩
  ·obtain rfl : k = n := by omega
   go_wp2;go_ret;exact ⟨zam (NoneTo.miss (by rw [← hn'.out]; exact hq)).symm, hbr⟩
theorem zpX (p q : Int) : (if q < p then q else p) = min p q := by split <;> omega
theorem zpY (p q : Int) : (if p < q then q else p) = max p q := by split <;> omega
theorem zl6 (A : Option Addr) (p q : Pt) (c : Nat) (w : World) {B : Nat} (h : PtsAt w B A [p, q]) (hB : B ≤ w.heap.size) :
  Calls Tryz.prog 212 #[.slice A 2 c] w fun e w' => e = .returned (bxV (zbZ p q)) ∧ Below w.heap.size w w' := by
 obtain ⟨b, off, p', rfl, hbl, hp, f0, f1, f2⟩ := PtsAt.get (k := 0) h (by simp);obtain ⟨b', off', q', hA, _, hq, g0, g1, g2⟩ := PtsAt.get (k := 1) h (by simp);injection hA with hA
 injection hA with e1 e2
 subst e1 e2;simp at hp hq;subst hp hq;obtain ⟨p1, p2, p3⟩ := p;obtain ⟨q1, q2, q3⟩ := q;simp only [Nat.zero_mul, Nat.add_zero, Nat.one_mul] at f0 f1 f2 g0 g1 g2;have hbw : b < w.heap.size := zt hbl hB;have HG := zf (fun (W : World) (hz : Below w.heap.size w W) => show W.cell? ⟨b, off + 3, none⟩ = some (.int .i64 q1) ∧ W.cell? ⟨b, off + 3 + 1, none⟩ = some (.int .i64 q2) ∧ W.cell? ⟨b, off + 3 + 2, none⟩ = some (.int .i64 q3) from ⟨(hz.cell (p := ⟨b, off + 3, none⟩) hbw).trans g0, (hz.cell (p := ⟨b, off + 3 + 1, none⟩) hbw).trans g1, (hz.cell (p := ⟨b, off + 3 + 2, none⟩) hbw).trans g2⟩);have y1 := zpX p1 q1;have y2 := zpX p2 q2;have y3 := zpX p3 q3;have y4 := zpY p1 q1;have y5 := zpY p2 q2;have y6 := zpY p3 q3;have hres := zf (show zbZ (p1, p2, p3) (q1, q2, q3) = ⟨(min p1 q1, min p2 q2, min p3 q3), (max p1 q1, max p2 q2, max p3 q3)⟩ from rfl);generalize min p1 q1 = m1 at *;generalize min p2 q2 = m2 at *;generalize min p3 q3 = m3 at *;generalize max p1 q1 = m4 at *;generalize max p2 q2 = m5 at *;generalize max p3 q3 = m6 at *;have hm1 : min p1 q1 = m1 := (zpX p1 q1).symm.trans y1;have hm2 : min p2 q2 = m2 := (zpX p2 q2).symm.trans y2;have hm3 : min p3 q3 = m3 := (zpX p3 q3).symm.trans y3;have hm4 : max p1 q1 = m4 := (zpY p1 q1).symm.trans y4;have hm5 : max p2 q2 = m5 := (zpY p2 q2).symm.trans y5;have hm6 : max p3 q3 = m6 := (zpY p3 q3).symm.trans y6;clear h hbl g0 g1 g2;go_enter Tryz.func212, Tryz.ntmps212;go_wp2_with fail;obtain ⟨wa, hwa⟩ : ∃ wa, wa = w.alloc (.cells #[.int .i64 0, .int .i64 0, .int .i64 0, .int .i64 0, .int .i64 0, .int .i64 0] 62) := ⟨_, rfl⟩;have KR := zf (Blk.new w 62 #[.int .i64 0, .int .i64 0, .int .i64 0, .int .i64 0, .int .i64 0, .int .i64 0]);have HW := zf (zk w (.cells #[.int .i64 0, .int .i64 0, .int .i64 0, .int .i64 0, .int .i64 0, .int .i64 0] 62));rw [← hwa] at KR HW ⊢;have f0 := (HW.out.cell (p := ⟨b, off, none⟩) hbw).trans f0;have f1 := (HW.out.cell (p := ⟨b, off + 1, none⟩) hbw).trans f1;have f2 := (HW.out.cell (p := ⟨b, off + 2, none⟩) hbw).trans f2;clear hwa;go_cut [3] from 13 (fun s3 wx => s3 = .pointer (some ⟨wa.heap.size, 0, none⟩) ∧ wx = (wa.alloc (.cells #[.int .i64 p1, .int .i64 p2, .int .i64 p3, .int .i64 p1, .int .i64 p2, .int .i64 p3] 62)).drew)
 case first =>
  go_region_held3 (fun W => W.cell? ⟨b, off, none⟩ = some (.int .i64 p1) ∧ W.cell? ⟨b, off + 1, none⟩ = some (.int .i64 p2) ∧ W.cell? ⟨b, off + 2, none⟩ = some (.int .i64 p3))
   (first | go_keep)
   (first | fail)
  all_goals
   go_wp2_with fail;go_meet;exact ⟨rfl, rfl⟩
 obtain ⟨rfl, hwb⟩ := hcut;have HW2 := zf ((HW.out.alloc HW.out.size (.cells #[.int .i64 p1, .int .i64 p2, .int .i64 p3, .int .i64 p1, .int .i64 p2, .int .i64 p3] 62)).drew);have KR2 := zf ((KR.out.alloc (.cells #[.int .i64 p1, .int .i64 p2, .int .i64 p3, .int .i64 p1, .int .i64 p2, .int .i64 p3] 62)).drew);have KN := zf ((Blk.new wa 62 #[.int .i64 p1, .int .i64 p2, .int .i64 p3, .int .i64 p1, .int .i64 p2, .int .i64 p3]).drew);rw [← hwb] at HW2 KR2 KN;have hwg : w.heap.size < wa.heap.size := KR.out.lt;clear hwb f0 f1 f2 KR HW;go_wp2;go_loopw [4] (fun iv wr => ∃ k : Nat, (k = 1 ∨ k = 2) ∧ iv = .int .i64 k ∧ Hid (Blk wr wa.heap.size 62 (if k = 1 then #[.int .i64 p1, .int .i64 p2, .int .i64 p3, .int .i64 p1, .int .i64 p2, .int .i64 p3] else #[.int .i64 m1, .int .i64 m2, .int .i64 m3, .int .i64 m4, .int .i64 m5, .int .i64 m6])) ∧ Hid (Blk wr w.heap.size 62 #[.int .i64 0, .int .i64 0, .int .i64 0, .int .i64 0, .int .i64 0, .int .i64 0]) ∧ Hid (Below w.heap.size w wr)) (fun iv _ => 2 - (intOf iv).toNat)
 case atStart => exact ⟨1, .inl rfl, rfl, zf KN.out, KR2, HW2⟩
 case round =>
  obtain ⟨k, hk, rfl, hN, hR, hb⟩ := hrel;rcases hk with rfl | rfl
  ·have KN := zf (show Blk wr wa.heap.size 62 #[.int .i64 p1, .int .i64 p2, .int .i64 p3, .int .i64 p1, .int .i64 p2, .int .i64 p3] from hN.out);obtain ⟨g0, g1, g2⟩ := HG.out _ hb.out;have u0 := KN.out.cell 0;have u1 := KN.out.cell 1;have u2 := KN.out.cell 2;have u3 := KN.out.cell 3;have u4 := KN.out.cell 4;have u5 := KN.out.cell 5;have v0 := KN.out.frozen 0;have v1 := KN.out.frozen 1;have v2 := KN.out.frozen 2;have v3 := KN.out.frozen 3;have v4 := KN.out.frozen 4;have v5 := KN.out.frozen 5;simp at u0 u1 u2 u3 u4 u5;have lk := KN.out.lt;have lb : b < wr.heap.size := zt hbw hb.out.size;clear hN KR2 HW2;go_wp2_with fail
   try simp only [hm1, hm2, hm3, hm4, hm5, hm6]
   have hz := ((((((KN.out.set_ 0 (.int .i64 m1)).set_ 1 (.int .i64 m2)).set_ 2 (.int .i64 m3)).set_ 3 (.int .i64 m4)).set_ 4 (.int .i64 m5)).set_ 5 (.int .i64 m6)).alloc (.cells #[.int .i64 q1, .int .i64 q2, .int .i64 q3] 60);simp only [zzD, zzE, zzF] at hz;have hy := zf (((((((hR.out.far (p := ⟨wa.heap.size, 0, none⟩) (Nat.ne_of_lt hwg) (.int .i64 m1)).far (p := ⟨wa.heap.size, 1, none⟩) (Nat.ne_of_lt hwg) (.int .i64 m2)).far (p := ⟨wa.heap.size, 2, none⟩) (Nat.ne_of_lt hwg) (.int .i64 m3)).far (p := ⟨wa.heap.size, 3, none⟩) (Nat.ne_of_lt hwg) (.int .i64 m4)).far (p := ⟨wa.heap.size, 4, none⟩) (Nat.ne_of_lt hwg) (.int .i64 m5)).far (p := ⟨wa.heap.size, 5, none⟩) (Nat.ne_of_lt hwg) (.int .i64 m6)).alloc (.cells #[.int .i64 q1, .int .i64 q2, .int .i64 q3] 60));have hx := zf (((((((hb.out.setCell (p := ⟨wa.heap.size, 0, none⟩) (zX hwg) (.int .i64 m1)).setCell (p := ⟨wa.heap.size, 1, none⟩) (zX hwg) (.int .i64 m2)).setCell (p := ⟨wa.heap.size, 2, none⟩) (zX hwg) (.int .i64 m3)).setCell (p := ⟨wa.heap.size, 3, none⟩) (zX hwg) (.int .i64 m4)).setCell (p := ⟨wa.heap.size, 4, none⟩) (zX hwg) (.int .i64 m5)).setCell (p := ⟨wa.heap.size, 5, none⟩) (zX hwg) (.int .i64 m6)).alloc (by have := hb.out.size; simpa using this) (.cells #[.int .i64 q1, .int .i64 q2, .int .i64 q3] 60));exact ⟨⟨2, .inr rfl, rfl, zf hz, hy, hx⟩, by simp [intOf]⟩
  ·have KN := zf (show Blk wr wa.heap.size 62 #[.int .i64 m1, .int .i64 m2, .int .i64 m3, .int .i64 m4, .int .i64 m5, .int .i64 m6] from hN.out);have u0 := KN.out.cell 0;have u1 := KN.out.cell 1;have u2 := KN.out.cell 2;have u3 := KN.out.cell 3;have u4 := KN.out.cell 4;have u5 := KN.out.cell 5;have d0 := hR.out.cell 0;have d1 := hR.out.cell 1;have d2 := hR.out.cell 2;have d3 := hR.out.cell 3;have d4 := hR.out.cell 4;have d5 := hR.out.cell 5;have f0 := hR.out.frozen 0;have f1 := hR.out.frozen 1;have f2 := hR.out.frozen 2;have f3 := hR.out.frozen 3;have f4 := hR.out.frozen 4;have f5 := hR.out.frozen 5;simp at u0 u1 u2 u3 u4 u5 d0 d1 d2 d3 d4 d5;have lk := KN.out.lt;clear hN KR2 HW2;go_wp2_with fail;refine bodyPost_ret (zaU rfl rfl ((((((hR.out.set_ 0 _).set_ 1 _).set_ 2 _).set_ 3 _).set_ 4 _).set_ 5 _) Tryz.underlying62 rfl (by kernel_rfl)) rfl ?_;refine ⟨?_, (((((hb.out.setCell (p := ⟨w.heap.size, 0, none⟩) (ze _) _).setCell (p := ⟨w.heap.size, 1, none⟩) (ze _) _).setCell (p := ⟨w.heap.size, 2, none⟩) (ze _) _).setCell (p := ⟨w.heap.size, 3, none⟩) (ze _) _).setCell (p := ⟨w.heap.size, 4, none⟩) (ze _) _).setCell (p := ⟨w.heap.size, 5, none⟩) (ze _) _⟩;simp only [zzD, zzE, zzF];rw [hres.out]
end Go.Proofs.YtpaanfjjnjjoeaaGreat
