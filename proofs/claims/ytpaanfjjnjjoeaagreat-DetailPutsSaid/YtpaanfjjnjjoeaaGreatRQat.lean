/- A detail as an argument, in memory. -/
import Derived.Test.YtpaanfjjnjjoeaaGreatRQas
import Derived.Test.YtpaanfjjnjjoeaaGreatRQai
import Derived.Test.YtpaanfjjnjjoeaaGreatRQaj
import Derived.Test.YtpaanfjjnjjoeaaGreatRQav
import Derived.Test.YtpaanfjjnjjoeaaGreatRQao
import Derived.Maps.OwnSet
import Derived.Test.YtpaanfjjnjjoeaaGreatRQag
import Derived.Test.YtpaanfjjnjjoeaaGreatRQaa
import Derived.Deep.RegionHeld3
import Derived.Deep.Cut
import Derived.Test.YtpaanfjjnjjoeaaGreatRQac
import Derived.Test.YtpaanfjjnjjoeaaGreatRQae
namespace Go.Proofs.YtpaanfjjnjjoeaaGreat
open Go.RowKit
structure DetS where
 a1 : Option Addr
 n1 : Nat
 c1 : Nat
 a2 : Option Addr
 n2 : Nat
 c2 : Nat
 a3 : Option Addr
 n3 : Nat
 c3 : Nat
 a4 : Option Addr
 n4 : Nat
 c4 : Nat
 a5 : Option Addr
 n5 : Nat
 c5 : Nat
 a6 : Option Addr
 n6 : Nat
 c6 : Nat
abbrev detCells (m : MemD) (r : RuleD) (s : DetS) : Array Value :=
  #[.string m.name, .slice s.a1 s.n1 s.c1, .slice s.a2 s.n2 s.c2, .int .i64 m.cover, .int .i64 m.aggregate, .int .i64 m.poker, .slice s.a3 s.n3 s.c3, .slice s.a4 s.n4 s.c4, .slice s.a5 s.n5 s.c5, .slice s.a6 s.n6 s.c6,
    .int .i64 r.num, .int .i64 r.den, .int .i64 r.poorNum, .int .i64 r.poorDen, .int .i64 r.bendNum, .int .i64 r.bendDen, .int .i64 r.lapNum, .int .i64 r.lapDen, .int .i64 r.least]
abbrev detV (x : DetD) (s : DetS) : Value := .agg (detCells x.mem x.rule s)
structure DetAt (w : World) (B : Nat) (x : DetD) (s : DetS) : Prop where
 h1 : BoxesAt w B s.a1 x.mem.boxes
 h2 : BoxesAt w B s.a2 x.mem.holes
 h3 : BarsAt w B s.a3 x.bars
 h4 : RunsAt w B s.a4 x.runs
 h5 : JoinsAt w B s.a5 x.laps
 h6 : DemsAt w B s.a6 x.dems
theorem DetAt.carry {w w' : World} {B B' : Nat} {x : DetD} {s : DetS} (h : DetAt w B x s) (hb : Below B w w') (hB : B ≤ B') : DetAt w' B' x s :=
 ⟨h.h1.carry (Flat.carried _) hb hB, h.h2.carry (Flat.carried _) hb hB, h.h3.carry hb hB, h.h4.carry (Flat.carried _) hb hB, h.h5.carry (Flat.carried _) hb hB, SlOf.carry demR_carried h.h6 hb hB⟩
structure DetFit (x : DetD) (s : DetS) : Prop where
 l1 : s.n1 = x.mem.boxes.length
 l2 : s.n2 = x.mem.holes.length
 l3 : s.n3 = x.bars.length
 l4 : s.n4 = x.runs.length
 l5 : s.n5 = x.laps.length
 l6 : s.n6 = x.dems.length
 m3 : s.n3 ≤ 60000
 m4 : s.n4 ≤ 60000
 m5 : s.n5 ≤ 60000
 m6 : s.n6 ≤ 60000
 k6 : s.n6 ≤ s.c6
 name : x.mem.name.size ≤ maxLen
 tame : Tame x.bars
 dems : DemTame x.dems
theorem row_blk {α : Type} {w : World} {base size : Nat} {e : TypeId} {enc : α → List Value} {A : Option Addr} {n c : Nat} {l : List α} (h : Row w base e size enc (.slice A n c) l) (hl : 0 < l.length) :
  ∃ g cs, A = some ⟨g, 0, none⟩ ∧ base ≤ g ∧ Blk w g e cs ∧ ∀ (j : Nat) (u : Value), (l.flatMap enc)[j]? = some u → cs[j]? = some u := by
 rcases h.2 with ⟨_, hn⟩ | ⟨g, cap, cur, hv, hb, hh, _, _, _, ht⟩
 ·omega
 ·injection hv with hA _ _
  refine ⟨g, cur, hA, hb, hh, fun j u hu => ?_⟩
  rw [← ht, List.getElem?_take] at hu
  split at hu
  ·simpa using hu
  ·cases hu
theorem blk_sl {α : Type} {w : World} {g B size : Nat} {e : TypeId} {enc : α → List Value} {cs : Array Value} {l : List α} (he : ∀ x, (enc x).length = size) (h : Blk w g e cs) (hc : ∀ (j : Nat) (u : Value), (l.flatMap enc)[j]? = some u → cs[j]? = some u) (hg : g < B) : SlOf w B size (Flat enc) (some ⟨g, 0, none⟩) l :=
 SlOf.of_row (xs := l.flatMap enc) hg (fun j u hu => by rw [h.cell]; exact hc j u hu) (fun k x hx => ⟨enc x, he x, rfl, fun j v hj => flatMap_get he l k x hx j v hj⟩)
theorem runOk_mul {bars : List BarD} {r : RunD} (h : runOk bars r = true) {k : Int} (h0 : 0 ≤ k) (h1 : k < r.count) : nearBy 1099511627776 (mulP k r.step) = true := by
 have hc := runOk_count h
 simp only [runOk, runHead, Bool.and_eq_true, Bool.or_eq_true, zzJ] at h
 rcases h.1.1.2 with h9 | h9
 ·obtain rfl : k = 0 := by omega
  simp [mulP, nearBy, within]
 ·exact step_near h9.2 h0 (by omega)
end Go.Proofs.YtpaanfjjnjjoeaaGreat
namespace Go.Proofs.YtpaanfjjnjjoeaaGreat
open Go.RowKit Go.Maps
set_option maxRecDepth 100000 in
theorem SMap.drop {w : World} {b n : Nat} {f : ByteArray → Int} (h : SMap w b n f) {s : ByteArray} (hs : s.size ≤ maxLen) (ty : TypeId) :
  ∃ w', (Builtin.delete_ #[109, 9] ty #[.map (some b), .string s]).run Tryz.prog w = .ok (.tuple #[]) w' ∧ SMap w' b n (putS f s 0) ∧ w.grownBy w' (some b) := by
 obtain ⟨D, hm, ho, ha⟩ := h
 obtain ⟨w', hrun, ho', hg⟩ := ho.drop keyedStr Tryz.underlying109 (WideMaps.keyOf_string_mk Tryz.underlying9 hs) ty
 refine ⟨w', hrun, ⟨D.del (sKey s), ?_, ho', fun t ht => ?_⟩, hg.grown⟩
 ·obtain ⟨es, rfl⟩ := hm
  exact ⟨_, rfl⟩
 ·unfold putS
  by_cases hst : t = s
  ·subst hst
   rw [if_pos rfl]
   exact atKey_del_same _
  ·rw [if_neg hst, ← ha t ht]
   exact atKey_del_other (fun he => hst (sKey_inj he)) _
theorem wpList_drop_smap {w : World} {ops : Array Oper} {rest : List Oper} {o : Oper} {a : Act} {Q : Exit → Act → World → Prop} (hg : o.guard = none) (m x : Operand) (hop : o.op = Op.call { callee := Callee.builtin Builtin.delete, args := #[m, x], argTypes := #[109, 9] })
  (b n : Nat) (f : ByteArray → Int) (hm : a.eval m = .map (some b)) (hown : SMap w b n f) (s : ByteArray) (hx : a.eval x = .string s) (hs : s.size ≤ maxLen)
  (hK : ∀ w', SMap w' b n (putS f s 0) → w.grownBy w' (some b) → wpList Tryz.prog ops Q rest (a.put o.dst (.tuple #[])) w') : wpList Tryz.prog ops Q (o :: rest) a w := by
 refine wpList_plain hg fun K' hK' => ?_
 obtain ⟨w', hrun, r1, r2⟩ := hown.drop hs o.type
 unfold Oper.wp
 simp [execOp, hop, resolve, invoke, builtin, hm, hx, hrun, Result.andThen]
 exact hK' _ _ (hK w' r1 r2)
end Go.Proofs.YtpaanfjjnjjoeaaGreat
namespace Go.Proofs.YtpaanfjjnjjoeaaGreat
open Go.RowKit
def RetB (e : Ending) (p : Prop) : Prop := ∃ t : Bool, e = .returned (.bool t) ∧ (t = true → p)
set_option maxHeartbeats 1000000 in
theorem short_any (m : ByteArray) (a b d : Int) (A : Option Addr) (n c : Nat) (w : World) :
  Calls Tryz.prog 84 #[.agg #[.string m, .int .i64 a, .int .i64 b, .int .i64 d, .slice A n c]] w fun e w' => RetB e (n ≤ 8 ∧ m.size ≤ 60) ∧ Below w.heap.size w w' := by
 have kB := hide (Blk.new w 50 #[.string m, .int .i64 a, .int .i64 b, .int .i64 d, .slice A n c])
 have hW := hide (below_new w (.cells #[.string m, .int .i64 a, .int .i64 b, .int .i64 d, .slice A n c] 50))
 have d1 : decide ((n : Int) ≤ 8) = decide (n ≤ 8) := by congr 1; simp; omega
 have d2 : decide ((m.size : Int) ≤ 60) = decide (m.size ≤ 60) := by congr 1; simp; omega
 go_enter Tryz.func84, Tryz.ntmps84
 go_wp2_with fail
 all_goals go_ret
 all_goals exact ⟨⟨_, rfl, fun h => by simp at h <;> omega⟩, hW.out⟩
set_option maxHeartbeats 1000000 in
theorem small17_any (A1 A2 : Option Addr) (n1 c1 n2 c2 : Nat) (w : World) :
  Calls Tryz.prog 36 #[.agg #[.slice A1 n1 c1, .slice A2 n2 c2], .int .i64 4] w fun e w' => RetB e (n1 ≤ 25 ∧ n2 ≤ 25) ∧ Below w.heap.size w w' := by
 have kB := hide (Blk.new w 24 #[.slice A1 n1 c1, .slice A2 n2 c2])
 have hW := hide (below_new w (.cells #[.slice A1 n1 c1, .slice A2 n2 c2] 24))
 go_enter Tryz.func36, Tryz.ntmps36
 go_wp2_with fail
 go_region
 all_goals (go_wp2_with fail)
 all_goals go_ret
 all_goals exact ⟨⟨_, rfl, fun h => by simp at h <;> omega⟩, hW.out.drew⟩
set_option maxHeartbeats 4000000 in
theorem count16_any (A : Option Addr) (l : List RunD) (n c : Nat) (w : World) {B : Nat} (h : RunsAt w B A l) (hB : B ≤ w.heap.size) (hn : n = l.length) (hm : n ≤ 60) (hok : ∀ r ∈ l, 1 ≤ r.count ∧ r.count ≤ 1000) :
  Calls Tryz.prog 81 #[.slice A n c] w fun e w' => e = .returned (.int .i64 (countRuns l)) ∧ Below w.heap.size w w' := by
 have H2 := hide h
 have hn2' := hide hn
 have Hc := hide hok
 have Hrg := hide (fun (k : Nat) => countRuns_range (l.take k) (fun r hr => hok r (List.mem_of_mem_take hr)))
 clear h hok hn
 go_enter Tryz.func81, Tryz.ntmps81
 go_wp2_with fail
 go_loopw [3, 4] (fun v i wr => ∃ k : Nat, k ≤ n ∧ i = .int .i64 k ∧ (∃ t : Int, v = .int .i64 t ∧ Hid (t = countRuns (l.take k))) ∧ Below w.heap.size w wr) (fun _ i _ => n - (intOf i).toNat)
 case atStart => exact ⟨0, Nat.zero_le _, rfl, ⟨0, rfl, hide rfl⟩, Below.refl _ _⟩
 case round =>
  obtain ⟨k, hk, rfl, ⟨t, rfl, ht⟩, hbr⟩ := hrel
  have hrg := Hrg.out k
  rw [← ht.out, List.length_take] at hrg
  by_cases hlt : k < n
  ·obtain ⟨b, off, r, rfl, hbl, hx, hc⟩ := RunsAt.get (k := k) (H2.out.carry (Flat.carried _) (hbr.mono hB) (Nat.le_refl _)) (by rw [← hn2'.out]; exact hlt)
   obtain ⟨hc0, hc1⟩ := Hc.out r (mem_of_get hx)
   have Hn := hide (show countRuns (l.take (k + 1)) = t + r.count by rw [take_snoc' hx, countRuns_snoc, ht.out])
   obtain ⟨mark, tx, ty, ⟨a1, a2, a3⟩, ⟨s1, s2, s3⟩, cnt⟩ := r
   have p9 := hc 9 _ rfl
   simp only at p9 hc0 hc1 Hn
   clear hx hbl hc
   go_wp2_with fail
   go_roundw
   case rel => exact ⟨k + 1, by omega, by go_num, ⟨t + cnt, rfl, hide Hn.out.symm⟩, hbr⟩
   case measure => simp [intOf]; omega
  ·obtain rfl : k = n := by omega
   have hf := hide (show t = countRuns l by rw [ht.out, hn2'.out, List.take_length])
   go_wp2_with fail
   go_ret
   exact ⟨by rw [← hf.out]; rfl, hbr⟩
set_option maxHeartbeats 4000000 in
theorem small23_any (A : Option Addr) (l : List DemD) (n c : Nat) (w : World) {B : Nat} (h : DemsAt w B A l) (hB : B ≤ w.heap.size) (hn : n = l.length) :
    Calls Tryz.prog 38 #[.slice A n c, .int .i64 4] w fun e w' => RetB e (n ≤ 25 ∧ ∀ d ∈ l, d.name.size ≤ 60 ∧ d.steps.length ≤ 205) ∧ Below w.heap.size w w' := by
  have hn' := hide hn
  have Hs := hide h
  clear hn h
  by_cases hcut : n ≤ 4 ∨ (20 < n ∧ n ≤ 25)
  case neg =>
    have d1 : (decide (4 < (n : Int)) && decide ((n : Int) ≤ 20) || decide (25 < (n : Int))) = true := by
      simp only [Bool.or_eq_true, Bool.and_eq_true, zzJ]; omega
    go_enter Tryz.func38, Tryz.ntmps38
    go_wp2_with fail
    all_goals go_ret
    all_goals exact ⟨⟨_, rfl, fun h => by simp at h <;> omega⟩, Below.refl _ _⟩
  case pos =>
    have hn25 : n ≤ 25 := by omega
    clear hcut
    go_enter Tryz.func38, Tryz.ntmps38
    go_wp2_with fail
    any_goals (
      go_loopw [5] (fun i wr => ∃ k : Nat, k ≤ n ∧ i = .int .i64 k ∧ Hid (∀ d ∈ l.take k, d.name.size ≤ 60 ∧ d.steps.length ≤ 205) ∧ Below w.heap.size w wr) (fun i _ => n - (intOf i).toNat)
      case atStart => exact ⟨0, Nat.zero_le _, rfl, hide (by simp), Below.refl _ _⟩
      case round =>
        obtain ⟨k, hk, rfl, hq, hbr⟩ := hrel
        by_cases hlt : k < n
        · have HR := hide (Hs.out.carry demR_carried (hbr.mono hB) (Nat.le_refl B))
          obtain ⟨b, off, x, A', c', rfl, hbl, hx, hi, hcells⟩ := DemsAt.get (k := k) HR.out (by rw [← hn'.out]; exact hlt)
          have h0 := hcells 0 _ rfl
          have h7 := hcells 7 _ rfl
          rw [Nat.add_zero] at h0
          have Hnext := fun (hx1 : x.name.size ≤ 60) (hx2 : x.steps.length ≤ 205) => (show ∀ d ∈ l.take (k + 1), d.name.size ≤ 60 ∧ d.steps.length ≤ 205 by
            rw [take_snoc' hx]
            intro d hd
            rcases List.mem_append.1 hd with h | h
            · exact hq.out d h
            · obtain rfl := List.mem_singleton.1 h; exact ⟨hx1, hx2⟩)
          have Hnext := hide Hnext
          clear hx hi hcells hbl hq
          obtain ⟨name, zone, steps⟩ := x
          simp only [] at h0 h7 Hnext
          generalize steps.length = sl at *
          go_wp2_with fail
          all_goals first
            | (go_roundw
               case rel => exact ⟨k + 1, by omega, by go_num, hide (Hnext.out (by omega) (by omega)), hbr⟩
               case measure => simp [intOf]; omega)
            | (go_ret
               exact ⟨⟨false, rfl, fun h => by cases h⟩, hbr⟩)
        · obtain rfl : k = n := by omega
          have hfull := hide (show ∀ d ∈ l, d.name.size ≤ 60 ∧ d.steps.length ≤ 205 by have := hq.out; rwa [hn'.out, List.take_length] at this)
          go_wp2_with fail
          go_ret
          first
            | exact ⟨⟨true, rfl, fun _ => hfull.out⟩, hbr⟩
            | exact ⟨⟨true, rfl, fun _ => ⟨by omega, hfull.out⟩⟩, hbr⟩)
    all_goals go_ret
    all_goals exact ⟨⟨false, rfl, fun h => by cases h⟩, Below.refl _ _⟩
set_option maxHeartbeats 8000000 in
set_option maxRecDepth 100000 in
theorem small16_any (A : Option Addr) (l : List BarD) (n c : Nat) (A2 : Option Addr) (l2 : List RunD) (n2 c2 : Nat) (w : World) {B : Nat} (h : BarsAt w B A l) (h2 : RunsAt w B A2 l2) (hB : B ≤ w.heap.size) (hn : n = l.length) (hn2 : n2 = l2.length) :
    Calls Tryz.prog 37 #[.slice A n c, .slice A2 n2 c2, .int .i64 6, .int .i64 16] w fun e w' => RetB e (n ≤ 63 ∧ n2 ≤ 63 ∧ Tame l) ∧ Below w.heap.size w w' := by
  have hn' := hide hn
  have hn2' := hide hn2
  have Hs := hide h
  have H2 := hide h2
  clear hn hn2 h h2
  go_enter Tryz.func37, Tryz.ntmps37
  go_upto_region 1 with fail
  go_cut [41] from 12 (fun v W => (∃ t : Bool, v = .bool t ∧ Hid (t = false → n ≤ 63 ∧ n2 ≤ 63)) ∧ Below w.heap.size w W)
  case first =>
    go_wp2_with fail
    all_goals go_meet
    all_goals exact ⟨⟨_, rfl, hide (fun h => by simp at h <;> omega)⟩, Below.refl _ _⟩
  case rest =>
    obtain ⟨⟨t, rfl, ht⟩, hb⟩ := hcut
    cases t
    case true =>
      go_wp2_with fail
      go_ret
      exact ⟨⟨false, rfl, fun h => by cases h⟩, hb⟩
    case false =>
      obtain ⟨h63, h263⟩ := ht.out rfl
      clear ht
      have hb0 := hide hb
      clear hb
      go_wp2_with fail
      go_loopw [9] (fun i wr => ∃ k : Nat, k ≤ n ∧ i = .int .i64 k ∧ Hid (Tame (l.take k)) ∧ Below w.heap.size w wr) (fun i _ => n - (intOf i).toNat)
      case atStart => exact ⟨0, Nat.zero_le _, rfl, hide (by intro x hx; simp at hx), hb0.out⟩
      case round =>
        clear hb0
        obtain ⟨k, hk, rfl, hq, hbr⟩ := hrel
        by_cases hlt : k < n
        · have HR := hide (Hs.out.carry (hbr.mono hB) (Nat.le_refl B))
          obtain ⟨b, off, x, A', c', rfl, hbl, hx, hi, h0, h1, h2, h3, h4⟩ := BarsAt.get (k := k) HR.out (by rw [← hn'.out]; exact hlt)
          have Hnext := hide (fun (hx1 : x.dims.length ≤ 8 ∧ x.mark.size ≤ 60) => (show Tame (l.take (k + 1)) by
            rw [take_snoc' hx]
            intro d hd
            rcases List.mem_append.1 hd with h | h
            · exact hq.out d h
            · obtain rfl := List.mem_singleton.1 h; exact ⟨Nat.le_trans hx1.2 (by decide), by omega⟩))
          clear hx hi hbl hq
          obtain ⟨mark, size, cnt, code, dims⟩ := x
          simp only [] at h0 h1 h2 h3 h4 Hnext
          generalize dims.length = dl at *
          go_wp2_with fail
          refine (short_any mark size cnt code A' dl c' _).mono ?_
          rintro e w2 ⟨⟨t, rfl, ht⟩, hb2⟩
          have Hb2 := hide (hbr.trans (hb2.mono hbr.size))
          clear hb2
          cases t
          · clear ht Hnext
            go_wp2_with fail
            go_ret
            exact ⟨⟨false, rfl, fun h => by cases h⟩, Hb2.out⟩
          · have Hnext := hide (Hnext.out (ht rfl))
            clear ht
            go_wp2_with fail
            go_roundw
            case rel => exact ⟨k + 1, by omega, by go_num, Hnext, Hb2.out⟩
            case measure => simp [intOf]; omega
        · obtain rfl : k = n := by omega
          have HT := hide (show Tame l by have := hq.out; rwa [hn'.out, List.take_length] at this)
          have Hb0 := hide hbr
          clear hq hbr
          rename World => wo
          go_wp2_with fail
          go_loopw [10, 11] (fun v i wr => ∃ j : Nat, j ≤ n2 ∧ i = .int .i64 j ∧ (∃ t : Int, v = .int .i64 t ∧ 0 ≤ t ∧ t ≤ 16 * j) ∧ Below w.heap.size w wr) (fun _ i _ => n2 - (intOf i).toNat)
          case atStart => exact ⟨0, Nat.zero_le _, rfl, ⟨0, rfl, by omega, by omega⟩, Hb0.out⟩
          case round =>
            clear Hb0
            obtain ⟨j, hj, rfl, ⟨t, rfl, ht0, ht1⟩, hbr⟩ := hrel
            by_cases hlt : j < n2
            · obtain ⟨b, off, r, rfl, hbl, hx, hc⟩ := RunsAt.get (k := j) (H2.out.carry (Flat.carried _) (hbr.mono hB) (Nat.le_refl _)) (by rw [← hn2'.out]; exact hlt)
              obtain ⟨mark, tx, ty, ⟨a1, a2, a3⟩, ⟨s1, s2, s3⟩, cnt⟩ := r
              have p0 := hc 0 _ rfl
              have p9 := hc 9 _ rfl
              simp only [Nat.add_zero] at p0 p9
              clear hx hbl hc
              go_wp2_with fail
              all_goals first
                | (go_roundw
                   case rel => exact ⟨j + 1, by omega, by go_num, ⟨_, rfl, by omega, by omega⟩, hbr⟩
                   case measure => simp [intOf]; omega)
                | (go_ret
                   exact ⟨⟨false, rfl, fun h => by cases h⟩, hbr⟩)
            · obtain rfl : j = n2 := by omega
              go_wp2_with fail
              all_goals go_ret
              all_goals first
                | exact ⟨⟨_, rfl, fun _ => HT.out⟩, hbr⟩
                | exact ⟨⟨_, rfl, fun _ => ⟨h63, h263, HT.out⟩⟩, hbr⟩
                | exact ⟨⟨_, rfl, fun _ => ⟨by omega, by omega, HT.out⟩⟩, hbr⟩
theorem flatMap_put {α : Type} {enc : α → List Value} {size : Nat} (he : ∀ x, (enc x).length = size) {u : Value} {y : α} {j : Nat} (hj : j < size) :
  ∀ (l : List α) (i : Nat) (x : α), l[i]? = some x → enc y = (enc x).set j u → (l.set i y).flatMap enc = (l.flatMap enc).set (i * size + j) u := by
 intro l
 induction l with
 | nil => intro i x hx; cases hx
 | cons a l ih =>
  intro i x hx hy
  cases i with
  | zero =>
   injection hx with hx
   subst hx
   rw [zzE, List.flatMap_cons, List.flatMap_cons, hy, Nat.zero_mul, Nat.zero_add, List.set_append, if_pos (by rw [he]; exact hj)]
  | succ i =>
   rw [zzF, List.flatMap_cons, List.flatMap_cons, ih i x hx hy, List.set_append, if_neg (by rw [he, Nat.succ_mul]; omega), he]
   rw [show (i + 1) * size + j - size = i * size + j by rw [Nat.succ_mul]; omega]
theorem row_put {α : Type} {w : World} {base size : Nat} {e : TypeId} {enc : α → List Value} {A : Option Addr} {n c : Nat} {l : List α} (he : ∀ x, (enc x).length = size) (h : Row w base e size enc (.slice A n c) l) {i j : Nat} {x y : α} {u : Value}
  (hx : l[i]? = some x) (hj : j < size) (hy : enc y = (enc x).set j u) :
  ∃ g cs, A = some ⟨g, 0, none⟩ ∧ base ≤ g ∧ Blk w g e cs ∧ (∀ (k : Nat) (v : Value), (enc x)[k]? = some v → cs[i * size + k]? = some v) ∧ Row (w.setCell ⟨g, i * size + j, none⟩ u) base e size enc (.slice A n c) (l.set i y) := by
 have hlt := lt_of_get hx
 rcases h.2 with ⟨_, hn⟩ | ⟨g, cap, cur, hv, hb, hh, h1, h2, h3, ht⟩
 ·omega
 ·injection hv with hA hn hc
  refine ⟨g, cur, hA, hb, hh, fun k v hk => ?_, ?_, .inr ⟨g, cap, cur.setIfInBounds (i * size + j) u, ?_, hb, Blk.set_ hh _ u, ?_, h2, ?_, ?_⟩⟩
  ·have hq := flatMap_get he l i x hx k v hk
   rw [← ht, List.getElem?_take] at hq
   split at hq
   ·simpa using hq
   ·cases hq
  ·rw [flatMap_len he, List.length_set]
  ·rw [hA, hn, hc, List.length_set]
  ·rw [List.length_set]
   exact h1
  ·simpa using h3
  ·rw [flatMap_put he hj l i x hx hy, ← ht, List.length_set, Array.toList_setIfInBounds, List.take_set]
theorem grown_set (w : World) (g o : Nat) (u : Value) : w.grownBy (w.setCell ⟨g, o, none⟩ u) (some g) :=
 ⟨((Below.refl 0 w).setCell (p := ⟨g, o, none⟩) (Nat.zero_le _) u).os, ((Below.refl 0 w).setCell (p := ⟨g, o, none⟩) (Nat.zero_le _) u).tape, ((Below.refl 0 w).setCell (p := ⟨g, o, none⟩) (Nat.zero_le _) u).output, ((Below.refl 0 w).setCell (p := ⟨g, o, none⟩) (Nat.zero_le _) u).size,
  fun k _ hne => Below.heap_setCell w ⟨g, o, none⟩ u k (fun h => hne (by rw [h]))⟩
theorem grown_below {w w' : World} (h : Below w.heap.size w w') (row : Option Nat) : w.grownBy w' row := ⟨h.os, h.tape, h.output, h.size, fun k hk _ => h.block k hk⟩
theorem row_kept {α : Type} {w w' : World} {base size : Nat} {e : TypeId} {enc : α → List Value} {v : Value} {l : List α} {row : Option Nat} (h : Row w base e size enc v l) (hg : w.grownBy w' row) (hr : ∀ k, row = some k → Apart v k) : Row w' base e size enc v l :=
 World.ownsRow.kept h hg (by
  cases hv : v.ownBlock with
  | none => exact .inl rfl
  | some k => exact .inr (fun he => hr k he.symm hv))
theorem row_base {α : Type} {w : World} {base size : Nat} {e : TypeId} {enc : α → List Value} {v : Value} {l : List α} (h : Row w base e size enc v l) {k : Nat} (hk : k < base) : Apart v k := by
 intro he
 rcases h.2 with ⟨hv, _⟩ | ⟨g, cap, cur, hv, hb, _⟩
 ·rw [hv] at he
  cases he
 ·rw [hv] at he
  injection he with he
  simp only at he
  omega
structure InRow {α : Type} (w : World) (lo hi : Nat) (e : TypeId) (size : Nat) (enc : α → List Value) (v : Value) (l : List α) : Prop where
 row : Row w lo e size enc v l
 up : ∀ k, v.ownBlock = some k → k < hi
section
variable {α : Type} {w w' : World} {lo hi size : Nat} {e : TypeId} {enc : α → List Value} {v : Value} {l : List α}
theorem InRow.new (h : Row w lo e size enc v l) : InRow w lo w.heap.size e size enc v l := ⟨h, fun _ hk => Nat.lt_of_not_le (fun h9 => apart_new h h9 hk)⟩
theorem InRow.low (h : InRow w lo hi e size enc v l) {k : Nat} (hk : v.ownBlock = some k) : lo ≤ k := Nat.le_of_not_lt (fun h9 => row_base h.row h9 hk)
theorem InRow.keep (h : InRow w lo hi e size enc v l) (hb : Below w.heap.size w w') : InRow w' lo hi e size enc v l := ⟨h.row.keep hb, h.up⟩
theorem InRow.drew (h : InRow w lo hi e size enc v l) : InRow w.drew lo hi e size enc v l := ⟨h.row.drew, h.up⟩
theorem InRow.kept {row : Option Nat} (h : InRow w lo hi e size enc v l) (hg : w.grownBy w' row) (hr : ∀ k, row = some k → k < lo ∨ hi ≤ k) : InRow w' lo hi e size enc v l :=
 ⟨row_kept h.row hg (fun k hk he => by
  have h1 := h.low he
  have h2 := h.up k he
  have h3 := hr k hk
  omega), h.up⟩
theorem InRow.set_ (h : InRow w lo hi e size enc v l) {a : Addr} (ha : a.block < lo) (u : Value) : InRow (w.setCell a u) lo hi e size enc v l := ⟨ownsRow_setCell_below h.row ha u, h.up⟩
end
structure SubOwn {α β : Type} (t : TypeId) (size : Nat) (enc : β → List Value) (sl : α → Value) (ls : α → List β) (w : World) (lo : Nat) (L : List α) (i : Nat) : Prop where
 row : ∀ k p, k < i → L[k]? = some p → Row w lo t size enc (sl p) (ls p)
 far : ∀ j k p q, j < k → k < i → L[j]? = some p → L[k]? = some q → ∀ g, (sl p).ownBlock = some g → Apart (sl q) g
section
variable {α β : Type} {t : TypeId} {size : Nat} {enc : β → List Value} {sl : α → Value} {ls : α → List β} {w w' : World} {lo : Nat} {L : List α} {i : Nat}
theorem SubOwn.zero : SubOwn t size enc sl ls w lo L 0 := ⟨fun k _ h => absurd h (Nat.not_lt_zero k), fun _ k _ _ _ h => absurd h (Nat.not_lt_zero k)⟩
theorem SubOwn.kept {row : Option Nat} (h : SubOwn t size enc sl ls w lo L i) (hg : w.grownBy w' row) (hr : ∀ k, row = some k → k < lo) : SubOwn t size enc sl ls w' lo L i :=
 ⟨fun k p hk hp => row_kept (h.row k p hk hp) hg (fun g hg' => row_base (h.row k p hk hp) (hr g hg')), h.far⟩
theorem SubOwn.keep (h : SubOwn t size enc sl ls w lo L i) (hb : Below w.heap.size w w') : SubOwn t size enc sl ls w' lo L i := ⟨fun k p hk hp => (h.row k p hk hp).keep hb, h.far⟩
theorem SubOwn.step (h : SubOwn t size enc sl ls w lo L i) (hb : Below w.heap.size w w') {y : α} (hr : Row w' w.heap.size t size enc (sl y) (ls y)) (hlo : lo ≤ w.heap.size) (hi : i < L.length) : SubOwn t size enc sl ls w' lo (L.set i y) (i + 1) := by
 have old : ∀ k p, k < i → (L.set i y)[k]? = some p → L[k]? = some p := fun k p hk hp => by
  rw [List.getElem?_set_ne (by omega)] at hp
  exact hp
 have new : ∀ p, (L.set i y)[i]? = some p → p = y := fun p hp => by
  rw [List.getElem?_set_self hi] at hp
  exact (Option.some.inj hp).symm
 refine ⟨fun k p hk hp => ?_, fun j k p q hj hk hp hq g hg => ?_⟩
 ·rcases Nat.lt_or_ge k i with h1 | h1
  ·exact (h.row k p h1 (old k p h1 hp)).keep hb
  ·obtain rfl : k = i := by omega
   obtain rfl := new p hp
   refine ⟨hr.1, ?_⟩
   rcases hr.2 with h2 | ⟨g, cap, cur, h2, h3, r⟩
   ·exact .inl h2
   ·exact .inr ⟨g, cap, cur, h2, Nat.le_trans hlo h3, r⟩
 ·rcases Nat.lt_or_ge k i with h1 | h1
  ·exact h.far j k p q hj h1 (old j p (by omega) hp) (old k q h1 hq) g hg
  ·obtain rfl : k = i := by omega
   obtain rfl := new q hq
   refine row_base hr ?_
   rcases Nat.lt_or_ge g w.heap.size with h2 | h2
   ·exact h2
   ·exact absurd hg (apart_new (h.row j p hj (old j p hj hp)) h2)
theorem SubOwn.up (h : SubOwn t size enc sl ls w lo L i) {k : Nat} {p : α} (hk : k < i) (hp : L[k]? = some p) {g : Nat} (hg : (sl p).ownBlock = some g) : g < w.heap.size := Nat.lt_of_not_le (fun h9 => apart_new (h.row k p hk hp) h9 hg)
end
structure SubIn {α β : Type} (t : TypeId) (size : Nat) (enc : β → List Value) (sl : α → Value) (ls : α → List β) (w : World) (lo hi : Nat) (L : List α) : Prop where
 own : SubOwn t size enc sl ls w lo L L.length
 up : ∀ (k : Nat) (p : α) (g : Nat), L[k]? = some p → (sl p).ownBlock = some g → g < hi
theorem SubIn.of {α β : Type} {t : TypeId} {size : Nat} {enc : β → List Value} {sl : α → Value} {ls : α → List β} {w : World} {lo i : Nat} {L : List α} (h : SubOwn t size enc sl ls w lo L i) (hi : i = L.length) : SubIn t size enc sl ls w lo w.heap.size L := by
 subst hi
 exact ⟨h, fun k p g hp hg => h.up (lt_of_get hp) hp hg⟩
theorem SubIn.kept {α β : Type} {t : TypeId} {size : Nat} {enc : β → List Value} {sl : α → Value} {ls : α → List β} {w w' : World} {lo hi : Nat} {L : List α} {row : Option Nat} (h : SubIn t size enc sl ls w lo hi L) (hg : w.grownBy w' row) (hr : ∀ k, row = some k → k < lo ∨ hi ≤ k) : SubIn t size enc sl ls w' lo hi L :=
 ⟨⟨fun k p hk hp => row_kept (h.own.row k p hk hp) hg (fun g hg' he => by
   have h1 := hr g hg'
   have h2 := h.up k p g hp he
   have h3 : lo ≤ g := Nat.le_of_not_lt (fun h9 => row_base (h.own.row k p hk hp) h9 he)
   omega), h.own.far⟩, h.up⟩
structure OwnDet (w : World) (lo : Nat) (x : DetD) (s : DetS) (b : Nat → Nat) (LB : List BarX) (LD : List DemX) : Prop where
 low : lo ≤ b 0
 up : ∀ i, b i ≤ b (i + 1)
 r1 : InRow w (b 0) (b 1) 62 6 encB (.slice s.a1 s.n1 s.c1) x.mem.boxes
 r2 : InRow w (b 1) (b 2) 62 6 encB (.slice s.a2 s.n2 s.c2) x.mem.holes
 r3 : InRow w (b 2) (b 3) 50 5 encBarX (.slice s.a3 s.n3 s.c3) LB
 r4 : InRow w (b 3) (b 4) 66 10 encRun (.slice s.a4 s.n4 s.c4) x.runs
 r5 : InRow w (b 4) (b 5) 73 2 encJoin (.slice s.a5 s.n5 s.c5) x.laps
 r6 : InRow w (b 5) (b 6) 69 8 encDemX (.slice s.a6 s.n6 s.c6) LD
 m3 : LB.map (·.1) = x.bars
 m6 : LD.map (·.1) = x.dems
 d3 : SubIn 3 1 encInt (fun p : BarX => Value.slice p.2.1 p.1.dims.length p.2.2) (fun p => p.1.dims) w (b 6) (b 7) LB
 d6 : SubIn 71 2 encStp (fun p : DemX => Value.slice p.2.1 p.1.steps.length p.2.2) (fun p => p.1.steps) w (b 7) (b 8) LD
theorem OwnDet.from0 {w : World} {lo : Nat} {x : DetD} {s : DetS} {b : Nat → Nat} {LB : List BarX} {LD : List DemX} (h : OwnDet w lo x s b LB LD) : ∀ i, b 0 ≤ b i
 | 0 => Nat.le_refl _
 | i + 1 => Nat.le_trans (h.from0 i) (h.up i)
theorem OwnDet.kept {w w' : World} {lo : Nat} {x : DetD} {s : DetS} {b : Nat → Nat} {LB : List BarX} {LD : List DemX} {row : Option Nat} (h : OwnDet w lo x s b LB LD) (hg : w.grownBy w' row) (hr : ∀ k, row = some k → k < b 0) : OwnDet w' lo x s b LB LD := by
 have key : ∀ i j k, row = some k → k < b i ∨ b j ≤ k := fun i _ k hk => .inl (Nat.lt_of_lt_of_le (hr k hk) (h.from0 i))
 exact ⟨h.low, h.up, h.r1.kept hg (key 0 1), h.r2.kept hg (key 1 2), h.r3.kept hg (key 2 3), h.r4.kept hg (key 3 4), h.r5.kept hg (key 4 5), h.r6.kept hg (key 5 6), h.m3, h.m6, h.d3.kept hg (key 6 7), h.d6.kept hg (key 7 8)⟩
theorem InRow.mono {α : Type} {w : World} {lo hi lo' hi' size : Nat} {e : TypeId} {enc : α → List Value} {v : Value} {l : List α} (h : InRow w lo hi e size enc v l) (h1 : lo' ≤ lo) (h2 : hi ≤ hi') : InRow w lo' hi' e size enc v l := by
 refine ⟨⟨h.row.1, ?_⟩, fun k hk => Nat.lt_of_lt_of_le (h.up k hk) h2⟩
 rcases h.row.2 with h3 | ⟨g, cap, cur, h3, h4, r⟩
 ·exact .inl h3
 ·exact .inr ⟨g, cap, cur, h3, Nat.le_trans h1 h4, r⟩
theorem grown_row (w : World) (g : Nat) (cs : Array Value) : w.grownBy (w.setRow g cs) (some g) :=
 ⟨(Below.setRow (Below.refl 0 w) (Nat.zero_le g) cs).os, (Below.setRow (Below.refl 0 w) (Nat.zero_le g) cs).tape, (Below.setRow (Below.refl 0 w) (Nat.zero_le g) cs).output, (Below.setRow (Below.refl 0 w) (Nat.zero_le g) cs).size,
  fun k _ hne => setRow_other w g k cs (fun h => hne (by rw [h]))⟩
def nine (b0 b1 b2 b3 b4 b5 b6 b7 b8 : Nat) : Nat → Nat
 | 0 => b0
 | 1 => b1
 | 2 => b2
 | 3 => b3
 | 4 => b4
 | 5 => b5
 | 6 => b6
 | 7 => b7
 | _ + 8 => b8
theorem nine_up {b0 b1 b2 b3 b4 b5 b6 b7 b8 : Nat} (h0 : b0 ≤ b1) (h1 : b1 ≤ b2) (h2 : b2 ≤ b3) (h3 : b3 ≤ b4) (h4 : b4 ≤ b5) (h5 : b5 ≤ b6) (h6 : b6 ≤ b7) (h7 : b7 ≤ b8) : ∀ i, nine b0 b1 b2 b3 b4 b5 b6 b7 b8 i ≤ nine b0 b1 b2 b3 b4 b5 b6 b7 b8 (i + 1)
 | 0 => h0
 | 1 => h1
 | 2 => h2
 | 3 => h3
 | 4 => h4
 | 5 => h5
 | 6 => h6
 | 7 => h7
 | _ + 8 => Nat.le_refl _
theorem refPlus_any (p s : Pt) (w : World) (hp : nearBy 1099511627776 p = true) (hs : nearBy 1099511627776 s = true) :
  Calls Tryz.prog 208 #[ptA p, ptA s] w fun e w' => e = .returned (ptA (addP p s)) ∧ Below w.heap.size w w' := by
 obtain ⟨p1, p2, p3⟩ := p
 obtain ⟨x1, x2, x3⟩ := s
 obtain ⟨⟨r1, r2⟩, ⟨r3, r4⟩, r5, r6⟩ := nearBy_iff.1 hp
 obtain ⟨⟨t1, t2⟩, ⟨t3, t4⟩, t5, t6⟩ := nearBy_iff.1 hs
 simp only at r1 r2 r3 r4 r5 r6 t1 t2 t3 t4 t5 t6
 have z1 : IntKind.i64.wrap (p1 + x1) = p1 + x1 := IntWalk.i64_in _ (by omega)
 have z2 : IntKind.i64.wrap (p2 + x2) = p2 + x2 := IntWalk.i64_in _ (by omega)
 have z3 : IntKind.i64.wrap (p3 + x3) = p3 + x3 := IntWalk.i64_in _ (by omega)
 have kR := hide (Blk.new2 w (.cells #[.int .i64 p1, .int .i64 p2, .int .i64 p3] 60) (.cells #[.int .i64 x1, .int .i64 x2, .int .i64 x3] 60) 60 #[.int .i64 (p1 + x1), .int .i64 (p2 + x2), .int .i64 (p3 + x3)])
 have hB := hide ((below_new2 w (.cells #[.int .i64 p1, .int .i64 p2, .int .i64 p3] 60) (.cells #[.int .i64 x1, .int .i64 x2, .int .i64 x3] 60)).alloc (by simp; omega) (.cells #[.int .i64 (p1 + x1), .int .i64 (p2 + x2), .int .i64 (p3 + x3)] 60))
 clear hp hs
 show Calls Tryz.prog 208 #[.agg #[.int .i64 p1, .int .i64 p2, .int .i64 p3], .agg #[.int .i64 x1, .int .i64 x2, .int .i64 x3]] w _
 go_enter Tryz.func208, Tryz.ntmps208
 go_wp2_with fail
 refine bodyPost_ret (results_c rfl rfl kR.out Tryz.underlying60 rfl (by kernel_rfl)) rfl ?_
 exact ⟨rfl, hB.out⟩
theorem refTimes_any (n : Int) (p : Pt) (w : World) (hs : nearBy 1099511627776 (mulP n p) = true) :
  Calls Tryz.prog 259 #[.int .i64 n, ptA p] w fun e w' => e = .returned (ptA (mulP n p)) ∧ Below w.heap.size w w' := by
 obtain ⟨x1, x2, x3⟩ := p
 obtain ⟨⟨t1, t2⟩, ⟨t3, t4⟩, t5, t6⟩ := nearBy_iff.1 hs
 simp only [mulP] at t1 t2 t3 t4 t5 t6
 have s1 : IntKind.i64.wrap (n * x1) = n * x1 := IntWalk.i64_in _ (by omega)
 have s2 : IntKind.i64.wrap (n * x2) = n * x2 := IntWalk.i64_in _ (by omega)
 have s3 : IntKind.i64.wrap (n * x3) = n * x3 := IntWalk.i64_in _ (by omega)
 have kR := hide (Blk.new1 w (.cells #[.int .i64 x1, .int .i64 x2, .int .i64 x3] 60) 60 #[.int .i64 (n * x1), .int .i64 (n * x2), .int .i64 (n * x3)])
 have hB := hide (below_new2 w (.cells #[.int .i64 x1, .int .i64 x2, .int .i64 x3] 60) (.cells #[.int .i64 (n * x1), .int .i64 (n * x2), .int .i64 (n * x3)] 60))
 clear hs
 show Calls Tryz.prog 259 #[.int .i64 n, .agg #[.int .i64 x1, .int .i64 x2, .int .i64 x3]] w _
 go_enter Tryz.func259, Tryz.ntmps259
 go_wp2_with fail
 refine bodyPost_ret (results_c rfl rfl kR.out Tryz.underlying60 rfl (by kernel_rfl)) rfl ?_
 exact ⟨rfl, hB.out⟩
theorem refTimes16_any (n : Int) (p : Pt) (w : World) (hs : nearBy 1099511627776 (mulP n p) = true) :
  Calls Tryz.prog 209 #[ptA p, .int .i64 n] w fun e w' => e = .returned (ptA (mulP n p)) ∧ Below w.heap.size w w' := by
 obtain ⟨x1, x2, x3⟩ := p
 obtain ⟨⟨t1, t2⟩, ⟨t3, t4⟩, t5, t6⟩ := nearBy_iff.1 hs
 simp only [mulP] at t1 t2 t3 t4 t5 t6
 have m1 : x1 * n = n * x1 := Int.mul_comm _ _
 have m2 : x2 * n = n * x2 := Int.mul_comm _ _
 have m3 : x3 * n = n * x3 := Int.mul_comm _ _
 rw [← m1] at t1 t2
 rw [← m2] at t3 t4
 rw [← m3] at t5 t6
 have s1 : IntKind.i64.wrap (x1 * n) = x1 * n := IntWalk.i64_in _ (by omega)
 have s2 : IntKind.i64.wrap (x2 * n) = x2 * n := IntWalk.i64_in _ (by omega)
 have s3 : IntKind.i64.wrap (x3 * n) = x3 * n := IntWalk.i64_in _ (by omega)
 have kR := hide (Blk.new1 w (.cells #[.int .i64 x1, .int .i64 x2, .int .i64 x3] 60) 60 #[.int .i64 (x1 * n), .int .i64 (x2 * n), .int .i64 (x3 * n)])
 have hB := hide (below_new2 w (.cells #[.int .i64 x1, .int .i64 x2, .int .i64 x3] 60) (.cells #[.int .i64 (x1 * n), .int .i64 (x2 * n), .int .i64 (x3 * n)] 60))
 have hM := hide (show mulP n (x1, x2, x3) = (x1 * n, x2 * n, x3 * n) by simp only [mulP, m1, m2, m3])
 clear hs m1 m2 m3
 show Calls Tryz.prog 209 #[.agg #[.int .i64 x1, .int .i64 x2, .int .i64 x3], .int .i64 n] w _
 go_enter Tryz.func209, Tryz.ntmps209
 go_wp2_with fail
 refine bodyPost_ret (results_c rfl rfl kR.out Tryz.underlying60 rfl (by kernel_rfl)) rfl ?_
 refine ⟨?_, hB.out⟩
 rw [hM.out]
set_option maxHeartbeats 1000000 in
theorem refUnitP_any (n : Int) (w : World) (h : n = 1 ∨ n = 2 ∨ n = 3) : Calls Tryz.prog 258 #[.int .i64 n] w fun e w' => e = .returned (ptA (unitV n)) ∧ Below w.heap.size w w' := by
 rcases h with rfl | rfl | rfl
 all_goals
  go_enter Tryz.func258, Tryz.ntmps258
  go_wp2_with fail
  refine bodyPost_ret (results_c rfl rfl (Blk.new w _ _) Tryz.underlying60 rfl (by kernel_rfl)) rfl ?_
  exact ⟨rfl, below_new w _⟩
set_option maxHeartbeats 1000000 in
theorem refUnit_any (n : Int) (w : World) (h : axis6 n) : Calls Tryz.prog 258 #[.int .i64 n] w fun e w' => e = .returned (ptA (unitV n)) ∧ Below w.heap.size w w' := by
 by_cases hp : 0 < n
 ·refine refUnitP_any n w ?_
  unfold axis6 at h
  omega
 have H1 := hide (fun W => (show Calls Tryz.prog 258 #[.int .i64 1] W fun e w' => e = .returned (.agg #[.int .i64 1, .int .i64 0, .int .i64 0]) ∧ Below W.heap.size W w' from refUnitP_any 1 W (.inl rfl)))
 have H2 := hide (fun W => (show Calls Tryz.prog 258 #[.int .i64 2] W fun e w' => e = .returned (.agg #[.int .i64 0, .int .i64 1, .int .i64 0]) ∧ Below W.heap.size W w' from refUnitP_any 2 W (.inr (.inl rfl))))
 have H3 := hide (fun W => (show Calls Tryz.prog 258 #[.int .i64 3] W fun e w' => e = .returned (.agg #[.int .i64 0, .int .i64 0, .int .i64 1]) ∧ Below W.heap.size W w' from refUnitP_any 3 W (.inr (.inr rfl))))
 have hn : n = -1 ∨ n = -2 ∨ n = -3 := by unfold axis6 at h; omega
 clear h hp
 have KR := hide (Blk.new w 60 #[.int .i64 0, .int .i64 0, .int .i64 0])
 have HW := hide (below_new w (.cells #[.int .i64 0, .int .i64 0, .int .i64 0] 60))
 rcases hn with rfl | rfl | rfl
 all_goals
  go_enter Tryz.func258, Tryz.ntmps258
  go_wp2_with fail
  first | with_reducible refine (H1.out _).mono ?_ | with_reducible refine (H2.out _).mono ?_ | with_reducible refine (H3.out _).mono ?_
  rintro e w1 ⟨rfl, hb⟩
  have KR := hide (KR.out.keep hb)
  have HW := hide (below_step HW.out hb (Nat.le_refl _))
  clear hb H1 H2 H3
  have d0 := KR.out.cell 0
  have d1 := KR.out.cell 1
  have d2 := KR.out.cell 2
  have f0 := KR.out.frozen 0
  have f1 := KR.out.frozen 1
  have f2 := KR.out.frozen 2
  simp at d0 d1 d2
  have lk := KR.out.lt
  go_wp2_with fail
  refine bodyPost_ret (results_c rfl rfl ((((KR.out.set_ 0 _).set_ 1 _).set_ 2 _).alloc _) Tryz.underlying60 rfl (by kernel_rfl)) rfl ?_
  refine ⟨?_, (((HW.out.setCell (p := ⟨w.heap.size, 0, none⟩) (Nat.le_refl _) _).setCell (p := ⟨w.heap.size, 1, none⟩) (Nat.le_refl _) _).setCell (p := ⟨w.heap.size, 2, none⟩) (Nat.le_refl _) _).alloc (by have := HW.out.size; simpa using this) _⟩
  simp only [zzD, zzE, zzF]
  rfl
set_option maxHeartbeats 4000000 in
set_option maxRecDepth 100000 in
theorem refCross_any (a b : Pt) (w : World) (ha : unitish a) (hb : unitish b) :
  Calls Tryz.prog 260 #[ptA a, ptA b] w fun e w' => e = .returned (ptA (crossV a b)) ∧ Below w.heap.size w w' := by
 obtain ⟨a1, a2, a3⟩ := a
 obtain ⟨b1, b2, b3⟩ := b
 obtain ⟨x1, x2, x3⟩ := ha
 obtain ⟨y1, y2, y3⟩ := hb
 simp only at x1 x2 x3 y1 y2 y3
 have m1 := mul1_bound x2 y3
 have m2 := mul1_bound x3 y2
 have m3 := mul1_bound x3 y1
 have m4 := mul1_bound x1 y3
 have m5 := mul1_bound x1 y2
 have m6 := mul1_bound x2 y1
 go_enter Tryz.func260, Tryz.ntmps260
 go_wp2_with fail
 refine bodyPost_ret (results_c rfl rfl (Blk.new2 w _ _ _ _) Tryz.underlying60 rfl (by kernel_rfl)) rfl ?_
 exact ⟨rfl, (below_new2 w _ _).alloc (by simp; omega) _⟩
theorem lin_sum {x y : Int} (p : Pt) : imgV x y p = addP (mulP p.1 (unitV x)) (addP (mulP p.2.1 (unitV y)) (mulP p.2.2 (crossV (unitV x) (unitV y)))) := by
 simp only [imgV, linV, addP, mulP, Prod.mk.injEq]
 refine ⟨?_, ?_, ?_⟩ <;> rw [Int.mul_comm p.1, Int.mul_comm p.2.1, Int.mul_comm p.2.2, Int.add_assoc]
theorem near_mul {n m : Int} {a : Pt} (ha : unitish a) (hn : -m ≤ n ∧ n ≤ m) (hm : 0 ≤ m) : nearBy m (mulP n a) = true := by
 obtain ⟨a1, a2, a3⟩ := ha
 have h1 := mulM_bound a1 hn hm
 have h2 := mulM_bound a2 hn hm
 have h3 := mulM_bound a3 hn hm
 rw [nearBy_iff]
 simp only [mulP]
 rw [Int.mul_comm n, Int.mul_comm n, Int.mul_comm n]
 exact ⟨h1, h2, h3⟩
theorem near_add {m n : Int} {p q : Pt} (hp : nearBy m p = true) (hq : nearBy n q = true) : nearBy (m + n) (addP p q) = true := by
 have h1 := nearBy_iff.1 hp
 have h2 := nearBy_iff.1 hq
 rw [nearBy_iff]
 simp only [addP]
 omega
def ImgR (w W : World) : Prop := (∃ u0 u1 u2, Blk W (w.heap.size + 1 + 1) 60 #[u0, u1, u2]) ∧ Below w.heap.size w W
theorem ImgR.step {w W wz : World} (h : ImgR w W) (hb : Below W.heap.size W wz) : ImgR w wz := by
 obtain ⟨⟨u0, u1, u2, hk⟩, hw⟩ := h
 exact ⟨⟨u0, u1, u2, hk.keep hb⟩, below_step hw hb (Nat.le_refl _)⟩
theorem ImgR.drew {w W : World} (h : ImgR w W) : ImgR w W.drew := by
 obtain ⟨⟨u0, u1, u2, hk⟩, hw⟩ := h
 exact ⟨⟨u0, u1, u2, hk.drew⟩, hw.drew⟩
theorem ImgR.store {w W : World} (h : ImgR w W) (x y z : Value) : ImgR w (((W.setCell ⟨w.heap.size + 1 + 1, 0, none⟩ x).setCell ⟨w.heap.size + 1 + 1, 1, none⟩ y).setCell ⟨w.heap.size + 1 + 1, 2, none⟩ z) := by
 obtain ⟨⟨u0, u1, u2, hk⟩, hw⟩ := h
 have h1 := ((hk.set_ 0 x).set_ 1 y).set_ 2 z
 simp only [zzD, zzE, zzF] at h1
 exact ⟨⟨x, y, z, h1⟩, ((hw.setCell (p := ⟨w.heap.size + 1 + 1, 0, none⟩) (by show w.heap.size ≤ w.heap.size + 1 + 1; omega) x).setCell (p := ⟨w.heap.size + 1 + 1, 1, none⟩) (by show w.heap.size ≤ w.heap.size + 1 + 1; omega) y).setCell (p := ⟨w.heap.size + 1 + 1, 2, none⟩) (by show w.heap.size ≤ w.heap.size + 1 + 1; omega) z⟩
theorem ImgR.facts {w W : World} (h : ImgR w W) : ∃ u0 u1 u2, W.cell? ⟨w.heap.size + 1 + 1, 0, none⟩ = some u0 ∧ W.cell? ⟨w.heap.size + 1 + 1, 1, none⟩ = some u1 ∧ W.cell? ⟨w.heap.size + 1 + 1, 2, none⟩ = some u2 ∧ W.frozen? ⟨w.heap.size + 1 + 1, 0, none⟩ = false ∧ W.frozen? ⟨w.heap.size + 1 + 1, 1, none⟩ = false ∧ W.frozen? ⟨w.heap.size + 1 + 1, 2, none⟩ = false := by
 obtain ⟨⟨u0, u1, u2, hk⟩, hw⟩ := h
 exact ⟨u0, u1, u2, hk.cell 0, hk.cell 1, hk.cell 2, hk.frozen 0, hk.frozen 1, hk.frozen 2⟩
theorem kc {W wz : World} {g i : Nat} {v : Value} (h : W.cell? ⟨g, i, none⟩ = some v) (hb : Below W.heap.size W wz) : wz.cell? ⟨g, i, none⟩ = some v := (hb.cell (p := ⟨g, i, none⟩) (lt_of_cell h)).trans h
theorem ks {W : World} {k g i : Nat} {v : Value} (hne : k ≠ g) (h : W.cell? ⟨g, i, none⟩ = some v) (x y z : Value) : (((W.setCell ⟨k, 0, none⟩ x).setCell ⟨k, 1, none⟩ y).setCell ⟨k, 2, none⟩ z).cell? ⟨g, i, none⟩ = some v :=
 cell_oth (.inl (Ne.symm hne)) (cell_oth (.inl (Ne.symm hne)) (cell_oth (.inl (Ne.symm hne)) h))
set_option maxHeartbeats 4000000 in
set_option maxRecDepth 100000 in
theorem refImage_any (x y : Int) (p : Pt) (w : World) (h : turnOk x y = true) (hp : nearBy 1048576 p = true) :
  Calls Tryz.prog 210 #[.agg #[.int .i64 x, .int .i64 y], ptA p] w fun e w' => e = .returned (ptA (imgV x y p)) ∧ Below w.heap.size w w' := by
 have hx : axis6 x := by
  simp only [turnOk, Bool.and_eq_true] at h
  exact axis6_of h.1.1.1
 have hy : axis6 y := by
  simp only [turnOk, Bool.and_eq_true] at h
  exact axis6_of h.1.1.2
 obtain ⟨HP1, HP2, HP3⟩ := nearBy_iff.1 hp
 have n1 := near_mul (unitish_of hx) HP1 (by omega)
 have n2 := near_mul (unitish_of hy) HP2 (by omega)
 have n3 := near_mul (cross_unit h) HP3 (by omega)
 have n4 := near_add n2 n3
 have HX := hide (fun (w : World) => refUnit_any x w hx)
 have HY := hide (fun (w : World) => refUnit_any y w hy)
 have HC := hide (fun (w : World) => refCross_any (unitV x) (unitV y) w (unitish_of hx) (unitish_of hy))
 have HT1 := hide (fun (w : World) => refTimes_any p.1 (unitV x) w (nearBy_mono n1 (by omega)))
 have HT2 := hide (fun (w : World) => refTimes_any p.2.1 (unitV y) w (nearBy_mono n2 (by omega)))
 have HT3 := hide (fun (w : World) => refTimes_any p.2.2 (crossV (unitV x) (unitV y)) w (nearBy_mono n3 (by omega)))
 have HS1 := hide (fun (w : World) => refPlus_any (mulP p.2.1 (unitV y)) (mulP p.2.2 (crossV (unitV x) (unitV y))) w (nearBy_mono n2 (by omega)) (nearBy_mono n3 (by omega)))
 have HS2 := hide (fun (w : World) => refPlus_any (mulP p.1 (unitV x)) (addP (mulP p.2.1 (unitV y)) (mulP p.2.2 (crossV (unitV x) (unitV y)))) w (nearBy_mono n1 (by omega)) (nearBy_mono n4 (by omega)))
 rw [lin_sum]
 generalize addP (mulP p.1 (unitV x)) (addP (mulP p.2.1 (unitV y)) (mulP p.2.2 (crossV (unitV x) (unitV y)))) = R at *
 generalize addP (mulP p.2.1 (unitV y)) (mulP p.2.2 (crossV (unitV x) (unitV y))) = S at *
 generalize mulP p.1 (unitV x) = T1 at *
 generalize mulP p.2.1 (unitV y) = T2 at *
 generalize mulP p.2.2 (crossV (unitV x) (unitV y)) = T3 at *
 generalize crossV (unitV x) (unitV y) = c at *
 generalize unitV x = a at *
 generalize unitV y = b at *
 clear n1 n2 n3 n4 h hp hx hy HP1 HP2 HP3
 obtain ⟨p1, p2, p3⟩ := p
 obtain ⟨a1, a2, a3⟩ := a
 obtain ⟨b1, b2, b3⟩ := b
 obtain ⟨c1, c2, c3⟩ := c
 obtain ⟨t1, t2, t3⟩ := T1
 obtain ⟨u1, u2, u3⟩ := T2
 obtain ⟨v1, v2, v3⟩ := T3
 obtain ⟨s1, s2, s3⟩ := S
 obtain ⟨r1, r2, r3⟩ := R
 simp only [ptA] at HX HY HC HT1 HT2 HT3 HS1 HS2 ⊢
 have KT := hide ((((Blk.new w 64 #[.int .i64 x, .int .i64 y]).alloc (.cells #[.int .i64 p1, .int .i64 p2, .int .i64 p3] 60)).alloc (.cells #[.int .i64 0, .int .i64 0, .int .i64 0] 60)))
 have KP := hide ((Blk.new1 w (.cells #[.int .i64 x, .int .i64 y] 64) 60 #[.int .i64 p1, .int .i64 p2, .int .i64 p3]).alloc (.cells #[.int .i64 0, .int .i64 0, .int .i64 0] 60))
 have KR := hide (Blk.new2 w (.cells #[.int .i64 x, .int .i64 y] 64) (.cells #[.int .i64 p1, .int .i64 p2, .int .i64 p3] 60) 60 #[.int .i64 0, .int .i64 0, .int .i64 0])
 have HW := hide ((below_new2 w (.cells #[.int .i64 x, .int .i64 y] 64) (.cells #[.int .i64 p1, .int .i64 p2, .int .i64 p3] 60)).alloc (by simp; omega) (.cells #[.int .i64 0, .int .i64 0, .int .i64 0] 60))
 go_enter Tryz.func210, Tryz.ntmps210
 go_wp2_with fail
 refine (HX.out _).mono ?_
 rintro e w1 ⟨rfl, hb⟩
 have KT := hide ((KT.out.keep hb).alloc (.cells #[.int .i64 a1, .int .i64 a2, .int .i64 a3] 60))
 have KP := hide ((KP.out.keep hb).alloc (.cells #[.int .i64 a1, .int .i64 a2, .int .i64 a3] 60))
 have KR := hide ((KR.out.keep hb).alloc (.cells #[.int .i64 a1, .int .i64 a2, .int .i64 a3] 60))
 have KA := hide (Blk.new w1 60 #[.int .i64 a1, .int .i64 a2, .int .i64 a3])
 have HW1 := hide (below_step HW.out hb (Nat.le_refl _))
 have HW := hide (HW1.out.alloc HW1.out.size (.cells #[.int .i64 a1, .int .i64 a2, .int .i64 a3] 60))
 have hb1' := hb.size
 clear hb HX HW1
 have e1 := KT.out.cell 1
 simp at e1
 have lt := KT.out.lt
 go_wp2_with fail
 refine (HY.out _).mono ?_
 rintro e w2 ⟨rfl, hb⟩
 have KP := hide ((KP.out.keep hb).alloc (.cells #[.int .i64 b1, .int .i64 b2, .int .i64 b3] 60))
 have KR := hide ((KR.out.keep hb).alloc (.cells #[.int .i64 b1, .int .i64 b2, .int .i64 b3] 60))
 have KA := hide ((KA.out.keep hb).alloc (.cells #[.int .i64 b1, .int .i64 b2, .int .i64 b3] 60))
 have KB := hide (Blk.new w2 60 #[.int .i64 b1, .int .i64 b2, .int .i64 b3])
 have HW1 := hide (below_step HW.out hb (Nat.le_refl _))
 have HW := hide (HW1.out.alloc HW1.out.size (.cells #[.int .i64 b1, .int .i64 b2, .int .i64 b3] 60))
 have hgA : w.heap.size + 2 < w1.heap.size := by
  have := hb1'
  simp at this
  omega
 have hgB : w1.heap.size < w2.heap.size := by
  have := hb.size
  simp at this
  omega
 clear hb HY e1 lt KT HW1
 obtain ⟨wa, hwa⟩ : ∃ wa, wa = w2.alloc (.cells #[.int .i64 b1, .int .i64 b2, .int .i64 b3] 60) := ⟨_, rfl⟩
 go_wp2_with fail
 rw [← hwa] at KP KR KA KB HW ⊢
 clear hwa
 have x0 := KP.out.cell 0
 have x1 := KP.out.cell 1
 have x2 := KP.out.cell 2
 have y0 := KA.out.cell 0
 have y1 := KA.out.cell 1
 have y2 := KA.out.cell 2
 have z0 := KB.out.cell 0
 have z1 := KB.out.cell 1
 have z2 := KB.out.cell 2
 simp at x0 x1 x2 y0 y1 y2 z0 z1 z2
 have KR := hide (show Blk wa (w.heap.size + 1 + 1) 60 #[.int .i64 0, .int .i64 0, .int .i64 0] from KR.out)
 have l1 := KP.out.lt
 have l2 := KA.out.lt
 have l3 := KB.out.lt
 have hR0 : ImgR w wa := ⟨⟨_, _, _, KR.out⟩, HW.out⟩
 have hg1 : w.heap.size + 1 + 1 ≠ w1.heap.size := by have := hgA; omega
 have hg2 : w.heap.size + 1 + 1 ≠ w2.heap.size := by have := hgB; omega
 have KC := hide (fun (W wz : World) (hS : W.cell? ⟨w.heap.size + 1, 0, none⟩ = some (.int .i64 p1) ∧ W.cell? ⟨w.heap.size + 1, 1, none⟩ = some (.int .i64 p2) ∧ W.cell? ⟨w.heap.size + 1, 2, none⟩ = some (.int .i64 p3) ∧ W.cell? ⟨w1.heap.size, 0, none⟩ = some (.int .i64 a1) ∧ W.cell? ⟨w1.heap.size, 1, none⟩ = some (.int .i64 a2) ∧ W.cell? ⟨w1.heap.size, 2, none⟩ = some (.int .i64 a3) ∧ W.cell? ⟨w2.heap.size, 0, none⟩ = some (.int .i64 b1) ∧ W.cell? ⟨w2.heap.size, 1, none⟩ = some (.int .i64 b2) ∧ W.cell? ⟨w2.heap.size, 2, none⟩ = some (.int .i64 b3) ∧ ImgR w W) (hbz : Below W.heap.size W wz) => show wz.cell? ⟨w.heap.size + 1, 0, none⟩ = some (.int .i64 p1) ∧ wz.cell? ⟨w.heap.size + 1, 1, none⟩ = some (.int .i64 p2) ∧ wz.cell? ⟨w.heap.size + 1, 2, none⟩ = some (.int .i64 p3) ∧ wz.cell? ⟨w1.heap.size, 0, none⟩ = some (.int .i64 a1) ∧ wz.cell? ⟨w1.heap.size, 1, none⟩ = some (.int .i64 a2) ∧ wz.cell? ⟨w1.heap.size, 2, none⟩ = some (.int .i64 a3) ∧ wz.cell? ⟨w2.heap.size, 0, none⟩ = some (.int .i64 b1) ∧ wz.cell? ⟨w2.heap.size, 1, none⟩ = some (.int .i64 b2) ∧ wz.cell? ⟨w2.heap.size, 2, none⟩ = some (.int .i64 b3) ∧ ImgR w wz from
  ⟨kc hS.1 hbz, kc hS.2.1 hbz, kc hS.2.2.1 hbz, kc hS.2.2.2.1 hbz, kc hS.2.2.2.2.1 hbz, kc hS.2.2.2.2.2.1 hbz, kc hS.2.2.2.2.2.2.1 hbz, kc hS.2.2.2.2.2.2.2.1 hbz, kc hS.2.2.2.2.2.2.2.2.1 hbz, hS.2.2.2.2.2.2.2.2.2.step hbz⟩)
 have KS := hide (fun (W : World) (x y z : Value) (hS : W.cell? ⟨w.heap.size + 1, 0, none⟩ = some (.int .i64 p1) ∧ W.cell? ⟨w.heap.size + 1, 1, none⟩ = some (.int .i64 p2) ∧ W.cell? ⟨w.heap.size + 1, 2, none⟩ = some (.int .i64 p3) ∧ W.cell? ⟨w1.heap.size, 0, none⟩ = some (.int .i64 a1) ∧ W.cell? ⟨w1.heap.size, 1, none⟩ = some (.int .i64 a2) ∧ W.cell? ⟨w1.heap.size, 2, none⟩ = some (.int .i64 a3) ∧ W.cell? ⟨w2.heap.size, 0, none⟩ = some (.int .i64 b1) ∧ W.cell? ⟨w2.heap.size, 1, none⟩ = some (.int .i64 b2) ∧ W.cell? ⟨w2.heap.size, 2, none⟩ = some (.int .i64 b3) ∧ ImgR w W) => show (((W.setCell ⟨w.heap.size + 1 + 1, 0, none⟩ x).setCell ⟨w.heap.size + 1 + 1, 1, none⟩ y).setCell ⟨w.heap.size + 1 + 1, 2, none⟩ z).cell? ⟨w.heap.size + 1, 0, none⟩ = some (.int .i64 p1) ∧ (((W.setCell ⟨w.heap.size + 1 + 1, 0, none⟩ x).setCell ⟨w.heap.size + 1 + 1, 1, none⟩ y).setCell ⟨w.heap.size + 1 + 1, 2, none⟩ z).cell? ⟨w.heap.size + 1, 1, none⟩ = some (.int .i64 p2) ∧ (((W.setCell ⟨w.heap.size + 1 + 1, 0, none⟩ x).setCell ⟨w.heap.size + 1 + 1, 1, none⟩ y).setCell ⟨w.heap.size + 1 + 1, 2, none⟩ z).cell? ⟨w.heap.size + 1, 2, none⟩ = some (.int .i64 p3) ∧ (((W.setCell ⟨w.heap.size + 1 + 1, 0, none⟩ x).setCell ⟨w.heap.size + 1 + 1, 1, none⟩ y).setCell ⟨w.heap.size + 1 + 1, 2, none⟩ z).cell? ⟨w1.heap.size, 0, none⟩ = some (.int .i64 a1) ∧ (((W.setCell ⟨w.heap.size + 1 + 1, 0, none⟩ x).setCell ⟨w.heap.size + 1 + 1, 1, none⟩ y).setCell ⟨w.heap.size + 1 + 1, 2, none⟩ z).cell? ⟨w1.heap.size, 1, none⟩ = some (.int .i64 a2) ∧ (((W.setCell ⟨w.heap.size + 1 + 1, 0, none⟩ x).setCell ⟨w.heap.size + 1 + 1, 1, none⟩ y).setCell ⟨w.heap.size + 1 + 1, 2, none⟩ z).cell? ⟨w1.heap.size, 2, none⟩ = some (.int .i64 a3) ∧ (((W.setCell ⟨w.heap.size + 1 + 1, 0, none⟩ x).setCell ⟨w.heap.size + 1 + 1, 1, none⟩ y).setCell ⟨w.heap.size + 1 + 1, 2, none⟩ z).cell? ⟨w2.heap.size, 0, none⟩ = some (.int .i64 b1) ∧ (((W.setCell ⟨w.heap.size + 1 + 1, 0, none⟩ x).setCell ⟨w.heap.size + 1 + 1, 1, none⟩ y).setCell ⟨w.heap.size + 1 + 1, 2, none⟩ z).cell? ⟨w2.heap.size, 1, none⟩ = some (.int .i64 b2) ∧ (((W.setCell ⟨w.heap.size + 1 + 1, 0, none⟩ x).setCell ⟨w.heap.size + 1 + 1, 1, none⟩ y).setCell ⟨w.heap.size + 1 + 1, 2, none⟩ z).cell? ⟨w2.heap.size, 2, none⟩ = some (.int .i64 b3) ∧ ImgR w (((W.setCell ⟨w.heap.size + 1 + 1, 0, none⟩ x).setCell ⟨w.heap.size + 1 + 1, 1, none⟩ y).setCell ⟨w.heap.size + 1 + 1, 2, none⟩ z) from
  ⟨ks (by omega) hS.1 x y z, ks (by omega) hS.2.1 x y z, ks (by omega) hS.2.2.1 x y z, ks hg1 hS.2.2.2.1 x y z, ks hg1 hS.2.2.2.2.1 x y z, ks hg1 hS.2.2.2.2.2.1 x y z, ks hg2 hS.2.2.2.2.2.2.1 x y z, ks hg2 hS.2.2.2.2.2.2.2.1 x y z, ks hg2 hS.2.2.2.2.2.2.2.2.1 x y z, hS.2.2.2.2.2.2.2.2.2.store x y z⟩)
 go_region_held3 (fun W => W.cell? ⟨w.heap.size + 1, 0, none⟩ = some (.int .i64 p1) ∧ W.cell? ⟨w.heap.size + 1, 1, none⟩ = some (.int .i64 p2) ∧ W.cell? ⟨w.heap.size + 1, 2, none⟩ = some (.int .i64 p3) ∧ W.cell? ⟨w1.heap.size, 0, none⟩ = some (.int .i64 a1) ∧ W.cell? ⟨w1.heap.size, 1, none⟩ = some (.int .i64 a2) ∧ W.cell? ⟨w1.heap.size, 2, none⟩ = some (.int .i64 a3) ∧ W.cell? ⟨w2.heap.size, 0, none⟩ = some (.int .i64 b1) ∧ W.cell? ⟨w2.heap.size, 1, none⟩ = some (.int .i64 b2) ∧ W.cell? ⟨w2.heap.size, 2, none⟩ = some (.int .i64 b3) ∧ ImgR w W)
  (first
   | (with_reducible assumption)
   | (refine KS.out _ _ _ _ ?_; with_reducible assumption)
   | (exact ⟨x0, x1, x2, y0, y1, y2, z0, z1, z2, ImgR.drew hR0⟩)
   | (exact ⟨x0, x1, x2, y0, y1, y2, z0, z1, z2, hR0⟩)
   | go_keep)
  (first
   | (go_at_call 259; have hS := ‹_ ∧ _ ∧ _ ∧ _ ∧ _ ∧ _ ∧ _ ∧ _ ∧ _ ∧ ImgR w _›; (first | (with_reducible refine (HT1.out _).mono ?_) | (with_reducible refine (HT2.out _).mono ?_) | (with_reducible refine (HT3.out _).mono ?_)); rintro e wz ⟨rfl, hbz⟩; have hS2 := KC.out _ _ hS hbz; obtain ⟨u0, u1, u2, d0, d1, d2, g0, g1, g2⟩ := hS2.2.2.2.2.2.2.2.2.2.facts)
   | (go_at_call 260; have hS := ‹_ ∧ _ ∧ _ ∧ _ ∧ _ ∧ _ ∧ _ ∧ _ ∧ _ ∧ ImgR w _›; (with_reducible refine (HC.out _).mono ?_); rintro e wz ⟨rfl, hbz⟩; have hS2 := KC.out _ _ hS hbz; obtain ⟨u0, u1, u2, d0, d1, d2, g0, g1, g2⟩ := hS2.2.2.2.2.2.2.2.2.2.facts)
   | (go_at_call 208; have hS := ‹_ ∧ _ ∧ _ ∧ _ ∧ _ ∧ _ ∧ _ ∧ _ ∧ _ ∧ ImgR w _›; (first | (with_reducible refine (HS1.out _).mono ?_) | (with_reducible refine (HS2.out _).mono ?_)); rintro e wz ⟨rfl, hbz⟩; have hS2 := KC.out _ _ hS hbz; obtain ⟨u0, u1, u2, d0, d1, d2, g0, g1, g2⟩ := hS2.2.2.2.2.2.2.2.2.2.facts))
 go_goals
 have hSz := ‹_ ∧ _ ∧ _ ∧ _ ∧ _ ∧ _ ∧ _ ∧ _ ∧ _ ∧ ImgR w wz›
 obtain ⟨⟨i0, i1, i2, hk⟩, hwz⟩ := hSz.2.2.2.2.2.2.2.2.2
 have Hk := hide hk
 have Hwz := hide hwz
 go_wp2_with fail
 refine bodyPost_ret (results_c rfl rfl (((Hk.out.set_ 0 _).set_ 1 _).set_ 2 _) Tryz.underlying60 rfl (by kernel_rfl)) rfl ?_
 refine ⟨?_, ((Hwz.out.setCell (p := ⟨w.heap.size + 1 + 1, 0, none⟩) (by show w.heap.size ≤ w.heap.size + 1 + 1; omega) _).setCell (p := ⟨w.heap.size + 1 + 1, 1, none⟩) (by show w.heap.size ≤ w.heap.size + 1 + 1; omega) _).setCell (p := ⟨w.heap.size + 1 + 1, 2, none⟩) (by show w.heap.size ≤ w.heap.size + 1 + 1; omega) _⟩
 simp only [zzD, zzE, zzF]
def axAt (b : BoxD) (k : Nat) : Int × Int := (nthC b.lo k, nthC b.hi k)
theorem axes_at (b : BoxD) (k : Nat) (hk : k < 3) : (axes b).drop k = axAt b k :: (axes b).drop (k + 1) := by
 rcases (show k = 0 ∨ k = 1 ∨ k = 2 by omega) with rfl | rfl | rfl <;> rfl
set_option maxHeartbeats 2000000 in
theorem refBox_any (b : BoxD) (w : World) :
  Calls Tryz.prog 90 #[bxV b] w fun e w' => e = .returned (.bool (boxOk b)) ∧ Below w.heap.size w w' := by
 obtain ⟨⟨x1, x2, x3⟩, x4, x5, x6⟩ := b
 have K0 := hide (Blk.new w 62 #[.int .i64 x1, .int .i64 x2, .int .i64 x3, .int .i64 x4, .int .i64 x5, .int .i64 x6])
 have HW := hide (below_new w (.cells #[.int .i64 x1, .int .i64 x2, .int .i64 x3, .int .i64 x4, .int .i64 x5, .int .i64 x6] 62))
 have hb : boxOk ⟨(x1, x2, x3), (x4, x5, x6)⟩ = ((axes ⟨(x1, x2, x3), (x4, x5, x6)⟩).drop 0).all axisFine := rfl
 rw [hb]
 clear hb
 go_enter Tryz.func90, Tryz.ntmps90
 go_wp2_with fail
 go_loopw [3] (fun i wr => ∃ k : Nat, k ≤ 3 ∧ i = .int .i64 k ∧ Hid (((axes ⟨(x1, x2, x3), (x4, x5, x6)⟩).drop 0).all axisFine = ((axes ⟨(x1, x2, x3), (x4, x5, x6)⟩).drop k).all axisFine) ∧ Hid (Blk wr w.heap.size 62 #[.int .i64 x1, .int .i64 x2, .int .i64 x3, .int .i64 x4, .int .i64 x5, .int .i64 x6]) ∧ Below w.heap.size w wr) (fun i _ => 3 - (intOf i).toNat)
 case atStart => exact ⟨0, by omega, rfl, hide rfl, K0, HW.out⟩
 case round =>
  obtain ⟨k, hk, rfl, hq, hK, hbr⟩ := hrel
  by_cases hlt : k < 3
  ·have Hq := hide (hq.out.trans (by rw [axes_at _ k hlt, List.all_cons]))
   have CL := fun W => refCoord_any x1 x2 x3 k hlt W
   have CH := fun W => refCoord_any x4 x5 x6 k hlt W
   have hax : axisFine (axAt ⟨(x1, x2, x3), (x4, x5, x6)⟩ k) = axisOk (nthC (x1, x2, x3) k) (nthC (x4, x5, x6) k) := rfl
   rw [hax] at Hq
   generalize nthC (x1, x2, x3) k = lo at *
   generalize nthC (x4, x5, x6) k = hi at *
   have HL := fun W => refIsLength_any lo W
   have HH := fun W => refIsLength_any hi W
   have hao : axisOk lo hi = (coordOk lo && coordOk hi && !decide (hi < lo)) := by
    rw [Bool.eq_iff_iff]
    simp only [axisOk, coordOk, Bool.and_eq_true, zzJ, Bool.not_eq_true', zzI]
    omega
   rw [hao] at Hq
   generalize coordOk lo = a1 at *
   generalize coordOk hi = a2 at *
   have CL := hide CL
   have CH := hide CH
   have HL := hide HL
   have HH := hide HH
   have Hbr := hide hbr
   have HK := hide hK.out
   have c0 := cell_regrown (hK.out.cell 0)
   have c1 := cell_regrown (hK.out.cell 1)
   have c2 := cell_regrown (hK.out.cell 2)
   have c3 := cell_regrown (hK.out.cell 3)
   have c4 := cell_regrown (hK.out.cell 4)
   have c5 := cell_regrown (hK.out.cell 5)
   simp at c0 c1 c2 c3 c4 c5
   clear hq hax hao hbr hK
   cases a1
   ·go_wp2_with fail
    refine wp_region_quiet_below (by kernel_rfl) (by kernel_rfl) ?_
    repeat (go_big_quiet_step (first
     | (go_at_call 148; first | with_reducible exact regrown_same (HL.out _) | with_reducible exact regrown_same (HH.out _))
     | (go_at_call 149; first | with_reducible exact Calls.regrown_of (CL.out _) | with_reducible exact Calls.regrown_of (CH.out _))))
    refine wpQuiet_nil ?_
    intro w2 hw'
    have hbq := hide (show Below _ _ w2 by obtain ⟨p, rfl⟩ := hw'; exact below_regrown _ _ _)
    clear hw'
    go_wp2_with fail
    go_ret
    exact ⟨ret_bool (by rw [Hq.out]; rfl), below_step Hbr.out hbq.out (Nat.le_refl _)⟩
   cases a2
   ·go_wp2_with fail
    refine wp_region_quiet_below (by kernel_rfl) (by kernel_rfl) ?_
    repeat (go_big_quiet_step (first
     | (go_at_call 148; first | with_reducible exact regrown_same (HL.out _) | with_reducible exact regrown_same (HH.out _))
     | (go_at_call 149; first | with_reducible exact Calls.regrown_of (CL.out _) | with_reducible exact Calls.regrown_of (CH.out _))))
    refine wpQuiet_nil ?_
    intro w2 hw'
    have hbq := hide (show Below _ _ w2 by obtain ⟨p, rfl⟩ := hw'; exact below_regrown _ _ _)
    clear hw'
    go_wp2_with fail
    go_ret
    exact ⟨ret_bool (by rw [Hq.out]; rfl), below_step Hbr.out hbq.out (Nat.le_refl _)⟩
   cases hd : decide (hi < lo)
   ·have Hd := hide hd
    go_wp2_with fail
    refine wp_region_quiet_below (by kernel_rfl) (by kernel_rfl) ?_
    repeat (go_big_quiet_step (first
     | (go_at_call 148; first | with_reducible exact regrown_same (HL.out _) | with_reducible exact regrown_same (HH.out _))
     | (go_at_call 149; first | with_reducible exact Calls.regrown_of (CL.out _) | with_reducible exact Calls.regrown_of (CH.out _))))
    refine wpQuiet_nil ?_
    intro w2 hw'
    have hbq := hide (show Below _ _ w2 by obtain ⟨p, rfl⟩ := hw'; exact below_regrown _ _ _)
    clear hw'
    go_wp2_with fail
    go_roundw
    case rel => exact ⟨k + 1, by omega, by go_num, hide (by rw [Hq.out, Hd.out]; rfl), hide (HK.out.keep hbq.out), below_step Hbr.out hbq.out (Nat.le_refl _)⟩
    case measure => simp [intOf]; omega
   ·have Hd := hide hd
    go_wp2_with fail
    refine wp_region_quiet_below (by kernel_rfl) (by kernel_rfl) ?_
    repeat (go_big_quiet_step (first
     | (go_at_call 148; first | with_reducible exact regrown_same (HL.out _) | with_reducible exact regrown_same (HH.out _))
     | (go_at_call 149; first | with_reducible exact Calls.regrown_of (CL.out _) | with_reducible exact Calls.regrown_of (CH.out _))))
    refine wpQuiet_nil ?_
    intro w2 hw'
    have hbq := hide (show Below _ _ w2 by obtain ⟨p, rfl⟩ := hw'; exact below_regrown _ _ _)
    clear hw'
    go_wp2_with fail
    go_ret
    exact ⟨ret_bool (by rw [Hq.out, Hd.out]; rfl), below_step Hbr.out hbq.out (Nat.le_refl _)⟩
  ·obtain rfl : k = 3 := by omega
   go_wp2_with fail
   go_ret
   exact ⟨ret_bool (by rw [hq.out]; rfl), hbr⟩
set_option maxHeartbeats 1000000 in
theorem refThick_any (b : BoxD) (w : World) :
  Calls Tryz.prog 140 #[bxV b] w fun e w' => e = .returned (.bool (thickOk b)) ∧ Below w.heap.size w w' := by
 have HB := fun W => refBox_any b W
 have hr : thickOk b = (boxOk b && (decide (b.lo.1 < b.hi.1) && (decide (b.lo.2.1 < b.hi.2.1) && decide (b.lo.2.2 < b.hi.2.2)))) := by simp only [thickOk, Bool.and_assoc]
 rw [hr]
 clear hr
 generalize boxOk b = a at *
 obtain ⟨⟨x1, x2, x3⟩, x4, x5, x6⟩ := b
 simp only
 have HB := hide HB
 have K0 := hide (Blk.new w 62 #[.int .i64 x1, .int .i64 x2, .int .i64 x3, .int .i64 x4, .int .i64 x5, .int .i64 x6])
 have HW := hide (below_new w (.cells #[.int .i64 x1, .int .i64 x2, .int .i64 x3, .int .i64 x4, .int .i64 x5, .int .i64 x6] 62))
 go_enter Tryz.func140, Tryz.ntmps140
 go_wp2_with fail
 refine (HB.out _).mono ?_
 rintro e w1 ⟨rfl, hb⟩
 have K0 := hide (K0.out.keep hb)
 have HW := hide (below_step HW.out hb (Nat.le_refl _))
 clear hb HB
 have c0 := K0.out.cell 0
 have c1 := K0.out.cell 1
 have c2 := K0.out.cell 2
 have c3 := K0.out.cell 3
 have c4 := K0.out.cell 4
 have c5 := K0.out.cell 5
 simp at c0 c1 c2 c3 c4 c5
 have lk := K0.out.lt
 cases a
 ·go_wp2_with fail
  go_ret
  exact ⟨ret_bool (by first | rfl | (rw [q0]; rfl) | (rw [q0, q1]; rfl) | (rw [q0, q1, q2]; rfl)), HW.out⟩
 cases q0 : decide (x1 < x4)
 ·go_wp2_with fail
  go_ret
  exact ⟨ret_bool (by first | rfl | (rw [q0]; rfl) | (rw [q0, q1]; rfl) | (rw [q0, q1, q2]; rfl)), HW.out⟩
 cases q1 : decide (x2 < x5)
 ·go_wp2_with fail
  go_ret
  exact ⟨ret_bool (by first | rfl | (rw [q0]; rfl) | (rw [q0, q1]; rfl) | (rw [q0, q1, q2]; rfl)), HW.out⟩
 cases q2 : decide (x3 < x6)
 all_goals
  go_wp2_with fail
  go_ret
  exact ⟨ret_bool (by first | rfl | (rw [q0]; rfl) | (rw [q0, q1]; rfl) | (rw [q0, q1, q2]; rfl)), HW.out⟩
theorem all_at {α : Type} {p : α → Bool} {l : List α} {k : Nat} {x : α} (h : l[k]? = some x) : (l.drop k).all p = (p x && (l.drop (k + 1)).all p) := by
 rw [drop_at' h, List.all_cons]
set_option maxHeartbeats 2000000 in
theorem refSolid_any (bs hs : List BoxD) (A1 A2 : Option Addr) (n1 n2 c1 c2 : Nat) (w : World) {B : Nat} (h1 : BoxesAt w B A1 bs) (h2 : BoxesAt w B A2 hs) (hB : B ≤ w.heap.size) (l1 : n1 = bs.length) (l2 : n2 = hs.length) :
  Calls Tryz.prog 86 #[.agg #[.slice A1 n1 c1, .slice A2 n2 c2]] w fun e w' => e = .returned (.bool (solidOk bs hs)) ∧ Below w.heap.size w w' := by
 have L1 := hide l1
 have L2 := hide l2
 have H1 := hide h1
 have H2 := hide h2
 have K0 := hide (Blk.new w 24 #[.slice A1 n1 c1, .slice A2 n2 c2])
 have HW := hide (below_new w (.cells #[.slice A1 n1 c1, .slice A2 n2 c2] 24))
 by_cases hlen : ¬(1 ≤ n1 ∧ n1 ≤ 20 ∧ n2 ≤ 20)
 ·have hr := hide (show solidOk bs hs = false by
   cases hx : solidOk bs hs with
   | false => rfl
   | true => simp only [solidOk, Bool.and_eq_true, zzJ] at hx; omega)
  clear h1 h2 l1 l2
  by_cases a : n1 < 1
  ·obtain rfl : n1 = 0 := by omega
   go_enter Tryz.func86, Tryz.ntmps86
   go_wp2_with fail
   go_ret
   exact ⟨ret_bool hr.out.symm, HW.out⟩
  have d0 : decide ((n1 : Int) < 1) = false := by simp; omega
  by_cases b : 20 < n1
  ·have d1 : decide (20 < (n1 : Int)) = true := by simp; omega
   clear hlen a b
   go_enter Tryz.func86, Tryz.ntmps86
   go_wp2_with fail
   go_ret
   exact ⟨ret_bool hr.out.symm, HW.out⟩
  have d1 : decide (20 < (n1 : Int)) = false := by simp; omega
  have d2 : decide (20 < (n2 : Int)) = true := by simp; omega
  clear hlen a b
  go_enter Tryz.func86, Tryz.ntmps86
  go_wp2_with fail
  go_ret
  exact ⟨ret_bool hr.out.symm, HW.out⟩
 have hl1 : 1 ≤ n1 ∧ n1 ≤ 20 ∧ n2 ≤ 20 := by omega
 obtain ⟨m1, m20, m2⟩ := hl1
 have hr := hide (show solidOk bs hs = ((bs.drop 0).all thickOk && (hs.drop 0).all thickOk) by
  rw [solidOk, decide_eq_true (by omega), decide_eq_true (by omega), decide_eq_true (by omega)]; rfl)
 have d0 : decide ((n1 : Int) < 1) = false := by simp; omega
 have d1 : decide (20 < (n1 : Int)) = false := by simp; omega
 have d2 : decide (20 < (n2 : Int)) = false := by simp; omega
 clear hlen h1 h2 l1 l2
 go_enter Tryz.func86, Tryz.ntmps86
 go_wp2_with fail
 go_loopw [3] (fun i wr => ∃ k : Nat, k ≤ n1 ∧ i = .int .i64 k ∧ Hid ((bs.drop 0).all thickOk = (bs.drop k).all thickOk) ∧ Hid (Blk wr w.heap.size 24 #[.slice A1 n1 c1, .slice A2 n2 c2]) ∧ Below w.heap.size w wr) (fun i _ => n1 - (intOf i).toNat)
 case atStart => exact ⟨0, Nat.zero_le _, rfl, hide rfl, K0, HW.out⟩
 case round =>
  obtain ⟨k, hk, rfl, hq, hK, hbr⟩ := hrel
  have e0 := hK.out.cell 0
  simp at e0
  have lk := hK.out.lt
  by_cases hlt : k < n1
  ·obtain ⟨b, off, x, rfl, hbl, hx, f0, f1, f2, f3, f4, f5⟩ := BoxesAt.get (k := k) (H1.out.carry (Flat.carried _) (hbr.mono hB) (Nat.le_refl _)) (by rw [← L1.out]; exact hlt)
   have Hq := hide (hq.out.trans (all_at hx))
   have HT := hide (fun W => refThick_any x W)
   generalize thickOk x = a at *
   obtain ⟨⟨x1, x2, x3⟩, x4, x5, x6⟩ := x
   simp only at f0 f1 f2 f3 f4 f5
   have HK := hide hK.out
   have Hbr := hide hbr
   clear hx hbl hq hK hbr
   go_wp2_with fail
   refine (HT.out _).mono ?_
   rintro e w1 ⟨rfl, hb⟩
   have HK := hide (HK.out.keep hb)
   have Hbr := hide (below_step Hbr.out hb (Nat.le_refl _))
   clear hb HT f0 f1 f2 f3 f4 f5 e0 lk
   cases a
   ·go_wp2_with fail
    go_ret
    exact ⟨ret_bool (by rw [hr.out, Hq.out]; rfl), Hbr.out⟩
   ·go_wp2_with fail
    go_roundw
    case rel => exact ⟨k + 1, by omega, by go_num, hide (by rw [Hq.out]; rfl), HK, Hbr.out⟩
    case measure => simp [intOf]; omega
  ·obtain rfl : n1 = k := by omega
   have hf := hide (show (bs.drop 0).all thickOk = true by rw [hq.out, L1.out, List.drop_length]; rfl)
   have K1 := hK
   have HW1 := hide hbr
   rename World => wo
   clear hq hbr
   go_wp2_with fail
   go_loopw [4] (fun i wr => ∃ k : Nat, k ≤ n2 ∧ i = .int .i64 k ∧ Hid ((hs.drop 0).all thickOk = (hs.drop k).all thickOk) ∧ Hid (Blk wr w.heap.size 24 #[.slice A1 n1 c1, .slice A2 n2 c2]) ∧ Below w.heap.size w wr) (fun i _ => n2 - (intOf i).toNat)
   case atStart => exact ⟨0, Nat.zero_le _, rfl, hide rfl, K1, HW1.out⟩
   case round =>
    obtain ⟨k, hk, rfl, hq, hK, hbr⟩ := hrel
    have e1 := hK.out.cell 1
    simp at e1
    have lk := hK.out.lt
    by_cases hlt : k < n2
    ·obtain ⟨b, off, x, rfl, hbl, hx, f0, f1, f2, f3, f4, f5⟩ := BoxesAt.get (k := k) (H2.out.carry (Flat.carried _) (hbr.mono hB) (Nat.le_refl _)) (by rw [← L2.out]; exact hlt)
     have Hq := hide (hq.out.trans (all_at hx))
     have HT := hide (fun W => refThick_any x W)
     generalize thickOk x = a at *
     obtain ⟨⟨x1, x2, x3⟩, x4, x5, x6⟩ := x
     simp only at f0 f1 f2 f3 f4 f5
     have HK := hide hK.out
     have Hbr := hide hbr
     clear hx hbl hq hK hbr
     go_wp2_with fail
     refine (HT.out _).mono ?_
     rintro e w1 ⟨rfl, hb⟩
     have HK := hide (HK.out.keep hb)
     have Hbr := hide (below_step Hbr.out hb (Nat.le_refl _))
     clear hb HT f0 f1 f2 f3 f4 f5 e1 lk
     cases a
     ·go_wp2_with fail
      go_ret
      exact ⟨ret_bool (by rw [hr.out, Hq.out, hf.out]; rfl), Hbr.out⟩
     ·go_wp2_with fail
      go_roundw
      case rel => exact ⟨k + 1, by omega, by go_num, hide (by rw [Hq.out]; rfl), HK, Hbr.out⟩
      case measure => simp [intOf]; omega
    ·obtain rfl : n2 = k := by omega
     have hf2 := hide (show (hs.drop 0).all thickOk = true by rw [hq.out, L2.out, List.drop_length]; rfl)
     go_wp2_with fail
     go_ret
     exact ⟨ret_bool (by rw [hr.out, hf.out, hf2.out]; rfl), hbr⟩
set_option maxHeartbeats 4000000 in
theorem refMember_any (m : MemD) (A1 A2 : Option Addr) (n1 n2 c1 c2 : Nat) (w : World) {B : Nat} (h1 : BoxesAt w B A1 m.boxes) (h2 : BoxesAt w B A2 m.holes) (hB : B ≤ w.heap.size) (l1 : n1 = m.boxes.length) (l2 : n2 = m.holes.length) (hnm : m.name.size ≤ maxLen) :
  Calls Tryz.prog 40 #[.agg #[.string m.name, .slice A1 n1 c1, .slice A2 n2 c2, .int .i64 m.cover, .int .i64 m.aggregate, .int .i64 m.poker]] w fun e w' => e = .returned (.bool (memOk m)) ∧ Below w.heap.size w w' := by
 have HI := hide (fun (W : World) => refIsName_any m.name W hnm)
 have HS := hide (fun (W : World) (hz : Below w.heap.size w W) => refSolid_any m.boxes m.holes A1 A2 n1 n2 c1 c2 W (h1.carry (Flat.carried _) (hz.mono hB) (Nat.le_refl _)) (h2.carry (Flat.carried _) (hz.mono hB) (Nat.le_refl _)) (Nat.le_trans hB hz.size) l1 l2)
 have hr : memOk m = (isName m.name && (solidOk m.boxes m.holes && (decide (0 ≤ m.cover) && (decide (m.cover ≤ 200) && (decide (1 ≤ m.aggregate) && (decide (m.aggregate ≤ 100) && (decide (1 ≤ m.poker) && decide (m.poker ≤ 200)))))))) := by
  simp only [memOk, within, Bool.and_assoc]
 rw [hr]
 clear hr h1 h2 l1 l2 hB hnm
 generalize isName m.name = a1 at *
 generalize solidOk m.boxes m.holes = a2 at *
 obtain ⟨name, boxes, holes, cover, agg, poker⟩ := m
 simp only at HI HS ⊢
 have K0 := hide (Blk.new w 26 #[.string name, .slice A1 n1 c1, .slice A2 n2 c2, .int .i64 cover, .int .i64 agg, .int .i64 poker])
 have HW := hide (below_new w (.cells #[.string name, .slice A1 n1 c1, .slice A2 n2 c2, .int .i64 cover, .int .i64 agg, .int .i64 poker] 26))
 go_enter Tryz.func40, Tryz.ntmps40
 go_wp2_with fail
 refine (HI.out _).mono ?_
 rintro e w1 ⟨rfl, rfl⟩
 cases a1
 ·go_wp2_with fail
  go_ret
  exact ⟨rfl, HW.out⟩
 go_wp2_with fail
 refine (HS.out _ HW.out).mono ?_
 rintro e w1 ⟨rfl, hb⟩
 have K0 := hide (K0.out.keep hb)
 have HW := hide (below_step HW.out hb (Nat.le_refl _))
 clear hb HS HI
 have e3 := K0.out.cell 3
 have e4 := K0.out.cell 4
 have e5 := K0.out.cell 5
 simp at e3 e4 e5
 have lk := K0.out.lt
 cases a2
 ·go_wp2_with fail
  go_ret
  exact ⟨rfl, HW.out⟩
 cases q0 : decide (0 ≤ cover)
 ·go_wp2_with fail
  go_ret
  exact ⟨ret_bool (by first | rfl | (rw [q0]; rfl) | (rw [q0, q1]; rfl) | (rw [q0, q1, q2]; rfl) | (rw [q0, q1, q2, q3]; rfl) | (rw [q0, q1, q2, q3, q4]; rfl) | (rw [q0, q1, q2, q3, q4, q5]; rfl)), HW.out⟩
 cases q1 : decide (cover ≤ 200)
 ·go_wp2_with fail
  go_ret
  exact ⟨ret_bool (by first | rfl | (rw [q0]; rfl) | (rw [q0, q1]; rfl) | (rw [q0, q1, q2]; rfl) | (rw [q0, q1, q2, q3]; rfl) | (rw [q0, q1, q2, q3, q4]; rfl) | (rw [q0, q1, q2, q3, q4, q5]; rfl)), HW.out⟩
 cases q2 : decide (1 ≤ agg)
 ·go_wp2_with fail
  go_ret
  exact ⟨ret_bool (by first | rfl | (rw [q0]; rfl) | (rw [q0, q1]; rfl) | (rw [q0, q1, q2]; rfl) | (rw [q0, q1, q2, q3]; rfl) | (rw [q0, q1, q2, q3, q4]; rfl) | (rw [q0, q1, q2, q3, q4, q5]; rfl)), HW.out⟩
 cases q3 : decide (agg ≤ 100)
 ·go_wp2_with fail
  go_ret
  exact ⟨ret_bool (by first | rfl | (rw [q0]; rfl) | (rw [q0, q1]; rfl) | (rw [q0, q1, q2]; rfl) | (rw [q0, q1, q2, q3]; rfl) | (rw [q0, q1, q2, q3, q4]; rfl) | (rw [q0, q1, q2, q3, q4, q5]; rfl)), HW.out⟩
 cases q4 : decide (1 ≤ poker)
 ·go_wp2_with fail
  go_ret
  exact ⟨ret_bool (by first | rfl | (rw [q0]; rfl) | (rw [q0, q1]; rfl) | (rw [q0, q1, q2]; rfl) | (rw [q0, q1, q2, q3]; rfl) | (rw [q0, q1, q2, q3, q4]; rfl) | (rw [q0, q1, q2, q3, q4, q5]; rfl)), HW.out⟩
 cases q5 : decide (poker ≤ 200)
 all_goals
  go_wp2_with fail
  go_ret
  exact ⟨ret_bool (by first | rfl | (rw [q0]; rfl) | (rw [q0, q1]; rfl) | (rw [q0, q1, q2]; rfl) | (rw [q0, q1, q2, q3]; rfl) | (rw [q0, q1, q2, q3, q4]; rfl) | (rw [q0, q1, q2, q3, q4, q5]; rfl)), HW.out⟩
theorem nears_at {l : List Pt} {k : Nat} {x : Pt} (h : l[k]? = some x) : (l.drop k).all (nearBy 1048576) = (nearBy 1048576 x && (l.drop (k + 1)).all (nearBy 1048576)) := all_at h
set_option maxHeartbeats 1000000 in
theorem refNears_any (A : Option Addr) (l : List Pt) (n c : Nat) (w : World) {B : Nat} (h : PtsAt w B A l) (hB : B ≤ w.heap.size) (hn : n = l.length) (hm : n ≤ 60000) :
  Calls Tryz.prog 146 #[.slice A n c] w fun e w' => e = .returned (.bool (l.all (nearBy 1048576))) ∧ Below w.heap.size w w' := by
 have hn' := hide hn
 have Hs := hide h
 have hr := hide (show l.all (nearBy 1048576) = (l.drop 0).all (nearBy 1048576) from rfl)
 clear hn h
 go_enter Tryz.func146, Tryz.ntmps146
 go_wp2_with fail
 go_loopw [3] (fun i wr => ∃ k : Nat, k ≤ n ∧ i = .int .i64 k ∧ Hid ((l.drop 0).all (nearBy 1048576) = (l.drop k).all (nearBy 1048576)) ∧ Below w.heap.size w wr) (fun i _ => n - (intOf i).toNat)
 case atStart => exact ⟨0, Nat.zero_le _, rfl, hide rfl, Below.refl _ _⟩
 case round =>
  obtain ⟨k, hk, rfl, hq, hbr⟩ := hrel
  by_cases hlt : k < n
  ·obtain ⟨b, off, x, rfl, hbl, hx, f0, f1, f2⟩ := PtsAt.get (k := k) (Hs.out.carry (Flat.carried _) (hbr.mono hB) (Nat.le_refl _)) (by rw [← hn'.out]; exact hlt)
   have Hq := hide (hq.out.trans (nears_at hx))
   have HT := hide (fun W => refNear_any x W)
   generalize nearBy 1048576 x = a at *
   obtain ⟨x1, x2, x3⟩ := x
   simp only [ptA] at f0 f1 f2 HT
   have Hbr := hide hbr
   clear hx hbl hq hbr
   go_wp2_with fail
   refine (HT.out _).mono ?_
   rintro e w1 ⟨rfl, hb⟩
   have Hbr := hide (below_step Hbr.out hb (Nat.le_refl _))
   clear hb HT f0 f1 f2
   cases a
   ·go_wp2_with fail
    go_ret
    exact ⟨ret_bool (by rw [hr.out, Hq.out]; rfl), Hbr.out⟩
   ·go_wp2_with fail
    go_roundw
    case rel => exact ⟨k + 1, by omega, by go_num, hide (by rw [Hq.out]; rfl), Hbr.out⟩
    case measure => simp [intOf]; omega
  ·obtain rfl : k = n := by omega
   go_wp2_with fail
   go_ret
   exact ⟨ret_bool (by rw [hr.out, hq.out, List.drop_of_length_le (by rw [← hn'.out]; exact Nat.le_refl _)]; rfl), hbr⟩
set_option maxHeartbeats 1000000 in
theorem refMain_any (b : BoxD) (w : World) :
  Calls Tryz.prog 213 #[bxV b] w fun e w' => e = .returned (.bool (isMain b)) ∧ Below w.heap.size w w' := by
 obtain ⟨⟨x1, x2, x3⟩, x4, x5, x6⟩ := b
 have hr : isMain ⟨(x1, x2, x3), (x4, x5, x6)⟩ = (decide (x1 < x4) && (decide (x2 = x5) && decide (x3 = x6))) := by simp only [isMain, Bool.and_assoc]
 have h1 : (x2 == x5) = decide (x2 = x5) := rfl
 have h2 : (x3 == x6) = decide (x3 = x6) := rfl
 rw [hr]
 clear hr
 cases q0 : decide (x1 < x4)
 ·clear h1 h2
  go_enter Tryz.func213, Tryz.ntmps213
  go_wp2_with fail
  go_ret
  exact ⟨rfl, below_new _ _⟩
 cases q1 : decide (x2 = x5)
 ·rw [q1] at h1
  clear h2
  go_enter Tryz.func213, Tryz.ntmps213
  go_wp2_with fail
  go_ret
  exact ⟨rfl, below_new _ _⟩
 cases q2 : decide (x3 = x6)
 all_goals
  rw [q1] at h1
  rw [q2] at h2
  go_enter Tryz.func213, Tryz.ntmps213
  go_wp2_with fail
  go_ret
  exact ⟨rfl, below_new _ _⟩
set_option maxHeartbeats 1000000 in
theorem refMainLeg_any (A : Option Addr) (l : List BoxD) (n c : Nat) (w : World) {B : Nat} (h : BoxesAt w B A l) (hB : B ≤ w.heap.size) (hn : n = l.length) (hm : n ≤ 60000) :
  Calls Tryz.prog 153 #[.slice A n c] w fun e w' => e = .returned (.int .i64 (idx isMain l)) ∧ Below w.heap.size w w' := by
 have hn' := hide hn
 have Hs := hide h
 clear hn h
 go_enter Tryz.func153, Tryz.ntmps153
 go_wp2_with fail
 go_loopw [3] (fun i wr => ∃ k : Nat, k ≤ n ∧ i = .int .i64 k ∧ NoneTo isMain l k ∧ Below w.heap.size w wr) (fun i _ => n - (intOf i).toNat)
 case atStart => exact ⟨0, Nat.zero_le _, rfl, NoneTo.zero _ _, Below.refl _ _⟩
 case round =>
  obtain ⟨k, hk, rfl, hq, hbr⟩ := hrel
  by_cases hlt : k < n
  ·obtain ⟨b, off, x, rfl, hbl, hx, f0, f1, f2, f3, f4, f5⟩ := BoxesAt.get (k := k) (Hs.out.carry (Flat.carried _) (hbr.mono hB) (Nat.le_refl _)) (by rw [← hn'.out]; exact hlt)
   have Hx := hide hx
   have HT := hide (fun W => refMain_any x W)
   obtain ⟨a, ha⟩ : ∃ a, a = isMain x := ⟨_, rfl⟩
   rw [← ha] at HT
   have Ha := hide ha.symm
   obtain ⟨⟨x1, x2, x3⟩, x4, x5, x6⟩ := x
   simp only [bxV] at f0 f1 f2 f3 f4 f5 HT
   have Hbr := hide hbr
   clear hx hbl hbr ha
   go_wp2_with fail
   refine (HT.out _).mono ?_
   rintro e w1 ⟨rfl, hb⟩
   have Hbr := hide (below_step Hbr.out hb (Nat.le_refl _))
   clear hb HT f0 f1 f2 f3 f4 f5
   cases a
   ·go_wp2_with fail
    go_roundw
    case rel => exact ⟨k + 1, by omega, by go_num, hq.succ Hx.out Ha.out, Hbr.out⟩
    case measure => simp [intOf]; omega
   ·go_wp2_with fail
    go_ret
    exact ⟨ret_int (hq.hit Hx.out Ha.out).symm, Hbr.out⟩
  ·obtain rfl : k = n := by omega
   go_wp2_with fail
   go_ret
   exact ⟨ret_int (NoneTo.miss (by rw [← hn'.out]; exact hq)).symm, hbr⟩
end Go.Proofs.YtpaanfjjnjjoeaaGreat
