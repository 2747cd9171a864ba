/- A detail as an argument, in memory. No walk stands here. -/
import Derived.Test.YtmcjpdlkkpnhfaaGreatQas
import Derived.Test.YtmcjpdlkkpnhfaaGreatQaj
import Derived.Test.YtmcjpdlkkpnhfaaGreatQak
import Derived.Test.YtmcjpdlkkpnhfaaGreatQaf
import Derived.Test.YtmcjpdlkkpnhfaaGreatQav
import Derived.Test.YtmcjpdlkkpnhfaaGreatQao
namespace Go.Proofs.YtmcjpdlkkpnhfaaGreat
open Go.RowKit

/-- The six slices of a detail: addresses, lengths, capacities. -/
structure DetS where
  a1 : Option Addr
  n1 : Nat
  c1 : Nat
  a2 : Option Addr
  n2 : Nat
  c2 : Nat
  a3 : Option Addr
  n3 : Nat
  c3 : Nat
  a4 : Option Addr
  n4 : Nat
  c4 : Nat
  a5 : Option Addr
  n5 : Nat
  c5 : Nat
  a6 : Option Addr
  n6 : Nat
  c6 : Nat
abbrev detCells (m : MemD) (r : RuleD) (s : DetS) : Array Value :=
  #[.string m.name, .slice s.a1 s.n1 s.c1, .slice s.a2 s.n2 s.c2, .int .i64 m.cover, .int .i64 m.aggregate, .int .i64 m.poker, .slice s.a3 s.n3 s.c3, .slice s.a4 s.n4 s.c4, .slice s.a5 s.n5 s.c5, .slice s.a6 s.n6 s.c6,
    .int .i64 r.num, .int .i64 r.den, .int .i64 r.poorNum, .int .i64 r.poorDen, .int .i64 r.bendNum, .int .i64 r.bendDen, .int .i64 r.lapNum, .int .i64 r.lapDen, .int .i64 r.least]
abbrev detV (x : DetD) (s : DetS) : Value := .agg (detCells x.mem x.rule s)
structure DetAt (w : World) (B : Nat) (x : DetD) (s : DetS) : Prop where
  h1 : BoxesAt w B s.a1 x.mem.boxes
  h2 : BoxesAt w B s.a2 x.mem.holes
  h3 : BarsAt w B s.a3 x.bars
  h4 : RunsAt w B s.a4 x.runs
  h5 : JoinsAt w B s.a5 x.laps
  h6 : DemsAt w B s.a6 x.dems
theorem DetAt.carry {w w' : World} {B B' : Nat} {x : DetD} {s : DetS} (h : DetAt w B x s) (hb : Below B w w') (hB : B ≤ B') : DetAt w' B' x s :=
  ⟨h.h1.carry (Flat.carried _) hb hB, h.h2.carry (Flat.carried _) hb hB, h.h3.carry hb hB, h.h4.carry (Flat.carried _) hb hB, h.h5.carry (Flat.carried _) hb hB, SlOf.carry demR_carried h.h6 hb hB⟩
/-- The lengths, and what bounds the sizes. -/
structure DetFit (x : DetD) (s : DetS) : Prop where
  l1 : s.n1 = x.mem.boxes.length
  l2 : s.n2 = x.mem.holes.length
  l3 : s.n3 = x.bars.length
  l4 : s.n4 = x.runs.length
  l5 : s.n5 = x.laps.length
  l6 : s.n6 = x.dems.length
  m3 : s.n3 ≤ 60000
  m4 : s.n4 ≤ 60000
  m5 : s.n5 ≤ 60000
  m6 : s.n6 ≤ 60000
  k6 : s.n6 ≤ s.c6
  name : x.mem.name.size ≤ maxLen
  tame : Tame x.bars
  dems : DemTame x.dems
/-- A row that the call made, as a block that is known. -/
theorem row_blk {α : Type} {w : World} {base size : Nat} {e : TypeId} {enc : α → List Value} {A : Option Addr} {n c : Nat} {l : List α} (h : Row w base e size enc (.slice A n c) l) (hl : 0 < l.length) :
    ∃ g cs, A = some ⟨g, 0, none⟩ ∧ base ≤ g ∧ Blk w g e cs ∧ ∀ (j : Nat) (u : Value), (l.flatMap enc)[j]? = some u → cs[j]? = some u := by
  rcases h.2 with ⟨_, hn⟩ | ⟨g, cap, cur, hv, hb, hh, _, _, _, ht⟩
  · omega
  · injection hv with hA _ _
    refine ⟨g, cur, hA, hb, hh, fun j u hu => ?_⟩
    rw [← ht, List.getElem?_take] at hu
    split at hu
    · simpa using hu
    · cases hu
theorem blk_sl {α : Type} {w : World} {g B size : Nat} {e : TypeId} {enc : α → List Value} {cs : Array Value} {l : List α} (he : ∀ x, (enc x).length = size) (h : Blk w g e cs) (hc : ∀ (j : Nat) (u : Value), (l.flatMap enc)[j]? = some u → cs[j]? = some u) (hg : g < B) : SlOf w B size (Flat enc) (some ⟨g, 0, none⟩) l :=
  SlOf.of_row (xs := l.flatMap enc) hg (fun j u hu => by rw [h.cell]; exact hc j u hu) (fun k x hx => ⟨enc x, he x, rfl, fun j v hj => flatMap_get he l k x hx j v hj⟩)
theorem runOk_mul {bars : List BarD} {r : RunD} (h : runOk bars r = true) {k : Int} (h0 : 0 ≤ k) (h1 : k < r.count) : nearBy 1099511627776 (mulP k r.step) = true := by
  have hc := runOk_count h
  simp only [runOk, runHead, Bool.and_eq_true, Bool.or_eq_true, decide_eq_true_eq] at h
  rcases h.1.1.2 with h9 | h9
  · obtain rfl : k = 0 := by omega
    simp [mulP, nearBy, within]
  · exact step_near h9.2 h0 (by omega)
end Go.Proofs.YtmcjpdlkkpnhfaaGreat
