/- Plain: the marks of a cell of twice the scale, and of the four cells in its place. No walk stands here. A set of strings, kept as a map from string to bool that the call made. Searches: a string in a list of strings, a run in a list of runs. -/
import Derived.Test.YtpmipoljnchheaaGreatMap
import Derived.Test.YtpmipoljnchheaaGreatMam
import Derived.Test.YtpmipoljnchheaaGreatMai
import Derived.Maps.RangeWalk
namespace Go.Proofs.YtpmipoljnchheaaGreat
open Go.RowKit

theorem hit_fine {lo : Pt} {s rows cols rows2 cols2 : Int} (hs : 1 ≤ s) {row col r c : Int} {b : BoxD} (hr : r = 2 * row ∨ r = 2 * row + 1) (hc : c = 2 * col ∨ c = 2 * col + 1) (h : cellHit ⟨lo, s, rows, cols⟩ r c b = true) : cellHit ⟨lo, 2 * s, rows2, cols2⟩ row col b = true := by
  simp only [cellHit, Bool.and_eq_true, decide_eq_true_eq] at h ⊢
  have e1 : row * (2 * s) = 2 * (row * s) := by rw [Int.mul_left_comm]
  have e2 : col * (2 * s) = 2 * (col * s) := by rw [Int.mul_left_comm]
  have e3 : r * s = 2 * (row * s) ∨ r * s = 2 * (row * s) + s := by
    rcases hr with rfl | rfl
    · left; rw [Int.mul_assoc]
    · right; rw [Int.add_mul, Int.mul_assoc, Int.one_mul]
  have e4 : c * s = 2 * (col * s) ∨ c * s = 2 * (col * s) + s := by
    rcases hc with rfl | rfl
    · left; rw [Int.mul_assoc]
    · right; rw [Int.add_mul, Int.mul_assoc, Int.one_mul]
  rw [e1, e2]
  omega
theorem hit_coarse {lo : Pt} {s rows cols rows2 cols2 : Int} (hs : 1 ≤ s) {row col : Int} {b : BoxD} (hb : b.lo.1 ≤ b.hi.1 ∧ b.lo.2.1 ≤ b.hi.2.1) (h : cellHit ⟨lo, 2 * s, rows2, cols2⟩ row col b = true) :
    ∃ r c, (r = 2 * row ∨ r = 2 * row + 1) ∧ (c = 2 * col ∨ c = 2 * col + 1) ∧ cellHit ⟨lo, s, rows, cols⟩ r c b = true := by
  simp only [cellHit, Bool.and_eq_true, decide_eq_true_eq] at h
  have e1 : row * (2 * s) = 2 * (row * s) := by rw [Int.mul_left_comm]
  have e2 : col * (2 * s) = 2 * (col * s) := by rw [Int.mul_left_comm]
  rw [e1, e2] at h
  have e3 : 2 * row * s = 2 * (row * s) := by rw [Int.mul_assoc]
  have e4 : (2 * row + 1) * s = 2 * (row * s) + s := by rw [Int.add_mul, Int.mul_assoc, Int.one_mul]
  have e5 : 2 * col * s = 2 * (col * s) := by rw [Int.mul_assoc]
  have e6 : (2 * col + 1) * s = 2 * (col * s) + s := by rw [Int.add_mul, Int.mul_assoc, Int.one_mul]
  refine ⟨if b.lo.2.1 < lo.2.1 + 2 * (row * s) + s then 2 * row else 2 * row + 1, if b.lo.1 < lo.1 + 2 * (col * s) + s then 2 * col else 2 * col + 1, ?_, ?_, ?_⟩
  · split <;> simp
  · split <;> simp
  · simp only [cellHit, Bool.and_eq_true, decide_eq_true_eq]
    split <;> split <;> simp only [e3, e4, e5, e6] <;> omega
theorem hit_lines {g : GridD} {l : List RodD} {row col k : Int} : k ∈ hitLines g l row col ↔ ∃ r ∈ l, cellHit g row col r.leg = true ∧ r.line = k := by
  simp only [hitLines, List.mem_map, List.mem_filter]
  constructor
  · rintro ⟨r, ⟨h1, h2⟩, h3⟩; exact ⟨r, h1, h2, h3⟩
  · rintro ⟨r, h1, h2, h3⟩; exact ⟨r, ⟨h1, h2⟩, h3⟩
theorem gridOf_eq (x : DetD) (s : Int) : ∃ rows cols, gridOf x s = ⟨(hullOf x.mem.boxes).lo, s, rows, cols⟩ := ⟨_, _, rfl⟩
theorem rod_leg {bars : List BarD} {runs : List RunD} {r : RodD} (h : r ∈ rodsOf bars runs) : r.leg.lo.1 ≤ r.leg.hi.1 ∧ r.leg.lo.2.1 ≤ r.leg.hi.2.1 := by
  simp only [rodsOf, List.mem_flatMap] at h
  obtain ⟨l, _, hr⟩ := h
  simp only [rodsOfBar, List.mem_map] at hr
  obtain ⟨b, hb, rfl⟩ := hr
  exact leg_mem _ _ hb
/-- What a fine cell shows, the coarse one shows. -/
theorem fine_coarse {x : DetD} {s : Int} (hs : 1 ≤ s) {row col r c : Int} (hr : r = 2 * row ∨ r = 2 * row + 1) (hc : c = 2 * col ∨ c = 2 * col + 1) {m : ByteArray} (h : m ∈ marksAt x s r c) : m ∈ marksAt x (2 * s) row col := by
  obtain ⟨k, hk, rfl⟩ := List.mem_map.1 h
  obtain ⟨h1, h2⟩ := mem_seenOf.1 hk
  obtain ⟨d, hd, hh, he⟩ := hit_lines.1 h2
  refine List.mem_map.2 ⟨k, mem_seenOf.2 ⟨h1, hit_lines.2 ⟨d, hd, ?_, he⟩⟩, rfl⟩
  exact hit_fine hs hr hc hh
/-- What the coarse cell shows, one of the fine ones shows. -/
theorem coarse_fine {x : DetD} {s : Int} (hs : 1 ≤ s) {row col : Int} {m : ByteArray} (h : m ∈ marksAt x (2 * s) row col) : ∃ r c, (r = 2 * row ∨ r = 2 * row + 1) ∧ (c = 2 * col ∨ c = 2 * col + 1) ∧ m ∈ marksAt x s r c := by
  obtain ⟨k, hk, rfl⟩ := List.mem_map.1 h
  obtain ⟨h1, h2⟩ := mem_seenOf.1 hk
  obtain ⟨d, hd, hh, he⟩ := hit_lines.1 h2
  obtain ⟨r, c, hr, hc, h3⟩ := hit_coarse (rows := (gridOf x s).rows) (cols := (gridOf x s).cols) hs (rod_leg hd) hh
  exact ⟨r, c, hr, hc, List.mem_map.2 ⟨k, mem_seenOf.2 ⟨h1, hit_lines.2 ⟨d, hd, h3, he⟩⟩, rfl⟩⟩
theorem sched_idx {l : List BarD} : ∀ (r : List BarD) (k : Nat), schedFrom l k r = true → ∀ j y, r[j]? = some y → idx (markIs y.mark) l = ((k + j : Nat) : Int) := by
  intro r
  induction r with
  | nil => intro k _ j y h; simp at h
  | cons x r ih =>
    intro k h j y hj
    simp only [schedFrom, Bool.and_eq_true, decide_eq_true_eq] at h
    cases j with
    | zero =>
      simp only [List.getElem?_cons_zero, Option.some.injEq] at hj
      subst hj
      simpa using h.1.2
    | succ j =>
      rw [ih (k + 1) h.2 j y (by simpa using hj)]
      congr 1
      omega
theorem barMark_inj {bars : List BarD} (h : schedOk bars = true) {a b : Int} (ha : 0 ≤ a ∧ a < (bars.length : Nat)) (hb : 0 ≤ b ∧ b < (bars.length : Nat)) (he : barMark bars a = barMark bars b) : a = b := by
  simp only [schedOk, Bool.and_eq_true] at h
  obtain ⟨i, rfl⟩ := Int.eq_ofNat_of_zero_le ha.1
  obtain ⟨j, rfl⟩ := Int.eq_ofNat_of_zero_le hb.1
  have e1 : bars[i]? = some (bars[i]'(by omega)) := List.getElem?_eq_getElem (by omega)
  have e2 : bars[j]? = some (bars[j]'(by omega)) := List.getElem?_eq_getElem (by omega)
  have h1 := sched_idx bars 0 h.2 i _ e1
  have h2 := sched_idx bars 0 h.2 j _ e2
  simp only [barMark, Int.toNat_natCast, e1, e2] at he
  rw [he, h2] at h1
  simpa using h1.symm
theorem marks_nodup {x : DetD} {s row col : Int} (h : laidOk x.bars x.runs = true) : (marksAt x s row col).Nodup := by
  have hs : schedOk x.bars = true := by
    simp only [laidOk, Bool.and_eq_true] at h
    exact h.1.1
  have key : ∀ l : List Int, l.Pairwise (· < ·) → (∀ k ∈ l, 0 ≤ k ∧ k < (x.bars.length : Nat)) → (l.map (barMark x.bars)).Nodup := by
    intro l
    induction l with
    | nil => intro _ _; simp
    | cons a l ih =>
      intro hp hm
      rw [List.pairwise_cons] at hp
      rw [List.map_cons, List.nodup_cons]
      refine ⟨fun hmem => ?_, ih hp.2 (fun k hk => hm k (List.mem_cons_of_mem _ hk))⟩
      obtain ⟨b, hb, he⟩ := List.mem_map.1 hmem
      have := barMark_inj hs (hm b (List.mem_cons_of_mem _ hb)) (hm a (by simp)) he
      have := hp.1 b hb
      omega
  exact key _ (seenOf_asc ..) (fun k hk => (mem_seenOf.1 hk).1)
theorem marks_len (x : DetD) (s row col : Int) : (marksAt x s row col).length ≤ x.bars.length := by
  unfold marksAt seenAt seenOf
  rw [List.length_map]
  refine Nat.le_trans (List.length_filter_le _ _) ?_
  rw [List.length_map, List.length_range]
  exact Nat.le_refl _
theorem marks_size {x : DetD} (ht : Tame x.bars) {s row col : Int} {m : ByteArray} (h : m ∈ marksAt x s row col) : m.size ≤ maxLen := by
  obtain ⟨k, hk, rfl⟩ := List.mem_map.1 h
  obtain ⟨h1, _⟩ := mem_seenOf.1 hk
  obtain ⟨i, rfl⟩ := Int.eq_ofNat_of_zero_le h1.1
  have e1 : x.bars[i]? = some (x.bars[i]'(by omega)) := List.getElem?_eq_getElem (by omega)
  simp only [barMark, Int.toNat_natCast, e1]
  exact (ht _ (mem_of_get e1)).1
end Go.Proofs.YtpmipoljnchheaaGreat
namespace Go.Proofs.YtpmipoljnchheaaGreat
open Go.RowKit Go.Maps

theorem keyedStr : Keyed Tryz.prog 9 := string_keyed Tryz.underlying9
def sKey (s : ByteArray) : Lit := .string s.data.toList
def tt : DataW Unit := .lit (.bool true)
theorem sKey_is (s : ByteArray) : WideAt.IsKeyLit (sKey s) := trivial
theorem sKey_inj {a b : ByteArray} (h : sKey a = sKey b) : a = b := by
  simp only [sKey, Lit.string.injEq] at h
  exact toList_inj (by rw [toList_eq, toList_eq, h]; exact beq_self_eq_true _)
theorem sKey_same {a b : ByteArray} : (sKey a).sameKey (sKey b) = true ↔ a = b :=
  ⟨fun h => sKey_inj (WideAt.sameKey_eq h), fun h => by rw [h]; exact WideAt.sameKey_self (sKey_is b)⟩
def sKeys (acc : List ByteArray) : List Lit := acc.map sKey
theorem sKeys_is (acc : List ByteArray) : ∀ x ∈ sKeys acc, WideAt.IsKeyLit x := by
  intro x hx
  obtain ⟨s, _, rfl⟩ := List.mem_map.1 hx
  exact sKey_is s
theorem has_sKeys {acc : List ByteArray} {s : ByteArray} : Maps.has (setOf tt (sKeys acc)) (sKey s) = true ↔ s ∈ acc := by
  rw [has_setOf _ _ _ (sKeys_is acc), List.any_eq_true]
  constructor
  · rintro ⟨x, hx, h⟩
    obtain ⟨y, hy, rfl⟩ := List.mem_map.1 hx
    rw [← sKey_same.1 h]
    exact hy
  · intro h
    exact ⟨_, List.mem_map.2 ⟨s, h, rfl⟩, sKey_same.2 rfl⟩
/-! How many strings there are, each once. -/
theorem addKey_nodup {acc : List Lit} (h : acc.Nodup) (x : Lit) (hx : WideAt.IsKeyLit x) : (addKey acc x).Nodup ∧ ∀ y, y ∈ addKey acc x ↔ y ∈ acc ∨ y = x := by
  unfold addKey
  split
  · rename_i h1
    refine ⟨h, fun y => ⟨.inl, ?_⟩⟩
    rintro (h2 | rfl)
    · exact h2
    · obtain ⟨z, hz, hs⟩ := List.any_eq_true.1 h1
      rw [← WideAt.sameKey_eq hs]
      exact hz
  · rename_i h1
    refine ⟨?_, fun y => by simp⟩
    rw [List.nodup_append]
    refine ⟨h, by simp, fun a ha b hb => ?_⟩
    rw [List.mem_singleton] at hb
    subst hb
    intro he
    subst he
    exact h1 (List.any_eq_true.2 ⟨a, ha, WideAt.sameKey_self hx⟩)
theorem fold_nodup : ∀ (xs acc : List Lit), acc.Nodup → (∀ x ∈ xs, WideAt.IsKeyLit x) → (xs.foldl addKey acc).Nodup ∧ ∀ y, y ∈ xs.foldl addKey acc ↔ y ∈ acc ∨ y ∈ xs := by
  intro xs
  induction xs with
  | nil => intro acc h _; exact ⟨h, fun y => by simp⟩
  | cons x xs ih =>
    intro acc h hx
    obtain ⟨h1, h2⟩ := addKey_nodup h x (hx x (by simp))
    obtain ⟨h3, h4⟩ := ih (addKey acc x) h1 (fun y hy => hx y (by simp [hy]))
    refine ⟨h3, fun y => ?_⟩
    rw [List.foldl_cons, h4, h2, List.mem_cons, or_assoc]
theorem nodup_le {α : Type} : ∀ (a b : List α), a.Nodup → (∀ x ∈ a, x ∈ b) → a.length ≤ b.length := by
  classical
  intro a
  induction a with
  | nil => intro b _ _; simp
  | cons x a ih =>
    intro b ha hs
    rw [List.nodup_cons] at ha
    have h1 := ih (b.erase x) ha.2 (fun y hy => by
      have hne : y ≠ x := fun he => ha.1 (by rw [← he]; exact hy)
      exact (List.mem_erase_of_ne hne).2 (hs y (List.mem_cons_of_mem _ hy)))
    rw [List.length_erase_of_mem (hs x (by simp))] at h1
    have := List.length_pos_of_mem (hs x (by simp))
    rw [List.length_cons]
    omega
theorem size_sKeys {acc l : List ByteArray} (hl : l.Nodup) (h : ∀ s, s ∈ acc ↔ s ∈ l) : Maps.size (setOf tt (sKeys acc)) = l.length := by
  rw [size_setOf _ _ (sKeys_is acc)]
  obtain ⟨h1, h2⟩ := fold_nodup (sKeys acc) [] List.nodup_nil (sKeys_is acc)
  have hk : (sKeys l).Nodup := by
    rw [sKeys, List.Nodup, List.pairwise_map]
    exact hl.imp fun hne he => hne (sKey_inj he)
  have e : (sKeys l).length = l.length := by simp [sKeys]
  rw [← e]
  have hm : ∀ x, x ∈ (sKeys acc).foldl addKey [] ↔ x ∈ sKeys l := by
    intro x
    rw [h2]
    simp only [List.not_mem_nil, false_or, sKeys, List.mem_map]
    constructor
    · rintro ⟨s, hs, rfl⟩
      exact ⟨s, (h s).1 hs, rfl⟩
    · rintro ⟨s, hs, rfl⟩
      exact ⟨s, (h s).2 hs, rfl⟩
  exact Nat.le_antisymm (nodup_le _ _ h1 fun x hx => (hm x).1 hx) (nodup_le _ _ hk fun x hx => (hm x).2 hx)

/-- Block b is a map that holds 'true' at just the strings of the list. -/
def SSet (w : World) (b n : Nat) (acc : List ByteArray) : Prop := w.ownsMap Tryz.prog 9 (plainElem Tryz.prog 4) b n (setOf tt (sKeys acc))
section
variable {w w' : World} {b n : Nat} {acc : List ByteArray}
theorem SSet.new (w : World) : SSet (w.alloc (.map #[] 0)) w.heap.size 0 [] := World.ownsMap_made _ _ _ _
theorem SSet.lt (h : SSet w b n acc) : b < w.heap.size := World.ownsMap.lt h
theorem SSet.keep (h : SSet w b n acc) (hb : Below w.heap.size w w') : SSet w' b n acc :=
  World.ownsMap.kept (row := none) h ⟨hb.os, hb.tape, hb.output, hb.size, fun k hk _ => hb.block k hk⟩ (by simp)
theorem SSet.alloc (h : SSet w b n acc) (o : Obj) : SSet (w.alloc o) b n acc := h.keep (below_new w o)
theorem SSet.store (h : SSet w b n acc) {s : ByteArray} (hs : s.size ≤ maxLen) (hn : n ≤ 1000000) :
    ∃ w', (Instr.mapUpdate 59 (.map (some b)) (.string s) (.bool true)).run Tryz.prog w = .ok () w' ∧ SSet w' b (n + 1) (acc ++ [s]) ∧ w.grownBy w' (some b) := by
  obtain ⟨w', hrun, ho', hg⟩ := World.ownsMap.update h keyedStr Tryz.underlying59 (by unfold maxLen; omega) (WideMaps.keyOf_string_mk Tryz.underlying9 hs) (plainElem_bool Tryz.underlying4 true)
  refine ⟨w', hrun, ?_, hg⟩
  have e : setOf tt (sKeys (acc ++ [s])) = (setOf tt (sKeys acc)).put (sKey s) tt := by
    rw [sKeys, List.map_append, List.map_singleton, setOf_snoc]
    rfl
  unfold SSet
  rw [e]
  exact ho'
end
theorem SSet.ne {w : World} {b n : Nat} {acc : List ByteArray} (h : SSet w b n acc) {p : Addr} {v : Value} (hc : w.cell? p = some v) : p.block ≠ b := by
  intro he
  obtain ⟨es, clock, hb, _⟩ := h
  unfold World.cell? at hc
  rw [he, hb] at hc
  simp at hc
theorem wpList_store_sset {w : World} {ops : Array Oper} {rest : List Oper} {o : Oper} {a : Act} {Q : Exit → Act → World → Prop} (hg : o.guard = none) (m x v : Operand) (hop : o.op = Op.mapUpdate 59 m x v)
    (b n : Nat) (acc : List ByteArray) (hm : a.eval m = .map (some b)) (hown : SSet w b n acc) (hn : n ≤ 1000000) (s : ByteArray) (hx : a.eval x = .string s) (hv : a.eval v = .bool true) (hs : s.size ≤ maxLen)
    (hK : ∀ w', SSet w' b (n + 1) (acc ++ [s]) → w.grownBy w' (some b) → wpList Tryz.prog ops Q rest (a.put o.dst undef) w') : wpList Tryz.prog ops Q (o :: rest) a w := by
  refine wpList_plain hg fun K' hK' => ?_
  obtain ⟨w', hrun, r1, r2⟩ := hown.store hs hn
  unfold Oper.wp
  simp [execOp, hop, hm, hx, hv, hrun, Result.andThen]
  exact hK' _ _ (hK w' r1 r2)
/-- A range over such a set under way: whatever comes is of the list. -/
def SRange (w : World) (b r n : Nat) (acc : List ByteArray) (cnt : Nat) : Prop := ∃ left, w.ranges Tryz.prog 9 (plainElem Tryz.prog 4) b r n (setOf tt (sKeys acc)) left cnt
theorem SRange.left_eq {w : World} {b r n cnt : Nat} {acc : List ByteArray} (h : SRange w b r n acc cnt) : w.rangeLeft b r = cnt := by obtain ⟨left, h⟩ := h; exact h.left_eq
theorem SRange.owns {w : World} {b r n cnt : Nat} {acc : List ByteArray} (h : SRange w b r n acc cnt) : SSet w b n acc := by obtain ⟨left, h⟩ := h; exact h.owns
theorem wpList_range_sset {w : World} {ops : Array Oper} {rest : List Oper} {o : Oper} {a : Act} {Q : Exit → Act → World → Prop} (hg : o.guard = none) (m : Operand) (hop : o.op = Op.range 59 m)
    (b n : Nat) (acc : List ByteArray) (hm : a.eval m = .map (some b)) (hown : SSet w b n acc)
    (hK : ∀ w' cnt, SRange w' b w.heap.size n acc cnt → w.grownBy w' none → wpList Tryz.prog ops Q rest (a.put o.dst (.pointer (some ⟨w.heap.size, 0, none⟩))) w') : wpList Tryz.prog ops Q (o :: rest) a w :=
  wpList_range_own w hg m 59 hop 9 4 keyedStr Tryz.underlying59 _ b n _ hm hown (fun w' h1 h2 _ => hK w' _ ⟨_, h1⟩ h2)
theorem wpList_next_sset {w : World} {ops : Array Oper} {rest : List Oper} {o : Oper} {a : Act} {Q : Exit → Act → World → Prop} (hg : o.guard = none) (it : Operand) (hop : o.op = Op.next it false)
    (b r n cnt : Nat) (acc : List ByteArray) (hit : a.eval it = .pointer (some ⟨r, 0, none⟩)) (h : SRange w b r n acc cnt)
    (hDone : ∀ z : Nat, cnt ≤ z → wpList Tryz.prog ops Q rest (a.put o.dst (.tuple #[.bool false])) w)
    (hMore : ∀ (s : ByteArray) (c : Value) (w' : World) (cnt' : Nat), s ∈ acc → SRange w' b r n acc cnt' → cnt' < cnt → w.grownBy w' (some r) → (Instr.entry (.pointer (some ⟨r, 0, none⟩))).run Tryz.prog w' = .ok (.tuple #[.string s, c]) w' →
      wpList Tryz.prog ops Q rest (a.put o.dst (.tuple #[.bool true, .string s, c])) w') : wpList Tryz.prog ops Q (o :: rest) a w := by
  obtain ⟨left, h⟩ := h
  refine wpList_next_ranges w hg it hop 9 keyedStr (plainElem Tryz.prog 4) Value.string Value.bool (fun key kl hk => by obtain ⟨x, rfl, _⟩ := WideMaps.string_of_keyOf Tryz.underlying9 hk; exact ⟨x, rfl⟩) (fun v y hv => by obtain ⟨c, rfl, _⟩ := plainElem_bool_inv hv; exact ⟨c, rfl⟩)
    b r n _ left cnt hit h (fun _ _ => hDone cnt (Nat.le_refl _)) (fun x c kl y w' cnt' hkey _ _ hat hrg hlt hgr _ hen => ?_)
  refine hMore x (.bool c) w' cnt' ?_ ⟨_, hrg⟩ hlt hgr hen
  obtain ⟨x', ex, rfl, _⟩ := WideMaps.string_of_keyOf Tryz.underlying9 hkey
  cases ex
  exact has_sKeys.1 (has_true_of_atKey hat)
end Go.Proofs.YtpmipoljnchheaaGreat
namespace Go.Proofs.YtpmipoljnchheaaGreat
open Go.RowKit

def strIs (m x : ByteArray) : Bool := m.toList == x.toList
theorem strIs_mem {m : ByteArray} {l : List ByteArray} : l.any (strIs m) = true ↔ m ∈ l := by
  rw [List.any_eq_true]
  constructor
  · rintro ⟨x, hx, h⟩
    rw [toList_inj h]
    exact hx
  · intro h
    exact ⟨m, h, beq_self_eq_true _⟩
set_option maxHeartbeats 400000 in
theorem indexStr_any (A : Option Addr) (l : List ByteArray) (n c : Nat) (m : ByteArray) (w : World) {B : Nat} (h : StrsAt w B A l) (hn : n = l.length) (hm : n ≤ 300000) :
    Calls Tryz.prog 48 #[.slice A n c, .string m] w fun e w' => e = .returned (.int .i64 (idx (strIs m) l)) ∧ w = w' := by
  have hn' := hide hn; clear hn
  go_enter Tryz.func48, Tryz.ntmps48
  go_wp2
  go_loop [5, 8] (fun _ i => ∃ k : Nat, k ≤ n ∧ i = .int .i64 k ∧ NoneTo (strIs m) l k) (fun _ i => n - (intOf i).toNat)
  case atStart => exact ⟨0, Nat.zero_le _, rfl, NoneTo.zero _ _⟩
  case round =>
    obtain ⟨k, hk, rfl, hw⟩ := hrel
    by_cases hlt : k < n
    · obtain ⟨b, off, y, rfl, hb, hy, hc⟩ := h.get (k := k) (by rw [← hn'.out]; exact hlt)
      have Hy := hide hy
      clear hy hb h
      obtain ⟨t, ht⟩ : ∃ t, t = (m.toList == y.toList) := ⟨_, rfl⟩
      have Ht := hide (show strIs m y = t from ht.symm)
      go_wp2_with fail
      · go_ret
        exact ⟨ret_int (hw.hit Hy.out (by assumption)).symm, rfl⟩
      · go_round
        case rel => exact ⟨k + 1, by omega, by go_num, hw.succ Hy.out (by assumption)⟩
        case measure => simp [intOf]; omega
    · obtain rfl : k = n := by omega
      go_wp2_with fail
      go_ret
      exact ⟨ret_int (NoneTo.miss (by rw [← hn'.out]; exact hw)).symm, rfl⟩
set_option maxHeartbeats 400000 in
theorem containsStr_any (A : Option Addr) (l : List ByteArray) (n c : Nat) (m : ByteArray) (w : World) {B : Nat} (h : StrsAt w B A l) (hn : n = l.length) (hm : n ≤ 300000) :
    Calls Tryz.prog 22 #[.slice A n c, .string m] w fun e w' => e = .returned (.bool (l.any (strIs m))) ∧ w = w' := by
  have hn' := hide hn; clear hn
  go_enter Tryz.func22, Tryz.ntmps22
  go_wp2_with (go_at_call 48; refine (indexStr_any A l n c m _ h hn'.out hm).mono ?_; rintro e w' ⟨rfl, rfl⟩)
  go_ret
  refine ⟨ret_bool ?_, rfl⟩
  rw [idx_any]

set_option maxHeartbeats 1000000 in
theorem indexFuncRun_any (A : Option Addr) (l : List RunD) (n c : Nat) (fid : FuncId) (caps : Array Value) (p : RunD → Bool) (w : World) {B : Nat} (h : RunsAt w B A l) (hB : B ≤ w.heap.size) (hn : n = l.length) (hm : n ≤ 300000)
    (hc : ∀ args w, (callFunc fid args).run Tryz.prog w = .ok (.enter fid args) w)
    (hf : ∀ x (W : World), x ∈ l → Below w.heap.size w W → Calls Tryz.prog fid (#[runV x] ++ caps) W fun e W' => e = .returned (.bool (p x)) ∧ Below W.heap.size W W') :
    Calls Tryz.prog 56 #[.slice A n c, .func (.func fid) #[] caps] w fun e w' => e = .returned (.int .i64 (idx p l)) ∧ Below w.heap.size w w' := by
  have Hf := hide hf
  have hn' := hide hn
  have Hs := hide h
  clear hf hn h
  go_enter Tryz.func56, Tryz.ntmps56
  go_wp2_with fail
  go_loopw [8] (fun i wr => ∃ k : Nat, k ≤ n ∧ i = .int .i64 k ∧ NoneTo p l k ∧ Below w.heap.size w wr) (fun i _ => n - (intOf i).toNat)
  case atStart => exact ⟨0, Nat.zero_le _, rfl, NoneTo.zero _ _, Below.refl _ _⟩
  case round =>
    obtain ⟨k, hk, rfl, hw, hb⟩ := hrel
    by_cases hlt : k < n
    · obtain ⟨b, off, x, rfl, hbl, hx, hcs⟩ := RunsAt.get (k := k) (SlOf.carry (Flat.carried _) Hs.out (hb.mono hB) (Nat.le_refl _)) (by rw [← hn'.out]; exact hlt)
      have Hx := hide hx
      have HF := hide (fun (W : World) (hz : Below w.heap.size w W) => Hf.out x W (mem_of_get hx) hz)
      obtain ⟨mark, tx, ty, ⟨a1, a2, a3⟩, ⟨s1, s2, s3⟩, cnt⟩ := x
      have h0 := hcs 0 _ rfl
      have h1 := hcs 1 _ rfl
      have h2 := hcs 2 _ rfl
      have h3 := hcs 3 _ rfl
      have h4 := hcs 4 _ rfl
      have h5 := hcs 5 _ rfl
      have h6 := hcs 6 _ rfl
      have h7 := hcs 7 _ rfl
      have h8 := hcs 8 _ rfl
      have h9 := hcs 9 _ rfl
      simp only [Nat.add_zero] at h0 h1 h2 h3 h4 h5 h6 h7 h8 h9
      obtain ⟨pv, hpv⟩ : ∃ v, v = p ⟨mark, tx, ty, (a1, a2, a3), (s1, s2, s3), cnt⟩ := ⟨_, rfl⟩
      rw [← hpv] at HF
      have Hpv := hide hpv.symm
      clear hx hbl hcs hpv
      go_wp2_with fail
      refine (HF.out _ hb).mono ?_
      rintro e w1 ⟨rfl, hb1⟩
      clear h0 h1 h2 h3 h4 h5 h6 h7 h8 h9 HF
      have hb2 := below_step hb hb1 (Nat.le_refl _)
      cases pv
      · go_wp2_with fail
        go_roundw
        case rel => exact ⟨k + 1, by omega, by go_num, hw.succ Hx.out Hpv.out, hb2⟩
        case measure => simp [intOf]; omega
      · go_wp2_with fail
        go_ret
        exact ⟨ret_int (hw.hit Hx.out Hpv.out).symm, hb2⟩
    · obtain rfl : k = n := by omega
      go_wp2_with fail
      go_ret
      exact ⟨ret_int (NoneTo.miss (by rw [← hn'.out]; exact hw)).symm, hb⟩
set_option maxHeartbeats 400000 in
theorem containsFuncRun_any (A : Option Addr) (l : List RunD) (n c : Nat) (fid : FuncId) (caps : Array Value) (p : RunD → Bool) (w : World) {B : Nat} (h : RunsAt w B A l) (hB : B ≤ w.heap.size) (hn : n = l.length) (hm : n ≤ 300000)
    (hc : ∀ args w, (callFunc fid args).run Tryz.prog w = .ok (.enter fid args) w)
    (hf : ∀ x (W : World), x ∈ l → Below w.heap.size w W → Calls Tryz.prog fid (#[runV x] ++ caps) W fun e W' => e = .returned (.bool (p x)) ∧ Below W.heap.size W W') :
    Calls Tryz.prog 28 #[.slice A n c, .func (.func fid) #[] caps] w fun e w' => e = .returned (.bool (l.any p)) ∧ Below w.heap.size w w' := by
  have Hf := hide hf
  have hn' := hide hn
  have Hc := hide hc
  clear hf hn hc
  go_enter Tryz.func28, Tryz.ntmps28
  go_wp2_with fail
  refine (indexFuncRun_any A l n c fid caps p w h hB hn'.out hm Hc.out Hf.out).mono ?_
  rintro e w1 ⟨rfl, hb⟩
  go_wp2_with fail
  go_ret
  exact ⟨ret_bool (by rw [idx_any]), hb⟩
set_option maxHeartbeats 400000 in
theorem seen1_any (x : RunD) (m : ByteArray) (g : Nat) (w : World) (h0 : w.cell? ⟨g, 0, none⟩ = some (.string m)) :
    Calls Tryz.prog 29 #[runV x, .pointer (some ⟨g, 0, none⟩)] w fun e w' => e = .returned (.bool (runIs m x)) ∧ Below w.heap.size w w' := by
  have hg : g < w.heap.size := World.block_lt_of_cell? w _ h0
  have h1 := fun o => (World.cell?_alloc_lt w o ⟨g, 0, none⟩ hg).trans h0
  go_enter Tryz.func29, Tryz.ntmps29
  go_wp2_with fail
  go_ret
  exact ⟨ret_bool (by rfl), below_new _ _⟩
end Go.Proofs.YtpmipoljnchheaaGreat
