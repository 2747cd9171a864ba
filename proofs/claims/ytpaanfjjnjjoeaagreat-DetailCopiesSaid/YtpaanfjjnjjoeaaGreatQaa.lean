/- Words for memory, used by all walks of this seat: a slice that reads as a list (SlOf), a block known whole (Blk), small facts on endings. Conditions: none; no statement of the program is spoken of here. The names of decimal: which bytes are letters, digits, and how many bytes a word has. Plain lists and numbers: the place of the first element with a property, and sums. No statement of the program is spoken of here. Sizes of bars: the list of sizes, and whether a number is one. A set of whole numbers, kept as a map from int to bool that the call made. Plain: ascending, each once: what slices.Sort and slices.Compact leave. No walk stands here. What slices.Sort and slices.Compact of whole numbers are asked to do (the proofs stand in a text of their own, behind the shelf); an append that leaves another block alone. 'append(out, l...)' onto an own row of numbers; slices.Equal of two equal lists of numbers. The rest of a region of which all that is left is guarded off, moved, or picked: passed at once. No function of the program is spoken of here. -/
import Derived.Test.YtpaanfjjnjjoeaaGreatProg
import Derived.WalkKit
import Derived.WalkSpells
import Derived.WalkLawsBesides
import Derived.Handy
import Derived.Deep.Draws
import Derived.BigQuiet
import Derived.Lib.QuietBelow
import Derived.Maps.Own
import Derived.Maps.OwnOps
import Derived.Maps.Views
import Derived.Lib.SlicesCompact
import Derived.Lib.RowBridge
import Derived.Sort.OwnSortedInts
import Derived.Maps.AppendAt
import Derived.Deep.QuietTactic
namespace Go.Proofs.YtpaanfjjnjjoeaaGreat
open Go.RowKit

theorem ret_bool {a b : Bool} (h : a = b) : Ending.returned (.bool a) = .returned (.bool b) := by rw [h]
theorem ret_int {k : IntKind} {a b : Int} (h : a = b) : Ending.returned (.int k a) = .returned (.int k b) := by rw [h]
theorem ret_ii {a b c d : Int} (h : a = b) (h' : c = d) : Ending.returned (.tuple #[.int .i64 a, .int .i64 c]) = .returned (.tuple #[.int .i64 b, .int .i64 d]) := by rw [h, h']
theorem ret_str {a b : ByteArray} (h : a = b) : Ending.returned (.string a) = .returned (.string b) := by rw [h]
theorem hide {p : Prop} (h : p) : Hid p := h

/-- A block of cells that is known whole, no cell of it frozen. -/
def Blk (w : World) (g : Nat) (t : TypeId) (cs : Array Value) : Prop := w.heap[g]? = some (.cells cs t (0, 0))
section
variable {w w' : World} {g : Nat} {t : TypeId} {cs : Array Value}
theorem Blk.lt (h : Blk w g t cs) : g < w.heap.size := by
  rcases Nat.lt_or_ge g w.heap.size with hlt | hge
  · exact hlt
  · unfold Blk at h; rw [Array.getElem?_eq_none hge] at h; cases h
theorem Blk.cell (h : Blk w g t cs) (i : Nat) : w.cell? ⟨g, i, none⟩ = cs[i]? := cell_of_row w g i cs t (0, 0) h
theorem Blk.frozen (h : Blk w g t cs) (i : Nat) : w.frozen? ⟨g, i, none⟩ = false := by
  unfold Blk at h
  simp [World.frozen?, h]
theorem Blk.new (w : World) (t : TypeId) (cs : Array Value) : Blk (w.alloc (.cells cs t)) w.heap.size t cs := heap_alloc_new w _
theorem Blk.new1 (w : World) (o : Obj) (t : TypeId) (cs : Array Value) : Blk ((w.alloc o).alloc (.cells cs t)) (w.heap.size + 1) t cs := by
  have := heap_alloc_new (w.alloc o) (.cells cs t)
  simpa [Blk] using this
theorem Blk.new2 (w : World) (o o' : Obj) (t : TypeId) (cs : Array Value) : Blk (((w.alloc o).alloc o').alloc (.cells cs t)) (w.heap.size + 2) t cs := by
  have := heap_alloc_new ((w.alloc o).alloc o') (.cells cs t)
  simpa [Blk] using this
theorem Blk.keep (h : Blk w g t cs) (hb : Below w.heap.size w w') : Blk w' g t cs := (hb.block g h.lt).trans h
theorem Blk.drew (h : Blk w g t cs) : Blk w.drew g t cs := h
theorem Blk.drewN (h : Blk w g t cs) (n : Nat) : Blk (w.drewN n) g t cs := h
theorem Blk.alloc (h : Blk w g t cs) (o : Obj) : Blk (w.alloc o) g t cs := (Below.heap_alloc w o g h.lt).trans h
theorem Blk.set_ (h : Blk w g t cs) (i : Nat) (u : Value) : Blk (w.setCell ⟨g, i, none⟩ u) g t (cs.setIfInBounds i u) := by
  unfold Blk at h ⊢
  simp [World.setCell, Array.getElem?_modify, h]
theorem Blk.far (h : Blk w g t cs) {p : Addr} (hp : g ≠ p.block) (u : Value) : Blk (w.setCell p u) g t cs := (Below.heap_setCell w p u g hp).trans h
theorem Blk.below {B : Nat} (h : Blk w g t cs) (hb : Below B w w') (hg : g < B) : Blk w' g t cs := (hb.block g hg).trans h
theorem Blk.grown {row : Option Nat} (h : Blk w g t cs) (hb : w.grownBy w' row) (hg : some g ≠ row) : Blk w' g t cs := (hb.block g h.lt hg).trans h
end

/-- Two steps behind one another, the second one below what the first one has reached. -/
theorem below_step {B : Nat} {a b c : World} (h : Below B a b) (k : Below b.heap.size b c) (hB : B ≤ a.heap.size) : Below B a c := h.trans (k.mono (Nat.le_trans hB h.size))
theorem le_alloc {B : Nat} {w : World} (h : B ≤ w.heap.size) (o : Obj) : B ≤ (w.alloc o).heap.size := Nat.le_trans h (by simp)
theorem below_new (w : World) (o : Obj) : Below w.heap.size w (w.alloc o) := (Below.refl _ _).alloc (Nat.le_refl _) _
theorem below_new2 (w : World) (o o' : Obj) : Below w.heap.size w ((w.alloc o).alloc o') := (below_new w o).alloc (by simp) _

/-- A contract that leaves the world alone, met in a region that draws its order. -/
theorem regrown_same {P : Program} {f : FuncId} {args : Array Value} {w : World} {d : Nat} {os : Array Obj} {v : Value}
    (h : Calls P f args (Go.Sort.grow (redrawn w d) os) fun e w' => e = .returned v ∧ Go.Sort.grow (redrawn w d) os = w') : Calls P f args (Go.Sort.grow (redrawn w d) os) fun e w'' => e = .returned v ∧ ∃ p : Regrown, w'' = Go.Sort.grow (redrawn w p.d) p.os :=
  Calls.regrown_of (h.mono fun _ _ ⟨he, hw⟩ => ⟨he, by rw [← hw]; exact Below.refl _ _⟩)

/-- The slice with address A reads as the list l; each element lies in 'size' cells that stand to it in the relation R; all of it lies below block B. -/
def SlOf {α : Type} (w : World) (B size : Nat) (R : World → Nat → List Value → α → Prop) (A : Option Addr) (l : List α) : Prop :=
  0 < l.length → ∃ b off, A = some ⟨b, off, none⟩ ∧ b < B ∧ ∀ k x, l[k]? = some x → ∃ vs, vs.length = size ∧ R w B vs x ∧ ∀ j v, vs[j]? = some v → w.cell? ⟨b, off + k * size + j, none⟩ = some v

/-- The relation R is kept while nothing below its bound turns. -/
def Carried {α : Type} (R : World → Nat → List Value → α → Prop) : Prop := ∀ (w w' : World) (B B' : Nat) vs x, Below B w w' → B ≤ B' → R w B vs x → R w' B' vs x

/-- An element that is nothing but its cells. -/
def Flat {α : Type} (enc : α → List Value) : World → Nat → List Value → α → Prop := fun _ _ vs x => vs = enc x
theorem Flat.carried {α : Type} (enc : α → List Value) : Carried (Flat enc) := fun _ _ _ _ _ _ _ _ h => h

section
variable {α : Type} {w w' : World} {B B' size : Nat} {R : World → Nat → List Value → α → Prop} {A : Option Addr} {l : List α}
theorem SlOf.nil (w : World) (B size : Nat) (R : World → Nat → List Value → α → Prop) (A : Option Addr) : SlOf w B size R A [] := fun h => absurd h (by simp)
theorem SlOf.carry (hR : Carried R) (h : SlOf w B size R A l) (hb : Below B w w') (hB : B ≤ B') : SlOf w' B' size R A l := by
  intro hl
  obtain ⟨b, off, rfl, hlt, hc⟩ := h hl
  refine ⟨b, off, rfl, by omega, fun k x hx => ?_⟩
  obtain ⟨vs, hs, hr, hv⟩ := hc k x hx
  exact ⟨vs, hs, hR _ _ _ _ _ _ hb hB hr, fun j v hj => (hb.cell hlt).trans (hv j v hj)⟩
theorem SlOf.carried {size : Nat} {R : World → Nat → List Value → α → Prop} (hR : Carried R) (A : Option Addr) (l : List α) (h : SlOf w B size R A l) (hb : Below B w w') (hB : B ≤ B') : SlOf w' B' size R A l := h.carry hR hb hB
theorem SlOf.at_ (h : SlOf w B size R A l) {k : Nat} (hk : k < l.length) :
    ∃ b off x vs, A = some ⟨b, off, none⟩ ∧ b < B ∧ l[k]? = some x ∧ vs.length = size ∧ R w B vs x ∧ ∀ j v, vs[j]? = some v → w.cell? ⟨b, off + k * size + j, none⟩ = some v := by
  obtain ⟨b, off, rfl, hlt, hc⟩ := h (by omega)
  obtain ⟨vs, hs, hr, hv⟩ := hc k _ (List.getElem?_eq_getElem hk)
  exact ⟨b, off, _, vs, rfl, hlt, List.getElem?_eq_getElem hk, hs, hr, hv⟩
theorem SlOf.of_row {xs : List Value} {g : Nat} (hB : g < B) (hc : ∀ j u, xs[j]? = some u → w.cell? ⟨g, j, none⟩ = some u)
    (hl : ∀ k x, l[k]? = some x → ∃ vs, vs.length = size ∧ R w B vs x ∧ ∀ j v, vs[j]? = some v → xs[k * size + j]? = some v) : SlOf w B size R (some ⟨g, 0, none⟩) l := by
  intro _
  refine ⟨g, 0, rfl, hB, fun k x hx => ?_⟩
  obtain ⟨vs, hs, hr, hv⟩ := hl k x hx
  exact ⟨vs, hs, hr, fun j v hj => by have := hc _ _ (hv j v hj); simpa using this⟩
end

theorem flatMap_get {α : Type} {enc : α → List Value} {size : Nat} (he : ∀ x, (enc x).length = size) : ∀ (l : List α) (k : Nat) (x : α), l[k]? = some x → ∀ j v, (enc x)[j]? = some v → (l.flatMap enc)[k * size + j]? = some v := by
  intro l
  induction l with
  | nil => intro k x h; simp at h
  | cons y l ih =>
    intro k x h j v hj
    have hjl : j < size := by rw [← he x]; exact (List.getElem?_eq_some_iff.1 hj).1
    cases k with
    | zero =>
      simp at h
      subst h
      rw [List.flatMap_cons, List.getElem?_append_left (by rw [he]; omega)]
      simpa using hj
    | succ k =>
      rw [List.getElem?_cons_succ] at h
      rw [List.flatMap_cons, List.getElem?_append_right (by rw [he, Nat.add_mul]; omega), he]
      have := ih k x h j v hj
      rwa [show (k + 1) * size + j - size = k * size + j from by rw [Nat.add_mul]; omega]

theorem flatMap_len {α : Type} {enc : α → List Value} {size : Nat} (he : ∀ x, (enc x).length = size) (l : List α) : (l.flatMap enc).length = l.length * size := by
  induction l with
  | nil => simp
  | cons y l ih => rw [List.flatMap_cons, List.length_append, ih, he, List.length_cons, Nat.add_mul]; omega

/-- A slice literal that the call has just made. -/
theorem SlOf.lit {α : Type} {enc : α → List Value} {size : Nat} (he : ∀ x, (enc x).length = size) (w : World) (e : TypeId) (cs : Array Value) (l : List α) (hcs : cs.toList = l.flatMap enc) {B : Nat} (hB : w.heap.size < B) :
    SlOf (w.alloc (.cells cs e)) B size (Flat enc) (some ⟨w.heap.size, 0, none⟩) l :=
  SlOf.of_row (xs := cs.toList) hB (fun j u hu => by rw [(Blk.new w e cs).cell j]; simpa using hu) (fun k x hx => ⟨enc x, he x, rfl, fun j v hj => by rw [hcs]; exact flatMap_get he l k x hx j v hj⟩)

/-- A slice that the call made by append, read as a list. -/
theorem SlOf.of_own {α : Type} {enc : α → List Value} {size : Nat} (he : ∀ x, (enc x).length = size) (hs : 0 < size) {w : World} {base : Nat} {e : TypeId} {A : Option Addr} {n c : Nat} {xs : List Value} (h : w.ownsRow base e size (.slice A n c) n xs) (l : List α) (hx : xs = l.flatMap enc) :
    SlOf w w.heap.size size (Flat enc) A l := by
  intro hl
  have hlen := h.1
  subst hx
  rw [flatMap_len he] at hlen
  rcases h.2 with ⟨hv, hn⟩ | ⟨g, cap, cur, hv, hb, hh, r⟩
  · subst hn
    have := Nat.mul_pos hl hs
    omega
  · injection hv with hA _ _
    subst hA
    have hg : g < w.heap.size := (Array.getElem?_eq_some_iff.1 hh).1
    exact SlOf.of_row hg (fun j u hu => by
      have := h.cells (g := g) rfl j u hu
      rwa [show (⟨g, 0, none⟩ : Addr).add j = ⟨g, j, none⟩ from by unfold Addr.add; split <;> simp_all] at this) (fun k x hx => ⟨enc x, he x, rfl, fun j v hj => flatMap_get he l k x hx j v hj⟩) hl

/-- The slice v is a row of the call's own, from block 'base' on, that holds just the list l. -/
def Row {α : Type} (w : World) (base : Nat) (e : TypeId) (size : Nat) (enc : α → List Value) (v : Value) (l : List α) : Prop := w.ownsRow base e size v l.length (l.flatMap enc)
section
variable {α : Type} {w w' : World} {base size : Nat} {e : TypeId} {enc : α → List Value} {v : Value} {l : List α}
theorem Row.nil (w : World) (base : Nat) (e : TypeId) (size : Nat) (enc : α → List Value) : Row w base e size enc (.slice none 0 0) [] := World.ownsRow_nil _ _ _ _
theorem Row.alloc (h : Row w base e size enc v l) (o : Obj) : Row (w.alloc o) base e size enc v l := World.ownsRow.alloc h o
theorem Row.drew (h : Row w base e size enc v l) : Row w.drew base e size enc v l := h
theorem Row.keep (h : Row w base e size enc v l) (hb : Below w.heap.size w w') : Row w' base e size enc v l :=
  World.ownsRow.kept h (row := none) ⟨hb.os, hb.tape, hb.output, hb.size, fun k hk _ => hb.block k hk⟩ (by cases v.ownBlock <;> simp)
theorem Row.val (h : Row w base e size enc v l) : ∃ A c, v = .slice A l.length c := by
  rcases h.2 with ⟨hv, hn⟩ | ⟨g, cap, cur, hv, _⟩
  · exact ⟨none, 0, by rw [hv, hn]⟩
  · exact ⟨_, cap, hv⟩
theorem Row.read {A : Option Addr} {n c : Nat} (h : Row w base e size enc (.slice A n c) l) (he : ∀ x, (enc x).length = size) (hs : 0 < size) : SlOf w w.heap.size size (Flat enc) A l := by
  obtain ⟨A', c', hv⟩ := h.val
  injection hv with h1 h2 h3
  subst h1; subst h2; subst h3
  exact SlOf.of_own he hs h l rfl
end

/-- 'append(out, x)' of one element, out a row of the call's own; x lies in a block that has just been laid. -/
theorem wp_append1 {α : Type} {P : Program} {w : World} {o : Oper} {a : Act} {K : Act → World → Prop} {Q : Exit → Act → World → Prop} (s x : Operand) (t : TypeId)
    (ho : o.op = .call { callee := .builtin .append, args := #[s, x], argTypes := #[t, t] }) (base : Nat) (e : TypeId) (z : Value) (size bytes : Nat) (enc : α → List Value)
    (ht : P.underlying t = some (.slice e)) (hi : (P.info? e).map (fun i => (i.zero, i.size, i.bytes)) = some (some z, size, bytes)) (hzs : z.cells.size = size) (hsz : 0 < size) (he : ∀ x, (enc x).length = size) (h1 : ∀ x, ∀ u ∈ enc x, u.oneCell' = true)
    (v : Value) (l : List α) (y : α) (hs : a.eval s = v) (hown : Row w base e size enc v l) (g : Nat) (hx : a.eval x = .slice (some ⟨g, 0, none⟩) 1 1) (hblk : Blk w g e (enc y).toArray)
    (hn : l.length ≤ 1000000) (hby : bytes ≤ 1000) (hbase : base ≤ w.heap.size)
    (h : ∀ A c w', Row w' base e size enc (.slice A (l.length + 1) c) (l ++ [y]) → Below base w w' → (∀ g' t' cs', t' ≠ e → Blk w g' t' cs' → Blk w' g' t' cs') → K (a.put o.dst (.slice A (l.length + 1) c)) w') : o.wp P a w K Q := by
  obtain ⟨i, hi0, hz, h2, h3⟩ := info_parts hi
  have hm : (l.length + 1) * bytes ≤ 1000001 * 1000 := Nat.mul_le_mul (by omega) hby
  refine wp_append_own w s x t ho base e i z size bytes ht hi0 hz h2 h3 hzs hsz v l.length (l.flatMap enc) hs hown ⟨g, 0, none⟩ 1 1 (enc y) hx (by rw [he]; omega) ?_ (h1 y) (by unfold maxLen; omega) (by omega) hbase ?_
  · intro j u hu
    have hadd : (⟨g, 0, none⟩ : Addr).add j = ⟨g, j, none⟩ := by unfold Addr.add; split <;> simp_all
    rw [hadd, hblk.cell]
    simpa using hu
  · intro v' w' hown' hg _
    have hR : Row w' base e size enc v' (l ++ [y]) := by
      unfold Row
      rw [List.flatMap_append]
      simpa using hown'
    obtain ⟨A, c, hv⟩ := hR.val
    rw [List.length_append, List.length_singleton] at hv
    subst hv
    refine h A c w' hR ((Below.refl base w).grown hg hbase (fun k hk => (hown.lt k hk).1)) (fun g' t' cs' hne hb' => hb'.grown hg ?_)
    intro he'
    rcases hown.2 with ⟨hv, _⟩ | ⟨g2, cap, cur, hv, _, hh, _⟩
    · rw [hv] at he'; simp [Value.ownBlock] at he'
    · rw [hv] at he'
      simp [Value.ownBlock] at he'
      subst he'
      unfold Blk at hb'
      rw [hh] at hb'
      injection hb' with hb'
      injection hb' with _ ht'
      exact hne ht'.symm
theorem wpList_append1 {α : Type} {P : Program} {w : World} {ops : Array Oper} {rest : List Oper} {o : Oper} {a : Act} {Q : Exit → Act → World → Prop} (hgd : o.guard = none) (s x : Operand) (t : TypeId)
    (ho : o.op = .call { callee := .builtin .append, args := #[s, x], argTypes := #[t, t] }) (base : Nat) (e : TypeId) (z : Value) (size bytes : Nat) (enc : α → List Value)
    (ht : P.underlying t = some (.slice e)) (hi : (P.info? e).map (fun i => (i.zero, i.size, i.bytes)) = some (some z, size, bytes)) (hzs : z.cells.size = size) (hsz : 0 < size) (he : ∀ x, (enc x).length = size) (h1 : ∀ x, ∀ u ∈ enc x, u.oneCell' = true)
    (v : Value) (l : List α) (y : α) (hs : a.eval s = v) (hown : Row w base e size enc v l) (g : Nat) (hx : a.eval x = .slice (some ⟨g, 0, none⟩) 1 1) (hblk : Blk w g e (enc y).toArray)
    (hn : l.length ≤ 1000000) (hby : bytes ≤ 1000) (hbase : base ≤ w.heap.size)
    (h : ∀ A c w', Row w' base e size enc (.slice A (l.length + 1) c) (l ++ [y]) → Below base w w' → (∀ g' t' cs', t' ≠ e → Blk w g' t' cs' → Blk w' g' t' cs') → wpList P ops Q rest (a.put o.dst (.slice A (l.length + 1) c)) w') : wpList P ops Q (o :: rest) a w :=
  wpList_plain hgd fun _ hK => wp_append1 s x t ho base e z size bytes enc ht hi hzs hsz he h1 v l y hs hown g hx hblk hn hby hbase fun A c w' h2 h3 h4 => hK _ _ (h A c w' h2 h3 h4)
/-- The same in a region that draws its order. -/
theorem step_append1 {α : Type} {P : Program} {w : World} {ops : Array Oper} {o : Oper} {a : Act} {K : Act → World → Prop} {Q : Exit → Act → World → Prop} {E : Prop} (hgd : o.guard = none) (s x : Operand) (t : TypeId)
    (ho : o.op = .call { callee := .builtin .append, args := #[s, x], argTypes := #[t, t] }) (base : Nat) (e : TypeId) (z : Value) (size bytes : Nat) (enc : α → List Value)
    (ht : P.underlying t = some (.slice e)) (hi : (P.info? e).map (fun i => (i.zero, i.size, i.bytes)) = some (some z, size, bytes)) (hzs : z.cells.size = size) (hsz : 0 < size) (he : ∀ x, (enc x).length = size) (h1 : ∀ x, ∀ u ∈ enc x, u.oneCell' = true)
    (v : Value) (l : List α) (y : α) (hs : a.eval s = v) (hown : Row w base e size enc v l) (g : Nat) (hx : a.eval x = .slice (some ⟨g, 0, none⟩) 1 1) (hblk : Blk w g e (enc y).toArray)
    (hn : l.length ≤ 1000000) (hby : bytes ≤ 1000) (hbase : base ≤ w.heap.size)
    (h : ∀ A c w', Row w' base e size enc (.slice A (l.length + 1) c) (l ++ [y]) → Below base w w' → (∀ g' t' cs', t' ≠ e → Blk w g' t' cs' → Blk w' g' t' cs') → K (a.put o.dst (.slice A (l.length + 1) c)) w') : if Region.wanted o (yielded ops a.tmps) = true then Oper.wp P o a w K Q else E := by
  have hw : Region.wanted o (yielded ops a.tmps) = true := by simp [Region.wanted, hgd]
  rw [if_pos hw]
  exact wp_append1 s x t ho base e z size bytes enc ht hi hzs hsz he h1 v l y hs hown g hx hblk hn hby hbase h

/-- A function's results where the first one is a struct, which lies in a block that is known. -/
theorem results_ct {P : Program} {fn : Func} {p q : Tmp} {ty : TypeId} (h : fn.results = #[.cell p ty, .tmp q]) {tmps : Array Value} {w : World} {g : Nat} {t : TypeId} {cs : Array Value} {d : TypeDesc}
    (hp : tmps.getD p undef = .pointer (some ⟨g, 0, none⟩)) (hg : Blk w g t cs) (hu : P.underlying ty = some d) (hd : (match d with | .struct _ | .array _ _ => true | _ => false) = true) (hi : (P.info? ty).map (·.size) = some cs.size) :
    (results fn tmps).run P w = .ok (.tuple #[.agg cs, tmps.getD q undef]) w := by
  have hp' : tmps[p]?.getD undef = .pointer (some ⟨g, 0, none⟩) := by simpa using hp
  simp [results, h, hp', asAddr, run_loadVar_row w g t ty cs (0, 0) d hg hu hd hi]
/-- .. where the struct is the only result. -/
theorem results_c {P : Program} {fn : Func} {p : Tmp} {ty : TypeId} (h : fn.results = #[.cell p ty]) {tmps : Array Value} {w : World} {g : Nat} {t : TypeId} {cs : Array Value} {d : TypeDesc}
    (hp : tmps.getD p undef = .pointer (some ⟨g, 0, none⟩)) (hg : Blk w g t cs) (hu : P.underlying ty = some d) (hd : (match d with | .struct _ | .array _ _ => true | _ => false) = true) (hi : (P.info? ty).map (·.size) = some cs.size) :
    (results fn tmps).run P w = .ok (.agg cs) w := results_cell_row h tmps w g t cs (0, 0) d hp hg hu hd hi

/-- Whole numbers, as elements. -/
def encInt (x : Int) : List Value := [.int .i64 x]
theorem encInt_len (x : Int) : (encInt x).length = 1 := rfl
theorem encInt_one (x : Int) : ∀ u ∈ encInt x, u.oneCell' = true := by
  intro u hu
  simp [encInt] at hu
  subst hu
  rfl
abbrev Ints (w : World) (B : Nat) (A : Option Addr) (l : List Int) : Prop := SlOf w B 1 (Flat encInt) A l
theorem Ints.carry {w w' : World} {B B' : Nat} {A : Option Addr} {l : List Int} (h : Ints w B A l) (hb : Below B w w') (hB : B ≤ B') : Ints w' B' A l := SlOf.carry (Flat.carried _) h hb hB
theorem Ints.get {w : World} {B : Nat} {A : Option Addr} {l : List Int} (h : Ints w B A l) {k : Nat} (hk : k < l.length) :
    ∃ b off x, A = some ⟨b, off, none⟩ ∧ b < B ∧ l[k]? = some x ∧ w.cell? ⟨b, off + k, none⟩ = some (.int .i64 x) := by
  obtain ⟨b, off, x, vs, hA, hb, hx, _, hr, hc⟩ := h.at_ hk
  have := hc 0 (.int .i64 x) (by rw [show vs = encInt x from hr]; rfl)
  simp at this
  exact ⟨b, off, x, hA, hb, hx, this⟩
/-- A block of whole numbers. -/
abbrev intCells (l : List Int) : Array Value := (l.map (Value.int .i64)).toArray
theorem Ints.of_blk {w : World} {g : Nat} {t : TypeId} {l : List Int} (h : Blk w g t (intCells l)) {B : Nat} (hB : g < B) : Ints w B (some ⟨g, 0, none⟩) l :=
  SlOf.of_row (xs := l.map (Value.int .i64)) hB (fun j u hu => by rw [h.cell]; simpa using hu) (fun k x hx => ⟨encInt x, rfl, rfl, fun j v hj => by
    cases j with
    | zero => simp [encInt] at hj; subst hj; simp [hx]
    | succ j => simp [encInt] at hj⟩)
theorem intCells_set (l : List Int) (j : Nat) (n : Int) : (intCells l).setIfInBounds j (.int .i64 n) = intCells (l.set j n) := by
  simp [intCells, List.map_set]
theorem intCells_get {l : List Int} {j : Nat} {n : Int} (h : l[j]? = some n) : (intCells l)[j]? = some (.int .i64 n) := by simp [intCells, h]
end Go.Proofs.YtpaanfjjnjjoeaaGreat
namespace Go.Proofs.YtpaanfjjnjjoeaaGreat
open Go.RowKit

def isLetter (c : Int) : Bool := (decide (97 ≤ c) && decide (c ≤ 122)) || (decide (65 ≤ c) && decide (c ≤ 90))
def isDigit (c : Int) : Bool := decide (48 ≤ c) && decide (c ≤ 57)
def isWord (c : UInt8) : Bool := isLetter c.toNat || isDigit c.toNat || ((c.toNat : Int) == 95)
def wordLen (l : List UInt8) : Nat := (l.takeWhile isWord).length
def isName (s : ByteArray) : Bool :=
  decide (s.size ≠ 0) && decide (s.size ≤ 20) && (match s.data.toList with | c :: _ => isLetter c.toNat | [] => false) && decide (wordLen s.data.toList = s.size)

theorem drop_at (s : ByteArray) (k : Nat) (h : k < s.size) : s.data.toList.drop k = s[k] :: s.data.toList.drop (k + 1) := by
  rw [List.drop_eq_getElem_cons (by simpa using h)]; rfl

theorem wordLen_cons (c : UInt8) (l : List UInt8) : wordLen (c :: l) = if isWord c then wordLen l + 1 else 0 := by
  unfold wordLen; rw [List.takeWhile_cons]; split <;> simp
theorem wordLen_le (l : List UInt8) : wordLen l ≤ l.length := by
  unfold wordLen; exact (List.takeWhile_prefix isWord).length_le

set_option maxHeartbeats 400000 in
theorem letter_any (c : Int) (w : World) :
    Calls Tryz.prog 223 #[.int .u8 c] w fun e w' => e = .returned (.bool (isLetter c)) ∧ w = w' := by
  go_enter Tryz.func223, Tryz.ntmps223
  go_wp2
  all_goals
    go_ret
    exact ⟨ret_bool (by rw [Bool.eq_iff_iff]; simp [isLetter]; omega), rfl⟩

set_option maxHeartbeats 400000 in
theorem digit_any (c : Int) (w : World) :
    Calls Tryz.prog 269 #[.int .u8 c] w fun e w' => e = .returned (.bool (isDigit c)) ∧ w = w' := by
  go_enter Tryz.func269, Tryz.ntmps269
  go_wp2
  all_goals
    go_ret
    exact ⟨ret_bool (by rw [Bool.eq_iff_iff]; simp [isDigit]; try omega), rfl⟩

set_option maxHeartbeats 400000 in
theorem word_any (s : ByteArray) (w : World) (hs : s.size ≤ maxLen) :
    Calls Tryz.prog 224 #[.string s] w fun e w' => e = .returned (.int .i64 (wordLen s.data.toList)) ∧ w = w' := by
  unfold maxLen at hs
  go_enter Tryz.func224, Tryz.ntmps224
  go_wp2
  go_loop [3] (fun i => ∃ k : Nat, k ≤ s.size ∧ i = .int .i64 k ∧ Hid (k + wordLen (s.data.toList.drop k) = wordLen s.data.toList)) (fun i => s.size - (intOf i).toNat)
  case atStart => exact ⟨0, Nat.zero_le _, rfl, hide (by simp)⟩
  case round =>
    obtain ⟨k, hk, rfl, hw⟩ := hrel
    by_cases hlt : k < s.size
    · have hd := hide (drop_at s k hlt)
      go_wp2_with (first | (go_at_call 223; refine (letter_any _ _).mono ?_; rintro e w' ⟨rfl, rfl⟩) | (go_at_call 269; refine (digit_any _ _).mono ?_; rintro e w' ⟨rfl, rfl⟩))
      all_goals first
        | (go_ret
           exact ⟨ret_int (by have h1 := hw.out; rw [hd.out, wordLen_cons, if_neg (by simp_all [isWord])] at h1; omega), rfl⟩)
        | (go_round
           case rel => exact ⟨k + 1, by omega, by go_num, hide (by have h1 := hw.out; rw [hd.out, wordLen_cons, if_pos (by simp_all [isWord])] at h1; omega)⟩
           case measure => simp [intOf]; omega)
    · go_wp2
      go_ret
      exact ⟨ret_int (by have h1 := hw.out; rw [List.drop_eq_nil_of_le (by simp; omega)] at h1; simp [wordLen] at h1 ⊢; omega), rfl⟩

theorem isName_cons {s : ByteArray} {c : UInt8} {r : List UInt8} (h : s.data.toList = c :: r) : isName s = (decide (s.size ≤ 20) && isLetter c.toNat && decide (wordLen (c :: r) = s.size)) := by
  have h0 : s.size ≠ 0 := by have : s.data.toList.length = s.size := by simp
                             rw [h] at this; simp at this; omega
  simp [isName, h, h0]

set_option maxHeartbeats 400000 in
theorem isName_any (s : ByteArray) (w : World) (hs : s.size ≤ maxLen) :
    Calls Tryz.prog 167 #[.string s] w fun e w' => e = .returned (.bool (isName s)) ∧ w = w' := by
  by_cases h0 : s.size = 0
  · have hl : s.data.toList = [] := List.eq_nil_of_length_eq_zero (by simpa using h0)
    have hn := hide (show isName s = false by simp [isName, h0])
    have he : s.toList = [] := by rw [ByteArray.toList_eq, hl]
    clear hs
    go_enter Tryz.func167, Tryz.ntmps167
    go_wp2_with fail
    go_ret
    exact ⟨ret_bool (by rw [hn.out]), rfl⟩
  · obtain ⟨c, r, hl⟩ : ∃ c r, s.data.toList = c :: r := by
      cases h : s.data.toList with
      | nil => exfalso; have : s.data.toList.length = s.size := by simp
               rw [h] at this; simp at this; omega
      | cons c r => exact ⟨c, r, rfl⟩
    have hn := hide (isName_cons hl)
    have hp : 0 < s.size := by omega
    have hc : s[0]'hp = c := by
      have : s.data.toList[0]? = some c := by rw [hl]; rfl
      have h2 : s.data.toList[0]? = some (s[0]'hp) := List.getElem?_eq_getElem (by simp; omega)
      rw [h2] at this; injection this
    have hne : s.toList.isEmpty = false := by rw [ByteArray.toList_eq, hl]; rfl
    have HC := hide hc
    have HL := hide hl
    clear h0 hc hl
    go_enter Tryz.func167, Tryz.ntmps167
    go_wp2_with (first | (go_at_call 223; refine (letter_any _ _).mono ?_; rintro e w' ⟨rfl, rfl⟩) | (go_at_call 224; refine (word_any _ _ hs).mono ?_; rintro e w' ⟨rfl, rfl⟩))
    all_goals
      go_ret
      refine ⟨ret_bool ?_, rfl⟩
      rw [hn.out, ← HL.out, ← HC.out, Bool.eq_iff_iff]
      simp_all <;> omega
end Go.Proofs.YtpaanfjjnjjoeaaGreat
namespace Go.Proofs.YtpaanfjjnjjoeaaGreat

section
variable {α : Type}
/-- The place of the first element for which p holds; -1 if there is none. -/
def idx (p : α → Bool) (l : List α) : Int := match l.findIdx? p with | some i => (i : Int) | none => -1
/-- Among the first k elements there is none for which p holds. -/
def NoneTo (p : α → Bool) (l : List α) (k : Nat) : Prop := ∀ j y, j < k → l[j]? = some y → p y = false
theorem NoneTo.zero (p : α → Bool) (l : List α) : NoneTo p l 0 := fun _ _ h => absurd h (by omega)
theorem NoneTo.succ {p : α → Bool} {l : List α} {k : Nat} {y : α} (h : NoneTo p l k) (hy : l[k]? = some y) (hp : p y = false) : NoneTo p l (k + 1) := by
  intro j z hj hz
  rcases Nat.lt_or_ge j k with h1 | h1
  · exact h j z h1 hz
  · obtain rfl : j = k := by omega
    rw [hy] at hz; injection hz with hz; rw [← hz]; exact hp
theorem NoneTo.hit {p : α → Bool} {l : List α} {k : Nat} {y : α} (h : NoneTo p l k) (hy : l[k]? = some y) (hp : p y = true) : idx p l = k := by
  have hk : k < l.length := (List.getElem?_eq_some_iff.1 hy).1
  have : l.findIdx? p = some k := by
    rw [List.findIdx?_eq_some_iff_getElem]
    refine ⟨hk, ?_, fun j hj => ?_⟩
    · rw [List.getElem?_eq_getElem hk] at hy; injection hy with hy; rw [hy]; exact hp
    · rw [h j _ hj (List.getElem?_eq_getElem (by omega))]; simp
  simp [idx, this]
theorem NoneTo.miss {p : α → Bool} {l : List α} (h : NoneTo p l l.length) : idx p l = -1 := by
  have : l.findIdx? p = none := by
    rw [List.findIdx?_eq_none_iff]
    intro x hx
    obtain ⟨j, hj, rfl⟩ := List.getElem_of_mem hx
    exact h j _ hj (List.getElem?_eq_getElem hj)
  simp [idx, this]
theorem idx_range (p : α → Bool) (l : List α) : -1 ≤ idx p l ∧ idx p l < l.length := by
  unfold idx
  split
  · rename_i i h
    have := (List.findIdx?_eq_some_iff_getElem.1 h).1
    omega
  · omega
theorem idx_any (p : α → Bool) (l : List α) : decide (0 ≤ idx p l) = l.any p := by
  unfold idx
  split
  · rename_i i h
    obtain ⟨hi, hp, _⟩ := List.findIdx?_eq_some_iff_getElem.1 h
    have : l.any p = true := List.any_eq_true.2 ⟨_, List.getElem_mem hi, hp⟩
    rw [this]; simp
  · rename_i h
    rw [List.findIdx?_eq_none_iff] at h
    have : l.any p = false := by rw [List.any_eq_false]; intro x hx; rw [h x hx]; simp
    rw [this]; simp
theorem idx_spec {p : α → Bool} {l : List α} {k : Nat} (h : idx p l = k) : ∃ y, l[k]? = some y ∧ p y = true ∧ NoneTo p l k := by
  unfold idx at h
  split at h
  · rename_i i hi
    obtain ⟨hl, hp, hn⟩ := List.findIdx?_eq_some_iff_getElem.1 hi
    obtain rfl : i = k := by omega
    refine ⟨_, List.getElem?_eq_getElem hl, hp, fun j y hj hy => ?_⟩
    rw [List.getElem?_eq_getElem (by omega)] at hy
    injection hy with hy
    have := hn j hj
    rw [hy] at this
    simpa using this
  · omega
end

theorem idx_at {l : List Int} {x : Int} {j : Nat} (hn : l.Nodup) (h : l[j]? = some x) : idx (fun y => x == y) l = j := by
  refine NoneTo.hit (fun i y hi hy => ?_) h (by simp)
  have hj := (List.getElem?_eq_some_iff.1 h)
  have hy' := (List.getElem?_eq_some_iff.1 hy)
  obtain ⟨hj1, rfl⟩ := hj
  obtain ⟨hi1, rfl⟩ := hy'
  simp only [beq_eq_false_iff_ne]
  intro he
  exact List.pairwise_iff_getElem.1 hn i j hi1 hj1 hi he.symm
theorem take_snoc' {α : Type} {l : List α} {k : Nat} {y : α} (h : l[k]? = some y) : l.take (k + 1) = l.take k ++ [y] := by
  have hk : k < l.length := (List.getElem?_eq_some_iff.1 h).1
  rw [List.getElem?_eq_getElem hk] at h
  injection h with h
  rw [List.take_succ_eq_append_getElem hk, h]
theorem drop_at' {α : Type} {l : List α} {k : Nat} {y : α} (h : l[k]? = some y) : l.drop k = y :: l.drop (k + 1) := by
  have hk : k < l.length := (List.getElem?_eq_some_iff.1 h).1
  rw [List.getElem?_eq_getElem hk] at h
  injection h with h
  rw [List.drop_eq_getElem_cons hk, h]
theorem lt_of_get {α : Type} {l : List α} {k : Nat} {y : α} (h : l[k]? = some y) : k < l.length := (List.getElem?_eq_some_iff.1 h).1
theorem mem_of_get {α : Type} {l : List α} {k : Nat} {y : α} (h : l[k]? = some y) : y ∈ l := List.mem_of_getElem? h
theorem if_max (a b : Int) : (if a < b then b else a) = max a b := by rw [Int.max_def]; split <;> split <;> omega
theorem if_min (a b : Int) : (if b < a then b else a) = min a b := by rw [Int.min_def]; split <;> split <;> omega
end Go.Proofs.YtpaanfjjnjjoeaaGreat
namespace Go.Proofs.YtpaanfjjnjjoeaaGreat
open Go.RowKit

set_option maxHeartbeats 400000 in
theorem index_any (A : Option Addr) (l : List Int) (n c : Nat) (x : Int) (w : World) {B : Nat} (h : Ints w B A l) (hn : n = l.length) (hm : n ≤ 60000) :
    Calls Tryz.prog 270 #[.slice A n c, .int .i64 x] w fun e w' => e = .returned (.int .i64 (idx (fun y => x == y) l)) ∧ w = w' := by
  have hn' := hide hn; clear hn
  go_enter Tryz.func270, Tryz.ntmps270
  go_wp2
  go_loop [5, 8] (fun _ i => ∃ k : Nat, k ≤ n ∧ i = .int .i64 k ∧ NoneTo (fun y => x == y) l k) (fun _ i => n - (intOf i).toNat)
  case atStart => exact ⟨0, Nat.zero_le _, rfl, NoneTo.zero _ _⟩
  case round =>
    obtain ⟨k, hk, rfl, hw⟩ := hrel
    by_cases hlt : k < n
    · obtain ⟨b, off, y, rfl, hb, hy, hc⟩ := h.get (k := k) (by rw [← hn'.out]; exact hlt)
      have Hy := hide hy
      clear hy hb h
      go_wp2_with fail
      · go_ret
        exact ⟨ret_int (hw.hit Hy.out (by assumption)).symm, rfl⟩
      · go_round
        case rel => exact ⟨k + 1, by omega, by go_num, hw.succ Hy.out (by assumption)⟩
        case measure => simp [intOf]; omega
    · obtain rfl : k = n := by omega
      go_wp2_with fail
      go_ret
      exact ⟨ret_int (NoneTo.miss (by rw [← hn'.out]; exact hw)).symm, rfl⟩

def steelSizes : List Int := [6, 8, 10, 12, 16, 20, 25, 32, 40]
def has (x : Int) (l : List Int) : Bool := l.contains x
def isSize (d : Int) : Bool := has d steelSizes

set_option maxHeartbeats 400000 in
theorem contains_any (A : Option Addr) (l : List Int) (n c : Nat) (x : Int) (w : World) {B : Nat} (h : Ints w B A l) (hn : n = l.length) (hm : n ≤ 60000) :
    Calls Tryz.prog 225 #[.slice A n c, .int .i64 x] w fun e w' => e = .returned (.bool (has x l)) ∧ w = w' := by
  have hn' := hide hn; clear hn
  go_enter Tryz.func225, Tryz.ntmps225
  go_wp2_with (go_at_call 270; refine (index_any A l n c x _ h hn'.out hm).mono ?_; rintro e w' ⟨rfl, rfl⟩)
  go_ret
  refine ⟨ret_bool ?_, rfl⟩
  rw [idx_any, has, Bool.eq_iff_iff]
  simp

set_option maxHeartbeats 400000 in
theorem sizes_any (w : World) :
    Calls Tryz.prog 226 #[] w fun e w' => ∃ A, e = .returned (.slice A 9 9) ∧ Ints w' w'.heap.size A steelSizes ∧ Below w.heap.size w w' := by
  go_enter Tryz.func226, Tryz.ntmps226
  go_wp2
  go_ret
  exact ⟨_, rfl, SlOf.lit encInt_len _ _ _ _ rfl (by simp), (Below.refl _ _).alloc (Nat.le_refl _) _⟩

set_option maxHeartbeats 400000 in
theorem size_any (d : Int) (w : World) :
    Calls Tryz.prog 168 #[.int .i64 d] w fun e w' => e = .returned (.bool (isSize d)) ∧ Below w.heap.size w w' := by
  go_enter Tryz.func168, Tryz.ntmps168
  go_wp2_with (first | (go_at_call 226; refine (sizes_any _).mono ?_; rintro e w1 ⟨A, rfl, hi, hb⟩) | (go_at_call 225; refine (contains_any A steelSizes 9 9 d _ hi rfl (by omega)).mono ?_; rintro e w2 ⟨rfl, rfl⟩))
  go_ret
  exact ⟨rfl, hb⟩

theorem isSize_mem {d : Int} (h : isSize d = true) : d ∈ steelSizes := by simpa [isSize, has] using h
theorem isSize_range {d : Int} (h : isSize d = true) : 6 ≤ d ∧ d ≤ 40 := by
  have := isSize_mem h
  simp [steelSizes] at this
  omega


end Go.Proofs.YtpaanfjjnjjoeaaGreat
namespace Go.Proofs.YtpaanfjjnjjoeaaGreat
open Go.RowKit Go.Maps

theorem keyedInt : Keyed Tryz.prog 3 := int_keyed Tryz.underlying3
theorem zeroBool (w : World) : (zeroValue 4).run Tryz.prog w = .ok (.bool false) w := by kernel_rfl
/-- A number that an int holds. -/
def InInt (x : Int) : Prop := -9223372036854775808 ≤ x ∧ x ≤ 9223372036854775807
theorem InInt.wf {x : Int} (h : InInt x) : (Lit.int .i64 x).wf = true := WalkArith.wf_i64 h
/-- Block b is a map that holds 'true' at just the numbers of the list. -/
def BSet (w : World) (b n : Nat) (seen : List Int) : Prop :=
  ∃ D : DataW Unit, IsMap D ∧ w.ownsMap Tryz.prog 3 (plainElem Tryz.prog 4) b n D ∧ ∀ x : Int, InInt x → D.atKey (.int .i64 x) (.lit (.bool false)) = .lit (.bool (seen.contains x))
section
variable {w w' : World} {b n : Nat} {seen : List Int}
set_option maxRecDepth 100000 in
theorem BSet.new (w : World) : BSet (w.alloc (.map #[] 0)) w.heap.size 0 [] :=
  ⟨.map [], ⟨[], rfl⟩, World.ownsMap_made _ _ _ _, fun _ _ => rfl⟩
set_option maxRecDepth 100000 in
theorem BSet.lt (h : BSet w b n seen) : b < w.heap.size := by obtain ⟨D, _, ho, _⟩ := h; exact ho.lt
set_option maxRecDepth 100000 in
theorem BSet.keep (h : BSet w b n seen) (hb : Below w.heap.size w w') : BSet w' b n seen := by
  obtain ⟨D, hm, ho, ha⟩ := h
  exact ⟨D, hm, ho.kept (row := none) ⟨hb.os, hb.tape, hb.output, hb.size, fun k hk _ => hb.block k hk⟩ (by simp), ha⟩
theorem BSet.alloc (h : BSet w b n seen) (o : Obj) : BSet (w.alloc o) b n seen := h.keep (below_new w o)
set_option maxRecDepth 100000 in
theorem plainElem_bool_inv {v : Value} {z : DataW Unit × List MemPlace} (h : plainElem Tryz.prog 4 v = some z) : ∃ x, v = .bool x ∧ z = (.lit (.bool x), []) := by
  unfold plainElem at h
  rw [Tryz.underlying4] at h
  cases v <;> simp at h
  exact ⟨_, rfl, h.symm⟩
set_option maxRecDepth 100000 in
theorem BSet.look (h : BSet w b n seen) {x : Int} (hx : InInt x) : (Instr.lookup 179 (.map (some b)) (.int .i64 x) false).run Tryz.prog w = .ok (.bool (seen.contains x)) w := by
  obtain ⟨D, _, ho, ha⟩ := h
  obtain ⟨v, ps, hrun, hv⟩ := ho.lookup keyedInt Tryz.underlying179 (zeroBool w) (plainElem_bool Tryz.underlying4 false) (keyOf_int_mk Tryz.underlying3 hx.wf)
  obtain ⟨y, rfl, hz⟩ := plainElem_bool_inv hv
  rw [ha x hx] at hz
  simp only [Prod.mk.injEq, DataW.lit.injEq, Lit.bool.injEq] at hz
  rw [hrun, hz.1]
set_option maxRecDepth 100000 in
theorem BSet.store (h : BSet w b n seen) {x : Int} (hx : InInt x) (hn : n ≤ 1000000) :
    ∃ w', (Instr.mapUpdate 179 (.map (some b)) (.int .i64 x) (.bool true)).run Tryz.prog w = .ok () w' ∧ BSet w' b (n + 1) (x :: seen) ∧ w.grownBy w' (some b) := by
  obtain ⟨D, hm, ho, ha⟩ := h
  obtain ⟨w', hrun, ho', hg⟩ := ho.update keyedInt Tryz.underlying179 (by unfold maxLen; omega) (keyOf_int_mk Tryz.underlying3 hx.wf) (plainElem_bool Tryz.underlying4 true)
  refine ⟨w', hrun, ⟨D.put (.int .i64 x) (.lit (.bool true)), ?_, ho', fun y hy => ?_⟩, hg⟩
  · obtain ⟨es, rfl⟩ := hm
    exact ⟨_, rfl⟩
  · by_cases hxy : y = x
    · subst hxy
      rw [atKey_put_same hm (by trivial)]
      simp
    · rw [atKey_put_other (by intro he; injection he with _ he; exact hxy he), ha y hy]
      simp [hxy]
end
theorem below_grown {B b : Nat} {w0 w w' : World} (h : Below B w0 w) (hg : w.grownBy w' (some b)) (hB : B ≤ w.heap.size) (hb : B ≤ b) : Below B w0 w' := h.grown hg hB (fun k hk => by cases hk; exact hb)
theorem wpList_store_bset {w : World} {ops : Array Oper} {rest : List Oper} {o : Oper} {a : Act} {Q : Exit → Act → World → Prop} (hg : o.guard = none) (m x v : Operand) (hop : o.op = Op.mapUpdate 179 m x v)
    (b n : Nat) (seen : List Int) (hm : a.eval m = .map (some b)) (hown : BSet w b n seen) (hn : n ≤ 1000000) (y : Int) (hx : a.eval x = .int .i64 y) (hv : a.eval v = .bool true) (hy : InInt y)
    (hK : ∀ w', BSet w' b (n + 1) (y :: seen) → w.grownBy w' (some b) → wpList Tryz.prog ops Q rest (a.put o.dst undef) w') : wpList Tryz.prog ops Q (o :: rest) a w := by
  refine wpList_plain hg fun K' hK' => ?_
  obtain ⟨w', hrun, r1, r2⟩ := hown.store hy hn
  unfold Oper.wp
  simp [execOp, hop, hm, hx, hv, hrun, Result.andThen]
  exact hK' _ _ (hK w' r1 r2)
/-- The same in a region that draws its order. -/
theorem step_store_bset {w : World} {ops : Array Oper} {o : Oper} {a : Act} {K : Act → World → Prop} {Q : Exit → Act → World → Prop} {E : Prop} (hgd : o.guard = none) (m x v : Operand) (hop : o.op = Op.mapUpdate 179 m x v)
    (b n : Nat) (seen : List Int) (hm : a.eval m = .map (some b)) (hown : BSet w b n seen) (hn : n ≤ 1000000) (y : Int) (hx : a.eval x = .int .i64 y) (hv : a.eval v = .bool true) (hy : InInt y)
    (hK : ∀ w', BSet w' b (n + 1) (y :: seen) → w.grownBy w' (some b) → K (a.put o.dst undef) w') : if Region.wanted o (yielded ops a.tmps) = true then Oper.wp Tryz.prog o a w K Q else E := by
  have hw : Region.wanted o (yielded ops a.tmps) = true := by simp [Region.wanted, hgd]
  rw [if_pos hw]
  obtain ⟨w', hrun, r1, r2⟩ := hown.store hy hn
  unfold Oper.wp
  simp [execOp, hop, hm, hx, hv, hrun, Result.andThen]
  exact hK w' r1 r2
theorem BSet.grown {w w' : World} {b n g : Nat} {seen : List Int} (h : BSet w b n seen) (hg : w.grownBy w' (some g)) (hb : b ≠ g) : BSet w' b n seen := by
  obtain ⟨D, hm, ho, ha⟩ := h
  exact ⟨D, hm, ho.kept hg (by simpa using hb), ha⟩
theorem BSet.drew {w : World} {b n : Nat} {seen : List Int} (h : BSet w b n seen) : BSet w.drew b n seen := h.keep (Below.drew (Below.refl _ _))
end Go.Proofs.YtpaanfjjnjjoeaaGreat
namespace Go.Proofs.YtpaanfjjnjjoeaaGreat
open Go.RowKit Go.Sort

/-! Ascending, each once: what slices.Sort and slices.Compact leave. -/
theorem compact_asc {zs : List Int} (h : zs.Pairwise (· ≤ ·)) : ∀ m, m ≤ zs.length → (Lib.compactUpTo zs.toArray m).Pairwise (· < ·) ∧ ∀ x, x ∈ Lib.compactUpTo zs.toArray m ↔ x ∈ zs.take m := by
  have hle : ∀ i j (hi : i < zs.length) (hj : j < zs.length), i ≤ j → zs[i] ≤ zs[j] := by
    intro i j hi hj hij
    rcases Nat.lt_or_ge i j with h9 | h9
    · exact List.pairwise_iff_getElem.1 h i j hi hj h9
    · have : i = j := by omega
      subst this
      omega
  have hget : ∀ i (hi : i < zs.length), (zs.toArray)[i]! = zs[i] := by
    intro i hi
    rw [getElem!_pos _ i (by simpa using hi)]
    simp
  intro m
  induction m with
  | zero => intro _; simp [Lib.compactUpTo]
  | succ m ih =>
    intro hm
    obtain ⟨ha, hb⟩ := ih (by omega)
    have hml : m < zs.length := by omega
    rw [Lib.compactUpTo_succ, List.take_succ_eq_append_getElem hml]
    by_cases hk : Lib.keeps zs.toArray m = true
    · rw [if_pos hk, hget m hml]
      refine ⟨?_, fun x => by simp only [List.mem_append, List.mem_singleton]; rw [hb]⟩
      rw [List.pairwise_append]
      refine ⟨ha, by simp, fun x hx y hy => ?_⟩
      simp only [List.mem_singleton] at hy
      subst hy
      obtain ⟨j, hj, rfl⟩ := List.getElem_of_mem ((hb x).1 hx)
      rw [List.length_take] at hj
      rw [List.getElem_take]
      simp only [Lib.keeps, decide_eq_true_eq] at hk
      rcases hk with hk | hk
      · omega
      · rw [hget m hml, hget (m - 1) (by omega)] at hk
        have h1 := hle j (m - 1) (by omega) (by omega) (by omega)
        have h2 := hle (m - 1) m (by omega) hml (by omega)
        omega
    · rw [if_neg hk, List.append_nil]
      refine ⟨ha, fun x => ?_⟩
      rw [hb]
      simp only [Lib.keeps, decide_eq_true_eq, not_or, Decidable.not_not] at hk
      obtain ⟨hk0, hk1⟩ := hk
      rw [hget m hml, hget (m - 1) (by omega)] at hk1
      simp only [List.mem_append, List.mem_singleton]
      refine ⟨fun h => .inl h, fun h => ?_⟩
      rcases h with h | h
      · exact h
      · rw [h, hk1]
        rw [List.mem_iff_getElem]
        exact ⟨m - 1, by rw [List.length_take]; omega, by rw [List.getElem_take]⟩
theorem compact_sorted (l : List Int) : (Lib.compact (l.mergeSort fun x y => decide (x ≤ y))).Pairwise (· < ·) ∧ ∀ x, x ∈ Lib.compact (l.mergeSort fun x y => decide (x ≤ y)) ↔ x ∈ l := by
  have hs : (l.mergeSort fun x y => decide (x ≤ y)).Pairwise (· ≤ ·) := by
    have h := List.pairwise_mergeSort (le := fun (x y : Int) => decide (x ≤ y)) (fun a b c h1 h2 => by simp at *; omega) (fun a b => by simp; omega) l
    exact h.imp (fun h => by simpa using h)
  obtain ⟨h1, h2⟩ := compact_asc hs _ (Nat.le_refl _)
  refine ⟨h1, fun x => ?_⟩
  have := h2 x
  rw [List.take_length] at this
  unfold Lib.compact
  rw [this]
  exact List.mem_mergeSort
end Go.Proofs.YtpaanfjjnjjoeaaGreat
namespace Go.Proofs.YtpaanfjjnjjoeaaGreat
open Go.RowKit

/-- slices.Sort, slices.Compact over a row of the call's own. -/
def SortLaw : Prop := ∀ (A : Option Addr) (l : List Int) (n c base : Nat) (w : World), Row w base 3 1 encInt (.slice A n c) l → l.length ≤ 300000 →
  Calls Tryz.prog 199 #[.slice A n c] w fun e w' => e = .returned (.tuple #[]) ∧ Row w' base 3 1 encInt (.slice A n c) (l.mergeSort fun x y => decide (x ≤ y)) ∧ Below base w w'
def CompLaw : Prop := ∀ (A : Option Addr) (l : List Int) (n c base : Nat) (w : World), Row w base 3 1 encInt (.slice A n c) l → l.length ≤ 300000 →
  Calls Tryz.prog 200 #[.slice A n c] w fun e w' => ∃ A', e = .returned (.slice A' (Lib.compact l).length c) ∧ Row w' base 3 1 encInt (.slice A' (Lib.compact l).length c) (Lib.compact l) ∧ Below base w w'

/-- A block lies apart from the row that a slice lies in. -/
def Apart (v : Value) (g : Nat) : Prop := v.ownBlock ≠ some g
theorem apart_new {α : Type} {w : World} {base size : Nat} {e : TypeId} {enc : α → List Value} {v : Value} {l : List α} (h : Row w base e size enc v l) {g : Nat} (hg : w.heap.size ≤ g) : Apart v g := by
  intro he
  rcases h.2 with ⟨hv, _⟩ | ⟨g2, cap, cur, hv, _, hh, _⟩
  · rw [hv] at he; simp [Value.ownBlock] at he
  · rw [hv] at he
    simp [Value.ownBlock] at he
    subst he
    have := (Array.getElem?_eq_some_iff.1 hh).1
    omega
theorem wp_append1x {α : Type} {P : Program} {w : World} {ops : Array Oper} {rest : List Oper} {o : Oper} {a : Act} {Q : Exit → Act → World → Prop} (hgd : o.guard = none) (s x : Operand) (t : TypeId)
    (ho : o.op = .call { callee := .builtin .append, args := #[s, x], argTypes := #[t, t] }) (base : Nat) (e : TypeId) (z : Value) (size bytes : Nat) (enc : α → List Value)
    (ht : P.underlying t = some (.slice e)) (hi : (P.info? e).map (fun i => (i.zero, i.size, i.bytes)) = some (some z, size, bytes)) (hzs : z.cells.size = size) (hsz : 0 < size) (he : ∀ x, (enc x).length = size) (h1 : ∀ x, ∀ u ∈ enc x, u.oneCell' = true)
    (v : Value) (l : List α) (y : α) (hs : a.eval s = v) (hown : Row w base e size enc v l) (g : Nat) (hx : a.eval x = .slice (some ⟨g, 0, none⟩) 1 1) (hblk : Blk w g e (enc y).toArray)
    (hn : l.length ≤ 1000000) (hby : bytes ≤ 1000) (hbase : base ≤ w.heap.size)
    (h : ∀ A c w', Row w' base e size enc (.slice A (l.length + 1) c) (l ++ [y]) → Below base w w' → (∀ g' t' cs', Apart v g' → Blk w g' t' cs' → Blk w' g' t' cs') → (∀ g', g' < w.heap.size → Apart v g' → Apart (.slice A (l.length + 1) c) g') → wpList P ops Q rest (a.put o.dst (.slice A (l.length + 1) c)) w') : wpList P ops Q (o :: rest) a w := by
  obtain ⟨i, hi0, hz, h2, h3⟩ := info_parts hi
  have hm : (l.length + 1) * bytes ≤ 1000001 * 1000 := Nat.mul_le_mul (by omega) hby
  refine wpList_append_own_at w hgd s x t ho base e i z size bytes ht hi0 hz h2 h3 hzs hsz v l.length (l.flatMap enc) hs hown ⟨g, 0, none⟩ 1 1 (enc y) hx (by rw [he]; omega) ?_ (h1 y) (by unfold maxLen; omega) (by omega) hbase ?_
  · intro j u hu
    have hadd : (⟨g, 0, none⟩ : Addr).add j = ⟨g, j, none⟩ := by unfold Addr.add; split <;> simp_all
    rw [hadd, hblk.cell]
    simpa using hu
  · intro v' w' hown' hg _ hat
    have hR : Row w' base e size enc v' (l ++ [y]) := by
      unfold Row
      rw [List.flatMap_append]
      simpa using hown'
    obtain ⟨A, c, hv⟩ := hR.val
    rw [List.length_append, List.length_singleton] at hv
    subst hv
    refine h A c w' hR ((Below.refl base w).grown hg hbase (fun k hk => (hown.lt k hk).1)) (fun g' t' cs' hne hb' => hb'.grown hg (fun he' => hne he'.symm)) (fun g' hlt hne he' => ?_)
    rcases hat with h9 | h9
    · exact hne (h9.symm.trans he')
    · have := h9.symm.trans he'
      injection this with this
      omega
end Go.Proofs.YtpaanfjjnjjoeaaGreat
namespace Go.Proofs.YtpaanfjjnjjoeaaGreat
open Go.RowKit

theorem Ints.grown {w w' : World} {B : Nat} {A : Option Addr} {l : List Int} {row : Option Nat} (h : Ints w B A l) (hg : w.grownBy w' row) (hB : B ≤ w.heap.size) (hne : ∀ a, A = some a → some a.block ≠ row) : Ints w' B A l := by
  intro hl
  obtain ⟨b, off, hA, hb, hc⟩ := h hl
  refine ⟨b, off, hA, hb, fun j x hx => ?_⟩
  obtain ⟨vs, h1, h2, h3⟩ := hc j x hx
  refine ⟨vs, h1, h2, fun i v hv => ?_⟩
  rw [World.cell?_of_block (hg.block b (by omega) (hne ⟨b, off, none⟩ hA))]
  exact h3 i v hv
theorem Row.base_le {w : World} {base : Nat} {e : TypeId} {A : Option Addr} {n c : Nat} {l : List Int} (h : Row w base e 1 encInt (.slice A n c) l) : ∀ a, A = some a → base ≤ a.block := by
  intro a ha
  rcases h.2 with ⟨hv, h0⟩ | ⟨g, cap, cur, hv, hb, _⟩
  · injection hv with hv
    rw [hv] at ha
    cases ha
  · injection hv with hv
    rw [hv] at ha
    injection ha with ha
    rw [← ha]
    exact hb
theorem append_none {P : Program} {w : World} (t ty e : TypeId) (i : TypeInfo) (ht : P.underlying t = some (.slice e)) (hi : P.info? e = some i) (bs : Option Addr) (n cc : Nat) (a : Addr) (c : Nat) (hnc : n ≤ cc) :
    (Builtin.append_ #[t, t] ty #[.slice bs n cc, .slice none 0 c]).run P w = (Builtin.append_ #[t, t] ty #[.slice bs n cc, .slice (some a) 0 c]).run P w := by
  simp [Builtin.append_, run_underlying ht, sizeOf, typeInfo, hi, Builtin.lenOf, Builtin.firstCells, loadCells, loadCellsFrom, hnc]
theorem own_cap {w : World} {base : Nat} {e : TypeId} {v : Value} {l : List Int} (h : Row w base e 1 encInt v l) : ∃ A c, v = .slice A l.length c ∧ l.length ≤ c := by
  rcases h.2 with ⟨hv, h0⟩ | ⟨g, cap, cur, hv, _, _, hnc, _⟩
  · exact ⟨none, 0, by rw [hv, h0], by omega⟩
  · exact ⟨some ⟨g, 0, none⟩, cap, hv, hnc⟩
/-- 'append(out, l...)': out an own row of numbers, l a list of numbers that lies anywhere. -/
theorem wp_appendN {P : Program} {w : World} {o : Oper} {a : Act} {K : Act → World → Prop} {Q : Exit → Act → World → Prop} (s x : Operand) (t : TypeId)
    (ho : o.op = .call { callee := .builtin .append, args := #[s, x], argTypes := #[t, t] }) (base : Nat) (e : TypeId)
    (ht : P.underlying t = some (.slice e)) (hi : (P.info? e).map (fun i => (i.zero, i.size, i.bytes)) = some (some (.int .i64 0), 1, 8))
    (v : Value) (l ys : List Int) (hs : a.eval s = v) (hown : Row w base e 1 encInt v l) (A : Option Addr) (m c : Nat) (hx : a.eval x = .slice A m c) (hm : m = ys.length) {B : Nat} (hys : Ints w B A ys)
    (hn : l.length ≤ 1000000) (hy : ys.length ≤ 1000000) (hbase : base ≤ w.heap.size)
    (h : ∀ A' c' w', Row w' base e 1 encInt (.slice A' (l.length + m) c') (l ++ ys) → Below base w w' → w.grownBy w' v.ownBlock → K (a.put o.dst (.slice A' (l.length + m) c')) w') : o.wp P a w K Q := by
  obtain ⟨i, hi0, hz, h2, h3⟩ := info_parts hi
  have hlen : (ys.flatMap encInt).length = ys.length * 1 := flatMap_len encInt_len ys
  have key : ∀ ad : Addr, (∀ j u, (ys.flatMap encInt)[j]? = some u → w.cell? (ad.add j) = some u) → ∃ v' w', (Builtin.append_ #[t, t] o.type #[v, .slice (some ad) m c]).run P w = .ok v' w' ∧ w'.ownsRow base e 1 v' (l.length + m) (l.flatMap encInt ++ ys.flatMap encInt) ∧ w.grownBy w' v.ownBlock := by
    intro ad hcells
    obtain ⟨v', w', r1, r2, r3, _⟩ := run_append_own (P := P) w base t o.type e i (.int .i64 0) 1 8 ht hi0 hz h2 h3 rfl (by omega) v l.length (l.flatMap encInt) hown ad m c (ys.flatMap encInt) (by rw [hlen, hm]) hcells
      (fun u hu => by
        obtain ⟨y, _, hy⟩ := List.mem_flatMap.1 hu
        exact encInt_one y u hy) (by unfold maxLen; omega) (by omega) hbase
    exact ⟨v', w', r1, r2, r3⟩
  have hrun : ∃ v' w', (Builtin.append_ #[t, t] o.type #[v, .slice A m c]).run P w = .ok v' w' ∧ w'.ownsRow base e 1 v' (l.length + m) (l.flatMap encInt ++ ys.flatMap encInt) ∧ w.grownBy w' v.ownBlock := by
    by_cases h0 : 0 < ys.length
    · obtain ⟨b, off, rfl, _, hc⟩ := hys h0
      refine key ⟨b, off, none⟩ (fun j u hu => ?_)
      have hadd : (⟨b, off, none⟩ : Addr).add j = ⟨b, off + j, none⟩ := by unfold Addr.add; split <;> simp_all
      have hj : j < ys.length := by have := lt_of_get hu; omega
      obtain ⟨y, hyj⟩ : ∃ y, ys[j]? = some y := ⟨_, List.getElem?_eq_getElem hj⟩
      obtain ⟨vs, _, hr, hcell⟩ := hc j y hyj
      have hr' : vs = encInt y := hr
      subst hr'
      have h9 := flatMap_get encInt_len ys j y hyj 0 (.int .i64 y) rfl
      simp only [Nat.mul_one, Nat.add_zero] at h9
      rw [h9] at hu
      rw [hadd, ← hu]
      simpa using hcell 0 (.int .i64 y) rfl
    · have hm0 : m = 0 := by omega
      have hys0 : ys = [] := List.eq_nil_of_length_eq_zero (by omega)
      have hk := fun ad => key ad (by intro j u hu; rw [hys0] at hu; simp at hu)
      cases A with
      | some ad => exact hk ad
      | none =>
        obtain ⟨v', w', r1, r2, r3⟩ := hk ⟨0, 0, none⟩
        refine ⟨v', w', ?_, r2, r3⟩
        rw [hm0] at r1 ⊢
        obtain ⟨A1, c1, hv1, hc1⟩ := own_cap hown
        rw [hv1] at r1 ⊢
        rw [append_none t o.type e i ht hi0 A1 l.length c1 ⟨0, 0, none⟩ c hc1]
        exact r1
  obtain ⟨v', w', hr, hown', hg⟩ := hrun
  have hR : Row w' base e 1 encInt v' (l ++ ys) := by
    unfold Row
    rw [List.flatMap_append, List.length_append, ← hm]
    exact hown'
  obtain ⟨A', c', hv⟩ := hR.val
  rw [List.length_append, ← hm] at hv
  subst hv
  unfold Oper.wp execOp
  simp only [ho, resolve, invoke, builtin, Sem.run_bind, Sem.run_pure, Result.andThen_ok, List.map_toArray, List.map_cons, List.map_nil, hs, hx, hr]
  exact h A' c' w' hR ((Below.refl base w).grown hg hbase (fun k hk => (hown.lt k hk).1)) hg
theorem wpList_appendN {P : Program} {w : World} {ops : Array Oper} {rest : List Oper} {o : Oper} {a : Act} {Q : Exit → Act → World → Prop} (hgd : o.guard = none) (s x : Operand) (t : TypeId)
    (ho : o.op = .call { callee := .builtin .append, args := #[s, x], argTypes := #[t, t] }) (base : Nat) (e : TypeId)
    (ht : P.underlying t = some (.slice e)) (hi : (P.info? e).map (fun i => (i.zero, i.size, i.bytes)) = some (some (.int .i64 0), 1, 8))
    (v : Value) (l ys : List Int) (hs : a.eval s = v) (hown : Row w base e 1 encInt v l) (A : Option Addr) (m c : Nat) (hx : a.eval x = .slice A m c) (hm : m = ys.length) {B : Nat} (hys : Ints w B A ys)
    (hn : l.length ≤ 1000000) (hy : ys.length ≤ 1000000) (hbase : base ≤ w.heap.size)
    (h : ∀ A' c' w', Row w' base e 1 encInt (.slice A' (l.length + m) c') (l ++ ys) → Below base w w' → w.grownBy w' v.ownBlock → wpList P ops Q rest (a.put o.dst (.slice A' (l.length + m) c')) w') : wpList P ops Q (o :: rest) a w :=
  wpList_plain hgd fun _ hK => wp_appendN s x t ho base e ht hi v l ys hs hown A m c hx hm hys hn hy hbase fun A' c' w' h2 h3 h4 => hK _ _ (h A' c' w' h2 h3 h4)
theorem step_appendN {P : Program} {w : World} {ops : Array Oper} {o : Oper} {a : Act} {K : Act → World → Prop} {Q : Exit → Act → World → Prop} {E : Prop} (hgd : o.guard = none) (s x : Operand) (t : TypeId)
    (ho : o.op = .call { callee := .builtin .append, args := #[s, x], argTypes := #[t, t] }) (base : Nat) (e : TypeId)
    (ht : P.underlying t = some (.slice e)) (hi : (P.info? e).map (fun i => (i.zero, i.size, i.bytes)) = some (some (.int .i64 0), 1, 8))
    (v : Value) (l ys : List Int) (hs : a.eval s = v) (hown : Row w base e 1 encInt v l) (A : Option Addr) (m c : Nat) (hx : a.eval x = .slice A m c) (hm : m = ys.length) {B : Nat} (hys : Ints w B A ys)
    (hn : l.length ≤ 1000000) (hy : ys.length ≤ 1000000) (hbase : base ≤ w.heap.size)
    (h : ∀ A' c' w', Row w' base e 1 encInt (.slice A' (l.length + m) c') (l ++ ys) → Below base w w' → w.grownBy w' v.ownBlock → K (a.put o.dst (.slice A' (l.length + m) c')) w') : if Region.wanted o (yielded ops a.tmps) = true then Oper.wp P o a w K Q else E := by
  have hw : Region.wanted o (yielded ops a.tmps) = true := by simp [Region.wanted, hgd]
  rw [if_pos hw]
  exact wp_appendN s x t ho base e ht hi v l ys hs hown A m c hx hm hys hn hy hbase h
set_option maxHeartbeats 1000000 in
theorem equalInts_any (A A' : Option Addr) (l : List Int) (n c c' : Nat) (w : World) {B B' : Nat} (h : Ints w B A l) (h' : Ints w B' A' l) (hn : n = l.length) (hm : n ≤ 300000) :
    Calls Tryz.prog 65 #[.slice A n c, .slice A' n c'] w fun e w' => e = .returned (.bool true) ∧ Below w.heap.size w w' := by
  have Hs := hide h
  have Hs' := hide h'
  have hn' := hide hn
  clear h h' hn
  go_enter Tryz.func65, Tryz.ntmps65
  go_wp2_with fail
  go_loopw [13] (fun i wr => ∃ k : Nat, k ≤ n ∧ i = .int .i64 k ∧ ∃ d, wr = w.drewN d) (fun i _ => n - (intOf i).toNat)
  case atStart => exact ⟨0, Nat.zero_le _, rfl, 0, rfl⟩
  case round =>
    obtain ⟨k, hk, rfl, d, rfl⟩ := hrel
    by_cases hlt : k < n
    · obtain ⟨b, off, x, rfl, _, hx, e0⟩ := Ints.get (k := k) Hs.out (by rw [← hn'.out]; exact hlt)
      obtain ⟨b2, off2, y, rfl, _, hy, e1⟩ := Ints.get (k := k) Hs'.out (by rw [← hn'.out]; exact hlt)
      rw [hx] at hy
      injection hy with hy
      subst hy
      clear hx
      go_wp2_with fail
      go_quiet (fail)
      go_wp2_with fail
      go_roundw
      case rel => exact ⟨k + 1, by omega, by go_num, _, rfl⟩
      case measure => simp [intOf]; omega
    · obtain rfl : k = n := by omega
      go_wp2_with fail
      go_ret
      exact ⟨rfl, ⟨rfl, rfl, rfl, Nat.le_refl _, fun _ _ => rfl⟩⟩
end Go.Proofs.YtpaanfjjnjjoeaaGreat
namespace Go.Proofs.YtpaanfjjnjjoeaaGreat
open Go.RowKit

def plainVal (a : Act) (o : Oper) : Option Value :=
  match o.op with
  | .move x => some (a.eval x)
  | .assign x => some (a.eval x)
  | .pick c x y => match a.eval c with
    | .bool b => some (if b then a.eval x else a.eval y)
    | _ => none
  | _ => none
def tailRun (ops : Array Oper) : List Oper → Act → Option Act
  | [], a => some a
  | o :: r, a =>
    if Region.wanted o (yielded ops a.tmps) then
      match plainVal a o with
      | some v => tailRun ops r (a.put o.dst v)
      | none => none
    else tailRun ops r (a.put o.dst undef)
theorem plain_wp {P : Program} {o : Oper} {a : Act} {w : World} {v : Value} {K : Act → World → Prop} {Q : Exit → Act → World → Prop} (h : plainVal a o = some v) (hk : K (a.put o.dst v) w) : o.wp P a w K Q := by
  obtain ⟨dst, op, ty, pos, after, guard⟩ := o
  unfold plainVal at h
  split at h
  · rename_i x hop
    injection h with h
    subst h
    simp only at hop
    subst hop
    exact hk
  · rename_i x hop
    injection h with h
    subst h
    simp only at hop
    subst hop
    exact hk
  · rename_i c x y hop
    simp only at hop
    subst hop
    cases hc : a.eval c with
    | bool b =>
      rw [hc] at h
      injection h with h
      subst h
      simp only [Oper.wp, execOp, hc, Sem.run_bind, asBool, Sem.run_pure, Result.andThen_ok, Oper.upon]
      exact hk
    | _ => rw [hc] at h; cases h
  · cases h
theorem wpList_tail {P : Program} {ops : Array Oper} {Q : Exit → Act → World → Prop} {w : World} : ∀ (l : List Oper) (a a' : Act), tailRun ops l a = some a' → Q .normal a' w → wpList P ops Q l a w := by
  intro l
  induction l with
  | nil =>
    intro a a' h hq
    injection h with h
    subst h
    exact hq
  | cons o r ih =>
    intro a a' h hq
    rw [tailRun] at h
    unfold wpList
    by_cases hw : Region.wanted o (yielded ops a.tmps) = true
    · rw [if_pos hw] at h ⊢
      cases hv : plainVal a o with
      | none => rw [hv] at h; cases h
      | some v =>
        rw [hv] at h
        exact .inl (plain_wp hv (ih _ _ h hq))
    · rw [if_neg hw] at h ⊢
      exact ih _ _ h hq
/-- .. where what it comes to is told by the run itself. -/
theorem wpList_pass {P : Program} {ops : Array Oper} {Q : Exit → Act → World → Prop} {w : World} {l : List Oper} {a : Act} (h : (tailRun ops l a).isSome = true) (hq : ∀ a', tailRun ops l a = some a' → Q .normal a' w) : wpList P ops Q l a w := by
  cases hr : tailRun ops l a with
  | none => rw [hr] at h; cases h
  | some a' => exact wpList_tail l a a' hr (hq a' hr)
end Go.Proofs.YtpaanfjjnjjoeaaGreat
