/- Words for memory, used by all walks of this seat: a slice that reads as a list (SlOf), a block known whole (Blk), small facts on endings. Conditions: none; no statement of the program is spoken of here. The names of decimal: which bytes are letters, digits, and how many bytes a word has. Plain lists and numbers: the place of the first element with a property, and sums. No statement of the program is spoken of here. Sizes of bars: the list of sizes, and whether a number is one. The catalogue of shapes: legs of a code, how many dimensions it has, whether a bar is valid, and its legs. Bending schedules: the place of a mark, whether a schedule is valid, and the sum of its counts. A finding. A number of a size, by a function value. Sizes of bars: masses and radii. -/
import Derived.Test.YtkmpddaobncheaaGreatDoorProg
import Derived.WalkKit
import Derived.WalkSpells
import Derived.WalkLawsBesides
import Derived.Handy
import Derived.Deep.Draws
import Derived.BigQuiet
import Derived.Lib.QuietBelow
namespace Go.Proofs.YtkmpddaobncheaaGreatDoor
open Go.RowKit

theorem ret_bool {a b : Bool} (h : a = b) : Ending.returned (.bool a) = .returned (.bool b) := by rw [h]
theorem ret_int {k : IntKind} {a b : Int} (h : a = b) : Ending.returned (.int k a) = .returned (.int k b) := by rw [h]
theorem ret_ii {a b c d : Int} (h : a = b) (h' : c = d) : Ending.returned (.tuple #[.int .i64 a, .int .i64 c]) = .returned (.tuple #[.int .i64 b, .int .i64 d]) := by rw [h, h']
theorem hide {p : Prop} (h : p) : Hid p := h

/-- A block of cells that is known whole, no cell of it frozen. -/
def Blk (w : World) (g : Nat) (t : TypeId) (cs : Array Value) : Prop := w.heap[g]? = some (.cells cs t (0, 0))
section
variable {w w' : World} {g : Nat} {t : TypeId} {cs : Array Value}
theorem Blk.lt (h : Blk w g t cs) : g < w.heap.size := by
  rcases Nat.lt_or_ge g w.heap.size with hlt | hge
  · exact hlt
  · unfold Blk at h; rw [Array.getElem?_eq_none hge] at h; cases h
theorem Blk.cell (h : Blk w g t cs) (i : Nat) : w.cell? ⟨g, i, none⟩ = cs[i]? := cell_of_row w g i cs t (0, 0) h
theorem Blk.frozen (h : Blk w g t cs) (i : Nat) : w.frozen? ⟨g, i, none⟩ = false := by
  unfold Blk at h
  simp [World.frozen?, h]
theorem Blk.new (w : World) (t : TypeId) (cs : Array Value) : Blk (w.alloc (.cells cs t)) w.heap.size t cs := heap_alloc_new w _
theorem Blk.new1 (w : World) (o : Obj) (t : TypeId) (cs : Array Value) : Blk ((w.alloc o).alloc (.cells cs t)) (w.heap.size + 1) t cs := by
  have := heap_alloc_new (w.alloc o) (.cells cs t)
  simpa [Blk] using this
theorem Blk.new2 (w : World) (o o' : Obj) (t : TypeId) (cs : Array Value) : Blk (((w.alloc o).alloc o').alloc (.cells cs t)) (w.heap.size + 2) t cs := by
  have := heap_alloc_new ((w.alloc o).alloc o') (.cells cs t)
  simpa [Blk] using this
theorem Blk.keep (h : Blk w g t cs) (hb : Below w.heap.size w w') : Blk w' g t cs := (hb.block g h.lt).trans h
theorem Blk.drew (h : Blk w g t cs) : Blk w.drew g t cs := h
theorem Blk.drewN (h : Blk w g t cs) (n : Nat) : Blk (w.drewN n) g t cs := h
theorem Blk.alloc (h : Blk w g t cs) (o : Obj) : Blk (w.alloc o) g t cs := (Below.heap_alloc w o g h.lt).trans h
theorem Blk.set_ (h : Blk w g t cs) (i : Nat) (u : Value) : Blk (w.setCell ⟨g, i, none⟩ u) g t (cs.setIfInBounds i u) := by
  unfold Blk at h ⊢
  simp [World.setCell, Array.getElem?_modify, h]
theorem Blk.far (h : Blk w g t cs) {p : Addr} (hp : g ≠ p.block) (u : Value) : Blk (w.setCell p u) g t cs := (Below.heap_setCell w p u g hp).trans h
theorem Blk.below {B : Nat} (h : Blk w g t cs) (hb : Below B w w') (hg : g < B) : Blk w' g t cs := (hb.block g hg).trans h
theorem Blk.grown {row : Option Nat} (h : Blk w g t cs) (hb : w.grownBy w' row) (hg : some g ≠ row) : Blk w' g t cs := (hb.block g h.lt hg).trans h
end

/-- Two steps behind one another, the second one below what the first one has reached. -/
theorem below_step {B : Nat} {a b c : World} (h : Below B a b) (k : Below b.heap.size b c) (hB : B ≤ a.heap.size) : Below B a c := h.trans (k.mono (Nat.le_trans hB h.size))
theorem le_alloc {B : Nat} {w : World} (h : B ≤ w.heap.size) (o : Obj) : B ≤ (w.alloc o).heap.size := Nat.le_trans h (by simp)
theorem below_new (w : World) (o : Obj) : Below w.heap.size w (w.alloc o) := (Below.refl _ _).alloc (Nat.le_refl _) _
theorem below_new2 (w : World) (o o' : Obj) : Below w.heap.size w ((w.alloc o).alloc o') := (below_new w o).alloc (by simp) _

/-- A contract that leaves the world alone, met in a region that draws its order. -/
theorem regrown_same {P : Program} {f : FuncId} {args : Array Value} {w : World} {d : Nat} {os : Array Obj} {v : Value}
    (h : Calls P f args (Go.Sort.grow (redrawn w d) os) fun e w' => e = .returned v ∧ Go.Sort.grow (redrawn w d) os = w') : Calls P f args (Go.Sort.grow (redrawn w d) os) fun e w'' => e = .returned v ∧ ∃ p : Regrown, w'' = Go.Sort.grow (redrawn w p.d) p.os :=
  Calls.regrown_of (h.mono fun _ _ ⟨he, hw⟩ => ⟨he, by rw [← hw]; exact Below.refl _ _⟩)

/-- The slice with address A reads as the list l; each element lies in 'size' cells that stand to it in the relation R; all of it lies below block B. -/
def SlOf {α : Type} (w : World) (B size : Nat) (R : World → Nat → List Value → α → Prop) (A : Option Addr) (l : List α) : Prop :=
  0 < l.length → ∃ b off, A = some ⟨b, off, none⟩ ∧ b < B ∧ ∀ k x, l[k]? = some x → ∃ vs, vs.length = size ∧ R w B vs x ∧ ∀ j v, vs[j]? = some v → w.cell? ⟨b, off + k * size + j, none⟩ = some v

/-- The relation R is kept while nothing below its bound turns. -/
def Carried {α : Type} (R : World → Nat → List Value → α → Prop) : Prop := ∀ (w w' : World) (B B' : Nat) vs x, Below B w w' → B ≤ B' → R w B vs x → R w' B' vs x

/-- An element that is nothing but its cells. -/
def Flat {α : Type} (enc : α → List Value) : World → Nat → List Value → α → Prop := fun _ _ vs x => vs = enc x
theorem Flat.carried {α : Type} (enc : α → List Value) : Carried (Flat enc) := fun _ _ _ _ _ _ _ _ h => h

section
variable {α : Type} {w w' : World} {B B' size : Nat} {R : World → Nat → List Value → α → Prop} {A : Option Addr} {l : List α}
theorem SlOf.nil (w : World) (B size : Nat) (R : World → Nat → List Value → α → Prop) (A : Option Addr) : SlOf w B size R A [] := fun h => absurd h (by simp)
theorem SlOf.carry (hR : Carried R) (h : SlOf w B size R A l) (hb : Below B w w') (hB : B ≤ B') : SlOf w' B' size R A l := by
  intro hl
  obtain ⟨b, off, rfl, hlt, hc⟩ := h hl
  refine ⟨b, off, rfl, by omega, fun k x hx => ?_⟩
  obtain ⟨vs, hs, hr, hv⟩ := hc k x hx
  exact ⟨vs, hs, hR _ _ _ _ _ _ hb hB hr, fun j v hj => (hb.cell hlt).trans (hv j v hj)⟩
theorem SlOf.carried {size : Nat} {R : World → Nat → List Value → α → Prop} (hR : Carried R) (A : Option Addr) (l : List α) (h : SlOf w B size R A l) (hb : Below B w w') (hB : B ≤ B') : SlOf w' B' size R A l := h.carry hR hb hB
theorem SlOf.at_ (h : SlOf w B size R A l) {k : Nat} (hk : k < l.length) :
    ∃ b off x vs, A = some ⟨b, off, none⟩ ∧ b < B ∧ l[k]? = some x ∧ vs.length = size ∧ R w B vs x ∧ ∀ j v, vs[j]? = some v → w.cell? ⟨b, off + k * size + j, none⟩ = some v := by
  obtain ⟨b, off, rfl, hlt, hc⟩ := h (by omega)
  obtain ⟨vs, hs, hr, hv⟩ := hc k _ (List.getElem?_eq_getElem hk)
  exact ⟨b, off, _, vs, rfl, hlt, List.getElem?_eq_getElem hk, hs, hr, hv⟩
theorem SlOf.of_row {xs : List Value} {g : Nat} (hB : g < B) (hc : ∀ j u, xs[j]? = some u → w.cell? ⟨g, j, none⟩ = some u)
    (hl : ∀ k x, l[k]? = some x → ∃ vs, vs.length = size ∧ R w B vs x ∧ ∀ j v, vs[j]? = some v → xs[k * size + j]? = some v) : SlOf w B size R (some ⟨g, 0, none⟩) l := by
  intro _
  refine ⟨g, 0, rfl, hB, fun k x hx => ?_⟩
  obtain ⟨vs, hs, hr, hv⟩ := hl k x hx
  exact ⟨vs, hs, hr, fun j v hj => by have := hc _ _ (hv j v hj); simpa using this⟩
end

theorem flatMap_get {α : Type} {enc : α → List Value} {size : Nat} (he : ∀ x, (enc x).length = size) : ∀ (l : List α) (k : Nat) (x : α), l[k]? = some x → ∀ j v, (enc x)[j]? = some v → (l.flatMap enc)[k * size + j]? = some v := by
  intro l
  induction l with
  | nil => intro k x h; simp at h
  | cons y l ih =>
    intro k x h j v hj
    have hjl : j < size := by rw [← he x]; exact (List.getElem?_eq_some_iff.1 hj).1
    cases k with
    | zero =>
      simp at h
      subst h
      rw [List.flatMap_cons, List.getElem?_append_left (by rw [he]; omega)]
      simpa using hj
    | succ k =>
      rw [List.getElem?_cons_succ] at h
      rw [List.flatMap_cons, List.getElem?_append_right (by rw [he, Nat.add_mul]; omega), he]
      have := ih k x h j v hj
      rwa [show (k + 1) * size + j - size = k * size + j from by rw [Nat.add_mul]; omega]

theorem flatMap_len {α : Type} {enc : α → List Value} {size : Nat} (he : ∀ x, (enc x).length = size) (l : List α) : (l.flatMap enc).length = l.length * size := by
  induction l with
  | nil => simp
  | cons y l ih => rw [List.flatMap_cons, List.length_append, ih, he, List.length_cons, Nat.add_mul]; omega

/-- A slice literal that the call has just made. -/
theorem SlOf.lit {α : Type} {enc : α → List Value} {size : Nat} (he : ∀ x, (enc x).length = size) (w : World) (e : TypeId) (cs : Array Value) (l : List α) (hcs : cs.toList = l.flatMap enc) {B : Nat} (hB : w.heap.size < B) :
    SlOf (w.alloc (.cells cs e)) B size (Flat enc) (some ⟨w.heap.size, 0, none⟩) l :=
  SlOf.of_row (xs := cs.toList) hB (fun j u hu => by rw [(Blk.new w e cs).cell j]; simpa using hu) (fun k x hx => ⟨enc x, he x, rfl, fun j v hj => by rw [hcs]; exact flatMap_get he l k x hx j v hj⟩)

/-- A slice that the call made by append, read as a list. -/
theorem SlOf.of_own {α : Type} {enc : α → List Value} {size : Nat} (he : ∀ x, (enc x).length = size) (hs : 0 < size) {w : World} {base : Nat} {e : TypeId} {A : Option Addr} {n c : Nat} {xs : List Value} (h : w.ownsRow base e size (.slice A n c) n xs) (l : List α) (hx : xs = l.flatMap enc) :
    SlOf w w.heap.size size (Flat enc) A l := by
  intro hl
  have hlen := h.1
  subst hx
  rw [flatMap_len he] at hlen
  rcases h.2 with ⟨hv, hn⟩ | ⟨g, cap, cur, hv, hb, hh, r⟩
  · subst hn
    have := Nat.mul_pos hl hs
    omega
  · injection hv with hA _ _
    subst hA
    have hg : g < w.heap.size := (Array.getElem?_eq_some_iff.1 hh).1
    exact SlOf.of_row hg (fun j u hu => by
      have := h.cells (g := g) rfl j u hu
      rwa [show (⟨g, 0, none⟩ : Addr).add j = ⟨g, j, none⟩ from by unfold Addr.add; split <;> simp_all] at this) (fun k x hx => ⟨enc x, he x, rfl, fun j v hj => flatMap_get he l k x hx j v hj⟩) hl

/-- The slice v is a row of the call's own, from block 'base' on, that holds just the list l. -/
def Row {α : Type} (w : World) (base : Nat) (e : TypeId) (size : Nat) (enc : α → List Value) (v : Value) (l : List α) : Prop := w.ownsRow base e size v l.length (l.flatMap enc)
section
variable {α : Type} {w w' : World} {base size : Nat} {e : TypeId} {enc : α → List Value} {v : Value} {l : List α}
theorem Row.nil (w : World) (base : Nat) (e : TypeId) (size : Nat) (enc : α → List Value) : Row w base e size enc (.slice none 0 0) [] := World.ownsRow_nil _ _ _ _
theorem Row.alloc (h : Row w base e size enc v l) (o : Obj) : Row (w.alloc o) base e size enc v l := World.ownsRow.alloc h o
theorem Row.drew (h : Row w base e size enc v l) : Row w.drew base e size enc v l := h
theorem Row.keep (h : Row w base e size enc v l) (hb : Below w.heap.size w w') : Row w' base e size enc v l :=
  World.ownsRow.kept h (row := none) ⟨hb.os, hb.tape, hb.output, hb.size, fun k hk _ => hb.block k hk⟩ (by cases v.ownBlock <;> simp)
theorem Row.val (h : Row w base e size enc v l) : ∃ A c, v = .slice A l.length c := by
  rcases h.2 with ⟨hv, hn⟩ | ⟨g, cap, cur, hv, _⟩
  · exact ⟨none, 0, by rw [hv, hn]⟩
  · exact ⟨_, cap, hv⟩
theorem Row.read {A : Option Addr} {n c : Nat} (h : Row w base e size enc (.slice A n c) l) (he : ∀ x, (enc x).length = size) (hs : 0 < size) : SlOf w w.heap.size size (Flat enc) A l := by
  obtain ⟨A', c', hv⟩ := h.val
  injection hv with h1 h2 h3
  subst h1; subst h2; subst h3
  exact SlOf.of_own he hs h l rfl
end

/-- 'append(out, x)' of one element, out a row of the call's own; x lies in a block that has just been laid. -/
theorem wp_append1 {α : Type} {P : Program} {w : World} {o : Oper} {a : Act} {K : Act → World → Prop} {Q : Exit → Act → World → Prop} (s x : Operand) (t : TypeId)
    (ho : o.op = .call { callee := .builtin .append, args := #[s, x], argTypes := #[t, t] }) (base : Nat) (e : TypeId) (z : Value) (size bytes : Nat) (enc : α → List Value)
    (ht : P.underlying t = some (.slice e)) (hi : (P.info? e).map (fun i => (i.zero, i.size, i.bytes)) = some (some z, size, bytes)) (hzs : z.cells.size = size) (hsz : 0 < size) (he : ∀ x, (enc x).length = size) (h1 : ∀ x, ∀ u ∈ enc x, u.oneCell' = true)
    (v : Value) (l : List α) (y : α) (hs : a.eval s = v) (hown : Row w base e size enc v l) (g : Nat) (hx : a.eval x = .slice (some ⟨g, 0, none⟩) 1 1) (hblk : Blk w g e (enc y).toArray)
    (hn : l.length ≤ 1000000) (hby : bytes ≤ 1000) (hbase : base ≤ w.heap.size)
    (h : ∀ A c w', Row w' base e size enc (.slice A (l.length + 1) c) (l ++ [y]) → Below base w w' → (∀ g' t' cs', t' ≠ e → Blk w g' t' cs' → Blk w' g' t' cs') → K (a.put o.dst (.slice A (l.length + 1) c)) w') : o.wp P a w K Q := by
  obtain ⟨i, hi0, hz, h2, h3⟩ := info_parts hi
  have hm : (l.length + 1) * bytes ≤ 1000001 * 1000 := Nat.mul_le_mul (by omega) hby
  refine wp_append_own w s x t ho base e i z size bytes ht hi0 hz h2 h3 hzs hsz v l.length (l.flatMap enc) hs hown ⟨g, 0, none⟩ 1 1 (enc y) hx (by rw [he]; omega) ?_ (h1 y) (by unfold maxLen; omega) (by omega) hbase ?_
  · intro j u hu
    have hadd : (⟨g, 0, none⟩ : Addr).add j = ⟨g, j, none⟩ := by unfold Addr.add; split <;> simp_all
    rw [hadd, hblk.cell]
    simpa using hu
  · intro v' w' hown' hg _
    have hR : Row w' base e size enc v' (l ++ [y]) := by
      unfold Row
      rw [List.flatMap_append]
      simpa using hown'
    obtain ⟨A, c, hv⟩ := hR.val
    rw [List.length_append, List.length_singleton] at hv
    subst hv
    refine h A c w' hR ((Below.refl base w).grown hg hbase (fun k hk => (hown.lt k hk).1)) (fun g' t' cs' hne hb' => hb'.grown hg ?_)
    intro he'
    rcases hown.2 with ⟨hv, _⟩ | ⟨g2, cap, cur, hv, _, hh, _⟩
    · rw [hv] at he'; simp [Value.ownBlock] at he'
    · rw [hv] at he'
      simp [Value.ownBlock] at he'
      subst he'
      unfold Blk at hb'
      rw [hh] at hb'
      injection hb' with hb'
      injection hb' with _ ht'
      exact hne ht'.symm
theorem wpList_append1 {α : Type} {P : Program} {w : World} {ops : Array Oper} {rest : List Oper} {o : Oper} {a : Act} {Q : Exit → Act → World → Prop} (hgd : o.guard = none) (s x : Operand) (t : TypeId)
    (ho : o.op = .call { callee := .builtin .append, args := #[s, x], argTypes := #[t, t] }) (base : Nat) (e : TypeId) (z : Value) (size bytes : Nat) (enc : α → List Value)
    (ht : P.underlying t = some (.slice e)) (hi : (P.info? e).map (fun i => (i.zero, i.size, i.bytes)) = some (some z, size, bytes)) (hzs : z.cells.size = size) (hsz : 0 < size) (he : ∀ x, (enc x).length = size) (h1 : ∀ x, ∀ u ∈ enc x, u.oneCell' = true)
    (v : Value) (l : List α) (y : α) (hs : a.eval s = v) (hown : Row w base e size enc v l) (g : Nat) (hx : a.eval x = .slice (some ⟨g, 0, none⟩) 1 1) (hblk : Blk w g e (enc y).toArray)
    (hn : l.length ≤ 1000000) (hby : bytes ≤ 1000) (hbase : base ≤ w.heap.size)
    (h : ∀ A c w', Row w' base e size enc (.slice A (l.length + 1) c) (l ++ [y]) → Below base w w' → (∀ g' t' cs', t' ≠ e → Blk w g' t' cs' → Blk w' g' t' cs') → wpList P ops Q rest (a.put o.dst (.slice A (l.length + 1) c)) w') : wpList P ops Q (o :: rest) a w :=
  wpList_plain hgd fun _ hK => wp_append1 s x t ho base e z size bytes enc ht hi hzs hsz he h1 v l y hs hown g hx hblk hn hby hbase fun A c w' h2 h3 h4 => hK _ _ (h A c w' h2 h3 h4)
/-- The same in a region that draws its order. -/
theorem step_append1 {α : Type} {P : Program} {w : World} {ops : Array Oper} {o : Oper} {a : Act} {K : Act → World → Prop} {Q : Exit → Act → World → Prop} {E : Prop} (hgd : o.guard = none) (s x : Operand) (t : TypeId)
    (ho : o.op = .call { callee := .builtin .append, args := #[s, x], argTypes := #[t, t] }) (base : Nat) (e : TypeId) (z : Value) (size bytes : Nat) (enc : α → List Value)
    (ht : P.underlying t = some (.slice e)) (hi : (P.info? e).map (fun i => (i.zero, i.size, i.bytes)) = some (some z, size, bytes)) (hzs : z.cells.size = size) (hsz : 0 < size) (he : ∀ x, (enc x).length = size) (h1 : ∀ x, ∀ u ∈ enc x, u.oneCell' = true)
    (v : Value) (l : List α) (y : α) (hs : a.eval s = v) (hown : Row w base e size enc v l) (g : Nat) (hx : a.eval x = .slice (some ⟨g, 0, none⟩) 1 1) (hblk : Blk w g e (enc y).toArray)
    (hn : l.length ≤ 1000000) (hby : bytes ≤ 1000) (hbase : base ≤ w.heap.size)
    (h : ∀ A c w', Row w' base e size enc (.slice A (l.length + 1) c) (l ++ [y]) → Below base w w' → (∀ g' t' cs', t' ≠ e → Blk w g' t' cs' → Blk w' g' t' cs') → K (a.put o.dst (.slice A (l.length + 1) c)) w') : if Region.wanted o (yielded ops a.tmps) = true then Oper.wp P o a w K Q else E := by
  have hw : Region.wanted o (yielded ops a.tmps) = true := by simp [Region.wanted, hgd]
  rw [if_pos hw]
  exact wp_append1 s x t ho base e z size bytes enc ht hi hzs hsz he h1 v l y hs hown g hx hblk hn hby hbase h

/-- A function's results where the first one is a struct, which lies in a block that is known. -/
theorem results_ct {P : Program} {fn : Func} {p q : Tmp} {ty : TypeId} (h : fn.results = #[.cell p ty, .tmp q]) {tmps : Array Value} {w : World} {g : Nat} {t : TypeId} {cs : Array Value} {d : TypeDesc}
    (hp : tmps.getD p undef = .pointer (some ⟨g, 0, none⟩)) (hg : Blk w g t cs) (hu : P.underlying ty = some d) (hd : (match d with | .struct _ | .array _ _ => true | _ => false) = true) (hi : (P.info? ty).map (·.size) = some cs.size) :
    (results fn tmps).run P w = .ok (.tuple #[.agg cs, tmps.getD q undef]) w := by
  have hp' : tmps[p]?.getD undef = .pointer (some ⟨g, 0, none⟩) := by simpa using hp
  simp [results, h, hp', asAddr, run_loadVar_row w g t ty cs (0, 0) d hg hu hd hi]
/-- .. where the struct is the only result. -/
theorem results_c {P : Program} {fn : Func} {p : Tmp} {ty : TypeId} (h : fn.results = #[.cell p ty]) {tmps : Array Value} {w : World} {g : Nat} {t : TypeId} {cs : Array Value} {d : TypeDesc}
    (hp : tmps.getD p undef = .pointer (some ⟨g, 0, none⟩)) (hg : Blk w g t cs) (hu : P.underlying ty = some d) (hd : (match d with | .struct _ | .array _ _ => true | _ => false) = true) (hi : (P.info? ty).map (·.size) = some cs.size) :
    (results fn tmps).run P w = .ok (.agg cs) w := results_cell_row h tmps w g t cs (0, 0) d hp hg hu hd hi

/-- Whole numbers, as elements. -/
def encInt (x : Int) : List Value := [.int .i64 x]
theorem encInt_len (x : Int) : (encInt x).length = 1 := rfl
theorem encInt_one (x : Int) : ∀ u ∈ encInt x, u.oneCell' = true := by
  intro u hu
  simp [encInt] at hu
  subst hu
  rfl
abbrev Ints (w : World) (B : Nat) (A : Option Addr) (l : List Int) : Prop := SlOf w B 1 (Flat encInt) A l
theorem Ints.carry {w w' : World} {B B' : Nat} {A : Option Addr} {l : List Int} (h : Ints w B A l) (hb : Below B w w') (hB : B ≤ B') : Ints w' B' A l := SlOf.carry (Flat.carried _) h hb hB
theorem Ints.get {w : World} {B : Nat} {A : Option Addr} {l : List Int} (h : Ints w B A l) {k : Nat} (hk : k < l.length) :
    ∃ b off x, A = some ⟨b, off, none⟩ ∧ b < B ∧ l[k]? = some x ∧ w.cell? ⟨b, off + k, none⟩ = some (.int .i64 x) := by
  obtain ⟨b, off, x, vs, hA, hb, hx, _, hr, hc⟩ := h.at_ hk
  have := hc 0 (.int .i64 x) (by rw [show vs = encInt x from hr]; rfl)
  simp at this
  exact ⟨b, off, x, hA, hb, hx, this⟩
/-- A block of whole numbers. -/
abbrev intCells (l : List Int) : Array Value := (l.map (Value.int .i64)).toArray
theorem Ints.of_blk {w : World} {g : Nat} {t : TypeId} {l : List Int} (h : Blk w g t (intCells l)) {B : Nat} (hB : g < B) : Ints w B (some ⟨g, 0, none⟩) l :=
  SlOf.of_row (xs := l.map (Value.int .i64)) hB (fun j u hu => by rw [h.cell]; simpa using hu) (fun k x hx => ⟨encInt x, rfl, rfl, fun j v hj => by
    cases j with
    | zero => simp [encInt] at hj; subst hj; simp [hx]
    | succ j => simp [encInt] at hj⟩)
theorem intCells_set (l : List Int) (j : Nat) (n : Int) : (intCells l).setIfInBounds j (.int .i64 n) = intCells (l.set j n) := by
  simp [intCells, List.map_set]
theorem intCells_get {l : List Int} {j : Nat} {n : Int} (h : l[j]? = some n) : (intCells l)[j]? = some (.int .i64 n) := by simp [intCells, h]
end Go.Proofs.YtkmpddaobncheaaGreatDoor
namespace Go.Proofs.YtkmpddaobncheaaGreatDoor
open Go.RowKit

def isLetter (c : Int) : Bool := (decide (97 ≤ c) && decide (c ≤ 122)) || (decide (65 ≤ c) && decide (c ≤ 90))
def isDigit (c : Int) : Bool := decide (48 ≤ c) && decide (c ≤ 57)
def isWord (c : UInt8) : Bool := isLetter c.toNat || isDigit c.toNat || ((c.toNat : Int) == 95)
def wordLen (l : List UInt8) : Nat := (l.takeWhile isWord).length
def isName (s : ByteArray) : Bool :=
  decide (s.size ≠ 0) && decide (s.size ≤ 20) && (match s.data.toList with | c :: _ => isLetter c.toNat | [] => false) && decide (wordLen s.data.toList = s.size)

theorem drop_at (s : ByteArray) (k : Nat) (h : k < s.size) : s.data.toList.drop k = s[k] :: s.data.toList.drop (k + 1) := by
  rw [List.drop_eq_getElem_cons (by simpa using h)]; rfl

theorem wordLen_cons (c : UInt8) (l : List UInt8) : wordLen (c :: l) = if isWord c then wordLen l + 1 else 0 := by
  unfold wordLen; rw [List.takeWhile_cons]; split <;> simp
set_option maxHeartbeats 400000 in
theorem letter_any (c : Int) (w : World) :
    Calls Tryz.prog 73 #[.int .u8 c] w fun e w' => e = .returned (.bool (isLetter c)) ∧ w = w' := by
  go_enter Tryz.func73, Tryz.ntmps73
  go_wp2
  all_goals
    go_ret
    exact ⟨ret_bool (by rw [Bool.eq_iff_iff]; simp [isLetter]; omega), rfl⟩

set_option maxHeartbeats 400000 in
theorem digit_any (c : Int) (w : World) :
    Calls Tryz.prog 119 #[.int .u8 c] w fun e w' => e = .returned (.bool (isDigit c)) ∧ w = w' := by
  go_enter Tryz.func119, Tryz.ntmps119
  go_wp2
  all_goals
    go_ret
    exact ⟨ret_bool (by rw [Bool.eq_iff_iff]; simp [isDigit]; try omega), rfl⟩

set_option maxHeartbeats 400000 in
theorem word_any (s : ByteArray) (w : World) (hs : s.size ≤ maxLen) :
    Calls Tryz.prog 74 #[.string s] w fun e w' => e = .returned (.int .i64 (wordLen s.data.toList)) ∧ w = w' := by
  unfold maxLen at hs
  go_enter Tryz.func74, Tryz.ntmps74
  go_wp2
  go_loop [3] (fun i => ∃ k : Nat, k ≤ s.size ∧ i = .int .i64 k ∧ Hid (k + wordLen (s.data.toList.drop k) = wordLen s.data.toList)) (fun i => s.size - (intOf i).toNat)
  case atStart => exact ⟨0, Nat.zero_le _, rfl, hide (by simp)⟩
  case round =>
    obtain ⟨k, hk, rfl, hw⟩ := hrel
    by_cases hlt : k < s.size
    · have hd := hide (drop_at s k hlt)
      go_wp2_with (first | (go_at_call 73; refine (letter_any _ _).mono ?_; rintro e w' ⟨rfl, rfl⟩) | (go_at_call 119; refine (digit_any _ _).mono ?_; rintro e w' ⟨rfl, rfl⟩))
      all_goals first
        | (go_ret
           exact ⟨ret_int (by have h1 := hw.out; rw [hd.out, wordLen_cons, if_neg (by simp_all [isWord])] at h1; omega), rfl⟩)
        | (go_round
           case rel => exact ⟨k + 1, by omega, by go_num, hide (by have h1 := hw.out; rw [hd.out, wordLen_cons, if_pos (by simp_all [isWord])] at h1; omega)⟩
           case measure => simp [intOf]; omega)
    · go_wp2
      go_ret
      exact ⟨ret_int (by have h1 := hw.out; rw [List.drop_eq_nil_of_le (by simp; omega)] at h1; simp [wordLen] at h1 ⊢; omega), rfl⟩

theorem isName_cons {s : ByteArray} {c : UInt8} {r : List UInt8} (h : s.data.toList = c :: r) : isName s = (decide (s.size ≤ 20) && isLetter c.toNat && decide (wordLen (c :: r) = s.size)) := by
  have h0 : s.size ≠ 0 := by have : s.data.toList.length = s.size := by simp
                             rw [h] at this; simp at this; omega
  simp [isName, h, h0]

set_option maxHeartbeats 400000 in
theorem isName_any (s : ByteArray) (w : World) (hs : s.size ≤ maxLen) :
    Calls Tryz.prog 46 #[.string s] w fun e w' => e = .returned (.bool (isName s)) ∧ w = w' := by
  by_cases h0 : s.size = 0
  · have hl : s.data.toList = [] := List.eq_nil_of_length_eq_zero (by simpa using h0)
    have hn := hide (show isName s = false by simp [isName, h0])
    have he : s.toList = [] := by rw [ByteArray.toList_eq, hl]
    clear hs
    go_enter Tryz.func46, Tryz.ntmps46
    go_wp2_with fail
    go_ret
    exact ⟨ret_bool (by rw [hn.out]), rfl⟩
  · obtain ⟨c, r, hl⟩ : ∃ c r, s.data.toList = c :: r := by
      cases h : s.data.toList with
      | nil => exfalso; have : s.data.toList.length = s.size := by simp
               rw [h] at this; simp at this; omega
      | cons c r => exact ⟨c, r, rfl⟩
    have hn := hide (isName_cons hl)
    have hp : 0 < s.size := by omega
    have hc : s[0]'hp = c := by
      have : s.data.toList[0]? = some c := by rw [hl]; rfl
      have h2 : s.data.toList[0]? = some (s[0]'hp) := List.getElem?_eq_getElem (by simp; omega)
      rw [h2] at this; injection this
    have hne : s.toList.isEmpty = false := by rw [ByteArray.toList_eq, hl]; rfl
    have HC := hide hc
    have HL := hide hl
    clear h0 hc hl
    go_enter Tryz.func46, Tryz.ntmps46
    go_wp2_with (first | (go_at_call 73; refine (letter_any _ _).mono ?_; rintro e w' ⟨rfl, rfl⟩) | (go_at_call 74; refine (word_any _ _ hs).mono ?_; rintro e w' ⟨rfl, rfl⟩))
    all_goals
      go_ret
      refine ⟨ret_bool ?_, rfl⟩
      rw [hn.out, ← HL.out, ← HC.out, Bool.eq_iff_iff]
      simp_all <;> omega
end Go.Proofs.YtkmpddaobncheaaGreatDoor
namespace Go.Proofs.YtkmpddaobncheaaGreatDoor

section
variable {α : Type}
/-- The place of the first element for which p holds; -1 if there is none. -/
def idx (p : α → Bool) (l : List α) : Int := match l.findIdx? p with | some i => (i : Int) | none => -1
/-- Among the first k elements there is none for which p holds. -/
def NoneTo (p : α → Bool) (l : List α) (k : Nat) : Prop := ∀ j y, j < k → l[j]? = some y → p y = false
theorem NoneTo.zero (p : α → Bool) (l : List α) : NoneTo p l 0 := fun _ _ h => absurd h (by omega)
theorem NoneTo.succ {p : α → Bool} {l : List α} {k : Nat} {y : α} (h : NoneTo p l k) (hy : l[k]? = some y) (hp : p y = false) : NoneTo p l (k + 1) := by
  intro j z hj hz
  rcases Nat.lt_or_ge j k with h1 | h1
  · exact h j z h1 hz
  · obtain rfl : j = k := by omega
    rw [hy] at hz; injection hz with hz; rw [← hz]; exact hp
theorem NoneTo.hit {p : α → Bool} {l : List α} {k : Nat} {y : α} (h : NoneTo p l k) (hy : l[k]? = some y) (hp : p y = true) : idx p l = k := by
  have hk : k < l.length := (List.getElem?_eq_some_iff.1 hy).1
  have : l.findIdx? p = some k := by
    rw [List.findIdx?_eq_some_iff_getElem]
    refine ⟨hk, ?_, fun j hj => ?_⟩
    · rw [List.getElem?_eq_getElem hk] at hy; injection hy with hy; rw [hy]; exact hp
    · rw [h j _ hj (List.getElem?_eq_getElem (by omega))]; simp
  simp [idx, this]
theorem NoneTo.miss {p : α → Bool} {l : List α} (h : NoneTo p l l.length) : idx p l = -1 := by
  have : l.findIdx? p = none := by
    rw [List.findIdx?_eq_none_iff]
    intro x hx
    obtain ⟨j, hj, rfl⟩ := List.getElem_of_mem hx
    exact h j _ hj (List.getElem?_eq_getElem hj)
  simp [idx, this]
theorem idx_range (p : α → Bool) (l : List α) : -1 ≤ idx p l ∧ idx p l < l.length := by
  unfold idx
  split
  · rename_i i h
    have := (List.findIdx?_eq_some_iff_getElem.1 h).1
    omega
  · omega
theorem idx_any (p : α → Bool) (l : List α) : decide (0 ≤ idx p l) = l.any p := by
  unfold idx
  split
  · rename_i i h
    obtain ⟨hi, hp, _⟩ := List.findIdx?_eq_some_iff_getElem.1 h
    have : l.any p = true := List.any_eq_true.2 ⟨_, List.getElem_mem hi, hp⟩
    rw [this]; simp
  · rename_i h
    rw [List.findIdx?_eq_none_iff] at h
    have : l.any p = false := by rw [List.any_eq_false]; intro x hx; rw [h x hx]; simp
    rw [this]; simp
theorem idx_spec {p : α → Bool} {l : List α} {k : Nat} (h : idx p l = k) : ∃ y, l[k]? = some y ∧ p y = true ∧ NoneTo p l k := by
  unfold idx at h
  split at h
  · rename_i i hi
    obtain ⟨hl, hp, hn⟩ := List.findIdx?_eq_some_iff_getElem.1 hi
    obtain rfl : i = k := by omega
    refine ⟨_, List.getElem?_eq_getElem hl, hp, fun j y hj hy => ?_⟩
    rw [List.getElem?_eq_getElem (by omega)] at hy
    injection hy with hy
    have := hn j hj
    rw [hy] at this
    simpa using this
  · omega
end

theorem idx_at {l : List Int} {x : Int} {j : Nat} (hn : l.Nodup) (h : l[j]? = some x) : idx (fun y => x == y) l = j := by
  refine NoneTo.hit (fun i y hi hy => ?_) h (by simp)
  have hj := (List.getElem?_eq_some_iff.1 h)
  have hy' := (List.getElem?_eq_some_iff.1 hy)
  obtain ⟨hj1, rfl⟩ := hj
  obtain ⟨hi1, rfl⟩ := hy'
  simp only [beq_eq_false_iff_ne]
  intro he
  exact List.pairwise_iff_getElem.1 hn i j hi1 hj1 hi he.symm
theorem take_snoc' {α : Type} {l : List α} {k : Nat} {y : α} (h : l[k]? = some y) : l.take (k + 1) = l.take k ++ [y] := by
  have hk : k < l.length := (List.getElem?_eq_some_iff.1 h).1
  rw [List.getElem?_eq_getElem hk] at h
  injection h with h
  rw [List.take_succ_eq_append_getElem hk, h]
theorem drop_at' {α : Type} {l : List α} {k : Nat} {y : α} (h : l[k]? = some y) : l.drop k = y :: l.drop (k + 1) := by
  have hk : k < l.length := (List.getElem?_eq_some_iff.1 h).1
  rw [List.getElem?_eq_getElem hk] at h
  injection h with h
  rw [List.drop_eq_getElem_cons hk, h]
theorem lt_of_get {α : Type} {l : List α} {k : Nat} {y : α} (h : l[k]? = some y) : k < l.length := (List.getElem?_eq_some_iff.1 h).1
theorem mem_of_get {α : Type} {l : List α} {k : Nat} {y : α} (h : l[k]? = some y) : y ∈ l := List.mem_of_getElem? h
theorem if_max (a b : Int) : (if a < b then b else a) = max a b := by rw [Int.max_def]; split <;> split <;> omega
theorem if_min (a b : Int) : (if b < a then b else a) = min a b := by rw [Int.min_def]; split <;> split <;> omega
end Go.Proofs.YtkmpddaobncheaaGreatDoor
namespace Go.Proofs.YtkmpddaobncheaaGreatDoor
open Go.RowKit

set_option maxHeartbeats 400000 in
theorem index_any (A : Option Addr) (l : List Int) (n c : Nat) (x : Int) (w : World) {B : Nat} (h : Ints w B A l) (hn : n = l.length) (hm : n ≤ 60000) :
    Calls Tryz.prog 117 #[.slice A n c, .int .i64 x] w fun e w' => e = .returned (.int .i64 (idx (fun y => x == y) l)) ∧ w = w' := by
  have hn' := hide hn; clear hn
  go_enter Tryz.func117, Tryz.ntmps117
  go_wp2
  go_loop [5, 8] (fun _ i => ∃ k : Nat, k ≤ n ∧ i = .int .i64 k ∧ NoneTo (fun y => x == y) l k) (fun _ i => n - (intOf i).toNat)
  case atStart => exact ⟨0, Nat.zero_le _, rfl, NoneTo.zero _ _⟩
  case round =>
    obtain ⟨k, hk, rfl, hw⟩ := hrel
    by_cases hlt : k < n
    · obtain ⟨b, off, y, rfl, hb, hy, hc⟩ := h.get (k := k) (by rw [← hn'.out]; exact hlt)
      have Hy := hide hy
      clear hy hb h
      go_wp2_with fail
      · go_ret
        exact ⟨ret_int (hw.hit Hy.out (by assumption)).symm, rfl⟩
      · go_round
        case rel => exact ⟨k + 1, by omega, by go_num, hw.succ Hy.out (by assumption)⟩
        case measure => simp [intOf]; omega
    · obtain rfl : k = n := by omega
      go_wp2_with fail
      go_ret
      exact ⟨ret_int (NoneTo.miss (by rw [← hn'.out]; exact hw)).symm, rfl⟩

def steelSizes : List Int := [6, 8, 10, 12, 16, 20, 25, 32, 40]
def has (x : Int) (l : List Int) : Bool := l.contains x
def isSize (d : Int) : Bool := has d steelSizes

set_option maxHeartbeats 400000 in
theorem contains_any (A : Option Addr) (l : List Int) (n c : Nat) (x : Int) (w : World) {B : Nat} (h : Ints w B A l) (hn : n = l.length) (hm : n ≤ 60000) :
    Calls Tryz.prog 228 #[.slice A n c, .int .i64 x] w fun e w' => e = .returned (.bool (has x l)) ∧ w = w' := by
  have hn' := hide hn; clear hn
  go_enter Tryz.func228, Tryz.ntmps228
  go_wp2_with (go_at_call 117; refine (index_any A l n c x _ h hn'.out hm).mono ?_; rintro e w' ⟨rfl, rfl⟩)
  go_ret
  refine ⟨ret_bool ?_, rfl⟩
  rw [idx_any, has, Bool.eq_iff_iff]
  simp

set_option maxHeartbeats 400000 in
theorem sizes_any (w : World) :
    Calls Tryz.prog 69 #[] w fun e w' => ∃ A, e = .returned (.slice A 9 9) ∧ Ints w' w'.heap.size A steelSizes ∧ Below w.heap.size w w' := by
  go_enter Tryz.func69, Tryz.ntmps69
  go_wp2
  go_ret
  exact ⟨_, rfl, SlOf.lit encInt_len _ _ _ _ rfl (by simp), (Below.refl _ _).alloc (Nat.le_refl _) _⟩

set_option maxHeartbeats 400000 in
theorem size_any (d : Int) (w : World) :
    Calls Tryz.prog 166 #[.int .i64 d] w fun e w' => e = .returned (.bool (isSize d)) ∧ Below w.heap.size w w' := by
  go_enter Tryz.func166, Tryz.ntmps166
  go_wp2_with (first | (go_at_call 69; refine (sizes_any _).mono ?_; rintro e w1 ⟨A, rfl, hi, hb⟩) | (go_at_call 228; refine (contains_any A steelSizes 9 9 d _ hi rfl (by omega)).mono ?_; rintro e w2 ⟨rfl, rfl⟩))
  go_ret
  exact ⟨rfl, hb⟩

theorem isSize_mem {d : Int} (h : isSize d = true) : d ∈ steelSizes := by simpa [isSize, has] using h
theorem isSize_range {d : Int} (h : isSize d = true) : 6 ≤ d ∧ d ≤ 40 := by
  have := isSize_mem h
  simp [steelSizes] at this
  omega


end Go.Proofs.YtkmpddaobncheaaGreatDoor
namespace Go.Proofs.YtkmpddaobncheaaGreatDoor
open Go.RowKit

def legsOf (code : Int) : List (Int × Int) :=
  if code = 0 then [(0, 120)] else if code = 11 then [(0, 120), (1, 121)] else if code = 21 then [(0, 89), (1, 120), (2, 121)] else if code = 26 then [(0, 120), (1, 121), (2, 120)]
  else if code = 31 then [(0, 120), (1, 121), (2, 122)] else if code = 41 then [(0, 120), (1, 121), (2, 120), (3, 89), (4, 120)]
  else if code = 51 then [(2, 89), (0, 120), (1, 121), (0, 88), (1, 89), (2, 120)] else if code = 98 then [(0, 122), (1, 89), (2, 120), (1, 121), (0, 122)] else []
def legsLen (code : Int) : Nat := (legsOf code).length
theorem legsLen_le (code : Int) : legsLen code ≤ 6 := by unfold legsLen legsOf; (repeat' split) <;> simp
theorem legs_dims (code : Int) : ∀ p ∈ legsOf code, 0 ≤ p.1 ∧ p.1 ≤ 4 := by
  have h : (legsOf code).all (fun p => decide (0 ≤ p.1) && decide (p.1 ≤ 4)) = true := by
    unfold legsOf
    (repeat' split) <;> rfl
  intro p hp
  have := List.all_eq_true.1 h p hp
  simpa using this
def encLeg (p : Int × Int) : List Value := [.int .i64 p.1, .int .u8 p.2]
theorem encLeg_len (p : Int × Int) : (encLeg p).length = 2 := rfl
abbrev LegsAt (w : World) (B : Nat) (A : Option Addr) (l : List (Int × Int)) : Prop := SlOf w B 2 (Flat encLeg) A l
theorem LegsAt.get {w : World} {B : Nat} {A : Option Addr} {l : List (Int × Int)} (h : LegsAt w B A l) {k : Nat} (hk : k < l.length) :
    ∃ b off d y, A = some ⟨b, off, none⟩ ∧ b < B ∧ l[k]? = some (d, y) ∧ w.cell? ⟨b, off + k * 2, none⟩ = some (.int .i64 d) ∧ w.cell? ⟨b, off + k * 2 + 1, none⟩ = some (.int .u8 y) := by
  obtain ⟨b, off, ⟨d, y⟩, vs, hA, hb, hx, _, hr, hc⟩ := h.at_ hk
  have hr' : vs = encLeg (d, y) := hr
  subst hr'
  exact ⟨b, off, d, y, hA, hb, hx, by simpa using hc 0 _ rfl, by simpa using hc 1 _ rfl⟩

set_option maxHeartbeats 1000000 in
theorem legs_any (code : Int) (w : World) :
    Calls Tryz.prog 182 #[.int .i64 code] w fun e w' => ∃ A, e = .returned (.slice A (legsLen code) (legsLen code)) ∧ LegsAt w' w'.heap.size A (legsOf code) ∧ Below w.heap.size w w' := by
  by_cases hno : legsOf code = []
  · have hl : legsLen code = 0 := by simp [legsLen, hno]
    rw [hl, hno]
    have hs : code ≠ 0 ∧ code ≠ 11 ∧ code ≠ 21 ∧ code ≠ 26 ∧ code ≠ 31 ∧ code ≠ 41 ∧ code ≠ 51 ∧ code ≠ 98 := by
      refine ⟨?_, ?_, ?_, ?_, ?_, ?_, ?_, ?_⟩ <;> (rintro rfl; simp [legsOf] at hno)
    obtain ⟨h0, h1, h2, h3, h4, h5, h6, h7⟩ := hs
    clear hno hl
    go_enter Tryz.func182, Tryz.ntmps182
    go_wp2
    go_ret
    exact ⟨none, rfl, SlOf.nil _ _ _ _ _, Below.refl _ _⟩
  · have hs : code = 0 ∨ code = 11 ∨ code = 21 ∨ code = 26 ∨ code = 31 ∨ code = 41 ∨ code = 51 ∨ code = 98 := by
      have h := hno
      unfold legsOf at h
      refine Decidable.byContradiction fun hn => ?_
      simp only [not_or] at hn
      obtain ⟨h0, h1, h2, h3, h4, h5, h6, h7⟩ := hn
      simp [h0, h1, h2, h3, h4, h5, h6, h7] at h
    clear hno
    rcases hs with rfl | rfl | rfl | rfl | rfl | rfl | rfl | rfl
    all_goals
      go_enter Tryz.func182, Tryz.ntmps182
      go_wp2
      go_ret
      exact ⟨_, rfl, SlOf.lit encLeg_len _ _ _ _ rfl (by simp), below_new _ _⟩

/-- How many dimensions a code has: 0 if it is none. -/
def dimsN (code : Int) : Int := ((legsOf code).foldl (fun a p => max a p.1) (-1)) + 1
def dimsE (code : Int) : Int := if dimsN code = 0 then 11 else 0

set_option maxHeartbeats 1000000 in
theorem dims_any (code : Int) (w : World) :
    Calls Tryz.prog 165 #[.int .i64 code] w fun e w' => e = .returned (.tuple #[.int .i64 (dimsN code), .int .i64 (dimsE code)]) ∧ Below w.heap.size w w' := by
  have hle := legsLen_le code
  go_enter Tryz.func165, Tryz.ntmps165
  go_wp2_with fail
  refine (legs_any _ _).mono ?_; rintro e w1 ⟨A, rfl, hA, hb⟩
  go_wp2_with fail
  go_loopw [4, 10] (fun m i wr => ∃ k : Nat, k ≤ legsLen code ∧ i = .int .i64 k ∧ (∃ d : Int, -1 ≤ d ∧ d ≤ 4 ∧ m = .int .i64 d ∧ Hid (d = ((legsOf code).take k).foldl (fun a p => max a p.1) (-1))) ∧ Below w1.heap.size w1 wr) (fun _ i _ => legsLen code - (intOf i).toNat)
  case atStart => exact ⟨0, Nat.zero_le _, rfl, ⟨-1, by omega, by omega, rfl, hide rfl⟩, Below.refl _ _⟩
  case round =>
    obtain ⟨k, hk, rfl, ⟨m, hm1, hm2, rfl, hm⟩, hbr⟩ := hrel
    by_cases hlt : k < legsLen code
    · obtain ⟨b, off, d, y, rfl, hbl, hx, hc0, hc1⟩ := hA.get (k := k) hlt
      rw [← hbr.cell (by exact hbl)] at hc0 hc1
      have Hx := hide hx
      have hd := legs_dims code _ (mem_of_get hx)
      obtain ⟨hd0, hd4⟩ : 0 ≤ d ∧ d ≤ 4 := hd
      clear hx hA hbl
      go_wp2_with fail
      go_roundw
      case rel => exact ⟨k + 1, by omega, by go_num, ⟨max m d, by omega, by omega, by rw [if_max], hide (by rw [take_snoc' Hx.out, List.foldl_append, ← hm.out]; rfl)⟩, hbr.alloc hbr.size _⟩
      case measure => simp [intOf]; omega
    · obtain rfl : k = legsLen code := by omega
      have hm' := hm.out
      rw [List.take_of_length_le (by simp [legsLen])] at hm'
      have hN := hide (show dimsN code = m + 1 by rw [dimsN, hm'])
      clear hm'
      go_wp2_with fail
      · go_ret2
        exact ⟨by rw [dimsE, hN.out, show m + 1 = 0 by omega]; rfl, below_step hb hbr (Nat.le_refl _)⟩
      · go_ret2
        exact ⟨by rw [dimsE, hN.out, if_neg (by omega)]; rfl, below_step hb hbr (Nat.le_refl _)⟩

/-- A line of a bending schedule. -/
structure BarD where
  mark : ByteArray
  size : Int
  count : Int
  code : Int
  dims : List Int
/-- Each dimension is at least 1, and their sum does not pass rest. -/
def fits (rest : Int) : List Int → Bool
  | [] => true
  | d :: r => decide (1 ≤ d) && decide (d ≤ rest) && fits (rest - d) r
def barOk (x : BarD) : Bool :=
  decide (dimsE x.code = 0) && isName x.mark && isSize x.size && decide (1 ≤ x.count) && decide (x.count ≤ 1000) && decide ((x.dims.length : Int) = dimsN x.code) && fits 262144 x.dims

/-- What is asked ahead of the dimensions themselves. -/
def barPre (x : BarD) : Bool :=
  decide (dimsE x.code = 0) && isName x.mark && isSize x.size && decide (1 ≤ x.count) && decide (x.count ≤ 1000) && decide ((x.dims.length : Int) = dimsN x.code)
theorem barOk_pre (x : BarD) : barOk x = (barPre x && fits 262144 x.dims) := rfl

set_option maxHeartbeats 1000000 in
theorem barValid_any (x : BarD) (A : Option Addr) (c : Nat) (w : World) {B : Nat} (hA : Ints w B A x.dims) (hB : B ≤ w.heap.size) (hm : x.mark.size ≤ maxLen) (hd : x.dims.length ≤ 60000) :
    Calls Tryz.prog 114 #[.agg #[.string x.mark, .int .i64 x.size, .int .i64 x.count, .int .i64 x.code, .slice A x.dims.length c]] w fun e w' => e = .returned (.bool (barOk x)) ∧ Below w.heap.size w w' := by
  rw [barOk_pre]
  cases hpre : barPre x
  · obtain ⟨mark, size, count, code, dims⟩ := x
    have Hp := hide hpre
    simp only at hA hm hd ⊢
    clear hpre hA
    go_enter Tryz.func114, Tryz.ntmps114
    go_wp2_with fail
    refine (dims_any _ _).mono ?_; rintro e w1 ⟨rfl, hb⟩
    have b0 := (Blk.new w 68 #[.string mark, .int .i64 size, .int .i64 count, .int .i64 code, .slice A dims.length c]).keep hb
    have c0 := b0.cell 0
    have c1 := b0.cell 1
    have c2 := b0.cell 2
    have c4 := b0.cell 4
    simp at c0 c1 c2 c4
    clear b0
    have hAll := below_step (below_new w _) hb (Nat.le_refl _)
    clear hb
    go_wp2_with (first
      | (go_at_call 46; refine (isName_any _ _ hm).mono ?_; rintro e w' ⟨rfl, rfl⟩)
      | (go_at_call 166; refine (size_any _ _).mono ?_; rintro e w2 ⟨rfl, hb2⟩; have e2 := cell_later hb2 c2; have e4 := cell_later hb2 c4))
    any_goals (go_ret; exact ⟨by simp, by first | exact hAll | exact below_step hAll hb2 (Nat.le_refl _)⟩)
    all_goals
      exfalso
      have h := Hp.out
      simp_all [barPre]
  · have hP := hpre
    simp only [barPre, Bool.and_eq_true, decide_eq_true_eq] at hP
    obtain ⟨⟨⟨⟨⟨p0, p1⟩, p2⟩, p3⟩, p4⟩, p5⟩ := hP
    obtain ⟨mark, size, count, code, dims⟩ := x
    simp only at hA hm hd p0 p1 p2 p3 p4 p5 ⊢
    have H0 := hide p0
    have H1 := hide p1
    have H2 := hide p2
    have h5 : ((dims.length : Int) != dimsN code) = false := by simp [p5]
    clear p0 p1 p2 p5 hpre
    go_enter Tryz.func114, Tryz.ntmps114
    go_wp2_with fail
    refine (dims_any _ _).mono ?_; rintro e w1 ⟨rfl, hb⟩; rw [H0.out]
    have b0 := (Blk.new w 68 #[.string mark, .int .i64 size, .int .i64 count, .int .i64 code, .slice A dims.length c]).keep hb
    have c0 := b0.cell 0
    have c1 := b0.cell 1
    have c2 := b0.cell 2
    have c4 := b0.cell 4
    simp at c0 c1 c2 c4
    clear b0
    have hBs := hb.size
    simp at hBs
    have hA1 : Ints w1 B A dims := hA.carry (((Below.refl _ _).alloc hB _).trans (hb.mono (by simp; omega))) (Nat.le_refl _)
    have hAll := below_step (below_new w _) hb (Nat.le_refl _)
    clear hA hb
    go_wp2_with (first
      | (go_at_call 46; refine (isName_any _ _ hm).mono ?_; rintro e w' ⟨rfl, rfl⟩; rw [H1.out])
      | (go_at_call 166; refine (size_any _ _).mono ?_; rintro e w2 ⟨rfl, hb2⟩; rw [H2.out]; have e2 := cell_later hb2 c2; have e4 := cell_later hb2 c4))
    have hA2 := hA1.carry (hb2.mono (by omega)) (Nat.le_refl B)
    have hw2 := below_step hAll hb2 (Nat.le_refl _)
    clear hA1 hAll c0 c1 c2 c4 e2 hb2
    go_loop [5, 48] (fun r i => ∃ k : Nat, k ≤ dims.length ∧ i = .int .i64 k ∧ ∃ rest : Int, 0 ≤ rest ∧ rest ≤ 262144 ∧ r = .int .i64 rest ∧ Hid (fits 262144 dims = fits rest (dims.drop k))) (fun _ i => dims.length - (intOf i).toNat)
    case atStart => exact ⟨0, Nat.zero_le _, rfl, 262144, by omega, by omega, rfl, hide rfl⟩
    case round =>
      obtain ⟨k, hk, rfl, rest, hr0, hr1, rfl, hf⟩ := hrel
      by_cases hlt : k < dims.length
      · obtain ⟨b, off, y, rfl, hbl, hy, hc⟩ := hA2.get (k := k) hlt
        have Hf := hide (hf.out.trans (by rw [drop_at' hy, fits]))
        clear hy hbl hA2 hf e4
        go_wp2_with fail
        all_goals first
          | (go_ret; exact ⟨ret_bool (by rw [Hf.out]; simp_all <;> omega), hw2⟩)
          | (go_round
             case rel => exact ⟨k + 1, by omega, by go_num, rest - y, by omega, by omega, rfl, hide (by rw [Hf.out]; simp_all)⟩
             case measure => simp [intOf]; omega)
      · obtain rfl : k = dims.length := by omega
        go_wp2_with fail
        go_ret
        exact ⟨ret_bool (by rw [hf.out]; simp [fits]), hw2⟩
end Go.Proofs.YtkmpddaobncheaaGreatDoor
namespace Go.Proofs.YtkmpddaobncheaaGreatDoor
open Go.RowKit

def barR : World → Nat → List Value → BarD → Prop := fun w B vs x => ∃ A c, vs = [.string x.mark, .int .i64 x.size, .int .i64 x.count, .int .i64 x.code, .slice A x.dims.length c] ∧ Ints w B A x.dims
theorem barR_carried : Carried barR := fun _ _ _ _ _ _ hb hB ⟨A, c, h, hi⟩ => ⟨A, c, h, hi.carry hb hB⟩
abbrev BarsAt (w : World) (B : Nat) (A : Option Addr) (l : List BarD) : Prop := SlOf w B 5 barR A l
theorem BarsAt.carry {w w' : World} {B B' : Nat} {A : Option Addr} {l : List BarD} (h : BarsAt w B A l) (hb : Below B w w') (hB : B ≤ B') : BarsAt w' B' A l := SlOf.carry barR_carried h hb hB
theorem BarsAt.get {w : World} {B : Nat} {A : Option Addr} {l : List BarD} (h : BarsAt w B A l) {k : Nat} (hk : k < l.length) :
    ∃ b off x A' c', A = some ⟨b, off, none⟩ ∧ b < B ∧ l[k]? = some x ∧ Ints w B A' x.dims ∧ w.cell? ⟨b, off + k * 5, none⟩ = some (.string x.mark) ∧ w.cell? ⟨b, off + k * 5 + 1, none⟩ = some (.int .i64 x.size) ∧
      w.cell? ⟨b, off + k * 5 + 2, none⟩ = some (.int .i64 x.count) ∧ w.cell? ⟨b, off + k * 5 + 3, none⟩ = some (.int .i64 x.code) ∧ w.cell? ⟨b, off + k * 5 + 4, none⟩ = some (.slice A' x.dims.length c') := by
  obtain ⟨b, off, x, vs, hA, hb, hx, _, ⟨A', c', rfl, hi⟩, hc⟩ := h.at_ hk
  exact ⟨b, off, x, A', c', hA, hb, hx, hi, by simpa using hc 0 _ rfl, by simpa using hc 1 _ rfl, by simpa using hc 2 _ rfl, by simpa using hc 3 _ rfl, by simpa using hc 4 _ rfl⟩
set_option maxHeartbeats 400000 in
theorem indexFuncBar_any (A : Option Addr) (l : List BarD) (n c : Nat) (fid : FuncId) (caps : Array Value) (p : BarD → Bool) (w : World) {B : Nat} (h : BarsAt w B A l) (hB : B ≤ w.heap.size) (hn : n = l.length) (hm : n ≤ 60000)
    (hc : ∀ args w, (callFunc fid args).run Tryz.prog w = .ok (.enter fid args) w)
    (hf : ∀ x A' c' (W : World), x ∈ l → Below w.heap.size w W → Ints W B A' x.dims →
      Calls Tryz.prog fid (#[.agg #[.string x.mark, .int .i64 x.size, .int .i64 x.count, .int .i64 x.code, .slice A' x.dims.length c']] ++ caps) W fun e W' => e = .returned (.bool (p x)) ∧ Below W.heap.size W W') :
    Calls Tryz.prog 118 #[.slice A n c, .func (.func fid) #[] caps] w fun e w' => e = .returned (.int .i64 (idx p l)) ∧ Below w.heap.size w w' := by
  have Hf := hide hf
  have hn' := hide hn
  clear hf hn
  go_enter Tryz.func118, Tryz.ntmps118
  go_wp2_with fail
  go_loopw [8] (fun i wr => ∃ k : Nat, k ≤ n ∧ i = .int .i64 k ∧ NoneTo p l k ∧ Below w.heap.size w wr) (fun i _ => n - (intOf i).toNat)
  case atStart => exact ⟨0, Nat.zero_le _, rfl, NoneTo.zero _ _, Below.refl _ _⟩
  case round =>
    obtain ⟨k, hk, rfl, hw, hb⟩ := hrel
    by_cases hlt : k < n
    · obtain ⟨b, off, x, A', c', rfl, hbl, hx, hi, h0, h1, h2, h3, h4⟩ := BarsAt.get (k := k) (h.carry (hb.mono hB) (Nat.le_refl _)) (by rw [← hn'.out]; exact hlt)
      have Hx := hide hx
      have Hi := hide hi
      clear hx hi h hbl
      go_wp2_with fail
      refine (Hf.out x A' c' _ (mem_of_get Hx.out) hb Hi.out).mono ?_
      rintro e w1 ⟨rfl, hb1⟩
      clear h0 h1 h2 h3 h4
      have hb2 := below_step hb hb1 (Nat.le_refl _)
      cases hp : p x
      · have Hp := hide hp
        clear hp
        go_wp2_with fail
        go_roundw
        case rel => exact ⟨k + 1, by omega, by go_num, hw.succ Hx.out Hp.out, hb2⟩
        case measure => simp [intOf]; omega
      · have Hp := hide hp
        clear hp
        go_wp2_with fail
        go_ret
        exact ⟨ret_int (hw.hit Hx.out Hp.out).symm, hb2⟩
    · obtain rfl : k = n := by omega
      go_wp2_with fail
      go_ret
      exact ⟨ret_int (NoneTo.miss (by rw [← hn'.out]; exact hw)).symm, hb⟩

def markIs (m : ByteArray) (x : BarD) : Bool := x.mark.toList == m.toList

set_option maxHeartbeats 400000 in
theorem index1_any (x : BarD) (A : Option Addr) (c : Nat) (m : ByteArray) (g : Nat) (w : World) (h0 : w.cell? ⟨g, 0, none⟩ = some (.string m)) :
    Calls Tryz.prog 167 #[.agg #[.string x.mark, .int .i64 x.size, .int .i64 x.count, .int .i64 x.code, .slice A x.dims.length c], .pointer (some ⟨g, 0, none⟩)] w fun e w' => e = .returned (.bool (markIs m x)) ∧ Below w.heap.size w w' := by
  have hg : g < w.heap.size := by
    have := World.block_lt_of_cell? w _ h0
    exact this
  have h1 := fun o => (World.cell?_alloc_lt w o ⟨g, 0, none⟩ hg).trans h0
  go_enter Tryz.func167, Tryz.ntmps167
  go_wp2_with fail
  go_ret
  exact ⟨ret_bool (by rfl), below_new _ _⟩

set_option maxHeartbeats 400000 in
theorem schedIndex_any (A : Option Addr) (l : List BarD) (n c : Nat) (m : ByteArray) (w : World) {B : Nat} (h : BarsAt w B A l) (hB : B ≤ w.heap.size) (hn : n = l.length) (hm : n ≤ 60000) :
    Calls Tryz.prog 115 #[.slice A n c, .string m] w fun e w' => e = .returned (.int .i64 (idx (markIs m) l)) ∧ Below w.heap.size w w' := by
  have hn' := hide hn
  have h1 := hide (h.carry ((Below.refl B w).alloc hB (.cells #[.string m] 9)) (Nat.le_refl B))
  have h2 := hide (le_alloc hB (.cells #[.string m] 9))
  clear hn
  go_enter Tryz.func115, Tryz.ntmps115
  go_wp2_with fail
  refine (indexFuncBar_any A l n c 167 #[.pointer (some ⟨w.heap.size, 0, none⟩)] (markIs m) _ h1.out h2.out hn'.out hm Tryz.call167 (fun x A' c' W _ hb _ => index1_any x A' c' m w.heap.size W (by have h0 := ((Blk.new w 9 #[.string m]).keep hb).cell 0; simpa using h0))).mono ?_
  rintro e w1 ⟨rfl, hb⟩
  go_wp2_with fail
  go_ret
  exact ⟨rfl, below_step (below_new _ _) hb (Nat.le_refl _)⟩

/-- Marks and dimensions are no longer than a machine's list. -/
def Tame (l : List BarD) : Prop := ∀ x ∈ l, x.mark.size ≤ maxLen ∧ x.dims.length ≤ 60000
def schedFrom (l : List BarD) : Nat → List BarD → Bool
  | _, [] => true
  | k, x :: r => barOk x && decide (idx (markIs x.mark) l = k) && schedFrom l (k + 1) r
def schedOk (l : List BarD) : Bool := decide (l.length ≤ 60) && schedFrom l 0 l

set_option maxHeartbeats 1000000 in
theorem schedValid_any (A : Option Addr) (l : List BarD) (n c : Nat) (w : World) {B : Nat} (h : BarsAt w B A l) (hB : B ≤ w.heap.size) (hn : n = l.length) (hg : Tame l) (hm : n ≤ 60000) :
    Calls Tryz.prog 67 #[.slice A n c] w fun e w' => e = .returned (.bool (schedOk l)) ∧ Below w.heap.size w w' := by
  have hn' := hide hn
  have Hg := hide hg
  by_cases h60 : n ≤ 60
  · have hs : schedOk l = schedFrom l 0 l := by simp [schedOk, ← hn, h60]
    rw [hs]
    clear hs hn hg hm
    go_enter Tryz.func67, Tryz.ntmps67
    go_wp2_with fail
    go_loopw [10] (fun i wr => ∃ k : Nat, k ≤ n ∧ i = .int .i64 k ∧ Hid (schedFrom l 0 l = schedFrom l k (l.drop k)) ∧ Below w.heap.size w wr) (fun i _ => n - (intOf i).toNat)
    case atStart => exact ⟨0, Nat.zero_le _, rfl, hide rfl, Below.refl _ _⟩
    case round =>
      obtain ⟨k, hk, rfl, hw, hb⟩ := hrel
      by_cases hlt : k < n
      · have HR := hide (h.carry (hb.mono hB) (Nat.le_refl _))
        have hBr := Nat.le_trans hB hb.size
        obtain ⟨b, off, x, A', c', hA, hbl, hx, hi, h0, h1, h2, h3, h4⟩ := BarsAt.get (k := k) HR.out (by rw [← hn'.out]; exact hlt)
        have HA := hide hA
        subst hA
        have Hx := hide hx
        have hgx := Hg.out x (mem_of_get hx)
        have Hw := hide (hw.out.trans (by rw [drop_at' hx, schedFrom]))
        have Hi := hide hi
        have hbo := fun o => hide ((Below.refl B wr).alloc hBr o)
        clear hx hi h hbl hw
        go_wp2_with fail
        refine (barValid_any x A' c' _ (Hi.out.carry (hbo _).out (Nat.le_refl _)) (le_alloc hBr _) hgx.1 hgx.2).mono ?_
        rintro e w1 ⟨rfl, hb1⟩
        have b0 := (Blk.new wr 68 #[.string x.mark, .int .i64 x.size, .int .i64 x.count, .int .i64 x.code, .slice A' x.dims.length c']).keep hb1
        have c0 := b0.cell 0
        simp at c0
        have hbw1 := hide (below_step (below_step hb (below_new wr _) (Nat.le_refl _)) hb1 (Nat.le_refl _))
        have hB1 := hide (HR.out.carry (((hbo _).out).trans (hb1.mono (le_alloc hBr _))) (Nat.le_refl _))
        have hs1 := Nat.le_trans hB hbw1.out.size
        clear b0 h0 h1 h2 h3 h4 hbo hb1 HR Hi
        cases hp : barOk x
        · have Hp := hide hp
          clear hp
          go_wp2_with fail
          go_ret
          exact ⟨ret_bool (by rw [Hw.out, Hp.out]; rfl), hbw1.out⟩
        · have Hp := hide hp
          clear hp
          go_wp2_with fail
          refine (schedIndex_any _ l n c x.mark _ hB1.out hs1 hn'.out (by omega)).mono ?_
          rintro e w2 ⟨rfl, hb2⟩
          have hbw2 := hide (below_step hbw1.out hb2 (Nat.le_refl _))
          clear hb2 c0
          cases hq : decide (idx (markIs x.mark) l = k)
          · have Hq := hide hq
            have hq' : (idx (markIs x.mark) l != (k : Int)) = true := by simpa using hq
            clear hq
            go_wp2_with fail
            go_ret
            exact ⟨ret_bool (by rw [Hw.out, Hp.out, Hq.out]; rfl), hbw2.out⟩
          · have Hq := hide hq
            have hq' : (idx (markIs x.mark) l != (k : Int)) = false := by simpa using hq
            clear hq
            go_wp2_with fail
            go_roundw
            case rel => exact ⟨k + 1, by omega, by go_num, hide (by rw [Hw.out, Hp.out, Hq.out]; rfl), hbw2.out⟩
            case measure => simp [intOf]; omega
      · obtain rfl : k = n := by omega
        go_wp2_with fail
        go_ret
        exact ⟨ret_bool (by rw [hw.out, List.drop_of_length_le (by rw [← hn'.out]; exact Nat.le_refl _)]; rfl), hb⟩
  · have hs : schedOk l = false := by simp [schedOk, ← hn, h60]
    rw [hs]
    clear hs hn hg
    go_enter Tryz.func67, Tryz.ntmps67
    go_wp2_with fail
    go_ret
    exact ⟨rfl, Below.refl _ _⟩
end Go.Proofs.YtkmpddaobncheaaGreatDoor
namespace Go.Proofs.YtkmpddaobncheaaGreatDoor
open Go.RowKit

/-- A finding. -/
structure FinD where
  kind : Int
  name : ByteArray
def encFin (x : FinD) : List Value := [.int .i64 x.kind, .string x.name]
theorem encFin_len (x : FinD) : (encFin x).length = 2 := rfl
theorem encFin_one (x : FinD) : ∀ u ∈ encFin x, u.oneCell' = true := by
  intro u hu
  simp only [encFin, List.mem_cons, List.not_mem_nil, or_false] at hu
  rcases hu with rfl | rfl <;> rfl
abbrev FinsAt (w : World) (B : Nat) (A : Option Addr) (l : List FinD) : Prop := SlOf w B 2 (Flat encFin) A l
theorem FinsAt.get {w : World} {B : Nat} {A : Option Addr} {l : List FinD} (h : FinsAt w B A l) {k : Nat} (hk : k < l.length) :
    ∃ b off x, A = some ⟨b, off, none⟩ ∧ b < B ∧ l[k]? = some x ∧ w.cell? ⟨b, off + k * 2, none⟩ = some (.int .i64 x.kind) ∧ w.cell? ⟨b, off + k * 2 + 1, none⟩ = some (.string x.name) := by
  obtain ⟨b, off, x, vs, hA, hb, hx, _, hr, hc⟩ := h.at_ hk
  have hr' : vs = encFin x := hr
  subst hr'
  exact ⟨b, off, x, hA, hb, hx, by simpa using hc 0 _ rfl, by simpa using hc 1 _ rfl⟩
end Go.Proofs.YtkmpddaobncheaaGreatDoor
namespace Go.Proofs.YtkmpddaobncheaaGreatDoor
open Go.RowKit

/-- d is a size: 'of' is called; its call does nothing but return x. -/
theorem sized_ok (d x : Int) (fid : FuncId) (caps : Array Value) (w : World) (hd : isSize d = true) (hc : ∀ args w, (callFunc fid args).run Tryz.prog w = .ok (.enter fid args) w)
    (hf : ∀ W : World, Below w.heap.size w W → Calls Tryz.prog fid caps W fun e W' => e = .returned (.int .i64 x) ∧ W = W') :
    Calls Tryz.prog 231 #[.int .i64 d, .func (.func fid) #[] caps] w fun e w' => e = .returned (.tuple #[.int .i64 x, .int .i64 0]) ∧ Below w.heap.size w w' := by
  have Hf := hide hf
  have Hd := hide hd
  clear hf hd
  go_enter Tryz.func231, Tryz.ntmps231
  go_wp2_with fail
  refine (size_any _ _).mono ?_; rintro e w1 ⟨rfl, hb⟩; rw [Hd.out]
  go_wp2_with fail
  refine (Hf.out _ hb).mono ?_; rintro e w1 ⟨rfl, rfl⟩
  go_wp2_with fail
  go_ret2
  exact ⟨rfl, hb⟩
end Go.Proofs.YtkmpddaobncheaaGreatDoor
namespace Go.Proofs.YtkmpddaobncheaaGreatDoor
open Go.RowKit

def steelMass (d n : Int) : Int := (6165 * d * d * n + 500000) / 1000000
def steelBend (d : Int) : Int := if d ≤ 16 then 5 * d / 2 else 4 * d
set_option maxHeartbeats 400000 in
theorem mass1_any (d n : Int) (w : World) (g h : Nat) (hd : isSize d = true) (hn0 : 0 ≤ n) (hn1 : n ≤ 1048576)
    (h1 : w.cell? ⟨g, 0, none⟩ = some (.int .i64 d)) (h2 : w.cell? ⟨h, 0, none⟩ = some (.int .i64 n)) :
    Calls Tryz.prog 232 #[.pointer (some ⟨g, 0, none⟩), .pointer (some ⟨h, 0, none⟩)] w fun e w' => e = .returned (.int .i64 (steelMass d n)) ∧ w = w' := by
  have hm := isSize_mem hd
  clear hd
  simp [steelSizes] at hm
  rcases hm with rfl | rfl | rfl | rfl | rfl | rfl | rfl | rfl | rfl
  all_goals
    go_enter Tryz.func232, Tryz.ntmps232
    go_wp2_with fail
    go_ret
    exact ⟨ret_int (by simp [steelMass]), rfl⟩
set_option maxHeartbeats 400000 in
theorem bend1_any (d : Int) (w : World) (g : Nat) (hd : isSize d = true) (h1 : w.cell? ⟨g, 0, none⟩ = some (.int .i64 d)) :
    Calls Tryz.prog 313 #[.pointer (some ⟨g, 0, none⟩)] w fun e w' => e = .returned (.int .i64 (steelBend d)) ∧ w = w' := by
  have hr := isSize_range hd
  clear hd
  go_enter Tryz.func313, Tryz.ntmps313
  go_wp2_with fail
  all_goals
    go_ret
    exact ⟨ret_int (by unfold steelBend; split <;> omega), rfl⟩


set_option maxHeartbeats 400000 in
theorem bend_ok (d : Int) (w : World) (hd : isSize d = true) :
    Calls Tryz.prog 299 #[.int .i64 d] w fun e w' => e = .returned (.tuple #[.int .i64 (steelBend d), .int .i64 0]) ∧ Below w.heap.size w w' := by
  have Hd := hide hd
  clear hd
  go_enter Tryz.func299, Tryz.ntmps299
  go_wp2_with fail
  refine (sized_ok d (steelBend d) _ _ _ Hd.out Tryz.call313 (fun W hb => bend1_any d W _ Hd.out (((Blk.new w 3 #[.int .i64 d]).keep hb).cell 0))).mono ?_
  rintro e w1 ⟨rfl, hb⟩
  go_wp2_with fail
  go_ret2
  exact ⟨rfl, below_step (below_new _ _) hb (Nat.le_refl _)⟩

set_option maxHeartbeats 400000 in
theorem mass_ok (d n : Int) (w : World) (hd : isSize d = true) (hn0 : 0 ≤ n) (hn1 : n ≤ 1048576) :
    Calls Tryz.prog 169 #[.int .i64 d, .int .i64 n] w fun e w' => e = .returned (.tuple #[.int .i64 (steelMass d n), .int .i64 0]) ∧ Below w.heap.size w w' := by
  have Hd := hide hd
  clear hd
  go_enter Tryz.func169, Tryz.ntmps169
  go_wp2_with fail
  refine (size_any _ _).mono ?_; rintro e w1 ⟨rfl, hb⟩; rw [Hd.out]
  have b0 : Blk w1 w.heap.size 3 #[.int .i64 d] := ((Blk.new w _ _).alloc _).keep hb
  have b1 : Blk w1 (w.heap.size + 1) 3 #[.int .i64 n] := (Blk.new1 w _ _ _).keep hb
  have c0 := b0.cell 0
  have c1 := b1.cell 0
  simp only [List.getElem?_toArray, List.getElem?_cons_zero] at c0 c1
  go_wp2_with fail
  refine (sized_ok d (steelMass d n) _ _ _ Hd.out Tryz.call232 (fun W hb' => mass1_any d n W _ _ Hd.out hn0 hn1 ((b0.keep hb').cell 0) ((b1.keep hb').cell 0))).mono ?_
  rintro e w2 ⟨rfl, hb2⟩
  go_wp2_with fail
  go_ret2
  exact ⟨rfl, below_step (below_step (below_new2 _ _ _) hb (Nat.le_refl _)) hb2 (Nat.le_refl _)⟩
end Go.Proofs.YtkmpddaobncheaaGreatDoor
