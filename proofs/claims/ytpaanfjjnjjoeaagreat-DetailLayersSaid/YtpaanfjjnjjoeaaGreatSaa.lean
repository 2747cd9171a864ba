/- Words for memory, used by all walks of this seat: a slice that zrD as a list (SlOf), a block known. -/
import Derived.Test.YtpaanfjjnjjoeaaGreatProg
import Derived.WalkKit
import Derived.WalkSpells
import Derived.WalkLawsBesides
import Derived.Handy
import Derived.Deep.Draws
import Derived.BigQuiet
import Derived.Lib.QuietBelow
import Derived.Maps.Own
import Derived.Maps.OwnOps
import Derived.Maps.Views
import Derived.Lib.SlicesCompact
import Derived.Lib.RowBridge
import Derived.Sort.OwnSortedInts
import Derived.Maps.AppendAt
import Derived.Deep.QuietTactic
set_option maxHeartbeats 8000000
set_option maxRecDepth 100000
namespace Go.Proofs.YtpaanfjjnjjoeaaGreat
open Go.RowKit
abbrev ze := @Nat.le_refl
abbrev zh := @Nat.le_trans
abbrev zi := @List.getElem?_eq_getElem
abbrev zm := @Bool.and_eq_true
abbrev zr := @IntWalk.i64_in
abbrev zt := @Nat.lt_of_lt_of_le
abbrev zu := @Nat.zero_le
abbrev zw := @List.length_map
abbrev zC := @List.length_append
abbrev zE := @decide_eq_false
abbrev zF := @List.take_length
abbrev zG := @List.length_take
abbrev zI := @decide_eq_true
abbrev zK := @Nat.lt_succ_self
abbrev zN := @Nat.le_add_right
abbrev zP := @List.mem_singleton
abbrev zV := @List.map_append
abbrev zX := @Nat.le_of_lt
abbrev zY := @List.getD_eq_getElem?_getD
abbrev zZ := @List.mem_cons_of_mem
abbrev zac := @List.length_cons
abbrev zae := @List.flatMap_append
abbrev zaf := @List.flatMap_cons
abbrev zal := @List.length_filter_le
abbrev zao := @Nat.le_succ
abbrev zar := @List.drop_length
abbrev zas := @IntWalk.wrap64_in
abbrev zaz := @Int.toNat_natCast
abbrev zaH := @List.getElem?_map
abbrev zaI := @List.append_assoc
abbrev za7 := @List.length_singleton
abbrev zbj := @List.append_nil
abbrev zbw := @List.filter_append
abbrev zbL := @Int.add_sub_cancel
abbrev zcB := @List.mem_flatMap
abbrev zcQ := @List.mem_append
abbrev zdW := @List.getElem?_eq_none
abbrev zeT := @List.mem_map
abbrev zzA := @List.getElem_toArray
abbrev zzB := @List.getElem_cons_succ
abbrev zzC := @List.getElem_cons_zero
abbrev zzD := @List.setIfInBounds_toArray
abbrev zzE := @List.set_cons_zero
abbrev zzF := @List.set_cons_succ
abbrev zzG := @World.size_setCell
abbrev zzH := @World.size_drew
abbrev zzI := @decide_eq_false_iff_not
abbrev zzJ := @decide_eq_true_eq
theorem zo {a b : Bool} (h : a = b) : Ending.returned (.bool a) = .returned (.bool b) := by rw [h]
theorem zam {k : IntKind} {a b : Int} (h : a = b) : Ending.returned (.int k a) = .returned (.int k b) := by rw [h]
theorem zf {p : Prop} (h : p) : Hid p := h
def Blk (w : World) (g : Nat) (t : TypeId) (cs : Array Value) : Prop := w.heap[g]? = some (.cells cs t (0, 0))
section
variable {w w' : World} {g : Nat} {t : TypeId} {cs : Array Value}
theorem Blk.lt (h : Blk w g t cs) : g < w.heap.size := by
 rcases Nat.lt_or_ge g w.heap.size with hlt | hge
 ·exact hlt
 ·unfold Blk at h; rw [Array.getElem?_eq_none hge] at h; cases h
theorem Blk.cell (h : Blk w g t cs) (i : Nat) : w.cell? ⟨g, i, none⟩ = cs[i]? := cell_of_row w g i cs t (0, 0) h
theorem Blk.frozen (h : Blk w g t cs) (i : Nat) : w.frozen? ⟨g, i, none⟩ = false := by
 unfold Blk at h;simp [World.frozen?, h]
theorem Blk.new (w : World) (t : TypeId) (cs : Array Value) : Blk (w.alloc (.cells cs t)) w.heap.size t cs := heap_alloc_new w _
theorem Blk.new1 (w : World) (o : Obj) (t : TypeId) (cs : Array Value) : Blk ((w.alloc o).alloc (.cells cs t)) (w.heap.size + 1) t cs := by
 have := heap_alloc_new (w.alloc o) (.cells cs t)
 simpa [Blk] using this
theorem Blk.new2 (w : World) (o o' : Obj) (t : TypeId) (cs : Array Value) : Blk (((w.alloc o).alloc o').alloc (.cells cs t)) (w.heap.size + 2) t cs := by
 have := heap_alloc_new ((w.alloc o).alloc o') (.cells cs t)
 simpa [Blk] using this
theorem Blk.keep (h : Blk w g t cs) (hb : Below w.heap.size w w') : Blk w' g t cs := (hb.block g h.lt).trans h
theorem Blk.drew (h : Blk w g t cs) : Blk w.drew g t cs := h
theorem Blk.drewN (h : Blk w g t cs) (n : Nat) : Blk (w.drewN n) g t cs := h
theorem Blk.alloc (h : Blk w g t cs) (o : Obj) : Blk (w.alloc o) g t cs := (Below.heap_alloc w o g h.lt).trans h
theorem Blk.set_ (h : Blk w g t cs) (i : Nat) (u : Value) : Blk (w.setCell ⟨g, i, none⟩ u) g t (cs.setIfInBounds i u) := by
 unfold Blk at h ⊢;simp [World.setCell, Array.getElem?_modify, h]
theorem Blk.far (h : Blk w g t cs) {p : Addr} (hp : g ≠ p.block) (u : Value) : Blk (w.setCell p u) g t cs := (Below.heap_setCell w p u g hp).trans h
theorem Blk.below {B : Nat} (h : Blk w g t cs) (hb : Below B w w') (hg : g < B) : Blk w' g t cs := (hb.block g hg).trans h
theorem Blk.grown {row : Option Nat} (h : Blk w g t cs) (hb : w.grownBy w' row) (hg : some g ≠ row) : Blk w' g t cs := (hb.block g h.lt hg).trans h
end
theorem zg {B : Nat} {a b c : World} (h : Below B a b) (k : Below b.heap.size b c) (hB : B ≤ a.heap.size) : Below B a c := h.trans (k.mono (zh hB h.size))
theorem zM {B : Nat} {w : World} (h : B ≤ w.heap.size) (o : Obj) : B ≤ (w.alloc o).heap.size := zh h (by simp)
theorem zk (w : World) (o : Obj) : Below w.heap.size w (w.alloc o) := (Below.refl _ _).alloc (ze _) _
theorem zH (w : World) (o o' : Obj) : Below w.heap.size w ((w.alloc o).alloc o') := (zk w o).alloc (by simp) _
theorem zW {P : Program} {f : FuncId} {args : Array Value} {w : World} {d : Nat} {os : Array Obj} {v : Value}
  (h : Calls P f args (Go.Sort.grow (redrawn w d) os) fun e w' => e = .returned v ∧ Go.Sort.grow (redrawn w d) os = w') : Calls P f args (Go.Sort.grow (redrawn w d) os) fun e w'' => e = .returned v ∧ ∃ p : Regrown, w'' = Go.Sort.grow (redrawn w p.d) p.os :=
 Calls.regrown_of (h.mono fun _ _ ⟨he, hw⟩ => ⟨he, by rw [← hw]; exact Below.refl _ _⟩)
def SlOf {α : Type} (w : World) (B size : Nat) (R : World → Nat → List Value → α → Prop) (A : Option Addr) (l : List α) : Prop :=
 0 < l.length → ∃ b off, A = some ⟨b, off, none⟩ ∧ b < B ∧ ∀ k x, l[k]? = some x → ∃ vs, vs.length = size ∧ R w B vs x ∧ ∀ j v, vs[j]? = some v → w.cell? ⟨b, off + k * size + j, none⟩ = some v
def zfX {α : Type} (R : World → Nat → List Value → α → Prop) : Prop := ∀ (w w' : World) (B B' : Nat) vs x, Below B w w' → B ≤ B' → R w B vs x → R w' B' vs x
def Flat {α : Type} (enc : α → List Value) : World → Nat → List Value → α → Prop := fun _ _ vs x => vs = enc x
theorem Flat.carried {α : Type} (enc : α → List Value) : zfX (Flat enc) := fun _ _ _ _ _ _ _ _ h => h
section
variable {α : Type} {w w' : World} {B B' size : Nat} {R : World → Nat → List Value → α → Prop} {A : Option Addr} {l : List α}
theorem SlOf.nil (w : World) (B size : Nat) (R : World → Nat → List Value → α → Prop) (A : Option Addr) : SlOf w B size R A [] := fun h => absurd h (by simp)
theorem SlOf.carry (hR : zfX R) (h : SlOf w B size R A l) (hb : Below B w w') (hB : B ≤ B') : SlOf w' B' size R A l := by
 intro hl;obtain ⟨b, off, rfl, hlt, hc⟩ := h hl;refine ⟨b, off, rfl, by omega, fun k x hx => ?_⟩;obtain ⟨vs, hs, hr, hv⟩ := hc k x hx;exact ⟨vs, hs, hR _ _ _ _ _ _ hb hB hr, fun j v hj => (hb.cell hlt).trans (hv j v hj)⟩
theorem SlOf.at_ (h : SlOf w B size R A l) {k : Nat} (hk : k < l.length) :
  ∃ b off x vs, A = some ⟨b, off, none⟩ ∧ b < B ∧ l[k]? = some x ∧ vs.length = size ∧ R w B vs x ∧ ∀ j v, vs[j]? = some v → w.cell? ⟨b, off + k * size + j, none⟩ = some v := by
 obtain ⟨b, off, rfl, hlt, hc⟩ := h (by omega);obtain ⟨vs, hs, hr, hv⟩ := hc k _ (zi hk);exact ⟨b, off, _, vs, rfl, hlt, zi hk, hs, hr, hv⟩
theorem SlOf.of_row {xs : List Value} {g : Nat} (hB : g < B) (hc : ∀ j u, xs[j]? = some u → w.cell? ⟨g, j, none⟩ = some u)
  (hl : ∀ k x, l[k]? = some x → ∃ vs, vs.length = size ∧ R w B vs x ∧ ∀ j v, vs[j]? = some v → xs[k * size + j]? = some v) : SlOf w B size R (some ⟨g, 0, none⟩) l := by
 intro _;refine ⟨g, 0, rfl, hB, fun k x hx => ?_⟩;obtain ⟨vs, hs, hr, hv⟩ := hl k x hx;exact ⟨vs, hs, hr, fun j v hj => by have := hc _ _ (hv j v hj); simpa using this⟩
end
theorem zcd {α : Type} {enc : α → List Value} {size : Nat} (he : ∀ x, (enc x).length = size) : ∀ (l : List α) (k : Nat) (x : α), l[k]? = some x → ∀ j v, (enc x)[j]? = some v → (l.flatMap enc)[k * size + j]? = some v := by
 intro l
 induction l with
 | nil => intro k x h; simp at h
 | cons y l ih =>
  intro k x h j v hj;have hjl : j < size := by rw [← he x]; exact (List.getElem?_eq_some_iff.1 hj).1
  cases k with
  | zero =>
   simp at h;subst h;rw [zaf, List.getElem?_append_left (by rw [he]; omega)]
   simpa using hj
  | succ k =>
   rw [List.getElem?_cons_succ] at h;rw [zaf, List.getElem?_append_right (by rw [he, Nat.add_mul]; omega), he];have := ih k x h j v hj
   rwa [show (k + 1) * size + j - size = k * size + j from by rw [Nat.add_mul]; omega]
theorem zbG {α : Type} {enc : α → List Value} {size : Nat} (he : ∀ x, (enc x).length = size) (l : List α) : (l.flatMap enc).length = l.length * size := by
 induction l with
 | nil => simp
 | cons y l ih => rw [zaf, zC, ih, he, zac, Nat.add_mul]; omega
theorem SlOf.lit {α : Type} {enc : α → List Value} {size : Nat} (he : ∀ x, (enc x).length = size) (w : World) (e : TypeId) (cs : Array Value) (l : List α) (hcs : cs.toList = l.flatMap enc) {B : Nat} (hB : w.heap.size < B) :
  SlOf (w.alloc (.cells cs e)) B size (Flat enc) (some ⟨w.heap.size, 0, none⟩) l :=
 SlOf.of_row (xs := cs.toList) hB (fun j u hu => by rw [(Blk.new w e cs).cell j]; simpa using hu) (fun k x hx => ⟨enc x, he x, rfl, fun j v hj => by rw [hcs]; exact zcd he l k x hx j v hj⟩)
theorem SlOf.of_own {α : Type} {enc : α → List Value} {size : Nat} (he : ∀ x, (enc x).length = size) (hs : 0 < size) {w : World} {base : Nat} {e : TypeId} {A : Option Addr} {n c : Nat} {xs : List Value} (h : w.ownsRow base e size (.slice A n c) n xs) (l : List α) (hx : xs = l.flatMap enc) :
  SlOf w w.heap.size size (Flat enc) A l := by
 intro hl;have hlen := h.1;subst hx;rw [zbG he] at hlen;rcases h.2 with ⟨hv, hn⟩ | ⟨g, cap, cur, hv, hb, hh, r⟩
 ·subst hn;have := Nat.mul_pos hl hs;omega
 ·injection hv with hA _ _
  subst hA;have hg : g < w.heap.size := (Array.getElem?_eq_some_iff.1 hh).1;exact SlOf.of_row hg (fun j u hu => by
   have := h.cells (g := g) rfl j u hu
   rwa [show (⟨g, 0, none⟩ : Addr).add j = ⟨g, j, none⟩ from by unfold Addr.add; split <;> simp_all] at this) (fun k x hx => ⟨enc x, he x, rfl, fun j v hj => zcd he l k x hx j v hj⟩) hl
def Row {α : Type} (w : World) (base : Nat) (e : TypeId) (size : Nat) (enc : α → List Value) (v : Value) (l : List α) : Prop := w.ownsRow base e size v l.length (l.flatMap enc)
section
variable {α : Type} {w w' : World} {base size : Nat} {e : TypeId} {enc : α → List Value} {v : Value} {l : List α}
theorem Row.nil (w : World) (base : Nat) (e : TypeId) (size : Nat) (enc : α → List Value) : Row w base e size enc (.slice none 0 0) [] := World.ownsRow_nil _ _ _ _
theorem Row.alloc (h : Row w base e size enc v l) (o : Obj) : Row (w.alloc o) base e size enc v l := World.ownsRow.alloc h o
theorem Row.drew (h : Row w base e size enc v l) : Row w.drew base e size enc v l := h
theorem Row.keep (h : Row w base e size enc v l) (hb : Below w.heap.size w w') : Row w' base e size enc v l :=
 World.ownsRow.kept h (row := none) ⟨hb.os, hb.tape, hb.output, hb.size, fun k hk _ => hb.block k hk⟩ (by cases v.ownBlock <;> simp)
theorem Row.val (h : Row w base e size enc v l) : ∃ A c, v = .slice A l.length c := by
 rcases h.2 with ⟨hv, hn⟩ | ⟨g, cap, cur, hv, _⟩
 ·exact ⟨none, 0, by rw [hv, hn]⟩
 ·exact ⟨_, cap, hv⟩
theorem Row.read {A : Option Addr} {n c : Nat} (h : Row w base e size enc (.slice A n c) l) (he : ∀ x, (enc x).length = size) (hs : 0 < size) : SlOf w w.heap.size size (Flat enc) A l := by
 obtain ⟨A', c', hv⟩ := h.val;injection hv with h1 h2 h3
 subst h1; subst h2; subst h3;exact SlOf.of_own he hs h l rfl
end
theorem zjC {α : Type} {P : Program} {w : World} {o : Oper} {a : Act} {K : Act → World → Prop} {Q : Exit → Act → World → Prop} (s x : Operand) (t : TypeId)
  (ho : o.op = .call { callee := .builtin .append, args := #[s, x], argTypes := #[t, t] }) (base : Nat) (e : TypeId) (z : Value) (size bytes : Nat) (enc : α → List Value)
  (ht : P.underlying t = some (.slice e)) (hi : (P.info? e).map (fun i => (i.zero, i.size, i.bytes)) = some (some z, size, bytes)) (hzs : z.cells.size = size) (hsz : 0 < size) (he : ∀ x, (enc x).length = size) (h1 : ∀ x, ∀ u ∈ enc x, u.oneCell' = true)
  (v : Value) (l : List α) (y : α) (hs : a.eval s = v) (hown : Row w base e size enc v l) (g : Nat) (hx : a.eval x = .slice (some ⟨g, 0, none⟩) 1 1) (hblk : Blk w g e (enc y).toArray)
  (hn : l.length ≤ 1000000) (hby : bytes ≤ 1000) (hbase : base ≤ w.heap.size)
  (h : ∀ A c w', Row w' base e size enc (.slice A (l.length + 1) c) (l ++ [y]) → Below base w w' → (∀ g' t' cs', t' ≠ e → Blk w g' t' cs' → Blk w' g' t' cs') → K (a.put o.dst (.slice A (l.length + 1) c)) w') : o.wp P a w K Q := by
 obtain ⟨i, hi0, hz, h2, h3⟩ := info_parts hi;have hm : (l.length + 1) * bytes ≤ 1000001 * 1000 := Nat.mul_le_mul (by omega) hby
 refine wp_append_own w s x t ho base e i z size bytes ht hi0 hz h2 h3 hzs hsz v l.length (l.flatMap enc) hs hown ⟨g, 0, none⟩ 1 1 (enc y) hx (by rw [he]; omega) ?_ (h1 y) (by unfold maxLen; omega) (by omega) hbase ?_
 ·intro j u hu;have hadd : (⟨g, 0, none⟩ : Addr).add j = ⟨g, j, none⟩ := by unfold Addr.add; split <;> simp_all
  rw [hadd, hblk.cell]
  simpa using hu
 ·intro v' w' hown' hg _;have hR : Row w' base e size enc v' (l ++ [y]) := by
   unfold Row;rw [zae]
   simpa using hown'
  obtain ⟨A, c, hv⟩ := hR.val;rw [zC, za7] at hv;subst hv;refine h A c w' hR ((Below.refl base w).grown hg hbase (fun k hk => (hown.lt k hk).1)) (fun g' t' cs' hne hb' => hb'.grown hg ?_);intro he';rcases hown.2 with ⟨hv, _⟩ | ⟨g2, cap, cur, hv, _, hh, _⟩
  ·rw [hv] at he'; simp [Value.ownBlock] at he'
  ·rw [hv] at he';simp [Value.ownBlock] at he';subst he';unfold Blk at hb';rw [hh] at hb';injection hb' with hb'
   injection hb' with _ ht'
   exact hne ht'.symm
theorem zO {α : Type} {P : Program} {w : World} {ops : Array Oper} {rest : List Oper} {o : Oper} {a : Act} {Q : Exit → Act → World → Prop} (hgd : o.guard = none) (s x : Operand) (t : TypeId)
  (ho : o.op = .call { callee := .builtin .append, args := #[s, x], argTypes := #[t, t] }) (base : Nat) (e : TypeId) (z : Value) (size bytes : Nat) (enc : α → List Value)
  (ht : P.underlying t = some (.slice e)) (hi : (P.info? e).map (fun i => (i.zero, i.size, i.bytes)) = some (some z, size, bytes)) (hzs : z.cells.size = size) (hsz : 0 < size) (he : ∀ x, (enc x).length = size) (h1 : ∀ x, ∀ u ∈ enc x, u.oneCell' = true)
  (v : Value) (l : List α) (y : α) (hs : a.eval s = v) (hown : Row w base e size enc v l) (g : Nat) (hx : a.eval x = .slice (some ⟨g, 0, none⟩) 1 1) (hblk : Blk w g e (enc y).toArray)
  (hn : l.length ≤ 1000000) (hby : bytes ≤ 1000) (hbase : base ≤ w.heap.size)
  (h : ∀ A c w', Row w' base e size enc (.slice A (l.length + 1) c) (l ++ [y]) → Below base w w' → (∀ g' t' cs', t' ≠ e → Blk w g' t' cs' → Blk w' g' t' cs') → wpList P ops Q rest (a.put o.dst (.slice A (l.length + 1) c)) w') : wpList P ops Q (o :: rest) a w :=
 wpList_plain hgd fun _ hK => zjC s x t ho base e z size bytes enc ht hi hzs hsz he h1 v l y hs hown g hx hblk hn hby hbase fun A c w' h2 h3 h4 => hK _ _ (h A c w' h2 h3 h4)
theorem zf9 {α : Type} {P : Program} {w : World} {ops : Array Oper} {o : Oper} {a : Act} {K : Act → World → Prop} {Q : Exit → Act → World → Prop} {E : Prop} (hgd : o.guard = none) (s x : Operand) (t : TypeId)
  (ho : o.op = .call { callee := .builtin .append, args := #[s, x], argTypes := #[t, t] }) (base : Nat) (e : TypeId) (z : Value) (size bytes : Nat) (enc : α → List Value)
  (ht : P.underlying t = some (.slice e)) (hi : (P.info? e).map (fun i => (i.zero, i.size, i.bytes)) = some (some z, size, bytes)) (hzs : z.cells.size = size) (hsz : 0 < size) (he : ∀ x, (enc x).length = size) (h1 : ∀ x, ∀ u ∈ enc x, u.oneCell' = true)
  (v : Value) (l : List α) (y : α) (hs : a.eval s = v) (hown : Row w base e size enc v l) (g : Nat) (hx : a.eval x = .slice (some ⟨g, 0, none⟩) 1 1) (hblk : Blk w g e (enc y).toArray)
  (hn : l.length ≤ 1000000) (hby : bytes ≤ 1000) (hbase : base ≤ w.heap.size)
  (h : ∀ A c w', Row w' base e size enc (.slice A (l.length + 1) c) (l ++ [y]) → Below base w w' → (∀ g' t' cs', t' ≠ e → Blk w g' t' cs' → Blk w' g' t' cs') → K (a.put o.dst (.slice A (l.length + 1) c)) w') : if Region.wanted o (yielded ops a.tmps) = true then Oper.wp P o a w K Q else E := by
 have hw : Region.wanted o (yielded ops a.tmps) = true := by simp [Region.wanted, hgd]
 rw [if_pos hw];exact zjC s x t ho base e z size bytes enc ht hi hzs hsz he h1 v l y hs hown g hx hblk hn hby hbase h
theorem zbK {P : Program} {fn : Func} {p q : Tmp} {ty : TypeId} (h : fn.results = #[.cell p ty, .tmp q]) {tmps : Array Value} {w : World} {g : Nat} {t : TypeId} {cs : Array Value} {d : TypeDesc}
  (hp : tmps.getD p undef = .pointer (some ⟨g, 0, none⟩)) (hg : Blk w g t cs) (hu : P.underlying ty = some d) (hd : (match d with | .struct _ | .array _ _ => true | _ => false) = true) (hi : (P.info? ty).map (·.size) = some cs.size) :
  (results fn tmps).run P w = .ok (.tuple #[.agg cs, tmps.getD q undef]) w := by
 have hp' : tmps[p]?.getD undef = .pointer (some ⟨g, 0, none⟩) := by simpa using hp
 simp [results, h, hp', asAddr, run_loadVar_row w g t ty cs (0, 0) d hg hu hd hi]
theorem zaU {P : Program} {fn : Func} {p : Tmp} {ty : TypeId} (h : fn.results = #[.cell p ty]) {tmps : Array Value} {w : World} {g : Nat} {t : TypeId} {cs : Array Value} {d : TypeDesc}
  (hp : tmps.getD p undef = .pointer (some ⟨g, 0, none⟩)) (hg : Blk w g t cs) (hu : P.underlying ty = some d) (hd : (match d with | .struct _ | .array _ _ => true | _ => false) = true) (hi : (P.info? ty).map (·.size) = some cs.size) :
  (results fn tmps).run P w = .ok (.agg cs) w := results_cell_row h tmps w g t cs (0, 0) d hp hg hu hd hi
def zaP (x : Int) : List Value := [.int .i64 x]
theorem zbq (x : Int) : (zaP x).length = 1 := rfl
theorem zd4 (x : Int) : ∀ u ∈ zaP x, u.oneCell' = true := by
 intro u hu;simp [zaP] at hu;subst hu
 rfl
abbrev Ints (w : World) (B : Nat) (A : Option Addr) (l : List Int) : Prop := SlOf w B 1 (Flat zaP) A l
theorem Ints.carry {w w' : World} {B B' : Nat} {A : Option Addr} {l : List Int} (h : Ints w B A l) (hb : Below B w w') (hB : B ≤ B') : Ints w' B' A l := SlOf.carry (Flat.carried _) h hb hB
theorem Ints.get {w : World} {B : Nat} {A : Option Addr} {l : List Int} (h : Ints w B A l) {k : Nat} (hk : k < l.length) :
  ∃ b off x, A = some ⟨b, off, none⟩ ∧ b < B ∧ l[k]? = some x ∧ w.cell? ⟨b, off + k, none⟩ = some (.int .i64 x) := by
 obtain ⟨b, off, x, vs, hA, hb, hx, _, hr, hc⟩ := h.at_ hk;have := hc 0 (.int .i64 x) (by rw [show vs = zaP x from hr]; rfl);simp at this;exact ⟨b, off, x, hA, hb, hx, this⟩
abbrev zsw (l : List Int) : Array Value := (l.map (Value.int .i64)).toArray
theorem Ints.of_blk {w : World} {g : Nat} {t : TypeId} {l : List Int} (h : Blk w g t (zsw l)) {B : Nat} (hB : g < B) : Ints w B (some ⟨g, 0, none⟩) l :=
 SlOf.of_row (xs := l.map (Value.int .i64)) hB (fun j u hu => by rw [h.cell]; simpa using hu) (fun k x hx => ⟨zaP x, rfl, rfl, fun j v hj => by
  cases j with
  | zero => simp [zaP] at hj; subst hj; simp [hx]
  | succ j => simp [zaP] at hj⟩)
def zej (c : Int) : Bool := (decide (97 ≤ c) && decide (c ≤ 122)) || (decide (65 ≤ c) && decide (c ≤ 90))
def zhw (c : Int) : Bool := decide (48 ≤ c) && decide (c ≤ 57)
def zia (c : UInt8) : Bool := zej c.toNat || zhw c.toNat || ((c.toNat : Int) == 95)
def zcU (l : List UInt8) : Nat := (l.takeWhile zia).length
def zb8 (s : ByteArray) : Bool :=
 decide (s.size ≠ 0) && decide (s.size ≤ 20) && (match s.data.toList with | c :: _ => zej c.toNat | [] => false) && decide (zcU s.data.toList = s.size)
theorem zpS (s : ByteArray) (k : Nat) (h : k < s.size) : s.data.toList.drop k = s[k] :: s.data.toList.drop (k + 1) := by
 rw [List.drop_eq_getElem_cons (by simpa using h)]; rfl
theorem zeM (c : UInt8) (l : List UInt8) : zcU (c :: l) = if zia c then zcU l + 1 else 0 := by
 unfold zcU; rw [List.takeWhile_cons]; split <;> simp
theorem zjQ (c : Int) (w : World) :
  Calls Tryz.prog 223 #[.int .u8 c] w fun e w' => e = .returned (.bool (zej c)) ∧ w = w' := by
 go_enter Tryz.func223, Tryz.ntmps223;go_wp2
 all_goals
  go_ret;exact ⟨zo (by rw [Bool.eq_iff_iff]; simp [zej]; omega), rfl⟩
theorem zrc (c : Int) (w : World) :
  Calls Tryz.prog 269 #[.int .u8 c] w fun e w' => e = .returned (.bool (zhw c)) ∧ w = w' := by
 go_enter Tryz.func269, Tryz.ntmps269;go_wp2
 all_goals
  go_ret;exact ⟨zo (by rw [Bool.eq_iff_iff]; simp [zhw]; try omega), rfl⟩
theorem zrU (s : ByteArray) (w : World) (hs : s.size ≤ maxLen) :
    Calls Tryz.prog 224 #[.string s] w fun e w' => e = .returned (.int .i64 (zcU s.data.toList)) ∧ w = w' := by
  unfold maxLen at hs;go_enter Tryz.func224, Tryz.ntmps224;go_wp2;go_loop [3] (fun i => ∃ k : Nat, k ≤ s.size ∧ i = .int .i64 k ∧ Hid (k + zcU (s.data.toList.drop k) = zcU s.data.toList)) (fun i => s.size - (intOf i).toNat)
  case atStart => exact ⟨0, zu _, rfl, zf (by simp)⟩
  case round =>
    obtain ⟨k, hk, rfl, hw⟩ := hrel;by_cases hlt : k < s.size
    · have hd := zf (zpS s k hlt)
      go_wp2_with (first | (go_at_call 223; refine (zjQ _ _).mono ?_; rintro e w' ⟨rfl, rfl⟩) | (go_at_call 269; refine (zrc _ _).mono ?_; rintro e w' ⟨rfl, rfl⟩))
      all_goals first
        | (go_ret
           exact ⟨zam (by have h1 := hw.out; rw [hd.out, zeM, if_neg (by simp_all [zia])] at h1; omega), rfl⟩)
        | (go_round
           case rel => exact ⟨k + 1, by omega, by go_num, zf (by have h1 := hw.out; rw [hd.out, zeM, if_pos (by simp_all [zia])] at h1; omega)⟩
           case measure => simp [intOf]; omega)
    · go_wp2
      go_ret;exact ⟨zam (by have h1 := hw.out; rw [List.drop_eq_nil_of_le (by simp; omega)] at h1; simp [zcU] at h1 ⊢; omega), rfl⟩
theorem ziR {s : ByteArray} {c : UInt8} {r : List UInt8} (h : s.data.toList = c :: r) : zb8 s = (decide (s.size ≤ 20) && zej c.toNat && decide (zcU (c :: r) = s.size)) := by
  have h0 : s.size ≠ 0 := by have : s.data.toList.length = s.size := by simp
                             rw [h] at this; simp at this; omega
  simp [zb8, h, h0]
theorem zf3 (s : ByteArray) (w : World) (hs : s.size ≤ maxLen) :
    Calls Tryz.prog 167 #[.string s] w fun e w' => e = .returned (.bool (zb8 s)) ∧ w = w' := by
  by_cases h0 : s.size = 0
  · have hl : s.data.toList = [] := List.eq_nil_of_length_eq_zero (by simpa using h0)
    have hn := zf (show zb8 s = false by simp [zb8, h0]);have he : s.toList = [] := by rw [ByteArray.toList_eq, hl]
    clear hs;go_enter Tryz.func167, Tryz.ntmps167;go_wp2;go_ret;exact ⟨zo (by rw [hn.out]), rfl⟩
  · obtain ⟨c, r, hl⟩ : ∃ c r, s.data.toList = c :: r := by
      cases h : s.data.toList with
      | nil => exfalso; have : s.data.toList.length = s.size := by simp
               rw [h] at this; simp at this; omega
      | cons c r => exact ⟨c, r, rfl⟩
    have hn := zf (ziR hl);have hp : 0 < s.size := by omega
    have hc : s[0]'hp = c := by
      have : s.data.toList[0]? = some c := by rw [hl]; rfl
      have h2 : s.data.toList[0]? = some (s[0]'hp) := zi (by simp; omega);rw [h2] at this; injection this
    have hne : s.toList.isEmpty = false := by rw [ByteArray.toList_eq, hl]; rfl
    have HC := zf hc;have HL := zf hl;clear h0 hc hl;go_enter Tryz.func167, Tryz.ntmps167;go_wp2_with (first | (go_at_call 223; refine (zjQ _ _).mono ?_; rintro e w' ⟨rfl, rfl⟩) | (go_at_call 224; refine (zrU _ _ hs).mono ?_; rintro e w' ⟨rfl, rfl⟩))
    all_goals
      go_ret;refine ⟨zo ?_, rfl⟩;rw [hn.out, ← HL.out, ← HC.out, Bool.eq_iff_iff]
      simp_all <;> omega
end Go.Proofs.YtpaanfjjnjjoeaaGreat
namespace Go.Proofs.YtpaanfjjnjjoeaaGreat
section
variable {α : Type}
def idx (p : α → Bool) (l : List α) : Int := match l.findIdx? p with | some i => (i : Int) | none => -1
def NoneTo (p : α → Bool) (l : List α) (k : Nat) : Prop := ∀ j y, j < k → l[j]? = some y → p y = false
theorem NoneTo.zero (p : α → Bool) (l : List α) : NoneTo p l 0 := fun _ _ h => absurd h (by omega)
theorem NoneTo.succ {p : α → Bool} {l : List α} {k : Nat} {y : α} (h : NoneTo p l k) (hy : l[k]? = some y) (hp : p y = false) : NoneTo p l (k + 1) := by
 intro j z hj hz;rcases Nat.lt_or_ge j k with h1 | h1
 ·exact h j z h1 hz
 ·obtain rfl : j = k := by omega
  rw [hy] at hz; injection hz with hz; rw [← hz]; exact hp
theorem NoneTo.hit {p : α → Bool} {l : List α} {k : Nat} {y : α} (h : NoneTo p l k) (hy : l[k]? = some y) (hp : p y = true) : idx p l = k := by
 have hk : k < l.length := (List.getElem?_eq_some_iff.1 hy).1;have : l.findIdx? p = some k := by
  rw [List.findIdx?_eq_some_iff_getElem];refine ⟨hk, ?_, fun j hj => ?_⟩
  ·rw [zi hk] at hy; injection hy with hy; rw [hy]; exact hp
  ·rw [h j _ hj (zi (by omega))]; simp
 simp [idx, this]
theorem NoneTo.miss {p : α → Bool} {l : List α} (h : NoneTo p l l.length) : idx p l = -1 := by
 have : l.findIdx? p = none := by
  rw [List.findIdx?_eq_none_iff];intro x hx;obtain ⟨j, hj, rfl⟩ := List.getElem_of_mem hx;exact h j _ hj (zi hj)
 simp [idx, this]
theorem zeW (p : α → Bool) (l : List α) : -1 ≤ idx p l ∧ idx p l < l.length := by
 unfold idx
 split
 ·rename_i i h
  have := (List.findIdx?_eq_some_iff_getElem.1 h).1;omega
 ·omega
theorem zfj (p : α → Bool) (l : List α) : decide (0 ≤ idx p l) = l.any p := by
 unfold idx
 split
 ·rename_i i h
  obtain ⟨hi, hp, _⟩ := List.findIdx?_eq_some_iff_getElem.1 h;have : l.any p = true := List.any_eq_true.2 ⟨_, List.getElem_mem hi, hp⟩;rw [this]; simp
 ·rename_i h
  rw [List.findIdx?_eq_none_iff] at h;have : l.any p = false := by rw [List.any_eq_false]; intro x hx; rw [h x hx]; simp
  rw [this]; simp
theorem zgB {p : α → Bool} {l : List α} {k : Nat} (h : idx p l = k) : ∃ y, l[k]? = some y ∧ p y = true ∧ NoneTo p l k := by
 unfold idx at h
 split at h
 ·rename_i i hi
  obtain ⟨hl, hp, hn⟩ := List.findIdx?_eq_some_iff_getElem.1 hi;obtain rfl : i = k := by omega
  refine ⟨_, zi hl, hp, fun j y hj hy => ?_⟩;rw [zi (by omega)] at hy;injection hy with hy
  have := hn j hj;rw [hy] at this
  simpa using this
 ·omega
end
theorem zQ {α : Type} {l : List α} {k : Nat} {y : α} (h : l[k]? = some y) : l.take (k + 1) = l.take k ++ [y] := by
 have hk : k < l.length := (List.getElem?_eq_some_iff.1 h).1;rw [zi hk] at h;injection h with h
 rw [List.take_succ_eq_append_getElem hk, h]
theorem zaX {α : Type} {l : List α} {k : Nat} {y : α} (h : l[k]? = some y) : l.drop k = y :: l.drop (k + 1) := by
 have hk : k < l.length := (List.getElem?_eq_some_iff.1 h).1;rw [zi hk] at h;injection h with h
 rw [List.drop_eq_getElem_cons hk, h]
theorem zaa {α : Type} {l : List α} {k : Nat} {y : α} (h : l[k]? = some y) : k < l.length := (List.getElem?_eq_some_iff.1 h).1
theorem zv {α : Type} {l : List α} {k : Nat} {y : α} (h : l[k]? = some y) : y ∈ l := List.mem_of_getElem? h
theorem zlw (a b : Int) : (if a < b then b else a) = max a b := by rw [Int.max_def]; split <;> split <;> omega
theorem zod (a b : Int) : (if b < a then b else a) = min a b := by rw [Int.min_def]; split <;> split <;> omega
end Go.Proofs.YtpaanfjjnjjoeaaGreat
namespace Go.Proofs.YtpaanfjjnjjoeaaGreat
open Go.RowKit
theorem zqO (A : Option Addr) (l : List Int) (n c : Nat) (x : Int) (w : World) {B : Nat} (h : Ints w B A l) (hn : n = l.length) (hm : n ≤ 60000) :
  Calls Tryz.prog 270 #[.slice A n c, .int .i64 x] w fun e w' => e = .returned (.int .i64 (idx (fun y => x == y) l)) ∧ w = w' := by
 have hn' := zf hn; clear hn;go_enter Tryz.func270, Tryz.ntmps270;go_wp2;go_loop [5, 8] (fun _ i => ∃ k : Nat, k ≤ n ∧ i = .int .i64 k ∧ NoneTo (fun y => x == y) l k) (fun _ i => n - (intOf i).toNat)
 case atStart => exact ⟨0, zu _, rfl, NoneTo.zero _ _⟩
 case round =>
  obtain ⟨k, hk, rfl, hw⟩ := hrel;by_cases hlt : k < n
  ·obtain ⟨b, off, y, rfl, hb, hy, hc⟩ := h.get (k := k) (by rw [← hn'.out]; exact hlt);have Hy := zf hy;clear hy hb h;go_wp2_with fail
   ·go_ret;exact ⟨zam (hw.hit Hy.out (by assumption)).symm, rfl⟩
   ·go_round
    case rel => exact ⟨k + 1, by omega, by go_num, hw.succ Hy.out (by assumption)⟩
    case measure => simp [intOf]; omega
  ·obtain rfl : k = n := by omega
   go_wp2;go_ret;exact ⟨zam (NoneTo.miss (by rw [← hn'.out]; exact hw)).symm, rfl⟩
def zb3 : List Int := [6, 8, 10, 12, 16, 20, 25, 32, 40]
def has (x : Int) (l : List Int) : Bool := l.contains x
def za1 (d : Int) : Bool := has d zb3
theorem zmq (A : Option Addr) (l : List Int) (n c : Nat) (x : Int) (w : World) {B : Nat} (h : Ints w B A l) (hn : n = l.length) (hm : n ≤ 60000) :
  Calls Tryz.prog 225 #[.slice A n c, .int .i64 x] w fun e w' => e = .returned (.bool (has x l)) ∧ w = w' := by
 have hn' := zf hn; clear hn;go_enter Tryz.func225, Tryz.ntmps225;go_wp2_with (go_at_call 270; refine (zqO A l n c x _ h hn'.out hm).mono ?_; rintro e w' ⟨rfl, rfl⟩);go_ret;refine ⟨zo ?_, rfl⟩;rw [zfj, has, Bool.eq_iff_iff];simp
theorem zqc (w : World) :
  Calls Tryz.prog 226 #[] w fun e w' => ∃ A, e = .returned (.slice A 9 9) ∧ Ints w' w'.heap.size A zb3 ∧ Below w.heap.size w w' := by
 go_enter Tryz.func226, Tryz.ntmps226;go_wp2;go_ret;exact ⟨_, rfl, SlOf.lit zbq _ _ _ _ rfl (by simp), (Below.refl _ _).alloc (ze _) _⟩
theorem zhx (d : Int) (w : World) :
  Calls Tryz.prog 168 #[.int .i64 d] w fun e w' => e = .returned (.bool (za1 d)) ∧ Below w.heap.size w w' := by
 go_enter Tryz.func168, Tryz.ntmps168;go_wp2_with (first | (go_at_call 226; refine (zqc _).mono ?_; rintro e w1 ⟨A, rfl, hi, hb⟩) | (go_at_call 225; refine (zmq A zb3 9 9 d _ hi rfl (by omega)).mono ?_; rintro e w2 ⟨rfl, rfl⟩));go_ret;exact ⟨rfl, hb⟩
theorem zhj {d : Int} (h : za1 d = true) : d ∈ zb3 := by simpa [za1, has] using h
theorem zbN {d : Int} (h : za1 d = true) : 6 ≤ d ∧ d ≤ 40 := by
 have := zhj h;simp [zb3] at this;omega
end Go.Proofs.YtpaanfjjnjjoeaaGreat
namespace Go.Proofs.YtpaanfjjnjjoeaaGreat
open Go.RowKit Go.Maps
theorem zhC : Keyed Tryz.prog 3 := int_keyed Tryz.underlying3
theorem zrT (w : World) : (zeroValue 4).run Tryz.prog w = .ok (.bool false) w := by kernel_rfl
def InInt (x : Int) : Prop := -9223372036854775808 ≤ x ∧ x ≤ 9223372036854775807
theorem InInt.wf {x : Int} (h : InInt x) : (Lit.int .i64 x).wf = true := WalkArith.wf_i64 h
def BSet (w : World) (b n : Nat) (seen : List Int) : Prop :=
 ∃ D : DataW Unit, IsMap D ∧ w.ownsMap Tryz.prog 3 (plainElem Tryz.prog 4) b n D ∧ ∀ x : Int, InInt x → D.atKey (.int .i64 x) (.lit (.bool false)) = .lit (.bool (seen.contains x))
section
variable {w w' : World} {b n : Nat} {seen : List Int}
theorem BSet.new (w : World) : BSet (w.alloc (.map #[] 0)) w.heap.size 0 [] :=
 ⟨.map [], ⟨[], rfl⟩, World.ownsMap_made _ _ _ _, fun _ _ => rfl⟩
theorem BSet.lt (h : BSet w b n seen) : b < w.heap.size := by obtain ⟨D, _, ho, _⟩ := h; exact ho.lt
theorem BSet.keep (h : BSet w b n seen) (hb : Below w.heap.size w w') : BSet w' b n seen := by
 obtain ⟨D, hm, ho, ha⟩ := h;exact ⟨D, hm, ho.kept (row := none) ⟨hb.os, hb.tape, hb.output, hb.size, fun k hk _ => hb.block k hk⟩ (by simp), ha⟩
theorem BSet.alloc (h : BSet w b n seen) (o : Obj) : BSet (w.alloc o) b n seen := h.keep (zk w o)
theorem zhs {v : Value} {z : DataW Unit × List MemPlace} (h : plainElem Tryz.prog 4 v = some z) : ∃ x, v = .bool x ∧ z = (.lit (.bool x), []) := by
 unfold plainElem at h;rw [Tryz.underlying4] at h;cases v <;> simp at h
 exact ⟨_, rfl, h.symm⟩
theorem BSet.look (h : BSet w b n seen) {x : Int} (hx : InInt x) : (Instr.lookup 179 (.map (some b)) (.int .i64 x) false).run Tryz.prog w = .ok (.bool (seen.contains x)) w := by
 obtain ⟨D, _, ho, ha⟩ := h;obtain ⟨v, ps, hrun, hv⟩ := ho.lookup zhC Tryz.underlying179 (zrT w) (plainElem_bool Tryz.underlying4 false) (keyOf_int_mk Tryz.underlying3 hx.wf);obtain ⟨y, rfl, hz⟩ := zhs hv;rw [ha x hx] at hz;simp only [Prod.mk.injEq, DataW.lit.injEq, Lit.bool.injEq] at hz;rw [hrun, hz.1]
theorem BSet.store (h : BSet w b n seen) {x : Int} (hx : InInt x) (hn : n ≤ 1000000) :
  ∃ w', (Instr.mapUpdate 179 (.map (some b)) (.int .i64 x) (.bool true)).run Tryz.prog w = .ok () w' ∧ BSet w' b (n + 1) (x :: seen) ∧ w.grownBy w' (some b) := by
 obtain ⟨D, hm, ho, ha⟩ := h;obtain ⟨w', hrun, ho', hg⟩ := ho.update zhC Tryz.underlying179 (by unfold maxLen; omega) (keyOf_int_mk Tryz.underlying3 hx.wf) (plainElem_bool Tryz.underlying4 true);refine ⟨w', hrun, ⟨D.put (.int .i64 x) (.lit (.bool true)), ?_, ho', fun y hy => ?_⟩, hg⟩
 ·obtain ⟨es, rfl⟩ := hm;exact ⟨_, rfl⟩
 ·by_cases hxy : y = x
  ·subst hxy;rw [atKey_put_same hm (by trivial)];simp
  ·rw [atKey_put_other (by intro he; injection he with _ he; exact hxy he), ha y hy]
   simp [hxy]
end
theorem zch {B b : Nat} {w0 w w' : World} (h : Below B w0 w) (hg : w.grownBy w' (some b)) (hB : B ≤ w.heap.size) (hb : B ≤ b) : Below B w0 w' := h.grown hg hB (fun k hk => by cases hk; exact hb)
theorem BSet.grown {w w' : World} {b n g : Nat} {seen : List Int} (h : BSet w b n seen) (hg : w.grownBy w' (some g)) (hb : b ≠ g) : BSet w' b n seen := by
 obtain ⟨D, hm, ho, ha⟩ := h;exact ⟨D, hm, ho.kept hg (by simpa using hb), ha⟩
theorem BSet.drew {w : World} {b n : Nat} {seen : List Int} (h : BSet w b n seen) : BSet w.drew b n seen := h.keep (Below.drew (Below.refl _ _))
end Go.Proofs.YtpaanfjjnjjoeaaGreat
namespace Go.Proofs.YtpaanfjjnjjoeaaGreat
open Go.RowKit Go.Sort
/-! Ascending, each once: what slices.Sort and slices.Compact leave. -/
theorem zn2 {zs : List Int} (h : zs.Pairwise (· ≤ ·)) : ∀ m, m ≤ zs.length → (Lib.compactUpTo zs.toArray m).Pairwise (· < ·) ∧ ∀ x, x ∈ Lib.compactUpTo zs.toArray m ↔ x ∈ zs.take m := by
 have hle : ∀ i j (hi : i < zs.length) (hj : j < zs.length), i ≤ j → zs[i] ≤ zs[j] := by
  intro i j hi hj hij;rcases Nat.lt_or_ge i j with h9 | h9
  ·exact List.pairwise_iff_getElem.1 h i j hi hj h9
  ·have : i = j := by omega
   subst this;omega
 have hget : ∀ i (hi : i < zs.length), (zs.toArray)[i]! = zs[i] := by
  intro i hi;rw [getElem!_pos _ i (by simpa using hi)];simp
 intro m
 induction m with
 | zero => intro _; simp [Lib.compactUpTo]
 | succ m ih =>
  intro hm;obtain ⟨ha, hb⟩ := ih (by omega);have hml : m < zs.length := by omega
  rw [Lib.compactUpTo_succ, List.take_succ_eq_append_getElem hml];by_cases hk : Lib.keeps zs.toArray m = true
  ·rw [if_pos hk, hget m hml];refine ⟨?_, fun x => by simp only [zcQ, zP]; rw [hb]⟩;rw [List.pairwise_append];refine ⟨ha, by simp, fun x hx y hy => ?_⟩;simp only [zP] at hy;subst hy;obtain ⟨j, hj, rfl⟩ := List.getElem_of_mem ((hb x).1 hx);rw [zG] at hj;rw [List.getElem_take];simp only [Lib.keeps, zzJ] at hk;rcases hk with hk | hk
   ·omega
   ·rw [hget m hml, hget (m - 1) (by omega)] at hk;have h1 := hle j (m - 1) (by omega) (by omega) (by omega);have h2 := hle (m - 1) m (by omega) hml (by omega);omega
  ·rw [if_neg hk, zbj];refine ⟨ha, fun x => ?_⟩;rw [hb];simp only [Lib.keeps, zzJ, not_or, Decidable.not_not] at hk;obtain ⟨hk0, hk1⟩ := hk;rw [hget m hml, hget (m - 1) (by omega)] at hk1;simp only [zcQ, zP];refine ⟨fun h => .inl h, fun h => ?_⟩;rcases h with h | h
   ·exact h
   ·rw [h, hk1];rw [List.mem_iff_getElem];exact ⟨m - 1, by rw [zG]; omega, by rw [List.getElem_take]⟩
theorem zdS (l : List Int) : (Lib.compact (l.mergeSort fun x y => decide (x ≤ y))).Pairwise (· < ·) ∧ ∀ x, x ∈ Lib.compact (l.mergeSort fun x y => decide (x ≤ y)) ↔ x ∈ l := by
 have hs : (l.mergeSort fun x y => decide (x ≤ y)).Pairwise (· ≤ ·) := by
  have h := List.pairwise_mergeSort (le := fun (x y : Int) => decide (x ≤ y)) (fun a b c h1 h2 => by simp at *; omega) (fun a b => by simp; omega) l;exact h.imp (fun h => by simpa using h)
 obtain ⟨h1, h2⟩ := zn2 hs _ (ze _);refine ⟨h1, fun x => ?_⟩;have := h2 x;rw [zF] at this;unfold Lib.compact;rw [this];exact List.mem_mergeSort
end Go.Proofs.YtpaanfjjnjjoeaaGreat
namespace Go.Proofs.YtpaanfjjnjjoeaaGreat
open Go.RowKit
def zbU : Prop := ∀ (A : Option Addr) (l : List Int) (n c base : Nat) (w : World), Row w base 3 1 zaP (.slice A n c) l → l.length ≤ 300000 →
 Calls Tryz.prog 199 #[.slice A n c] w fun e w' => e = .returned (.tuple #[]) ∧ Row w' base 3 1 zaP (.slice A n c) (l.mergeSort fun x y => decide (x ≤ y)) ∧ Below base w w'
def zbV : Prop := ∀ (A : Option Addr) (l : List Int) (n c base : Nat) (w : World), Row w base 3 1 zaP (.slice A n c) l → l.length ≤ 300000 →
 Calls Tryz.prog 200 #[.slice A n c] w fun e w' => ∃ A', e = .returned (.slice A' (Lib.compact l).length c) ∧ Row w' base 3 1 zaP (.slice A' (Lib.compact l).length c) (Lib.compact l) ∧ Below base w w'
def zeE (v : Value) (g : Nat) : Prop := v.ownBlock ≠ some g
theorem zcS {α : Type} {w : World} {base size : Nat} {e : TypeId} {enc : α → List Value} {v : Value} {l : List α} (h : Row w base e size enc v l) {g : Nat} (hg : w.heap.size ≤ g) : zeE v g := by
 intro he;rcases h.2 with ⟨hv, _⟩ | ⟨g2, cap, cur, hv, _, hh, _⟩
 ·rw [hv] at he; simp [Value.ownBlock] at he
 ·rw [hv] at he;simp [Value.ownBlock] at he;subst he;have := (Array.getElem?_eq_some_iff.1 hh).1;omega
theorem zm5 {α : Type} {P : Program} {w : World} {ops : Array Oper} {rest : List Oper} {o : Oper} {a : Act} {Q : Exit → Act → World → Prop} (hgd : o.guard = none) (s x : Operand) (t : TypeId)
  (ho : o.op = .call { callee := .builtin .append, args := #[s, x], argTypes := #[t, t] }) (base : Nat) (e : TypeId) (z : Value) (size bytes : Nat) (enc : α → List Value)
  (ht : P.underlying t = some (.slice e)) (hi : (P.info? e).map (fun i => (i.zero, i.size, i.bytes)) = some (some z, size, bytes)) (hzs : z.cells.size = size) (hsz : 0 < size) (he : ∀ x, (enc x).length = size) (h1 : ∀ x, ∀ u ∈ enc x, u.oneCell' = true)
  (v : Value) (l : List α) (y : α) (hs : a.eval s = v) (hown : Row w base e size enc v l) (g : Nat) (hx : a.eval x = .slice (some ⟨g, 0, none⟩) 1 1) (hblk : Blk w g e (enc y).toArray)
  (hn : l.length ≤ 1000000) (hby : bytes ≤ 1000) (hbase : base ≤ w.heap.size)
  (h : ∀ A c w', Row w' base e size enc (.slice A (l.length + 1) c) (l ++ [y]) → Below base w w' → (∀ g' t' cs', zeE v g' → Blk w g' t' cs' → Blk w' g' t' cs') → (∀ g', g' < w.heap.size → zeE v g' → zeE (.slice A (l.length + 1) c) g') → wpList P ops Q rest (a.put o.dst (.slice A (l.length + 1) c)) w') : wpList P ops Q (o :: rest) a w := by
 obtain ⟨i, hi0, hz, h2, h3⟩ := info_parts hi;have hm : (l.length + 1) * bytes ≤ 1000001 * 1000 := Nat.mul_le_mul (by omega) hby
 refine wpList_append_own_at w hgd s x t ho base e i z size bytes ht hi0 hz h2 h3 hzs hsz v l.length (l.flatMap enc) hs hown ⟨g, 0, none⟩ 1 1 (enc y) hx (by rw [he]; omega) ?_ (h1 y) (by unfold maxLen; omega) (by omega) hbase ?_
 ·intro j u hu;have hadd : (⟨g, 0, none⟩ : Addr).add j = ⟨g, j, none⟩ := by unfold Addr.add; split <;> simp_all
  rw [hadd, hblk.cell]
  simpa using hu
 ·intro v' w' hown' hg _ hat;have hR : Row w' base e size enc v' (l ++ [y]) := by
   unfold Row;rw [zae]
   simpa using hown'
  obtain ⟨A, c, hv⟩ := hR.val;rw [zC, za7] at hv;subst hv;refine h A c w' hR ((Below.refl base w).grown hg hbase (fun k hk => (hown.lt k hk).1)) (fun g' t' cs' hne hb' => hb'.grown hg (fun he' => hne he'.symm)) (fun g' hlt hne he' => ?_);rcases hat with h9 | h9
  ·exact hne (h9.symm.trans he')
  ·have := h9.symm.trans he';injection this with this
   omega
theorem zn5 {P : Program} {w : World} (t ty e : TypeId) (i : TypeInfo) (ht : P.underlying t = some (.slice e)) (hi : P.info? e = some i) (bs : Option Addr) (n cc : Nat) (a : Addr) (c : Nat) (hnc : n ≤ cc) :
  (Builtin.append_ #[t, t] ty #[.slice bs n cc, .slice none 0 c]).run P w = (Builtin.append_ #[t, t] ty #[.slice bs n cc, .slice (some a) 0 c]).run P w := by
 simp [Builtin.append_, run_underlying ht, sizeOf, typeInfo, hi, Builtin.lenOf, Builtin.firstCells, loadCells, loadCellsFrom, hnc]
def zgz (a : Act) (o : Oper) : Option Value :=
 match o.op with
 | .move x => some (a.eval x)
 | .assign x => some (a.eval x)
 | .pick c x y => match a.eval c with
  | .bool b => some (if b then a.eval x else a.eval y)
  | _ => none
 | _ => none
theorem zmJ {P : Program} {o : Oper} {a : Act} {w : World} {v : Value} {K : Act → World → Prop} {Q : Exit → Act → World → Prop} (h : zgz a o = some v) (hk : K (a.put o.dst v) w) : o.wp P a w K Q := by
 obtain ⟨dst, op, ty, pos, after, guard⟩ := o;unfold zgz at h
 split at h
 ·rename_i x hop
  injection h with h
  subst h;simp only at hop;subst hop;exact hk
 ·rename_i x hop
  injection h with h
  subst h;simp only at hop;subst hop;exact hk
 ·rename_i c x y hop
  simp only at hop;subst hop;cases hc : a.eval c with
  | bool b =>
   rw [hc] at h;injection h with h
   subst h;simp only [Oper.wp, execOp, hc, Sem.run_bind, asBool, Sem.run_pure, Result.andThen_ok, Oper.upon];exact hk
  | _ => rw [hc] at h; cases h
 ·cases h
end Go.Proofs.YtpaanfjjnjjoeaaGreat
