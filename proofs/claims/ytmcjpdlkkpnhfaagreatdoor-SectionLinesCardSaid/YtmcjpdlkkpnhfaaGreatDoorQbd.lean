/- A drawing in memory: rows of bytes, each in a block of its own. No walk stands here. 'append(out, l...)' onto an own row, l a row of known cells; rows of bytes, and their text. Whether a point is in the concrete of a solid: the program's Inside. Whether a point is in the concrete of a solid: the program's Covers, Contains, Inside, at a point. -/
import Derived.Test.YtmcjpdlkkpnhfaaGreatDoorQax
import Derived.Laws.IdiomStrings
import Derived.Test.YtmcjpdlkkpnhfaaGreatDoorQah
import Derived.LoopN
namespace Go.Proofs.YtmcjpdlkkpnhfaaGreatDoor
open Go.RowKit

def byteV (b : UInt8) : Value := .int .u8 (b.toNat : Int)
/-- The header's block g, and the first rows of the drawing. -/
def GridAt (w : World) (base g rows cols done : Nat) (G : Nat → Nat → UInt8) : Prop :=
  ∃ (hdr : Array Value) (ad : Nat → Nat), Blk w g 67 hdr ∧ hdr.size = rows ∧
    (∀ k, k < done → hdr[k]? = some (.slice (some ⟨ad k, 0, none⟩) cols cols) ∧ base ≤ ad k ∧ ∃ cs : Array Value, Blk w (ad k) 5 cs ∧ ∀ c, c < cols → cs[c]? = some (byteV (G k c))) ∧
    (∀ i j, i < done → j < done → ad i = ad j → i = j)
section
variable {w w' : World} {base g rows cols done : Nat} {G G' : Nat → Nat → UInt8}
theorem GridAt.start {hdr : Array Value} (h : Blk w g 67 hdr) (hs : hdr.size = rows) : GridAt w base g rows cols 0 G :=
  ⟨hdr, fun _ => 0, h, hs, fun k hk => absurd hk (by omega), fun i j hi => absurd hi (by omega)⟩
theorem GridAt.keep (h : GridAt w base g rows cols done G) (hb : Below w.heap.size w w') : GridAt w' base g rows cols done G := by
  obtain ⟨hdr, ad, h1, h2, h3, h4⟩ := h
  refine ⟨hdr, ad, h1.keep hb, h2, fun k hk => ?_, h4⟩
  obtain ⟨a, b, cs, c, d⟩ := h3 k hk
  exact ⟨a, b, cs, c.keep hb, d⟩
theorem GridAt.congr (h : GridAt w base g rows cols done G) (hg : ∀ k c, k < done → c < cols → G k c = G' k c) : GridAt w base g rows cols done G' := by
  obtain ⟨hdr, ad, h1, h2, h3, h4⟩ := h
  refine ⟨hdr, ad, h1, h2, fun k hk => ?_, h4⟩
  obtain ⟨a, b, cs, c, d⟩ := h3 k hk
  exact ⟨a, b, cs, c, fun q hq => by rw [← hg k q hk hq]; exact d q hq⟩
theorem GridAt.head (h : GridAt w base g rows cols done G) : g < w.heap.size := by
  obtain ⟨hdr, ad, h1, _⟩ := h
  exact h1.lt
/-- A row: its slice, its block, its cells. -/
theorem GridAt.row (h : GridAt w base g rows cols done G) {k : Nat} (hk : k < done) :
    ∃ a, w.cell? ⟨g, k, none⟩ = some (.slice (some ⟨a, 0, none⟩) cols cols) ∧ base ≤ a ∧ a < w.heap.size ∧ ∃ cs : Array Value, Blk w a 5 cs ∧ ∀ c, c < cols → cs[c]? = some (byteV (G k c)) := by
  obtain ⟨hdr, ad, h1, _, h3, _⟩ := h
  obtain ⟨a, b, cs, c, d⟩ := h3 k hk
  exact ⟨ad k, by rw [h1.cell]; exact a, b, c.lt, cs, c, d⟩
theorem blk_type {w : World} {g : Nat} {t t' : TypeId} {cs cs' : Array Value} (h : Blk w g t cs) (h' : Blk w g t' cs') : t = t' := by
  unfold Blk at h h'
  rw [h] at h'
  injection h' with h'
  injection h'
/-- One more row, in a block that has just been made. -/
theorem GridAt.more (h : GridAt w base g rows cols done G) (hb : Below w.heap.size w w') {b : Nat} {cs : Array Value} (hbb : w.heap.size ≤ b) (hbase : base ≤ w.heap.size) (hbk : Blk w' b 5 cs) (hd : done < rows) {r : Nat → UInt8} (hc : ∀ c, c < cols → cs[c]? = some (byteV (r c))) :
    GridAt (w'.setCell ⟨g, done, none⟩ (.slice (some ⟨b, 0, none⟩) cols cols)) base g rows cols (done + 1) (fun k c => if k = done then r c else G k c) := by
  obtain ⟨hdr, ad, h1, h2, h3, h4⟩ := h
  have hgw := h1.lt
  have hne : ∀ k, k < done → ad k ≠ g := fun k hk he => by
    obtain ⟨_, _, cs, c, _⟩ := h3 k hk
    rw [he] at c
    exact absurd (blk_type c h1) (by decide)
  refine ⟨hdr.setIfInBounds done (.slice (some ⟨b, 0, none⟩) cols cols), fun k => if k = done then b else ad k, (h1.keep hb).set_ _ _, by simpa using h2, fun k hk => ?_, fun i j hi hj he => ?_⟩
  · by_cases hkd : k = done
    · subst hkd
      dsimp only
      rw [if_pos rfl]
      refine ⟨by rw [Array.getElem?_setIfInBounds_self, if_pos (by omega)], by omega, cs, hbk.far (p := ⟨g, k, none⟩) (by simp; omega) _, fun c hc' => ?_⟩
      rw [if_pos rfl]
      exact hc c hc'
    · dsimp only
      rw [if_neg hkd]
      obtain ⟨a, b', cs', c, d⟩ := h3 k (by omega)
      refine ⟨by rw [Array.getElem?_setIfInBounds_ne (Ne.symm hkd)]; exact a, b', cs', (c.keep hb).far (p := ⟨g, done, none⟩) (hne k (by omega)) _, fun q hq => ?_⟩
      rw [if_neg hkd]
      exact d q hq
  · by_cases h5 : i = done
    · by_cases h6 : j = done
      · omega
      · simp only [h5, if_pos, if_neg h6] at he
        obtain ⟨_, _, _, c, _⟩ := h3 j (by omega)
        have := c.lt
        omega
    · by_cases h6 : j = done
      · simp only [h6, if_pos, if_neg h5] at he
        obtain ⟨_, _, _, c, _⟩ := h3 i (by omega)
        have := c.lt
        omega
      · simp only [if_neg h5, if_neg h6] at he
        exact h4 i j (by omega) (by omega) he
/-- Another sign in a cell. -/
theorem GridAt.put (h : GridAt w base g rows cols done G) {k c a : Nat} (hk : k < done) (hc : c < cols) (ha : w.cell? ⟨g, k, none⟩ = some (.slice (some ⟨a, 0, none⟩) cols cols)) (b : UInt8) :
    GridAt (w.setCell ⟨a, c, none⟩ (byteV b)) base g rows cols done (setG k c b G) := by
  obtain ⟨hdr, ad, h1, h2, h3, h4⟩ := h
  have hak : a = ad k := by
    obtain ⟨h5, _⟩ := h3 k hk
    rw [h1.cell, h5] at ha
    injection ha with ha
    injection ha with ha
    injection ha with ha
    injection ha with ha
    exact ha.symm
  subst hak
  have hg : g ≠ ad k := fun he => by
    obtain ⟨_, _, cs, c, _⟩ := h3 k hk
    rw [← he] at c
    exact absurd (blk_type c h1) (by decide)
  refine ⟨hdr, ad, h1.far (p := ⟨ad k, c, none⟩) hg _, h2, fun q hq => ?_, h4⟩
  obtain ⟨e1, e2, cs, e3, e4⟩ := h3 q hq
  by_cases hqk : q = k
  · subst hqk
    refine ⟨e1, e2, cs.setIfInBounds c (byteV b), e3.set_ _ _, fun d hd => ?_⟩
    have hsz : c < cs.size := by
      have := e4 c hc
      rcases Nat.lt_or_ge c cs.size with h9 | h9
      · exact h9
      · rw [Array.getElem?_eq_none h9] at this; cases this
    unfold setG
    by_cases hdc : d = c
    · subst hdc
      rw [Array.getElem?_setIfInBounds_self, if_pos hsz, if_pos ⟨rfl, rfl⟩]
    · rw [Array.getElem?_setIfInBounds_ne (Ne.symm hdc), if_neg (fun h9 => hdc h9.2)]
      exact e4 d hd
  · refine ⟨e1, e2, cs, e3.far (p := ⟨ad k, c, none⟩) (fun he => hqk (h4 q k hq hk he)) _, fun d hd => ?_⟩
    unfold setG
    rw [if_neg (fun h9 => hqk h9.1)]
    exact e4 d hd
end
end Go.Proofs.YtmcjpdlkkpnhfaaGreatDoor
namespace Go.Proofs.YtmcjpdlkkpnhfaaGreatDoor
open Go.RowKit

theorem wp_appendL {α : Type} {P : Program} {w : World} {o : Oper} {a : Act} {K : Act → World → Prop} {Q : Exit → Act → World → Prop} (s x : Operand) (t : TypeId)
    (ho : o.op = .call { callee := .builtin .append, args := #[s, x], argTypes := #[t, t] }) (base : Nat) (e : TypeId) (z : Value) (size bytes : Nat) (enc : α → List Value)
    (ht : P.underlying t = some (.slice e)) (hi : (P.info? e).map (fun i => (i.zero, i.size, i.bytes)) = some (some z, size, bytes)) (hzs : z.cells.size = size) (hsz : 0 < size) (he : ∀ x, (enc x).length = size) (h1 : ∀ x, ∀ u ∈ enc x, u.oneCell' = true)
    (v : Value) (l ys : List α) (hs : a.eval s = v) (hown : Row w base e size enc v l) (g m c : Nat) (hx : a.eval x = .slice (some ⟨g, 0, none⟩) m c) (hm : m = ys.length) (hcs : ∀ j u, (ys.flatMap enc)[j]? = some u → w.cell? ⟨g, j, none⟩ = some u)
    (hn : l.length ≤ 1000000) (hy : ys.length ≤ 1000000) (hby : bytes ≤ 1000) (hbase : base ≤ w.heap.size)
    (h : ∀ A c w', Row w' base e size enc (.slice A (l.length + m) c) (l ++ ys) → Below base w w' → (∀ g' t' cs', t' ≠ e → Blk w g' t' cs' → Blk w' g' t' cs') → K (a.put o.dst (.slice A (l.length + m) c)) w') : o.wp P a w K Q := by
  obtain ⟨i, hi0, hz, h2, h3⟩ := info_parts hi
  have hmm : (l.length + m) * bytes ≤ 2000000 * 1000 := Nat.mul_le_mul (by omega) hby
  refine wp_append_own w s x t ho base e i z size bytes ht hi0 hz h2 h3 hzs hsz v l.length (l.flatMap enc) hs hown ⟨g, 0, none⟩ m c (ys.flatMap enc) hx (by rw [flatMap_len he, hm]) ?_ ?_ (by unfold maxLen; omega) (by omega) hbase ?_
  · intro j u hu
    have hadd : (⟨g, 0, none⟩ : Addr).add j = ⟨g, j, none⟩ := by unfold Addr.add; split <;> simp_all
    rw [hadd]
    exact hcs j u hu
  · intro u hu
    obtain ⟨y, _, hy⟩ := List.mem_flatMap.1 hu
    exact h1 y u hy
  · intro v' w' hown' hg _
    have hR : Row w' base e size enc v' (l ++ ys) := by
      unfold Row
      rw [List.flatMap_append, List.length_append, ← hm]
      exact hown'
    obtain ⟨A, c, hv⟩ := hR.val
    rw [List.length_append, ← hm] at hv
    subst hv
    refine h A c w' hR ((Below.refl base w).grown hg hbase (fun k hk => (hown.lt k hk).1)) (fun g' t' cs' hne hb' => hb'.grown hg ?_)
    intro he'
    rcases hown.2 with ⟨hv, _⟩ | ⟨g2, cap, cur, hv, _, hh, _⟩
    · rw [hv] at he'; simp [Value.ownBlock] at he'
    · rw [hv] at he'
      simp [Value.ownBlock] at he'
      subst he'
      unfold Blk at hb'
      rw [hh] at hb'
      injection hb' with hb'
      injection hb' with _ ht'
      exact hne ht'.symm
theorem wpList_appendL {α : Type} {P : Program} {w : World} {ops : Array Oper} {rest : List Oper} {o : Oper} {a : Act} {Q : Exit → Act → World → Prop} (hgd : o.guard = none) (s x : Operand) (t : TypeId)
    (ho : o.op = .call { callee := .builtin .append, args := #[s, x], argTypes := #[t, t] }) (base : Nat) (e : TypeId) (z : Value) (size bytes : Nat) (enc : α → List Value)
    (ht : P.underlying t = some (.slice e)) (hi : (P.info? e).map (fun i => (i.zero, i.size, i.bytes)) = some (some z, size, bytes)) (hzs : z.cells.size = size) (hsz : 0 < size) (he : ∀ x, (enc x).length = size) (h1 : ∀ x, ∀ u ∈ enc x, u.oneCell' = true)
    (v : Value) (l ys : List α) (hs : a.eval s = v) (hown : Row w base e size enc v l) (g m c : Nat) (hx : a.eval x = .slice (some ⟨g, 0, none⟩) m c) (hm : m = ys.length) (hcs : ∀ j u, (ys.flatMap enc)[j]? = some u → w.cell? ⟨g, j, none⟩ = some u)
    (hn : l.length ≤ 1000000) (hy : ys.length ≤ 1000000) (hby : bytes ≤ 1000) (hbase : base ≤ w.heap.size)
    (h : ∀ A c w', Row w' base e size enc (.slice A (l.length + m) c) (l ++ ys) → Below base w w' → (∀ g' t' cs', t' ≠ e → Blk w g' t' cs' → Blk w' g' t' cs') → wpList P ops Q rest (a.put o.dst (.slice A (l.length + m) c)) w') : wpList P ops Q (o :: rest) a w :=
  wpList_plain hgd fun _ hK => wp_appendL s x t ho base e z size bytes enc ht hi hzs hsz he h1 v l ys hs hown g m c hx hm hcs hn hy hby hbase fun A c w' h2 h3 h4 => hK _ _ (h A c w' h2 h3 h4)
theorem step_appendL {α : Type} {P : Program} {w : World} {ops : Array Oper} {o : Oper} {a : Act} {K : Act → World → Prop} {Q : Exit → Act → World → Prop} {E : Prop} (hgd : o.guard = none) (s x : Operand) (t : TypeId)
    (ho : o.op = .call { callee := .builtin .append, args := #[s, x], argTypes := #[t, t] }) (base : Nat) (e : TypeId) (z : Value) (size bytes : Nat) (enc : α → List Value)
    (ht : P.underlying t = some (.slice e)) (hi : (P.info? e).map (fun i => (i.zero, i.size, i.bytes)) = some (some z, size, bytes)) (hzs : z.cells.size = size) (hsz : 0 < size) (he : ∀ x, (enc x).length = size) (h1 : ∀ x, ∀ u ∈ enc x, u.oneCell' = true)
    (v : Value) (l ys : List α) (hs : a.eval s = v) (hown : Row w base e size enc v l) (g m c : Nat) (hx : a.eval x = .slice (some ⟨g, 0, none⟩) m c) (hm : m = ys.length) (hcs : ∀ j u, (ys.flatMap enc)[j]? = some u → w.cell? ⟨g, j, none⟩ = some u)
    (hn : l.length ≤ 1000000) (hy : ys.length ≤ 1000000) (hby : bytes ≤ 1000) (hbase : base ≤ w.heap.size)
    (h : ∀ A c w', Row w' base e size enc (.slice A (l.length + m) c) (l ++ ys) → Below base w w' → (∀ g' t' cs', t' ≠ e → Blk w g' t' cs' → Blk w' g' t' cs') → K (a.put o.dst (.slice A (l.length + m) c)) w') : if Region.wanted o (yielded ops a.tmps) = true then Oper.wp P o a w K Q else E := by
  have hw : Region.wanted o (yielded ops a.tmps) = true := by simp [Region.wanted, hgd]
  rw [if_pos hw]
  exact wp_appendL s x t ho base e z size bytes enc ht hi hzs hsz he h1 v l ys hs hown g m c hx hm hcs hn hy hby hbase h
/-- Bytes, as elements. -/
def encU8 (b : UInt8) : List Value := [byteV b]
theorem encU8_len (b : UInt8) : (encU8 b).length = 1 := rfl
theorem encU8_one (b : UInt8) : ∀ u ∈ encU8 b, u.oneCell' = true := by
  intro u hu
  simp [encU8, byteV] at hu
  subst hu
  rfl
theorem encU8_flat (l : List UInt8) : l.flatMap encU8 = l.map byteV := by
  induction l with
  | nil => rfl
  | cons x l ih => rw [List.flatMap_cons, List.map_cons, ih]; rfl
/-- The text of a row of bytes. -/
theorem run_row_text {w : World} {base n c : Nat} {A : Option Addr} {l : List UInt8} (h : Row w base 5 1 encU8 (.slice A n c) l) (hn : 0 < l.length) :
    (convert 67 9 (.slice A l.length c)).run Tryz.prog w = .ok (.string ⟨l.toArray⟩) w := by
  obtain ⟨b, off, rfl, _, hc⟩ := Row.read h encU8_len (by omega) hn
  refine run_convert_bytes_back w 67 9 5 ⟨b, off, none⟩ c l Tryz.underlying67 Tryz.underlying5 Tryz.underlying9 (fun j hj => ?_)
  obtain ⟨vs, _, hr, hcell⟩ := hc j l[j] (List.getElem?_eq_getElem hj)
  have hr' : vs = encU8 l[j] := hr
  subst hr'
  have h9 := hcell 0 (byteV l[j]) rfl
  have hadd : (⟨b, off, none⟩ : Addr).add j = ⟨b, off + j, none⟩ := by unfold Addr.add; split <;> simp_all
  rw [hadd]
  simpa [byteV] using h9
theorem row_cells {G : Nat → UInt8} {C : Nat} {cs : Array Value} (h : ∀ c, c < C → cs[c]? = some (byteV (G c))) : ∀ (j : Nat) (u : Value), (((List.range C).map G).flatMap encU8)[j]? = some u → cs[j]? = some u := by
  intro j u hu
  rw [encU8_flat, List.map_map, List.getElem?_map] at hu
  by_cases hj : j < C
  · rw [List.getElem?_range hj] at hu
    rw [h j hj]
    simpa using hu
  · rw [List.getElem?_eq_none (by simpa using hj)] at hu
    cases hu
end Go.Proofs.YtmcjpdlkkpnhfaaGreatDoor
namespace Go.Proofs.YtmcjpdlkkpnhfaaGreatDoor
open Go.RowKit

set_option maxHeartbeats 1000000 in
theorem opens_any (h b : BoxD) (w : World) :
    Calls Tryz.prog 91 #[bx h, bx b] w fun e w' => e = .returned (.bool (opensB h b)) ∧ Below w.heap.size w w' := by
  obtain ⟨⟨h1, h2, h3⟩, h4, h5, h6⟩ := h
  obtain ⟨⟨b1, b2, b3⟩, b4, b5, b6⟩ := b
  have hr : opensB ⟨(h1, h2, h3), (h4, h5, h6)⟩ ⟨(b1, b2, b3), (b4, b5, b6)⟩ = (decide (b1 < h4) && decide (h1 < b4) && decide (b2 < h5) && decide (h2 < b5) && decide (b3 < h6) && decide (h3 < b6)) := rfl
  have hcase : (decide (b1 < h4) = false ∧ opensB ⟨(h1, h2, h3), (h4, h5, h6)⟩ ⟨(b1, b2, b3), (b4, b5, b6)⟩ = false) ∨ (decide (b1 < h4) = true ∧ decide (h1 < b4) = false ∧ opensB ⟨(h1, h2, h3), (h4, h5, h6)⟩ ⟨(b1, b2, b3), (b4, b5, b6)⟩ = false) ∨ (decide (b1 < h4) = true ∧ decide (h1 < b4) = true ∧ decide (b2 < h5) = false ∧ opensB ⟨(h1, h2, h3), (h4, h5, h6)⟩ ⟨(b1, b2, b3), (b4, b5, b6)⟩ = false) ∨ (decide (b1 < h4) = true ∧ decide (h1 < b4) = true ∧ decide (b2 < h5) = true ∧ decide (h2 < b5) = false ∧ opensB ⟨(h1, h2, h3), (h4, h5, h6)⟩ ⟨(b1, b2, b3), (b4, b5, b6)⟩ = false) ∨ (decide (b1 < h4) = true ∧ decide (h1 < b4) = true ∧ decide (b2 < h5) = true ∧ decide (h2 < b5) = true ∧ decide (b3 < h6) = false ∧ opensB ⟨(h1, h2, h3), (h4, h5, h6)⟩ ⟨(b1, b2, b3), (b4, b5, b6)⟩ = false) ∨ (decide (b1 < h4) = true ∧ decide (h1 < b4) = true ∧ decide (b2 < h5) = true ∧ decide (h2 < b5) = true ∧ decide (b3 < h6) = true ∧ decide (h3 < b6) = false ∧ opensB ⟨(h1, h2, h3), (h4, h5, h6)⟩ ⟨(b1, b2, b3), (b4, b5, b6)⟩ = false) ∨ (decide (b1 < h4) = true ∧ decide (h1 < b4) = true ∧ decide (b2 < h5) = true ∧ decide (h2 < b5) = true ∧ decide (b3 < h6) = true ∧ decide (h3 < b6) = true ∧ opensB ⟨(h1, h2, h3), (h4, h5, h6)⟩ ⟨(b1, b2, b3), (b4, b5, b6)⟩ = true) := by
    rw [hr]
    cases decide (b1 < h4) <;> cases decide (h1 < b4) <;> cases decide (b2 < h5) <;> cases decide (h2 < b5) <;> cases decide (b3 < h6) <;> cases decide (h3 < b6) <;> simp
  clear hr
  have HW := hide (below_new2 w (.cells #[.int .i64 h1, .int .i64 h2, .int .i64 h3, .int .i64 h4, .int .i64 h5, .int .i64 h6] 60) (.cells #[.int .i64 b1, .int .i64 b2, .int .i64 b3, .int .i64 b4, .int .i64 b5, .int .i64 b6] 60))
  rcases hcase with ⟨q0, hR⟩ | ⟨q0, q1, hR⟩ | ⟨q0, q1, q2, hR⟩ | ⟨q0, q1, q2, q3, hR⟩ | ⟨q0, q1, q2, q3, q4, hR⟩ | ⟨q0, q1, q2, q3, q4, q5, hR⟩ | ⟨q0, q1, q2, q3, q4, q5, hR⟩
  all_goals
    have HR := hide hR
    clear hR
    go_enter Tryz.func91, Tryz.ntmps91
    go_wp2_with fail
    go_ret
    exact ⟨ret_bool HR.out.symm, HW.out⟩
theorem bx_load {w : World} {g : Nat} {b : BoxD} (h : Blk w g 60 #[.int .i64 b.lo.1, .int .i64 b.lo.2.1, .int .i64 b.lo.2.2, .int .i64 b.hi.1, .int .i64 b.hi.2.1, .int .i64 b.hi.2.2]) :
    w.heap[g]? = some (.cells #[.int .i64 b.lo.1, .int .i64 b.lo.2.1, .int .i64 b.lo.2.2, .int .i64 b.hi.1, .int .i64 b.hi.2.1, .int .i64 b.hi.2.2] 60 (0, 0)) := h
set_option maxHeartbeats 1000000 in
theorem opensAt_any (h b : BoxD) (g : Nat) (w : World) (hg : Blk w g 60 #[.int .i64 b.lo.1, .int .i64 b.lo.2.1, .int .i64 b.lo.2.2, .int .i64 b.hi.1, .int .i64 b.hi.2.1, .int .i64 b.hi.2.2]) :
    Calls Tryz.prog 90 #[bx h, .pointer (some ⟨g, 0, none⟩)] w fun e w' => e = .returned (.bool (opensAt b h)) ∧ Below w.heap.size w w' := by
  have HO := hide (fun W => opens_any h b W)
  have Hr := hide (show opensAt b h = opensB h b from rfl)
  obtain ⟨t, ht⟩ : ∃ t, t = opensB h b := ⟨_, rfl⟩
  rw [← ht] at HO Hr
  obtain ⟨⟨b1, b2, b3⟩, b4, b5, b6⟩ := b
  obtain ⟨⟨h1, h2, h3⟩, h4, h5, h6⟩ := h
  have c0 := hg.cell 0
  have c1 := hg.cell 1
  have c2 := hg.cell 2
  have c3 := hg.cell 3
  have c4 := hg.cell 4
  have c5 := hg.cell 5
  simp at c0 c1 c2 c3 c4 c5
  have lg := hg.lt
  clear hg ht
  have HW := hide (below_new w (.cells #[.int .i64 h1, .int .i64 h2, .int .i64 h3, .int .i64 h4, .int .i64 h5, .int .i64 h6] 60))
  go_enter Tryz.func90, Tryz.ntmps90
  go_wp2_with fail
  refine (HO.out _).mono ?_
  rintro e w2 ⟨rfl, hb⟩
  have HB := hide (below_step HW.out hb (Nat.le_refl _))
  clear hb c0 c1 c2 c3 c4 c5 HO
  go_wp2_with fail
  go_ret
  exact ⟨ret_bool Hr.out.symm, HB.out⟩
def axPair (q : (Int × Int) × (Int × Int)) : Bool := decide (q.1.1 ≤ q.2.1) && decide (q.2.2 ≤ q.1.2)
theorem holdsB_zip (a b : BoxD) : holdsB a b = (((axes a).zip (axes b)).drop 0).all axPair := by
  simp [holdsB, axes, axPair, Bool.and_assoc]
set_option maxHeartbeats 2000000 in
theorem holdsB_any (a b : BoxD) (w : World) :
    Calls Tryz.prog 134 #[bx a, bx b] w fun e w' => e = .returned (.bool (holdsB a b)) ∧ Below w.heap.size w w' := by
  have HE := hide (fun (k : Nat) (p : Int × Int) (h : (axes a)[k]? = some p) (w : World) => ends_any a k p h w)
  have HF := hide (fun (k : Nat) (p : Int × Int) (h : (axes b)[k]? = some p) (w : World) => ends_any b k p h w)
  have Hok := hide (holdsB_zip a b)
  have HL := hide (show (axes a).length = 3 from rfl)
  have HM := hide (show (axes b).length = 3 from rfl)
  obtain ⟨⟨x, y, z⟩, ⟨x2, y2, z2⟩⟩ := a
  obtain ⟨⟨u, v, t⟩, ⟨u2, v2, t2⟩⟩ := b
  generalize axes ⟨(x, y, z), (x2, y2, z2)⟩ = ax at *
  generalize axes ⟨(u, v, t), (u2, v2, t2)⟩ = bx' at *
  obtain ⟨rb, hrb⟩ : ∃ rb, rb = holdsB ⟨(x, y, z), (x2, y2, z2)⟩ ⟨(u, v, t), (u2, v2, t2)⟩ := ⟨_, rfl⟩
  rw [← hrb] at Hok ⊢
  clear hrb
  go_enter Tryz.func134, Tryz.ntmps134
  go_wp2_with fail
  obtain ⟨w1, hw1⟩ : ∃ w1, w1 = (w.alloc (.cells #[.int .i64 x, .int .i64 y, .int .i64 z, .int .i64 x2, .int .i64 y2, .int .i64 z2] 60)).alloc (.cells #[.int .i64 u, .int .i64 v, .int .i64 t, .int .i64 u2, .int .i64 v2, .int .i64 t2] 60) := ⟨_, rfl⟩
  have hb := hide ((Blk.new w 60 #[.int .i64 x, .int .i64 y, .int .i64 z, .int .i64 x2, .int .i64 y2, .int .i64 z2]).alloc (.cells #[.int .i64 u, .int .i64 v, .int .i64 t, .int .i64 u2, .int .i64 v2, .int .i64 t2] 60))
  have hc := hide (Blk.new1 w (.cells #[.int .i64 x, .int .i64 y, .int .i64 z, .int .i64 x2, .int .i64 y2, .int .i64 z2] 60) 60 #[.int .i64 u, .int .i64 v, .int .i64 t, .int .i64 u2, .int .i64 v2, .int .i64 t2])
  have hw := hide (below_new2 w (.cells #[.int .i64 x, .int .i64 y, .int .i64 z, .int .i64 x2, .int .i64 y2, .int .i64 z2] 60) (.cells #[.int .i64 u, .int .i64 v, .int .i64 t, .int .i64 u2, .int .i64 v2, .int .i64 t2] 60))
  rw [← hw1] at hb hc hw ⊢
  clear hw1
  go_loopw [10] (fun i wr => ∃ k : Nat, k ≤ 3 ∧ i = .int .i64 k ∧ Hid (rb = ((ax.zip bx').drop k).all axPair) ∧ Below w1.heap.size w1 wr) (fun i _ => 3 - (intOf i).toNat)
  case atStart => exact ⟨0, Nat.zero_le _, rfl, Hok, Below.refl _ _⟩
  case round =>
    obtain ⟨k, hk, rfl, hq, hbr⟩ := hrel
    by_cases hlt : k < 3
    · obtain ⟨p, hp⟩ : ∃ p, ax[k]? = some p := ⟨_, List.getElem?_eq_getElem (by rw [HL.out]; exact hlt)⟩
      obtain ⟨r, hr⟩ : ∃ p, bx'[k]? = some p := ⟨_, List.getElem?_eq_getElem (by rw [HM.out]; exact hlt)⟩
      have hz : (ax.zip bx')[k]? = some (p, r) := by simp [List.getElem?_zip_eq_some, hp, hr]
      have hbk := hb.out.below hbr hb.out.lt
      have hck := hide (hc.out.below hbr hc.out.lt)
      have c0 := hbk.cell 0
      have c1 := hbk.cell 1
      have c2 := hbk.cell 2
      have c3 := hbk.cell 3
      have c4 := hbk.cell 4
      have c5 := hbk.cell 5
      simp at c0 c1 c2 c3 c4 c5
      have He := hide (HE.out k p hp wr)
      have Hf := hide (fun W => HF.out k r hr W)
      have Hn := hide (hq.out.trans (by rw [drop_at' hz, List.all_cons]))
      have Hbr := hide hbr
      clear hbk hp hr hz hq hbr
      obtain ⟨lo, hi⟩ := p
      obtain ⟨ff, tt⟩ := r
      simp only at He Hf Hn
      go_wp2_with fail
      refine He.out.mono ?_
      rintro e w2 ⟨rfl, hb2⟩
      have hck2 := hck.out.keep hb2
      have d0 := hck2.cell 0
      have d1 := hck2.cell 1
      have d2 := hck2.cell 2
      have d3 := hck2.cell 3
      have d4 := hck2.cell 4
      have d5 := hck2.cell 5
      simp at d0 d1 d2 d3 d4 d5
      have Hb2 := hide (below_step Hbr.out hb2 (Nat.le_refl _))
      clear hck2 hck hb2 c0 c1 c2 c3 c4 c5 Hbr He
      go_wp2_with fail
      refine (Hf.out _).mono ?_
      rintro e w3 ⟨rfl, hb3⟩
      have Hb3 := hide (below_step Hb2.out hb3 (Nat.le_refl _))
      clear hb3 d0 d1 d2 d3 d4 d5 Hb2 Hf
      have hcase : (axPair ((lo, hi), (ff, tt)) = true ∧ decide (ff < lo) = false ∧ decide (hi < tt) = false) ∨ (axPair ((lo, hi), (ff, tt)) = false ∧ decide (ff < lo) = true) ∨ (axPair ((lo, hi), (ff, tt)) = false ∧ decide (ff < lo) = false ∧ decide (hi < tt) = true) := by
        simp only [axPair, Bool.and_eq_true, Bool.and_eq_false_iff, decide_eq_true_eq, decide_eq_false_iff_not]
        omega
      rcases hcase with ⟨ha, q0, q1⟩ | ⟨ha, q0⟩ | ⟨ha, q0, q1⟩
      · have Hn2 := hide (Hn.out.trans (by rw [ha, Bool.true_and]))
        clear ha Hn
        go_wp2_with fail
        go_roundw
        case rel => exact ⟨k + 1, by omega, by go_num, Hn2, Hb3.out⟩
        case measure => simp [intOf]; omega
      all_goals
        have hres := hide (show rb = false by rw [Hn.out, ha]; rfl)
        clear ha Hn
        go_wp2_with fail
        go_ret
        exact ⟨ret_bool hres.out.symm, below_step hw.out Hb3.out (Nat.le_refl _)⟩
    · obtain rfl : k = 3 := by omega
      have hfull := hide (show rb = true by rw [hq.out, List.drop_of_length_le (by rw [List.length_zip, HL.out, HM.out]; decide)]; rfl)
      go_wp2_with fail
      go_ret
      exact ⟨ret_bool hfull.out.symm, below_step hw.out hbr (Nat.le_refl _)⟩
set_option maxHeartbeats 1000000 in
theorem holdsAt_any (a b : BoxD) (g : Nat) (w : World) (hg : Blk w g 60 #[.int .i64 b.lo.1, .int .i64 b.lo.2.1, .int .i64 b.lo.2.2, .int .i64 b.hi.1, .int .i64 b.hi.2.1, .int .i64 b.hi.2.2]) :
    Calls Tryz.prog 133 #[bx a, .pointer (some ⟨g, 0, none⟩)] w fun e w' => e = .returned (.bool (holdsAt b a)) ∧ Below w.heap.size w w' := by
  have HO := hide (fun W => holdsB_any a b W)
  have Hr := hide (show holdsAt b a = holdsB a b from rfl)
  obtain ⟨t, ht⟩ : ∃ t, t = holdsB a b := ⟨_, rfl⟩
  rw [← ht] at HO Hr
  obtain ⟨⟨b1, b2, b3⟩, b4, b5, b6⟩ := b
  obtain ⟨⟨h1, h2, h3⟩, h4, h5, h6⟩ := a
  have c0 := hg.cell 0
  have c1 := hg.cell 1
  have c2 := hg.cell 2
  have c3 := hg.cell 3
  have c4 := hg.cell 4
  have c5 := hg.cell 5
  simp at c0 c1 c2 c3 c4 c5
  have lg := hg.lt
  clear hg ht
  have HW := hide (below_new w (.cells #[.int .i64 h1, .int .i64 h2, .int .i64 h3, .int .i64 h4, .int .i64 h5, .int .i64 h6] 60))
  go_enter Tryz.func133, Tryz.ntmps133
  go_wp2_with fail
  refine (HO.out _).mono ?_
  rintro e w2 ⟨rfl, hb⟩
  have HB := hide (below_step HW.out hb (Nat.le_refl _))
  clear hb c0 c1 c2 c3 c4 c5 HO
  go_wp2_with fail
  go_ret
  exact ⟨ret_bool Hr.out.symm, HB.out⟩
end Go.Proofs.YtmcjpdlkkpnhfaaGreatDoor
namespace Go.Proofs.YtmcjpdlkkpnhfaaGreatDoor
open Go.RowKit

theorem pt_axes (p : Pt) : axes (ptBox p) = [(p.1, p.1), (p.2.1, p.2.1), (p.2.2, p.2.2)] := rfl
set_option maxHeartbeats 1000000 in
theorem parts_pt (A : Option Addr) (n c : Nat) (p : Pt) (k : Nat) (q : Int) (h : (axes (ptBox p))[k]? = some (q, q)) (w : World) :
    Calls Tryz.prog 132 #[.slice A n c, bx (ptBox p), .int .i64 k] w fun e w' => ∃ g, e = .returned (.slice (some ⟨g, 0, none⟩) 1 1) ∧ w.heap.size ≤ g ∧ Blk w' g 186 #[.int .i64 q, .int .i64 q] ∧ Below w.heap.size w w' := by
  have HE := hide (fun W => ends_any (ptBox p) k (q, q) h W)
  obtain ⟨x, y, z⟩ := p
  clear h
  have HW := hide (below_new w (.cells #[.int .i64 x, .int .i64 y, .int .i64 z, .int .i64 x, .int .i64 y, .int .i64 z] 60))
  go_enter Tryz.func132, Tryz.ntmps132
  go_wp2_with fail
  refine (HE.out _).mono ?_
  rintro e w2 ⟨rfl, hb⟩
  have HB := hide (below_step HW.out hb (Nat.le_refl _))
  have hz : w.heap.size ≤ w2.heap.size := HB.out.size
  clear hb HE
  go_wp2_with fail
  go_ret
  exact ⟨w2.heap.size, rfl, hz, Blk.new _ _ _, HB.out.alloc hz _⟩
set_option maxHeartbeats 4000000 in
theorem covers_pt (A : Option Addr) (l : List BoxD) (n c : Nat) (p : Pt) (w : World) {B : Nat} (h : BoxesAt w B A l) (hB : B ≤ w.heap.size) (hn : n = l.length) (hm : n ≤ 40) (hok : l.all boxOk = true) (hp : nearBy 1048576 p = true) :
    Calls Tryz.prog 92 #[.slice A n c, bx (ptBox p)] w fun e w' => e = .returned (.tuple #[.bool (someOf (holdsAt (ptBox p)) l), .int .i64 0]) ∧ Below w.heap.size w w' := by
  have HA := hide (fun (W : World) (hz : Below w.heap.size w W) => boxAll_any A l n c W (h.carry (Flat.carried _) (hz.mono hB) (Nat.le_refl _)) (Nat.le_trans hB hz.size) hn (by omega))
  rw [hok] at HA
  have HV := hide (fun W => boxValid_any (ptBox p) W)
  rw [ptBox_ok hp] at HV
  have HP0 := hide (fun W => parts_pt A n c p 0 p.1 (by rw [pt_axes]; rfl) W)
  have HP1 := hide (fun W => parts_pt A n c p 1 p.2.1 (by rw [pt_axes]; rfl) W)
  have HP2 := hide (fun W => parts_pt A n c p 2 p.2.2 (by rw [pt_axes]; rfl) W)
  have HC := hide (fun (W : World) (hz : Below w.heap.size w W) (g : Nat) (hg : Blk W g 60 #[.int .i64 p.1, .int .i64 p.2.1, .int .i64 p.2.2, .int .i64 p.1, .int .i64 p.2.1, .int .i64 p.2.2]) => containsFuncBoxC_any A l n c 133 #[.pointer (some ⟨g, 0, none⟩)] (holdsAt (ptBox p)) W (h.carry (Flat.carried _) (hz.mono hB) (Nat.le_refl _)) (Nat.le_trans hB hz.size) hn (by omega) Tryz.call133 (fun a W2 _ hb2 => holdsAt_any a (ptBox p) g W2 (hg.keep hb2)))
  obtain ⟨t, ht⟩ : ∃ t, t = someOf (holdsAt (ptBox p)) l := ⟨_, rfl⟩
  rw [← ht] at HC ⊢
  obtain ⟨x, y, z⟩ := p
  simp only at HP0 HP1 HP2 HC
  have K0 := hide (Blk.new w 60 #[.int .i64 x, .int .i64 y, .int .i64 z, .int .i64 x, .int .i64 y, .int .i64 z])
  have HW := hide (below_new w (.cells #[.int .i64 x, .int .i64 y, .int .i64 z, .int .i64 x, .int .i64 y, .int .i64 z] 60))
  have dm : decide (40 < (n : Int)) = false := by simp; omega
  clear h hB hn hok hp ht
  go_enter Tryz.func92, Tryz.ntmps92
  go_wp2_with fail
  refine (HA.out _ HW.out).mono ?_
  rintro e w1 ⟨rfl, hb⟩
  have K0 := hide (K0.out.keep hb)
  have HW := hide (below_step HW.out hb (Nat.le_refl _))
  have c0 := K0.out.cell 0
  have c1 := K0.out.cell 1
  have c2 := K0.out.cell 2
  have c3 := K0.out.cell 3
  have c4 := K0.out.cell 4
  have c5 := K0.out.cell 5
  simp at c0 c1 c2 c3 c4 c5
  have lk := K0.out.lt
  clear hb HA
  go_wp2_with fail
  refine (HV.out _).mono ?_
  rintro e w2 ⟨rfl, hb⟩
  clear c0 c1 c2 c3 c4 c5 lk
  have K0 := hide (K0.out.keep hb)
  have HW := hide (below_step HW.out hb (Nat.le_refl _))
  have c0 := K0.out.cell 0
  have c1 := K0.out.cell 1
  have c2 := K0.out.cell 2
  have c3 := K0.out.cell 3
  have c4 := K0.out.cell 4
  have c5 := K0.out.cell 5
  simp at c0 c1 c2 c3 c4 c5
  have lk := K0.out.lt
  clear hb HV
  go_wp2_with fail
  refine (HP0.out _).mono ?_
  rintro e w3 ⟨g0, rfl, hg0, hk0, hb⟩
  clear c0 c1 c2 c3 c4 c5 lk
  have K0 := hide (K0.out.keep hb)
  have HW := hide (below_step HW.out hb (Nat.le_refl _))
  have c0 := K0.out.cell 0
  have c1 := K0.out.cell 1
  have c2 := K0.out.cell 2
  have c3 := K0.out.cell 3
  have c4 := K0.out.cell 4
  have c5 := K0.out.cell 5
  simp at c0 c1 c2 c3 c4 c5
  have lk := K0.out.lt
  have u0 := hk0.cell 0
  have u1 := hk0.cell 1
  simp at u0 u1
  have lu := hk0.lt
  clear hb HP0 hk0
  go_wp2_with fail
  refine wp_loop_rounds 2 ?_
  rw [rounds_succ]
  have K0 := hide (K0.out.alloc (.cells #[.int .i64 x, .int .i64 x] 186))
  have HW := hide (HW.out.alloc HW.out.size (.cells #[.int .i64 x, .int .i64 x] 186))
  have KX := hide (Blk.new w3 186 #[.int .i64 x, .int .i64 x])
  go_wp2_with fail
  refine (HP1.out _).mono ?_
  rintro e w4 ⟨g1, rfl, hg1, hk1, hb⟩
  have KX := hide (KX.out.keep hb)
  clear c0 c1 c2 c3 c4 c5 lk u0 u1 lu
  have K0 := hide (K0.out.keep hb)
  have HW := hide (below_step HW.out hb (Nat.le_refl _))
  have c0 := K0.out.cell 0
  have c1 := K0.out.cell 1
  have c2 := K0.out.cell 2
  have c3 := K0.out.cell 3
  have c4 := K0.out.cell 4
  have c5 := K0.out.cell 5
  simp at c0 c1 c2 c3 c4 c5
  have lk := K0.out.lt
  have u0 := hk1.cell 0
  have u1 := hk1.cell 1
  simp at u0 u1
  have lu := hk1.lt
  clear hb HP1 hk1
  go_wp2_with fail
  refine wp_loop_rounds 2 ?_
  rw [rounds_succ]
  have K0 := hide (K0.out.alloc (.cells #[.int .i64 y, .int .i64 y] 186))
  have HW := hide (HW.out.alloc HW.out.size (.cells #[.int .i64 y, .int .i64 y] 186))
  have KX := hide (KX.out.alloc (.cells #[.int .i64 y, .int .i64 y] 186))
  have KY := hide (Blk.new w4 186 #[.int .i64 y, .int .i64 y])
  go_wp2_with fail
  refine (HP2.out _).mono ?_
  rintro e w5 ⟨g2, rfl, hg2, hk2, hb⟩
  have KX := hide (KX.out.keep hb)
  have KY := hide (KY.out.keep hb)
  clear c0 c1 c2 c3 c4 c5 lk u0 u1 lu
  have K0 := hide (K0.out.keep hb)
  have HW := hide (below_step HW.out hb (Nat.le_refl _))
  have c0 := K0.out.cell 0
  have c1 := K0.out.cell 1
  have c2 := K0.out.cell 2
  have c3 := K0.out.cell 3
  have c4 := K0.out.cell 4
  have c5 := K0.out.cell 5
  simp at c0 c1 c2 c3 c4 c5
  have lk := K0.out.lt
  have u0 := hk2.cell 0
  have u1 := hk2.cell 1
  simp at u0 u1
  have lu := hk2.lt
  clear hb HP2 hk2
  go_wp2_with fail
  refine wp_loop_rounds 2 ?_
  rw [rounds_succ]
  have x0 := KX.out.cell 0
  have x1 := KX.out.cell 1
  have y0 := KY.out.cell 0
  have y1 := KY.out.cell 1
  simp at x0 x1 y0 y1
  have lx := KX.out.lt
  have ly := KY.out.lt
  have HW := hide ((HW.out.alloc HW.out.size (.cells #[.int .i64 z, .int .i64 z] 186)).alloc (le_alloc HW.out.size _) (.cells #[.int .i64 x, .int .i64 y, .int .i64 z, .int .i64 x, .int .i64 y, .int .i64 z] 60))
  have HCx := hide (HC.out _ HW.out (w5.heap.size + 1) (Blk.new1 w5 _ _ _))
  go_wp2_with fail
  refine HCx.out.mono ?_
  rintro e w6 ⟨rfl, hb⟩
  have HW := hide (below_step HW.out hb (Nat.le_refl _))
  clear hb HC HCx c0 c1 c2 c3 c4 c5 lk u0 u1 lu x0 x1 y0 y1 lx ly KX KY K0
  cases t
  · go_wp2_with fail
    go_ret2
    exact ⟨rfl, HW.out⟩
  · go_wp2_with fail
    rw [rounds_succ]
    go_wp2_with fail
    rw [rounds_succ]
    go_wp2_with fail
    rw [rounds_succ]
    go_wp2_with fail
    go_ret2
    exact ⟨rfl, HW.out⟩
set_option maxHeartbeats 4000000 in
theorem containsPt_any (bs hs : List BoxD) (A1 A2 : Option Addr) (n1 n2 c1 c2 : Nat) (p : Pt) (w : World) {B : Nat} (h1 : BoxesAt w B A1 bs) (h2 : BoxesAt w B A2 hs) (hB : B ≤ w.heap.size) (hn1 : n1 = bs.length) (hn2 : n2 = hs.length) (hok : solidOk bs hs = true) (hp : nearBy 1048576 p = true) :
    Calls Tryz.prog 54 #[sol A1 n1 c1 A2 n2 c2, bx (ptBox p)] w fun e w' => e = .returned (.tuple #[.bool (inSolid bs hs p), .int .i64 0]) ∧ Below w.heap.size w w' := by
  obtain ⟨b1, b2, b3⟩ := solid_boxes hok
  have hh : hs.length ≤ 20 := by simp only [solidOk, Bool.and_eq_true, decide_eq_true_eq] at hok; exact hok.1.1.2
  have HS := hide (fun (W : World) (hz : Below w.heap.size w W) => solidValid_any bs hs A1 A2 n1 n2 c1 c2 W (h1.carry (Flat.carried _) (hz.mono hB) (Nat.le_refl _)) (h2.carry (Flat.carried _) (hz.mono hB) (Nat.le_refl _)) (Nat.le_trans hB hz.size) hn1 hn2)
  rw [hok] at HS
  have HV := hide (fun W => boxValid_any (ptBox p) W)
  rw [ptBox_ok hp] at HV
  have HO := hide (fun (W : World) (hz : Below w.heap.size w W) (g : Nat) (hg : Blk W g 60 #[.int .i64 p.1, .int .i64 p.2.1, .int .i64 p.2.2, .int .i64 p.1, .int .i64 p.2.1, .int .i64 p.2.2]) => containsFuncBoxC_any A2 hs n2 c2 90 #[.pointer (some ⟨g, 0, none⟩)] (opensAt (ptBox p)) W (h2.carry (Flat.carried _) (hz.mono hB) (Nat.le_refl _)) (Nat.le_trans hB hz.size) hn2 (by omega) Tryz.call90 (fun a W2 _ hb2 => opensAt_any a (ptBox p) g W2 (hg.keep hb2)))
  have HC := hide (fun (W : World) (hz : Below w.heap.size w W) => covers_pt A1 bs n1 c1 p W (h1.carry (Flat.carried _) (hz.mono hB) (Nat.le_refl _)) (Nat.le_trans hB hz.size) hn1 (by omega) b3 hp)
  have Hr := hide (show inSolid bs hs p = (!someOf (opensAt (ptBox p)) hs && someOf (holdsAt (ptBox p)) bs) from rfl)
  generalize someOf (opensAt (ptBox p)) hs = t1 at *
  generalize someOf (holdsAt (ptBox p)) bs = t2 at *
  generalize inSolid bs hs p = t3 at *
  obtain ⟨x, y, z⟩ := p
  simp only at HO
  have K0 := hide (Blk.new1 w (.cells #[.slice A1 n1 c1, .slice A2 n2 c2] 24) 60 #[.int .i64 x, .int .i64 y, .int .i64 z, .int .i64 x, .int .i64 y, .int .i64 z])
  have KS := hide ((Blk.new w 24 #[.slice A1 n1 c1, .slice A2 n2 c2]).alloc (.cells #[.int .i64 x, .int .i64 y, .int .i64 z, .int .i64 x, .int .i64 y, .int .i64 z] 60))
  have HW := hide (below_new2 w (.cells #[.slice A1 n1 c1, .slice A2 n2 c2] 24) (.cells #[.int .i64 x, .int .i64 y, .int .i64 z, .int .i64 x, .int .i64 y, .int .i64 z] 60))
  clear h1 h2 hB hn1 hn2 hok hp b1 b2 b3 hh
  go_enter Tryz.func54, Tryz.ntmps54
  go_wp2_with fail
  refine (HS.out _ HW.out).mono ?_
  rintro e w1 ⟨rfl, hb⟩
  have KS := hide (KS.out.keep hb)
  have K0 := hide (K0.out.keep hb)
  have HW := hide (below_step HW.out hb (Nat.le_refl _))
  have c0 := K0.out.cell 0
  have c1 := K0.out.cell 1
  have c2 := K0.out.cell 2
  have c3 := K0.out.cell 3
  have c4 := K0.out.cell 4
  have c5 := K0.out.cell 5
  simp at c0 c1 c2 c3 c4 c5
  have lk := K0.out.lt
  clear hb HS
  go_wp2_with fail
  refine (HV.out _).mono ?_
  rintro e w2 ⟨rfl, hb⟩
  have KS := hide (KS.out.keep hb)
  clear c0 c1 c2 c3 c4 c5 lk
  have K0 := hide (K0.out.keep hb)
  have HW := hide (below_step HW.out hb (Nat.le_refl _))
  have c0 := K0.out.cell 0
  have c1 := K0.out.cell 1
  have c2 := K0.out.cell 2
  have c3 := K0.out.cell 3
  have c4 := K0.out.cell 4
  have c5 := K0.out.cell 5
  simp at c0 c1 c2 c3 c4 c5
  have lk := K0.out.lt
  have s0 := KS.out.cell 0
  have s1 := KS.out.cell 1
  simp at s0 s1
  have ls := KS.out.lt
  clear hb HV
  go_wp2_with fail
  refine (HO.out _ HW.out _ K0.out).mono ?_
  rintro e w3 ⟨rfl, hb⟩
  have KS := hide (KS.out.keep hb)
  clear c0 c1 c2 c3 c4 c5 lk s0 s1 ls
  have K0 := hide (K0.out.keep hb)
  have HW := hide (below_step HW.out hb (Nat.le_refl _))
  have c0 := K0.out.cell 0
  have c1 := K0.out.cell 1
  have c2 := K0.out.cell 2
  have c3 := K0.out.cell 3
  have c4 := K0.out.cell 4
  have c5 := K0.out.cell 5
  simp at c0 c1 c2 c3 c4 c5
  have lk := K0.out.lt
  have s0 := KS.out.cell 0
  simp at s0
  have ls := KS.out.lt
  clear hb HO
  cases t1
  · have hfin := hide (show t3 = t2 by rw [Hr.out]; simp)
    go_wp2_with fail
    refine (HC.out _ HW.out).mono ?_
    rintro e w4 ⟨rfl, hb⟩
    have HW := hide (below_step HW.out hb (Nat.le_refl _))
    clear hb HC c0 c1 c2 c3 c4 c5 lk s0 ls
    go_wp2_with fail
    go_ret2
    exact ⟨by rw [hfin.out]; rfl, HW.out⟩
  · have hfin := hide (show t3 = false by rw [Hr.out]; simp)
    go_wp2_with fail
    go_ret2
    exact ⟨by rw [hfin.out]; rfl, HW.out⟩
set_option maxHeartbeats 4000000 in
theorem inside_any (bs hs : List BoxD) (A1 A2 : Option Addr) (n1 n2 c1 c2 : Nat) (p : Pt) (w : World) {B : Nat} (h1 : BoxesAt w B A1 bs) (h2 : BoxesAt w B A2 hs) (hB : B ≤ w.heap.size) (hn1 : n1 = bs.length) (hn2 : n2 = hs.length) (hok : solidOk bs hs = true) :
    Calls Tryz.prog 23 #[sol A1 n1 c1 A2 n2 c2, .agg #[.int .i64 p.1, .int .i64 p.2.1, .int .i64 p.2.2]] w fun e w' => ((e = .returned (.tuple #[.bool (inSolid bs hs p), .int .i64 0])) ∨ (inSolid bs hs p = false ∧ e = .returned (.tuple #[.bool false, .int .i64 2]))) ∧ Below w.heap.size w w' := by
  have HS := hide (fun (W : World) (hz : Below w.heap.size w W) => solidValid_any bs hs A1 A2 n1 n2 c1 c2 W (h1.carry (Flat.carried _) (hz.mono hB) (Nat.le_refl _)) (h2.carry (Flat.carried _) (hz.mono hB) (Nat.le_refl _)) (Nat.le_trans hB hz.size) hn1 hn2)
  rw [hok] at HS
  have HV := hide (fun W => boxValid_any (ptBox p) W)
  have HC := hide (fun (hp : nearBy 1048576 p = true) (W : World) (hz : Below w.heap.size w W) => containsPt_any bs hs A1 A2 n1 n2 c1 c2 p W (h1.carry (Flat.carried _) (hz.mono hB) (Nat.le_refl _)) (h2.carry (Flat.carried _) (hz.mono hB) (Nat.le_refl _)) (Nat.le_trans hB hz.size) hn1 hn2 hok hp)
  have hway : (nearBy 1048576 p = true ∧ boxOk (ptBox p) = true) ∨ (boxOk (ptBox p) = false ∧ inSolid bs hs p = false) := by
    cases hp : nearBy 1048576 p
    · refine .inr ⟨?_, inSolid_far (solid_boxes hok).2.2 hp⟩
      rw [Bool.eq_false_iff]
      intro hb
      have h9 := boxOk_iff.1 hb
      have : nearBy 1048576 p = true := by rw [nearBy_iff]; simp only [ptBox] at h9; omega
      rw [hp] at this
      cases this
    · exact .inl ⟨rfl, ptBox_ok hp⟩
  generalize inSolid bs hs p = t3 at *
  generalize boxOk (ptBox p) = t1 at *
  generalize nearBy 1048576 p = t2 at *
  obtain ⟨x, y, z⟩ := p
  simp only
  have K0 := hide (Blk.new2 w (.cells #[.slice A1 n1 c1, .slice A2 n2 c2] 24) (.cells #[.int .i64 x, .int .i64 y, .int .i64 z] 58) 60 #[.int .i64 x, .int .i64 y, .int .i64 z, .int .i64 x, .int .i64 y, .int .i64 z])
  have KS := hide (((Blk.new w 24 #[.slice A1 n1 c1, .slice A2 n2 c2]).alloc (.cells #[.int .i64 x, .int .i64 y, .int .i64 z] 58)).alloc (.cells #[.int .i64 x, .int .i64 y, .int .i64 z, .int .i64 x, .int .i64 y, .int .i64 z] 60))
  have HW := hide ((below_new2 w (.cells #[.slice A1 n1 c1, .slice A2 n2 c2] 24) (.cells #[.int .i64 x, .int .i64 y, .int .i64 z] 58)).alloc (by simp; omega) (.cells #[.int .i64 x, .int .i64 y, .int .i64 z, .int .i64 x, .int .i64 y, .int .i64 z] 60))
  clear h1 h2 hB hn1 hn2 hok
  rcases hway with ⟨rfl, rfl⟩ | ⟨rfl, rfl⟩
  all_goals
    go_enter Tryz.func23, Tryz.ntmps23
    go_wp2_with fail
    refine (HS.out _ HW.out).mono ?_
    rintro e w1 ⟨rfl, hb⟩
    have KS := hide (KS.out.keep hb)
    have K0 := hide (K0.out.keep hb)
    have HW := hide (below_step HW.out hb (Nat.le_refl _))
    have c0 := K0.out.cell 0
    have c1 := K0.out.cell 1
    have c2 := K0.out.cell 2
    have c3 := K0.out.cell 3
    have c4 := K0.out.cell 4
    have c5 := K0.out.cell 5
    simp at c0 c1 c2 c3 c4 c5
    have lk := K0.out.lt
    clear hb HS
    go_wp2_with fail
    refine (HV.out _).mono ?_
    rintro e w2 ⟨rfl, hb⟩
    have KS := hide (KS.out.keep hb)
    clear c0 c1 c2 c3 c4 c5 lk
    have K0 := hide (K0.out.keep hb)
    have HW := hide (below_step HW.out hb (Nat.le_refl _))
    have c0 := K0.out.cell 0
    have c1 := K0.out.cell 1
    have c2 := K0.out.cell 2
    have c3 := K0.out.cell 3
    have c4 := K0.out.cell 4
    have c5 := K0.out.cell 5
    simp at c0 c1 c2 c3 c4 c5
    have lk := K0.out.lt
    have s0 := KS.out.cell 0
    have s1 := KS.out.cell 1
    simp at s0 s1
    have ls := KS.out.lt
    clear hb HV
    go_wp2_with fail
  · refine (HC.out (by trivial) _ HW.out).mono ?_
    rintro e w3 ⟨rfl, hb⟩
    have HW := hide (below_step HW.out hb (Nat.le_refl _))
    clear hb HC c0 c1 c2 c3 c4 c5 lk s0 s1 ls
    go_wp2_with fail
    go_ret2
    exact ⟨.inl rfl, HW.out⟩
  · go_ret2
    exact ⟨.inr ⟨by trivial, rfl⟩, HW.out⟩
end Go.Proofs.YtmcjpdlkkpnhfaaGreatDoor
