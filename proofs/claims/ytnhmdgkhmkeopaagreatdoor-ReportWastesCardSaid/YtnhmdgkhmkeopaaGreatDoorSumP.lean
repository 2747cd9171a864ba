/- Plain: the lines of a report, split again, and the numbers of a line; sums over sizes. No walk stands here. -/
import Derived.Test.YtnhmdgkhmkeopaaGreatDoorSteelRep
import Derived.Test.YtnhmdgkhmkeopaaGreatDoorLinesP
import Derived.Test.YtnhmdgkhmkeopaaGreatDoorBackP
import Derived.Lib.Split
import Derived.Lib.Fields
namespace Go.Proofs.YtnhmdgkhmkeopaaGreatDoor
open Go.RowKit

theorem index_at {y r : List UInt8} (h : ∀ c ∈ y, c ≠ 10) : Lib.index (y ++ 10 :: r) [10] = y.length := by
  have hat : (y ++ 10 :: r)[y.length]? = some 10 := by simp
  rw [Lib.index_one]
  by_cases hm : Lib.indexByte (y ++ 10 :: r) 10 = -1
  · exact absurd hat (Lib.indexByte_none hm _)
  · have hge := Lib.indexByte_ge (y ++ 10 :: r) 10
    obtain ⟨i, hi⟩ := Int.eq_ofNat_of_zero_le (show 0 ≤ Lib.indexByte (y ++ 10 :: r) 10 by omega)
    rw [hi]
    obtain ⟨h1, h2⟩ := Lib.indexByte_some hi
    rcases Nat.lt_trichotomy i y.length with hlt | heq | hgt
    · rw [List.getElem?_append_left hlt] at h1
      exact absurd rfl (h 10 (mem_of_get h1))
    · rw [heq]
    · exact absurd hat (h2 _ hgt)
theorem index_nil10 : Lib.index [] [10] = -1 := by decide
/-- A text of ended lines, split at the newlines. -/
theorem split_text : ∀ (ls : List (List UInt8)), (∀ l ∈ ls, ∀ c ∈ l, c ≠ 10) →
    Lib.count (ls.flatMap (· ++ [10])) [10] = ls.length ∧ Lib.splitK [10] 0 ls.length (ls.flatMap (· ++ [10])) = ls ++ [[]] := by
  intro ls
  induction ls with
  | nil => intro _; exact ⟨Lib.count_miss index_nil10, rfl⟩
  | cons y r ih =>
    intro h
    obtain ⟨h1, h2⟩ := ih (fun l hl => h l (List.mem_cons_of_mem _ hl))
    have hi := index_at (y := y) (r := r.flatMap (· ++ [10])) (h y (List.mem_cons_self ..))
    have hs : (y :: r).flatMap (· ++ [10]) = y ++ 10 :: r.flatMap (· ++ [10]) := by simp
    have hdrop : (y ++ 10 :: r.flatMap (· ++ [10])).drop (y.length + 1) = r.flatMap (· ++ [10]) := by
      rw [List.drop_append, List.drop_eq_nil_of_le (by omega)]
      simp
    rw [hs]
    constructor
    · rw [Lib.count_hit (by simp) hi]
      simp only [List.length_cons, List.length_nil, Nat.zero_add]
      rw [hdrop, h1]
      omega
    · rw [List.length_cons, Lib.splitK, hi, if_neg (by simp)]
      simp only [Int.toNat_natCast, Nat.add_zero, List.length_cons, List.length_nil, Nat.zero_add]
      rw [hdrop, h2]
      simp

theorem fieldsGo_word : ∀ (y r cur : List UInt8), (∀ c ∈ y, Lib.isSp c = false) → Lib.fieldsGo cur (y ++ r) = Lib.fieldsGo (cur ++ y) r := by
  intro y
  induction y with
  | nil => intro r cur _; simp
  | cons c y ih =>
    intro r cur h
    rw [List.cons_append, Lib.fieldsGo, h c (List.mem_cons_self ..), if_neg (by simp), ih _ _ (fun x hx => h x (List.mem_cons_of_mem _ hx))]
    simp
/-- A word that holds something, and no blank. -/
def Word.plain (x : Word) : Prop := x.bytes ≠ [] ∧ (∀ c ∈ x.bytes, Lib.isSp c = false) ∧ (∀ c ∈ x.bytes, c.toNat < 128)
theorem fields_spaced : ∀ (ws : List Word), (∀ x ∈ ws, x.plain) → Lib.fields (spaced ws) = ws.map Word.bytes := by
  intro ws
  unfold Lib.fields
  induction ws with
  | nil => intro _; rfl
  | cons x r ih =>
    intro h
    obtain ⟨h1, h2, _⟩ := h x (List.mem_cons_self ..)
    have hne : x.bytes.isEmpty = false := by
      cases hb : x.bytes with
      | nil => exact absurd hb h1
      | cons c q => rfl
    cases r with
    | nil =>
      rw [spaced]
      have := fieldsGo_word x.bytes [] [] h2
      rw [List.append_nil, List.nil_append] at this
      rw [this, Lib.fieldsGo, hne, if_neg (by simp)]
      rfl
    | cons y r =>
      rw [spaced, fieldsGo_word _ _ _ h2, List.nil_append, Lib.fieldsGo, show Lib.isSp 32 = true from rfl, if_pos rfl, hne, if_neg (by simp), ih (fun z hz => h z (List.mem_cons_of_mem _ hz))]
      rfl
theorem spaced_mem {c : UInt8} : ∀ (ws : List Word), c ∈ spaced ws → c = 32 ∨ ∃ x ∈ ws, c ∈ x.bytes := by
  intro ws
  induction ws with
  | nil => intro h; simp [spaced] at h
  | cons x r ih =>
    intro h
    cases r with
    | nil => rw [spaced] at h; exact .inr ⟨x, List.mem_cons_self .., h⟩
    | cons y r =>
      rw [spaced] at h
      rcases List.mem_append.1 h with h | h
      · exact .inr ⟨x, List.mem_cons_self .., h⟩
      · rcases List.mem_cons.1 h with rfl | h
        · exact .inl rfl
        · rcases ih h with h | ⟨z, hz, hc⟩
          · exact .inl h
          · exact .inr ⟨z, List.mem_cons_of_mem _ hz, hc⟩
theorem isSp_not {c : UInt8} (h : Lib.isSp c = false) : c ≠ 10 := by rintro rfl; revert h; decide
theorem digit_sp {c : UInt8} (h : isDigit c.toNat = true) : Lib.isSp c = false ∧ c.toNat < 128 := by
  simp only [isDigit, Bool.and_eq_true, decide_eq_true_eq] at h
  refine ⟨?_, by omega⟩
  rw [Bool.eq_false_iff]
  intro h2
  simp only [Lib.isSp, Bool.or_eq_true, beq_iff_eq] at h2
  rcases h2 with ((((h2 | h2) | h2) | h2) | h2) | h2 <;> (subst h2; revert h; decide)
theorem num_plain {n : Int} (h : 0 ≤ n) : (Word.num n).plain ∧ Lib.atoi (Word.num n).bytes = some n := by
  obtain ⟨k, rfl⟩ := Int.eq_ofNat_of_zero_le h
  obtain ⟨v1, v2, v3, _, _⟩ := numVal_dec k
  simp only [Word.bytes, itoa_nat]
  refine ⟨⟨by simpa [Word.bytes, itoa_nat] using v3, ?_, ?_⟩, ?_⟩
  · intro c hc
    simp only [Word.bytes, itoa_nat] at hc
    exact (digit_sp (List.all_eq_true.1 v2 c hc)).1
  · intro c hc
    simp only [Word.bytes, itoa_nat] at hc
    exact (digit_sp (List.all_eq_true.1 v2 c hc)).2
  · rw [atoi_digits v3 v2, v1]
theorem wSize_plain : (Word.str wSize).plain ∧ Lib.atoi (Word.str wSize).bytes = none ∧ (Word.str wSize).bytes.length ≤ 18 := by
  refine ⟨⟨by decide, ?_, ?_⟩, by decide, by decide⟩ <;> (show ∀ c ∈ ([115, 105, 122, 101] : List UInt8), _; decide)
theorem wBars_plain : (Word.str wBars).plain ∧ Lib.atoi (Word.str wBars).bytes = none ∧ (Word.str wBars).bytes.length ≤ 18 := by
  refine ⟨⟨by decide, ?_, ?_⟩, by decide, by decide⟩ <;> (show ∀ c ∈ ([98, 97, 114, 115] : List UInt8), _; decide)
theorem wMass_plain : (Word.str wMass).plain ∧ Lib.atoi (Word.str wMass).bytes = none ∧ (Word.str wMass).bytes.length ≤ 18 := by
  refine ⟨⟨by decide, ?_, ?_⟩, by decide, by decide⟩ <;> (show ∀ c ∈ ([109, 97, 115, 115] : List UInt8), _; decide)
theorem wAll_plain : (Word.str wAll).plain ∧ Lib.atoi (Word.str wAll).bytes = none ∧ (Word.str wAll).bytes.length ≤ 18 := by
  refine ⟨⟨by decide, ?_, ?_⟩, by decide, by decide⟩ <;> (show ∀ c ∈ ([97, 108, 108] : List UInt8), _; decide)
theorem num_len {n : Int} (h : 0 ≤ n) (h1 : n < 10000000000000000) : (Word.num n).bytes.length ≤ 18 := by
  obtain ⟨k, rfl⟩ := Int.eq_ofNat_of_zero_le h
  have := dec_len 15 k (by omega)
  simp only [Word.bytes, itoa_nat]
  omega
/-- The numbers among the fields of a line. -/
def lineNums (l : List UInt8) : List Int := (Lib.fields l).filterMap Lib.atoi
/-- A line that can be read by 'numbers'. -/
def LineFit (l : List UInt8) : Prop := l.length ≤ 300000 ∧ (∀ c ∈ l, c.toNat < 128) ∧ ∀ f ∈ Lib.fields l, f.length ≤ 18
theorem fit_of {ws : List Word} (hl : ws.length ≤ 100) (h : ∀ x ∈ ws, x.plain ∧ x.bytes.length ≤ 18) : LineFit (spaced ws) ∧ (∀ c ∈ spaced ws, c ≠ 10) := by
  have hlen : ∀ (ws : List Word), (∀ x ∈ ws, x.bytes.length ≤ 18) → (spaced ws).length ≤ 19 * ws.length := by
    intro ws
    induction ws with
    | nil => intro _; simp [spaced]
    | cons x r ih =>
      intro h
      have h1 := h x (List.mem_cons_self ..)
      have h2 := ih (fun y hy => h y (List.mem_cons_of_mem _ hy))
      cases r with
      | nil => simp only [spaced, List.length_cons, List.length_nil]; omega
      | cons y r => simp only [spaced, List.length_append, List.length_cons] at h2 ⊢; omega
  refine ⟨⟨?_, ?_, ?_⟩, ?_⟩
  · have := hlen ws (fun x hx => (h x hx).2); omega
  · intro c hc
    rcases spaced_mem ws hc with rfl | ⟨x, hx, hc⟩
    · decide
    · exact (h x hx).1.2.2 c hc
  · intro f hf
    rw [fields_spaced ws (fun x hx => (h x hx).1)] at hf
    obtain ⟨x, hx, rfl⟩ := List.mem_map.1 hf
    exact (h x hx).2
  · intro c hc
    rcases spaced_mem ws hc with rfl | ⟨x, hx, hc⟩
    · decide
    · exact isSp_not ((h x hx).1.2.1 c hc)

/-! The lines of the report. -/
def sizeLine (l : List BarD) (p : Int × Int) : List UInt8 := spaced (sizeWords l p)
def allLine (l : List BarD) : List UInt8 := spaced (allWords l)
def repLines (l : List BarD) : List (List UInt8) := (massSteps l steelSizes).map (sizeLine l) ++ [allLine l]
theorem steelText_lines (l : List BarD) : steelText l = (repLines l).flatMap (· ++ [10]) := by
  rw [steelText, repLines, List.flatMap_append, sizeLines, List.flatMap_map]
  simp [lineBytes, allLine, sizeLine]
theorem mem_size {l : List BarD} (hok : schedOk l = true) {p : Int × Int} (hp : p ∈ massSteps l steelSizes) :
    (0 ≤ p.1 ∧ p.1 ≤ 100) ∧ (0 ≤ sumOf BarD.count l p.1 ∧ sumOf BarD.count l p.1 ≤ 60000) ∧ 0 ≤ p.2 ∧ p.2 ≤ 1000000000000 := by
  obtain ⟨h1, h2⟩ := steps_mem hp
  have hl := schedOk_len hok
  have hm := sumMass_range (schedOk_mem hok) p.1
  have hc := sumOfCount_range (schedOk_mem hok) p.1
  rw [h2]
  refine ⟨?_, by omega, by omega⟩
  simp only [steelSizes, List.mem_cons, List.not_mem_nil, or_false] at h1
  omega
theorem sizeLine_fit {l : List BarD} (hok : schedOk l = true) {p : Int × Int} (hp : p ∈ massSteps l steelSizes) :
    LineFit (sizeLine l p) ∧ (∀ c ∈ sizeLine l p, c ≠ 10) ∧ lineNums (sizeLine l p) = [p.1, sumOf BarD.count l p.1, p.2] := by
  obtain ⟨⟨a1, a2⟩, ⟨b1, b2⟩, c1, c2⟩ := mem_size hok hp
  have hw : ∀ x ∈ sizeWords l p, x.plain ∧ x.bytes.length ≤ 18 := by
    intro x hx
    simp only [sizeWords, List.mem_cons, List.not_mem_nil, or_false] at hx
    rcases hx with rfl | rfl | rfl | rfl | rfl | rfl
    · exact ⟨wSize_plain.1, wSize_plain.2.2⟩
    · exact ⟨(num_plain a1).1, num_len a1 (by omega)⟩
    · exact ⟨wBars_plain.1, wBars_plain.2.2⟩
    · exact ⟨(num_plain b1).1, num_len b1 (by omega)⟩
    · exact ⟨wMass_plain.1, wMass_plain.2.2⟩
    · exact ⟨(num_plain c1).1, num_len c1 (by omega)⟩
  obtain ⟨f1, f2⟩ := fit_of (ws := sizeWords l p) (by simp [sizeWords]) hw
  refine ⟨f1, f2, ?_⟩
  rw [lineNums, sizeLine, fields_spaced _ (fun x hx => (hw x hx).1)]
  simp [sizeWords, wSize_plain.2.1, wBars_plain.2.1, wMass_plain.2.1, (num_plain a1).2, (num_plain b1).2, (num_plain c1).2]
theorem allLine_fit {l : List BarD} (hok : schedOk l = true) :
    LineFit (allLine l) ∧ (∀ c ∈ allLine l, c ≠ 10) ∧ lineNums (allLine l) = [sumCount l, total (massList l)] := by
  have hl := schedOk_len hok
  have hc := sumCount_range (schedOk_mem hok)
  have ht := total_range hok
  have hw : ∀ x ∈ allWords l, x.plain ∧ x.bytes.length ≤ 18 := by
    intro x hx
    simp only [allWords, List.mem_cons, List.not_mem_nil, or_false] at hx
    rcases hx with rfl | rfl | rfl | rfl | rfl
    · exact ⟨wAll_plain.1, wAll_plain.2.2⟩
    · exact ⟨wBars_plain.1, wBars_plain.2.2⟩
    · exact ⟨(num_plain hc.1).1, num_len hc.1 (by omega)⟩
    · exact ⟨wMass_plain.1, wMass_plain.2.2⟩
    · exact ⟨(num_plain ht.1).1, num_len ht.1 (by omega)⟩
  obtain ⟨f1, f2⟩ := fit_of (ws := allWords l) (by simp [allWords]) hw
  refine ⟨f1, f2, ?_⟩
  rw [lineNums, allLine, fields_spaced _ (fun x hx => (hw x hx).1)]
  simp [allWords, wAll_plain.2.1, wBars_plain.2.1, wMass_plain.2.1, (num_plain hc.1).2, (num_plain ht.1).2]
/-- The report, split: its lines, and what is behind the last newline: nothing. -/
def splitOf (s : ByteArray) : List ByteArray := Lib.splitB ⟨#[10]⟩ 0 (Lib.countB s ⟨#[10]⟩) s
theorem split_report {l : List BarD} (hok : schedOk l = true) :
    Lib.countB ⟨(steelText l).toArray⟩ ⟨#[10]⟩ = (repLines l).length ∧ splitOf ⟨(steelText l).toArray⟩ = (repLines l).map (fun y => ⟨y.toArray⟩) ++ [.empty] := by
  have hno : ∀ y ∈ repLines l, ∀ c ∈ y, c ≠ 10 := by
    intro y hy
    simp only [repLines, List.mem_append, List.mem_map, List.mem_singleton] at hy
    rcases hy with ⟨p, hp, rfl⟩ | rfl
    · exact (sizeLine_fit hok hp).2.1
    · exact (allLine_fit hok).2.1
  obtain ⟨h1, h2⟩ := split_text (repLines l) hno
  rw [← steelText_lines] at h1 h2
  have hc : Lib.countB ⟨(steelText l).toArray⟩ ⟨#[10]⟩ = (repLines l).length := h1
  refine ⟨hc, ?_⟩
  have h3 := Lib.splitB_data ⟨#[10]⟩ 0 (repLines l).length ⟨(steelText l).toArray⟩
  rw [show (⟨(steelText l).toArray⟩ : ByteArray).data.toList = steelText l by simp, show (⟨#[10]⟩ : ByteArray).data.toList = [10] from rfl, h2] at h3
  rw [splitOf, hc]
  have h4 := congrArg (List.map fun y : List UInt8 => (⟨y.toArray⟩ : ByteArray)) h3
  rw [List.map_map, List.map_append] at h4
  have h5 : ((fun y : List UInt8 => (⟨y.toArray⟩ : ByteArray)) ∘ fun x : ByteArray => x.data.toList) = id := by
    funext b
    exact bytes_mk b
  rw [h5, List.map_id] at h4
  exact h4

/-! Sums. -/
theorem hasSize_false {l : List BarD} {d : Int} (h : hasSize l d = false) (f : BarD → Int) : sumOf f l d = 0 := by
  simp only [hasSize, anyOf, List.any_eq_false] at h
  have key : ∀ (l : List BarD) (a : Int), (∀ x ∈ l, ¬ (x.size == d) = true) → l.foldl (fun s x => if x.size = d then s + f x else s) a = a := by
    intro l
    induction l with
    | nil => intro a _; rfl
    | cons x r ih =>
      intro a h
      rw [List.foldl_cons, if_neg (by simpa using h x (List.mem_cons_self ..))]
      exact ih a (fun y hy => h y (List.mem_cons_of_mem _ hy))
  exact key l 0 h
theorem total_acc (l : List Int) (a : Int) : l.foldl (fun s n => s + n) a = a + total l := by
  unfold total
  induction l generalizing a with
  | nil => simp
  | cons x r ih => rw [List.foldl_cons, List.foldl_cons, ih, ih (0 + x)]; omega
theorem total_cons (x : Int) (l : List Int) : total (x :: l) = x + total l := by
  have := total_acc l (0 + x)
  rw [total, List.foldl_cons, this]; omega
/-- Sizes without bars add nothing. -/
theorem total_filter (l : List BarD) (f : BarD → Int) : ∀ ds : List Int, total ((ds.filter (hasSize l)).map (sumOf f l)) = total (ds.map (sumOf f l)) := by
  intro ds
  induction ds with
  | nil => rfl
  | cons d r ih =>
    rw [List.filter_cons]
    cases h : hasSize l d
    · rw [if_neg (by simp), ih, List.map_cons, total_cons, hasSize_false h]; omega
    · rw [if_pos rfl, List.map_cons, List.map_cons, total_cons, total_cons, ih]
theorem steps_mass (l : List BarD) : total ((massSteps l steelSizes).map (·.2)) = total (massList l) := by
  rw [massSteps, List.map_map, massList, ← total_filter]
  rfl
theorem total_add (f g : Int → Int) : ∀ ds : List Int, total (ds.map fun d => f d + g d) = total (ds.map f) + total (ds.map g) := by
  intro ds
  induction ds with
  | nil => rfl
  | cons d r ih => rw [List.map_cons, List.map_cons, List.map_cons, total_cons, total_cons, total_cons, ih]; omega
theorem total_zero : ∀ ds : List Int, total (ds.map fun _ => (0 : Int)) = 0 := by
  intro ds
  induction ds with
  | nil => rfl
  | cons d r ih => rw [List.map_cons, total_cons, ih]; rfl
theorem total_one {d : Int} (v : Int) : ∀ {ds : List Int}, ds.Nodup → d ∈ ds → total (ds.map fun e => if d = e then v else 0) = v := by
  intro ds
  induction ds with
  | nil => intro _ h; cases h
  | cons e r ih =>
    intro hn hm
    rw [List.map_cons, total_cons]
    rw [List.nodup_cons] at hn
    rcases List.mem_cons.1 hm with rfl | h
    · rw [if_pos rfl]
      have : r.map (fun e => if d = e then v else 0) = r.map (fun _ => (0 : Int)) := by
        apply List.map_congr_left
        intro x hx
        rw [if_neg]
        rintro rfl
        exact hn.1 hx
      rw [this, total_zero]; omega
    · rw [if_neg (by rintro rfl; exact hn.1 h), ih hn.2 h]; omega
/-- Every bar has one of the sizes. -/
theorem count_all {ds : List Int} (hn : ds.Nodup) : ∀ (l : List BarD), (∀ x ∈ l, x.size ∈ ds) → total (ds.map (sumOf BarD.count l)) = sumCount l := by
  intro l
  have key : ∀ r : List BarD, (∀ x ∈ r.reverse, x.size ∈ ds) → total (ds.map (sumOf BarD.count r.reverse)) = sumCount r.reverse := by
    intro r
    induction r with
    | nil => intro _; exact total_zero ds
    | cons x r ih =>
      intro h
      rw [List.reverse_cons] at h ⊢
      have h1 := ih (fun y hy => h y (List.mem_append_left _ hy))
      have h2 := h x (by simp)
      rw [sumCount_snoc, ← h1]
      have h3 : ds.map (sumOf BarD.count (r.reverse ++ [x])) = ds.map (fun d => sumOf BarD.count r.reverse d + if x.size = d then x.count else 0) := by
        apply List.map_congr_left
        intro d _
        rw [sumOf_snoc]
        split <;> omega
      rw [h3, total_add, total_one _ hn h2]
  intro h
  have := key l.reverse
  rw [List.reverse_reverse] at this
  exact this h
theorem steps_count {l : List BarD} (hok : schedOk l = true) : total ((massSteps l steelSizes).map fun p => sumOf BarD.count l p.1) = sumCount l := by
  rw [massSteps, List.map_map]
  show total ((steelSizes.filter (hasSize l)).map (sumOf BarD.count l)) = _
  rw [total_filter]
  refine count_all (by decide) l (fun x hx => ?_)
  have := schedOk_mem hok x hx
  simp only [barOk, barPre, Bool.and_eq_true] at this
  exact isSize_mem (by simp_all)
theorem count_pos {l : List BarD} (hok : schedOk l = true) {d : Int} (h : hasSize l d = true) : 1 ≤ sumOf BarD.count l d := by
  have hm := schedOk_mem hok
  clear hok
  have key : ∀ (l : List BarD) (a : Int), (∀ x ∈ l, 1 ≤ x.count) → a ≤ l.foldl (fun s x => if x.size = d then s + x.count else s) a ∧ ((∃ x ∈ l, x.size = d) → a + 1 ≤ l.foldl (fun s x => if x.size = d then s + x.count else s) a) := by
    intro l
    induction l with
    | nil => intro a _; exact ⟨Int.le_refl _, fun ⟨x, hx, _⟩ => by cases hx⟩
    | cons x r ih =>
      intro a h
      have hx := h x (List.mem_cons_self ..)
      have i1 := ih a (fun y hy => h y (List.mem_cons_of_mem _ hy))
      have i2 := ih (a + x.count) (fun y hy => h y (List.mem_cons_of_mem _ hy))
      rw [List.foldl_cons]
      by_cases hd : x.size = d
      · rw [if_pos hd]
        exact ⟨by omega, fun _ => by omega⟩
      · rw [if_neg hd]
        refine ⟨i1.1, ?_⟩
        rintro ⟨y, hy, hd2⟩
        rcases List.mem_cons.1 hy with rfl | hy
        · exact absurd hd2 hd
        · exact i1.2 ⟨y, hy, hd2⟩
  have hx : ∃ x ∈ l, x.size = d := by
    simp only [hasSize, anyOf, List.any_eq_true, beq_iff_eq] at h
    exact h
  have := (key l 0 (fun x hx => by
    have h1 := hm x hx
    simp only [barOk, barPre, Bool.and_eq_true, decide_eq_true_eq] at h1
    simp_all)).2 hx
  unfold sumOf
  omega
/-- The sizes of the lines ascend. -/
theorem steps_sorted (l : List BarD) : ((massSteps l steelSizes).map (·.1)).Pairwise (· < ·) := by
  have h : (massSteps l steelSizes).map (·.1) = steelSizes.filter (hasSize l) := by
    rw [massSteps, List.map_map]
    exact List.map_id _
  rw [h]
  exact List.Pairwise.filter _ (by decide)
theorem steps_has {l : List BarD} {p : Int × Int} (h : p ∈ massSteps l steelSizes) : hasSize l p.1 = true := by
  simp only [massSteps, List.mem_map, List.mem_filter] at h
  obtain ⟨d, ⟨_, hd⟩, rfl⟩ := h
  exact hd
end Go.Proofs.YtnhmdgkhmkeopaaGreatDoor
