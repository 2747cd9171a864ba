/- Plain: findings are read from their text, and a text that is read is the text of its findings. No walk stands here. -/
import Derived.Test.YtnhmdgkhmkeopaaGreatDoorLinesP
import Derived.Test.YtnhmdgkhmkeopaaGreatDoorParP
namespace Go.Proofs.YtnhmdgkhmkeopaaGreatDoor
open Go.RowKit

theorem bytes_ext {a b : ByteArray} (h : a.data.toList = b.data.toList) : a = b := by
  apply ByteArray.ext
  exact Array.ext' h
theorem bytes_mk (b : ByteArray) : (⟨b.data.toList.toArray⟩ : ByteArray) = b := bytes_ext (by simp)
theorem index_first32 {b : ByteArray} {d r : List UInt8} (h : b.data.toList = d ++ 32 :: r) (hd : ∀ c ∈ d, c ≠ 32) : Lib.indexB b ⟨#[32]⟩ = d.length := by
  have hat : b.data.toList[d.length]? = some 32 := by rw [h]; simp
  rcases Lib.indexB_cases b ⟨#[32]⟩ with hm | ⟨i, hi, _⟩
  · exact absurd hat (indexB_miss hm _)
  · rw [hi]
    obtain ⟨h1, h2⟩ := indexB_hit hi
    rcases Nat.lt_trichotomy i d.length with hlt | heq | hgt
    · rw [h, List.getElem?_append_left hlt] at h1
      exact absurd rfl (hd 32 (mem_of_get h1))
    · rw [heq]
    · exact absurd hat (h2 _ hgt)
theorem cut32 {b : ByteArray} {d r : List UInt8} (h : b.data.toList = d ++ 32 :: r) (hd : ∀ c ∈ d, c ≠ 32) :
    Lib.indexB b ⟨#[32]⟩ = d.length ∧ (cutFst 32 b).data.toList = d ∧ (cutSnd 32 b).data.toList = r ∧ cutIs 32 b = true := by
  have hi := index_first32 h hd
  obtain ⟨c1, c2, c3⟩ := cut_hit hi
  refine ⟨hi, ?_, ?_, c3⟩
  · rw [c1, extract_list, h]; simp
  · rw [c2, extract_list, List.take_of_length_le (by simp), h]
    simp
theorem dec_len : ∀ (k n : Nat), n < 10 ^ (k + 1) → (Lib.decDigits n).length ≤ k + 1 := by
  intro k
  induction k with
  | zero => intro n h; rw [Lib.decDigits_one (by omega)]; simp
  | succ k ih =>
    intro n h
    by_cases h10 : n < 10
    · rw [Lib.decDigits_one h10]; simp
    · rw [Lib.decDigits, dif_neg h10, List.length_append]
      have := ih (n / 10) (by rw [Nat.pow_succ] at h; omega)
      simp
      omega
theorem numGood_dec (n : Nat) (h : n < 10000000) : numGood (Lib.decDigits n) = true ∧ (Lib.decDigits n).length ≤ 7 := by
  obtain ⟨_, h2, h3, h4, _⟩ := numVal_dec n
  have hl := dec_len 6 n (by omega)
  refine ⟨?_, hl⟩
  have h1 : 1 ≤ (Lib.decDigits n).length := by
    cases hq : Lib.decDigits n with
    | nil => exact absurd hq h3
    | cons c r => simp
  rw [numGood, h2, Bool.and_true]
  simp only [numForm, Bool.and_eq_true, decide_eq_true_eq, Bool.not_eq_true', Bool.and_eq_false_iff, decide_eq_false_iff_not]
  refine ⟨⟨h1, by omega⟩, ?_⟩
  by_cases h0 : n = 0
  · left; subst h0; rw [Lib.decDigits_one (by omega)]; simp
  · right
    cases hb : ((Lib.decDigits n).head? == some 48)
    · rfl
    · exact absurd (h4 (by simpa using hb)) h0

theorem finGood' {x : FinD} (h : finBad x = false) : (0 ≤ x.kind ∧ x.kind ≤ 1000000) ∧ isName x.name = true := by
  simp only [finBad, Bool.or_eq_false_iff, decide_eq_false_iff_not, Bool.not_eq_false'] at h
  exact ⟨by omega, h.2⟩
theorem itoa_pos {n : Int} (h0 : 0 ≤ n) : Lib.itoa n = Lib.decDigits n.toNat := by
  obtain ⟨k, rfl⟩ := Int.eq_ofNat_of_zero_le h0
  rw [Lib.itoa_nonneg]
  rfl
/-- A finding's line is read as the finding. -/
theorem line_read {x : FinD} (h : finBad x = false) {b : ByteArray} (hb : b.data.toList = finLineL x) : rfOk b = true ∧ toFin b = x := by
  obtain ⟨⟨h0, h1⟩, hn⟩ := finGood' h
  obtain ⟨kind, name⟩ := x
  obtain ⟨n, rfl⟩ := Int.eq_ofNat_of_zero_le h0
  simp only [finLineL] at hb
  rw [itoa_nat] at hb
  obtain ⟨v1, v2, _, _, _⟩ := numVal_dec n
  obtain ⟨g1, g2⟩ := numGood_dec n (by simp only at h1; omega)
  obtain ⟨hi, c1, c2, c3⟩ := cut32 hb (fun c hc => (digit_not v2 hc).1)
  have hname : cutSnd 32 b = name := bytes_ext c2
  have hsz : (cutFst 32 b).size ≤ 7 := by
    have : (cutFst 32 b).data.toList.length = (cutFst 32 b).size := by simp
    rw [c1] at this
    omega
  obtain ⟨p1, p2, p3⟩ := pf_good c3 (by rw [hname]; exact hn) hsz (by rw [c1]; exact g1)
  refine ⟨p1, ?_⟩
  rw [toFin_pf p1, p2, p3, c1, v1, hname]
/-- What is read of a line is written as the line. -/
theorem line_write {b : ByteArray} (h : rfOk b = true) : finLineL (toFin b) = b.data.toList ∧ 0 ≤ (toFin b).kind ∧ isName (toFin b).name = true := by
  rcases Lib.indexB_cases b ⟨#[32]⟩ with hm | ⟨i, hi, _⟩
  · rw [rfOk, rfForm_miss hm] at h; cases h
  · have h2 := h
    rw [rfOk_hit hi] at h2
    simp only [Bool.and_eq_true, decide_eq_true_eq] at h2
    obtain ⟨⟨hn, h7⟩, hg⟩ := h2
    obtain ⟨c1, c2, c3⟩ := cut_hit hi
    obtain ⟨p1, p2, p3⟩ := pf_good c3 hn h7 hg
    have hd : allDigits (cutFst 32 b).data.toList = true := by rw [numGood, Bool.and_eq_true] at hg; exact hg.2
    have hf : numForm (cutFst 32 b).data.toList = true := by rw [numGood, Bool.and_eq_true] at hg; exact hg.1
    simp only [numForm, Bool.and_eq_true, decide_eq_true_eq, Bool.not_eq_true', Bool.and_eq_false_iff, decide_eq_false_iff_not] at hf
    have hne : (cutFst 32 b).data.toList ≠ [] := by intro h0; rw [h0] at hf; simp at hf
    have hz : (cutFst 32 b).data.toList.length = 1 ∨ (cutFst 32 b).data.toList.head? ≠ some 48 := by
      rcases hf.2 with h3 | h3
      · left; omega
      · right; simpa using h3
    have hdv := dec_numVal _ hd hne hz
    have hr := numVal_range _ hd
    obtain ⟨g1, _⟩ := indexB_hit hi
    rw [toFin_pf p1, p2, p3]
    refine ⟨?_, hr.1, hn⟩
    simp only [finLineL]
    rw [itoa_pos hr.1, hdv, c1, c2, extract_list, extract_list, List.drop_zero, List.take_of_length_le (i := b.size) (by simp), ← drop_at' g1, List.take_append_drop]

theorem finErr_zero {l : List FinD} (h : finErr l = 0) : l.length ≤ 1000 ∧ anyOf finBad l = false ∧ finStr l = ⟨(finLines l).toArray⟩ := by
  unfold finErr at h
  unfold finStr
  by_cases h1 : 1000 < l.length
  · rw [if_pos h1] at h; omega
  · rw [if_neg h1] at h ⊢
    cases h2 : anyOf finBad l
    · exact ⟨by omega, rfl, by simp⟩
    · rw [h2, if_pos rfl] at h; omega
theorem finLines_len' {l : List FinD} (h : ∀ x ∈ l, finBad x = false) : (finLines l).length ≤ 40 * l.length := by
  induction l with
  | nil => simp [finLines]
  | cons x l ih =>
    have h1 := ih (fun y hy => h y (List.mem_cons_of_mem _ hy))
    obtain ⟨⟨h0, h2⟩, hn⟩ := finGood' (h x (List.mem_cons_self ..))
    have h3 := (finGood (h x (List.mem_cons_self ..))).2
    obtain ⟨n, hk⟩ := Int.eq_ofNat_of_zero_le h0
    have h4 := dec_len 6 n (by omega)
    rw [finLines_flat] at h1 ⊢
    rw [List.map_cons, List.flatMap_cons, List.length_append]
    have h5 : (finLineL x).length ≤ 30 := by
      rw [finLineL, hk, itoa_nat, List.length_append, List.length_cons]
      have : x.name.data.toList.length = x.name.size := by simp
      omega
    simp only [List.length_append, List.length_cons, List.length_nil] at h1 ⊢
    omega
/-- FINDINGS ARE READ FROM THEIR TEXT. -/
theorem text_read {l : List FinD} (hf : fewOk l = true) (h : finErr l = 0) : pErr (finStr l) = 0 ∧ pLine (finStr l) = 0 ∧ pCol (finStr l) = 0 ∧ pOut (finStr l) = l := by
  obtain ⟨hl, hb, hs⟩ := finErr_zero h
  have hb' : ∀ x ∈ l, finBad x = false := by
    intro x hx
    rw [anyOf, List.any_eq_false] at hb
    simpa using hb x hx
  have hn60 : l.length ≤ 60 := by
    simp only [fewOk, fewLen, Bool.and_eq_true, Bool.or_eq_true, decide_eq_true_eq] at hf
    omega
  rw [hs]
  generalize ht : (⟨(finLines l).toArray⟩ : ByteArray) = t
  have hd : t.data.toList = (l.map finLineL).flatMap (· ++ [10]) := by rw [← ht, ← finLines_flat]
  have hno : ∀ y ∈ l.map finLineL, ∀ c ∈ y, c ≠ 10 := by
    intro y hy c hc
    obtain ⟨x, hx, rfl⟩ := List.mem_map.1 hy
    obtain ⟨⟨h0, _⟩, hn⟩ := finGood' (hb' x hx)
    obtain ⟨n, hk⟩ := Int.eq_ofNat_of_zero_le h0
    rw [finLineL, hk, itoa_nat] at hc
    rcases List.mem_append.1 hc with hc | hc
    · exact (digit_not (numVal_dec n).2.1 hc).2
    · rcases List.mem_cons.1 hc with rfl | hc
      · decide
      · obtain ⟨j, hj, rfl⟩ := List.getElem_of_mem hc
        exact (name_no hn (List.getElem?_eq_getElem hj)).2
  obtain ⟨s1, s2⟩ := splitL_text _ hno
  have hlines : (linesB t).map (·.data.toList) = l.map finLineL := by rw [linesB_list, hd, s1]
  have hopen : openEnd t = false := by rw [openEnd_list, hd, s2]; rfl
  have hlen : (linesB t).length = l.length := by have := congrArg List.length hlines; simpa using this
  have hat : ∀ (k : Nat) (b : ByteArray) (x : FinD), (linesB t)[k]? = some b → l[k]? = some x → rfOk b = true ∧ toFin b = x := by
    intro k b x h1 h2
    have := congrArg (·[k]?) hlines
    simp only [List.getElem?_map, h1, h2, Option.map_some, Option.some.injEq] at this
    exact line_read (hb' x (mem_of_get h2)) this
  have hfins : fins t = l := by
    apply List.ext_getElem?
    intro k
    rw [fins, List.getElem?_map]
    cases h1 : (linesB t)[k]? with
    | none =>
      rw [List.getElem?_eq_none_iff] at h1
      rw [List.getElem?_eq_none (by omega)]
      rfl
    | some b =>
      have hk : k < l.length := by have := lt_of_get h1; omega
      obtain ⟨x, hx⟩ : ∃ x, l[k]? = some x := ⟨_, List.getElem?_eq_getElem hk⟩
      rw [hx, Option.map_some, (hat k b x h1 hx).2]
  have hbad : anyOf badLine (linesB t) = false := by
    rw [anyOf, List.any_eq_false]
    intro b hb
    obtain ⟨k, hk, rfl⟩ := List.getElem_of_mem hb
    obtain ⟨x, hx⟩ : ∃ x, l[k]? = some x := ⟨_, List.getElem?_eq_getElem (by omega)⟩
    simp [badLine, (hat k _ x (List.getElem?_eq_getElem hk) hx).1]
  have hbig : anyOf bigKind (fins t) = false := by
    rw [hfins, anyOf, List.any_eq_false]
    intro x hx
    have := (finGood' (hb' x hx)).1
    simp [bigKind]
    omega
  have hsz : ¬ 262144 < t.size := by
    have h1 := finLines_len' hb'
    have h2 : t.size = (finLines l).length := by rw [← ht]; simp [ByteArray.size]
    omega
  have he : pErr t = 0 := by
    rw [pErr, if_neg hsz, hbad, if_neg (by simp), hopen, if_neg (by simp), hbig, if_neg (by simp), hfins, if_neg (by omega)]
  refine ⟨he, ?_, ?_, ?_⟩
  · rw [pLine, if_neg hsz, hbad, if_neg (by simp), hopen, if_neg (by simp), hbig, if_neg (by simp)]
  · rw [pCol, if_neg hsz, hbad, if_neg (by simp), hopen, if_neg (by simp), hbig, if_neg (by simp)]
  · rw [pOut, he, if_pos rfl, hfins]
/-- A TEXT THAT IS READ IS THE TEXT OF ITS FINDINGS. -/
theorem read_text {s : ByteArray} (h : pErr s = 0) : finErr (pOut s) = 0 ∧ finStr (pOut s) = s := by
  have ho : pOut s = fins s := by rw [pOut, h, if_pos rfl]
  rw [ho]
  unfold pErr at h
  by_cases h1 : 262144 < s.size
  · rw [if_pos h1] at h; omega
  rw [if_neg h1] at h
  cases hbad : anyOf badLine (linesB s)
  case true => rw [hbad, if_pos rfl] at h; omega
  rw [hbad, if_neg (by simp)] at h
  cases hopen : openEnd s
  case true => rw [hopen, if_pos rfl] at h; omega
  rw [hopen, if_neg (by simp)] at h
  cases hbig : anyOf bigKind (fins s)
  case true => rw [hbig, if_pos rfl] at h; omega
  rw [hbig, if_neg (by simp)] at h
  by_cases hlen : 1000 < (fins s).length
  · rw [if_pos hlen] at h; omega
  have hok : ∀ b ∈ linesB s, rfOk b = true := by
    intro b hb
    rw [anyOf, List.any_eq_false] at hbad
    simpa [badLine] using hbad b hb
  have hfb : anyOf finBad (fins s) = false := by
    rw [anyOf, List.any_eq_false]
    intro x hx
    have hb := hx
    rw [anyOf, List.any_eq_false] at hbig
    have h5 := hbig x hx
    rw [fins] at hb
    obtain ⟨b, hb1, rfl⟩ := List.mem_map.1 hb
    obtain ⟨_, h3, h4⟩ := line_write (hok b hb1)
    simp only [bigKind, decide_eq_true_eq] at h5
    simp [finBad, h4]
    omega
  have hlast : lastL s.data.toList [] = [] := by
    rw [openEnd_list] at hopen
    cases hq : lastL s.data.toList [] with
    | nil => rfl
    | cons c r => rw [hq] at hopen; cases hopen
  refine ⟨by rw [finErr, if_neg hlen, hfb, if_neg (by simp)], ?_⟩
  rw [finStr, if_neg hlen, hfb, if_neg (by simp)]
  apply bytes_ext
  have h6 := text_splitL s.data.toList [] hlast
  rw [List.nil_append] at h6
  show finLines (fins s) = _
  rw [finLines_flat, h6]
  congr 1
  rw [← linesB_list, fins, List.map_map]
  apply List.map_congr_left
  intro b hb
  exact (line_write (hok b hb)).1
end Go.Proofs.YtnhmdgkhmkeopaaGreatDoor
