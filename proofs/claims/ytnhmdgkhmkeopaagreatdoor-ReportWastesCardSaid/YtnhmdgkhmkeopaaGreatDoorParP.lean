/- Findings read from a text, by the program. -/
import Derived.Test.YtnhmdgkhmkeopaaGreatDoorFinP
namespace Go.Proofs.YtnhmdgkhmkeopaaGreatDoor
open Go.RowKit

theorem linesFrom_hit (s : ByteArray) (i : Nat) (hi : s.data.toList[i]? = some 10) : ∀ (m a k : Nat), k + m = s.size → k ≤ i → (∀ j, k ≤ j → j < i → s.data.toList[j]? ≠ some 10) →
    linesFrom s m a k = s.extract a i :: linesFrom s (s.size - (i + 1)) (i + 1) (i + 1) ∧ lastFrom s m a k = lastFrom s (s.size - (i + 1)) (i + 1) (i + 1) := by
  have hlt : i < s.size := by have := lt_of_get hi; simpa using this
  intro m
  induction m with
  | zero => intro a k hk hki; omega
  | succ m ih =>
    intro a k hk hki h
    rw [linesFrom, lastFrom]
    by_cases he : k = i
    · subst he
      rw [hi]
      simp only [beq_self_eq_true, if_true]
      rw [show m = s.size - (k + 1) by omega]
      exact ⟨rfl, rfl⟩
    · have := h k (Nat.le_refl _) (by omega)
      rw [if_neg (by simpa using this), if_neg (by simpa using this)]
      exact ih a (k + 1) (by omega) (by omega) (fun j hj => h j (by omega))
theorem linesFrom_none (s : ByteArray) : ∀ (m a k : Nat), k + m = s.size → (∀ j, k ≤ j → s.data.toList[j]? ≠ some 10) → linesFrom s m a k = [] ∧ lastFrom s m a k = a := by
  intro m
  induction m with
  | zero => intro a k _ _; exact ⟨rfl, rfl⟩
  | succ m ih =>
    intro a k hk h
    rw [linesFrom, lastFrom]
    have := h k (Nat.le_refl _)
    rw [if_neg (by simpa using this), if_neg (by simpa using this)]
    exact ih a (k + 1) (by omega) (fun j hj => h j (by omega))
theorem rest_get {s : ByteArray} {a j : Nat} : (s.extract a s.size).data.toList[j]? = s.data.toList[a + j]? := by
  rw [extract_list, List.take_of_length_le (by simp), List.getElem?_drop]
theorem extract_ext (s : ByteArray) (a i j : Nat) (h : j ≤ s.size - a) : (s.extract a s.size).extract i j = s.extract (a + i) (a + j) := by
  apply ByteArray.ext
  apply Array.ext'
  rw [extract_list, extract_list, extract_list, List.take_of_length_le (l := s.data.toList) (by simp), List.take_drop, List.drop_drop]
theorem rest_size (s : ByteArray) (a : Nat) : (s.extract a s.size).size = s.size - a := by simp [ByteArray.size_extract]
/-- The next line of what is left of a text. -/
theorem line_hit {s : ByteArray} {a i : Nat} (ha : a ≤ s.size) (h : Lib.indexB (s.extract a s.size) ⟨#[10]⟩ = i) :
    a + i < s.size ∧ cutFst 10 (s.extract a s.size) = s.extract a (a + i) ∧ cutSnd 10 (s.extract a s.size) = s.extract (a + i + 1) s.size ∧ cutIs 10 (s.extract a s.size) = true ∧
    linesFrom s (s.size - a) a a = s.extract a (a + i) :: linesFrom s (s.size - (a + i + 1)) (a + i + 1) (a + i + 1) ∧ lastFrom s (s.size - a) a a = lastFrom s (s.size - (a + i + 1)) (a + i + 1) (a + i + 1) := by
  obtain ⟨h1, h2⟩ := indexB_hit h
  rw [rest_get] at h1
  have hlt : a + i < s.size := by have := lt_of_get h1; simpa using this
  obtain ⟨c1, c2, c3⟩ := cut_hit h
  obtain ⟨l1, l2⟩ := linesFrom_hit s (a + i) h1 (s.size - a) a a (by omega) (by omega) (fun j hj hj2 => by
    have := h2 (j - a) (by omega)
    rwa [rest_get, show a + (j - a) = j by omega] at this)
  refine ⟨hlt, ?_, ?_, c3, l1, l2⟩
  · rw [c1, extract_ext _ _ _ _ (by omega), Nat.add_zero]
  · rw [c2, rest_size, extract_ext _ _ _ _ (by omega), show a + (s.size - a) = s.size by omega, Nat.add_assoc]
theorem line_miss {s : ByteArray} {a : Nat} (ha : a ≤ s.size) (h : Lib.indexB (s.extract a s.size) ⟨#[10]⟩ = -1) :
    cutFst 10 (s.extract a s.size) = s.extract a s.size ∧ cutIs 10 (s.extract a s.size) = false ∧ linesFrom s (s.size - a) a a = [] ∧ lastFrom s (s.size - a) a a = a := by
  have h2 := indexB_miss h
  obtain ⟨c1, c2, c3⟩ := cut_miss h
  obtain ⟨l1, l2⟩ := linesFrom_none s (s.size - a) a a (by omega) (fun j hj => by
    have := h2 (j - a)
    rwa [rest_get, show a + (j - a) = j by omega] at this)
  exact ⟨c1, c3, l1, l2⟩

set_option maxHeartbeats 400000 in
theorem parse1_any (x : FinD) (w : World) :
    Calls Tryz.prog 44 #[.agg #[.int .i64 x.kind, .string x.name]] w fun e w' => e = .returned (.bool (bigKind x)) ∧ Below w.heap.size w w' := by
  obtain ⟨kind, name⟩ := x
  have h0 := hide (show decide (1000000 < kind) = bigKind ⟨kind, name⟩ from rfl)
  go_enter Tryz.func44, Tryz.ntmps44
  go_wp2_with fail
  go_ret
  exact ⟨ret_bool h0.out, below_new _ _⟩
theorem toFin_pf {x : ByteArray} (h : rfOk x = true) : toFin x = ⟨pfKind x, pfName x⟩ := by
  rw [toFin, pfKind, pfName, h]
  rfl

set_option maxHeartbeats 4000000 in
set_option maxRecDepth 100000 in
theorem repParse_any (s : ByteArray) (w : World) {B : Nat} (hB : B ≤ w.heap.size) (hm : MX B w) :
    Calls Tryz.prog 18 #[.string s] w fun e w' => ∃ A c, e = .returned (.tuple #[.slice A (pOut s).length c, .agg #[.int .i64 (pLine s), .int .i64 (pCol s)], .int .i64 (pErr s)]) ∧ FinsAt w' w'.heap.size A (pOut s) ∧ Below w.heap.size w w' := by
  have B0 := hide (Blk.new w 42 #[.int .i64 0, .int .i64 0])
  have HB0 := hide (below_new w (.cells #[.int .i64 0, .int .i64 0] 42))
  have Hm := hide hm
  clear hm
  by_cases hbig : 262144 < s.size
  · have he := hide (show pErr s = 4 by rw [pErr, if_pos hbig])
    have hl := hide (show pLine s = 0 by rw [pLine, if_pos hbig])
    have hc := hide (show pCol s = 0 by rw [pCol, if_pos hbig])
    have ho := hide (show pOut s = [] by rw [pOut, he.out, if_neg (by omega)])
    have d0 : decide (262144 < (s.size : Int)) = true := by simp; omega
    clear hbig
    go_enter Tryz.func18, Tryz.ntmps18
    go_wp2_with fail
    refine bodyPost_ret (results_tct rfl rfl (Blk.new w _ _) Tryz.underlying42 rfl (by kernel_rfl)) rfl ?_
    exact ⟨none, 0, by rw [he.out, hl.out, hc.out, ho.out]; rfl, by rw [ho.out]; exact SlOf.nil _ _ _ _ _, below_new w _⟩
  have hsz : s.size ≤ 262144 := by omega
  have d0 : decide (262144 < (s.size : Int)) = false := by simp; omega
  have he0 : pErr s = if anyOf badLine (linesB s) then 7 else if openEnd s then 7 else if anyOf bigKind (fins s) then 2 else if 1000 < (fins s).length then 4 else 0 := by rw [pErr, if_neg hbig]
  have hl0 : pLine s = if anyOf badLine (linesB s) then idx badLine (linesB s) + 1 else if openEnd s then (linesB s).length + 1 else if anyOf bigKind (fins s) then idx bigKind (fins s) + 1 else 0 := by rw [pLine, if_neg hbig]
  have hc0 : pCol s = if anyOf badLine (linesB s) then 1 else if openEnd s then 1 else if anyOf bigKind (fins s) then 1 else 0 := by rw [pCol, if_neg hbig]
  have He0 := hide he0
  have Hl0 := hide hl0
  have Hc0 := hide hc0
  clear hbig he0 hl0 hc0
  go_enter Tryz.func18, Tryz.ntmps18
  go_wp2_with fail
  obtain ⟨w1, hw1⟩ : ∃ w1, w1 = w.alloc (.cells #[.int .i64 0, .int .i64 0] 42) := ⟨_, rfl⟩
  rw [← hw1] at B0 HB0 ⊢
  have hlt1 : w.heap.size < w1.heap.size := B0.out.lt
  have hB1 : B ≤ w1.heap.size := by omega
  have Hm1 := hide (Hm.out.carry (HB0.out.mono hB))
  clear hw1
  go_loopw [0, 5] (fun v f wr => ∃ (a : Nat) (r : ByteArray), a ≤ s.size ∧ v = .string r ∧ Hid (r = s.extract a s.size) ∧ r.size = s.size - a ∧ (∃ dn : List ByteArray, dn.length ≤ a ∧ Row wr w1.heap.size 49 2 encFin f (dn.map toFin) ∧ Hid (linesB s = dn ++ linesFrom s (s.size - a) a a) ∧ Hid (lastFrom s s.size 0 0 = lastFrom s (s.size - a) a a) ∧ Hid (∀ x ∈ dn, badLine x = false)) ∧ Below w1.heap.size w1 wr) (fun v _ _ => bytesOf v)
  case atStart =>
    refine ⟨0, s, Nat.zero_le _, rfl, hide ?_, by omega, ⟨[], Nat.le_refl _, Row.nil _ _ _ _ _, hide rfl, hide rfl, hide (fun x h => by cases h)⟩, Below.refl _ _⟩
    simp
  case round =>
    obtain ⟨a, r, ha, rfl, hr, hrs, ⟨dn, hal, hrow, hlines, hlast, hgood⟩, hbr⟩ := hrel
    have hrv := hrow.val
    rw [List.length_map] at hrv
    obtain ⟨A0, c0, rfl⟩ := hrv
    have Hrow := hide hrow
    have Hrs := hide hrs
    clear hrow hrs
    by_cases hlt : a < s.size
    · have q0 : (r.toList == ([] : List UInt8)) = false := by
        rw [beq_eq_false_iff_ne, ByteArray.toList_eq]
        intro h
        have : r.data.toList.length = r.size := by simp
        rw [h, Hrs.out] at this
        simp at this
        omega
      have hr9 : r.size ≤ 300000 := by rw [Hrs.out]; omega
      have hk9 := cutFst_le 10 r
      obtain ⟨K, hK⟩ : ∃ K, K = cutFst 10 r := ⟨_, rfl⟩
      obtain ⟨N, hN⟩ : ∃ N, N = cutSnd 10 r := ⟨_, rfl⟩
      rw [← hK] at hk9
      have HK := hide hK
      have HN := hide hN
      clear hK hN
      have hk8 : K.size ≤ 262144 := by have := Hrs.out; omega
      clear hk9
      rcases Lib.indexB_cases r ⟨#[10]⟩ with hix | ⟨i, hix, _⟩
      · -- the line is not ended
        rw [hr.out] at hix
        obtain ⟨c1, c2, c3, c4⟩ := line_miss ha hix
        rw [← hr.out] at c1 c2
        have Hci := hide c2
        have hdn : dn = linesB s := by rw [hlines.out, c3, List.append_nil]
        have hla : lastFrom s s.size 0 0 = a := by rw [hlast.out, c4]
        have hgd := hgood.out
        subst hdn
        have hany : anyOf badLine (linesB s) = false := by
          rw [anyOf, List.any_eq_false]
          intro x hx
          rw [hgd x hx]
          simp
        have hoe : openEnd s = true := by rw [openEnd, hla]; simpa using hlt
        have he := hide (show pErr s = 7 by rw [He0.out, hany, if_neg (by simp), hoe, if_pos rfl])
        have hl := hide (show pLine s = (linesB s).length + 1 by rw [Hl0.out, hany, if_neg (by simp), hoe, if_pos rfl])
        have hc := hide (show pCol s = 1 by rw [Hc0.out, hany, if_neg (by simp), hoe, if_pos rfl])
        have ho := hide (show pOut s = [] by rw [pOut, he.out, if_neg (by omega)])
        clear hix c1 c2 c3 c4 hla hgd hany hoe hlines hlast hgood
        cases hok : rfOk K
        all_goals
          have Hok := hide hok
          clear hok
          go_wp2_with (first
            | (go_at_call 41; refine (cut_any 10 r _ hr9 (Hm1.out.carry (hbr.mono hB1))).mono ?_; rintro e wc ⟨rfl, hbc⟩; rw [← HK.out, ← HN.out, Hci.out]; have hbc9 := hide (hbr.trans (hbc.mono hbr.size)); have Hrowc := hide (Hrow.out.keep hbc); clear hbc)
            | (go_at_call 42; refine (finding_any K _ hk8 (Nat.le_trans hB1 hbc9.out.size) (Hm1.out.carry (hbc9.out.mono hB1))).mono ?_; rintro e w2 ⟨rfl, hb2⟩; rw [Hok.out]; have hb12 := hide (hbc9.out.trans (hb2.mono hbc9.out.size)); have Hrow2 := hide (Hrowc.out.keep hb2); clear hb2; have B2 := hide (B0.out.below hb12.out hlt1); have hw2 := hide (HB0.out.trans (hb12.out.mono (Nat.le_of_lt hlt1))); have k0 := B2.out.cell 0; have k1 := B2.out.cell 1; have f0 := B2.out.frozen 0; have f1 := B2.out.frozen 1; simp at k0 k1; have hl2lt := B2.out.lt; have hsz2 := hb12.out.size))
          refine bodyPost_ret (results_tct rfl rfl (((B2.out.set_ 0 _).set_ 1 _).alloc _) Tryz.underlying42 rfl (by kernel_rfl)) rfl ?_
          exact ⟨none, 0, by rw [he.out, hl.out, hc.out, ho.out]; rfl, by rw [ho.out]; exact SlOf.nil _ _ _ _ _, ((hw2.out.setCell (by simp) _).setCell (by simp) _).alloc (by simpa [World.setCell] using hw2.out.size) _⟩
      · rw [hr.out] at hix
        obtain ⟨c0, c1, c2, c3, c4, c5⟩ := line_hit ha hix
        rw [← hr.out] at c1 c2 c3
        have Hci := hide c3
        have Hl2 := hide (hlines.out.trans (by rw [c4]))
        have Hf2 := hide (hlast.out.trans c5)
        have HKs := hide (HK.out.trans c1)
        have HNs := hide (HN.out.trans c2)
        have hget : (linesB s)[dn.length]? = some K := by rw [Hl2.out, ← HKs.out]; simp
        have hnone : NoneTo badLine (linesB s) dn.length := by
          intro j y hj hy
          rw [Hl2.out, List.getElem?_append_left hj] at hy
          exact hgood.out y (mem_of_get hy)
        clear hix c1 c2 c3 c4 c5 hlines hlast
        cases hok : rfOk K
        · have hbad : badLine K = true := by rw [badLine, hok]; rfl
          have hix := hnone.hit hget hbad
          have hany : anyOf badLine (linesB s) = true := by
            have := idx_any badLine (linesB s)
            rw [hix] at this
            rw [anyOf, ← this]
            simp
          have he := hide (show pErr s = 7 by rw [He0.out, if_pos hany])
          have hl := hide (show pLine s = dn.length + 1 by rw [Hl0.out, if_pos hany, hix])
          have hc := hide (show pCol s = 1 by rw [Hc0.out, if_pos hany])
          have ho := hide (show pOut s = [] by rw [pOut, he.out, if_neg (by omega)])
          have Hok := hide hok
          clear hok hbad hix hany hget hnone
          go_wp2_with (first
            | (go_at_call 41; refine (cut_any 10 r _ hr9 (Hm1.out.carry (hbr.mono hB1))).mono ?_; rintro e wc ⟨rfl, hbc⟩; rw [← HK.out, ← HN.out, Hci.out]; have hbc9 := hide (hbr.trans (hbc.mono hbr.size)); have Hrowc := hide (Hrow.out.keep hbc); clear hbc)
            | (go_at_call 42; refine (finding_any K _ hk8 (Nat.le_trans hB1 hbc9.out.size) (Hm1.out.carry (hbc9.out.mono hB1))).mono ?_; rintro e w2 ⟨rfl, hb2⟩; rw [Hok.out]; have hb12 := hide (hbc9.out.trans (hb2.mono hbc9.out.size)); have Hrow2 := hide (Hrowc.out.keep hb2); clear hb2; have B2 := hide (B0.out.below hb12.out hlt1); have hw2 := hide (HB0.out.trans (hb12.out.mono (Nat.le_of_lt hlt1))); have k0 := B2.out.cell 0; have k1 := B2.out.cell 1; have f0 := B2.out.frozen 0; have f1 := B2.out.frozen 1; simp at k0 k1; have hl2lt := B2.out.lt; have hsz2 := hb12.out.size))
          refine bodyPost_ret (results_tct rfl rfl (((B2.out.set_ 0 _).set_ 1 _).alloc _) Tryz.underlying42 rfl (by kernel_rfl)) rfl ?_
          exact ⟨none, 0, by rw [he.out, hl.out, hc.out, ho.out]; rfl, by rw [ho.out]; exact SlOf.nil _ _ _ _ _, ((hw2.out.setCell (by simp) _).setCell (by simp) _).alloc (by simpa [World.setCell] using hw2.out.size) _⟩
        · have Hbad := hide (show badLine K = false by rw [badLine, hok]; rfl)
          have Htf := hide (toFin_pf hok)
          have Hok := hide hok
          clear hok hget hnone
          go_wp2_with (first
            | (go_at_call 41; refine (cut_any 10 r _ hr9 (Hm1.out.carry (hbr.mono hB1))).mono ?_; rintro e wc ⟨rfl, hbc⟩; rw [← HK.out, ← HN.out, Hci.out]; have hbc9 := hide (hbr.trans (hbc.mono hbr.size)); have Hrowc := hide (Hrow.out.keep hbc); clear hbc)
            | (go_at_call 42; refine (finding_any K _ hk8 (Nat.le_trans hB1 hbc9.out.size) (Hm1.out.carry (hbc9.out.mono hB1))).mono ?_; rintro e w2 ⟨rfl, hb2⟩; rw [Hok.out]; have hb12 := hide (hbc9.out.trans (hb2.mono hbc9.out.size)); have Hrow2 := hide (Hrowc.out.keep hb2); clear hb2; have hsz2 := hb12.out.size)
            | (at_builtin; refine wpList_append1 rfl (.tmp 39) (.tmp 41) 35 rfl w1.heap.size 49 (.agg #[.int .i64 0, .string .empty]) 2 24 encFin Tryz.underlying35 (by kernel_rfl) rfl (by omega) encFin_len encFin_one _ (dn.map toFin) ⟨pfKind K, pfName K⟩ rfl ((Hrow2.out.alloc _).alloc _) _ rfl (Blk.new1 w2 _ _ _) (by simp; omega) (by omega) (le_alloc (le_alloc hsz2 _) _) ?_; intro A1 c1 w3 hrow3 hb3 _))
          go_roundw
          case rel =>
            refine ⟨a + i + 1, N, by omega, rfl, hide HNs.out, by rw [HNs.out, rest_size], ⟨dn ++ [K], by simp; omega, ?_, hide (by rw [Hl2.out, HKs.out]; simp), hide Hf2.out, hide ?_⟩, ((hb12.out.alloc hsz2 _).alloc (le_alloc hsz2 _) _).trans hb3⟩
            · rw [List.map_append, List.map_cons, List.map_nil, Htf.out]
              simpa using hrow3
            · intro x hx
              rcases List.mem_append.1 hx with hx | hx
              · exact hgood.out x hx
              · rw [List.mem_singleton.1 hx]; exact Hbad.out
          case measure => simp only [bytesOf]; rw [HNs.out, rest_size, Hrs.out]; omega
    · obtain rfl : a = s.size := by omega
      have q0 : (r.toList == ([] : List UInt8)) = true := by
        rw [beq_iff_eq, ByteArray.toList_eq]
        exact List.eq_nil_of_length_eq_zero (by simpa using Hrs.out)
      have hdn : dn = linesB s := by rw [hlines.out, Nat.sub_self, linesFrom, List.append_nil]
      have hla : lastFrom s s.size 0 0 = s.size := by rw [hlast.out, Nat.sub_self, lastFrom]
      have hgd := hgood.out
      subst hdn
      have hany : anyOf badLine (linesB s) = false := by
        rw [anyOf, List.any_eq_false]
        intro x hx
        rw [hgd x hx]
        simp
      have hoe : openEnd s = false := by rw [openEnd, hla]; simp
      have He2 := hide (show pErr s = if anyOf bigKind (fins s) then 2 else if 1000 < (fins s).length then 4 else 0 by rw [He0.out, hany, if_neg (by simp), hoe, if_neg (by simp)])
      have Hl2 := hide (show pLine s = if anyOf bigKind (fins s) then idx bigKind (fins s) + 1 else 0 by rw [Hl0.out, hany, if_neg (by simp), hoe, if_neg (by simp)])
      have Hc2 := hide (show pCol s = if anyOf bigKind (fins s) then 1 else 0 by rw [Hc0.out, hany, if_neg (by simp), hoe, if_neg (by simp)])
      have hfl : (fins s).length = (linesB s).length := by simp [fins]
      have Hfl := hide hfl
      have hnn : (linesB s).length ≤ 300000 := by omega
      have hread := hide (show FinsAt wr wr.heap.size A0 (fins s) from Row.read Hrow.out encFin_len (by omega))
      have hir := idx_range bigKind (fins s)
      have hh : decide (0 ≤ idx bigKind (fins s)) = anyOf bigKind (fins s) := by rw [idx_any]; rfl
      have hsz9 := hbr.size
      clear hla hgd hany hoe hlines hlast hgood
      rw [hfl] at hir
      clear hfl
      cases hab : anyOf bigKind (fins s)
      · rw [hab] at hh
        have He3 := hide (show pErr s = if 1000 < (fins s).length then 4 else 0 by rw [He2.out, hab, if_neg (by simp)])
        have hl := hide (show pLine s = 0 by rw [Hl2.out, hab, if_neg (by simp)])
        have hc := hide (show pCol s = 0 by rw [Hc2.out, hab, if_neg (by simp)])
        by_cases h1000 : 1000 < (linesB s).length
        · have he := hide (show pErr s = 4 by rw [He3.out, Hfl.out, if_pos h1000])
          have ho := hide (show pOut s = [] by rw [pOut, he.out, if_neg (by omega)])
          have d1 : decide (1000 < ((linesB s).length : Int)) = true := by simp; omega
          clear hab h1000
          go_wp2_with (go_at_call 43; refine (indexFuncFin_any A0 (fins s) _ c0 44 bigKind _ hread.out (Nat.le_refl _) Hfl.out.symm hnn Tryz.call44 (fun x W _ => parse1_any x W)).mono ?_; rintro e w2 ⟨rfl, hb2⟩; have hb12 := hide (hbr.trans (hb2.mono hbr.size)); have Hrow2 := hide (Hrow.out.keep hb2); clear hb2; have B2 := hide (B0.out.below hb12.out hlt1); have hw2 := hide (HB0.out.trans (hb12.out.mono (Nat.le_of_lt hlt1))); have k0 := B2.out.cell 0; have k1 := B2.out.cell 1; have f0 := B2.out.frozen 0; have f1 := B2.out.frozen 1; simp at k0 k1; have hl2lt := B2.out.lt)
          refine bodyPost_ret (results_tct rfl rfl ((B2.out.set_ 0 _).set_ 1 _) Tryz.underlying42 rfl (by kernel_rfl)) rfl ?_
          exact ⟨none, 0, by rw [he.out, hl.out, hc.out, ho.out]; rfl, by rw [ho.out]; exact SlOf.nil _ _ _ _ _, (hw2.out.setCell (by simp) _).setCell (by simp) _⟩
        · have he := hide (show pErr s = 0 by rw [He3.out, Hfl.out, if_neg h1000])
          have ho := hide (show pOut s = fins s by rw [pOut, he.out, if_pos rfl])
          have d1 : decide (1000 < ((linesB s).length : Int)) = false := by simp; omega
          clear hab h1000
          go_wp2_with (go_at_call 43; refine (indexFuncFin_any A0 (fins s) _ c0 44 bigKind _ hread.out (Nat.le_refl _) Hfl.out.symm hnn Tryz.call44 (fun x W _ => parse1_any x W)).mono ?_; rintro e w2 ⟨rfl, hb2⟩; have hb12 := hide (hbr.trans (hb2.mono hbr.size)); have Hrow2 := hide (Hrow.out.keep hb2); clear hb2; have B2 := hide (B0.out.below hb12.out hlt1); have hw2 := hide (HB0.out.trans (hb12.out.mono (Nat.le_of_lt hlt1))); have k0 := B2.out.cell 0; have k1 := B2.out.cell 1; have f0 := B2.out.frozen 0; have f1 := B2.out.frozen 1; simp at k0 k1; have hl2lt := B2.out.lt)
          refine bodyPost_ret (results_tct rfl rfl ((B2.out.set_ 0 _).set_ 1 _) Tryz.underlying42 rfl (by kernel_rfl)) rfl ?_
          refine ⟨A0, c0, by rw [he.out, hl.out, hc.out, ho.out, Hfl.out]; rfl, ?_, (hw2.out.setCell (by simp) _).setCell (by simp) _⟩
          rw [ho.out]
          exact Row.read ((Hrow2.out.far (p := ⟨w.heap.size, 0, none⟩) hlt1 _).far (p := ⟨w.heap.size, 1, none⟩) hlt1 _) encFin_len (by omega)
      · rw [hab] at hh
        have he := hide (show pErr s = 2 by rw [He2.out, hab, if_pos rfl])
        have hl := hide (show pLine s = idx bigKind (fins s) + 1 by rw [Hl2.out, hab, if_pos rfl])
        have hc := hide (show pCol s = 1 by rw [Hc2.out, hab, if_pos rfl])
        have ho := hide (show pOut s = [] by rw [pOut, he.out, if_neg (by omega)])
        clear hab
        go_wp2_with (go_at_call 43; refine (indexFuncFin_any A0 (fins s) _ c0 44 bigKind _ hread.out (Nat.le_refl _) Hfl.out.symm hnn Tryz.call44 (fun x W _ => parse1_any x W)).mono ?_; rintro e w2 ⟨rfl, hb2⟩; have hb12 := hide (hbr.trans (hb2.mono hbr.size)); have Hrow2 := hide (Hrow.out.keep hb2); clear hb2; have B2 := hide (B0.out.below hb12.out hlt1); have hw2 := hide (HB0.out.trans (hb12.out.mono (Nat.le_of_lt hlt1))); have k0 := B2.out.cell 0; have k1 := B2.out.cell 1; have f0 := B2.out.frozen 0; have f1 := B2.out.frozen 1; simp at k0 k1; have hl2lt := B2.out.lt)
        refine bodyPost_ret (results_tct rfl rfl ((B2.out.set_ 0 _).set_ 1 _) Tryz.underlying42 rfl (by kernel_rfl)) rfl ?_
        exact ⟨none, 0, by rw [he.out, hl.out, hc.out, ho.out]; rfl, by rw [ho.out]; exact SlOf.nil _ _ _ _ _, (hw2.out.setCell (by simp) _).setCell (by simp) _⟩
end Go.Proofs.YtnhmdgkhmkeopaaGreatDoor
