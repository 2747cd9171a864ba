/- The reference of layer 50: findings read from a text. -/
import Derived.Test.YtnhmdgkhmkeopaaGreatDoorFinR
namespace Go.Proofs.YtnhmdgkhmkeopaaGreatDoor
open Go.RowKit

theorem results_tct {P : Program} {fn : Func} {p q r : Tmp} {ty : TypeId} (h : fn.results = #[.tmp r, .cell p ty, .tmp q]) {tmps : Array Value} {w : World} {g : Nat} {t : TypeId} {cs : Array Value} {d : TypeDesc}
    (hp : tmps.getD p undef = .pointer (some ⟨g, 0, none⟩)) (hg : Blk w g t cs) (hu : P.underlying ty = some d) (hd : (match d with | .struct _ | .array _ _ => true | _ => false) = true) (hi : (P.info? ty).map (·.size) = some cs.size) :
    (results fn tmps).run P w = .ok (.tuple #[tmps.getD r undef, .agg cs, tmps.getD q undef]) w := by
  have hp' : tmps[p]?.getD undef = .pointer (some ⟨g, 0, none⟩) := by simpa using hp
  simp [results, h, hp', asAddr, run_loadVar_row w g t ty cs (0, 0) d hg hu hd hi]

/-- The whole lines from place a on, k being the place that is looked at, m how many places are left. -/
def linesFrom (s : ByteArray) : Nat → Nat → Nat → List ByteArray
  | 0, _, _ => []
  | m + 1, a, k => if s.data.toList[k]? == some 10 then s.extract a k :: linesFrom s m (k + 1) (k + 1) else linesFrom s m a (k + 1)
def linesB (s : ByteArray) : List ByteArray := linesFrom s s.size 0 0
/-- Where the last line, which is not ended, begins. -/
def lastFrom (s : ByteArray) : Nat → Nat → Nat → Nat
  | 0, a, _ => a
  | m + 1, a, k => if s.data.toList[k]? == some 10 then lastFrom s m (k + 1) (k + 1) else lastFrom s m a (k + 1)
def openEnd (s : ByteArray) : Bool := decide (lastFrom s s.size 0 0 < s.size)
def badLine (x : ByteArray) : Bool := !rfOk x
def toFin (x : ByteArray) : FinD := ⟨rfKind x, rfName x⟩
def bigKind (x : FinD) : Bool := decide (1000000 < x.kind)
def fins (s : ByteArray) : List FinD := (linesB s).map toFin
def pErr (s : ByteArray) : Int := if 262144 < s.size then 4 else if anyOf badLine (linesB s) then 7 else if openEnd s then 7 else if anyOf bigKind (fins s) then 2 else if 1000 < (fins s).length then 4 else 0
def pLine (s : ByteArray) : Int := if 262144 < s.size then 0 else if anyOf badLine (linesB s) then idx badLine (linesB s) + 1 else if openEnd s then (linesB s).length + 1 else if anyOf bigKind (fins s) then idx bigKind (fins s) + 1 else 0
def pCol (s : ByteArray) : Int := if 262144 < s.size then 0 else if anyOf badLine (linesB s) then 1 else if openEnd s then 1 else if anyOf bigKind (fins s) then 1 else 0
def pOut (s : ByteArray) : List FinD := if pErr s = 0 then fins s else []
theorem linesFrom_len (s : ByteArray) : ∀ (m a k : Nat), (linesFrom s m a k).length ≤ m := by
  intro m
  induction m with
  | zero => intro a k; simp [linesFrom]
  | succ m ih =>
    intro a k
    rw [linesFrom]
    split
    · have := ih (k + 1) (k + 1); simp; omega
    · have := ih a (k + 1); omega
theorem linesFrom_size (s : ByteArray) : ∀ (m a k : Nat) (x : ByteArray), x ∈ linesFrom s m a k → x.size ≤ s.size := by
  intro m
  induction m with
  | zero => intro a k x h; simp [linesFrom] at h
  | succ m ih =>
    intro a k x h
    rw [linesFrom] at h
    split at h
    · rcases List.mem_cons.1 h with rfl | h
      · simp [ByteArray.size_extract]; omega
      · exact ih _ _ _ h
    · exact ih _ _ _ h
theorem encFin_one (x : FinD) : ∀ u ∈ encFin x, u.oneCell' = true := by
  intro u hu
  simp [encFin] at hu
  rcases hu with rfl | rfl <;> rfl

theorem Row.far {α : Type} {w : World} {base size : Nat} {e : TypeId} {enc : α → List Value} {v : Value} {l : List α} (h : Row w base e size enc v l) {p : Addr} (hp : p.block < base) (u : Value) : Row (w.setCell p u) base e size enc v l := by
  obtain ⟨h1, h2⟩ := h
  refine ⟨h1, ?_⟩
  rcases h2 with h2 | ⟨g, cap, cur, hv, hb, hh, r⟩
  · exact .inl h2
  · exact .inr ⟨g, cap, cur, hv, hb, (Below.heap_setCell w p u g (by omega)).trans hh, r⟩

set_option maxHeartbeats 4000000 in
set_option maxRecDepth 100000 in
theorem refParse_any (s : ByteArray) (w : World) :
    Calls Tryz.prog 19 #[.string s] w fun e w' => ∃ A c, e = .returned (.tuple #[.slice A (pOut s).length c, .agg #[.int .i64 (pLine s), .int .i64 (pCol s)], .int .i64 (pErr s)]) ∧ FinsAt w' w'.heap.size A (pOut s) ∧ Below w.heap.size w w' := by
  have B0 := hide (Blk.new w 42 #[.int .i64 0, .int .i64 0])
  have HB0 := hide (below_new w (.cells #[.int .i64 0, .int .i64 0] 42))
  by_cases hbig : 262144 < s.size
  · have he := hide (show pErr s = 4 by rw [pErr, if_pos hbig])
    have hl := hide (show pLine s = 0 by rw [pLine, if_pos hbig])
    have hc := hide (show pCol s = 0 by rw [pCol, if_pos hbig])
    have ho := hide (show pOut s = [] by rw [pOut, he.out, if_neg (by omega)])
    have d0 : decide (262144 < (s.size : Int)) = true := by simp; omega
    clear hbig
    go_enter Tryz.func19, Tryz.ntmps19
    go_wp2_with fail
    refine bodyPost_ret (results_tct rfl rfl (Blk.new w _ _) Tryz.underlying42 rfl (by kernel_rfl)) rfl ?_
    exact ⟨none, 0, by rw [he.out, hl.out, hc.out, ho.out]; rfl, by rw [ho.out]; exact SlOf.nil _ _ _ _ _, below_new w _⟩
  have hsz : s.size ≤ 262144 := by omega
  have d0 : decide (262144 < (s.size : Int)) = false := by simp; omega
  have he0 : pErr s = if anyOf badLine (linesB s) then 7 else if openEnd s then 7 else if anyOf bigKind (fins s) then 2 else if 1000 < (fins s).length then 4 else 0 := by rw [pErr, if_neg hbig]
  have hl0 : pLine s = if anyOf badLine (linesB s) then idx badLine (linesB s) + 1 else if openEnd s then (linesB s).length + 1 else if anyOf bigKind (fins s) then idx bigKind (fins s) + 1 else 0 := by rw [pLine, if_neg hbig]
  have hc0 : pCol s = if anyOf badLine (linesB s) then 1 else if openEnd s then 1 else if anyOf bigKind (fins s) then 1 else 0 := by rw [pCol, if_neg hbig]
  have He0 := hide he0
  have Hl0 := hide hl0
  have Hc0 := hide hc0
  clear hbig he0 hl0 hc0
  go_enter Tryz.func19, Tryz.ntmps19
  go_wp2_with fail
  obtain ⟨w1, hw1⟩ : ∃ w1, w1 = w.alloc (.cells #[.int .i64 0, .int .i64 0] 42) := ⟨_, rfl⟩
  rw [← hw1] at B0 HB0 ⊢
  have HW1 := hide hw1
  have hlt1 : w.heap.size < w1.heap.size := B0.out.lt
  clear hw1
  go_loopw [5, 6, 7] (fun v f i wr => ∃ k a : Nat, k ≤ s.size ∧ i = .int .i64 k ∧ f = .int .i64 a ∧ a ≤ k ∧ (∃ dn : List ByteArray, dn.length ≤ k ∧ Row wr w1.heap.size 49 2 encFin v (dn.map toFin) ∧ Hid (linesB s = dn ++ linesFrom s (s.size - k) a k) ∧ Hid (lastFrom s s.size 0 0 = lastFrom s (s.size - k) a k) ∧ Hid (∀ x ∈ dn, badLine x = false)) ∧ Below w1.heap.size w1 wr) (fun _ _ i _ => s.size - (intOf i).toNat)
  case atStart => exact ⟨0, 0, Nat.zero_le _, rfl, rfl, Nat.le_refl _, ⟨[], Nat.le_refl _, Row.nil _ _ _ _ _, hide rfl, hide rfl, hide (fun x h => by cases h)⟩, Below.refl _ _⟩
  case round =>
    obtain ⟨k, a, hk, rfl, rfl, hak, ⟨dn, hal, hrow, hlines, hlast, hgood⟩, hbr⟩ := hrel
    have hrv := hrow.val
    rw [List.length_map] at hrv
    obtain ⟨A0, c0, rfl⟩ := hrv
    have Hrow := hide hrow
    clear hrow
    by_cases hlt : k < s.size
    · have hx : s.data.toList[k]? = some (s[k]'hlt) := List.getElem?_eq_getElem (by simp; omega)
      have hl2 := hlines.out
      have hf2 := hlast.out
      rw [show s.size - k = (s.size - (k + 1)) + 1 by omega, linesFrom, hx] at hl2
      rw [show s.size - k = (s.size - (k + 1)) + 1 by omega, lastFrom, hx] at hf2
      by_cases h10 : s[k]'hlt = 10
      · have d1 : (((s[k]'hlt).toNat : Int) != 10) = false := by rw [h10]; rfl
        rw [h10] at hl2 hf2
        simp only [beq_self_eq_true, if_true] at hl2 hf2
        have Hl2 := hide hl2
        have Hf2 := hide hf2
        have hxs : (s.extract a k).size ≤ 300000 := by simp [ByteArray.size_extract]; omega
        clear hx hl2 hf2 h10 hlines hlast
        go_wp2_with fail
        refine (refFinding_any (s.extract a k) _ hxs).mono ?_
        rintro e w2 ⟨rfl, hb2⟩
        have hb12 := hide (hbr.trans (hb2.mono hbr.size))
        have Hrow2 := hide (Hrow.out.keep hb2)
        clear hb2
        have B2 := hide (B0.out.below hb12.out hlt1)
        have hw2 := hide (HB0.out.trans (hb12.out.mono (Nat.le_of_lt hlt1)))
        have k0 := B2.out.cell 0
        have k1 := B2.out.cell 1
        have f0 := B2.out.frozen 0
        have f1 := B2.out.frozen 1
        simp at k0 k1
        have hl2lt := B2.out.lt
        have hget : (linesB s)[dn.length]? = some (s.extract a k) := by rw [Hl2.out]; simp
        have hnone : NoneTo badLine (linesB s) dn.length := by
          intro j y hj hy
          rw [Hl2.out, List.getElem?_append_left hj] at hy
          exact hgood.out y (mem_of_get hy)
        cases hbad : badLine (s.extract a k)
        · have hokk : rfOk (s.extract a k) = true := by simpa [badLine] using hbad
          rw [hokk]
          have Hbad := hide hbad
          have hbs := hide (le_alloc (le_alloc (Nat.le_trans hbr.size (Nat.le_refl _)) (.cells #[] 0)) (.cells #[] 0))
          have hsz2 := hb12.out.size
          clear hbad hokk hget hnone k0 k1 f0 f1 hbs
          go_wp2_with (at_builtin; refine wpList_append1 rfl (.tmp 39) (.tmp 41) 35 rfl w1.heap.size 49 (.agg #[.int .i64 0, .string .empty]) 2 24 encFin Tryz.underlying35 (by kernel_rfl) rfl (by omega) encFin_len encFin_one _ (dn.map toFin) (toFin (s.extract a k)) rfl ((Hrow2.out.alloc _).alloc _) _ rfl (Blk.new1 w2 _ _ _) (by simp; omega) (by omega) (le_alloc (le_alloc hsz2 _) _) ?_; intro A1 c1 w3 hrow3 hb3 _)
          go_roundw
          case rel =>
            refine ⟨k + 1, k + 1, by omega, by go_num, by go_num, Nat.le_refl _, ⟨dn ++ [s.extract a k], by simp; omega, by simpa using hrow3, hide (by rw [Hl2.out]; simp), hide Hf2.out, hide ?_⟩, ((hb12.out.alloc hsz2 _).alloc (le_alloc hsz2 _) _).trans hb3⟩
            intro x hx
            rcases List.mem_append.1 hx with hx | hx
            · exact hgood.out x hx
            · rw [List.mem_singleton.1 hx]; exact Hbad.out
          case measure => simp [intOf]; omega
        · have hnok : rfOk (s.extract a k) = false := by simpa [badLine] using hbad
          rw [hnok]
          have hix := hnone.hit hget hbad
          have hany : anyOf badLine (linesB s) = true := by
            have := idx_any badLine (linesB s)
            rw [hix] at this
            rw [anyOf, ← this]
            simp
          have he := hide (show pErr s = 7 by rw [He0.out, if_pos hany])
          have hl := hide (show pLine s = dn.length + 1 by rw [Hl0.out, if_pos hany, hix])
          have hc := hide (show pCol s = 1 by rw [Hc0.out, if_pos hany])
          have ho := hide (show pOut s = [] by rw [pOut, he.out, if_neg (by omega)])
          clear hbad hnok hix hany hget hnone
          go_wp2_with fail
          refine bodyPost_ret (results_tct rfl rfl (((B2.out.set_ 0 _).set_ 1 _).alloc _) Tryz.underlying42 rfl (by kernel_rfl)) rfl ?_
          exact ⟨none, 0, by rw [he.out, hl.out, hc.out, ho.out]; rfl, by rw [ho.out]; exact SlOf.nil _ _ _ _ _, ((hw2.out.setCell (by simp) _).setCell (by simp) _).alloc (by simpa [World.setCell] using hw2.out.size) _⟩
      · have d1 : (((s[k]'hlt).toNat : Int) != 10) = true := by
          simp only [bne_iff_ne, ne_eq]
          intro h
          apply h10
          apply UInt8.toNat_inj.1
          exact_mod_cast h
        rw [if_neg (by simpa using h10)] at hl2 hf2
        have Hl2 := hide hl2
        have Hf2 := hide hf2
        clear hx hl2 hf2 h10 hlines hlast
        go_wp2_with fail
        go_roundw
        case rel => exact ⟨k + 1, a, by omega, by go_num, rfl, by omega, ⟨dn, by omega, Hrow.out, hide Hl2.out, hide Hf2.out, hgood⟩, hbr⟩
        case measure => simp [intOf]; omega
    · obtain rfl : k = s.size := by omega
      have hdn : dn = linesB s := by rw [hlines.out, Nat.sub_self, linesFrom, List.append_nil]
      have hla : lastFrom s s.size 0 0 = a := by rw [hlast.out, Nat.sub_self, lastFrom]
      have hgd := hgood.out
      subst hdn
      have hany : anyOf badLine (linesB s) = false := by
        rw [anyOf, List.any_eq_false]
        intro x hx
        rw [hgd x hx]
        simp
      have He1 := hide (show pErr s = if openEnd s then 7 else if anyOf bigKind (fins s) then 2 else if 1000 < (fins s).length then 4 else 0 by rw [He0.out, hany, if_neg (by simp)])
      have Hl1 := hide (show pLine s = if openEnd s then ((linesB s).length : Int) + 1 else if anyOf bigKind (fins s) then idx bigKind (fins s) + 1 else 0 by rw [Hl0.out, hany, if_neg (by simp)])
      have Hc1 := hide (show pCol s = if openEnd s then 1 else if anyOf bigKind (fins s) then 1 else 0 by rw [Hc0.out, hany, if_neg (by simp)])
      have B2 := hide (B0.out.below hbr hlt1)
      have hw2 := hide (HB0.out.trans (hbr.mono (Nat.le_of_lt hlt1)))
      have k0 := B2.out.cell 0
      have k1 := B2.out.cell 1
      have f0 := B2.out.frozen 0
      have f1 := B2.out.frozen 1
      simp at k0 k1
      have hl2lt := B2.out.lt
      clear hany hgd hgood hlines hlast He0 Hl0 Hc0
      by_cases hop : a < s.size
      · have hoe : openEnd s = true := by rw [openEnd, hla]; simpa using hop
        have he := hide (show pErr s = 7 by rw [He1.out, hoe, if_pos rfl])
        have hl := hide (show pLine s = (linesB s).length + 1 by rw [Hl1.out, hoe, if_pos rfl])
        have hc := hide (show pCol s = 1 by rw [Hc1.out, hoe, if_pos rfl])
        have ho := hide (show pOut s = [] by rw [pOut, he.out, if_neg (by omega)])
        clear hoe hla
        go_wp2_with fail
        refine bodyPost_ret (results_tct rfl rfl ((B2.out.set_ 0 _).set_ 1 _) Tryz.underlying42 rfl (by kernel_rfl)) rfl ?_
        exact ⟨none, 0, by rw [he.out, hl.out, hc.out, ho.out]; rfl, by rw [ho.out]; exact SlOf.nil _ _ _ _ _, (hw2.out.setCell (by simp) _).setCell (by simp) _⟩
      · have hoe : openEnd s = false := by rw [openEnd, hla]; simpa using hop
        have He2 := hide (show pErr s = if anyOf bigKind (fins s) then 2 else if 1000 < (fins s).length then 4 else 0 by rw [He1.out, hoe, if_neg (by simp)])
        have Hl2 := hide (show pLine s = if anyOf bigKind (fins s) then idx bigKind (fins s) + 1 else 0 by rw [Hl1.out, hoe, if_neg (by simp)])
        have Hc2 := hide (show pCol s = if anyOf bigKind (fins s) then 1 else 0 by rw [Hc1.out, hoe, if_neg (by simp)])
        have hread := hide (show FinsAt wr wr.heap.size A0 (fins s) from Row.read Hrow.out encFin_len (by omega))
        have hfl : (fins s).length = (linesB s).length := by simp [fins]
        have hh : decide (0 ≤ idx bigKind (fins s)) = anyOf bigKind (fins s) := by rw [idx_any]; rfl
        have HH := hide hh
        have Hfl := hide hfl
        clear hoe hla hh hfl He1 Hl1 Hc1
        go_wp2_with fail
        go_loop [10] (fun i => ∃ k : Nat, k ≤ (linesB s).length ∧ i = .int .i64 k ∧ NoneTo bigKind (fins s) k) (fun i => (linesB s).length - (intOf i).toNat)
        case atStart => exact ⟨0, Nat.zero_le _, rfl, NoneTo.zero _ _⟩
        case round =>
          obtain ⟨q, hq, rfl, hno⟩ := hrel
          by_cases hqt : q < (linesB s).length
          · obtain ⟨b, off, x, hA, hbl, hx, e0, e1⟩ := FinsAt.get (k := q) hread.out (by rw [Hfl.out]; exact hqt)
            subst hA
            have Hx := hide hx
            clear hx
            cases hp : bigKind x
            · have dp : decide (1000000 < x.kind) = false := hp
              go_wp2_with fail
              go_round
              case rel => exact ⟨q + 1, by omega, by go_num, hno.succ Hx.out hp⟩
              case measure => simp [intOf]; omega
            · have dp : decide (1000000 < x.kind) = true := hp
              have hix := hno.hit Hx.out hp
              have hany : anyOf bigKind (fins s) = true := by rw [← HH.out, hix]; simp
              have he := hide (show pErr s = 2 by rw [He2.out, hany, if_pos rfl])
              have hl := hide (show pLine s = q + 1 by rw [Hl2.out, hany, if_pos rfl, hix])
              have hc := hide (show pCol s = 1 by rw [Hc2.out, hany, if_pos rfl])
              have ho := hide (show pOut s = [] by rw [pOut, he.out, if_neg (by omega)])
              clear hix hany hp
              go_wp2_with fail
              refine bodyPost_ret (results_tct rfl rfl ((B2.out.set_ 0 _).set_ 1 _) Tryz.underlying42 rfl (by kernel_rfl)) rfl ?_
              exact ⟨none, ⟨0, by rw [he.out, hl.out, hc.out, ho.out]; rfl⟩, by rw [ho.out]; exact SlOf.nil _ _ _ _ _, (hw2.out.setCell (by simp) _).setCell (by simp) _⟩
          · obtain rfl : q = (linesB s).length := by omega
            have hany : anyOf bigKind (fins s) = false := by rw [← HH.out, NoneTo.miss (by rw [Hfl.out]; exact hno)]; rfl
            have He3 := hide (show pErr s = if 1000 < (fins s).length then 4 else 0 by rw [He2.out, hany, if_neg (by simp)])
            have hl := hide (show pLine s = 0 by rw [Hl2.out, hany, if_neg (by simp)])
            have hc := hide (show pCol s = 0 by rw [Hc2.out, hany, if_neg (by simp)])
            clear hany
            by_cases h1000 : 1000 < (linesB s).length
            · have he := hide (show pErr s = 4 by rw [He3.out, Hfl.out, if_pos h1000])
              have ho := hide (show pOut s = [] by rw [pOut, he.out, if_neg (by omega)])
              go_wp2_with fail
              refine bodyPost_ret (results_tct rfl rfl ((B2.out.set_ 0 _).set_ 1 _) Tryz.underlying42 rfl (by kernel_rfl)) rfl ?_
              exact ⟨none, ⟨0, by rw [he.out, hl.out, hc.out, ho.out]; rfl⟩, by rw [ho.out]; exact SlOf.nil _ _ _ _ _, (hw2.out.setCell (by simp) _).setCell (by simp) _⟩
            · have he := hide (show pErr s = 0 by rw [He3.out, Hfl.out, if_neg h1000])
              have ho := hide (show pOut s = fins s by rw [pOut, he.out, if_pos rfl])
              go_wp2_with fail
              refine bodyPost_ret (results_tct rfl rfl ((B2.out.set_ 0 _).set_ 1 _) Tryz.underlying42 rfl (by kernel_rfl)) rfl ?_
              refine ⟨A0, ⟨c0, by rw [he.out, hl.out, hc.out, ho.out, Hfl.out]; rfl⟩, ?_, (hw2.out.setCell (by simp) _).setCell (by simp) _⟩
              rw [ho.out]
              exact Row.read ((Hrow.out.far (p := ⟨w.heap.size, 0, none⟩) hlt1 _).far (p := ⟨w.heap.size, 1, none⟩) hlt1 _) encFin_len (by omega)
end Go.Proofs.YtnhmdgkhmkeopaaGreatDoor
