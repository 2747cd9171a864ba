/- The path of a valid bar. -/
import Derived.Test.YtkmpddaobncheaaGreatDoorQan
namespace Go.Proofs.YtkmpddaobncheaaGreatDoor
open Go.RowKit

def encPts (p : Pt) : Array Value := #[.int .i64 p.1, .int .i64 p.2.1, .int .i64 p.2.2]
theorem rowSet {w : World} {base : Nat} {e : TypeId} {v : Value} {l : List Pt} (h : Row w base e 3 encPt v l) {a : Addr} (ha : a.block < base) (u : Value) : Row (w.setCell a u) base e 3 encPt v l := ownsRow_setCell_below h ha u
set_option maxHeartbeats 1000000 in
theorem legs_blk (code : Int) (w : World) (hno : legsOf code ≠ []) :
    Calls Tryz.prog 182 #[.int .i64 code] w fun e w' => ∃ cs, e = .returned (.slice (some ⟨w.heap.size, 0, none⟩) (legsLen code) (legsLen code)) ∧ Blk w' w.heap.size 253 cs ∧ Hid (cs.toList = (legsOf code).flatMap encLeg) ∧ Below w.heap.size w w' := by
  rcases code_cases hno with rfl | rfl | rfl | rfl | rfl | rfl | rfl | rfl
  all_goals
    clear hno
    go_enter Tryz.func182, Tryz.ntmps182
    go_wp2
    go_ret
    exact ⟨_, rfl, Blk.new w _ _, hide rfl, below_new _ _⟩
theorem rowBase {α : Type} {w : World} {base base' : Nat} {e : TypeId} {size : Nat} {enc : α → List Value} {v : Value} {l : List α} (hb : base' ≤ base) (h : Row w base e size enc v l) : Row w base' e size enc v l := by
  refine ⟨h.1, ?_⟩
  rcases h.2 with h | ⟨g, cap, cur, h1, h2, h3, r⟩
  · exact .inl h
  · exact .inr ⟨g, cap, cur, h1, Nat.le_trans hb h2, h3, r⟩
theorem take_path {x : BarD} {k : Nat} {p : Pt} (h : (pathOf x)[k + 1]? = some p) : (pathOf x).take (k + 2) = (pathOf x).take (k + 1) ++ [p] := take_snoc' h
set_option maxHeartbeats 4000000 in
set_option maxRecDepth 100000 in
theorem shapePath_row (x : BarD) (A : Option Addr) (c : Nat) (w : World) {B : Nat} (hA : Ints w B A x.dims) (hB : B ≤ w.heap.size) (hm : x.mark.size ≤ maxLen) (hd : x.dims.length ≤ 60000) (hok : barOk x = true) :
    Calls Tryz.prog 129 #[.agg #[.string x.mark, .int .i64 x.size, .int .i64 x.count, .int .i64 x.code, .slice A x.dims.length c]] w fun e w' =>
      ∃ A' c', e = .returned (.tuple #[.slice A' (pathOf x).length c', .int .i64 0]) ∧ Row w' w.heap.size 49 3 encPt (.slice A' (pathOf x).length c') (pathOf x) ∧ Below w.heap.size w w' := by
  have Hg := hide (barGood_of hok)
  have Hok := hide hok
  have Hnear := hide (path_near hok)
  have hle := legsLen_le x.code
  have hno : legsOf x.code ≠ [] := fun he => Hg.out.legs (by simp [legLens, he])
  have HLg := hide (fun (W : World) => legs_blk x.code W hno)
  have hbo := fun o => hide ((Below.refl B w).alloc hB o)
  clear hok hno
  go_enter Tryz.func129, Tryz.ntmps129
  go_wp2_with fail
  refine (barValid_any x A c _ (hA.carry (hbo _).out (Nat.le_refl _)) (le_alloc hB _) hm hd).mono ?_
  rintro e w1 ⟨rfl, hb1⟩
  rw [Hok.out]
  have hw1 := hide (below_step (below_new w _) hb1 (Nat.le_refl _))
  have b0 := (Blk.new w 68 #[.string x.mark, .int .i64 x.size, .int .i64 x.count, .int .i64 x.code, .slice A x.dims.length c]).keep hb1
  have c3 := b0.cell 3
  simp at c3
  have hA1 := hide (hA.carry ((hbo _).out.trans (hb1.mono (le_alloc hB _))) (Nat.le_refl _))
  have hl0 := b0.lt
  have B0 := hide b0
  clear b0 hA hb1 hbo
  go_wp2_with fail
  refine (HLg.out _).mono ?_
  rintro e w2 ⟨cs, rfl, hL, hcs, hb2⟩
  obtain ⟨gA, hgA⟩ : ∃ gA, gA = w1.heap.size := ⟨_, rfl⟩
  have kA := ((Blk.new w1 49 #[.int .i64 0, .int .i64 0, .int .i64 0]).alloc (.cells #[.int .i64 0, .int .i64 0, .int .i64 0] 49)).keep hb2
  have hrow := World.ownsRow_lit (base := w1.heap.size + 1) (e := 49) (size := 3) (w1.alloc (.cells #[.int .i64 0, .int .i64 0, .int .i64 0] 49)) #[.int .i64 0, .int .i64 0, .int .i64 0] 1 (by simp) (by unfold maxLen; omega) rfl
  rw [size_alloc'] at hrow
  have hrow2 : Row w2 (w1.heap.size + 1) 49 3 encPt (.slice (some ⟨w1.heap.size + 1, 0, none⟩) 1 1) [(0, 0, 0)] := Row.keep (show Row ((w1.alloc (.cells #[.int .i64 0, .int .i64 0, .int .i64 0] 49)).alloc (.cells #[.int .i64 0, .int .i64 0, .int .i64 0] 49)) (w1.heap.size + 1) 49 3 encPt (.slice (some ⟨w1.heap.size + 1, 0, none⟩) 1 1) [(0, 0, 0)] from hrow) hb2
  have hb12 := below_step (below_new2 w1 (.cells #[.int .i64 0, .int .i64 0, .int .i64 0] 49) (.cells #[.int .i64 0, .int .i64 0, .int .i64 0] 49)) hb2 (Nat.le_refl _)
  rw [size_alloc', size_alloc'] at hL
  have hp0 : [((0, 0, 0) : Pt)] = (pathOf x).take 1 := by
    have h9 := pathOf_zero x
    have h8 := take_snoc' h9
    simpa using h8.symm
  rw [hp0] at hrow2
  rw [← hgA] at kA hrow2 hL ⊢
  obtain ⟨gL, hgL⟩ : ∃ gL, gL = gA + 1 + 1 := ⟨_, rfl⟩
  rw [size_alloc', size_alloc', ← hgA, ← hgL]
  rw [← hgL] at hL
  have hgAL : gA ≠ gL := by omega
  have hwA : w.heap.size < gA := by omega
  have hA1' := hide (show w1.heap.size = gA from hgA.symm)
  have KA := hide (show Blk w2 gA 49 (encPts (0, 0, 0)) from kA)
  have HL := hide hL
  have Hrow := hide hrow2
  have Hb12 := hide hb12
  have Hcs := hide hcs.out
  clear kA hrow hrow2 hL hb12 hp0 hgL hgA hb2 hcs c3 HLg
  go_wp2_with fail
  go_loopw [5, 18] (fun v i wr => ∃ k : Nat, k ≤ legsLen x.code ∧ i = .int .i64 k ∧ (∃ o : Pt, Hid ((pathOf x)[k]? = some o) ∧ Blk wr gA 49 (encPts o)) ∧ Blk wr gL 253 cs ∧ Row wr (gA + 1) 49 3 encPt v ((pathOf x).take (k + 1)) ∧ Below w1.heap.size w1 wr) (fun _ i _ => legsLen x.code - (intOf i).toNat)
  case atStart => exact ⟨0, Nat.zero_le _, rfl, ⟨(0, 0, 0), hide (pathOf_zero x), KA.out⟩, HL.out, Hrow.out, Hb12.out⟩
  case round =>
    clear KA HL Hrow Hb12
    obtain ⟨k, hk, rfl, ⟨o, ho, kA⟩, kL, hrow, hbr⟩ := hrel
    obtain ⟨A0, c0, rfl⟩ := hrow.val
    by_cases hlt : k < legsLen x.code
    · obtain ⟨⟨d, y⟩, hx⟩ : ∃ p, (legsOf x.code)[k]? = some p := ⟨_, List.getElem?_eq_getElem hlt⟩
      have q0 : wr.cell? ⟨gL, k * 2, none⟩ = some (.int .i64 d) := by
        rw [kL.cell, ← Array.getElem?_toList, Hcs.out]
        simpa using flatMap_get encLeg_len _ k (d, y) hx 0 (.int .i64 d) rfl
      have q1 : wr.cell? ⟨gL, k * 2 + 1, none⟩ = some (.int .u8 y) := by
        rw [kL.cell, ← Array.getElem?_toList, Hcs.out]
        exact flatMap_get encLeg_len _ k (d, y) hx 1 (.int .u8 y) rfl
      obtain ⟨hd0, hd1, hd2, hd3, hd4⟩ := Hg.out.leg _ (mem_of_get hx)
      obtain ⟨b', off', z, rfl, hbl', hz, hcz⟩ := Ints.get (k := d.toNat) (hA1.out.carry (hbr.mono (Nat.le_trans hB hw1.out.size)) (Nat.le_refl _)) hd1
      have hz' : z = legDim x (d, y) := by simp only [hd2] at hz; injection hz with hz; exact hz.symm
      have hnext := pathOf_next ho.out hx
      rw [← hz'] at hnext hd3 hd4
      have hnear := nearBy_iff.1 (Hnear.out _ (mem_of_get hnext))
      have hways := legs_ways x.code _ (mem_of_get hx)
      have c4 := (B0.out.below hbr hl0).cell 4
      obtain ⟨o1, o2, o3⟩ := o
      have u0 := kA.cell 0
      have u1 := kA.cell 1
      have u2 := kA.cell 2
      have v0 := kA.frozen 0
      have v1 := kA.frozen 1
      have v2 := kA.frozen 2
      simp [encPts] at u0 u1 u2 c4
      simp only at hd0 hd1 hways hnext hnear
      have l0 : w.heap.size < wr.heap.size := by have := hbr.size; have := hw1.out.size; have := hA1'.out; omega
      have l1 : b' < wr.heap.size := by have := hbr.size; have := hw1.out.size; omega
      have l2 := kA.lt
      have l3 := kL.lt
      have KA := hide kA
      have KL := hide kL
      have Hrow := hide hrow
      have Hnext := hide hnext
      have hacc : ((pathOf x).take (k + 1)).length ≤ 1000 := by rw [List.length_take]; omega
      have Htake := hide (fun (p : Pt) (hp : (pathOf x)[k + 1]? = some p) => take_path hp)
      generalize (pathOf x).take (k + 1) = acc at Hrow hacc Htake
      have hbrs := hbr.size
      clear hx hz hz' hbl' hd2 hrow hnext ho kA kL
      rcases hways with rfl | rfl | rfl | rfl | rfl
      · simp [ptOf, addP] at hnear
        have s1 : IntKind.i64.wrap (o1 + z) = o1 + z := IntWalk.i64_in _ (by omega)
        have hset := hide (show (encPts (o1, o2, o3)).setIfInBounds 0 (.int .i64 (o1 + z)) = encPts (o1 + z, o2, o3) by simp [encPts])
        have hN := hide (show (pathOf x)[k + 1]? = some (o1 + z, o2, o3) by rw [Hnext.out]; simp [ptOf, addP]; try omega)
        have R1 := hide (Row.alloc (Row.alloc (rowSet Hrow.out (show (⟨gA, 0, none⟩ : Addr).block < gA + 1 from Nat.lt_succ_self _) (.int .i64 (o1 + z))) (.cells #[.int .i64 d, .int .u8 120] 253)) (.cells (encPts (o1 + z, o2, o3)) 49))
        have R2 := Blk.new1 (wr.setCell ⟨gA, 0, none⟩ (.int .i64 (o1 + z))) (.cells #[.int .i64 d, .int .u8 120] 253) 49 (encPts (o1 + z, o2, o3))
        rw [World.size_setCell] at R2
        have R2 := hide R2
        have R3 := hide (((KA.out.set_ 0 (.int .i64 (o1 + z))).alloc (.cells #[.int .i64 d, .int .u8 120] 253)).alloc (.cells (encPts (o1 + z, o2, o3)) 49))
        rw [hset.out] at R3
        have R4 := hide (((KL.out.far (p := ⟨gA, 0, none⟩) (fun h => hgAL h.symm) (.int .i64 (o1 + z))).alloc (.cells #[.int .i64 d, .int .u8 120] 253)).alloc (.cells (encPts (o1 + z, o2, o3)) 49))
        have R5 := hide (((hbr.setCell (p := ⟨gA, 0, none⟩) (by show w1.heap.size ≤ gA; have := hA1'.out; omega) (.int .i64 (o1 + z))).alloc (by rw [World.size_setCell]; exact hbrs) (.cells #[.int .i64 d, .int .u8 120] 253)).alloc (by rw [size_alloc', World.size_setCell]; omega) (.cells (encPts (o1 + z, o2, o3)) 49))
        have R6 := hide (show gA + 1 ≤ (((wr.setCell ⟨gA, 0, none⟩ (.int .i64 (o1 + z))).alloc (.cells #[.int .i64 d, .int .u8 120] 253)).alloc (.cells (encPts (o1 + z, o2, o3)) 49)).heap.size by rw [size_alloc', size_alloc', World.size_setCell]; omega)
        have hKk := hide hk
        clear hset Hnext
        go_wp2_with (at_builtin; refine wpList_append1 rfl (.tmp 65) (.tmp 67) 201 rfl (gA + 1) 49 (.agg #[.int .i64 0, .int .i64 0, .int .i64 0]) 3 24 encPt Tryz.underlying201 (by kernel_rfl) rfl (by omega) encPt_len encPt_one _ acc (o1 + z, o2, o3) rfl R1.out _ rfl R2.out (by omega) (by omega) R6.out ?_; intro A1 c1 w6 hrow6 hb6 hkeep)
        go_roundw
        case rel => exact ⟨k + 1, by omega, by go_num, ⟨(o1 + z, o2, o3), hN, R3.out.below hb6 (Nat.lt_succ_self _)⟩, hkeep gL 253 cs (by decide) R4.out, by rw [Htake.out (o1 + z, o2, o3) hN.out]; simpa using hrow6, R5.out.trans (hb6.mono (by have := hA1'.out; omega))⟩
        case measure => simp [intOf]; omega
      · simp [ptOf, addP] at hnear
        have s1 : IntKind.i64.wrap (o1 - z) = o1 - z := IntWalk.i64_in _ (by omega)
        have hset := hide (show (encPts (o1, o2, o3)).setIfInBounds 0 (.int .i64 (o1 - z)) = encPts (o1 - z, o2, o3) by simp [encPts])
        have hN := hide (show (pathOf x)[k + 1]? = some (o1 - z, o2, o3) by rw [Hnext.out]; simp [ptOf, addP]; try omega)
        have R1 := hide (Row.alloc (Row.alloc (rowSet Hrow.out (show (⟨gA, 0, none⟩ : Addr).block < gA + 1 from Nat.lt_succ_self _) (.int .i64 (o1 - z))) (.cells #[.int .i64 d, .int .u8 88] 253)) (.cells (encPts (o1 - z, o2, o3)) 49))
        have R2 := Blk.new1 (wr.setCell ⟨gA, 0, none⟩ (.int .i64 (o1 - z))) (.cells #[.int .i64 d, .int .u8 88] 253) 49 (encPts (o1 - z, o2, o3))
        rw [World.size_setCell] at R2
        have R2 := hide R2
        have R3 := hide (((KA.out.set_ 0 (.int .i64 (o1 - z))).alloc (.cells #[.int .i64 d, .int .u8 88] 253)).alloc (.cells (encPts (o1 - z, o2, o3)) 49))
        rw [hset.out] at R3
        have R4 := hide (((KL.out.far (p := ⟨gA, 0, none⟩) (fun h => hgAL h.symm) (.int .i64 (o1 - z))).alloc (.cells #[.int .i64 d, .int .u8 88] 253)).alloc (.cells (encPts (o1 - z, o2, o3)) 49))
        have R5 := hide (((hbr.setCell (p := ⟨gA, 0, none⟩) (by show w1.heap.size ≤ gA; have := hA1'.out; omega) (.int .i64 (o1 - z))).alloc (by rw [World.size_setCell]; exact hbrs) (.cells #[.int .i64 d, .int .u8 88] 253)).alloc (by rw [size_alloc', World.size_setCell]; omega) (.cells (encPts (o1 - z, o2, o3)) 49))
        have R6 := hide (show gA + 1 ≤ (((wr.setCell ⟨gA, 0, none⟩ (.int .i64 (o1 - z))).alloc (.cells #[.int .i64 d, .int .u8 88] 253)).alloc (.cells (encPts (o1 - z, o2, o3)) 49)).heap.size by rw [size_alloc', size_alloc', World.size_setCell]; omega)
        have hKk := hide hk
        clear hset Hnext
        go_wp2_with (at_builtin; refine wpList_append1 rfl (.tmp 65) (.tmp 67) 201 rfl (gA + 1) 49 (.agg #[.int .i64 0, .int .i64 0, .int .i64 0]) 3 24 encPt Tryz.underlying201 (by kernel_rfl) rfl (by omega) encPt_len encPt_one _ acc (o1 - z, o2, o3) rfl R1.out _ rfl R2.out (by omega) (by omega) R6.out ?_; intro A1 c1 w6 hrow6 hb6 hkeep)
        go_roundw
        case rel => exact ⟨k + 1, by omega, by go_num, ⟨(o1 - z, o2, o3), hN, R3.out.below hb6 (Nat.lt_succ_self _)⟩, hkeep gL 253 cs (by decide) R4.out, by rw [Htake.out (o1 - z, o2, o3) hN.out]; simpa using hrow6, R5.out.trans (hb6.mono (by have := hA1'.out; omega))⟩
        case measure => simp [intOf]; omega
      · simp [ptOf, addP] at hnear
        have s1 : IntKind.i64.wrap (o2 + z) = o2 + z := IntWalk.i64_in _ (by omega)
        have hset := hide (show (encPts (o1, o2, o3)).setIfInBounds 1 (.int .i64 (o2 + z)) = encPts (o1, o2 + z, o3) by simp [encPts])
        have hN := hide (show (pathOf x)[k + 1]? = some (o1, o2 + z, o3) by rw [Hnext.out]; simp [ptOf, addP]; try omega)
        have R1 := hide (Row.alloc (Row.alloc (rowSet Hrow.out (show (⟨gA, 1, none⟩ : Addr).block < gA + 1 from Nat.lt_succ_self _) (.int .i64 (o2 + z))) (.cells #[.int .i64 d, .int .u8 121] 253)) (.cells (encPts (o1, o2 + z, o3)) 49))
        have R2 := Blk.new1 (wr.setCell ⟨gA, 1, none⟩ (.int .i64 (o2 + z))) (.cells #[.int .i64 d, .int .u8 121] 253) 49 (encPts (o1, o2 + z, o3))
        rw [World.size_setCell] at R2
        have R2 := hide R2
        have R3 := hide (((KA.out.set_ 1 (.int .i64 (o2 + z))).alloc (.cells #[.int .i64 d, .int .u8 121] 253)).alloc (.cells (encPts (o1, o2 + z, o3)) 49))
        rw [hset.out] at R3
        have R4 := hide (((KL.out.far (p := ⟨gA, 1, none⟩) (fun h => hgAL h.symm) (.int .i64 (o2 + z))).alloc (.cells #[.int .i64 d, .int .u8 121] 253)).alloc (.cells (encPts (o1, o2 + z, o3)) 49))
        have R5 := hide (((hbr.setCell (p := ⟨gA, 1, none⟩) (by show w1.heap.size ≤ gA; have := hA1'.out; omega) (.int .i64 (o2 + z))).alloc (by rw [World.size_setCell]; exact hbrs) (.cells #[.int .i64 d, .int .u8 121] 253)).alloc (by rw [size_alloc', World.size_setCell]; omega) (.cells (encPts (o1, o2 + z, o3)) 49))
        have R6 := hide (show gA + 1 ≤ (((wr.setCell ⟨gA, 1, none⟩ (.int .i64 (o2 + z))).alloc (.cells #[.int .i64 d, .int .u8 121] 253)).alloc (.cells (encPts (o1, o2 + z, o3)) 49)).heap.size by rw [size_alloc', size_alloc', World.size_setCell]; omega)
        have hKk := hide hk
        clear hset Hnext
        go_wp2_with (at_builtin; refine wpList_append1 rfl (.tmp 65) (.tmp 67) 201 rfl (gA + 1) 49 (.agg #[.int .i64 0, .int .i64 0, .int .i64 0]) 3 24 encPt Tryz.underlying201 (by kernel_rfl) rfl (by omega) encPt_len encPt_one _ acc (o1, o2 + z, o3) rfl R1.out _ rfl R2.out (by omega) (by omega) R6.out ?_; intro A1 c1 w6 hrow6 hb6 hkeep)
        go_roundw
        case rel => exact ⟨k + 1, by omega, by go_num, ⟨(o1, o2 + z, o3), hN, R3.out.below hb6 (Nat.lt_succ_self _)⟩, hkeep gL 253 cs (by decide) R4.out, by rw [Htake.out (o1, o2 + z, o3) hN.out]; simpa using hrow6, R5.out.trans (hb6.mono (by have := hA1'.out; omega))⟩
        case measure => simp [intOf]; omega
      · simp [ptOf, addP] at hnear
        have s1 : IntKind.i64.wrap (o2 - z) = o2 - z := IntWalk.i64_in _ (by omega)
        have hset := hide (show (encPts (o1, o2, o3)).setIfInBounds 1 (.int .i64 (o2 - z)) = encPts (o1, o2 - z, o3) by simp [encPts])
        have hN := hide (show (pathOf x)[k + 1]? = some (o1, o2 - z, o3) by rw [Hnext.out]; simp [ptOf, addP]; try omega)
        have R1 := hide (Row.alloc (Row.alloc (rowSet Hrow.out (show (⟨gA, 1, none⟩ : Addr).block < gA + 1 from Nat.lt_succ_self _) (.int .i64 (o2 - z))) (.cells #[.int .i64 d, .int .u8 89] 253)) (.cells (encPts (o1, o2 - z, o3)) 49))
        have R2 := Blk.new1 (wr.setCell ⟨gA, 1, none⟩ (.int .i64 (o2 - z))) (.cells #[.int .i64 d, .int .u8 89] 253) 49 (encPts (o1, o2 - z, o3))
        rw [World.size_setCell] at R2
        have R2 := hide R2
        have R3 := hide (((KA.out.set_ 1 (.int .i64 (o2 - z))).alloc (.cells #[.int .i64 d, .int .u8 89] 253)).alloc (.cells (encPts (o1, o2 - z, o3)) 49))
        rw [hset.out] at R3
        have R4 := hide (((KL.out.far (p := ⟨gA, 1, none⟩) (fun h => hgAL h.symm) (.int .i64 (o2 - z))).alloc (.cells #[.int .i64 d, .int .u8 89] 253)).alloc (.cells (encPts (o1, o2 - z, o3)) 49))
        have R5 := hide (((hbr.setCell (p := ⟨gA, 1, none⟩) (by show w1.heap.size ≤ gA; have := hA1'.out; omega) (.int .i64 (o2 - z))).alloc (by rw [World.size_setCell]; exact hbrs) (.cells #[.int .i64 d, .int .u8 89] 253)).alloc (by rw [size_alloc', World.size_setCell]; omega) (.cells (encPts (o1, o2 - z, o3)) 49))
        have R6 := hide (show gA + 1 ≤ (((wr.setCell ⟨gA, 1, none⟩ (.int .i64 (o2 - z))).alloc (.cells #[.int .i64 d, .int .u8 89] 253)).alloc (.cells (encPts (o1, o2 - z, o3)) 49)).heap.size by rw [size_alloc', size_alloc', World.size_setCell]; omega)
        have hKk := hide hk
        clear hset Hnext
        go_wp2_with (at_builtin; refine wpList_append1 rfl (.tmp 65) (.tmp 67) 201 rfl (gA + 1) 49 (.agg #[.int .i64 0, .int .i64 0, .int .i64 0]) 3 24 encPt Tryz.underlying201 (by kernel_rfl) rfl (by omega) encPt_len encPt_one _ acc (o1, o2 - z, o3) rfl R1.out _ rfl R2.out (by omega) (by omega) R6.out ?_; intro A1 c1 w6 hrow6 hb6 hkeep)
        go_roundw
        case rel => exact ⟨k + 1, by omega, by go_num, ⟨(o1, o2 - z, o3), hN, R3.out.below hb6 (Nat.lt_succ_self _)⟩, hkeep gL 253 cs (by decide) R4.out, by rw [Htake.out (o1, o2 - z, o3) hN.out]; simpa using hrow6, R5.out.trans (hb6.mono (by have := hA1'.out; omega))⟩
        case measure => simp [intOf]; omega
      · simp [ptOf, addP] at hnear
        have s1 : IntKind.i64.wrap (o3 + z) = o3 + z := IntWalk.i64_in _ (by omega)
        have hset := hide (show (encPts (o1, o2, o3)).setIfInBounds 2 (.int .i64 (o3 + z)) = encPts (o1, o2, o3 + z) by simp [encPts])
        have hN := hide (show (pathOf x)[k + 1]? = some (o1, o2, o3 + z) by rw [Hnext.out]; simp [ptOf, addP]; try omega)
        have R1 := hide (Row.alloc (Row.alloc (rowSet Hrow.out (show (⟨gA, 2, none⟩ : Addr).block < gA + 1 from Nat.lt_succ_self _) (.int .i64 (o3 + z))) (.cells #[.int .i64 d, .int .u8 122] 253)) (.cells (encPts (o1, o2, o3 + z)) 49))
        have R2 := Blk.new1 (wr.setCell ⟨gA, 2, none⟩ (.int .i64 (o3 + z))) (.cells #[.int .i64 d, .int .u8 122] 253) 49 (encPts (o1, o2, o3 + z))
        rw [World.size_setCell] at R2
        have R2 := hide R2
        have R3 := hide (((KA.out.set_ 2 (.int .i64 (o3 + z))).alloc (.cells #[.int .i64 d, .int .u8 122] 253)).alloc (.cells (encPts (o1, o2, o3 + z)) 49))
        rw [hset.out] at R3
        have R4 := hide (((KL.out.far (p := ⟨gA, 2, none⟩) (fun h => hgAL h.symm) (.int .i64 (o3 + z))).alloc (.cells #[.int .i64 d, .int .u8 122] 253)).alloc (.cells (encPts (o1, o2, o3 + z)) 49))
        have R5 := hide (((hbr.setCell (p := ⟨gA, 2, none⟩) (by show w1.heap.size ≤ gA; have := hA1'.out; omega) (.int .i64 (o3 + z))).alloc (by rw [World.size_setCell]; exact hbrs) (.cells #[.int .i64 d, .int .u8 122] 253)).alloc (by rw [size_alloc', World.size_setCell]; omega) (.cells (encPts (o1, o2, o3 + z)) 49))
        have R6 := hide (show gA + 1 ≤ (((wr.setCell ⟨gA, 2, none⟩ (.int .i64 (o3 + z))).alloc (.cells #[.int .i64 d, .int .u8 122] 253)).alloc (.cells (encPts (o1, o2, o3 + z)) 49)).heap.size by rw [size_alloc', size_alloc', World.size_setCell]; omega)
        have hKk := hide hk
        clear hset Hnext
        go_wp2_with (at_builtin; refine wpList_append1 rfl (.tmp 65) (.tmp 67) 201 rfl (gA + 1) 49 (.agg #[.int .i64 0, .int .i64 0, .int .i64 0]) 3 24 encPt Tryz.underlying201 (by kernel_rfl) rfl (by omega) encPt_len encPt_one _ acc (o1, o2, o3 + z) rfl R1.out _ rfl R2.out (by omega) (by omega) R6.out ?_; intro A1 c1 w6 hrow6 hb6 hkeep)
        go_roundw
        case rel => exact ⟨k + 1, by omega, by go_num, ⟨(o1, o2, o3 + z), hN, R3.out.below hb6 (Nat.lt_succ_self _)⟩, hkeep gL 253 cs (by decide) R4.out, by rw [Htake.out (o1, o2, o3 + z) hN.out]; simpa using hrow6, R5.out.trans (hb6.mono (by have := hA1'.out; omega))⟩
        case measure => simp [intOf]; omega
    · obtain rfl : k = legsLen x.code := by omega
      have hlen : (pathOf x).length = legsLen x.code + 1 := by rw [pathOf_len]; rfl
      have hfull : (pathOf x).take (legsLen x.code + 1) = pathOf x := List.take_of_length_le (by omega)
      rw [hfull] at hrow
      have Hrow := hide hrow
      have hfin := hide (below_step hw1.out hbr (Nat.le_refl _))
      rw [hfull]
      generalize hgm : (pathOf x).length = m at *
      have Hm := hide hgm
      clear hrow hlen hfull hgm
      go_wp2_with fail
      go_ret2
      exact ⟨A0, c0, by rw [Hm.out]; rfl, by first | exact rowBase (Nat.le_succ_of_le (Nat.le_of_lt hwA)) Hrow.out | (rw [Hm.out]; exact rowBase (Nat.le_succ_of_le (Nat.le_of_lt hwA)) Hrow.out), hfin.out⟩
theorem shapePath_ok (x : BarD) (A : Option Addr) (c : Nat) (w : World) {B : Nat} (hA : Ints w B A x.dims) (hB : B ≤ w.heap.size) (hm : x.mark.size ≤ maxLen) (hd : x.dims.length ≤ 60000) (hok : barOk x = true) :
    Calls Tryz.prog 129 #[.agg #[.string x.mark, .int .i64 x.size, .int .i64 x.count, .int .i64 x.code, .slice A x.dims.length c]] w fun e w' =>
      ∃ A' c', e = .returned (.tuple #[.slice A' (pathOf x).length c', .int .i64 0]) ∧ PtsAt w' w'.heap.size A' (pathOf x) ∧ Below w.heap.size w w' :=
  (shapePath_row x A c w hA hB hm hd hok).mono fun _ _ ⟨A', c', he, hr, hb⟩ => ⟨A', c', he, Row.read hr encPt_len (by omega), hb⟩
end Go.Proofs.YtkmpddaobncheaaGreatDoor
