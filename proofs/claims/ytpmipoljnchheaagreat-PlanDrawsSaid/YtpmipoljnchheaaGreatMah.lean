/- The reference of layer 1: names. Demands: whether they are valid. Rules: whether they are valid. The hull of boxes. -/
import Derived.Test.YtpmipoljnchheaaGreatMaa
import Derived.Test.YtpmipoljnchheaaGreatMac
namespace Go.Proofs.YtpmipoljnchheaaGreat
open Go.RowKit

set_option maxHeartbeats 400000 in
theorem refLetter_any (c : Int) (w : World) :
    Calls Tryz.prog 99 #[.int .u8 c] w fun e w' => e = .returned (.bool (isLetter c)) ∧ w = w' := by
  go_enter Tryz.func99, Tryz.ntmps99
  go_wp2
  all_goals
    go_ret
    exact ⟨ret_bool (by rw [Bool.eq_iff_iff]; simp [isLetter]; omega), rfl⟩

set_option maxHeartbeats 400000 in
theorem refDigit_any (c : Int) (w : World) :
    Calls Tryz.prog 147 #[.int .u8 c] w fun e w' => e = .returned (.bool (isDigit c)) ∧ w = w' := by
  go_enter Tryz.func147, Tryz.ntmps147
  go_wp2
  all_goals
    go_ret
    exact ⟨ret_bool (by rw [Bool.eq_iff_iff]; simp [isDigit]; try omega), rfl⟩

set_option maxHeartbeats 400000 in
theorem refWord_any (s : ByteArray) (i : Nat) (w : World) (hs : s.size ≤ maxLen) (hi : i ≤ s.size) :
    Calls Tryz.prog 100 #[.string s, .int .i64 i] w fun e w' => e = .returned (.int .i64 (i + wordLen (s.data.toList.drop i) : Nat)) ∧ w = w' := by
  unfold maxLen at hs
  go_enter Tryz.func100, Tryz.ntmps100
  go_wp2
  go_loop [1] (fun j => ∃ k : Nat, k ≤ s.size ∧ j = .int .i64 k ∧ Hid (k + wordLen (s.data.toList.drop k) = i + wordLen (s.data.toList.drop i))) (fun j => s.size - (intOf j).toNat)
  case atStart => exact ⟨i, hi, rfl, hide rfl⟩
  case round =>
    obtain ⟨k, hk, rfl, hw⟩ := hrel
    by_cases hlt : k < s.size
    · have hd := hide (drop_at s k hlt)
      go_wp2_with (first | (go_at_call 99; refine (refLetter_any _ _).mono ?_; rintro e w' ⟨rfl, rfl⟩) | (go_at_call 147; refine (refDigit_any _ _).mono ?_; rintro e w' ⟨rfl, rfl⟩))
      all_goals first
        | (go_ret
           exact ⟨ret_int (by have h1 := hw.out; rw [hd.out, wordLen_cons, if_neg (by simp_all [isWord])] at h1; omega), rfl⟩)
        | (go_round
           case rel => exact ⟨k + 1, by omega, by go_num, hide (by have h1 := hw.out; rw [hd.out, wordLen_cons, if_pos (by simp_all [isWord])] at h1; omega)⟩
           case measure => simp [intOf]; omega)
    · go_wp2
      go_ret
      exact ⟨ret_int (by have h1 := hw.out; rw [List.drop_eq_nil_of_le (by simp; omega)] at h1; simp [wordLen] at h1 ⊢; omega), rfl⟩

theorem refWord0_any (s : ByteArray) (w : World) (hs : s.size ≤ maxLen) :
    Calls Tryz.prog 100 #[.string s, .int .i64 0] w fun e w' => e = .returned (.int .i64 (wordLen s.data.toList)) ∧ w = w' := by
  have h := refWord_any s 0 w hs (Nat.zero_le _)
  simpa using h

set_option maxHeartbeats 400000 in
theorem refIsName_any (s : ByteArray) (w : World) (hs : s.size ≤ maxLen) :
    Calls Tryz.prog 70 #[.string s] w fun e w' => e = .returned (.bool (isName s)) ∧ w = w' := by
  by_cases h0 : s.size = 0
  · have hn := hide (show isName s = false by simp [isName, h0])
    have he : ((s.size : Int) == 0) = true := by simp [h0]
    clear hs h0
    go_enter Tryz.func70, Tryz.ntmps70
    go_wp2_with fail
    go_ret
    exact ⟨ret_bool (by rw [hn.out]), rfl⟩
  · obtain ⟨c, r, hl⟩ : ∃ c r, s.data.toList = c :: r := by
      cases h : s.data.toList with
      | nil => exfalso; have : s.data.toList.length = s.size := by simp
               rw [h] at this; simp at this; omega
      | cons c r => exact ⟨c, r, rfl⟩
    have hn := hide (isName_cons hl)
    have hp : 0 < s.size := by omega
    have hc : s[0]'hp = c := by
      have : s.data.toList[0]? = some c := by rw [hl]; rfl
      have h2 : s.data.toList[0]? = some (s[0]'hp) := List.getElem?_eq_getElem (by simp; omega)
      rw [h2] at this; injection this
    have he : ((s.size : Int) == 0) = false := beq_eq_false_iff_ne.2 (by omega)
    have HC := hide hc
    have HL := hide hl
    clear h0 hc hl
    go_enter Tryz.func70, Tryz.ntmps70
    go_wp2_with (first | (go_at_call 99; refine (refLetter_any _ _).mono ?_; rintro e w' ⟨rfl, rfl⟩) | (go_at_call 100; refine (refWord0_any s _ hs).mono ?_; rintro e w' ⟨rfl, rfl⟩))
    all_goals
      go_ret
      refine ⟨ret_bool ?_, rfl⟩
      rw [hn.out, ← HL.out, ← HC.out, Bool.eq_iff_iff]
      simp_all
      all_goals first
        | omega
        | (intro h1 h2
           exfalso
           have h3 : 20 < (s.size : Int) ∨ isLetter (s[0].toNat : Int) = false := by assumption
           rcases h3 with h3 | h3
           · omega
           · rw [h2] at h3; cases h3)

end Go.Proofs.YtpmipoljnchheaaGreat
namespace Go.Proofs.YtpmipoljnchheaaGreat
open Go.RowKit

abbrev dmV (d : DemD) (A : Option Addr) (n c : Nat) : Value := .agg #[.string d.name, .int .i64 d.zone.lo.1, .int .i64 d.zone.lo.2.1, .int .i64 d.zone.lo.2.2, .int .i64 d.zone.hi.1, .int .i64 d.zone.hi.2.1, .int .i64 d.zone.hi.2.2, .slice A n c]
abbrev dmC (d : DemD) (A : Option Addr) (n c : Nat) : Array Value := #[.string d.name, .int .i64 d.zone.lo.1, .int .i64 d.zone.lo.2.1, .int .i64 d.zone.lo.2.2, .int .i64 d.zone.hi.1, .int .i64 d.zone.hi.2.1, .int .i64 d.zone.hi.2.2, .slice A n c]
/-- Names are no longer than a machine's string, lists of steps than a machine's list. -/
def DemTame (l : List DemD) : Prop := ∀ d ∈ l, d.name.size ≤ maxLen ∧ (d.steps.length : Int) ≤ 9223372036854775807
set_option maxHeartbeats 2000000 in
theorem demandRight_any (d : DemD) (A : Option Addr) (c : Nat) (w : World) {B : Nat} (h : StpsAt w B A d.steps) (hB : B ≤ w.heap.size) (hm : d.name.size ≤ maxLen) (hl : (d.steps.length : Int) ≤ 9223372036854775807) :
    Calls Tryz.prog 140 #[dmV d A d.steps.length c] w fun e w' => e = .returned (.bool (demOk d)) ∧ Below w.heap.size w w' := by
  have HN := hide (fun (wz : World) => isName_any d.name wz hm)
  have HX := hide (fun (wz : World) => boxValid_any d.zone wz)
  have HS := hide (fun (wz : World) (hz : Below w.heap.size w wz) => stepsValid_any A d.steps d.steps.length c wz (h.carry (Flat.carried _) (hz.mono hB) (Nat.le_refl B)) (Nat.le_trans hB hz.size) rfl hl)
  obtain ⟨tn, htn⟩ : ∃ t, t = isName d.name := ⟨_, rfl⟩
  obtain ⟨tx, htx⟩ : ∃ t, t = boxOk d.zone := ⟨_, rfl⟩
  obtain ⟨ts, hts⟩ : ∃ t, t = stepsOk d.steps := ⟨_, rfl⟩
  have Hr := hide (show demOk d = (tn && tx && ts) by rw [demOk, htn, htx, hts])
  rw [← htn] at HN
  rw [← htx] at HX
  rw [← hts] at HS
  clear htn htx hts h
  have Hb := hide (Blk.new w 146 (dmC d A d.steps.length c))
  have Hw := hide (below_new w (.cells (dmC d A d.steps.length c) 146))
  obtain ⟨name, ⟨⟨x, y, z⟩, ⟨x2, y2, z2⟩⟩, steps⟩ := d
  simp only [dmC] at HN HX HS Hb Hw
  obtain ⟨n, hn⟩ : ∃ n, n = steps.length := ⟨_, rfl⟩
  simp only [dmV]
  rw [← hn] at HS Hb Hw ⊢
  clear hn
  cases tn
  · go_enter Tryz.func140, Tryz.ntmps140
    go_wp2_with (go_at_call 139; refine (HN.out _).mono ?_; rintro e w2 ⟨rfl, rfl⟩)
    go_ret
    exact ⟨ret_bool Hr.out.symm, Hw.out⟩
  cases tx
  · go_enter Tryz.func140, Tryz.ntmps140
    go_wp2_with (first
      | (go_at_call 139; refine (HN.out _).mono ?_; rintro e w2 ⟨rfl, rfl⟩)
      | (go_at_call 119; refine (HX.out _).mono ?_; rintro e w2 ⟨rfl, hb2⟩))
    go_ret
    exact ⟨ret_bool Hr.out.symm, below_step Hw.out hb2 (Nat.le_refl _)⟩
  · go_enter Tryz.func140, Tryz.ntmps140
    go_wp2_with (first
      | (go_at_call 139; refine (HN.out _).mono ?_; rintro e w2 ⟨rfl, rfl⟩)
      | (go_at_call 119; refine (HX.out _).mono ?_; rintro e w2 ⟨rfl, hb2⟩; have c7 := (Hb.out.keep hb2).cell 7; simp at c7)
      | (go_at_call 172; refine (HS.out _ (below_step Hw.out hb2 (Nat.le_refl _))).mono ?_; rintro e w3 ⟨rfl, hb3⟩))
    go_ret
    exact ⟨ret_bool Hr.out.symm, below_step (below_step Hw.out hb2 (Nat.le_refl _)) hb3 (Nat.le_refl _)⟩
set_option maxHeartbeats 1000000 in
theorem indexFuncDem_any (A : Option Addr) (l : List DemD) (n c : Nat) (fid : FuncId) (caps : Array Value) (p : DemD → Bool) (w : World) {B : Nat} (h : DemsAt w B A l) (hB : B ≤ w.heap.size) (hn : n = l.length) (hm : n ≤ 60000)
    (hc : ∀ args w, (callFunc fid args).run Tryz.prog w = .ok (.enter fid args) w)
    (hf : ∀ x A' c' (W : World), x ∈ l → Below w.heap.size w W → Calls Tryz.prog fid (#[dmV x A' x.steps.length c'] ++ caps) W fun e W' => e = .returned (.bool (p x)) ∧ Below W.heap.size W W') :
    Calls Tryz.prog 173 #[.slice A n c, .func (.func fid) #[] caps] w fun e w' => e = .returned (.int .i64 (idx p l)) ∧ Below w.heap.size w w' := by
  have Hf := hide hf
  have hn' := hide hn
  have Hs := hide h
  clear hf hn h
  go_enter Tryz.func173, Tryz.ntmps173
  go_wp2_with fail
  go_loopw [8] (fun i wr => ∃ k : Nat, k ≤ n ∧ i = .int .i64 k ∧ NoneTo p l k ∧ Below w.heap.size w wr) (fun i _ => n - (intOf i).toNat)
  case atStart => exact ⟨0, Nat.zero_le _, rfl, NoneTo.zero _ _, Below.refl _ _⟩
  case round =>
    obtain ⟨k, hk, rfl, hw, hb⟩ := hrel
    by_cases hlt : k < n
    · obtain ⟨b, off, x, A', c', rfl, hbl, hx, hi, hcells⟩ := DemsAt.get (k := k) (Hs.out.carry demR_carried (hb.mono hB) (Nat.le_refl _)) (by rw [← hn'.out]; exact hlt)
      have h0 := hcells 0 _ rfl
      have h1 := hcells 1 _ rfl
      have h2 := hcells 2 _ rfl
      have h3 := hcells 3 _ rfl
      have h4 := hcells 4 _ rfl
      have h5 := hcells 5 _ rfl
      have h6 := hcells 6 _ rfl
      have h7 := hcells 7 _ rfl
      rw [Nat.add_zero] at h0
      have Hx := hide hx
      have HF := hide (fun (W : World) (hW : Below w.heap.size w W) => Hf.out x A' c' W (mem_of_get hx) hW)
      clear hx hi hcells hbl
      go_wp2_with fail
      refine (HF.out _ hb).mono ?_
      rintro e w1 ⟨rfl, hb1⟩
      clear h0 h1 h2 h3 h4 h5 h6 h7
      have hb2 := below_step hb hb1 (Nat.le_refl _)
      cases hp : p x
      · have Hp := hide hp
        clear hp
        go_wp2_with fail
        go_roundw
        case rel => exact ⟨k + 1, by omega, by go_num, hw.succ Hx.out Hp.out, hb2⟩
        case measure => simp [intOf]; omega
      · have Hp := hide hp
        clear hp
        go_wp2_with fail
        go_ret
        exact ⟨ret_int (hw.hit Hx.out Hp.out).symm, hb2⟩
    · obtain rfl : k = n := by omega
      go_wp2_with fail
      go_ret
      exact ⟨ret_int (NoneTo.miss (by rw [← hn'.out]; exact hw)).symm, hb⟩
set_option maxHeartbeats 400000 in
theorem containsFuncDem_any (A : Option Addr) (l : List DemD) (n c : Nat) (fid : FuncId) (caps : Array Value) (p : DemD → Bool) (w : World) {B : Nat} (h : DemsAt w B A l) (hB : B ≤ w.heap.size) (hn : n = l.length) (hm : n ≤ 60000)
    (hc : ∀ args w, (callFunc fid args).run Tryz.prog w = .ok (.enter fid args) w)
    (hf : ∀ x A' c' (W : World), x ∈ l → Below w.heap.size w W → Calls Tryz.prog fid (#[dmV x A' x.steps.length c'] ++ caps) W fun e W' => e = .returned (.bool (p x)) ∧ Below W.heap.size W W') :
    Calls Tryz.prog 141 #[.slice A n c, .func (.func fid) #[] caps] w fun e w' => e = .returned (.bool (someOf p l)) ∧ Below w.heap.size w w' := by
  have Hf := hide hf
  have hn' := hide hn
  have Hc := hide hc
  clear hf hn hc
  go_enter Tryz.func141, Tryz.ntmps141
  go_wp2_with fail
  refine (indexFuncDem_any A l n c fid caps p w h hB hn'.out hm Hc.out Hf.out).mono ?_
  rintro e w1 ⟨rfl, hb⟩
  go_wp2_with fail
  go_ret
  exact ⟨ret_bool (by rw [idx_any]; rfl), hb⟩
set_option maxHeartbeats 1000000 in
theorem demand1_any (x : DemD) (A : Option Addr) (c : Nat) (m : ByteArray) (g : Nat) (w : World) (h0 : w.cell? ⟨g, 0, none⟩ = some (.string m)) :
    Calls Tryz.prog 142 #[dmV x A x.steps.length c, .pointer (some ⟨g, 0, none⟩)] w fun e w' => e = .returned (.bool (nameIs m x)) ∧ Below w.heap.size w w' := by
  have hg : g < w.heap.size := World.block_lt_of_cell? w _ h0
  have h1 := fun o => (World.cell?_alloc_lt w o ⟨g, 0, none⟩ hg).trans h0
  obtain ⟨name, ⟨⟨x, y, z⟩, ⟨x2, y2, z2⟩⟩, steps⟩ := x
  go_enter Tryz.func142, Tryz.ntmps142
  go_wp2_with fail
  go_ret
  exact ⟨ret_bool (by rfl), below_new _ _⟩
theorem demsFrom_at {l : List DemD} {k : Nat} {d : DemD} (h : l[k]? = some d) : demsFrom (l.take k) (l.drop k) = (demOk d && !someOf (nameIs d.name) (l.take k) && demsFrom (l.take (k + 1)) (l.drop (k + 1))) := by
  rw [drop_at' h, take_snoc' h]
  rfl
set_option maxHeartbeats 4000000 in
set_option maxRecDepth 100000 in
theorem demandValid_any (A : Option Addr) (l : List DemD) (n c : Nat) (w : World) {B : Nat} (h : DemsAt w B A l) (hB : B ≤ w.heap.size) (hn : n = l.length) (hm : (n : Int) ≤ 9223372036854775807) (hcap : n ≤ c) (ht : DemTame l) :
    Calls Tryz.prog 95 #[.slice A n c] w fun e w' => e = .returned (.bool (demsOk l)) ∧ Below w.heap.size w w' := by
  have hn' := hide hn
  have Hs := hide h
  have Ht := hide ht
  by_cases h20 : 20 < n
  · have hr := hide (show demsOk l = false by simp [demsOk]; omega)
    have d0 : decide (20 < (n : Int)) = true := by simp; omega
    clear hn h h20 ht
    go_enter Tryz.func95, Tryz.ntmps95
    go_wp2_with fail
    go_ret
    exact ⟨ret_bool hr.out.symm, Below.refl _ _⟩
  have hr := hide (show demsOk l = demsFrom (l.take 0) (l.drop 0) by simp [demsOk]; omega)
  have d0 : decide (20 < (n : Int)) = false := by simp; omega
  have hn2 : n ≤ 20 := by omega
  clear hn h h20 ht hm
  go_enter Tryz.func95, Tryz.ntmps95
  go_wp2_with fail
  go_loopw [10] (fun i wr => ∃ k : Nat, k ≤ n ∧ i = .int .i64 k ∧ Hid (demsOk l = demsFrom (l.take k) (l.drop k)) ∧ Below w.heap.size w wr) (fun i _ => n - (intOf i).toNat)
  case atStart => exact ⟨0, Nat.zero_le _, rfl, hr, Below.refl _ _⟩
  case round =>
    obtain ⟨k, hk, rfl, hq, hbr⟩ := hrel
    by_cases hlt : k < n
    · have HR := hide (Hs.out.carry demR_carried (hbr.mono hB) (Nat.le_refl B))
      have hBr := Nat.le_trans hB hbr.size
      obtain ⟨b, off, x, A', c', hA, hbl, hx, hi, hcells⟩ := DemsAt.get (k := k) HR.out (by rw [← hn'.out]; exact hlt)
      have h0 := hcells 0 _ rfl
      have h1 := hcells 1 _ rfl
      have h2 := hcells 2 _ rfl
      have h3 := hcells 3 _ rfl
      have h4 := hcells 4 _ rfl
      have h5 := hcells 5 _ rfl
      have h6 := hcells 6 _ rfl
      have h7 := hcells 7 _ rfl
      rw [Nat.add_zero] at h0
      have hs1 := hide (hq.out.trans (demsFrom_at hx))
      have hxt := Ht.out x (mem_of_get hx)
      have hlk : (l.take k).length = k := by rw [List.length_take, ← hn'.out]; omega
      have HRt := hide (fun (W : World) (hW : Below wr.heap.size wr W) => demandRight_any x A' c' W (hi.carry (Flat.carried _) (hW.mono hBr) (Nat.le_refl B)) (Nat.le_trans hBr hW.size) hxt.1 hxt.2)
      have HC := hide (fun (W : World) (hW : Below wr.heap.size wr W) (caps : Array Value) (hf : ∀ y A2 c2 (W2 : World), y ∈ l.take k → Below W.heap.size W W2 → Calls Tryz.prog 142 (#[dmV y A2 y.steps.length c2] ++ caps) W2 fun e W' => e = .returned (.bool (nameIs x.name y)) ∧ Below W2.heap.size W2 W') (c3 : Nat) =>
        containsFuncDem_any A (l.take k) k c3 142 caps (nameIs x.name) W (SlOf.take (HR.out.carry demR_carried (hW.mono hBr) (Nat.le_refl B)) k) (Nat.le_trans hBr hW.size) hlk.symm (by omega) Tryz.call142 hf)
      obtain ⟨tr, htr⟩ : ∃ t, t = demOk x := ⟨_, rfl⟩
      obtain ⟨ts, hts⟩ : ∃ t, t = someOf (nameIs x.name) (l.take k) := ⟨_, rfl⟩
      rw [← htr, ← hts] at hs1
      rw [← htr] at HRt
      rw [← hts] at HC
      have Hb := hide (Blk.new wr 146 (dmC x A' x.steps.length c'))
      have Hw := hide (below_new wr (.cells (dmC x A' x.steps.length c') 146))
      subst hA
      clear hx hi hcells hbl htr hts hq hlk hxt
      obtain ⟨name, ⟨⟨x, y, z⟩, ⟨x2, y2, z2⟩⟩, steps⟩ := x
      simp only [dmC] at h0 h1 h2 h3 h4 h5 h6 h7 HRt HC Hb Hw
      cases tr
      · have hres := hide (show false = demsOk l by rw [hs1.out]; rfl)
        go_wp2_with (go_at_call 140; refine (HRt.out _ Hw.out).mono ?_; rintro e w2 ⟨rfl, hb2⟩)
        go_ret
        exact ⟨ret_bool hres.out, hbr.trans ((below_step Hw.out hb2 (Nat.le_refl _)).mono hbr.size)⟩
      · go_wp2_with fail
        refine (HRt.out _ Hw.out).mono ?_
        rintro e w2 ⟨rfl, hb2⟩
        have Hb2 := hide (Hb.out.keep hb2)
        have Hw2 := hide (below_step Hw.out hb2 (Nat.le_refl _))
        have c0 := Hb2.out.cell 0
        simp at c0
        clear hb2
        go_wp2_with fail
        refine (HC.out _ Hw2.out #[.pointer (some ⟨wr.heap.size, 0, none⟩)] (fun y A2 c2 W2 _ hW => demand1_any y A2 c2 name wr.heap.size W2 (by have h9 := (Hb2.out.keep hW).cell 0; simpa using h9)) _).mono ?_
        rintro e w3 ⟨rfl, hb3⟩
        have Hw3 := hide (hbr.trans ((below_step Hw2.out hb3 (Nat.le_refl _)).mono hbr.size))
        clear hb3
        cases ts
        · have hnext := hide (show demsOk l = demsFrom (l.take (k + 1)) (l.drop (k + 1)) by rw [hs1.out]; rfl)
          go_wp2_with fail
          go_roundw
          case rel => exact ⟨k + 1, by omega, by go_num, hnext, Hw3.out⟩
          case measure => simp [intOf]; omega
        · have hres := hide (show false = demsOk l by rw [hs1.out]; rfl)
          go_wp2_with fail
          go_ret
          exact ⟨ret_bool hres.out, Hw3.out⟩
    · obtain rfl : k = n := by omega
      have hfull := hide (show demsOk l = true by rw [hq.out, hn'.out, List.drop_length]; rfl)
      go_wp2_with fail
      go_ret
      exact ⟨ret_bool hfull.out.symm, hbr⟩
end Go.Proofs.YtpmipoljnchheaaGreat
namespace Go.Proofs.YtpmipoljnchheaaGreat
open Go.RowKit

set_option maxHeartbeats 1000000 in
theorem indexFuncInt_any (A : Option Addr) (l : List Int) (n c : Nat) (fid : FuncId) (p : Int → Bool) (w : World) {B : Nat} (h : Ints w B A l) (hB : B ≤ w.heap.size) (hn : n = l.length) (hm : n ≤ 300000)
    (hc : ∀ args w, (callFunc fid args).run Tryz.prog w = .ok (.enter fid args) w)
    (hf : ∀ x (W : World), x ∈ l → Calls Tryz.prog fid #[.int .i64 x] W fun e W' => e = .returned (.bool (p x)) ∧ W = W') :
    Calls Tryz.prog 190 #[.slice A n c, .func (.func fid) #[] #[]] w fun e w' => e = .returned (.int .i64 (idx p l)) ∧ w = w' := by
  have Hf := hide hf
  have hn' := hide hn
  have Hs := hide h
  clear hf hn h
  go_enter Tryz.func190, Tryz.ntmps190
  go_wp2_with fail
  go_loop [8] (fun i => ∃ k : Nat, k ≤ n ∧ i = .int .i64 k ∧ NoneTo p l k) (fun i => n - (intOf i).toNat)
  case atStart => exact ⟨0, Nat.zero_le _, rfl, NoneTo.zero _ _⟩
  case round =>
    obtain ⟨k, hk, rfl, hw⟩ := hrel
    by_cases hlt : k < n
    · obtain ⟨b, off, x, rfl, hbl, hx, h0⟩ := Ints.get (k := k) Hs.out (by rw [← hn'.out]; exact hlt)
      have Hx := hide hx
      clear hx hbl
      go_wp2_with fail
      refine (Hf.out x _ (mem_of_get Hx.out)).mono ?_
      rintro e w1 ⟨rfl, rfl⟩
      cases hp : p x
      · have Hp := hide hp
        clear hp
        go_wp2_with fail
        go_round
        case rel => exact ⟨k + 1, by omega, by go_num, hw.succ Hx.out Hp.out⟩
        case measure => simp [intOf]; omega
      · have Hp := hide hp
        clear hp
        go_wp2_with fail
        go_ret
        exact ⟨ret_int (hw.hit Hx.out Hp.out).symm, rfl⟩
    · obtain rfl : k = n := by omega
      go_wp2_with fail
      go_ret
      exact ⟨ret_int (NoneTo.miss (by rw [← hn'.out]; exact hw)).symm, rfl⟩
def badRat (n : Int) : Bool := !ratOk n
set_option maxHeartbeats 400000 in
theorem badRat_any (n : Int) (w : World) : Calls Tryz.prog 175 #[.int .i64 n] w fun e w' => e = .returned (.bool (badRat n)) ∧ w = w' := by
  go_enter Tryz.func175, Tryz.ntmps175
  go_wp2
  all_goals
    go_ret
    exact ⟨ret_bool (by rw [Bool.eq_iff_iff]; simp [badRat, ratOk, within]; try omega), rfl⟩
set_option maxHeartbeats 1000000 in
theorem anchorWithin_any (A : Option Addr) (l : List Int) (n c : Nat) (w : World) {B : Nat} (h : Ints w B A l) (hB : B ≤ w.heap.size) (hn : n = l.length) (hm : n ≤ 300000) :
    Calls Tryz.prog 143 #[.slice A n c] w fun e w' => e = .returned (.bool (l.all ratOk)) ∧ w = w' := by
  have HF := hide (indexFuncInt_any A l n c 175 badRat w h hB hn hm Tryz.call175 (fun x W _ => badRat_any x W))
  have Hr := hide (show l.all ratOk = !decide (0 ≤ idx badRat l) by rw [all_some, idx_any]; rfl)
  clear h hn
  go_enter Tryz.func143, Tryz.ntmps143
  go_wp2_with fail
  have key : Calls Tryz.prog 174 #[.slice A n c, .func (.func 175) #[] #[]] w fun e w' => e = .returned (.bool (decide (0 ≤ idx badRat l))) ∧ w = w' := by
    go_enter Tryz.func174, Tryz.ntmps174
    go_wp2_with fail
    refine HF.out.mono ?_
    rintro e w1 ⟨rfl, rfl⟩
    go_wp2_with fail
    go_ret
    exact ⟨rfl, rfl⟩
  have Key := hide key
  clear key
  refine Key.out.mono ?_
  rintro e w2 ⟨rfl, rfl⟩
  go_wp2_with fail
  go_ret
  exact ⟨ret_bool Hr.out.symm, rfl⟩
abbrev rlV (r : RuleD) : Value := .agg #[.int .i64 r.num, .int .i64 r.den, .int .i64 r.poorNum, .int .i64 r.poorDen, .int .i64 r.bendNum, .int .i64 r.bendDen, .int .i64 r.lapNum, .int .i64 r.lapDen, .int .i64 r.least]
set_option maxHeartbeats 4000000 in
theorem anchorValid_any (r : RuleD) (w : World) :
    Calls Tryz.prog 96 #[rlV r] w fun e w' => e = .returned (.bool (ruleOk r)) ∧ Below w.heap.size w w' := by
  obtain ⟨a, b, c, d, e, f, g, h, i⟩ := r
  simp only [rlV]
  obtain ⟨ta, hta⟩ : ∃ t, t = [a, b, c, d, e, f, g, h].all ratOk := ⟨_, rfl⟩
  have Hr := hide (show ruleOk ⟨a, b, c, d, e, f, g, h, i⟩ = (ta && decide (d ≤ c) && decide (h ≤ g) && decide (e ≤ f) && (decide (0 ≤ i) && decide (i ≤ 1000))) by rw [hta]; rfl)
  have HA := hide (fun (W : World) (B : Nat) (A : Option Addr) (hA : Ints W B A [a, b, c, d, e, f, g, h]) (hB : B ≤ W.heap.size) => anchorWithin_any A [a, b, c, d, e, f, g, h] 8 8 W hA hB rfl (by omega))
  rw [← hta] at HA
  clear hta
  have hways : (ta = false ∧ Hid (false = ruleOk ⟨a, b, c, d, e, f, g, h, i⟩)) ∨ (ta = true ∧ decide (d ≤ c) = false ∧ Hid (false = ruleOk ⟨a, b, c, d, e, f, g, h, i⟩)) ∨ (ta = true ∧ decide (d ≤ c) = true ∧ decide (h ≤ g) = false ∧ Hid (false = ruleOk ⟨a, b, c, d, e, f, g, h, i⟩)) ∨
      (ta = true ∧ decide (d ≤ c) = true ∧ decide (h ≤ g) = true ∧ decide (e ≤ f) = false ∧ Hid (false = ruleOk ⟨a, b, c, d, e, f, g, h, i⟩)) ∨ (ta = true ∧ decide (d ≤ c) = true ∧ decide (h ≤ g) = true ∧ decide (e ≤ f) = true ∧ decide (0 ≤ i) = false ∧ Hid (false = ruleOk ⟨a, b, c, d, e, f, g, h, i⟩)) ∨
      (ta = true ∧ decide (d ≤ c) = true ∧ decide (h ≤ g) = true ∧ decide (e ≤ f) = true ∧ decide (0 ≤ i) = true ∧ decide (i ≤ 1000) = false ∧ Hid (false = ruleOk ⟨a, b, c, d, e, f, g, h, i⟩)) ∨
      (ta = true ∧ decide (d ≤ c) = true ∧ decide (h ≤ g) = true ∧ decide (e ≤ f) = true ∧ decide (0 ≤ i) = true ∧ decide (i ≤ 1000) = true ∧ Hid (true = ruleOk ⟨a, b, c, d, e, f, g, h, i⟩)) := by
    have key : ∀ r, (ta && decide (d ≤ c) && decide (h ≤ g) && decide (e ≤ f) && (decide (0 ≤ i) && decide (i ≤ 1000))) = r → Hid (r = ruleOk ⟨a, b, c, d, e, f, g, h, i⟩) := fun r hr => hide (by rw [Hr.out, hr])
    revert key
    generalize ruleOk ⟨a, b, c, d, e, f, g, h, i⟩ = R
    cases ta <;> cases decide (d ≤ c) <;> cases decide (h ≤ g) <;> cases decide (e ≤ f) <;> cases decide (0 ≤ i) <;> cases decide (i ≤ 1000) <;> intro key <;> simp <;> first | exact hide (key false rfl).out.symm | exact hide (key true rfl).out.symm
  clear Hr
  rcases hways with ⟨rfl, hres⟩ | ⟨rfl, q1, hres⟩ | ⟨rfl, q1, q2, hres⟩ | ⟨rfl, q1, q2, q3, hres⟩ | ⟨rfl, q1, q2, q3, q4, hres⟩ | ⟨rfl, q1, q2, q3, q4, q5, hres⟩ | ⟨rfl, q1, q2, q3, q4, q5, hres⟩
  all_goals
    go_enter Tryz.func96, Tryz.ntmps96
    go_wp2_with (go_at_call 143; refine (HA.out _ _ _ (Ints.of_blk (l := [a, b, c, d, e, f, g, h]) (Blk.new1 w _ 3 _) (B := w.heap.size + 2) (by omega)) (by simp)).mono ?_; rintro e w2 ⟨rfl, rfl⟩)
    go_ret
    exact ⟨ret_bool hres.out, below_new2 w _ _⟩
end Go.Proofs.YtpmipoljnchheaaGreat
namespace Go.Proofs.YtpmipoljnchheaaGreat
open Go.RowKit

/-- The hull of boxes, one given ahead. -/
def hullOn (a : BoxD) (l : List BoxD) : BoxD := l.foldl (fun a b => ⟨minP a.lo b.lo, maxP a.hi b.hi⟩) a
theorem hullOn_snoc (a : BoxD) (l : List BoxD) (b : BoxD) : hullOn a (l ++ [b]) = ⟨minP (hullOn a l).lo b.lo, maxP (hullOn a l).hi b.hi⟩ := by simp [hullOn, List.foldl_append]
def hullOf (l : List BoxD) : BoxD := match l with
  | [] => ⟨(0, 0, 0), (0, 0, 0)⟩
  | b :: _ => hullOn b l
set_option maxHeartbeats 400000 in
theorem boxAll_any (A : Option Addr) (l : List BoxD) (n c : Nat) (w : World) {B : Nat} (h : BoxesAt w B A l) (hB : B ≤ w.heap.size) (hn : n = l.length) (hm : n ≤ 300000) :
    Calls Tryz.prog 86 #[.slice A n c] w fun e w' => e = .returned (.bool (l.all boxOk)) ∧ Below w.heap.size w w' := by
  have HF := hide (containsFuncBox_any A l n c 118 badBox w h hB hn hm Tryz.call118 (fun x W _ => badBox_any x W))
  have Hr := hide (show l.all boxOk = !someOf badBox l by rw [all_some]; rfl)
  clear h hn
  go_enter Tryz.func86, Tryz.ntmps86
  go_wp2_with fail
  refine HF.out.mono ?_
  rintro e w2 ⟨rfl, hb2⟩
  go_wp2_with fail
  go_ret
  exact ⟨ret_bool Hr.out.symm, hb2⟩
set_option maxHeartbeats 4000000 in
set_option maxRecDepth 100000 in
theorem boxHull_ok (A : Option Addr) (l : List BoxD) (n c : Nat) (w : World) {B : Nat} (h : BoxesAt w B A l) (hB : B ≤ w.heap.size) (hn : n = l.length) (hm : n ≤ 300000) (hne : 1 ≤ n) (hok : l.all boxOk = true) :
    Calls Tryz.prog 53 #[.slice A n c] w fun e w' => e = .returned (.tuple #[bx (hullOf l), .int .i64 0]) ∧ Below w.heap.size w w' := by
  have HA := hide (fun (wz : World) (hz : Below w.heap.size w wz) => boxAll_any A l n c wz (h.carry (Flat.carried _) (hz.mono hB) (Nat.le_refl B)) (Nat.le_trans hB hz.size) hn hm)
  rw [hok] at HA
  have Hs := hide h
  have hn' := hide hn
  clear hok h hn
  obtain ⟨b0, h0⟩ : ∃ b, l[0]? = some b := ⟨_, List.getElem?_eq_getElem (by rw [← hn'.out]; omega)⟩
  have Hh := hide (show hullOf l = hullOn b0 l by
    cases l with
    | nil => simp at h0
    | cons b r => simp at h0; subst h0; rfl)
  have H0 := hide h0
  clear h0
  go_enter Tryz.func53, Tryz.ntmps53
  go_wp2_with fail
  have Hw := hide (below_new w (.cells #[.int .i64 0, .int .i64 0, .int .i64 0, .int .i64 0, .int .i64 0, .int .i64 0] 73))
  have Hb := hide (Blk.new w 73 #[.int .i64 0, .int .i64 0, .int .i64 0, .int .i64 0, .int .i64 0, .int .i64 0])
  refine (HA.out _ Hw.out).mono ?_
  rintro e w2 ⟨rfl, hb2⟩
  have Hw2 := hide (below_step Hw.out hb2 (Nat.le_refl _))
  have Hb2 := hide (Hb.out.keep hb2)
  have q0 : ((n : Int) == 0) = false := by simp; omega
  obtain ⟨b, off, x, hA, hbl, hx, k0, k1, k2, k3, k4, k5⟩ := BoxesAt.get (k := 0) (Hs.out.carry (Flat.carried _) (Hw2.out.mono hB) (Nat.le_refl B)) (by rw [← hn'.out]; omega)
  rw [H0.out] at hx
  injection hx with hx
  subst hx
  subst hA
  simp only [Nat.zero_mul, Nat.add_zero] at k0 k1 k2 k3 k4 k5
  have hpos : 0 < n := by omega
  clear hb2 hbl
  go_wp2_with fail
  obtain ⟨w3, hw3⟩ : ∃ w3, w3 = w2.alloc (.cells #[.int .i64 b0.lo.1, .int .i64 b0.lo.2.1, .int .i64 b0.lo.2.2, .int .i64 b0.hi.1, .int .i64 b0.hi.2.1, .int .i64 b0.hi.2.2] 73) := ⟨_, rfl⟩
  have Ho := hide (Blk.new w2 73 #[.int .i64 b0.lo.1, .int .i64 b0.lo.2.1, .int .i64 b0.lo.2.2, .int .i64 b0.hi.1, .int .i64 b0.hi.2.1, .int .i64 b0.hi.2.2])
  have Hw3 := hide (below_new w2 (.cells #[.int .i64 b0.lo.1, .int .i64 b0.lo.2.1, .int .i64 b0.lo.2.2, .int .i64 b0.hi.1, .int .i64 b0.hi.2.1, .int .i64 b0.hi.2.2] 73))
  have Hsz := hide (show w3.heap.size = w2.heap.size + 1 by rw [hw3]; simp)
  rw [← hw3] at Ho Hw3 ⊢
  clear hw3
  go_loopw [22] (fun i wr => ∃ k : Nat, k ≤ n ∧ i = .int .i64 k ∧ (∃ a1 a2 a3 b1 b2 b3 : Int, Blk wr w2.heap.size 73 #[.int .i64 a1, .int .i64 a2, .int .i64 a3, .int .i64 b1, .int .i64 b2, .int .i64 b3] ∧ Hid (hullOn b0 (l.take k) = ⟨(a1, a2, a3), (b1, b2, b3)⟩)) ∧ Below w2.heap.size w2 wr) (fun i _ => n - (intOf i).toNat)
  case atStart => exact ⟨0, Nat.zero_le _, rfl, ⟨_, _, _, _, _, _, Ho.out, hide rfl⟩, Hw3.out⟩
  case round =>
    obtain ⟨k, hk, rfl, ⟨a1, a2, a3, b1, b2, b3, hbo, hho⟩, hbr⟩ := hrel
    have Hbo := hide hbo
    clear hbo
    by_cases hlt : k < n
    · obtain ⟨b', off', y, hA, hbl, hy, e0, e1, e2, e3, e4, e5⟩ := BoxesAt.get (k := k) (Hs.out.carry (Flat.carried _) ((Hw2.out.trans (hbr.mono Hw2.out.size)).mono hB) (Nat.le_refl B)) (by rw [← hn'.out]; exact hlt)
      injection hA with hA
      injection hA with hA1 hA2
      subst hA1
      subst hA2
      obtain ⟨⟨y1, y2, y3⟩, ⟨z1, z2, z3⟩⟩ := y
      simp only at e0 e1 e2 e3 e4 e5
      have Hn := hide (show hullOn b0 (l.take (k + 1)) = ⟨(min a1 y1, min a2 y2, min a3 y3), (max b1 z1, max b2 z2, max b3 z3)⟩ by rw [take_snoc' hy, hullOn_snoc, hho.out]; rfl)
      have hbl2 : b < wr.heap.size := by have := (Hw2.out.trans (hbr.mono Hw2.out.size)).size; omega
      have g0 := Hbo.out.cell 0
      have g1 := Hbo.out.cell 1
      have g2 := Hbo.out.cell 2
      have g3 := Hbo.out.cell 3
      have g4 := Hbo.out.cell 4
      have g5 := Hbo.out.cell 5
      simp at g0 g1 g2 g3 g4 g5
      have f0 := Hbo.out.frozen 0
      have f1 := Hbo.out.frozen 1
      have f2 := Hbo.out.frozen 2
      have f3 := Hbo.out.frozen 3
      have f4 := Hbo.out.frozen 4
      have f5 := Hbo.out.frozen 5
      have hgl := Hbo.out.lt
      clear hy hho hbl
      go_wp2_with fail
      go_roundw
      case rel =>
        refine ⟨k + 1, by omega, by go_num, ⟨_, _, _, _, _, _, ((((((Hbo.out.set_ 0 _).set_ 1 _).set_ 2 _).set_ 3 _).set_ 4 _).set_ 5 _).alloc _, hide ?_⟩, ?_⟩
        · rw [Hn.out]
          simp only [if_min, if_max]
        · exact ((((((hbr.setCell (Nat.le_refl _) _).setCell (Nat.le_refl _) _).setCell (Nat.le_refl _) _).setCell (Nat.le_refl _) _).setCell (Nat.le_refl _) _).setCell (Nat.le_refl _) _).alloc (by simpa [World.setCell] using hbr.size) _
      case measure => simp [intOf]; omega
    · obtain rfl : k = n := by omega
      have hfull : hullOf l = ⟨(a1, a2, a3), (b1, b2, b3)⟩ := by rw [Hh.out, ← hho.out, hn'.out, List.take_length]
      have Hfull := hide hfull
      have Hr := hide (Hb2.out.below hbr (by have := Hb2.out.lt; omega))
      have g0 := Hbo.out.cell 0
      have g1 := Hbo.out.cell 1
      have g2 := Hbo.out.cell 2
      have g3 := Hbo.out.cell 3
      have g4 := Hbo.out.cell 4
      have g5 := Hbo.out.cell 5
      simp at g0 g1 g2 g3 g4 g5
      have m0 := Hr.out.cell 0
      have m1 := Hr.out.cell 1
      have m2 := Hr.out.cell 2
      have m3 := Hr.out.cell 3
      have m4 := Hr.out.cell 4
      have m5 := Hr.out.cell 5
      simp at m0 m1 m2 m3 m4 m5
      have f0 := Hr.out.frozen 0
      have f1 := Hr.out.frozen 1
      have f2 := Hr.out.frozen 2
      have f3 := Hr.out.frozen 3
      have f4 := Hr.out.frozen 4
      have f5 := Hr.out.frozen 5
      have hgl := Hr.out.lt
      have Hw9 := hide (Hw2.out.trans (hbr.mono Hw2.out.size))
      clear hho hfull
      go_wp2_with fail
      refine bodyPost_ret (results_ct rfl rfl ((((((Hr.out.set_ 0 _).set_ 1 _).set_ 2 _).set_ 3 _).set_ 4 _).set_ 5 _) Tryz.underlying73 rfl (by kernel_rfl)) rfl ?_
      refine ⟨by rw [Hfull.out]; rfl, ?_⟩
      exact (((((Hw9.out.setCell (Nat.le_refl _) _).setCell (Nat.le_refl _) _).setCell (Nat.le_refl _) _).setCell (Nat.le_refl _) _).setCell (Nat.le_refl _) _).setCell (Nat.le_refl _) _
end Go.Proofs.YtpmipoljnchheaaGreat
