/- Points that are near. -/
import Derived.Test.YtpaanfjjnjjoeaaGreatRQak
import Derived.Test.YtpaanfjjnjjoeaaGreatRQae
import Derived.Test.YtpaanfjjnjjoeaaGreatRQag
namespace Go.Proofs.YtpaanfjjnjjoeaaGreat
open Go.RowKit
def inR (v : Int) : Bool := within v (-1048576) 1048576
theorem inR_no {v : Int} (h : inR v = false) : decide (v < -1048576) = true ∨ (decide (v < -1048576) = false ∧ decide (1048576 < v) = true) := by
 simp only [inR, within, Bool.and_eq_false_iff, zzI] at h
 simp only [zzJ, zzI]
 omega
theorem inR_yes {v : Int} (h : inR v = true) : decide (v < -1048576) = false ∧ decide (1048576 < v) = false := by
 simp only [inR, within, Bool.and_eq_true, zzJ] at h
 simp only [zzI]
 omega
theorem near_list (x y z : Int) : nearBy 1048576 (x, y, z) = [x, y, z].all inR := by
 simp [nearBy, inR, Bool.and_assoc]
set_option maxHeartbeats 1000000 in
theorem near_any (A : Option Addr) (l : List Pt) (n c : Nat) (w : World) {B : Nat} (h : PtsAt w B A l) (hB : B ≤ w.heap.size) (hn : n = l.length) (hm : n ≤ 300000) :
  Calls Tryz.prog 245 #[.slice A n c] w fun e w' => e = .returned (.bool (l.all (nearBy 1048576))) ∧ Below w.heap.size w w' := by
 have Hs := hide h
 have hn' := hide hn
 have Hok := hide (show l.all (nearBy 1048576) = (l.drop 0).all (nearBy 1048576) from rfl)
 obtain ⟨rb, hrb⟩ : ∃ rb, rb = l.all (nearBy 1048576) := ⟨_, rfl⟩
 rw [← hrb] at Hok ⊢
 clear h hn hrb
 go_enter Tryz.func245, Tryz.ntmps245
 go_wp2_with fail
 go_loopw [9] (fun i wr => ∃ k : Nat, k ≤ n ∧ i = .int .i64 k ∧ Hid (rb = (l.drop k).all (nearBy 1048576)) ∧ Below w.heap.size w wr) (fun i _ => n - (intOf i).toNat)
 case atStart => exact ⟨0, Nat.zero_le _, rfl, Hok, Below.refl _ _⟩
 case round =>
  obtain ⟨k, hk, rfl, hq, hbr⟩ := hrel
  by_cases hlt : k < n
  ·obtain ⟨b, off, x, hA, hbl, hx, k0, k1, k2⟩ := PtsAt.get (k := k) (Hs.out.carry (Flat.carried _) (hbr.mono hB) (Nat.le_refl B)) (by rw [← hn'.out]; exact hlt)
   obtain ⟨x1, x2, x3⟩ := x
   have Hq := hide (hq.out.trans (by rw [drop_at' hx, List.all_cons, near_list]))
   obtain ⟨rest, hrest⟩ : ∃ r, r = (l.drop (k + 1)).all (nearBy 1048576) := ⟨_, rfl⟩
   rw [← hrest] at Hq
   have Hrest := hide hrest
   clear hrest
   simp only at k0 k1 k2
   subst hA
   clear hx hq hbl
   have i0 := at3_0
   have i1 := at3_1
   have i2 := at3_2
   go_wp2_with fail
   go_loopw [20] (fun i wr' => ∃ j : Nat, j ≤ 3 ∧ i = .int .i64 j ∧ Hid (rb = ((([x1, x2, x3] : List Int).drop j).all inR && rest)) ∧ Below w.heap.size w wr') (fun i _ => 3 - (intOf i).toNat)
   case atStart => exact ⟨0, Nat.zero_le _, rfl, Hq, hbr.alloc hbr.size _⟩
   case round =>
    obtain ⟨j, hj, rfl, hjq, hbj⟩ := hrel
    rcases j with _ | _ | _ | _ | j
    ·cases hv : inR x1
     ·have hres := hide (show rb = false by rw [hjq.out]; simp [List.all_cons, hv])
      have hcase := inR_no hv
      clear hv hjq
      rcases hcase with q0 | ⟨q0, q1⟩
      all_goals
       go_wp2_with fail
       go_ret
       exact ⟨ret_bool hres.out.symm, hbj⟩
     ·have hn2 := hide (show rb = ((([x1, x2, x3] : List Int).drop 1).all inR && rest) by rw [hjq.out]; simp [List.all_cons, hv])
      obtain ⟨q0, q1⟩ := inR_yes hv
      clear hv hjq
      go_wp2_with fail
      go_roundw
      case rel => exact ⟨1, by omega, by go_num, hn2, hbj⟩
      case measure => simp [intOf]
    ·cases hv : inR x2
     ·have hres := hide (show rb = false by rw [hjq.out]; simp [List.all_cons, hv])
      have hcase := inR_no hv
      clear hv hjq
      rcases hcase with q0 | ⟨q0, q1⟩
      all_goals
       go_wp2_with fail
       go_ret
       exact ⟨ret_bool hres.out.symm, hbj⟩
     ·have hn2 := hide (show rb = ((([x1, x2, x3] : List Int).drop 2).all inR && rest) by rw [hjq.out]; simp [List.all_cons, hv])
      obtain ⟨q0, q1⟩ := inR_yes hv
      clear hv hjq
      go_wp2_with fail
      go_roundw
      case rel => exact ⟨2, by omega, by go_num, hn2, hbj⟩
      case measure => simp [intOf]
    ·cases hv : inR x3
     ·have hres := hide (show rb = false by rw [hjq.out]; simp [List.all_cons, hv])
      have hcase := inR_no hv
      clear hv hjq
      rcases hcase with q0 | ⟨q0, q1⟩
      all_goals
       go_wp2_with fail
       go_ret
       exact ⟨ret_bool hres.out.symm, hbj⟩
     ·have hn2 := hide (show rb = ((([x1, x2, x3] : List Int).drop 3).all inR && rest) by rw [hjq.out]; simp [List.all_cons, hv])
      obtain ⟨q0, q1⟩ := inR_yes hv
      clear hv hjq
      go_wp2_with fail
      go_roundw
      case rel => exact ⟨3, by omega, by go_num, hn2, hbj⟩
      case measure => simp [intOf]
    ·have hend := hide (show rb = rest by rw [hjq.out]; rfl)
     go_wp2_with fail
     go_roundw
     case rel => exact ⟨k + 1, by omega, by go_num, hide (hend.out.trans Hrest.out), hbj⟩
     case measure => simp [intOf]; omega
    ·omega
  ·obtain rfl : k = n := by omega
   have hfull := hide (show rb = true by rw [hq.out, hn'.out, List.drop_length]; rfl)
   go_wp2_with fail
   go_ret
   exact ⟨ret_bool hfull.out.symm, hbr⟩
abbrev dmV (d : DemD) (A : Option Addr) (n c : Nat) : Value := .agg #[.string d.name, .int .i64 d.zone.lo.1, .int .i64 d.zone.lo.2.1, .int .i64 d.zone.lo.2.2, .int .i64 d.zone.hi.1, .int .i64 d.zone.hi.2.1, .int .i64 d.zone.hi.2.2, .slice A n c]
abbrev dmC (d : DemD) (A : Option Addr) (n c : Nat) : Array Value := #[.string d.name, .int .i64 d.zone.lo.1, .int .i64 d.zone.lo.2.1, .int .i64 d.zone.lo.2.2, .int .i64 d.zone.hi.1, .int .i64 d.zone.hi.2.1, .int .i64 d.zone.hi.2.2, .slice A n c]
def DemTame (l : List DemD) : Prop := ∀ d ∈ l, d.name.size ≤ maxLen ∧ (d.steps.length : Int) ≤ 9223372036854775807
set_option maxHeartbeats 2000000 in
theorem demandRight_any (d : DemD) (A : Option Addr) (c : Nat) (w : World) {B : Nat} (h : StpsAt w B A d.steps) (hB : B ≤ w.heap.size) (hm : d.name.size ≤ maxLen) (hl : (d.steps.length : Int) ≤ 9223372036854775807) :
  Calls Tryz.prog 184 #[dmV d A d.steps.length c] w fun e w' => e = .returned (.bool (demOk d)) ∧ Below w.heap.size w w' := by
 have HN := hide (fun (wz : World) => isName_any d.name wz hm)
 have HX := hide (fun (wz : World) => boxValid_any d.zone wz)
 have HS := hide (fun (wz : World) (hz : Below w.heap.size w wz) => stepsValid_any A d.steps d.steps.length c wz (h.carry (Flat.carried _) (hz.mono hB) (Nat.le_refl B)) (Nat.le_trans hB hz.size) rfl hl)
 obtain ⟨tn, htn⟩ : ∃ t, t = isName d.name := ⟨_, rfl⟩
 obtain ⟨tx, htx⟩ : ∃ t, t = boxOk d.zone := ⟨_, rfl⟩
 obtain ⟨ts, hts⟩ : ∃ t, t = stepsOk d.steps := ⟨_, rfl⟩
 have Hr := hide (show demOk d = (tn && tx && ts) by rw [demOk, htn, htx, hts])
 rw [← htn] at HN
 rw [← htx] at HX
 rw [← hts] at HS
 clear htn htx hts h
 have Hb := hide (Blk.new w 69 (dmC d A d.steps.length c))
 have Hw := hide (below_new w (.cells (dmC d A d.steps.length c) 69))
 obtain ⟨name, ⟨⟨x, y, z⟩, ⟨x2, y2, z2⟩⟩, steps⟩ := d
 simp only [dmC] at HN HX HS Hb Hw
 obtain ⟨n, hn⟩ : ∃ n, n = steps.length := ⟨_, rfl⟩
 simp only [dmV]
 rw [← hn] at HS Hb Hw ⊢
 clear hn
 cases tn
 ·go_enter Tryz.func184, Tryz.ntmps184
  go_wp2_with (go_at_call 167; refine (HN.out _).mono ?_; rintro e w2 ⟨rfl, rfl⟩)
  go_ret
  exact ⟨ret_bool Hr.out.symm, Hw.out⟩
 cases tx
 ·go_enter Tryz.func184, Tryz.ntmps184
  go_wp2_with (first
   | (go_at_call 167; refine (HN.out _).mono ?_; rintro e w2 ⟨rfl, rfl⟩)
   | (go_at_call 122; refine (HX.out _).mono ?_; rintro e w2 ⟨rfl, hb2⟩))
  go_ret
  exact ⟨ret_bool Hr.out.symm, below_step Hw.out hb2 (Nat.le_refl _)⟩
 ·go_enter Tryz.func184, Tryz.ntmps184
  go_wp2_with (first
   | (go_at_call 167; refine (HN.out _).mono ?_; rintro e w2 ⟨rfl, rfl⟩)
   | (go_at_call 122; refine (HX.out _).mono ?_; rintro e w2 ⟨rfl, hb2⟩; have c7 := (Hb.out.keep hb2).cell 7; simp at c7)
   | (go_at_call 241; refine (HS.out _ (below_step Hw.out hb2 (Nat.le_refl _))).mono ?_; rintro e w3 ⟨rfl, hb3⟩))
  go_ret
  exact ⟨ret_bool Hr.out.symm, below_step (below_step Hw.out hb2 (Nat.le_refl _)) hb3 (Nat.le_refl _)⟩
set_option maxHeartbeats 1000000 in
theorem indexFuncDem_any (A : Option Addr) (l : List DemD) (n c : Nat) (fid : FuncId) (caps : Array Value) (p : DemD → Bool) (w : World) {B : Nat} (h : DemsAt w B A l) (hB : B ≤ w.heap.size) (hn : n = l.length) (hm : n ≤ 60000)
  (hc : ∀ args w, (callFunc fid args).run Tryz.prog w = .ok (.enter fid args) w)
  (hf : ∀ x A' c' (W : World), x ∈ l → Below w.heap.size w W → Calls Tryz.prog fid (#[dmV x A' x.steps.length c'] ++ caps) W fun e W' => e = .returned (.bool (p x)) ∧ Below W.heap.size W W') :
  Calls Tryz.prog 242 #[.slice A n c, .func (.func fid) #[] caps] w fun e w' => e = .returned (.int .i64 (idx p l)) ∧ Below w.heap.size w w' := by
 have Hf := hide hf
 have hn' := hide hn
 have Hs := hide h
 clear hf hn h
 go_enter Tryz.func242, Tryz.ntmps242
 go_wp2_with fail
 go_loopw [8] (fun i wr => ∃ k : Nat, k ≤ n ∧ i = .int .i64 k ∧ NoneTo p l k ∧ Below w.heap.size w wr) (fun i _ => n - (intOf i).toNat)
 case atStart => exact ⟨0, Nat.zero_le _, rfl, NoneTo.zero _ _, Below.refl _ _⟩
 case round =>
  obtain ⟨k, hk, rfl, hw, hb⟩ := hrel
  by_cases hlt : k < n
  ·obtain ⟨b, off, x, A', c', rfl, hbl, hx, hi, hcells⟩ := DemsAt.get (k := k) (Hs.out.carry demR_carried (hb.mono hB) (Nat.le_refl _)) (by rw [← hn'.out]; exact hlt)
   have h0 := hcells 0 _ rfl
   have h1 := hcells 1 _ rfl
   have h2 := hcells 2 _ rfl
   have h3 := hcells 3 _ rfl
   have h4 := hcells 4 _ rfl
   have h5 := hcells 5 _ rfl
   have h6 := hcells 6 _ rfl
   have h7 := hcells 7 _ rfl
   rw [Nat.add_zero] at h0
   have Hx := hide hx
   have HF := hide (fun (W : World) (hW : Below w.heap.size w W) => Hf.out x A' c' W (mem_of_get hx) hW)
   clear hx hi hcells hbl
   go_wp2_with fail
   refine (HF.out _ hb).mono ?_
   rintro e w1 ⟨rfl, hb1⟩
   clear h0 h1 h2 h3 h4 h5 h6 h7
   have hb2 := below_step hb hb1 (Nat.le_refl _)
   cases hp : p x
   ·have Hp := hide hp
    clear hp
    go_wp2_with fail
    go_roundw
    case rel => exact ⟨k + 1, by omega, by go_num, hw.succ Hx.out Hp.out, hb2⟩
    case measure => simp [intOf]; omega
   ·have Hp := hide hp
    clear hp
    go_wp2_with fail
    go_ret
    exact ⟨ret_int (hw.hit Hx.out Hp.out).symm, hb2⟩
  ·obtain rfl : k = n := by omega
   go_wp2_with fail
   go_ret
   exact ⟨ret_int (NoneTo.miss (by rw [← hn'.out]; exact hw)).symm, hb⟩
set_option maxHeartbeats 400000 in
theorem containsFuncDem_any (A : Option Addr) (l : List DemD) (n c : Nat) (fid : FuncId) (caps : Array Value) (p : DemD → Bool) (w : World) {B : Nat} (h : DemsAt w B A l) (hB : B ≤ w.heap.size) (hn : n = l.length) (hm : n ≤ 60000)
  (hc : ∀ args w, (callFunc fid args).run Tryz.prog w = .ok (.enter fid args) w)
  (hf : ∀ x A' c' (W : World), x ∈ l → Below w.heap.size w W → Calls Tryz.prog fid (#[dmV x A' x.steps.length c'] ++ caps) W fun e W' => e = .returned (.bool (p x)) ∧ Below W.heap.size W W') :
  Calls Tryz.prog 185 #[.slice A n c, .func (.func fid) #[] caps] w fun e w' => e = .returned (.bool (someOf p l)) ∧ Below w.heap.size w w' := by
 have Hf := hide hf
 have hn' := hide hn
 have Hc := hide hc
 clear hf hn hc
 go_enter Tryz.func185, Tryz.ntmps185
 go_wp2_with fail
 refine (indexFuncDem_any A l n c fid caps p w h hB hn'.out hm Hc.out Hf.out).mono ?_
 rintro e w1 ⟨rfl, hb⟩
 go_wp2_with fail
 go_ret
 exact ⟨ret_bool (by rw [idx_any]; rfl), hb⟩
set_option maxHeartbeats 1000000 in
theorem demand1_any (x : DemD) (A : Option Addr) (c : Nat) (m : ByteArray) (g : Nat) (w : World) (h0 : w.cell? ⟨g, 0, none⟩ = some (.string m)) :
  Calls Tryz.prog 186 #[dmV x A x.steps.length c, .pointer (some ⟨g, 0, none⟩)] w fun e w' => e = .returned (.bool (nameIs m x)) ∧ Below w.heap.size w w' := by
 have hg : g < w.heap.size := World.block_lt_of_cell? w _ h0
 have h1 := fun o => (World.cell?_alloc_lt w o ⟨g, 0, none⟩ hg).trans h0
 obtain ⟨name, ⟨⟨x, y, z⟩, ⟨x2, y2, z2⟩⟩, steps⟩ := x
 go_enter Tryz.func186, Tryz.ntmps186
 go_wp2_with fail
 go_ret
 exact ⟨ret_bool (by rfl), below_new _ _⟩
theorem demsFrom_at {l : List DemD} {k : Nat} {d : DemD} (h : l[k]? = some d) : demsFrom (l.take k) (l.drop k) = (demOk d && !someOf (nameIs d.name) (l.take k) && demsFrom (l.take (k + 1)) (l.drop (k + 1))) := by
 rw [drop_at' h, take_snoc' h]
 rfl
set_option maxHeartbeats 4000000 in
set_option maxRecDepth 100000 in
theorem demandValid_any (A : Option Addr) (l : List DemD) (n c : Nat) (w : World) {B : Nat} (h : DemsAt w B A l) (hB : B ≤ w.heap.size) (hn : n = l.length) (hm : (n : Int) ≤ 9223372036854775807) (hcap : n ≤ c) (ht : DemTame l) :
  Calls Tryz.prog 118 #[.slice A n c] w fun e w' => e = .returned (.bool (demsOk l)) ∧ Below w.heap.size w w' := by
 have hn' := hide hn
 have Hs := hide h
 have Ht := hide ht
 by_cases h20 : 20 < n
 ·have hr := hide (show demsOk l = false by simp [demsOk]; omega)
  have d0 : decide (20 < (n : Int)) = true := by simp; omega
  clear hn h h20 ht
  go_enter Tryz.func118, Tryz.ntmps118
  go_wp2_with fail
  go_ret
  exact ⟨ret_bool hr.out.symm, Below.refl _ _⟩
 have hr := hide (show demsOk l = demsFrom (l.take 0) (l.drop 0) by simp [demsOk]; omega)
 have d0 : decide (20 < (n : Int)) = false := by simp; omega
 have hn2 : n ≤ 20 := by omega
 clear hn h h20 ht hm
 go_enter Tryz.func118, Tryz.ntmps118
 go_wp2_with fail
 go_loopw [10] (fun i wr => ∃ k : Nat, k ≤ n ∧ i = .int .i64 k ∧ Hid (demsOk l = demsFrom (l.take k) (l.drop k)) ∧ Below w.heap.size w wr) (fun i _ => n - (intOf i).toNat)
 case atStart => exact ⟨0, Nat.zero_le _, rfl, hr, Below.refl _ _⟩
 case round =>
  obtain ⟨k, hk, rfl, hq, hbr⟩ := hrel
  by_cases hlt : k < n
  ·have HR := hide (Hs.out.carry demR_carried (hbr.mono hB) (Nat.le_refl B))
   have hBr := Nat.le_trans hB hbr.size
   obtain ⟨b, off, x, A', c', hA, hbl, hx, hi, hcells⟩ := DemsAt.get (k := k) HR.out (by rw [← hn'.out]; exact hlt)
   have h0 := hcells 0 _ rfl
   have h1 := hcells 1 _ rfl
   have h2 := hcells 2 _ rfl
   have h3 := hcells 3 _ rfl
   have h4 := hcells 4 _ rfl
   have h5 := hcells 5 _ rfl
   have h6 := hcells 6 _ rfl
   have h7 := hcells 7 _ rfl
   rw [Nat.add_zero] at h0
   have hs1 := hide (hq.out.trans (demsFrom_at hx))
   have hxt := Ht.out x (mem_of_get hx)
   have hlk : (l.take k).length = k := by rw [List.length_take, ← hn'.out]; omega
   have HRt := hide (fun (W : World) (hW : Below wr.heap.size wr W) => demandRight_any x A' c' W (hi.carry (Flat.carried _) (hW.mono hBr) (Nat.le_refl B)) (Nat.le_trans hBr hW.size) hxt.1 hxt.2)
   have HC := hide (fun (W : World) (hW : Below wr.heap.size wr W) (caps : Array Value) (hf : ∀ y A2 c2 (W2 : World), y ∈ l.take k → Below W.heap.size W W2 → Calls Tryz.prog 186 (#[dmV y A2 y.steps.length c2] ++ caps) W2 fun e W' => e = .returned (.bool (nameIs x.name y)) ∧ Below W2.heap.size W2 W') (c3 : Nat) =>
    containsFuncDem_any A (l.take k) k c3 186 caps (nameIs x.name) W (SlOf.take (HR.out.carry demR_carried (hW.mono hBr) (Nat.le_refl B)) k) (Nat.le_trans hBr hW.size) hlk.symm (by omega) Tryz.call186 hf)
   obtain ⟨tr, htr⟩ : ∃ t, t = demOk x := ⟨_, rfl⟩
   obtain ⟨ts, hts⟩ : ∃ t, t = someOf (nameIs x.name) (l.take k) := ⟨_, rfl⟩
   rw [← htr, ← hts] at hs1
   rw [← htr] at HRt
   rw [← hts] at HC
   have Hb := hide (Blk.new wr 69 (dmC x A' x.steps.length c'))
   have Hw := hide (below_new wr (.cells (dmC x A' x.steps.length c') 69))
   subst hA
   clear hx hi hcells hbl htr hts hq hlk hxt
   obtain ⟨name, ⟨⟨x, y, z⟩, ⟨x2, y2, z2⟩⟩, steps⟩ := x
   simp only [dmC] at h0 h1 h2 h3 h4 h5 h6 h7 HRt HC Hb Hw
   cases tr
   ·have hres := hide (show false = demsOk l by rw [hs1.out]; rfl)
    go_wp2_with (go_at_call 184; refine (HRt.out _ Hw.out).mono ?_; rintro e w2 ⟨rfl, hb2⟩)
    go_ret
    exact ⟨ret_bool hres.out, hbr.trans ((below_step Hw.out hb2 (Nat.le_refl _)).mono hbr.size)⟩
   ·go_wp2_with fail
    refine (HRt.out _ Hw.out).mono ?_
    rintro e w2 ⟨rfl, hb2⟩
    have Hb2 := hide (Hb.out.keep hb2)
    have Hw2 := hide (below_step Hw.out hb2 (Nat.le_refl _))
    have c0 := Hb2.out.cell 0
    simp at c0
    clear hb2
    go_wp2_with fail
    refine (HC.out _ Hw2.out #[.pointer (some ⟨wr.heap.size, 0, none⟩)] (fun y A2 c2 W2 _ hW => demand1_any y A2 c2 name wr.heap.size W2 (by have h9 := (Hb2.out.keep hW).cell 0; simpa using h9)) _).mono ?_
    rintro e w3 ⟨rfl, hb3⟩
    have Hw3 := hide (hbr.trans ((below_step Hw2.out hb3 (Nat.le_refl _)).mono hbr.size))
    clear hb3
    cases ts
    ·have hnext := hide (show demsOk l = demsFrom (l.take (k + 1)) (l.drop (k + 1)) by rw [hs1.out]; rfl)
     go_wp2_with fail
     go_roundw
     case rel => exact ⟨k + 1, by omega, by go_num, hnext, Hw3.out⟩
     case measure => simp [intOf]; omega
    ·have hres := hide (show false = demsOk l by rw [hs1.out]; rfl)
     go_wp2_with fail
     go_ret
     exact ⟨ret_bool hres.out, Hw3.out⟩
  ·obtain rfl : k = n := by omega
   have hfull := hide (show demsOk l = true by rw [hq.out, hn'.out, List.drop_length]; rfl)
   go_wp2_with fail
   go_ret
   exact ⟨ret_bool hfull.out.symm, hbr⟩
theorem thick_box {b : BoxD} (h : thickOk b = true) : boxOk b = true := by
 simp only [thickOk, Bool.and_eq_true] at h
 exact h.1.1.1
theorem solid_boxes {bs hs : List BoxD} (h : solidOk bs hs = true) : 1 ≤ bs.length ∧ bs.length ≤ 20 ∧ bs.all boxOk = true := by
 simp only [solidOk, Bool.and_eq_true, zzJ] at h
 exact ⟨h.1.1.1.1, h.1.1.1.2, List.all_eq_true.2 fun x hx => thick_box (List.all_eq_true.1 h.1.2 x hx)⟩
set_option maxHeartbeats 2000000 in
set_option maxRecDepth 100000 in
theorem solidHull_ok (bs hs : List BoxD) (A1 A2 : Option Addr) (n1 n2 c1 c2 : Nat) (w : World) {B : Nat} (h1 : BoxesAt w B A1 bs) (h2 : BoxesAt w B A2 hs) (hB : B ≤ w.heap.size) (hn1 : n1 = bs.length) (hn2 : n2 = hs.length) (hok : solidOk bs hs = true) :
  Calls Tryz.prog 192 #[sol A1 n1 c1 A2 n2 c2] w fun e w' => e = .returned (.tuple #[bx (hullOf bs), .int .i64 0]) ∧ Below w.heap.size w w' := by
 obtain ⟨b1, b2, b3⟩ := solid_boxes hok
 have HV := fun (W : World) (hz : Below w.heap.size w W) => solidValid_any bs hs A1 A2 n1 n2 c1 c2 W (h1.carry (Flat.carried _) (hz.mono hB) (Nat.le_refl _)) (h2.carry (Flat.carried _) (hz.mono hB) (Nat.le_refl _)) (Nat.le_trans hB hz.size) hn1 hn2
 rw [hok] at HV
 have HV := hide HV
 have HH := hide (fun (W : World) (hz : Below w.heap.size w W) => boxHull_ok A1 bs n1 c1 W (h1.carry (Flat.carried _) (hz.mono hB) (Nat.le_refl _)) (Nat.le_trans hB hz.size) hn1 (by omega) (by omega) b3)
 generalize hullOf bs = hb at *
 obtain ⟨⟨x1, x2, x3⟩, x4, x5, x6⟩ := hb
 have k0 := (Blk.new w 24 #[.slice A1 n1 c1, .slice A2 n2 c2]).alloc (.cells #[.int .i64 0, .int .i64 0, .int .i64 0, .int .i64 0, .int .i64 0, .int .i64 0] 62)
 have k1 := Blk.new1 w (.cells #[.slice A1 n1 c1, .slice A2 n2 c2] 24) 62 #[.int .i64 0, .int .i64 0, .int .i64 0, .int .i64 0, .int .i64 0, .int .i64 0]
 have K0 := hide k0
 have K1 := hide k1
 have HW := hide (below_new2 w (.cells #[.slice A1 n1 c1, .slice A2 n2 c2] 24) (.cells #[.int .i64 0, .int .i64 0, .int .i64 0, .int .i64 0, .int .i64 0, .int .i64 0] 62))
 clear h1 h2 hB hn1 hn2 hok b1 b2 b3 k0 k1
 go_enter Tryz.func192, Tryz.ntmps192
 go_wp2_with fail
 refine (HV.out _ HW.out).mono ?_
 rintro e w2 ⟨rfl, hb2⟩
 have k0 := K0.out.keep hb2
 have HW2 := hide (below_step HW.out hb2 (Nat.le_refl _))
 have K1 := hide (K1.out.keep hb2)
 have e0 := k0.cell 0
 simp at e0
 clear hb2 k0 K0 HV
 go_wp2_with fail
 refine (HH.out _ HW2.out).mono ?_
 rintro e w3 ⟨rfl, hb3⟩
 have k1 := K1.out.keep hb3
 have HW3 := hide (below_step HW2.out hb3 (Nat.le_refl _))
 have e0 := k1.cell 0
 have e1 := k1.cell 1
 have e2 := k1.cell 2
 have e3 := k1.cell 3
 have e4 := k1.cell 4
 have e5 := k1.cell 5
 have f0 := k1.frozen 0
 have f1 := k1.frozen 1
 have f2 := k1.frozen 2
 have f3 := k1.frozen 3
 have f4 := k1.frozen 4
 have f5 := k1.frozen 5
 simp at e0 e1 e2 e3 e4 e5
 have K1 := hide k1
 clear hb3 k1 HH
 go_wp2_with fail
 refine bodyPost_ret (results_ct rfl rfl ((((((K1.out.set_ 0 _).set_ 1 _).set_ 2 _).set_ 3 _).set_ 4 _).set_ 5 _) Tryz.underlying62 rfl (by kernel_rfl)) rfl ?_
 refine ⟨?_, (((((HW3.out.setCell (p := ⟨w.heap.size + 1, 0, none⟩) (Nat.le_succ _) _).setCell (p := ⟨w.heap.size + 1, 1, none⟩) (Nat.le_succ _) _).setCell (p := ⟨w.heap.size + 1, 2, none⟩) (Nat.le_succ _) _).setCell (p := ⟨w.heap.size + 1, 3, none⟩) (Nat.le_succ _) _).setCell (p := ⟨w.heap.size + 1, 4, none⟩) (Nat.le_succ _) _).setCell (p := ⟨w.heap.size + 1, 5, none⟩) (Nat.le_succ _) _⟩
 simp only [zzD, zzE, zzF]
 rfl
end Go.Proofs.YtpaanfjjnjjoeaaGreat
