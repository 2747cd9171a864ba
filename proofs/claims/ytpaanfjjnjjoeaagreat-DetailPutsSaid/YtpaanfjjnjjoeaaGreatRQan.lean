/- slices.EqualFunc at bars and demands, with the two tests of detail.Same. -/
import Derived.Test.YtpaanfjjnjjoeaaGreatRQal
import Derived.Test.YtpaanfjjnjjoeaaGreatRQac
namespace Go.Proofs.YtpaanfjjnjjoeaaGreat
open Go.RowKit
abbrev barVal (x : BarD) (A : Option Addr) (c : Nat) : Value := .agg #[.string x.mark, .int .i64 x.size, .int .i64 x.count, .int .i64 x.code, .slice A x.dims.length c]
abbrev demV (x : DemD) (A : Option Addr) (c : Nat) : Value := .agg #[.string x.name, .int .i64 x.zone.lo.1, .int .i64 x.zone.lo.2.1, .int .i64 x.zone.lo.2.2, .int .i64 x.zone.hi.1, .int .i64 x.zone.hi.2.1, .int .i64 x.zone.hi.2.2, .slice A x.steps.length c]
theorem BarsAt.later {w wr : World} {B : Nat} {A : Option Addr} {l : List BarD} (h : BarsAt w B A l) (hB : B ≤ w.heap.size) (hb : Below w.heap.size w wr) {k : Nat} (hk : k < l.length) :
  ∃ b off x A' c', A = some ⟨b, off, none⟩ ∧ b < wr.heap.size ∧ l[k]? = some x ∧ Ints w B A' x.dims ∧ wr.cell? ⟨b, off + k * 5, none⟩ = some (.string x.mark) ∧ wr.cell? ⟨b, off + k * 5 + 1, none⟩ = some (.int .i64 x.size) ∧
   wr.cell? ⟨b, off + k * 5 + 2, none⟩ = some (.int .i64 x.count) ∧ wr.cell? ⟨b, off + k * 5 + 3, none⟩ = some (.int .i64 x.code) ∧ wr.cell? ⟨b, off + k * 5 + 4, none⟩ = some (.slice A' x.dims.length c') := by
 obtain ⟨b, off, x, A', c', rfl, hbl, hx, hi, h0, h1, h2, h3, h4⟩ := BarsAt.get h hk
 have hbw : b < w.heap.size := Nat.lt_of_lt_of_le hbl hB
 have key := fun j => hb.cell (p := ⟨b, j, none⟩) hbw
 exact ⟨b, off, x, A', c', rfl, Nat.lt_of_lt_of_le hbw hb.size, hx, hi, (key _).trans h0, (key _).trans h1, (key _).trans h2, (key _).trans h3, (key _).trans h4⟩
theorem DemsAt.later {w wr : World} {B : Nat} {A : Option Addr} {l : List DemD} (h : DemsAt w B A l) (hB : B ≤ w.heap.size) (hb : Below w.heap.size w wr) {k : Nat} (hk : k < l.length) :
  ∃ b off x A' c', A = some ⟨b, off, none⟩ ∧ b < wr.heap.size ∧ l[k]? = some x ∧ StpsAt w B A' x.steps ∧ wr.cell? ⟨b, off + k * 8, none⟩ = some (.string x.name) ∧ wr.cell? ⟨b, off + k * 8 + 1, none⟩ = some (.int .i64 x.zone.lo.1) ∧
   wr.cell? ⟨b, off + k * 8 + 2, none⟩ = some (.int .i64 x.zone.lo.2.1) ∧ wr.cell? ⟨b, off + k * 8 + 3, none⟩ = some (.int .i64 x.zone.lo.2.2) ∧ wr.cell? ⟨b, off + k * 8 + 4, none⟩ = some (.int .i64 x.zone.hi.1) ∧
   wr.cell? ⟨b, off + k * 8 + 5, none⟩ = some (.int .i64 x.zone.hi.2.1) ∧ wr.cell? ⟨b, off + k * 8 + 6, none⟩ = some (.int .i64 x.zone.hi.2.2) ∧ wr.cell? ⟨b, off + k * 8 + 7, none⟩ = some (.slice A' x.steps.length c') := by
 obtain ⟨b, off, x, A', c', rfl, hbl, hx, hi, hc⟩ := DemsAt.get h hk
 have hbw : b < w.heap.size := Nat.lt_of_lt_of_le hbl hB
 have key := fun j v hv => (hb.cell (p := ⟨b, off + k * 8 + j, none⟩) hbw).trans (hc j v hv)
 refine ⟨b, off, x, A', c', rfl, Nat.lt_of_lt_of_le hbw hb.size, hx, hi, ?_, key 1 _ rfl, key 2 _ rfl, key 3 _ rfl, key 4 _ rfl, key 5 _ rfl, key 6 _ rfl, key 7 _ rfl⟩
 have h0 := key 0 _ rfl
 simpa using h0
set_option maxHeartbeats 4000000 in
theorem eqfBar_any (A A' : Option Addr) (l m : List BarD) (n n' c c' : Nat) (fid : FuncId) (caps : Array Value) (w : World) {B B' : Nat} (h : BarsAt w B A l) (h' : BarsAt w B' A' m) (hB : B ≤ w.heap.size) (hB' : B' ≤ w.heap.size) (hn : n = l.length) (hn' : n' = m.length) (hm : n ≤ 60000) (hm' : n' ≤ 60000)
  (hc : ∀ args w, (callFunc fid args).run Tryz.prog w = .ok (.enter fid args) w)
  (hf : ∀ x y A1 c1 A2 c2 (W : World), x ∈ l → y ∈ m → Below w.heap.size w W → Ints w B A1 x.dims → Ints w B' A2 y.dims → Calls Tryz.prog fid (#[barVal x A1 c1, barVal y A2 c2] ++ caps) W fun e W' => e = .returned (.bool (eqBar x y)) ∧ Below W.heap.size W W') :
  Calls Tryz.prog 69 #[.slice A n c, .slice A' n' c', .func (.func fid) #[] caps] w fun e w' => e = .returned (.bool (sameL eqBar l m)) ∧ Below w.heap.size w w' := by
 by_cases hnn : n = n'
 ·subst hnn
  have hs := hide (same_len (eq := eqBar) (l := l) (m := m) (by omega))
  have hz := hide (show (l.zip m).length = n by rw [List.length_zip]; omega)
  have Hg := hide (fun (wr : World) (hb : Below w.heap.size w wr) (k : Nat) (hk : k < n) => h.later hB hb (k := k) (by omega))
  have Hg2 := hide (fun (wr : World) (hb : Below w.heap.size w wr) (k : Nat) (hk : k < n) => h'.later hB' hb (k := k) (by omega))
  have Hf := hide hf
  clear h h' hn hn' hf
  go_enter Tryz.func69, Tryz.ntmps69
  go_wp2_with fail
  go_loopw [17] (fun i wr => ∃ k : Nat, k ≤ n ∧ i = .int .i64 k ∧ NoneTo (unlike eqBar) (l.zip m) k ∧ Below w.heap.size w wr) (fun i _ => n - (intOf i).toNat)
  case atStart => exact ⟨0, Nat.zero_le _, rfl, NoneTo.zero _ _, Below.refl _ _⟩
  case round =>
   obtain ⟨k, hk, rfl, hw, hb⟩ := hrel
   by_cases hlt : k < n
   ·obtain ⟨b, off, x, A1, c1, rfl, lb, hx, hi, e0, e1, e2, e3, e4⟩ := Hg.out wr hb k hlt
    obtain ⟨b2, off2, y, A2, c2, rfl, lb2, hy, hi2, g0, g1, g2, g3, g4⟩ := Hg2.out wr hb k hlt
    have Hz := hide (zip_get hx hy)
    have HF := hide (fun (W : World) (hW : Below w.heap.size w W) => Hf.out x y A1 c1 A2 c2 W (mem_of_get hx) (mem_of_get hy) hW hi hi2)
    have Hw := hide hw
    have Hb := hide hb
    have hbs := hb.size
    clear hx hy hi hi2 hw hb
    obtain ⟨q, hq⟩ : ∃ q, eqBar x y = q := ⟨_, rfl⟩
    rw [hq] at HF
    go_wp2_with fail
    refine (HF.out _ ((Hb.out.alloc hbs _).alloc (le_alloc hbs _) _)).mono ?_
    rintro e w1 ⟨rfl, hb1⟩
    have Hb2 := hide (below_step ((Hb.out.alloc hbs _).alloc (le_alloc hbs _) _) hb1 (Nat.le_refl _))
    clear hb1 HF
    cases q
    ·have Hq := hide (same_no hs.out Hz.out hq)
     clear hq
     go_wp2_with fail
     go_ret
     exact ⟨ret_bool Hq.out.symm, Hb2.out⟩
    ·have Hq := hide hq
     clear hq
     go_wp2_with fail
     go_roundw
     case rel => exact ⟨k + 1, by omega, by go_num, Hw.out.succ Hz.out (by rw [unlike, Hq.out]; rfl), Hb2.out⟩
     case measure => simp [intOf]; omega
   ·obtain rfl : k = n := by omega
    have Hq := hide (same_yes hs.out hz.out hw)
    clear hw
    go_wp2_with fail
    go_ret
    exact ⟨ret_bool Hq.out.symm, hb⟩
 ·have Hq := hide (same_not (eq := eqBar) (l := l) (m := m) (by omega))
  have t : ((n : Int) != (n' : Int)) = true := by simp; omega
  clear h h' hn hn' hf
  go_enter Tryz.func69, Tryz.ntmps69
  go_wp2_with fail
  go_ret
  exact ⟨ret_bool Hq.out.symm, Below.refl _ _⟩
set_option maxHeartbeats 4000000 in
theorem eqfDem_any (A A' : Option Addr) (l m : List DemD) (n n' c c' : Nat) (fid : FuncId) (caps : Array Value) (w : World) {B B' : Nat} (h : DemsAt w B A l) (h' : DemsAt w B' A' m) (hB : B ≤ w.heap.size) (hB' : B' ≤ w.heap.size) (hn : n = l.length) (hn' : n' = m.length) (hm : n ≤ 60000) (hm' : n' ≤ 60000)
  (hc : ∀ args w, (callFunc fid args).run Tryz.prog w = .ok (.enter fid args) w)
  (hf : ∀ x y A1 c1 A2 c2 (W : World), x ∈ l → y ∈ m → Below w.heap.size w W → StpsAt w B A1 x.steps → StpsAt w B' A2 y.steps → Calls Tryz.prog fid (#[demV x A1 c1, demV y A2 c2] ++ caps) W fun e W' => e = .returned (.bool (eqDem x y)) ∧ Below W.heap.size W W') :
  Calls Tryz.prog 72 #[.slice A n c, .slice A' n' c', .func (.func fid) #[] caps] w fun e w' => e = .returned (.bool (sameL eqDem l m)) ∧ Below w.heap.size w w' := by
 by_cases hnn : n = n'
 ·subst hnn
  have hs := hide (same_len (eq := eqDem) (l := l) (m := m) (by omega))
  have hz := hide (show (l.zip m).length = n by rw [List.length_zip]; omega)
  have Hg := hide (fun (wr : World) (hb : Below w.heap.size w wr) (k : Nat) (hk : k < n) => h.later hB hb (k := k) (by omega))
  have Hg2 := hide (fun (wr : World) (hb : Below w.heap.size w wr) (k : Nat) (hk : k < n) => h'.later hB' hb (k := k) (by omega))
  have Hf := hide hf
  clear h h' hn hn' hf
  go_enter Tryz.func72, Tryz.ntmps72
  go_wp2_with fail
  go_loopw [17] (fun i wr => ∃ k : Nat, k ≤ n ∧ i = .int .i64 k ∧ NoneTo (unlike eqDem) (l.zip m) k ∧ Below w.heap.size w wr) (fun i _ => n - (intOf i).toNat)
  case atStart => exact ⟨0, Nat.zero_le _, rfl, NoneTo.zero _ _, Below.refl _ _⟩
  case round =>
   obtain ⟨k, hk, rfl, hw, hb⟩ := hrel
   by_cases hlt : k < n
   ·obtain ⟨b, off, x, A1, c1, rfl, lb, hx, hi, e0, e1, e2, e3, e4, e5, e6, e7⟩ := Hg.out wr hb k hlt
    obtain ⟨b2, off2, y, A2, c2, rfl, lb2, hy, hi2, g0, g1, g2, g3, g4, g5, g6, g7⟩ := Hg2.out wr hb k hlt
    have Hz := hide (zip_get hx hy)
    have HF := hide (fun (W : World) (hW : Below w.heap.size w W) => Hf.out x y A1 c1 A2 c2 W (mem_of_get hx) (mem_of_get hy) hW hi hi2)
    have Hw := hide hw
    have Hb := hide hb
    have hbs := hb.size
    clear hx hy hi hi2 hw hb
    obtain ⟨q, hq⟩ : ∃ q, eqDem x y = q := ⟨_, rfl⟩
    rw [hq] at HF
    go_wp2_with fail
    refine (HF.out _ ((Hb.out.alloc hbs _).alloc (le_alloc hbs _) _)).mono ?_
    rintro e w1 ⟨rfl, hb1⟩
    have Hb2 := hide (below_step ((Hb.out.alloc hbs _).alloc (le_alloc hbs _) _) hb1 (Nat.le_refl _))
    clear hb1 HF
    cases q
    ·have Hq := hide (same_no hs.out Hz.out hq)
     clear hq
     go_wp2_with fail
     go_ret
     exact ⟨ret_bool Hq.out.symm, Hb2.out⟩
    ·have Hq := hide hq
     clear hq
     go_wp2_with fail
     go_roundw
     case rel => exact ⟨k + 1, by omega, by go_num, Hw.out.succ Hz.out (by rw [unlike, Hq.out]; rfl), Hb2.out⟩
     case measure => simp [intOf]; omega
   ·obtain rfl : k = n := by omega
    have Hq := hide (same_yes hs.out hz.out hw)
    clear hw
    go_wp2_with fail
    go_ret
    exact ⟨ret_bool Hq.out.symm, hb⟩
 ·have Hq := hide (same_not (eq := eqDem) (l := l) (m := m) (by omega))
  have t : ((n : Int) != (n' : Int)) = true := by simp; omega
  clear h h' hn hn' hf
  go_enter Tryz.func72, Tryz.ntmps72
  go_wp2_with fail
  go_ret
  exact ⟨ret_bool Hq.out.symm, Below.refl _ _⟩
set_option maxHeartbeats 2000000 in
theorem same1_any (x y : BarD) (A1 A2 : Option Addr) (c1 c2 : Nat) (w : World) {B B' : Nat} (h : Ints w B A1 x.dims) (h' : Ints w B' A2 y.dims) (hB : B ≤ w.heap.size) (hB' : B' ≤ w.heap.size) (hm : x.dims.length ≤ 60000) (hm' : y.dims.length ≤ 60000) :
  Calls Tryz.prog 64 #[.agg #[.string x.mark, .int .i64 x.size, .int .i64 x.count, .int .i64 x.code, .slice A1 x.dims.length c1], .agg #[.string y.mark, .int .i64 y.size, .int .i64 y.count, .int .i64 y.code, .slice A2 y.dims.length c2]] w fun e w' => e = .returned (.bool (eqBar x y)) ∧ Below w.heap.size w w' := by
 have HD := hide (fun (W : World) (hz : Below w.heap.size w W) => equalNum_any A1 A2 x.dims y.dims x.dims.length y.dims.length c1 c2 W (h.carry (hz.mono hB) (Nat.le_refl _)) (h'.carry (hz.mono hB') (Nat.le_refl _)) rfl rfl (by omega) (by omega))
 have HW := hide (below_new2 w (.cells #[.string x.mark, .int .i64 x.size, .int .i64 x.count, .int .i64 x.code, .slice A1 x.dims.length c1] 50) (.cells #[.string y.mark, .int .i64 y.size, .int .i64 y.count, .int .i64 y.code, .slice A2 y.dims.length c2] 50))
 have Hr := hide (show eqBar x y = ((x.mark.toList == y.mark.toList) && ((x.size == y.size) && ((x.count == y.count) && ((x.code == y.code) && sameL eqInt x.dims y.dims)))) from rfl)
 clear h h'
 cases q1 : (x.mark.toList == y.mark.toList)
 ·rw [q1] at Hr
  go_enter Tryz.func64, Tryz.ntmps64
  go_wp2_with fail
  go_ret
  exact ⟨ret_bool (by rw [Hr.out]; rfl), HW.out⟩
 cases q2 : (x.size == y.size)
 ·rw [q1, q2] at Hr
  go_enter Tryz.func64, Tryz.ntmps64
  go_wp2_with fail
  go_ret
  exact ⟨ret_bool (by rw [Hr.out]; rfl), HW.out⟩
 cases q3 : (x.count == y.count)
 ·rw [q1, q2, q3] at Hr
  go_enter Tryz.func64, Tryz.ntmps64
  go_wp2_with fail
  go_ret
  exact ⟨ret_bool (by rw [Hr.out]; rfl), HW.out⟩
 cases q4 : (x.code == y.code)
 ·rw [q1, q2, q3, q4] at Hr
  go_enter Tryz.func64, Tryz.ntmps64
  go_wp2_with fail
  go_ret
  exact ⟨ret_bool (by rw [Hr.out]; rfl), HW.out⟩
 rw [q1, q2, q3, q4] at Hr
 go_enter Tryz.func64, Tryz.ntmps64
 go_wp2_with fail
 refine (HD.out _ HW.out).mono ?_
 rintro e w1 ⟨rfl, hb⟩
 have HB := hide (below_step HW.out hb (Nat.le_refl _))
 clear hb HD
 go_wp2_with fail
 go_ret
 exact ⟨ret_bool (by rw [Hr.out]; rfl), HB.out⟩
set_option maxRecDepth 100000 in
theorem pt_eqIn (d : Nat) (a b c a' b' c' : Int) (w : World) : (Op.equalIn (d + 1 + 1) 60 (.agg #[.int .i64 a, .int .i64 b, .int .i64 c]) (.agg #[.int .i64 a', .int .i64 b', .int .i64 c'])).run Tryz.prog w = .ok (a == a' && (b == b' && c == c')) w := by
 have hS : (Tryz.prog).underlying 60 = some (.struct ((Tryz.prog).fieldsOf 60)) := by kernel_rfl
 have hp : (Tryz.prog).stoodInHeld 60 = false := by kernel_rfl
 have u3 := Tryz.underlying3
 have a3 := Tryz.isAgg3
 have z3 := Tryz.sizeOf3
 rw [run_equalIn_agg w (d + 1) 60 _ _ hS hp]
 clear hS hp
 simp only [Program.fieldsOf, Tryz.underlying60]
 go_simp
 by_cases h1 : a = a' <;> by_cases h2 : b = b' <;> by_cases h3 : c = c' <;> simp [h1, h2, h3]
set_option maxRecDepth 100000 in
theorem box_eql (a b : BoxD) (w : World) : Sem.run Tryz.prog (binOp .eql 62 (.agg #[.int .i64 a.lo.1, .int .i64 a.lo.2.1, .int .i64 a.lo.2.2, .int .i64 a.hi.1, .int .i64 a.hi.2.1, .int .i64 a.hi.2.2]) (.agg #[.int .i64 b.lo.1, .int .i64 b.lo.2.1, .int .i64 b.lo.2.2, .int .i64 b.hi.1, .int .i64 b.hi.2.1, .int .i64 b.hi.2.2])) w = .ok (.bool (eqBox a b)) w := by
 have hS : (Tryz.prog).underlying 62 = some (.struct ((Tryz.prog).fieldsOf 62)) := by kernel_rfl
 have hp : (Tryz.prog).stoodInHeld 62 = false := by kernel_rfl
 have a3 := Tryz.isAgg60
 have z3 := Tryz.sizeOf60
 have key := fun (a b c a' b' c' : Int) (w : World) => pt_eqIn 9997 a b c a' b' c' w
 rw [run_eql_struct, show (10000 : Nat) = 9999 + 1 from rfl, run_equalIn_agg w 9999 62 _ _ hS hp]
 clear hS hp
 simp only [Program.fieldsOf, Tryz.underlying62]
 have p1 : ∀ (x1 x2 x3 x4 x5 x6 : Value) (w : World), Sem.run Tryz.prog (part 60 #[x1, x2, x3, x4, x5, x6] 0) w = .ok (.agg #[x1, x2, x3]) w := by
  intro x1 x2 x3 x4 x5 x6 w
  simp [part, a3, z3, Result.andThen]
 have p2 : ∀ (x1 x2 x3 x4 x5 x6 : Value) (w : World), Sem.run Tryz.prog (part 60 #[x1, x2, x3, x4, x5, x6] 3) w = .ok (.agg #[x4, x5, x6]) w := by
  intro x1 x2 x3 x4 x5 x6 w
  simp [part, a3, z3, Result.andThen]
 simp only [Op.eqFields, Sem.run_bind, Sem.run_ite, p1, p2, key, Result.andThen_ok]
 simp [eqBox, eqPt, Result.andThen]
 by_cases h1 : a.lo.1 = b.lo.1
 rotate_left
 ·simp [h1]
 by_cases h2 : a.lo.2.1 = b.lo.2.1
 rotate_left
 ·simp [h1, h2]
 by_cases h3 : a.lo.2.2 = b.lo.2.2
 rotate_left
 ·simp [h1, h2, h3]
 by_cases h4 : a.hi.1 = b.hi.1
 rotate_left
 ·simp [h1, h2, h3, h4]
 by_cases h5 : a.hi.2.1 = b.hi.2.1
 rotate_left
 ·simp [h1, h2, h3, h4, h5]
 by_cases h6 : a.hi.2.2 = b.hi.2.2
 rotate_left
 ·simp [h1, h2, h3, h4, h5, h6]
 simp [h1, h2, h3, h4, h5, h6]
set_option maxRecDepth 100000 in
theorem rule_eql (a b : RuleD) (w : World) : Sem.run Tryz.prog (binOp .eql 32 (.agg #[.int .i64 a.num, .int .i64 a.den, .int .i64 a.poorNum, .int .i64 a.poorDen, .int .i64 a.bendNum, .int .i64 a.bendDen, .int .i64 a.lapNum, .int .i64 a.lapDen, .int .i64 a.least]) (.agg #[.int .i64 b.num, .int .i64 b.den, .int .i64 b.poorNum, .int .i64 b.poorDen, .int .i64 b.bendNum, .int .i64 b.bendDen, .int .i64 b.lapNum, .int .i64 b.lapDen, .int .i64 b.least])) w = .ok (.bool (eqRule a b)) w := by
 have hS : (Tryz.prog).underlying 32 = some (.struct ((Tryz.prog).fieldsOf 32)) := by kernel_rfl
 have hp : (Tryz.prog).stoodInHeld 32 = false := by kernel_rfl
 have u3 := Tryz.underlying3
 have a3 := Tryz.isAgg3
 have z3 := Tryz.sizeOf3
 rw [run_eql_struct, show (10000 : Nat) = 9998 + 1 + 1 from rfl, run_equalIn_agg w (9998 + 1) 32 _ _ hS hp]
 clear hS hp
 simp only [Program.fieldsOf, Tryz.underlying32]
 go_simp
 simp only [eqRule]
 by_cases h1 : a.num = b.num
 rotate_left
 ·simp [h1]
 by_cases h2 : a.den = b.den
 rotate_left
 ·simp [h1, h2]
 by_cases h3 : a.poorNum = b.poorNum
 rotate_left
 ·simp [h1, h2, h3]
 by_cases h4 : a.poorDen = b.poorDen
 rotate_left
 ·simp [h1, h2, h3, h4]
 by_cases h5 : a.bendNum = b.bendNum
 rotate_left
 ·simp [h1, h2, h3, h4, h5]
 by_cases h6 : a.bendDen = b.bendDen
 rotate_left
 ·simp [h1, h2, h3, h4, h5, h6]
 by_cases h7 : a.lapNum = b.lapNum
 rotate_left
 ·simp [h1, h2, h3, h4, h5, h6, h7]
 by_cases h8 : a.lapDen = b.lapDen
 rotate_left
 ·simp [h1, h2, h3, h4, h5, h6, h7, h8]
 by_cases h9 : a.least = b.least
 rotate_left
 ·simp [h1, h2, h3, h4, h5, h6, h7, h8, h9]
 simp [h1, h2, h3, h4, h5, h6, h7, h8, h9]
set_option maxHeartbeats 2000000 in
theorem same2_any (x y : DemD) (A1 A2 : Option Addr) (c1 c2 : Nat) (w : World) {B B' : Nat} (h : StpsAt w B A1 x.steps) (h' : StpsAt w B' A2 y.steps) (hB : B ≤ w.heap.size) (hB' : B' ≤ w.heap.size) (hm : x.steps.length ≤ 60000) (hm' : y.steps.length ≤ 60000) :
  Calls Tryz.prog 66 #[demV x A1 c1, demV y A2 c2] w fun e w' => e = .returned (.bool (eqDem x y)) ∧ Below w.heap.size w w' := by
 have HD := hide (fun (W : World) (hz : Below w.heap.size w W) => equalStp_any A1 A2 x.steps y.steps x.steps.length y.steps.length c1 c2 W (SlOf.carry (Flat.carried _) h (hz.mono hB) (Nat.le_refl _)) (SlOf.carry (Flat.carried _) h' (hz.mono hB') (Nat.le_refl _)) rfl rfl (by omega) (by omega))
 have HW := hide (below_new2 w (.cells #[.string x.name, .int .i64 x.zone.lo.1, .int .i64 x.zone.lo.2.1, .int .i64 x.zone.lo.2.2, .int .i64 x.zone.hi.1, .int .i64 x.zone.hi.2.1, .int .i64 x.zone.hi.2.2, .slice A1 x.steps.length c1] 69) (.cells #[.string y.name, .int .i64 y.zone.lo.1, .int .i64 y.zone.lo.2.1, .int .i64 y.zone.lo.2.2, .int .i64 y.zone.hi.1, .int .i64 y.zone.hi.2.1, .int .i64 y.zone.hi.2.2, .slice A2 y.steps.length c2] 69))
 have Hr := hide (show eqDem x y = ((x.name.toList == y.name.toList) && (eqBox x.zone y.zone && sameL eqStp x.steps y.steps)) from rfl)
 have hq := box_eql x.zone y.zone
 obtain ⟨q, hqq⟩ : ∃ q, eqBox x.zone y.zone = q := ⟨_, rfl⟩
 rw [hqq] at hq Hr
 clear h h' hqq
 show Calls Tryz.prog 66 #[.agg #[.string x.name, .int .i64 x.zone.lo.1, .int .i64 x.zone.lo.2.1, .int .i64 x.zone.lo.2.2, .int .i64 x.zone.hi.1, .int .i64 x.zone.hi.2.1, .int .i64 x.zone.hi.2.2, .slice A1 x.steps.length c1], .agg #[.string y.name, .int .i64 y.zone.lo.1, .int .i64 y.zone.lo.2.1, .int .i64 y.zone.lo.2.2, .int .i64 y.zone.hi.1, .int .i64 y.zone.hi.2.1, .int .i64 y.zone.hi.2.2, .slice A2 y.steps.length c2]] w _
 cases q1 : (x.name.toList == y.name.toList)
 ·rw [q1] at Hr
  clear hq
  go_enter Tryz.func66, Tryz.ntmps66
  go_wp2_with fail
  go_ret
  exact ⟨ret_bool (by rw [Hr.out]; rfl), HW.out⟩
 cases q
 ·rw [q1] at Hr
  go_enter Tryz.func66, Tryz.ntmps66
  go_wp2_with fail
  go_ret
  exact ⟨ret_bool (by rw [Hr.out]; rfl), HW.out⟩
 rw [q1] at Hr
 go_enter Tryz.func66, Tryz.ntmps66
 go_wp2_with fail
 refine (HD.out _ HW.out).mono ?_
 rintro e w1 ⟨rfl, hb⟩
 have HB := hide (below_step HW.out hb (Nat.le_refl _))
 clear hb HD hq
 go_wp2_with fail
 go_ret
 exact ⟨ret_bool (by rw [Hr.out]; rfl), HB.out⟩
end Go.Proofs.YtpaanfjjnjjoeaaGreat
