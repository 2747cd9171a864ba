/- Quantities of a schedule: its masses by size, their sum, and the sum of its counts. -/
import Derived.Test.YtnhmdgkhmkeopaaGreatDoorBend
namespace Go.Proofs.YtnhmdgkhmkeopaaGreatDoor
open Go.RowKit

theorem schedOk_len {l : List BarD} (h : schedOk l = true) : l.length ≤ 60 := by
  simp [schedOk] at h; exact h.1
theorem schedFrom_mem {l : List BarD} : ∀ {r : List BarD} {k : Nat}, schedFrom l k r = true → ∀ x ∈ r, barOk x = true := by
  intro r
  induction r with
  | nil => intro k _ x hx; cases hx
  | cons y r ih =>
    intro k h x hx
    simp only [schedFrom, Bool.and_eq_true] at h
    rcases List.mem_cons.1 hx with rfl | hx
    · exact h.1.1
    · exact ih h.2 x hx
theorem schedOk_mem {l : List BarD} (h : schedOk l = true) : ∀ x ∈ l, barOk x = true := by
  simp only [schedOk, Bool.and_eq_true] at h
  exact schedFrom_mem h.2

/-- What a function adds up to over the bars of a size. -/
def sumOf (f : BarD → Int) (l : List BarD) (d : Int) : Int := l.foldl (fun s x => if x.size = d then s + f x else s) 0
def massList (l : List BarD) : List Int := steelSizes.map (sumOf lineMass l)
theorem sumOf_snoc (f : BarD → Int) (l : List BarD) (x : BarD) (d : Int) : sumOf f (l ++ [x]) d = if x.size = d then sumOf f l d + f x else sumOf f l d := by
  simp [sumOf, List.foldl_append]
theorem foldl_range {α : Type} (f : Int → α → Int) (m : Int) (l : List α) (h : ∀ s x, x ∈ l → s ≤ f s x ∧ f s x ≤ s + m) : ∀ s : Int, s ≤ l.foldl f s ∧ l.foldl f s ≤ s + m * l.length := by
  induction l with
  | nil => intro s; simp
  | cons y r ih =>
    intro s
    have h1 := h s y (List.mem_cons_self ..)
    have h2 := ih (fun s x hx => h s x (List.mem_cons_of_mem _ hx)) (f s y)
    simp only [List.foldl_cons, List.length_cons]
    have : m * ((r.length + 1 : Nat) : Int) = m * r.length + m := by rw [Int.natCast_add, Int.mul_add]; simp
    omega
theorem sumMass_range {l : List BarD} (h : ∀ x ∈ l, barOk x = true) (d : Int) : 0 ≤ sumOf lineMass l d ∧ sumOf lineMass l d ≤ 5300000000 * l.length := by
  have := foldl_range (fun s (x : BarD) => if x.size = d then s + lineMass x else s) 5300000000 l (fun s x hx => by
    have := lineMass_range (h x hx)
    split <;> omega) 0
  unfold sumOf
  omega
theorem map_set_nodup (f : Int → Int) (n d : Int) : ∀ (l : List Int) (j : Nat), l.Nodup → l[j]? = some d → (l.map f).set j (f d + n) = l.map (fun e => if d = e then f e + n else f e) := by
  intro l
  induction l with
  | nil => intro j _ h; simp at h
  | cons y r ih =>
    intro j hn h
    rw [List.nodup_cons] at hn
    cases j with
    | zero =>
      simp at h
      subst h
      simp only [List.map_cons, List.set_cons_zero, if_true]
      congr 1
      refine List.map_congr_left fun e he => ?_
      rw [if_neg (by rintro rfl; exact hn.1 he)]
    | succ j =>
      simp at h
      have hne : d ≠ y := by rintro rfl; exact hn.1 (mem_of_get h)
      simp only [List.map_cons, List.set_cons_succ, if_neg hne, ih j hn.2 h]
theorem massList_step {l : List BarD} {x : BarD} {j : Nat} {m : Int} (hj : steelSizes[j]? = some x.size) (hm : (massList l)[j]? = some m) : (massList l).set j (m + lineMass x) = massList (l ++ [x]) := by
  have hm' : m = sumOf lineMass l x.size := by
    simp [massList, hj] at hm
    exact hm.symm
  subst hm'
  rw [massList, map_set_nodup _ _ _ _ _ (by decide) hj, massList]
  refine List.map_congr_left fun e _ => ?_
  rw [sumOf_snoc]

set_option maxHeartbeats 1000000 in
theorem masses_ok (A : Option Addr) (l : List BarD) (n c : Nat) (w : World) {B : Nat} (h : BarsAt w B A l) (hB : B ≤ w.heap.size) (hn : n = l.length) (hg : Tame l) (hok : schedOk l = true) :
    Calls Tryz.prog 31 #[.slice A n c] w fun e w' => ∃ A', e = .returned (.slice A' 9 9) ∧ Ints w' w'.heap.size A' (massList l) ∧ Below w.heap.size w w' := by
  have hn' := hide hn
  have hl60 := schedOk_len hok
  have Hok := hide (schedOk_mem hok)
  have Hg := hide hg
  have hn60 : n ≤ 60 := by omega
  have hmk : ∀ w, (Instr.makeSlice 32 (.int .i64 9) (.int .i64 9)).run Tryz.prog w = .ok (.slice (some ⟨w.heap.size, 0, none⟩) 9 9) (w.alloc (.cells (intCells [0, 0, 0, 0, 0, 0, 0, 0, 0]) 3)) := fun _ => by kernel_rfl
  clear hn hok hg
  go_enter Tryz.func31, Tryz.ntmps31
  go_wp2_with fail
  refine (sizes_any _).mono ?_
  rintro e w1 ⟨S, rfl, hS, hb1⟩
  have h1 := hide (h.carry (hb1.mono hB) (Nat.le_refl _))
  have hB1 := Nat.le_trans hB hb1.size
  have b2 := hide (Blk.new w1 3 (intCells [0, 0, 0, 0, 0, 0, 0, 0, 0]))
  clear h
  go_wp2_with fail
  have hb2 := hide ((Below.refl w1.heap.size w1).alloc (Nat.le_refl _) (.cells (intCells [0, 0, 0, 0, 0, 0, 0, 0, 0]) 3))
  go_loopw [15] (fun i wr => ∃ k : Nat, k ≤ n ∧ i = .int .i64 k ∧ (∃ ms : List Int, Blk wr w1.heap.size 3 (intCells ms) ∧ Hid (ms = massList (l.take k))) ∧ Below w1.heap.size w1 wr) (fun i _ => n - (intOf i).toNat)
  case atStart => exact ⟨0, Nat.zero_le _, rfl, ⟨_, b2.out, hide rfl⟩, hb2.out⟩
  case round =>
    clear b2 hb2 hmk
    obtain ⟨k, hk, rfl, ⟨ms, hbk, hms⟩, hbr⟩ := hrel
    by_cases hlt : k < n
    · have Hr := hide (h1.out.carry (hbr.mono hB1) (Nat.le_refl _))
      obtain ⟨b, off, x, A', c', rfl, hbl, hx, hi, e0, e1, e2, e3, e4⟩ := BarsAt.get (k := k) Hr.out (by rw [← hn'.out]; exact hlt)
      have hbx := Hok.out x (mem_of_get hx)
      have hgx := Hg.out x (mem_of_get hx)
      have hx0 := lineMass_range hbx
      have hBr := Nat.le_trans hB1 hbr.size
      have hbo := fun o => hide ((Below.refl B wr).alloc hBr o)
      have Hx := hide hx
      have Hi := hide hi
      have Hbx := hide hbx
      have Hbk := hide hbk
      have hS2 := hide (hS.carry (hbr) (Nat.le_refl _))
      have hg1 : w1.heap.size < wr.heap.size := hbk.lt
      clear hx hi hbl hbx hbk
      go_wp2_with fail
      refine (bendMass_ok x A' c' _ (Hi.out.carry (hbo _).out (Nat.le_refl _)) (le_alloc hBr _) hgx.1 hgx.2 Hbx.out).mono ?_
      rintro e w3 ⟨rfl, hb3⟩
      have hsz := isSize_mem (barGood_of Hbx.out).size
      obtain ⟨j, hj⟩ := List.getElem?_of_mem hsz
      have hjl := lt_of_get hj
      have hidx := hide (idx_at (x := x.size) (l := steelSizes) (by decide) hj)
      have Hj := hide hj
      have hmj : ∃ m, ms[j]? = some m := by rw [hms.out]; simp [massList, hj]
      obtain ⟨m, hm⟩ := hmj
      have hm0 : 0 ≤ m ∧ m ≤ 318000000000 := by
        have hr := sumMass_range (l := l.take k) (fun y hy => Hok.out y (List.mem_of_mem_take hy)) x.size
        have : m = sumOf lineMass (l.take k) x.size := by
          have h9 := hm
          rw [hms.out] at h9
          simp [massList, hj] at h9
          exact h9.symm
        have hlen : (l.take k).length ≤ 60 := by simp; omega
        omega
      have Hm := hide hm
      have b3 := hide ((Hbk.out.alloc _).keep hb3)
      have hb13 := hide ((hbr.alloc hbr.size _).trans (hb3.mono (le_alloc hbr.size _)))
      have hS3 := hide (hS.carry hb13.out (Nat.le_refl _))
      have c1 := ((Blk.new wr 67 #[.string x.mark, .int .i64 x.size, .int .i64 x.count, .int .i64 x.code, .slice A' x.dims.length c']).keep hb3).cell 1
      simp at c1
      have cj := (b3.out.cell j).trans (intCells_get hm)
      have fj := b3.out.frozen j
      have hj9 : j < 9 := hjl
      clear hsz hj hm hb3 hbo e0 e1 e2 e3 e4 hS hS2
      go_wp2_with fail
      refine (index_any S steelSizes 9 9 x.size _ hS3.out rfl (by omega)).mono ?_
      rintro e w4 ⟨rfl, rfl⟩
      rw [hidx.out]
      go_wp2_with fail
      go_roundw
      case rel => exact ⟨k + 1, by omega, by go_num, ⟨ms.set j (m + lineMass x), by rw [← intCells_set]; exact b3.out.set_ j _, hide (by
        rw [take_snoc' Hx.out, ← massList_step Hj.out (by rw [← hms.out]; exact Hm.out), ← hms.out])⟩, hb13.out.setCell (Nat.le_refl _) _⟩
      case measure => simp [intOf]; omega
    · obtain rfl : k = n := by omega
      have Hbk := hide hbk
      clear hbk
      go_wp2_with fail
      go_ret
      refine ⟨_, rfl, ?_, below_step hb1 hbr (Nat.le_refl _)⟩
      have hms' : ms = massList l := by rw [hms.out, hn'.out, List.take_length]
      rw [← hms']
      exact Ints.of_blk Hbk.out Hbk.out.lt
def qVal (b : Bool) (v : Int) : Int := if b then v else 0
def qErr (b : Bool) (e : Int) : Int := if b then 0 else e
/-- The sum of a list. -/
def total (l : List Int) : Int := l.foldl (fun s n => s + n) 0
theorem total_snoc (l : List Int) (n : Int) : total (l ++ [n]) = total l + n := by simp [total, List.foldl_append]

set_option maxHeartbeats 1000000 in
theorem quantTotal_any (A : Option Addr) (l : List BarD) (n c : Nat) (w : World) {B : Nat} (h : BarsAt w B A l) (hB : B ≤ w.heap.size) (hn : n = l.length) (hg : Tame l) (hm : n ≤ 60000) :
    Calls Tryz.prog 11 #[.slice A n c] w fun e w' => e = .returned (.tuple #[.int .i64 (qVal (schedOk l) (total (massList l))), .int .i64 (qErr (schedOk l) 1)]) ∧ Below w.heap.size w w' := by
  have hn' := hide hn
  have Hg := hide hg
  cases hok : schedOk l
  · have Hok := hide hok
    clear hn hg hok
    go_enter Tryz.func11, Tryz.ntmps11
    go_wp2_with fail
    refine (schedValid_any A l n c _ h hB hn'.out Hg.out hm).mono ?_
    rintro e w1 ⟨rfl, hb1⟩
    rw [Hok.out]
    go_wp2_with fail
    go_ret2
    exact ⟨rfl, hb1⟩
  · have Hok := hide hok
    have hr : ∀ m ∈ massList l, 0 ≤ m ∧ m ≤ 318000000000 := by
      intro m hmm
      obtain ⟨d, _, rfl⟩ := List.mem_map.1 hmm
      have := sumMass_range (schedOk_mem hok) d
      have := schedOk_len hok
      omega
    have Hr := hide hr
    clear hn hg hok hr
    go_enter Tryz.func11, Tryz.ntmps11
    go_wp2_with fail
    refine (schedValid_any A l n c _ h hB hn'.out Hg.out hm).mono ?_
    rintro e w1 ⟨rfl, hb1⟩
    rw [Hok.out]
    have h1 := hide (h.carry (hb1.mono hB) (Nat.le_refl _))
    have hB1 := Nat.le_trans hB hb1.size
    clear h
    go_wp2_with fail
    refine (masses_ok A l n c _ h1.out hB1 hn'.out Hg.out Hok.out).mono ?_
    rintro e w2 ⟨M, rfl, hM, hb2⟩
    have hb := hide (below_step hb1 hb2 (Nat.le_refl _))
    clear hb1 hb2
    go_wp2_with fail
    go_loop [4, 13] (fun s i => ∃ k : Nat, k ≤ 9 ∧ i = .int .i64 k ∧ ∃ t : Int, 0 ≤ t ∧ t ≤ 318000000000 * k ∧ s = .int .i64 t ∧ Hid (t = total ((massList l).take k))) (fun _ i => 9 - (intOf i).toNat)
    case atStart => exact ⟨0, Nat.zero_le _, rfl, 0, by omega, by omega, rfl, hide rfl⟩
    case round =>
      obtain ⟨k, hk, rfl, t, ht0, ht1, rfl, ht⟩ := hrel
      by_cases hlt : k < 9
      · obtain ⟨b, off, y, rfl, hbl, hy, hc⟩ := hM.get (k := k) (by simpa [massList, steelSizes] using hlt)
        obtain ⟨hy0, hy1⟩ := Hr.out y (mem_of_get hy)
        have Hy := hide hy
        clear hy hbl hM
        go_wp2_with fail
        go_round
        case rel => exact ⟨k + 1, by omega, by go_num, t + y, by omega, by omega, rfl, hide (by rw [take_snoc' Hy.out, total_snoc, ← ht.out])⟩
        case measure => simp [intOf]; omega
      · obtain rfl : k = 9 := by omega
        have ht' := hide (show t = qVal true (total (massList l)) by rw [ht.out, List.take_of_length_le (by simp [massList, steelSizes])]; rfl)
        clear ht hM
        go_wp2_with fail
        go_ret2
        exact ⟨ret_ii ht'.out rfl, hb.out⟩
def sumCount (l : List BarD) : Int := l.foldl (fun s x => s + x.count) 0
theorem sumCount_snoc (l : List BarD) (x : BarD) : sumCount (l ++ [x]) = sumCount l + x.count := by simp [sumCount, List.foldl_append]

set_option maxHeartbeats 1000000 in
theorem schedTotal_any (A : Option Addr) (l : List BarD) (n c : Nat) (w : World) {B : Nat} (h : BarsAt w B A l) (hB : B ≤ w.heap.size) (hn : n = l.length) (hg : Tame l) (hm : n ≤ 60000) :
    Calls Tryz.prog 10 #[.slice A n c] w fun e w' => e = .returned (.tuple #[.int .i64 (qVal (schedOk l) (sumCount l)), .int .i64 (qErr (schedOk l) 1)]) ∧ Below w.heap.size w w' := by
  have hn' := hide hn
  have Hg := hide hg
  cases hok : schedOk l
  · have Hok := hide hok
    clear hn hg hok
    go_enter Tryz.func10, Tryz.ntmps10
    go_wp2_with fail
    refine (schedValid_any A l n c _ h hB hn'.out Hg.out hm).mono ?_
    rintro e w1 ⟨rfl, hb1⟩
    rw [Hok.out]
    go_wp2_with fail
    go_ret2
    exact ⟨rfl, hb1⟩
  · have Hok := hide hok
    have Hm := hide (schedOk_mem hok)
    clear hn hg hok
    go_enter Tryz.func10, Tryz.ntmps10
    go_wp2_with fail
    refine (schedValid_any A l n c _ h hB hn'.out Hg.out hm).mono ?_
    rintro e w1 ⟨rfl, hb1⟩
    rw [Hok.out]
    have h1 := hide (h.carry (hb1.mono hB) (Nat.le_refl _))
    have hB1 := Nat.le_trans hB hb1.size
    clear h
    go_wp2_with fail
    go_loopw [4, 12] (fun s i wr => ∃ k : Nat, k ≤ n ∧ i = .int .i64 k ∧ (∃ t : Int, 0 ≤ t ∧ t ≤ 1000 * k ∧ s = .int .i64 t ∧ Hid (t = sumCount (l.take k))) ∧ Below w1.heap.size w1 wr) (fun _ i _ => n - (intOf i).toNat)
    case atStart => exact ⟨0, Nat.zero_le _, rfl, ⟨0, by omega, by omega, rfl, hide rfl⟩, Below.refl _ _⟩
    case round =>
      obtain ⟨k, hk, rfl, ⟨t, ht0, ht1, rfl, ht⟩, hbr⟩ := hrel
      by_cases hlt : k < n
      · obtain ⟨b, off, x, A', c', hA, hbl, hx, hi, e0, e1, e2, e3, e4⟩ := BarsAt.get (k := k) (h1.out.carry (hbr.mono hB1) (Nat.le_refl _)) (by rw [← hn'.out]; exact hlt)
        obtain ⟨hx0, hx1⟩ := (barGood_of (Hm.out x (mem_of_get hx))).count
        have Hx := hide hx
        subst hA
        clear hx hi hbl
        go_wp2_with fail
        go_roundw
        case rel => exact ⟨k + 1, by omega, by go_num, ⟨t + x.count, by omega, by omega, rfl, hide (by rw [take_snoc' Hx.out, sumCount_snoc, ← ht.out])⟩, hbr.alloc hbr.size _⟩
        case measure => simp [intOf]; omega
      · obtain rfl : k = n := by omega
        have ht' := hide (show t = qVal true (sumCount l) by rw [ht.out, hn'.out, List.take_length]; rfl)
        clear ht
        go_wp2_with fail
        go_ret2
        exact ⟨ret_ii ht'.out rfl, below_step hb1 hbr (Nat.le_refl _)⟩

set_option maxHeartbeats 400000 in
theorem masses1_any (x : BarD) (A : Option Addr) (c : Nat) (d : Int) (g : Nat) (w : World) (h0 : w.cell? ⟨g, 0, none⟩ = some (.int .i64 d)) :
    Calls Tryz.prog 55 #[.agg #[.string x.mark, .int .i64 x.size, .int .i64 x.count, .int .i64 x.code, .slice A x.dims.length c], .pointer (some ⟨g, 0, none⟩)] w fun e w' => e = .returned (.bool (x.size == d)) ∧ Below w.heap.size w w' := by
  have hg : g < w.heap.size := World.block_lt_of_cell? w _ h0
  have h1 := fun o => (World.cell?_alloc_lt w o ⟨g, 0, none⟩ hg).trans h0
  go_enter Tryz.func55, Tryz.ntmps55
  go_wp2_with fail
  go_ret
  exact ⟨ret_bool (by rfl), below_new _ _⟩
end Go.Proofs.YtnhmdgkhmkeopaaGreatDoor
