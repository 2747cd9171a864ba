/- Whether a schedule and runs are valid together; the line of a mark in a valid schedule. The number of laid bars; the line of a mark in a schedule. The mark of a laid bar. Plain: where a laid bar stands in the list of all laid bars. No walk stands here. -/
import Derived.Test.YtkmpddaobncheaaGreatDoorQaq
import Derived.Test.YtkmpddaobncheaaGreatDoorQaf
namespace Go.Proofs.YtkmpddaobncheaaGreatDoor
open Go.RowKit

theorem runsFit_at {bars : List BarD} {runs : List RunD} {k : Nat} {r : RunD} (h : runs[k]? = some r) (rest : Int) : runsFit bars rest (runs.drop k) = (runOk bars r && decide (r.count ≤ rest) && runsFit bars (rest - r.count) (runs.drop (k + 1))) := by
  rw [drop_at' h, runsFit]
theorem runOk_count {bars : List BarD} {r : RunD} (h : runOk bars r = true) : 1 ≤ r.count ∧ r.count ≤ 1000 := by
  simp only [runOk, runHead, Bool.and_eq_true, decide_eq_true_eq] at h
  exact ⟨h.1.1.1.1.1.2, h.1.1.1.1.2⟩
theorem schedFrom_ok : ∀ (l r : List BarD) (k : Nat), schedFrom l k r = true → ∀ x ∈ r, barOk x = true := by
  intro l r
  induction r with
  | nil => intro _ _ x hx; cases hx
  | cons y r ih =>
    intro k h x hx
    rw [schedFrom, Bool.and_eq_true, Bool.and_eq_true] at h
    rcases List.mem_cons.1 hx with rfl | hx
    · exact h.1.1
    · exact ih _ h.2 x hx
theorem schedOk_bars {l : List BarD} (h : schedOk l = true) : ∀ x ∈ l, barOk x = true := by
  rw [schedOk, Bool.and_eq_true] at h
  exact schedFrom_ok l l 0 h.2
set_option maxHeartbeats 4000000 in
set_option maxRecDepth 100000 in
theorem laidValid_any (A : Option Addr) (bars : List BarD) (n c : Nat) (A2 : Option Addr) (runs : List RunD) (n2 c2 : Nat) (w : World) {B : Nat} (h : BarsAt w B A bars) (h2 : RunsAt w B A2 runs) (hB : B ≤ w.heap.size) (hn : n = bars.length) (hn2 : n2 = runs.length) (hm : n ≤ 60000) (hm2 : n2 ≤ 60000) (htame : Tame bars) :
    Calls Tryz.prog 77 #[.slice A n c, .slice A2 n2 c2] w fun e w' => e = .returned (.bool (laidOk bars runs)) ∧ Below w.heap.size w w' := by
  have HS := schedValid_any A bars n c w h hB hn htame hm
  cases hs : schedOk bars
  · have hres := hide (show laidOk bars runs = false by rw [laidOk, hs]; rfl)
    rw [hs] at HS
    have HS := hide HS
    clear h h2 hB hn hn2 hm hm2 htame hs
    go_enter Tryz.func77, Tryz.ntmps77
    go_wp2_with fail
    refine HS.out.mono ?_
    rintro e w2 ⟨rfl, hb2⟩
    clear HS
    go_wp2_with fail
    go_ret
    exact ⟨ret_bool hres.out.symm, hb2⟩
  rw [hs] at HS
  have HS := hide HS
  have hbars := schedOk_bars hs
  by_cases h60 : 60 < n2
  · have hres := hide (show laidOk bars runs = false by rw [laidOk, decide_eq_false (by omega)]; simp)
    have d0 : decide (60 < (n2 : Int)) = true := by simp; omega
    clear h h2 hB hn hn2 hm hm2 htame hs h60 hbars
    go_enter Tryz.func77, Tryz.ntmps77
    go_wp2_with fail
    refine HS.out.mono ?_
    rintro e w2 ⟨rfl, hb2⟩
    clear HS
    go_wp2_with fail
    go_ret
    exact ⟨ret_bool hres.out.symm, hb2⟩
  have Hr := hide (show laidOk bars runs = runsFit bars 2000 (runs.drop 0) by rw [laidOk, hs, decide_eq_true (by omega)]; rfl)
  have d0 : decide (60 < (n2 : Int)) = false := by simp; omega
  have HR := hide (fun (r : RunD) (W : World) (hz : Below w.heap.size w W) => right_any A bars n c r W (h.carry (hz.mono hB) (Nat.le_refl _)) (Nat.le_trans hB hz.size) hn hm htame hbars)
  have H2 := hide h2
  have hn2' := hide hn2
  have hn60 : n2 ≤ 60 := by omega
  clear h h2 hn hn2 hm hm2 htame hs h60 hbars
  go_enter Tryz.func77, Tryz.ntmps77
  go_wp2_with fail
  refine HS.out.mono ?_
  rintro e w2 ⟨rfl, hb2⟩
  have Hb2 := hide hb2
  clear HS hb2
  go_wp2_with fail
  go_loopw [5, 18] (fun v i wr => ∃ k : Nat, k ≤ n2 ∧ i = .int .i64 k ∧ (∃ rest : Int, v = .int .i64 rest ∧ 0 ≤ rest ∧ rest ≤ 2000 ∧ Hid (laidOk bars runs = runsFit bars rest (runs.drop k))) ∧ Below w.heap.size w wr) (fun _ i _ => n2 - (intOf i).toNat)
  case atStart => exact ⟨0, Nat.zero_le _, rfl, ⟨2000, rfl, by omega, by omega, Hr⟩, Hb2.out⟩
  case round =>
    clear Hb2 Hr
    obtain ⟨k, hk, rfl, ⟨rest, rfl, hr0, hr1, hq⟩, hbr⟩ := hrel
    by_cases hlt : k < n2
    · obtain ⟨b, off, r, rfl, hbl, hx, hc⟩ := RunsAt.get (k := k) (H2.out.carry (Flat.carried _) (hbr.mono hB) (Nat.le_refl _)) (by rw [← hn2'.out]; exact hlt)
      have hbw : b < wr.heap.size := by have := hbr.size; omega
      have Hq := hide (hq.out.trans (runsFit_at hx rest))
      have Hcnt := hide (fun (h : runOk bars r = true) => runOk_count h)
      have HRr := hide (HR.out r)
      obtain ⟨ok, hok⟩ : ∃ ok, ok = runOk bars r := ⟨_, rfl⟩
      rw [← hok] at Hq HRr Hcnt
      obtain ⟨mark, tx, ty, ⟨a1, a2, a3⟩, ⟨s1, s2, s3⟩, cnt⟩ := r
      have p0 := hc 0 _ rfl
      have p1 := hc 1 _ rfl
      have p2 := hc 2 _ rfl
      have p3 := hc 3 _ rfl
      have p4 := hc 4 _ rfl
      have p5 := hc 5 _ rfl
      have p6 := hc 6 _ rfl
      have p7 := hc 7 _ rfl
      have p8 := hc 8 _ rfl
      have p9 := hc 9 _ rfl
      simp only [Nat.add_zero] at p0 p1 p2 p3 p4 p5 p6 p7 p8 p9 HRr Hq Hcnt
      clear hx hbl hc hq hok
      go_wp2_with fail
      have HWn := hide (hbr.alloc hbr.size (.cells #[.string mark, .int .i64 tx, .int .i64 ty, .int .i64 a1, .int .i64 a2, .int .i64 a3, .int .i64 s1, .int .i64 s2, .int .i64 s3, .int .i64 cnt] 120))
      have KN := hide (Blk.new wr 120 #[.string mark, .int .i64 tx, .int .i64 ty, .int .i64 a1, .int .i64 a2, .int .i64 a3, .int .i64 s1, .int .i64 s2, .int .i64 s3, .int .i64 cnt])
      refine (HRr.out _ HWn.out).mono ?_
      rintro e w3 ⟨rfl, hb3⟩
      have k0 := KN.out.keep hb3
      have e9 := k0.cell 9
      simp at e9
      have HW3 := hide (below_step HWn.out hb3 (Nat.le_refl _))
      clear hb3 k0 KN HWn HRr p0 p1 p2 p3 p4 p5 p6 p7 p8 p9
      cases ok
      · have hres := hide (show laidOk bars runs = false by rw [Hq.out]; rfl)
        go_wp2_with fail
        go_ret
        exact ⟨ret_bool hres.out.symm, HW3.out⟩
      · obtain ⟨hc0, hc1⟩ := Hcnt.out rfl
        by_cases hcr : rest < cnt
        · have d1 : decide (rest < cnt) = true := by simpa using hcr
          have hres := hide (show laidOk bars runs = false by rw [Hq.out, decide_eq_false (by omega)]; rfl)
          go_wp2_with fail
          go_ret
          exact ⟨ret_bool hres.out.symm, HW3.out⟩
        · have d1 : decide (rest < cnt) = false := by simpa using hcr
          have Hq2 := hide (show laidOk bars runs = runsFit bars (rest - cnt) (runs.drop (k + 1)) by rw [Hq.out, decide_eq_true (by omega)]; rfl)
          clear Hq
          go_wp2_with fail
          go_roundw
          case rel => exact ⟨k + 1, by omega, by go_num, ⟨rest - cnt, rfl, by omega, by omega, Hq2⟩, HW3.out⟩
          case measure => simp [intOf]; omega
    · obtain rfl : k = n2 := by omega
      have hfull := hide (show laidOk bars runs = true by rw [hq.out, hn2'.out, List.drop_length]; rfl)
      go_wp2_with fail
      go_ret
      exact ⟨ret_bool hfull.out.symm, hbr⟩
end Go.Proofs.YtkmpddaobncheaaGreatDoor
namespace Go.Proofs.YtkmpddaobncheaaGreatDoor
open Go.RowKit

def countRuns (l : List RunD) : Int := l.foldl (fun s r => s + r.count) 0
theorem countRuns_snoc (l : List RunD) (r : RunD) : countRuns (l ++ [r]) = countRuns l + r.count := by simp [countRuns]
theorem runsFit_mem {bars : List BarD} : ∀ (l : List RunD) (rest : Int), runsFit bars rest l = true → ∀ r ∈ l, runOk bars r = true := by
  intro l
  induction l with
  | nil => intro _ _ r hr; cases hr
  | cons y l ih =>
    intro rest h r hr
    rw [runsFit, Bool.and_eq_true, Bool.and_eq_true] at h
    rcases List.mem_cons.1 hr with rfl | hr
    · exact h.1.1
    · exact ih _ h.2 r hr
theorem laidOk_mem {bars : List BarD} {runs : List RunD} (h : laidOk bars runs = true) : (∀ x ∈ bars, barOk x = true) ∧ runs.length ≤ 60 ∧ ∀ r ∈ runs, runOk bars r = true := by
  simp only [laidOk, Bool.and_eq_true, decide_eq_true_eq] at h
  exact ⟨schedOk_bars h.1.1, h.1.2, runsFit_mem runs 2000 h.2⟩
theorem countRuns_range : ∀ (l : List RunD), (∀ r ∈ l, 1 ≤ r.count ∧ r.count ≤ 1000) → 0 ≤ countRuns l ∧ countRuns l ≤ 1000 * l.length := by
  have key : ∀ q : List RunD, (∀ r ∈ q.reverse, 1 ≤ r.count ∧ r.count ≤ 1000) → 0 ≤ countRuns q.reverse ∧ countRuns q.reverse ≤ 1000 * q.reverse.length := by
    intro q
    induction q with
    | nil => intro _; simp [countRuns]
    | cons y q ih =>
      intro h
      rw [List.reverse_cons] at h ⊢
      have a := ih (fun z hz => h z (List.mem_append_left _ hz))
      have b := h y (by simp)
      rw [countRuns_snoc, List.length_append, List.length_singleton]
      omega
  intro l h
  have := key l.reverse
  rw [List.reverse_reverse] at this
  exact this h
set_option maxHeartbeats 1000000 in
theorem schedFind_any (A : Option Addr) (l : List BarD) (n c : Nat) (m : ByteArray) (w : World) {B : Nat} (h : BarsAt w B A l) (hB : B ≤ w.heap.size) (hn : n = l.length) (hm : n ≤ 60000) (htame : Tame l) (hok : schedOk l = true) (j : Nat) (hj : idx (markIs m) l = (j : Int)) :
    Calls Tryz.prog 128 #[.slice A n c, .string m] w fun e w' => e = .returned (.tuple #[.int .i64 j, .int .i64 0]) ∧ Below w.heap.size w w' := by
  have HS := schedValid_any A l n c w h hB hn htame hm
  rw [hok] at HS
  have HS := hide HS
  have HI := fun (W : World) (hz : Below w.heap.size w W) => schedIndex_any A l n c m W (h.carry (hz.mono hB) (Nat.le_refl _)) (Nat.le_trans hB hz.size) hn hm
  rw [hj] at HI
  have HI := hide HI
  have d0 : decide ((j : Int) < 0) = false := by simp
  clear h hB hn hm htame hok hj
  go_enter Tryz.func128, Tryz.ntmps128
  go_wp2_with fail
  refine HS.out.mono ?_
  rintro e w2 ⟨rfl, hb2⟩
  have Hb2 := hide hb2
  clear HS hb2
  go_wp2_with fail
  refine (HI.out _ Hb2.out).mono ?_
  rintro e w3 ⟨rfl, hb3⟩
  have Hb3 := hide (below_step Hb2.out hb3 (Nat.le_refl _))
  clear HI hb3 Hb2
  go_wp2_with fail
  go_ret2
  exact ⟨rfl, Hb3.out⟩
set_option maxHeartbeats 2000000 in
theorem laidCount_ok (A : Option Addr) (bars : List BarD) (n c : Nat) (A2 : Option Addr) (runs : List RunD) (n2 c2 : Nat) (w : World) {B : Nat} (h : BarsAt w B A bars) (h2 : RunsAt w B A2 runs) (hB : B ≤ w.heap.size) (hn : n = bars.length) (hn2 : n2 = runs.length) (hm : n ≤ 60000) (hm2 : n2 ≤ 60000) (htame : Tame bars) (hok : laidOk bars runs = true) :
    Calls Tryz.prog 274 #[.slice A n c, .slice A2 n2 c2] w fun e w' => e = .returned (.tuple #[.int .i64 (countRuns runs), .int .i64 0]) ∧ Below w.heap.size w w' := by
  have HV := laidValid_any A bars n c A2 runs n2 c2 w h h2 hB hn hn2 hm hm2 htame
  rw [hok] at HV
  have HV := hide HV
  obtain ⟨_, h60, hmem⟩ := laidOk_mem hok
  have hn60 : n2 ≤ 60 := by omega
  have Hc := hide (fun (r : RunD) (hr : r ∈ runs) => runOk_count (hmem r hr))
  have Hrg := hide (fun (k : Nat) => countRuns_range (runs.take k) (fun r hr => runOk_count (hmem r (List.mem_of_mem_take hr))))
  have H2 := hide h2
  have hn2' := hide hn2
  clear h h2 hn hn2 hm hm2 htame hok hmem h60
  go_enter Tryz.func274, Tryz.ntmps274
  go_wp2_with fail
  refine HV.out.mono ?_
  rintro e w2 ⟨rfl, hb2⟩
  have Hb2 := hide hb2
  clear HV hb2
  go_wp2_with fail
  go_loopw [6, 15] (fun v i wr => ∃ k : Nat, k ≤ n2 ∧ i = .int .i64 k ∧ (∃ t : Int, v = .int .i64 t ∧ Hid (t = countRuns (runs.take k))) ∧ Below w.heap.size w wr) (fun _ i _ => n2 - (intOf i).toNat)
  case atStart => exact ⟨0, Nat.zero_le _, rfl, ⟨0, rfl, hide rfl⟩, Hb2.out⟩
  case round =>
    clear Hb2
    obtain ⟨k, hk, rfl, ⟨t, rfl, ht⟩, hbr⟩ := hrel
    have hrg := Hrg.out k
    rw [← ht.out, List.length_take] at hrg
    by_cases hlt : k < n2
    · obtain ⟨b, off, r, rfl, hbl, hx, hc⟩ := RunsAt.get (k := k) (H2.out.carry (Flat.carried _) (hbr.mono hB) (Nat.le_refl _)) (by rw [← hn2'.out]; exact hlt)
      obtain ⟨hc0, hc1⟩ := Hc.out r (mem_of_get hx)
      have Hn := hide (show countRuns (runs.take (k + 1)) = t + r.count by rw [take_snoc' hx, countRuns_snoc, ht.out])
      obtain ⟨mark, tx, ty, ⟨a1, a2, a3⟩, ⟨s1, s2, s3⟩, cnt⟩ := r
      have p0 := hc 0 _ rfl
      have p1 := hc 1 _ rfl
      have p2 := hc 2 _ rfl
      have p3 := hc 3 _ rfl
      have p4 := hc 4 _ rfl
      have p5 := hc 5 _ rfl
      have p6 := hc 6 _ rfl
      have p7 := hc 7 _ rfl
      have p8 := hc 8 _ rfl
      have p9 := hc 9 _ rfl
      simp only [Nat.add_zero] at p0 p1 p2 p3 p4 p5 p6 p7 p8 p9 hc0 hc1 Hn
      clear hx hbl hc
      go_wp2_with fail
      go_roundw
      case rel => exact ⟨k + 1, by omega, by go_num, ⟨t + cnt, rfl, hide Hn.out.symm⟩, hbr.alloc hbr.size _⟩
      case measure => simp [intOf]; omega
    · obtain rfl : k = n2 := by omega
      have hf := hide (show t = countRuns runs by rw [ht.out, hn2'.out, List.take_length])
      go_wp2_with fail
      go_ret2
      exact ⟨by rw [hf.out]; rfl, hbr⟩
end Go.Proofs.YtkmpddaobncheaaGreatDoor
namespace Go.Proofs.YtkmpddaobncheaaGreatDoor
open Go.RowKit

def markAt : List RunD → Int → Option ByteArray
  | [], _ => none
  | r :: l, i => if i < r.count then some r.mark else markAt l (i - r.count)
set_option maxHeartbeats 2000000 in
theorem laidMark_ok (A : Option Addr) (bars : List BarD) (n c : Nat) (A2 : Option Addr) (runs : List RunD) (n2 c2 : Nat) (w : World) {B : Nat} (h : BarsAt w B A bars) (h2 : RunsAt w B A2 runs) (hB : B ≤ w.heap.size) (hn : n = bars.length) (hn2 : n2 = runs.length) (hm : n ≤ 60000) (hm2 : n2 ≤ 60000) (htame : Tame bars) (hok : laidOk bars runs = true) (i : Int) (m : ByteArray) (hi0 : 0 ≤ i) (hi1 : i ≤ 100000) (hmk : markAt runs i = some m) :
    Calls Tryz.prog 275 #[.slice A n c, .slice A2 n2 c2, .int .i64 i] w fun e w' => e = .returned (.tuple #[.string m, .int .i64 0]) ∧ Below w.heap.size w w' := by
  have HV := laidValid_any A bars n c A2 runs n2 c2 w h h2 hB hn hn2 hm hm2 htame
  rw [hok] at HV
  have HV := hide HV
  obtain ⟨_, h60, hmem⟩ := laidOk_mem hok
  have hn60 : n2 ≤ 60 := by omega
  have Hc := hide (fun (r : RunD) (hr : r ∈ runs) => runOk_count (hmem r hr))
  have Hmk := hide (show markAt (runs.drop 0) i = some m from hmk)
  have d0 : decide (i < 0) = false := by simp; omega
  have H2 := hide h2
  have hn2' := hide hn2
  clear h h2 hn hn2 hm hm2 htame hok hmem h60 hmk
  go_enter Tryz.func275, Tryz.ntmps275
  go_wp2_with fail
  refine HV.out.mono ?_
  rintro e w2 ⟨rfl, hb2⟩
  have Hb2 := hide hb2
  clear HV hb2
  go_wp2_with fail
  go_loopw [2, 18] (fun v i wr => ∃ k : Nat, k ≤ n2 ∧ i = .int .i64 k ∧ (∃ t : Int, v = .int .i64 t ∧ 0 ≤ t ∧ t ≤ 100000 ∧ Hid (markAt (runs.drop k) t = some m)) ∧ Below w.heap.size w wr) (fun _ i _ => n2 - (intOf i).toNat)
  case atStart => exact ⟨0, Nat.zero_le _, rfl, ⟨i, rfl, hi0, hi1, Hmk⟩, Hb2.out⟩
  case round =>
    clear Hb2
    obtain ⟨k, hk, rfl, ⟨t, rfl, ht0, ht1, ht⟩, hbr⟩ := hrel
    by_cases hlt : k < n2
    · obtain ⟨b, off, r, rfl, hbl, hx, hc⟩ := RunsAt.get (k := k) (H2.out.carry (Flat.carried _) (hbr.mono hB) (Nat.le_refl _)) (by rw [← hn2'.out]; exact hlt)
      obtain ⟨hc0, hc1⟩ := Hc.out r (mem_of_get hx)
      have Hn := hide (show (if t < r.count then some r.mark else markAt (runs.drop (k + 1)) (t - r.count)) = some m by rw [← ht.out, drop_at' hx, markAt])
      obtain ⟨mark, tx, ty, ⟨a1, a2, a3⟩, ⟨s1, s2, s3⟩, cnt⟩ := r
      have p0 := hc 0 _ rfl
      have p1 := hc 1 _ rfl
      have p2 := hc 2 _ rfl
      have p3 := hc 3 _ rfl
      have p4 := hc 4 _ rfl
      have p5 := hc 5 _ rfl
      have p6 := hc 6 _ rfl
      have p7 := hc 7 _ rfl
      have p8 := hc 8 _ rfl
      have p9 := hc 9 _ rfl
      simp only [Nat.add_zero] at p0 p1 p2 p3 p4 p5 p6 p7 p8 p9 hc0 hc1 Hn
      clear hx hbl hc
      by_cases htc : t < cnt
      · have d1 : decide (t < cnt) = true := by simpa using htc
        have hres := hide (show mark = m by have h9 := Hn.out; rw [if_pos htc] at h9; injection h9)
        go_wp2_with fail
        go_ret2
        exact ⟨by rw [← hres.out]; rfl, hbr.alloc hbr.size _⟩
      · have d1 : decide (t < cnt) = false := by simpa using htc
        have hres := hide (show markAt (runs.drop (k + 1)) (t - cnt) = some m by have h9 := Hn.out; rwa [if_neg htc] at h9)
        go_wp2_with fail
        go_roundw
        case rel => exact ⟨k + 1, by omega, by go_num, ⟨t - cnt, rfl, by omega, by omega, hres⟩, hbr.alloc hbr.size _⟩
        case measure => simp [intOf]; omega
    · obtain rfl : k = n2 := by omega
      have h9 := ht.out
      rw [hn2'.out, List.drop_length] at h9
      cases h9
end Go.Proofs.YtkmpddaobncheaaGreatDoor
namespace Go.Proofs.YtkmpddaobncheaaGreatDoor
open Go.RowKit

theorem toList_go (b : ByteArray) : ∀ (n i : Nat) (r : List UInt8), b.size - i = n → ByteArray.toList.loop b i r = r.reverse ++ b.data.toList.drop i := by
  intro n
  induction n with
  | zero =>
    intro i r h
    rw [ByteArray.toList.loop, if_neg (by omega)]
    rw [List.drop_eq_nil_of_le (by simp; exact Nat.le_of_sub_eq_zero h)]
    simp
  | succ n ih =>
    intro i r h
    have hi : i < b.size := by omega
    rw [ByteArray.toList.loop, if_pos hi, ih (i + 1) _ (by omega)]
    have hl : i < b.data.toList.length := by simpa using hi
    rw [List.drop_eq_getElem_cons hl]
    have : b.get! i = b.data.toList[i] := by simp [ByteArray.get!, hi]
    simp [this]
theorem toList_eq (b : ByteArray) : b.toList = b.data.toList := by
  rw [ByteArray.toList, toList_go b _ 0 [] rfl]
  simp
theorem toList_inj {a b : ByteArray} (h : (a.toList == b.toList) = true) : a = b := by
  rw [beq_iff_eq, toList_eq, toList_eq] at h
  obtain ⟨⟨x⟩⟩ := a
  obtain ⟨⟨y⟩⟩ := b
  simp only at h
  rw [h]
theorem markIs_eq {m : ByteArray} {x : BarD} (h : markIs m x = true) : m = x.mark := (toList_inj h).symm
theorem laidAll_split {bars : List BarD} {runs : List RunD} {j : Nat} {r : RunD} (h : runs[j]? = some r) : laidAll bars runs = laidAll bars (runs.take j) ++ (laidRun bars r ++ laidAll bars (runs.drop (j + 1))) := by
  conv => lhs; rw [← List.take_append_drop j runs, drop_at' h]
  simp [laidAll]
theorem laidAll_snoc {bars : List BarD} {runs : List RunD} {j : Nat} {r : RunD} (h : runs[j]? = some r) : laidAll bars (runs.take (j + 1)) = laidAll bars (runs.take j) ++ laidRun bars r := by
  rw [take_snoc' h]
  simp [laidAll]
/-- The first k bars of a run. -/
def laidTo (x : BarD) (r : RunD) (k : Nat) : List LaidD := (List.range k).map fun (j : Nat) => ⟨x, ptsOf x r j⟩
theorem laidTo_succ (x : BarD) (r : RunD) (k : Nat) : laidTo x r (k + 1) = laidTo x r k ++ [⟨x, ptsOf x r (k : Int)⟩] := by simp [laidTo, List.range_succ]
theorem laidTo_len (x : BarD) (r : RunD) (k : Nat) : (laidTo x r k).length = k := by simp [laidTo]
theorem laidRun_of {bars : List BarD} {r : RunD} {x : BarD} (h : runBar bars r = some x) : laidRun bars r = laidTo x r r.count.toNat := by
  simp [laidRun, h, laidTo]
/-- The laid bar that is the k-th one of the j-th run. -/
theorem laid_at {bars : List BarD} {runs : List RunD} {j k : Nat} {r : RunD} {x : BarD} (h : runs[j]? = some r) (hx : runBar bars r = some x) (hk : (k : Int) < r.count) :
    (laidAll bars runs)[(laidAll bars (runs.take j)).length + k]? = some ⟨x, ptsOf x r (k : Int)⟩ := by
  rw [laidAll_split h, List.getElem?_append_right (by omega), Nat.add_sub_cancel_left, laidRun_of hx]
  have hk' : k < r.count.toNat := by omega
  rw [List.getElem?_append_left (by rw [laidTo_len]; exact hk')]
  simp [laidTo, hk']
/-- What a valid run bears. -/
theorem runOk_bar {bars : List BarD} {r : RunD} (h : runOk bars r = true) : ∃ (j : Nat) (x : BarD), idx (markIs r.mark) bars = (j : Int) ∧ bars[j]? = some x ∧ runBar bars r = some x ∧ turnOk r.tx r.ty = true := by
  simp only [runOk, runHead, Bool.and_eq_true, decide_eq_true_eq] at h
  obtain ⟨⟨⟨⟨⟨⟨⟨h0, h1⟩, _⟩, _⟩, _⟩, _⟩, _⟩, _⟩ := h
  obtain ⟨j, hj⟩ := Int.eq_ofNat_of_zero_le h0
  obtain ⟨x, hx, _⟩ := idx_spec hj
  exact ⟨j, x, hj, hx, runBar_of hj hx, h1⟩
theorem runOk_near {bars : List BarD} {r : RunD} {x : BarD} (h : runOk bars r = true) (hx : runBar bars r = some x) {k : Int} (h0 : 0 ≤ k) (h1 : k < r.count) : ∀ p ∈ ptsOf x r k, nearBy 1048576 p = true := by
  simp only [runOk, Bool.and_eq_true] at h
  simp only [runPts, hx] at h
  exact run_near h.1.2 h.2 h0 (by omega)
theorem runOk_place {bars : List BarD} {r : RunD} (h : runOk bars r = true) : nearBy 1048576 r.place = true := by
  simp only [runOk, runHead, Bool.and_eq_true] at h
  exact h.1.1.1.2
theorem imgV_zero (x y : Int) : imgV x y (0, 0, 0) = (0, 0, 0) := by simp [imgV, linV]
/-- Where a laid bar begins. -/
theorem runOk_at {bars : List BarD} {r : RunD} {x : BarD} (h : runOk bars r = true) (hx : runBar bars r = some x) {k : Int} (h0 : 0 ≤ k) (h1 : k < r.count) : nearBy 1048576 (addP r.place (mulP k r.step)) = true := by
  refine runOk_near h hx h0 h1 _ (List.mem_map.2 ⟨(0, 0, 0), mem_of_get (pathOf_zero x), ?_⟩)
  rw [imgV_zero]
  simp [addP]
theorem ptsOf_eq (x : BarD) (r : RunD) (k : Int) : ptsOf x r k = (pathOf x).map fun p => addP (addP r.place (mulP k r.step)) (imgV r.tx r.ty p) := by
  unfold ptsOf
  apply List.map_congr_left
  intro p _
  simp only [addP]
  refine Prod.ext ?_ (Prod.ext ?_ ?_) <;> simp only <;> omega
theorem laidAll_len {bars : List BarD} : ∀ (runs : List RunD), (∀ r ∈ runs, runOk bars r = true) → ((laidAll bars runs).length : Int) = countRuns runs := by
  have key : ∀ q : List RunD, (∀ r ∈ q.reverse, runOk bars r = true) → ((laidAll bars q.reverse).length : Int) = countRuns q.reverse := by
    intro q
    induction q with
    | nil => intro _; rfl
    | cons y q ih =>
      intro h
      rw [List.reverse_cons] at h ⊢
      have a := ih (fun z hz => h z (List.mem_append_left _ hz))
      have b := h y (by simp)
      obtain ⟨j, x, _, _, hx, _⟩ := runOk_bar b
      have hc := runOk_count b
      have e : laidAll bars (q.reverse ++ [y]) = laidAll bars q.reverse ++ laidRun bars y := by simp [laidAll]
      rw [countRuns_snoc, e, List.length_append, laidRun_of hx, laidTo_len]
      omega
  intro runs h
  have := key runs.reverse
  rw [List.reverse_reverse] at this
  exact this h
theorem laidAll_mark {bars : List BarD} : ∀ (runs : List RunD) (i : Nat) (l : LaidD), (∀ r ∈ runs, runOk bars r = true) → (laidAll bars runs)[i]? = some l → markAt runs (i : Int) = some l.bar.mark := by
  intro runs
  induction runs with
  | nil => intro i l _ h; simp [laidAll] at h
  | cons r runs ih =>
    intro i l hok h
    obtain ⟨j, x, hj, hx', hx, _⟩ := runOk_bar (hok r (by simp))
    have hc := runOk_count (hok r (by simp))
    have e : laidAll bars (r :: runs) = laidTo x r r.count.toNat ++ laidAll bars runs := by rw [← laidRun_of hx]; simp [laidAll]
    rw [e] at h
    rw [markAt]
    by_cases hi : (i : Int) < r.count
    · rw [if_pos hi]
      rw [List.getElem?_append_left (by rw [laidTo_len]; omega)] at h
      have : l.bar = x := by
        simp [laidTo] at h
        obtain ⟨k, _, h⟩ := h
        rw [← h]
      rw [this]
      obtain ⟨y, hy, hm, _⟩ := idx_spec hj
      rw [hx'] at hy
      injection hy with hy
      subst hy
      rw [markIs_eq hm]
    · rw [if_neg hi]
      rw [List.getElem?_append_right (by rw [laidTo_len]; omega), laidTo_len] at h
      have := ih (i - r.count.toNat) l (fun z hz => hok z (List.mem_cons_of_mem _ hz)) h
      rw [← this]
      congr 1
      omega
theorem laidOk_len {bars : List BarD} {runs : List RunD} (h : laidOk bars runs = true) : ((laidAll bars runs).length : Int) = countRuns runs ∧ (laidAll bars runs).length ≤ 2000 := by
  have h1 := (laidOk_mem h).2.2
  have h2 := laidAll_len runs h1
  refine ⟨h2, ?_⟩
  have key : ∀ (l : List RunD) (rest : Int), 0 ≤ rest → runsFit bars rest l = true → ((laidAll bars l).length : Int) ≤ rest := by
    intro l
    induction l with
    | nil => intro rest h0 _; simpa [laidAll] using h0
    | cons r l ih =>
      intro rest h0 hf
      rw [runsFit, Bool.and_eq_true, Bool.and_eq_true, decide_eq_true_eq] at hf
      obtain ⟨⟨a, b⟩, c⟩ := hf
      obtain ⟨_, x, _, _, hx, _⟩ := runOk_bar a
      have hc := runOk_count a
      have e : laidAll bars (r :: l) = laidTo x r r.count.toNat ++ laidAll bars l := by rw [← laidRun_of hx]; simp [laidAll]
      have := ih (rest - r.count) (by omega) c
      rw [e, List.length_append, laidTo_len]
      omega
  simp only [laidOk, Bool.and_eq_true] at h
  have := key runs 2000 (by omega) h.2
  omega
end Go.Proofs.YtkmpddaobncheaaGreatDoor
