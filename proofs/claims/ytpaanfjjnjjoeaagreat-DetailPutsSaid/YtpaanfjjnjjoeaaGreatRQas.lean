/- Whether a schedule and runs are valid together; the line of a mark in a valid schedule. -/
import Derived.Test.YtpaanfjjnjjoeaaGreatRQar
import Derived.Test.YtpaanfjjnjjoeaaGreatRQag
import Derived.Test.YtpaanfjjnjjoeaaGreatRQaa
import Derived.Test.YtpaanfjjnjjoeaaGreatRQae
import Derived.Lib.QuietBelow
namespace Go.Proofs.YtpaanfjjnjjoeaaGreat
open Go.RowKit
theorem runsFit_at {bars : List BarD} {runs : List RunD} {k : Nat} {r : RunD} (h : runs[k]? = some r) (rest : Int) : runsFit bars rest (runs.drop k) = (runOk bars r && decide (r.count ≤ rest) && runsFit bars (rest - r.count) (runs.drop (k + 1))) := by
 rw [drop_at' h, runsFit]
theorem runOk_count {bars : List BarD} {r : RunD} (h : runOk bars r = true) : 1 ≤ r.count ∧ r.count ≤ 1000 := by
 simp only [runOk, runHead, Bool.and_eq_true, zzJ] at h
 exact ⟨h.1.1.1.1.1.2, h.1.1.1.1.2⟩
theorem schedFrom_ok : ∀ (l r : List BarD) (k : Nat), schedFrom l k r = true → ∀ x ∈ r, barOk x = true := by
 intro l r
 induction r with
 | nil => intro _ _ x hx; cases hx
 | cons y r ih =>
  intro k h x hx
  rw [schedFrom, Bool.and_eq_true, Bool.and_eq_true] at h
  rcases List.mem_cons.1 hx with rfl | hx
  ·exact h.1.1
  ·exact ih _ h.2 x hx
theorem schedOk_bars {l : List BarD} (h : schedOk l = true) : ∀ x ∈ l, barOk x = true := by
 rw [schedOk, Bool.and_eq_true] at h
 exact schedFrom_ok l l 0 h.2
set_option maxHeartbeats 4000000 in
set_option maxRecDepth 100000 in
theorem laidValid_any (A : Option Addr) (bars : List BarD) (n c : Nat) (A2 : Option Addr) (runs : List RunD) (n2 c2 : Nat) (w : World) {B : Nat} (h : BarsAt w B A bars) (h2 : RunsAt w B A2 runs) (hB : B ≤ w.heap.size) (hn : n = bars.length) (hn2 : n2 = runs.length) (hm : n ≤ 60000) (hm2 : n2 ≤ 60000) (htame : Tame bars) :
  Calls Tryz.prog 53 #[.slice A n c, .slice A2 n2 c2] w fun e w' => e = .returned (.bool (laidOk bars runs)) ∧ Below w.heap.size w w' := by
 have HS := schedValid_any A bars n c w h hB hn htame hm
 cases hs : schedOk bars
 ·have hres := hide (show laidOk bars runs = false by rw [laidOk, hs]; rfl)
  rw [hs] at HS
  have HS := hide HS
  clear h h2 hB hn hn2 hm hm2 htame hs
  go_enter Tryz.func53, Tryz.ntmps53
  go_wp2_with fail
  refine HS.out.mono ?_
  rintro e w2 ⟨rfl, hb2⟩
  clear HS
  go_wp2_with fail
  go_ret
  exact ⟨ret_bool hres.out.symm, hb2⟩
 rw [hs] at HS
 have HS := hide HS
 have hbars := schedOk_bars hs
 by_cases h60 : 60 < n2
 ·have hres := hide (show laidOk bars runs = false by rw [laidOk, decide_eq_false (by omega)]; simp)
  have d0 : decide (60 < (n2 : Int)) = true := by simp; omega
  clear h h2 hB hn hn2 hm hm2 htame hs h60 hbars
  go_enter Tryz.func53, Tryz.ntmps53
  go_wp2_with fail
  refine HS.out.mono ?_
  rintro e w2 ⟨rfl, hb2⟩
  clear HS
  go_wp2_with fail
  go_ret
  exact ⟨ret_bool hres.out.symm, hb2⟩
 have Hr := hide (show laidOk bars runs = runsFit bars 2000 (runs.drop 0) by rw [laidOk, hs, decide_eq_true (by omega)]; rfl)
 have d0 : decide (60 < (n2 : Int)) = false := by simp; omega
 have HR := hide (fun (r : RunD) (W : World) (hz : Below w.heap.size w W) => right_any A bars n c r W (h.carry (hz.mono hB) (Nat.le_refl _)) (Nat.le_trans hB hz.size) hn hm htame hbars)
 have H2 := hide h2
 have hn2' := hide hn2
 have hn60 : n2 ≤ 60 := by omega
 clear h h2 hn hn2 hm hm2 htame hs h60 hbars
 go_enter Tryz.func53, Tryz.ntmps53
 go_wp2_with fail
 refine HS.out.mono ?_
 rintro e w2 ⟨rfl, hb2⟩
 have Hb2 := hide hb2
 clear HS hb2
 go_wp2_with fail
 go_loopw [5, 18] (fun v i wr => ∃ k : Nat, k ≤ n2 ∧ i = .int .i64 k ∧ (∃ rest : Int, v = .int .i64 rest ∧ 0 ≤ rest ∧ rest ≤ 2000 ∧ Hid (laidOk bars runs = runsFit bars rest (runs.drop k))) ∧ Below w.heap.size w wr) (fun _ i _ => n2 - (intOf i).toNat)
 case atStart => exact ⟨0, Nat.zero_le _, rfl, ⟨2000, rfl, by omega, by omega, Hr⟩, Hb2.out⟩
 case round =>
  clear Hb2 Hr
  obtain ⟨k, hk, rfl, ⟨rest, rfl, hr0, hr1, hq⟩, hbr⟩ := hrel
  by_cases hlt : k < n2
  ·obtain ⟨b, off, r, rfl, hbl, hx, hc⟩ := RunsAt.get (k := k) (H2.out.carry (Flat.carried _) (hbr.mono hB) (Nat.le_refl _)) (by rw [← hn2'.out]; exact hlt)
   have hbw : b < wr.heap.size := by have := hbr.size; omega
   have Hq := hide (hq.out.trans (runsFit_at hx rest))
   have Hcnt := hide (fun (h : runOk bars r = true) => runOk_count h)
   have HRr := hide (HR.out r)
   obtain ⟨ok, hok⟩ : ∃ ok, ok = runOk bars r := ⟨_, rfl⟩
   rw [← hok] at Hq HRr Hcnt
   obtain ⟨mark, tx, ty, ⟨a1, a2, a3⟩, ⟨s1, s2, s3⟩, cnt⟩ := r
   have p0 := hc 0 _ rfl
   have p1 := hc 1 _ rfl
   have p2 := hc 2 _ rfl
   have p3 := hc 3 _ rfl
   have p4 := hc 4 _ rfl
   have p5 := hc 5 _ rfl
   have p6 := hc 6 _ rfl
   have p7 := hc 7 _ rfl
   have p8 := hc 8 _ rfl
   have p9 := hc 9 _ rfl
   simp only [Nat.add_zero] at p0 p1 p2 p3 p4 p5 p6 p7 p8 p9 HRr Hq Hcnt
   clear hx hbl hc hq hok
   go_wp2_with fail
   have HWn := hide (hbr.alloc hbr.size (.cells #[.string mark, .int .i64 tx, .int .i64 ty, .int .i64 a1, .int .i64 a2, .int .i64 a3, .int .i64 s1, .int .i64 s2, .int .i64 s3, .int .i64 cnt] 66))
   have KN := hide (Blk.new wr 66 #[.string mark, .int .i64 tx, .int .i64 ty, .int .i64 a1, .int .i64 a2, .int .i64 a3, .int .i64 s1, .int .i64 s2, .int .i64 s3, .int .i64 cnt])
   refine (HRr.out _ HWn.out).mono ?_
   rintro e w3 ⟨rfl, hb3⟩
   have k0 := KN.out.keep hb3
   have e9 := k0.cell 9
   simp at e9
   have HW3 := hide (below_step HWn.out hb3 (Nat.le_refl _))
   clear hb3 k0 KN HWn HRr p0 p1 p2 p3 p4 p5 p6 p7 p8 p9
   cases ok
   ·have hres := hide (show laidOk bars runs = false by rw [Hq.out]; rfl)
    go_wp2_with fail
    go_ret
    exact ⟨ret_bool hres.out.symm, HW3.out⟩
   ·obtain ⟨hc0, hc1⟩ := Hcnt.out rfl
    by_cases hcr : rest < cnt
    ·have d1 : decide (rest < cnt) = true := by simpa using hcr
     have hres := hide (show laidOk bars runs = false by rw [Hq.out, decide_eq_false (by omega)]; rfl)
     go_wp2_with fail
     go_ret
     exact ⟨ret_bool hres.out.symm, HW3.out⟩
    ·have d1 : decide (rest < cnt) = false := by simpa using hcr
     have Hq2 := hide (show laidOk bars runs = runsFit bars (rest - cnt) (runs.drop (k + 1)) by rw [Hq.out, decide_eq_true (by omega)]; rfl)
     clear Hq
     go_wp2_with fail
     go_roundw
     case rel => exact ⟨k + 1, by omega, by go_num, ⟨rest - cnt, rfl, by omega, by omega, Hq2⟩, HW3.out⟩
     case measure => simp [intOf]; omega
  ·obtain rfl : k = n2 := by omega
   have hfull := hide (show laidOk bars runs = true by rw [hq.out, hn2'.out, List.drop_length]; rfl)
   go_wp2_with fail
   go_ret
   exact ⟨ret_bool hfull.out.symm, hbr⟩
def countRuns (l : List RunD) : Int := l.foldl (fun s r => s + r.count) 0
theorem countRuns_snoc (l : List RunD) (r : RunD) : countRuns (l ++ [r]) = countRuns l + r.count := by simp [countRuns]
theorem runsFit_mem {bars : List BarD} : ∀ (l : List RunD) (rest : Int), runsFit bars rest l = true → ∀ r ∈ l, runOk bars r = true := by
 intro l
 induction l with
 | nil => intro _ _ r hr; cases hr
 | cons y l ih =>
  intro rest h r hr
  rw [runsFit, Bool.and_eq_true, Bool.and_eq_true] at h
  rcases List.mem_cons.1 hr with rfl | hr
  ·exact h.1.1
  ·exact ih _ h.2 r hr
theorem laidOk_mem {bars : List BarD} {runs : List RunD} (h : laidOk bars runs = true) : (∀ x ∈ bars, barOk x = true) ∧ runs.length ≤ 60 ∧ ∀ r ∈ runs, runOk bars r = true := by
 simp only [laidOk, Bool.and_eq_true, zzJ] at h
 exact ⟨schedOk_bars h.1.1, h.1.2, runsFit_mem runs 2000 h.2⟩
theorem countRuns_range : ∀ (l : List RunD), (∀ r ∈ l, 1 ≤ r.count ∧ r.count ≤ 1000) → 0 ≤ countRuns l ∧ countRuns l ≤ 1000 * l.length := by
 have key : ∀ q : List RunD, (∀ r ∈ q.reverse, 1 ≤ r.count ∧ r.count ≤ 1000) → 0 ≤ countRuns q.reverse ∧ countRuns q.reverse ≤ 1000 * q.reverse.length := by
  intro q
  induction q with
  | nil => intro _; simp [countRuns]
  | cons y q ih =>
   intro h
   rw [List.reverse_cons] at h ⊢
   have a := ih (fun z hz => h z (List.mem_append_left _ hz))
   have b := h y (by simp)
   rw [countRuns_snoc, List.length_append, List.length_singleton]
   omega
 intro l h
 have := key l.reverse
 rw [List.reverse_reverse] at this
 exact this h
set_option maxHeartbeats 1000000 in
theorem schedFind_any (A : Option Addr) (l : List BarD) (n c : Nat) (m : ByteArray) (w : World) {B : Nat} (h : BarsAt w B A l) (hB : B ≤ w.heap.size) (hn : n = l.length) (hm : n ≤ 60000) (htame : Tame l) (hok : schedOk l = true) (j : Nat) (hj : idx (markIs m) l = (j : Int)) :
  Calls Tryz.prog 188 #[.slice A n c, .string m] w fun e w' => e = .returned (.tuple #[.int .i64 j, .int .i64 0]) ∧ Below w.heap.size w w' := by
 have HS := schedValid_any A l n c w h hB hn htame hm
 rw [hok] at HS
 have HS := hide HS
 have HI := fun (W : World) (hz : Below w.heap.size w W) => schedIndex_any A l n c m W (h.carry (hz.mono hB) (Nat.le_refl _)) (Nat.le_trans hB hz.size) hn hm
 rw [hj] at HI
 have HI := hide HI
 have d0 : decide ((j : Int) < 0) = false := by simp
 clear h hB hn hm htame hok hj
 go_enter Tryz.func188, Tryz.ntmps188
 go_wp2_with fail
 refine HS.out.mono ?_
 rintro e w2 ⟨rfl, hb2⟩
 have Hb2 := hide hb2
 clear HS hb2
 go_wp2_with fail
 refine (HI.out _ Hb2.out).mono ?_
 rintro e w3 ⟨rfl, hb3⟩
 have Hb3 := hide (below_step Hb2.out hb3 (Nat.le_refl _))
 clear HI hb3 Hb2
 go_wp2_with fail
 go_ret2
 exact ⟨rfl, Hb3.out⟩
set_option maxHeartbeats 2000000 in
theorem laidCount_ok (A : Option Addr) (bars : List BarD) (n c : Nat) (A2 : Option Addr) (runs : List RunD) (n2 c2 : Nat) (w : World) {B : Nat} (h : BarsAt w B A bars) (h2 : RunsAt w B A2 runs) (hB : B ≤ w.heap.size) (hn : n = bars.length) (hn2 : n2 = runs.length) (hm : n ≤ 60000) (hm2 : n2 ≤ 60000) (htame : Tame bars) (hok : laidOk bars runs = true) :
  Calls Tryz.prog 31 #[.slice A n c, .slice A2 n2 c2] w fun e w' => e = .returned (.tuple #[.int .i64 (countRuns runs), .int .i64 0]) ∧ Below w.heap.size w w' := by
 have HV := laidValid_any A bars n c A2 runs n2 c2 w h h2 hB hn hn2 hm hm2 htame
 rw [hok] at HV
 have HV := hide HV
 obtain ⟨_, h60, hmem⟩ := laidOk_mem hok
 have hn60 : n2 ≤ 60 := by omega
 have Hc := hide (fun (r : RunD) (hr : r ∈ runs) => runOk_count (hmem r hr))
 have Hrg := hide (fun (k : Nat) => countRuns_range (runs.take k) (fun r hr => runOk_count (hmem r (List.mem_of_mem_take hr))))
 have H2 := hide h2
 have hn2' := hide hn2
 clear h h2 hn hn2 hm hm2 htame hok hmem h60
 go_enter Tryz.func31, Tryz.ntmps31
 go_wp2_with fail
 refine HV.out.mono ?_
 rintro e w2 ⟨rfl, hb2⟩
 have Hb2 := hide hb2
 clear HV hb2
 go_wp2_with fail
 go_loopw [6, 15] (fun v i wr => ∃ k : Nat, k ≤ n2 ∧ i = .int .i64 k ∧ (∃ t : Int, v = .int .i64 t ∧ Hid (t = countRuns (runs.take k))) ∧ Below w.heap.size w wr) (fun _ i _ => n2 - (intOf i).toNat)
 case atStart => exact ⟨0, Nat.zero_le _, rfl, ⟨0, rfl, hide rfl⟩, Hb2.out⟩
 case round =>
  clear Hb2
  obtain ⟨k, hk, rfl, ⟨t, rfl, ht⟩, hbr⟩ := hrel
  have hrg := Hrg.out k
  rw [← ht.out, List.length_take] at hrg
  by_cases hlt : k < n2
  ·obtain ⟨b, off, r, rfl, hbl, hx, hc⟩ := RunsAt.get (k := k) (H2.out.carry (Flat.carried _) (hbr.mono hB) (Nat.le_refl _)) (by rw [← hn2'.out]; exact hlt)
   obtain ⟨hc0, hc1⟩ := Hc.out r (mem_of_get hx)
   have Hn := hide (show countRuns (runs.take (k + 1)) = t + r.count by rw [take_snoc' hx, countRuns_snoc, ht.out])
   obtain ⟨mark, tx, ty, ⟨a1, a2, a3⟩, ⟨s1, s2, s3⟩, cnt⟩ := r
   have p0 := hc 0 _ rfl
   have p1 := hc 1 _ rfl
   have p2 := hc 2 _ rfl
   have p3 := hc 3 _ rfl
   have p4 := hc 4 _ rfl
   have p5 := hc 5 _ rfl
   have p6 := hc 6 _ rfl
   have p7 := hc 7 _ rfl
   have p8 := hc 8 _ rfl
   have p9 := hc 9 _ rfl
   simp only [Nat.add_zero] at p0 p1 p2 p3 p4 p5 p6 p7 p8 p9 hc0 hc1 Hn
   clear hx hbl hc
   go_wp2_with fail
   go_roundw
   case rel => exact ⟨k + 1, by omega, by go_num, ⟨t + cnt, rfl, hide Hn.out.symm⟩, hbr.alloc hbr.size _⟩
   case measure => simp [intOf]; omega
  ·obtain rfl : k = n2 := by omega
   have hf := hide (show t = countRuns runs by rw [ht.out, hn2'.out, List.take_length])
   go_wp2_with fail
   go_ret2
   exact ⟨by rw [hf.out]; rfl, hbr⟩
def markAt : List RunD → Int → Option ByteArray
 | [], _ => none
 | r :: l, i => if i < r.count then some r.mark else markAt l (i - r.count)
set_option maxHeartbeats 2000000 in
theorem laidMark_ok (A : Option Addr) (bars : List BarD) (n c : Nat) (A2 : Option Addr) (runs : List RunD) (n2 c2 : Nat) (w : World) {B : Nat} (h : BarsAt w B A bars) (h2 : RunsAt w B A2 runs) (hB : B ≤ w.heap.size) (hn : n = bars.length) (hn2 : n2 = runs.length) (hm : n ≤ 60000) (hm2 : n2 ≤ 60000) (htame : Tame bars) (hok : laidOk bars runs = true) (i : Int) (m : ByteArray) (hi0 : 0 ≤ i) (hi1 : i ≤ 100000) (hmk : markAt runs i = some m) :
  Calls Tryz.prog 114 #[.slice A n c, .slice A2 n2 c2, .int .i64 i] w fun e w' => e = .returned (.tuple #[.string m, .int .i64 0]) ∧ Below w.heap.size w w' := by
 have HV := laidValid_any A bars n c A2 runs n2 c2 w h h2 hB hn hn2 hm hm2 htame
 rw [hok] at HV
 have HV := hide HV
 obtain ⟨_, h60, hmem⟩ := laidOk_mem hok
 have hn60 : n2 ≤ 60 := by omega
 have Hc := hide (fun (r : RunD) (hr : r ∈ runs) => runOk_count (hmem r hr))
 have Hmk := hide (show markAt (runs.drop 0) i = some m from hmk)
 have d0 : decide (i < 0) = false := by simp; omega
 have H2 := hide h2
 have hn2' := hide hn2
 clear h h2 hn hn2 hm hm2 htame hok hmem h60 hmk
 go_enter Tryz.func114, Tryz.ntmps114
 go_wp2_with fail
 refine HV.out.mono ?_
 rintro e w2 ⟨rfl, hb2⟩
 have Hb2 := hide hb2
 clear HV hb2
 go_wp2_with fail
 go_loopw [2, 18] (fun v i wr => ∃ k : Nat, k ≤ n2 ∧ i = .int .i64 k ∧ (∃ t : Int, v = .int .i64 t ∧ 0 ≤ t ∧ t ≤ 100000 ∧ Hid (markAt (runs.drop k) t = some m)) ∧ Below w.heap.size w wr) (fun _ i _ => n2 - (intOf i).toNat)
 case atStart => exact ⟨0, Nat.zero_le _, rfl, ⟨i, rfl, hi0, hi1, Hmk⟩, Hb2.out⟩
 case round =>
  clear Hb2
  obtain ⟨k, hk, rfl, ⟨t, rfl, ht0, ht1, ht⟩, hbr⟩ := hrel
  by_cases hlt : k < n2
  ·obtain ⟨b, off, r, rfl, hbl, hx, hc⟩ := RunsAt.get (k := k) (H2.out.carry (Flat.carried _) (hbr.mono hB) (Nat.le_refl _)) (by rw [← hn2'.out]; exact hlt)
   obtain ⟨hc0, hc1⟩ := Hc.out r (mem_of_get hx)
   have Hn := hide (show (if t < r.count then some r.mark else markAt (runs.drop (k + 1)) (t - r.count)) = some m by rw [← ht.out, drop_at' hx, markAt])
   obtain ⟨mark, tx, ty, ⟨a1, a2, a3⟩, ⟨s1, s2, s3⟩, cnt⟩ := r
   have p0 := hc 0 _ rfl
   have p1 := hc 1 _ rfl
   have p2 := hc 2 _ rfl
   have p3 := hc 3 _ rfl
   have p4 := hc 4 _ rfl
   have p5 := hc 5 _ rfl
   have p6 := hc 6 _ rfl
   have p7 := hc 7 _ rfl
   have p8 := hc 8 _ rfl
   have p9 := hc 9 _ rfl
   simp only [Nat.add_zero] at p0 p1 p2 p3 p4 p5 p6 p7 p8 p9 hc0 hc1 Hn
   clear hx hbl hc
   by_cases htc : t < cnt
   ·have d1 : decide (t < cnt) = true := by simpa using htc
    have hres := hide (show mark = m by have h9 := Hn.out; rw [if_pos htc] at h9; injection h9)
    go_wp2_with fail
    go_ret2
    exact ⟨by rw [← hres.out]; rfl, hbr.alloc hbr.size _⟩
   ·have d1 : decide (t < cnt) = false := by simpa using htc
    have hres := hide (show markAt (runs.drop (k + 1)) (t - cnt) = some m by have h9 := Hn.out; rwa [if_neg htc] at h9)
    go_wp2_with fail
    go_roundw
    case rel => exact ⟨k + 1, by omega, by go_num, ⟨t - cnt, rfl, by omega, by omega, hres⟩, hbr.alloc hbr.size _⟩
    case measure => simp [intOf]; omega
  ·obtain rfl : k = n2 := by omega
   have h9 := ht.out
   rw [hn2'.out, List.drop_length] at h9
   cases h9
theorem toList_go (b : ByteArray) : ∀ (n i : Nat) (r : List UInt8), b.size - i = n → ByteArray.toList.loop b i r = r.reverse ++ b.data.toList.drop i := by
 intro n
 induction n with
 | zero =>
  intro i r h
  rw [ByteArray.toList.loop, if_neg (by omega)]
  rw [List.drop_eq_nil_of_le (by simp; exact Nat.le_of_sub_eq_zero h)]
  simp
 | succ n ih =>
  intro i r h
  have hi : i < b.size := by omega
  rw [ByteArray.toList.loop, if_pos hi, ih (i + 1) _ (by omega)]
  have hl : i < b.data.toList.length := by simpa using hi
  rw [List.drop_eq_getElem_cons hl]
  have : b.get! i = b.data.toList[i] := by simp [ByteArray.get!, hi]
  simp [this]
theorem toList_eq (b : ByteArray) : b.toList = b.data.toList := by
 rw [ByteArray.toList, toList_go b _ 0 [] rfl]
 simp
theorem toList_inj {a b : ByteArray} (h : (a.toList == b.toList) = true) : a = b := by
 rw [beq_iff_eq, toList_eq, toList_eq] at h
 obtain ⟨⟨x⟩⟩ := a
 obtain ⟨⟨y⟩⟩ := b
 simp only at h
 rw [h]
theorem markIs_eq {m : ByteArray} {x : BarD} (h : markIs m x = true) : m = x.mark := (toList_inj h).symm
theorem laidAll_split {bars : List BarD} {runs : List RunD} {j : Nat} {r : RunD} (h : runs[j]? = some r) : laidAll bars runs = laidAll bars (runs.take j) ++ (laidRun bars r ++ laidAll bars (runs.drop (j + 1))) := by
 conv => lhs; rw [← List.take_append_drop j runs, drop_at' h]
 simp [laidAll]
theorem laidAll_snoc {bars : List BarD} {runs : List RunD} {j : Nat} {r : RunD} (h : runs[j]? = some r) : laidAll bars (runs.take (j + 1)) = laidAll bars (runs.take j) ++ laidRun bars r := by
 rw [take_snoc' h]
 simp [laidAll]
def laidTo (x : BarD) (r : RunD) (k : Nat) : List LaidD := (List.range k).map fun (j : Nat) => ⟨x, ptsOf x r j⟩
theorem laidTo_succ (x : BarD) (r : RunD) (k : Nat) : laidTo x r (k + 1) = laidTo x r k ++ [⟨x, ptsOf x r (k : Int)⟩] := by simp [laidTo, List.range_succ]
theorem laidTo_len (x : BarD) (r : RunD) (k : Nat) : (laidTo x r k).length = k := by simp [laidTo]
theorem laidRun_of {bars : List BarD} {r : RunD} {x : BarD} (h : runBar bars r = some x) : laidRun bars r = laidTo x r r.count.toNat := by
 simp [laidRun, h, laidTo]
theorem laid_at {bars : List BarD} {runs : List RunD} {j k : Nat} {r : RunD} {x : BarD} (h : runs[j]? = some r) (hx : runBar bars r = some x) (hk : (k : Int) < r.count) :
  (laidAll bars runs)[(laidAll bars (runs.take j)).length + k]? = some ⟨x, ptsOf x r (k : Int)⟩ := by
 rw [laidAll_split h, List.getElem?_append_right (by omega), Nat.add_sub_cancel_left, laidRun_of hx]
 have hk' : k < r.count.toNat := by omega
 rw [List.getElem?_append_left (by rw [laidTo_len]; exact hk')]
 simp [laidTo, hk']
theorem runOk_bar {bars : List BarD} {r : RunD} (h : runOk bars r = true) : ∃ (j : Nat) (x : BarD), idx (markIs r.mark) bars = (j : Int) ∧ bars[j]? = some x ∧ runBar bars r = some x ∧ turnOk r.tx r.ty = true := by
 simp only [runOk, runHead, Bool.and_eq_true, zzJ] at h
 obtain ⟨⟨⟨⟨⟨⟨⟨h0, h1⟩, _⟩, _⟩, _⟩, _⟩, _⟩, _⟩ := h
 obtain ⟨j, hj⟩ := Int.eq_ofNat_of_zero_le h0
 obtain ⟨x, hx, _⟩ := idx_spec hj
 exact ⟨j, x, hj, hx, runBar_of hj hx, h1⟩
theorem runOk_near {bars : List BarD} {r : RunD} {x : BarD} (h : runOk bars r = true) (hx : runBar bars r = some x) {k : Int} (h0 : 0 ≤ k) (h1 : k < r.count) : ∀ p ∈ ptsOf x r k, nearBy 1048576 p = true := by
 simp only [runOk, Bool.and_eq_true] at h
 simp only [runPts, hx] at h
 exact run_near h.1.2 h.2 h0 (by omega)
theorem runOk_place {bars : List BarD} {r : RunD} (h : runOk bars r = true) : nearBy 1048576 r.place = true := by
 simp only [runOk, runHead, Bool.and_eq_true] at h
 exact h.1.1.1.2
theorem imgV_zero (x y : Int) : imgV x y (0, 0, 0) = (0, 0, 0) := by simp [imgV, linV]
theorem runOk_at {bars : List BarD} {r : RunD} {x : BarD} (h : runOk bars r = true) (hx : runBar bars r = some x) {k : Int} (h0 : 0 ≤ k) (h1 : k < r.count) : nearBy 1048576 (addP r.place (mulP k r.step)) = true := by
 refine runOk_near h hx h0 h1 _ (List.mem_map.2 ⟨(0, 0, 0), mem_of_get (pathOf_zero x), ?_⟩)
 rw [imgV_zero]
 simp [addP]
theorem ptsOf_eq (x : BarD) (r : RunD) (k : Int) : ptsOf x r k = (pathOf x).map fun p => addP (addP r.place (mulP k r.step)) (imgV r.tx r.ty p) := by
 unfold ptsOf
 apply List.map_congr_left
 intro p _
 simp only [addP]
 refine Prod.ext ?_ (Prod.ext ?_ ?_) <;> simp only <;> omega
theorem laidAll_len {bars : List BarD} : ∀ (runs : List RunD), (∀ r ∈ runs, runOk bars r = true) → ((laidAll bars runs).length : Int) = countRuns runs := by
 have key : ∀ q : List RunD, (∀ r ∈ q.reverse, runOk bars r = true) → ((laidAll bars q.reverse).length : Int) = countRuns q.reverse := by
  intro q
  induction q with
  | nil => intro _; rfl
  | cons y q ih =>
   intro h
   rw [List.reverse_cons] at h ⊢
   have a := ih (fun z hz => h z (List.mem_append_left _ hz))
   have b := h y (by simp)
   obtain ⟨j, x, _, _, hx, _⟩ := runOk_bar b
   have hc := runOk_count b
   have e : laidAll bars (q.reverse ++ [y]) = laidAll bars q.reverse ++ laidRun bars y := by simp [laidAll]
   rw [countRuns_snoc, e, List.length_append, laidRun_of hx, laidTo_len]
   omega
 intro runs h
 have := key runs.reverse
 rw [List.reverse_reverse] at this
 exact this h
theorem laidAll_mark {bars : List BarD} : ∀ (runs : List RunD) (i : Nat) (l : LaidD), (∀ r ∈ runs, runOk bars r = true) → (laidAll bars runs)[i]? = some l → markAt runs (i : Int) = some l.bar.mark := by
 intro runs
 induction runs with
 | nil => intro i l _ h; simp [laidAll] at h
 | cons r runs ih =>
  intro i l hok h
  obtain ⟨j, x, hj, hx', hx, _⟩ := runOk_bar (hok r (by simp))
  have hc := runOk_count (hok r (by simp))
  have e : laidAll bars (r :: runs) = laidTo x r r.count.toNat ++ laidAll bars runs := by rw [← laidRun_of hx]; simp [laidAll]
  rw [e] at h
  rw [markAt]
  by_cases hi : (i : Int) < r.count
  ·rw [if_pos hi]
   rw [List.getElem?_append_left (by rw [laidTo_len]; omega)] at h
   have : l.bar = x := by
    simp [laidTo] at h
    obtain ⟨k, _, h⟩ := h
    rw [← h]
   rw [this]
   obtain ⟨y, hy, hm, _⟩ := idx_spec hj
   rw [hx'] at hy
   injection hy with hy
   subst hy
   rw [markIs_eq hm]
  ·rw [if_neg hi]
   rw [List.getElem?_append_right (by rw [laidTo_len]; omega), laidTo_len] at h
   have := ih (i - r.count.toNat) l (fun z hz => hok z (List.mem_cons_of_mem _ hz)) h
   rw [← this]
   congr 1
   omega
theorem laidOk_len {bars : List BarD} {runs : List RunD} (h : laidOk bars runs = true) : ((laidAll bars runs).length : Int) = countRuns runs ∧ (laidAll bars runs).length ≤ 2000 := by
 have h1 := (laidOk_mem h).2.2
 have h2 := laidAll_len runs h1
 refine ⟨h2, ?_⟩
 have key : ∀ (l : List RunD) (rest : Int), 0 ≤ rest → runsFit bars rest l = true → ((laidAll bars l).length : Int) ≤ rest := by
  intro l
  induction l with
  | nil => intro rest h0 _; simpa [laidAll] using h0
  | cons r l ih =>
   intro rest h0 hf
   rw [runsFit, Bool.and_eq_true, Bool.and_eq_true, zzJ] at hf
   obtain ⟨⟨a, b⟩, c⟩ := hf
   obtain ⟨_, x, _, _, hx, _⟩ := runOk_bar a
   have hc := runOk_count a
   have e : laidAll bars (r :: l) = laidTo x r r.count.toNat ++ laidAll bars l := by rw [← laidRun_of hx]; simp [laidAll]
   have := ih (rest - r.count) (by omega) c
   rw [e, List.length_append, laidTo_len]
   omega
 simp only [laidOk, Bool.and_eq_true] at h
 have := key runs 2000 (by omega) h.2
 omega
theorem countRuns_cons (r : RunD) (l : List RunD) : countRuns (r :: l) = r.count + countRuns l := by
 have key : ∀ (l : List RunD) (a : Int), l.foldl (fun s r => s + r.count) a = a + countRuns l := by
  intro l
  induction l with
  | nil => intro a; simp [countRuns]
  | cons x l ih =>
   intro a
   have h1 := ih (a + x.count)
   have h2 := ih x.count
   simp only [countRuns, List.foldl_cons, Int.zero_add] at h1 h2 ⊢
   rw [h1, h2]
   omega
 have h := key l r.count
 simp only [countRuns, List.foldl_cons, Int.zero_add] at h ⊢
 exact h
theorem countRuns_nonneg {bars : List BarD} : ∀ (l : List RunD), l.all (runOk bars) = true → 0 ≤ countRuns l := by
 intro l
 induction l with
 | nil => intro _; simp [countRuns]
 | cons r l ih =>
  intro h
  rw [List.all_cons, Bool.and_eq_true] at h
  have := ih h.2
  have := runOk_count h.1
  rw [countRuns_cons]
  omega
theorem runsFit_all {bars : List BarD} : ∀ (l : List RunD) (rest : Int), 0 ≤ rest → runsFit bars rest l = (l.all (runOk bars) && decide (countRuns l ≤ rest)) := by
 intro l
 induction l with
 | nil => intro rest h; simp [runsFit, countRuns, h]
 | cons r l ih =>
  intro rest h
  rw [runsFit, List.all_cons, countRuns_cons]
  cases h1 : runOk bars r
  ·rfl
  have hc := runOk_count h1
  by_cases h2 : r.count ≤ rest
  ·rw [decide_eq_true h2, ih _ (by omega), Bool.and_self, Bool.true_and, Bool.true_and]
   congr 1
   exact decide_eq_decide.2 (by omega)
  ·rw [decide_eq_false h2]
   cases h3 : l.all (runOk bars)
   ·rfl
   have := countRuns_nonneg l h3
   rw [decide_eq_false (by omega)]
   rfl
theorem laidOk_ref (bars : List BarD) (runs : List RunD) : laidOk bars runs = (schedOk bars && decide (runs.length ≤ 60) && runs.all (runOk bars) && decide (countRuns runs ≤ 2000)) := by
 rw [laidOk, runsFit_all _ _ (by decide), Bool.and_assoc, Bool.and_assoc, Bool.and_assoc]
def demsBy (l : List DemD) : Nat → List DemD → Bool
 | _, [] => true
 | k, d :: r => isName d.name && decide (idx (nameIs d.name) l = k) && boxOk d.zone && stepsOk d.steps && demsBy l (k + 1) r
theorem idx_mid {done r : List DemD} {d : DemD} : decide (idx (nameIs d.name) (done ++ d :: r) = (done.length : Nat)) = !done.any (nameIs d.name) := by
 cases h : done.any (nameIs d.name)
 ·rw [Bool.not_false, zzJ]
  refine NoneTo.hit (y := d) (fun j y hj hy => ?_) (by simp) (by simp [nameIs])
  rw [List.getElem?_append_left hj] at hy
  rw [List.any_eq_false] at h
  simpa using h y (mem_of_get hy)
 ·rw [Bool.not_true, zzI]
  intro h2
  obtain ⟨y, _, _, h3⟩ := idx_spec h2
  obtain ⟨z, hz, hp⟩ := List.any_eq_true.1 h
  obtain ⟨j, hj, rfl⟩ := List.getElem_of_mem hz
  have := h3 j _ hj (by rw [List.getElem?_append_left hj]; exact List.getElem?_eq_getElem hj)
  rw [hp] at this
  cases this
theorem demsBy_eq : ∀ (r done : List DemD), demsBy (done ++ r) done.length r = demsFrom done r := by
 intro r
 induction r with
 | nil => intro done; rfl
 | cons d r ih =>
  intro done
  have h := ih (done ++ [d])
  rw [List.append_assoc, List.singleton_append, List.length_append, List.length_singleton] at h
  rw [demsBy, demsFrom, idx_mid, h, demOk]
  cases isName d.name <;> cases boxOk d.zone <;> cases stepsOk d.steps <;> cases done.any (nameIs d.name) <;> rfl
theorem demsOk_ref (l : List DemD) : demsOk l = (decide (l.length ≤ 20) && demsBy l 0 l) := by
 rw [demsOk, ← demsBy_eq l []]
 rfl
def lapNew (done : List JoinD) (j : JoinD) : Bool := !done.any fun i => decide (i.first = j.first) || decide (i.second = j.second)
def lapsBy (ms : List (Option BoxD)) : List JoinD → List JoinD → Bool
 | _, [] => true
 | done, j :: r => lapsFit ms j && lapNew done j && lapsBy ms (done ++ [j]) r
theorem lapNew_eq (done : List JoinD) (f s : List Int) (j : JoinD) (hf : ∀ n, n ∈ f ↔ ∃ i ∈ done, i.first = n) (hs : ∀ n, n ∈ s ↔ ∃ i ∈ done, i.second = n) : lapNew done j = (!f.contains j.first && !s.contains j.second) := by
 have h1 : (f.contains j.first || s.contains j.second) = done.any fun i => decide (i.first = j.first) || decide (i.second = j.second) := by
  rw [Bool.eq_iff_iff, Bool.or_eq_true, List.contains_iff_mem, List.contains_iff_mem, hf, hs, List.any_eq_true]
  simp only [Bool.or_eq_true, zzJ]
  constructor
  ·rintro (⟨i, h1, h2⟩ | ⟨i, h1, h2⟩)
   ·exact ⟨i, h1, .inl h2⟩
   ·exact ⟨i, h1, .inr h2⟩
  ·rintro ⟨i, h1, h2 | h2⟩
   ·exact .inl ⟨i, h1, h2⟩
   ·exact .inr ⟨i, h1, h2⟩
 rw [lapNew, ← h1, Bool.not_or]
theorem lapsBy_eq (ms : List (Option BoxD)) : ∀ (r done : List JoinD) (f s : List Int), (∀ n, n ∈ f ↔ ∃ i ∈ done, i.first = n) → (∀ n, n ∈ s ↔ ∃ i ∈ done, i.second = n) → lapsBy ms done r = lapsFrom ms f s r := by
 intro r
 induction r with
 | nil => intro done f s _ _; rfl
 | cons j r ih =>
  intro done f s hf hs
  rw [lapsBy, lapsFrom, lapNew_eq done f s j hf hs, ih (done ++ [j]) (j.first :: f) (j.second :: s)]
  ·cases lapsFit ms j <;> cases f.contains j.first <;> cases s.contains j.second <;> rfl
  ·intro n
   rw [List.mem_cons, hf]
   simp only [List.mem_append, List.mem_singleton]
   constructor
   ·rintro (rfl | ⟨i, h1, h2⟩)
    ·exact ⟨j, .inr rfl, rfl⟩
    ·exact ⟨i, .inl h1, h2⟩
   ·rintro ⟨i, h1 | rfl, h2⟩
    ·exact .inr ⟨i, h1, h2⟩
    ·exact .inl h2.symm
  ·intro n
   rw [List.mem_cons, hs]
   simp only [List.mem_append, List.mem_singleton]
   constructor
   ·rintro (rfl | ⟨i, h1, h2⟩)
    ·exact ⟨j, .inr rfl, rfl⟩
    ·exact ⟨i, .inl h1, h2⟩
   ·rintro ⟨i, h1 | rfl, h2⟩
    ·exact .inr ⟨i, h1, h2⟩
    ·exact .inl h2.symm
theorem detOk_ref (x : DetD) : detOk x = (memOk x.mem && laidOk x.bars x.runs && demsOk x.dems && ruleOk x.rule && decide (x.laps.length ≤ 1000) && lapsBy ((laidAll x.bars x.runs).map mainLeg) [] x.laps) := by
 rw [detOk, detHead, lapsBy_eq _ x.laps [] [] [] (by simp) (by simp)]
end Go.Proofs.YtpaanfjjnjjoeaaGreat
namespace Go.Proofs.YtpaanfjjnjjoeaaGreat
open Go.RowKit Go.Maps
theorem keyedStr : Keyed Tryz.prog 9 := string_keyed Tryz.underlying9
def sKey (s : ByteArray) : Lit := .string s.data.toList
theorem sKey_is (s : ByteArray) : WideAt.IsKeyLit (sKey s) := trivial
theorem sKey_inj {a b : ByteArray} (h : sKey a = sKey b) : a = b := by
 simp only [sKey, Lit.string.injEq] at h
 exact toList_inj (by rw [toList_eq, toList_eq, h]; exact beq_self_eq_true _)
theorem zeroInt (w : World) : (zeroValue 3).run Tryz.prog w = .ok (.int .i64 0) w := by kernel_rfl
set_option maxRecDepth 100000 in
theorem plainElem_int_inv' {v : Value} {z : DataW Unit × List MemPlace} (h : plainElem Tryz.prog 3 v = some z) : ∃ x, v = .int .i64 x ∧ z = (.lit (.int .i64 x), []) := by
 obtain ⟨a, h1, h2, _⟩ := plainElem_int_inv Tryz.underlying3 h
 exact ⟨a, h1, h2⟩
def SMap (w : World) (b n : Nat) (f : ByteArray → Int) : Prop :=
 ∃ D : DataW Unit, IsMap D ∧ w.ownsMap Tryz.prog 9 (plainElem Tryz.prog 3) b n D ∧ ∀ s : ByteArray, s.size ≤ maxLen → D.atKey (sKey s) (.lit (.int .i64 0)) = .lit (.int .i64 (f s))
def putS (f : ByteArray → Int) (s : ByteArray) (x : Int) : ByteArray → Int := fun t => if t = s then x else f t
section
variable {w w' : World} {b n : Nat} {f : ByteArray → Int}
set_option maxRecDepth 100000 in
theorem SMap.new (w : World) : SMap (w.alloc (.map #[] 0)) w.heap.size 0 (fun _ => 0) :=
 ⟨.map [], ⟨[], rfl⟩, World.ownsMap_made _ _ _ _, fun _ _ => rfl⟩
set_option maxRecDepth 100000 in
theorem SMap.lt (h : SMap w b n f) : b < w.heap.size := by obtain ⟨D, _, ho, _⟩ := h; exact ho.lt
set_option maxRecDepth 100000 in
theorem SMap.keep (h : SMap w b n f) (hb : Below w.heap.size w w') : SMap w' b n f := by
 obtain ⟨D, hm, ho, ha⟩ := h
 exact ⟨D, hm, ho.kept (row := none) ⟨hb.os, hb.tape, hb.output, hb.size, fun k hk _ => hb.block k hk⟩ (by simp), ha⟩
theorem SMap.alloc (h : SMap w b n f) (o : Obj) : SMap (w.alloc o) b n f := h.keep (below_new w o)
set_option maxRecDepth 100000 in
theorem SMap.below {B : Nat} (h : SMap w b n f) (hb : Below B w w') (hB : b < B) (_hw : B ≤ w.heap.size) : SMap w' b n f := by
 obtain ⟨D, hm, ho, ha⟩ := h
 obtain ⟨es, clock, h1, h2⟩ := ho
 exact ⟨D, hm, ⟨es, clock, (hb.block b hB).trans h1, h2⟩, ha⟩
set_option maxRecDepth 100000 in
theorem SMap.look (h : SMap w b n f) {s : ByteArray} (hs : s.size ≤ maxLen) : (Instr.lookup 109 (.map (some b)) (.string s) false).run Tryz.prog w = .ok (.int .i64 (f s)) w := by
 obtain ⟨D, _, ho, ha⟩ := h
 obtain ⟨v, ps, hrun, hv⟩ := ho.lookup keyedStr Tryz.underlying109 (zeroInt w) (plainElem_int Tryz.underlying3 (by decide)) (WideMaps.keyOf_string_mk Tryz.underlying9 hs)
 obtain ⟨y, rfl, hz⟩ := plainElem_int_inv' hv
 rw [show (Lit.string s.data.toList) = sKey s from rfl, ha s hs] at hz
 simp only [Prod.mk.injEq, DataW.lit.injEq, Lit.int.injEq, true_and] at hz
 rw [hrun, hz.1]
set_option maxRecDepth 100000 in
theorem SMap.store (h : SMap w b n f) {s : ByteArray} (hs : s.size ≤ maxLen) {x : Int} (hx : InInt x) (hn : n ≤ 1000000) :
  ∃ w', (Instr.mapUpdate 109 (.map (some b)) (.string s) (.int .i64 x)).run Tryz.prog w = .ok () w' ∧ SMap w' b (n + 1) (putS f s x) ∧ w.grownBy w' (some b) := by
 obtain ⟨D, hm, ho, ha⟩ := h
 obtain ⟨w', hrun, ho', hg⟩ := ho.update keyedStr Tryz.underlying109 (by unfold maxLen; omega) (WideMaps.keyOf_string_mk Tryz.underlying9 hs) (plainElem_int Tryz.underlying3 hx.wf)
 refine ⟨w', hrun, ⟨D.put (sKey s) (.lit (.int .i64 x)), ?_, ho', fun t ht => ?_⟩, hg⟩
 ·obtain ⟨es, rfl⟩ := hm
  exact ⟨_, rfl⟩
 ·unfold putS
  by_cases hst : t = s
  ·subst hst
   rw [atKey_put_same hm (sKey_is t), if_pos rfl]
  ·rw [atKey_put_other (fun he => hst (sKey_inj he)), ha t ht, if_neg hst]
end
theorem wpList_store_smap {w : World} {ops : Array Oper} {rest : List Oper} {o : Oper} {a : Act} {Q : Exit → Act → World → Prop} (hg : o.guard = none) (m x v : Operand) (hop : o.op = Op.mapUpdate 109 m x v)
  (b n : Nat) (f : ByteArray → Int) (hm : a.eval m = .map (some b)) (hown : SMap w b n f) (hn : n ≤ 1000000) (s : ByteArray) (y : Int) (hx : a.eval x = .string s) (hv : a.eval v = .int .i64 y) (hs : s.size ≤ maxLen) (hy : InInt y)
  (hK : ∀ w', SMap w' b (n + 1) (putS f s y) → w.grownBy w' (some b) → wpList Tryz.prog ops Q rest (a.put o.dst undef) w') : wpList Tryz.prog ops Q (o :: rest) a w := by
 refine wpList_plain hg fun K' hK' => ?_
 obtain ⟨w', hrun, r1, r2⟩ := hown.store hs hy hn
 unfold Oper.wp
 simp [execOp, hop, hm, hx, hv, hrun, Result.andThen]
 exact hK' _ _ (hK w' r1 r2)
end Go.Proofs.YtpaanfjjnjjoeaaGreat
namespace Go.Proofs.YtpaanfjjnjjoeaaGreat
open Go.RowKit
theorem laid_cons {bars : List BarD} {r : RunD} {l : List RunD} {t : Nat} {ld : LaidD} (hr : runOk bars r = true) (h : (laidAll bars (r :: l))[t]? = some ld) :
  ((t : Int) < r.count → runBar bars r = some ld.bar ∧ ld.pts = ptsOf ld.bar r t) ∧ (r.count ≤ (t : Int) → (laidAll bars l)[t - r.count.toNat]? = some ld) := by
 obtain ⟨j, x, _, _, hx, _⟩ := runOk_bar hr
 have hc := runOk_count hr
 have e : laidAll bars (r :: l) = laidTo x r r.count.toNat ++ laidAll bars l := by rw [← laidRun_of hx]; simp [laidAll]
 rw [e] at h
 constructor
 ·intro ht
  have ht' : t < r.count.toNat := by omega
  rw [List.getElem?_append_left (by rw [laidTo_len]; exact ht')] at h
  simp [laidTo, ht'] at h
  subst h
  exact ⟨hx, rfl⟩
 ·intro ht
  rw [List.getElem?_append_right (by rw [laidTo_len]; omega), laidTo_len] at h
  exact h
theorem laid_some {bars : List BarD} {runs : List RunD} {k t : Nat} {ld : LaidD} (h : (laidAll bars (runs.drop k))[t]? = some ld) : k < runs.length := by
 rcases Nat.lt_or_ge k runs.length with h1 | h1
 ·exact h1
 ·rw [List.drop_of_length_le h1] at h
  simp [laidAll] at h
set_option maxHeartbeats 2000000 in
theorem refPlaceL_ok (bars : List BarD) (A : Option Addr) (runs : List RunD) (n c i : Nat) (ld : LaidD) (w : World) {B : Nat} (h : RunsAt w B A runs) (hn : n = runs.length) (hm : n ≤ 60) (hok : ∀ r ∈ runs, runOk bars r = true) (hi : (laidAll bars runs)[i]? = some ld) (hi9 : i ≤ 100000) :
  Calls Tryz.prog 157 #[.slice A n c, .int .i64 i] w fun e w' => ∃ (k j : Nat) (r : RunD), e = .returned (.tuple #[.int .i64 k, .int .i64 j]) ∧ k < n ∧ runs[k]? = some r ∧ (j : Int) < r.count ∧ runBar bars r = some ld.bar ∧ ld.pts = ptsOf ld.bar r j ∧ w = w' := by
 have H2 := hide h
 have hn2' := hide hn
 have Hc := hide (fun (r : RunD) (hr : r ∈ runs) => runOk_count (hok r hr))
 have Hs := hide (fun (k t : Nat) (r : RunD) (hr : runs[k]? = some r) (ht : (laidAll bars (runs.drop k))[t]? = some ld) => laid_cons (l := runs.drop (k + 1)) (hok r (mem_of_get hr)) (by rw [← drop_at' hr]; exact ht))
 have Hi := hide (show (laidAll bars (runs.drop 0))[i]? = some ld from hi)
 clear h hn hok hi
 go_enter Tryz.func157, Tryz.ntmps157
 go_wp2_with fail
 go_loop [6, 1] (fun kv iv => ∃ k t : Nat, kv = .int .i64 k ∧ iv = .int .i64 t ∧ t ≤ 100000 ∧ Hid ((laidAll bars (runs.drop k))[t]? = some ld)) (fun kv _ => n - (intOf kv).toNat)
 case atStart => exact ⟨0, i, rfl, rfl, hi9, Hi⟩
 case round =>
  obtain ⟨k, t, rfl, rfl, ht9, hk⟩ := hrel
  have hlt : k < n := by rw [hn2'.out]; exact laid_some hk.out
  obtain ⟨b, off, r, rfl, hbl, hx, hc⟩ := RunsAt.get (k := k) H2.out (by rw [← hn2'.out]; exact hlt)
  obtain ⟨hc0, hc1⟩ := Hc.out r (mem_of_get hx)
  have p9 := hc 9 _ rfl
  have hh := Hs.out k t r hx hk.out
  have H1 := hide hh.1
  have H3 := hide hh.2
  have Hx := hide hx
  obtain ⟨mark, tx, ty, ⟨a1, a2, a3⟩, ⟨s1, s2, s3⟩, cnt⟩ := r
  simp only at p9 hc0 hc1 H1 H3
  clear hx hbl hc hh
  by_cases hge : cnt ≤ (t : Int)
  ·have d0 : decide (cnt ≤ (t : Int)) = true := by simpa using hge
   have Hr := hide (H3.out hge)
   have hz : IntKind.i64.wrap ((t : Int) - cnt) = ((t - cnt.toNat : Nat) : Int) := by
    rw [IntWalk.i64_in _ (by omega)]; omega
   clear hge
   go_wp2_with fail
   go_round
   case rel => exact ⟨k + 1, t - cnt.toNat, by go_num, rfl, by omega, Hr⟩
   case measure => simp [intOf]; omega
  ·have d0 : decide (cnt ≤ (t : Int)) = false := by simpa using hge
   have Hr := hide (H1.out (by omega))
   have hg : (t : Int) < cnt := by omega
   clear hge
   go_wp2_with fail
   go_ret2
   exact ⟨k, t, rfl, hlt, _, Hx.out, hg, Hr.out.1, Hr.out.2, rfl⟩
theorem find_bar {bars : List BarD} {r : RunD} {x : BarD} (h : runOk bars r = true) (hx : runBar bars r = some x) : ∃ j : Nat, idx (markIs r.mark) bars = (j : Int) ∧ bars[j]? = some x := by
 obtain ⟨j, y, hj, hy, hb, _⟩ := runOk_bar h
 rw [hx] at hb
 injection hb with hb
 subst hb
 exact ⟨j, hj, hy⟩
set_option maxHeartbeats 4000000 in
set_option maxRecDepth 100000 in
theorem refBar_ok (A3 A4 : Option Addr) (bars : List BarD) (runs : List RunD) (n3 c3 n4 c4 i : Nat) (ld : LaidD) (w : World) {B : Nat} (h3 : BarsAt w B A3 bars) (h4 : RunsAt w B A4 runs) (hB : B ≤ w.heap.size) (l3 : n3 = bars.length) (l4 : n4 = runs.length) (m3 : n3 ≤ 60000) (hok : laidOk bars runs = true) (hi : (laidAll bars runs)[i]? = some ld) :
  Calls Tryz.prog 99 #[.slice A3 n3 c3, .slice A4 n4 c4, .int .i64 i] w fun e w' => ∃ A c, e = .returned (barV ld.bar A c) ∧ Ints w' B A ld.bar.dims ∧ Below w.heap.size w w' := by
 obtain ⟨_, hlen, hruns⟩ := laidOk_mem hok
 have hi9 : i ≤ 100000 := by have := (laidOk_len hok).2; have := lt_of_get hi; omega
 have HP := hide (fun (W : World) (hz : Below w.heap.size w W) => refPlaceL_ok bars A4 runs n4 c4 i ld W (h4.carry (Flat.carried _) (hz.mono hB) (Nat.le_refl _)) l4 (by omega) hruns hi hi9)
 have HF := hide (fun (m : ByteArray) (W : World) (hz : Below w.heap.size w W) => refFind_any A3 bars n3 c3 m W (h3.carry (hz.mono hB) (Nat.le_refl _)) l3 m3)
 have Hfb := hide (fun (k : Nat) (r : RunD) (hk : runs[k]? = some r) (hx : runBar bars r = some ld.bar) => find_bar (hruns r (mem_of_get hk)) hx)
 have H3 := hide h3
 have H4 := hide h4
 have L3 := hide l3
 have L4 := hide l4
 have KR := hide (Blk.new w 50 #[.string .empty, .int .i64 0, .int .i64 0, .int .i64 0, .slice none 0 0])
 have HW := hide (below_new w (.cells #[.string .empty, .int .i64 0, .int .i64 0, .int .i64 0, .slice none 0 0] 50))
 clear h3 h4 l3 l4 hok hi hruns hlen
 go_enter Tryz.func99, Tryz.ntmps99
 go_wp2_with fail
 refine (HP.out _ HW.out).mono ?_
 rintro e w1 ⟨k, j, r, rfl, hk, hx, hj, hrb, hpts, rfl⟩
 obtain ⟨q, hq, hy⟩ := Hfb.out k r hx hrb
 have HWr := HW.out
 obtain ⟨b, off, r', rfl, hbl, hx', hc⟩ := RunsAt.get (k := k) (H4.out.carry (Flat.carried _) (HWr.mono hB) (Nat.le_refl _)) (by rw [← L4.out]; exact hk)
 rw [hx] at hx'
 injection hx' with hx'
 subst hx'
 have p0 := hc 0 _ rfl
 simp only [Nat.add_zero] at p0
 obtain ⟨b3, off3, y, A', c', hA3, hbl3, hy', hdi, f0, f1, f2, f3, f4⟩ := BarsAt.get (k := q) H3.out (lt_of_get hy)
 rw [hy] at hy'
 injection hy' with hy'
 subst hy'
 subst hA3
 have hbw : b3 < w.heap.size := Nat.lt_of_lt_of_le hbl3 hB
 have f0 := (HWr.cell (p := ⟨b3, off3 + q * 5, none⟩) hbw).trans f0
 have f1 := (HWr.cell (p := ⟨b3, off3 + q * 5 + 1, none⟩) hbw).trans f1
 have f2 := (HWr.cell (p := ⟨b3, off3 + q * 5 + 2, none⟩) hbw).trans f2
 have f3 := (HWr.cell (p := ⟨b3, off3 + q * 5 + 3, none⟩) hbw).trans f3
 have f4 := (HWr.cell (p := ⟨b3, off3 + q * 5 + 4, none⟩) hbw).trans f4
 have HFm := hide (HF.out r.mark _ HWr)
 rw [hq] at HFm
 have Hdi := hide hdi
 have hqn : q < n3 := by rw [L3.out]; exact lt_of_get hy
 have hbw3 : b3 < (w.alloc (.cells #[.string .empty, .int .i64 0, .int .i64 0, .int .i64 0, .slice none 0 0] 50)).heap.size := Nat.lt_of_lt_of_le hbl3 (le_alloc hB _)
 obtain ⟨mark, tx, ty, ⟨a1, a2, a3⟩, ⟨s1, s2, s3⟩, cnt⟩ := r
 simp only at p0 HFm
 obtain ⟨⟨mk, sz, ct, cd, dims⟩, pts⟩ := ld
 simp only at f0 f1 f2 f3 f4 Hdi ⊢
 clear hx hq hy hbl hc hdi hj hrb hpts HP HF Hfb H3 H4 L3 L4 hbl3
 go_wp2_with fail
 refine HFm.out.mono ?_
 rintro e w2 ⟨rfl, rfl⟩
 clear HFm
 go_wp2_with fail
 refine bodyPost_ret (results_c rfl rfl (Blk.new w _ _) Tryz.underlying50 rfl (by kernel_rfl)) rfl ?_
 first
  | exact ⟨A', ⟨c', rfl⟩, Hdi.out.carry ((below_new w _).mono hB) (Nat.le_refl _), below_new w _⟩
  | exact ⟨A', c', rfl, Hdi.out.carry ((below_new w _).mono hB) (Nat.le_refl _), below_new w _⟩
set_option maxHeartbeats 400000 in
theorem refIsLength_any (n : Int) (w : World) :
  Calls Tryz.prog 148 #[.int .i64 n] w fun e w' => e = .returned (.bool (coordOk n)) ∧ w = w' := by
 have hr : coordOk n = (decide (-1048576 ≤ n) && decide (n ≤ 1048576)) := rfl
 rw [hr]
 cases q0 : decide (-1048576 ≤ n) <;> cases q1 : decide (n ≤ 1048576)
 all_goals
  go_enter Tryz.func148, Tryz.ntmps148
  go_wp2_with fail
  go_ret
  exact ⟨rfl, rfl⟩
set_option maxHeartbeats 400000 in
theorem refNearOne_any (n : Int) (w : World) :
  Calls Tryz.prog 206 #[.int .i64 n] w fun e w' => e = .returned (.bool (within n (-1048576) 1048576)) ∧ w = w' := by
 have hr : within n (-1048576) 1048576 = (decide (-1048576 ≤ n) && decide (n ≤ 1048576)) := rfl
 rw [hr]
 cases q0 : decide (-1048576 ≤ n) <;> cases q1 : decide (n ≤ 1048576)
 all_goals
  go_enter Tryz.func206, Tryz.ntmps206
  go_wp2_with fail
  go_ret
  exact ⟨rfl, rfl⟩
set_option maxHeartbeats 400000 in
theorem refAxis_any (n : Int) (w : World) :
  Calls Tryz.prog 205 #[.int .i64 n] w fun e w' => e = .returned (.bool (axisN n)) ∧ w = w' := by
 have hr : axisN n = (!decide (n = 0) && decide (-3 ≤ n) && decide (n ≤ 3)) := rfl
 rw [hr]
 by_cases q2 : n = 0
 ·subst q2
  go_enter Tryz.func205, Tryz.ntmps205
  go_wp2_with fail
  go_ret
  exact ⟨rfl, rfl⟩
 have q2' : (n == 0) = false := by simpa using q2
 rw [decide_eq_false q2]
 clear hr q2
 cases q0 : decide (-3 ≤ n) <;> cases q1 : decide (n ≤ 3)
 all_goals
  go_enter Tryz.func205, Tryz.ntmps205
  go_wp2_with fail
  go_ret
  exact ⟨ret_bool (by simp [bne, q2']), rfl⟩
abbrev bxV (b : BoxD) : Value := .agg #[.int .i64 b.lo.1, .int .i64 b.lo.2.1, .int .i64 b.lo.2.2, .int .i64 b.hi.1, .int .i64 b.hi.2.1, .int .i64 b.hi.2.2]
def nthC (p : Pt) (k : Nat) : Int := if k = 0 then p.1 else if k = 1 then p.2.1 else p.2.2
set_option maxHeartbeats 400000 in
theorem refCoord_any (p1 p2 p3 : Int) (k : Nat) (hk : k < 3) (w : World) :
  Calls Tryz.prog 149 #[.agg #[.int .i64 p1, .int .i64 p2, .int .i64 p3], .int .i64 k] w fun e w' => e = .returned (.int .i64 (nthC (p1, p2, p3) k)) ∧ Below w.heap.size w w' := by
 rcases (show k = 0 ∨ k = 1 ∨ k = 2 by omega) with rfl | rfl | rfl
 all_goals
  go_enter Tryz.func149, Tryz.ntmps149
  go_wp2_with fail
  go_ret
  exact ⟨rfl, below_new _ _⟩
set_option maxHeartbeats 400000 in
theorem refNear_any (p : Pt) (w : World) :
  Calls Tryz.prog 144 #[ptA p] w fun e w' => e = .returned (.bool (nearBy 1048576 p)) ∧ Below w.heap.size w w' := by
 obtain ⟨p1, p2, p3⟩ := p
 have hr : nearBy 1048576 (p1, p2, p3) = (within p1 (-1048576) 1048576 && within p2 (-1048576) 1048576 && within p3 (-1048576) 1048576) := rfl
 rw [hr]
 have H1 := fun W => refNearOne_any p1 W
 have H2 := fun W => refNearOne_any p2 W
 have H3 := fun W => refNearOne_any p3 W
 generalize within p1 (-1048576) 1048576 = a1 at *
 generalize within p2 (-1048576) 1048576 = a2 at *
 generalize within p3 (-1048576) 1048576 = a3 at *
 have H1 := hide H1
 have H2 := hide H2
 have H3 := hide H3
 clear hr
 go_enter Tryz.func144, Tryz.ntmps144
 go_wp2_with fail
 refine (H1.out _).mono ?_
 rintro e w1 ⟨rfl, rfl⟩
 cases a1
 ·go_wp2_with fail
  go_ret
  exact ⟨rfl, below_new _ _⟩
 go_wp2_with fail
 refine (H2.out _).mono ?_
 rintro e w1 ⟨rfl, rfl⟩
 cases a2
 ·go_wp2_with fail
  go_ret
  exact ⟨rfl, below_new _ _⟩
 go_wp2_with fail
 refine (H3.out _).mono ?_
 rintro e w1 ⟨rfl, rfl⟩
 go_wp2_with fail
 go_ret
 exact ⟨rfl, below_new _ _⟩
set_option maxHeartbeats 1000000 in
theorem refTwice_any (p : Pt) (w : World) :
  Calls Tryz.prog 145 #[ptA p] w fun e w' => e = .returned (.bool (nearBy 2097152 p)) ∧ Below w.heap.size w w' := by
 obtain ⟨p1, p2, p3⟩ := p
 have hr : nearBy 2097152 (p1, p2, p3) = ((decide (-2097152 ≤ p1) && decide (p1 ≤ 2097152)) && (decide (-2097152 ≤ p2) && decide (p2 ≤ 2097152)) && (decide (-2097152 ≤ p3) && decide (p3 ≤ 2097152))) := rfl
 rw [hr]
 have hways : ((decide (-2097152 ≤ p1) && decide (p1 ≤ 2097152)) && (decide (-2097152 ≤ p2) && decide (p2 ≤ 2097152)) && (decide (-2097152 ≤ p3) && decide (p3 ≤ 2097152))) = (decide (-2097152 ≤ p1) && (decide (p1 ≤ 2097152) && (decide (-2097152 ≤ p2) && (decide (p2 ≤ 2097152) && (decide (-2097152 ≤ p3) && decide (p3 ≤ 2097152)))))) := by simp only [Bool.and_assoc]
 rw [hways]
 clear hr hways
 cases q0 : decide (-2097152 ≤ p1)
 ·go_enter Tryz.func145, Tryz.ntmps145
  go_wp2_with fail
  go_ret
  exact ⟨rfl, below_new _ _⟩
 cases q1 : decide (p1 ≤ 2097152)
 ·go_enter Tryz.func145, Tryz.ntmps145
  go_wp2_with fail
  go_ret
  exact ⟨rfl, below_new _ _⟩
 cases q2 : decide (-2097152 ≤ p2)
 ·go_enter Tryz.func145, Tryz.ntmps145
  go_wp2_with fail
  go_ret
  exact ⟨rfl, below_new _ _⟩
 cases q3 : decide (p2 ≤ 2097152)
 ·go_enter Tryz.func145, Tryz.ntmps145
  go_wp2_with fail
  go_ret
  exact ⟨rfl, below_new _ _⟩
 cases q4 : decide (-2097152 ≤ p3)
 ·go_enter Tryz.func145, Tryz.ntmps145
  go_wp2_with fail
  go_ret
  exact ⟨rfl, below_new _ _⟩
 cases q5 : decide (p3 ≤ 2097152)
 all_goals
  go_enter Tryz.func145, Tryz.ntmps145
  go_wp2_with fail
  go_ret
  exact ⟨rfl, below_new _ _⟩
set_option maxHeartbeats 1000000 in
theorem refTurn_any (x y : Int) (w : World) :
  Calls Tryz.prog 143 #[.agg #[.int .i64 x, .int .i64 y]] w fun e w' => e = .returned (.bool (turnOk x y)) ∧ Below w.heap.size w w' := by
 have hr : turnOk x y = (axisN x && (axisN y && (!decide (x = y) && !decide (x = -y)))) := by simp only [turnOk, Bool.and_assoc]
 rw [hr]
 have hy : axisN y = true → -3 ≤ y ∧ y ≤ 3 := by
  intro h
  simp only [axisN, Bool.and_eq_true, zzJ] at h
  omega
 have H1 := fun W => refAxis_any x W
 have H2 := fun W => refAxis_any y W
 generalize axisN x = a1 at *
 generalize axisN y = a2 at *
 have H1 := hide H1
 have H2 := hide H2
 have Hy := hide hy
 clear hr hy
 go_enter Tryz.func143, Tryz.ntmps143
 go_wp2_with fail
 refine (H1.out _).mono ?_
 rintro e w1 ⟨rfl, rfl⟩
 cases a1
 ·go_wp2_with fail
  go_ret
  exact ⟨rfl, below_new _ _⟩
 go_wp2_with fail
 refine (H2.out _).mono ?_
 rintro e w1 ⟨rfl, rfl⟩
 cases a2
 ·go_wp2_with fail
  go_ret
  exact ⟨rfl, below_new _ _⟩
 have y1 := Hy.out rfl
 have y2 : wrap64 (-y) = -y := IntWalk.wrap64_in (-y) (by omega)
 clear y1
 go_wp2_with fail
 all_goals go_ret
 all_goals exact ⟨ret_bool (by cases h1 : decide (x = y) <;> cases h2 : decide (x = -y) <;> simp_all [bne]), below_new _ _⟩
end Go.Proofs.YtpaanfjjnjjoeaaGreat
