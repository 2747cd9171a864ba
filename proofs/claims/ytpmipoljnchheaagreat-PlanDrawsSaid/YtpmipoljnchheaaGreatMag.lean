/- The mark of a laid bar. Main legs, in memory and plain. No walk stands here. Plain: where a laid bar stands in the list of all laid bars. No walk stands here. The references of layers 9, 15: coordinates, boxes, turns, points that are near. -/
import Derived.Test.YtpmipoljnchheaaGreatMaf
import Derived.Test.YtpmipoljnchheaaGreatMad
import Derived.Lib.QuietBelow
namespace Go.Proofs.YtpmipoljnchheaaGreat
open Go.RowKit

def markAt : List RunD → Int → Option ByteArray
  | [], _ => none
  | r :: l, i => if i < r.count then some r.mark else markAt l (i - r.count)
set_option maxHeartbeats 2000000 in
theorem laidMark_ok (A : Option Addr) (bars : List BarD) (n c : Nat) (A2 : Option Addr) (runs : List RunD) (n2 c2 : Nat) (w : World) {B : Nat} (h : BarsAt w B A bars) (h2 : RunsAt w B A2 runs) (hB : B ≤ w.heap.size) (hn : n = bars.length) (hn2 : n2 = runs.length) (hm : n ≤ 60000) (hm2 : n2 ≤ 60000) (htame : Tame bars) (hok : laidOk bars runs = true) (i : Int) (m : ByteArray) (hi0 : 0 ≤ i) (hi1 : i ≤ 100000) (hmk : markAt runs i = some m) :
    Calls Tryz.prog 27 #[.slice A n c, .slice A2 n2 c2, .int .i64 i] w fun e w' => e = .returned (.tuple #[.string m, .int .i64 0]) ∧ Below w.heap.size w w' := by
  have HV := laidValid_any A bars n c A2 runs n2 c2 w h h2 hB hn hn2 hm hm2 htame
  rw [hok] at HV
  have HV := hide HV
  obtain ⟨_, h60, hmem⟩ := laidOk_mem hok
  have hn60 : n2 ≤ 60 := by omega
  have Hc := hide (fun (r : RunD) (hr : r ∈ runs) => runOk_count (hmem r hr))
  have Hmk := hide (show markAt (runs.drop 0) i = some m from hmk)
  have d0 : decide (i < 0) = false := by simp; omega
  have H2 := hide h2
  have hn2' := hide hn2
  clear h h2 hn hn2 hm hm2 htame hok hmem h60 hmk
  go_enter Tryz.func27, Tryz.ntmps27
  go_wp2_with fail
  refine HV.out.mono ?_
  rintro e w2 ⟨rfl, hb2⟩
  have Hb2 := hide hb2
  clear HV hb2
  go_wp2_with fail
  go_loopw [2, 18] (fun v i wr => ∃ k : Nat, k ≤ n2 ∧ i = .int .i64 k ∧ (∃ t : Int, v = .int .i64 t ∧ 0 ≤ t ∧ t ≤ 100000 ∧ Hid (markAt (runs.drop k) t = some m)) ∧ Below w.heap.size w wr) (fun _ i _ => n2 - (intOf i).toNat)
  case atStart => exact ⟨0, Nat.zero_le _, rfl, ⟨i, rfl, hi0, hi1, Hmk⟩, Hb2.out⟩
  case round =>
    clear Hb2
    obtain ⟨k, hk, rfl, ⟨t, rfl, ht0, ht1, ht⟩, hbr⟩ := hrel
    by_cases hlt : k < n2
    · obtain ⟨b, off, r, rfl, hbl, hx, hc⟩ := RunsAt.get (k := k) (H2.out.carry (Flat.carried _) (hbr.mono hB) (Nat.le_refl _)) (by rw [← hn2'.out]; exact hlt)
      obtain ⟨hc0, hc1⟩ := Hc.out r (mem_of_get hx)
      have Hn := hide (show (if t < r.count then some r.mark else markAt (runs.drop (k + 1)) (t - r.count)) = some m by rw [← ht.out, drop_at' hx, markAt])
      obtain ⟨mark, tx, ty, ⟨a1, a2, a3⟩, ⟨s1, s2, s3⟩, cnt⟩ := r
      have p0 := hc 0 _ rfl
      have p1 := hc 1 _ rfl
      have p2 := hc 2 _ rfl
      have p3 := hc 3 _ rfl
      have p4 := hc 4 _ rfl
      have p5 := hc 5 _ rfl
      have p6 := hc 6 _ rfl
      have p7 := hc 7 _ rfl
      have p8 := hc 8 _ rfl
      have p9 := hc 9 _ rfl
      simp only [Nat.add_zero] at p0 p1 p2 p3 p4 p5 p6 p7 p8 p9 hc0 hc1 Hn
      clear hx hbl hc
      by_cases htc : t < cnt
      · have d1 : decide (t < cnt) = true := by simpa using htc
        have hres := hide (show mark = m by have h9 := Hn.out; rw [if_pos htc] at h9; injection h9)
        go_wp2_with fail
        go_ret2
        exact ⟨by rw [← hres.out]; rfl, hbr.alloc hbr.size _⟩
      · have d1 : decide (t < cnt) = false := by simpa using htc
        have hres := hide (show markAt (runs.drop (k + 1)) (t - cnt) = some m by have h9 := Hn.out; rwa [if_neg htc] at h9)
        go_wp2_with fail
        go_roundw
        case rel => exact ⟨k + 1, by omega, by go_num, ⟨t - cnt, rfl, by omega, by omega, hres⟩, hbr.alloc hbr.size _⟩
        case measure => simp [intOf]; omega
    · obtain rfl : k = n2 := by omega
      have h9 := ht.out
      rw [hn2'.out, List.drop_length] at h9
      cases h9
end Go.Proofs.YtpmipoljnchheaaGreat
namespace Go.Proofs.YtpmipoljnchheaaGreat
open Go.RowKit

/-- The main leg of a laid bar, as lap.mains keeps it. -/
structure MainD where
  leg : BoxD
  has : Bool
  size : Int
  mark : ByteArray
def encMain (m : MainD) : List Value := encB m.leg ++ [.bool m.has, .int .i64 m.size, .string m.mark]
theorem encMain_len (m : MainD) : (encMain m).length = 9 := rfl
theorem encMain_one (m : MainD) : ∀ u ∈ encMain m, u.oneCell' = true := by
  intro u hu
  rcases List.mem_append.1 hu with hu | hu
  · exact encB_one m.leg u hu
  · simp only [List.mem_cons, List.not_mem_nil, or_false] at hu
    rcases hu with rfl | rfl | rfl <;> rfl
abbrev MainsAt (w : World) (B : Nat) (A : Option Addr) (l : List MainD) : Prop := SlOf w B 9 (Flat encMain) A l
theorem MainsAt.get {w : World} {B : Nat} {A : Option Addr} {l : List MainD} (h : MainsAt w B A l) {k : Nat} (hk : k < l.length) :
    ∃ b off x, A = some ⟨b, off, none⟩ ∧ b < B ∧ l[k]? = some x ∧ ∀ j v, (encMain x)[j]? = some v → w.cell? ⟨b, off + k * 9 + j, none⟩ = some v := by
  obtain ⟨b, off, x, vs, hA, hb, hx, _, hr, hc⟩ := h.at_ hk
  have hr' : vs = encMain x := hr
  subst hr'
  exact ⟨b, off, x, hA, hb, hx, hc⟩
/-- The main leg of a laid bar, as an option. -/
def MainD.opt (m : MainD) : Option BoxD := if m.has then some m.leg else none
def mainOf (x : LaidD) : MainD := match mainLeg x with
  | some b => ⟨b, true, x.bar.size, x.bar.mark⟩
  | none => ⟨⟨(0, 0, 0), (0, 0, 0)⟩, false, x.bar.size, x.bar.mark⟩
theorem mainOf_opt (x : LaidD) : (mainOf x).opt = mainLeg x := by
  unfold mainOf MainD.opt
  cases mainLeg x <;> rfl
theorem mains_opt (l : List LaidD) : (l.map mainOf).map MainD.opt = l.map mainLeg := by
  rw [List.map_map]
  apply List.map_congr_left
  intro x _
  exact mainOf_opt x
/-- Whether a lap is right by itself, over main legs as they are kept. -/
def jointOk (l : List MainD) (j : JoinD) : Bool := lapsFit (l.map MainD.opt) j
theorem jointOk_out {l : List MainD} {j : JoinD} (h : j.first < 0 ∨ (l.length : Int) ≤ j.first ∨ j.second < 0 ∨ (l.length : Int) ≤ j.second) : jointOk l j = false := by
  rw [jointOk, lapsFit, List.length_map]
  rcases h with h | h | h | h
  · rw [decide_eq_false (show ¬ 0 ≤ j.first by omega)]; simp
  · rw [decide_eq_false (show ¬ j.first < (l.length : Int) by omega)]; simp
  · rw [decide_eq_false (show ¬ 0 ≤ j.second by omega)]; simp
  · rw [decide_eq_false (show ¬ j.second < (l.length : Int) by omega)]; simp
theorem jointOk_in {l : List MainD} {p q : Nat} {a b : MainD} (ha : l[p]? = some a) (hb : l[q]? = some b) :
    jointOk l ⟨p, q⟩ = (a.has && b.has && decide (a.leg.lo.1 < b.leg.lo.1) && decide (a.leg.hi.1 < b.leg.hi.1) && decide (b.leg.lo.1 ≤ a.leg.hi.1)) := by
  have h1 := lt_of_get ha
  have h2 := lt_of_get hb
  have e1 : (l.map MainD.opt).getD p none = a.opt := by rw [List.getD_eq_getElem?_getD, List.getElem?_map, ha]; rfl
  have e2 : (l.map MainD.opt).getD q none = b.opt := by rw [List.getD_eq_getElem?_getD, List.getElem?_map, hb]; rfl
  rw [jointOk, lapsFit, List.length_map]
  simp only [Int.toNat_natCast]
  rw [e1, e2, decide_eq_true (show (0 : Int) ≤ (p : Int) by omega), decide_eq_true (show (p : Int) < (l.length : Int) by omega), decide_eq_true (show (0 : Int) ≤ (q : Int) by omega), decide_eq_true (show (q : Int) < (l.length : Int) by omega)]
  obtain ⟨la, ha', sa, ma⟩ := a
  obtain ⟨lb, hb', sb, mb⟩ := b
  cases ha' <;> cases hb' <;> simp [MainD.opt]
end Go.Proofs.YtpmipoljnchheaaGreat
namespace Go.Proofs.YtpmipoljnchheaaGreat
open Go.RowKit

theorem toList_go (b : ByteArray) : ∀ (n i : Nat) (r : List UInt8), b.size - i = n → ByteArray.toList.loop b i r = r.reverse ++ b.data.toList.drop i := by
  intro n
  induction n with
  | zero =>
    intro i r h
    rw [ByteArray.toList.loop, if_neg (by omega)]
    rw [List.drop_eq_nil_of_le (by simp; exact Nat.le_of_sub_eq_zero h)]
    simp
  | succ n ih =>
    intro i r h
    have hi : i < b.size := by omega
    rw [ByteArray.toList.loop, if_pos hi, ih (i + 1) _ (by omega)]
    have hl : i < b.data.toList.length := by simpa using hi
    rw [List.drop_eq_getElem_cons hl]
    have : b.get! i = b.data.toList[i] := by simp [ByteArray.get!, hi]
    simp [this]
theorem toList_eq (b : ByteArray) : b.toList = b.data.toList := by
  rw [ByteArray.toList, toList_go b _ 0 [] rfl]
  simp
theorem toList_inj {a b : ByteArray} (h : (a.toList == b.toList) = true) : a = b := by
  rw [beq_iff_eq, toList_eq, toList_eq] at h
  obtain ⟨⟨x⟩⟩ := a
  obtain ⟨⟨y⟩⟩ := b
  simp only at h
  rw [h]
theorem markIs_eq {m : ByteArray} {x : BarD} (h : markIs m x = true) : m = x.mark := (toList_inj h).symm
theorem laidAll_nil (bars : List BarD) : laidAll bars [] = [] := rfl
theorem laidAll_split {bars : List BarD} {runs : List RunD} {j : Nat} {r : RunD} (h : runs[j]? = some r) : laidAll bars runs = laidAll bars (runs.take j) ++ (laidRun bars r ++ laidAll bars (runs.drop (j + 1))) := by
  conv => lhs; rw [← List.take_append_drop j runs, drop_at' h]
  simp [laidAll]
theorem laidAll_snoc {bars : List BarD} {runs : List RunD} {j : Nat} {r : RunD} (h : runs[j]? = some r) : laidAll bars (runs.take (j + 1)) = laidAll bars (runs.take j) ++ laidRun bars r := by
  rw [take_snoc' h]
  simp [laidAll]
/-- The first k bars of a run. -/
def laidTo (x : BarD) (r : RunD) (k : Nat) : List LaidD := (List.range k).map fun (j : Nat) => ⟨x, ptsOf x r j⟩
theorem laidTo_zero (x : BarD) (r : RunD) : laidTo x r 0 = [] := rfl
theorem laidTo_succ (x : BarD) (r : RunD) (k : Nat) : laidTo x r (k + 1) = laidTo x r k ++ [⟨x, ptsOf x r (k : Int)⟩] := by simp [laidTo, List.range_succ]
theorem laidTo_len (x : BarD) (r : RunD) (k : Nat) : (laidTo x r k).length = k := by simp [laidTo]
theorem laidRun_of {bars : List BarD} {r : RunD} {x : BarD} (h : runBar bars r = some x) : laidRun bars r = laidTo x r r.count.toNat := by
  simp [laidRun, h, laidTo]
/-- The laid bar that is the k-th one of the j-th run. -/
theorem laid_at {bars : List BarD} {runs : List RunD} {j k : Nat} {r : RunD} {x : BarD} (h : runs[j]? = some r) (hx : runBar bars r = some x) (hk : (k : Int) < r.count) :
    (laidAll bars runs)[(laidAll bars (runs.take j)).length + k]? = some ⟨x, ptsOf x r (k : Int)⟩ := by
  rw [laidAll_split h, List.getElem?_append_right (by omega), Nat.add_sub_cancel_left, laidRun_of hx]
  have hk' : k < r.count.toNat := by omega
  rw [List.getElem?_append_left (by rw [laidTo_len]; exact hk')]
  simp [laidTo, hk']
/-- What a valid run bears. -/
theorem runOk_bar {bars : List BarD} {r : RunD} (h : runOk bars r = true) : ∃ (j : Nat) (x : BarD), idx (markIs r.mark) bars = (j : Int) ∧ bars[j]? = some x ∧ runBar bars r = some x ∧ turnOk r.tx r.ty = true := by
  simp only [runOk, runHead, Bool.and_eq_true, decide_eq_true_eq] at h
  obtain ⟨⟨⟨⟨⟨⟨⟨h0, h1⟩, _⟩, _⟩, _⟩, _⟩, _⟩, _⟩ := h
  obtain ⟨j, hj⟩ := Int.eq_ofNat_of_zero_le h0
  obtain ⟨x, hx, _⟩ := idx_spec hj
  exact ⟨j, x, hj, hx, runBar_of hj hx, h1⟩
theorem runOk_near {bars : List BarD} {r : RunD} {x : BarD} (h : runOk bars r = true) (hx : runBar bars r = some x) {k : Int} (h0 : 0 ≤ k) (h1 : k < r.count) : ∀ p ∈ ptsOf x r k, nearBy 1048576 p = true := by
  simp only [runOk, Bool.and_eq_true] at h
  simp only [runPts, hx] at h
  exact run_near h.1.2 h.2 h0 (by omega)
theorem runOk_place {bars : List BarD} {r : RunD} (h : runOk bars r = true) : nearBy 1048576 r.place = true := by
  simp only [runOk, runHead, Bool.and_eq_true] at h
  exact h.1.1.1.2
theorem imgV_zero (x y : Int) : imgV x y (0, 0, 0) = (0, 0, 0) := by simp [imgV, linV]
/-- Where a laid bar begins. -/
theorem runOk_at {bars : List BarD} {r : RunD} {x : BarD} (h : runOk bars r = true) (hx : runBar bars r = some x) {k : Int} (h0 : 0 ≤ k) (h1 : k < r.count) : nearBy 1048576 (addP r.place (mulP k r.step)) = true := by
  refine runOk_near h hx h0 h1 _ (List.mem_map.2 ⟨(0, 0, 0), mem_of_get (pathOf_zero x), ?_⟩)
  rw [imgV_zero]
  simp [addP]
theorem ptsOf_eq (x : BarD) (r : RunD) (k : Int) : ptsOf x r k = (pathOf x).map fun p => addP (addP r.place (mulP k r.step)) (imgV r.tx r.ty p) := by
  unfold ptsOf
  apply List.map_congr_left
  intro p _
  simp only [addP]
  refine Prod.ext ?_ (Prod.ext ?_ ?_) <;> simp only <;> omega
theorem laidAll_len {bars : List BarD} : ∀ (runs : List RunD), (∀ r ∈ runs, runOk bars r = true) → ((laidAll bars runs).length : Int) = countRuns runs := by
  have key : ∀ q : List RunD, (∀ r ∈ q.reverse, runOk bars r = true) → ((laidAll bars q.reverse).length : Int) = countRuns q.reverse := by
    intro q
    induction q with
    | nil => intro _; rfl
    | cons y q ih =>
      intro h
      rw [List.reverse_cons] at h ⊢
      have a := ih (fun z hz => h z (List.mem_append_left _ hz))
      have b := h y (by simp)
      obtain ⟨j, x, _, _, hx, _⟩ := runOk_bar b
      have hc := runOk_count b
      have e : laidAll bars (q.reverse ++ [y]) = laidAll bars q.reverse ++ laidRun bars y := by simp [laidAll]
      rw [countRuns_snoc, e, List.length_append, laidRun_of hx, laidTo_len]
      omega
  intro runs h
  have := key runs.reverse
  rw [List.reverse_reverse] at this
  exact this h
theorem laidAll_mark {bars : List BarD} : ∀ (runs : List RunD) (i : Nat) (l : LaidD), (∀ r ∈ runs, runOk bars r = true) → (laidAll bars runs)[i]? = some l → markAt runs (i : Int) = some l.bar.mark := by
  intro runs
  induction runs with
  | nil => intro i l _ h; simp [laidAll] at h
  | cons r runs ih =>
    intro i l hok h
    obtain ⟨j, x, hj, hx', hx, _⟩ := runOk_bar (hok r (by simp))
    have hc := runOk_count (hok r (by simp))
    have e : laidAll bars (r :: runs) = laidTo x r r.count.toNat ++ laidAll bars runs := by rw [← laidRun_of hx]; simp [laidAll]
    rw [e] at h
    rw [markAt]
    by_cases hi : (i : Int) < r.count
    · rw [if_pos hi]
      rw [List.getElem?_append_left (by rw [laidTo_len]; omega)] at h
      have : l.bar = x := by
        simp [laidTo] at h
        obtain ⟨k, _, h⟩ := h
        rw [← h]
      rw [this]
      obtain ⟨y, hy, hm, _⟩ := idx_spec hj
      rw [hx'] at hy
      injection hy with hy
      subst hy
      rw [markIs_eq hm]
    · rw [if_neg hi]
      rw [List.getElem?_append_right (by rw [laidTo_len]; omega), laidTo_len] at h
      have := ih (i - r.count.toNat) l (fun z hz => hok z (List.mem_cons_of_mem _ hz)) h
      rw [← this]
      congr 1
      omega
theorem laidOk_len {bars : List BarD} {runs : List RunD} (h : laidOk bars runs = true) : ((laidAll bars runs).length : Int) = countRuns runs ∧ (laidAll bars runs).length ≤ 2000 := by
  have h1 := (laidOk_mem h).2.2
  have h2 := laidAll_len runs h1
  refine ⟨h2, ?_⟩
  have key : ∀ (l : List RunD) (rest : Int), 0 ≤ rest → runsFit bars rest l = true → ((laidAll bars l).length : Int) ≤ rest := by
    intro l
    induction l with
    | nil => intro rest h0 _; simpa [laidAll] using h0
    | cons r l ih =>
      intro rest h0 hf
      rw [runsFit, Bool.and_eq_true, Bool.and_eq_true, decide_eq_true_eq] at hf
      obtain ⟨⟨a, b⟩, c⟩ := hf
      obtain ⟨_, x, _, _, hx, _⟩ := runOk_bar a
      have hc := runOk_count a
      have e : laidAll bars (r :: l) = laidTo x r r.count.toNat ++ laidAll bars l := by rw [← laidRun_of hx]; simp [laidAll]
      have := ih (rest - r.count) (by omega) c
      rw [e, List.length_append, laidTo_len]
      omega
  simp only [laidOk, Bool.and_eq_true] at h
  have := key runs 2000 (by omega) h.2
  omega
end Go.Proofs.YtpmipoljnchheaaGreat
namespace Go.Proofs.YtpmipoljnchheaaGreat
open Go.RowKit

set_option maxHeartbeats 400000 in
theorem refIsLength_any (n : Int) (w : World) :
    Calls Tryz.prog 108 #[.int .i64 n] w fun e w' => e = .returned (.bool (coordOk n)) ∧ w = w' := by
  have hr : coordOk n = (decide (-1048576 ≤ n) && decide (n ≤ 1048576)) := rfl
  rw [hr]
  cases q0 : decide (-1048576 ≤ n) <;> cases q1 : decide (n ≤ 1048576)
  all_goals
    go_enter Tryz.func108, Tryz.ntmps108
    go_wp2_with fail
    go_ret
    exact ⟨rfl, rfl⟩
set_option maxHeartbeats 400000 in
theorem refNearOne_any (n : Int) (w : World) :
    Calls Tryz.prog 151 #[.int .i64 n] w fun e w' => e = .returned (.bool (within n (-1048576) 1048576)) ∧ w = w' := by
  have hr : within n (-1048576) 1048576 = (decide (-1048576 ≤ n) && decide (n ≤ 1048576)) := rfl
  rw [hr]
  cases q0 : decide (-1048576 ≤ n) <;> cases q1 : decide (n ≤ 1048576)
  all_goals
    go_enter Tryz.func151, Tryz.ntmps151
    go_wp2_with fail
    go_ret
    exact ⟨rfl, rfl⟩
set_option maxHeartbeats 400000 in
theorem refAxis_any (n : Int) (w : World) :
    Calls Tryz.prog 150 #[.int .i64 n] w fun e w' => e = .returned (.bool (axisN n)) ∧ w = w' := by
  have hr : axisN n = (!decide (n = 0) && decide (-3 ≤ n) && decide (n ≤ 3)) := rfl
  rw [hr]
  by_cases q2 : n = 0
  · subst q2
    go_enter Tryz.func150, Tryz.ntmps150
    go_wp2_with fail
    go_ret
    exact ⟨rfl, rfl⟩
  have q2' : (n == 0) = false := by simpa using q2
  rw [decide_eq_false q2]
  clear hr q2
  cases q0 : decide (-3 ≤ n) <;> cases q1 : decide (n ≤ 3)
  all_goals
    go_enter Tryz.func150, Tryz.ntmps150
    go_wp2_with fail
    go_ret
    exact ⟨ret_bool (by simp [bne, q2']), rfl⟩
abbrev bxV (b : BoxD) : Value := .agg #[.int .i64 b.lo.1, .int .i64 b.lo.2.1, .int .i64 b.lo.2.2, .int .i64 b.hi.1, .int .i64 b.hi.2.1, .int .i64 b.hi.2.2]
def nthC (p : Pt) (k : Nat) : Int := if k = 0 then p.1 else if k = 1 then p.2.1 else p.2.2
set_option maxHeartbeats 400000 in
theorem refCoord_any (p1 p2 p3 : Int) (k : Nat) (hk : k < 3) (w : World) :
    Calls Tryz.prog 109 #[.agg #[.int .i64 p1, .int .i64 p2, .int .i64 p3], .int .i64 k] w fun e w' => e = .returned (.int .i64 (nthC (p1, p2, p3) k)) ∧ Below w.heap.size w w' := by
  rcases (show k = 0 ∨ k = 1 ∨ k = 2 by omega) with rfl | rfl | rfl
  all_goals
    go_enter Tryz.func109, Tryz.ntmps109
    go_wp2_with fail
    go_ret
    exact ⟨rfl, below_new _ _⟩
set_option maxHeartbeats 400000 in
theorem refNear_any (p : Pt) (w : World) :
    Calls Tryz.prog 104 #[ptA p] w fun e w' => e = .returned (.bool (nearBy 1048576 p)) ∧ Below w.heap.size w w' := by
  obtain ⟨p1, p2, p3⟩ := p
  have hr : nearBy 1048576 (p1, p2, p3) = (within p1 (-1048576) 1048576 && within p2 (-1048576) 1048576 && within p3 (-1048576) 1048576) := rfl
  rw [hr]
  have H1 := fun W => refNearOne_any p1 W
  have H2 := fun W => refNearOne_any p2 W
  have H3 := fun W => refNearOne_any p3 W
  generalize within p1 (-1048576) 1048576 = a1 at *
  generalize within p2 (-1048576) 1048576 = a2 at *
  generalize within p3 (-1048576) 1048576 = a3 at *
  have H1 := hide H1
  have H2 := hide H2
  have H3 := hide H3
  clear hr
  go_enter Tryz.func104, Tryz.ntmps104
  go_wp2_with fail
  refine (H1.out _).mono ?_
  rintro e w1 ⟨rfl, rfl⟩
  cases a1
  · go_wp2_with fail
    go_ret
    exact ⟨rfl, below_new _ _⟩
  go_wp2_with fail
  refine (H2.out _).mono ?_
  rintro e w1 ⟨rfl, rfl⟩
  cases a2
  · go_wp2_with fail
    go_ret
    exact ⟨rfl, below_new _ _⟩
  go_wp2_with fail
  refine (H3.out _).mono ?_
  rintro e w1 ⟨rfl, rfl⟩
  go_wp2_with fail
  go_ret
  exact ⟨rfl, below_new _ _⟩
set_option maxHeartbeats 1000000 in
theorem refTwice_any (p : Pt) (w : World) :
    Calls Tryz.prog 105 #[ptA p] w fun e w' => e = .returned (.bool (nearBy 2097152 p)) ∧ Below w.heap.size w w' := by
  obtain ⟨p1, p2, p3⟩ := p
  have hr : nearBy 2097152 (p1, p2, p3) = ((decide (-2097152 ≤ p1) && decide (p1 ≤ 2097152)) && (decide (-2097152 ≤ p2) && decide (p2 ≤ 2097152)) && (decide (-2097152 ≤ p3) && decide (p3 ≤ 2097152))) := rfl
  rw [hr]
  have hways : ((decide (-2097152 ≤ p1) && decide (p1 ≤ 2097152)) && (decide (-2097152 ≤ p2) && decide (p2 ≤ 2097152)) && (decide (-2097152 ≤ p3) && decide (p3 ≤ 2097152))) = (decide (-2097152 ≤ p1) && (decide (p1 ≤ 2097152) && (decide (-2097152 ≤ p2) && (decide (p2 ≤ 2097152) && (decide (-2097152 ≤ p3) && decide (p3 ≤ 2097152)))))) := by simp only [Bool.and_assoc]
  rw [hways]
  clear hr hways
  cases q0 : decide (-2097152 ≤ p1)
  · go_enter Tryz.func105, Tryz.ntmps105
    go_wp2_with fail
    go_ret
    exact ⟨rfl, below_new _ _⟩
  cases q1 : decide (p1 ≤ 2097152)
  · go_enter Tryz.func105, Tryz.ntmps105
    go_wp2_with fail
    go_ret
    exact ⟨rfl, below_new _ _⟩
  cases q2 : decide (-2097152 ≤ p2)
  · go_enter Tryz.func105, Tryz.ntmps105
    go_wp2_with fail
    go_ret
    exact ⟨rfl, below_new _ _⟩
  cases q3 : decide (p2 ≤ 2097152)
  · go_enter Tryz.func105, Tryz.ntmps105
    go_wp2_with fail
    go_ret
    exact ⟨rfl, below_new _ _⟩
  cases q4 : decide (-2097152 ≤ p3)
  · go_enter Tryz.func105, Tryz.ntmps105
    go_wp2_with fail
    go_ret
    exact ⟨rfl, below_new _ _⟩
  cases q5 : decide (p3 ≤ 2097152)
  all_goals
    go_enter Tryz.func105, Tryz.ntmps105
    go_wp2_with fail
    go_ret
    exact ⟨rfl, below_new _ _⟩
set_option maxHeartbeats 1000000 in
theorem refTurn_any (x y : Int) (w : World) :
    Calls Tryz.prog 103 #[.agg #[.int .i64 x, .int .i64 y]] w fun e w' => e = .returned (.bool (turnOk x y)) ∧ Below w.heap.size w w' := by
  have hr : turnOk x y = (axisN x && (axisN y && (!decide (x = y) && !decide (x = -y)))) := by simp only [turnOk, Bool.and_assoc]
  rw [hr]
  have hy : axisN y = true → -3 ≤ y ∧ y ≤ 3 := by
    intro h
    simp only [axisN, Bool.and_eq_true, decide_eq_true_eq] at h
    omega
  have H1 := fun W => refAxis_any x W
  have H2 := fun W => refAxis_any y W
  generalize axisN x = a1 at *
  generalize axisN y = a2 at *
  have H1 := hide H1
  have H2 := hide H2
  have Hy := hide hy
  clear hr hy
  go_enter Tryz.func103, Tryz.ntmps103
  go_wp2_with fail
  refine (H1.out _).mono ?_
  rintro e w1 ⟨rfl, rfl⟩
  cases a1
  · go_wp2_with fail
    go_ret
    exact ⟨rfl, below_new _ _⟩
  go_wp2_with fail
  refine (H2.out _).mono ?_
  rintro e w1 ⟨rfl, rfl⟩
  cases a2
  · go_wp2_with fail
    go_ret
    exact ⟨rfl, below_new _ _⟩
  have y1 := Hy.out rfl
  have y2 : wrap64 (-y) = -y := IntWalk.wrap64_in (-y) (by omega)
  clear y1
  go_wp2_with fail
  all_goals go_ret
  all_goals exact ⟨ret_bool (by cases h1 : decide (x = y) <;> cases h2 : decide (x = -y) <;> simp_all [bne]), below_new _ _⟩
end Go.Proofs.YtpmipoljnchheaaGreat
