/- Plain: what is inside a solid, and the drawing of a section. No walk stands here. Plain: what boxes cover; a binary search; the cover of a leg. No walk stands here. Plain: boxes cover a box just where they cover its points; so they cover what lies in it. No walk stands here. Whether a point is in the concrete of a solid: the program's Inside. sort.Search, with a function that may lay blocks. Plain: the sizes of marks, as a map. No walk stands here. The legs of a laid bar. law49.right: a detail is small, and valid. The area of a size: the program's, the reference's. -/
import Derived.Test.YtkmpddaobncheaaGreatDoorQas
import Derived.Test.YtkmpddaobncheaaGreatDoorQaa
import Derived.Lib.SlicesCompact
import Derived.Test.YtkmpddaobncheaaGreatDoorQac
import Derived.Test.YtkmpddaobncheaaGreatDoorQag
import Derived.Test.YtkmpddaobncheaaGreatDoorQar
import Derived.Test.YtkmpddaobncheaaGreatDoorQau
import Derived.Lib.QuietBelow
import Derived.Test.YtkmpddaobncheaaGreatDoorQaf
import Derived.BigRegion
import Derived.Deep.RegionHeld3
import Derived.StillTailTactics
import Derived.Test.YtkmpddaobncheaaGreatDoorQao
import Derived.Deep.RegionWith
import Derived.Test.YtkmpddaobncheaaGreatDoorQan
import Derived.Deep.Cut
import Derived.Test.YtkmpddaobncheaaGreatDoorQaw
import Derived.BigQuiet
namespace Go.Proofs.YtkmpddaobncheaaGreatDoor
open Go.RowKit

def holdsB (a b : BoxD) : Bool := decide (a.lo.1 ≤ b.lo.1) && decide (b.hi.1 ≤ a.hi.1) && decide (a.lo.2.1 ≤ b.lo.2.1) && decide (b.hi.2.1 ≤ a.hi.2.1) && decide (a.lo.2.2 ≤ b.lo.2.2) && decide (b.hi.2.2 ≤ a.hi.2.2)
end Go.Proofs.YtkmpddaobncheaaGreatDoor
namespace Go.Proofs.YtkmpddaobncheaaGreatDoor
open Go.RowKit

/-- A binary search. -/
def searchIn (p : Nat → Bool) : Nat → Nat → Nat → Nat
  | 0, i, _ => i
  | f + 1, i, j => if i < j then (if p ((i + j) / 2) then searchIn p f i ((i + j) / 2) else searchIn p f ((i + j) / 2 + 1) j) else i
theorem search_more (p : Nat → Bool) : ∀ f i j, j - i ≤ f → ∀ g, j - i ≤ g → searchIn p f i j = searchIn p g i j := by
  intro f
  induction f with
  | zero =>
    intro i j h g hg
    cases g with
    | zero => rfl
    | succ g => rw [searchIn, searchIn, if_neg (by omega)]
  | succ f ih =>
    intro i j h g hg
    cases g with
    | zero => rw [searchIn, searchIn, if_neg (by omega)]
    | succ g =>
      rw [searchIn, searchIn]
      by_cases hij : i < j
      · rw [if_pos hij, if_pos hij, ih i ((i + j) / 2) (by omega) g (by omega), ih ((i + j) / 2 + 1) j (by omega) g (by omega)]
      · rw [if_neg hij, if_neg hij]
theorem search_le (p : Nat → Bool) : ∀ f i j, i ≤ j → i ≤ searchIn p f i j ∧ searchIn p f i j ≤ j := by
  intro f
  induction f with
  | zero => intro i j h; rw [searchIn]; omega
  | succ f ih =>
    intro i j h
    rw [searchIn]
    by_cases hij : i < j
    · rw [if_pos hij]
      by_cases hp : p ((i + j) / 2) = true
      · rw [if_pos hp]
        have := ih i ((i + j) / 2) (by omega)
        omega
      · rw [if_neg hp]
        have := ih ((i + j) / 2 + 1) j (by omega)
        omega
    · rw [if_neg hij]
      omega
/-- sort.Search(n, p). -/
def searchB (p : Nat → Bool) (n : Nat) : Nat := searchIn p n 0 n
end Go.Proofs.YtkmpddaobncheaaGreatDoor
namespace Go.Proofs.YtkmpddaobncheaaGreatDoor
open Go.RowKit

/-- What lies in a box that is held is held. -/
def inside (a b : BoxD) : Prop := (b.lo.1 ≤ a.lo.1 ∧ a.hi.1 ≤ b.hi.1) ∧ (b.lo.2.1 ≤ a.lo.2.1 ∧ a.hi.2.1 ≤ b.hi.2.1) ∧ (b.lo.2.2 ≤ a.lo.2.2 ∧ a.hi.2.2 ≤ b.hi.2.2)
end Go.Proofs.YtkmpddaobncheaaGreatDoor
namespace Go.Proofs.YtkmpddaobncheaaGreatDoor
open Go.RowKit

def axPair (q : (Int × Int) × (Int × Int)) : Bool := decide (q.1.1 ≤ q.2.1) && decide (q.2.2 ≤ q.1.2)
theorem holdsB_zip (a b : BoxD) : holdsB a b = (((axes a).zip (axes b)).drop 0).all axPair := by
  simp [holdsB, axes, axPair, Bool.and_assoc]
set_option maxHeartbeats 2000000 in
theorem holdsB_any (a b : BoxD) (w : World) :
    Calls Tryz.prog 305 #[bx a, bx b] w fun e w' => e = .returned (.bool (holdsB a b)) ∧ Below w.heap.size w w' := by
  have HE := hide (fun (k : Nat) (p : Int × Int) (h : (axes a)[k]? = some p) (w : World) => ends_any a k p h w)
  have HF := hide (fun (k : Nat) (p : Int × Int) (h : (axes b)[k]? = some p) (w : World) => ends_any b k p h w)
  have Hok := hide (holdsB_zip a b)
  have HL := hide (show (axes a).length = 3 from rfl)
  have HM := hide (show (axes b).length = 3 from rfl)
  obtain ⟨⟨x, y, z⟩, ⟨x2, y2, z2⟩⟩ := a
  obtain ⟨⟨u, v, t⟩, ⟨u2, v2, t2⟩⟩ := b
  generalize axes ⟨(x, y, z), (x2, y2, z2)⟩ = ax at *
  generalize axes ⟨(u, v, t), (u2, v2, t2)⟩ = bx' at *
  obtain ⟨rb, hrb⟩ : ∃ rb, rb = holdsB ⟨(x, y, z), (x2, y2, z2)⟩ ⟨(u, v, t), (u2, v2, t2)⟩ := ⟨_, rfl⟩
  rw [← hrb] at Hok ⊢
  clear hrb
  go_enter Tryz.func305, Tryz.ntmps305
  go_wp2_with fail
  obtain ⟨w1, hw1⟩ : ∃ w1, w1 = (w.alloc (.cells #[.int .i64 x, .int .i64 y, .int .i64 z, .int .i64 x2, .int .i64 y2, .int .i64 z2] 51)).alloc (.cells #[.int .i64 u, .int .i64 v, .int .i64 t, .int .i64 u2, .int .i64 v2, .int .i64 t2] 51) := ⟨_, rfl⟩
  have hb := hide ((Blk.new w 51 #[.int .i64 x, .int .i64 y, .int .i64 z, .int .i64 x2, .int .i64 y2, .int .i64 z2]).alloc (.cells #[.int .i64 u, .int .i64 v, .int .i64 t, .int .i64 u2, .int .i64 v2, .int .i64 t2] 51))
  have hc := hide (Blk.new1 w (.cells #[.int .i64 x, .int .i64 y, .int .i64 z, .int .i64 x2, .int .i64 y2, .int .i64 z2] 51) 51 #[.int .i64 u, .int .i64 v, .int .i64 t, .int .i64 u2, .int .i64 v2, .int .i64 t2])
  have hw := hide (below_new2 w (.cells #[.int .i64 x, .int .i64 y, .int .i64 z, .int .i64 x2, .int .i64 y2, .int .i64 z2] 51) (.cells #[.int .i64 u, .int .i64 v, .int .i64 t, .int .i64 u2, .int .i64 v2, .int .i64 t2] 51))
  rw [← hw1] at hb hc hw ⊢
  clear hw1
  go_loopw [10] (fun i wr => ∃ k : Nat, k ≤ 3 ∧ i = .int .i64 k ∧ Hid (rb = ((ax.zip bx').drop k).all axPair) ∧ Below w1.heap.size w1 wr) (fun i _ => 3 - (intOf i).toNat)
  case atStart => exact ⟨0, Nat.zero_le _, rfl, Hok, Below.refl _ _⟩
  case round =>
    obtain ⟨k, hk, rfl, hq, hbr⟩ := hrel
    by_cases hlt : k < 3
    · obtain ⟨p, hp⟩ : ∃ p, ax[k]? = some p := ⟨_, List.getElem?_eq_getElem (by rw [HL.out]; exact hlt)⟩
      obtain ⟨r, hr⟩ : ∃ p, bx'[k]? = some p := ⟨_, List.getElem?_eq_getElem (by rw [HM.out]; exact hlt)⟩
      have hz : (ax.zip bx')[k]? = some (p, r) := by simp [List.getElem?_zip_eq_some, hp, hr]
      have hbk := hb.out.below hbr hb.out.lt
      have hck := hide (hc.out.below hbr hc.out.lt)
      have c0 := hbk.cell 0
      have c1 := hbk.cell 1
      have c2 := hbk.cell 2
      have c3 := hbk.cell 3
      have c4 := hbk.cell 4
      have c5 := hbk.cell 5
      simp at c0 c1 c2 c3 c4 c5
      have He := hide (HE.out k p hp wr)
      have Hf := hide (fun W => HF.out k r hr W)
      have Hn := hide (hq.out.trans (by rw [drop_at' hz, List.all_cons]))
      have Hbr := hide hbr
      clear hbk hp hr hz hq hbr
      obtain ⟨lo, hi⟩ := p
      obtain ⟨ff, tt⟩ := r
      simp only at He Hf Hn
      go_wp2_with fail
      refine He.out.mono ?_
      rintro e w2 ⟨rfl, hb2⟩
      have hck2 := hck.out.keep hb2
      have d0 := hck2.cell 0
      have d1 := hck2.cell 1
      have d2 := hck2.cell 2
      have d3 := hck2.cell 3
      have d4 := hck2.cell 4
      have d5 := hck2.cell 5
      simp at d0 d1 d2 d3 d4 d5
      have Hb2 := hide (below_step Hbr.out hb2 (Nat.le_refl _))
      clear hck2 hck hb2 c0 c1 c2 c3 c4 c5 Hbr He
      go_wp2_with fail
      refine (Hf.out _).mono ?_
      rintro e w3 ⟨rfl, hb3⟩
      have Hb3 := hide (below_step Hb2.out hb3 (Nat.le_refl _))
      clear hb3 d0 d1 d2 d3 d4 d5 Hb2 Hf
      have hcase : (axPair ((lo, hi), (ff, tt)) = true ∧ decide (ff < lo) = false ∧ decide (hi < tt) = false) ∨ (axPair ((lo, hi), (ff, tt)) = false ∧ decide (ff < lo) = true) ∨ (axPair ((lo, hi), (ff, tt)) = false ∧ decide (ff < lo) = false ∧ decide (hi < tt) = true) := by
        simp only [axPair, Bool.and_eq_true, Bool.and_eq_false_iff, decide_eq_true_eq, decide_eq_false_iff_not]
        omega
      rcases hcase with ⟨ha, q0, q1⟩ | ⟨ha, q0⟩ | ⟨ha, q0, q1⟩
      · have Hn2 := hide (Hn.out.trans (by rw [ha, Bool.true_and]))
        clear ha Hn
        go_wp2_with fail
        go_roundw
        case rel => exact ⟨k + 1, by omega, by go_num, Hn2, Hb3.out⟩
        case measure => simp [intOf]; omega
      all_goals
        have hres := hide (show rb = false by rw [Hn.out, ha]; rfl)
        clear ha Hn
        go_wp2_with fail
        go_ret
        exact ⟨ret_bool hres.out.symm, below_step hw.out Hb3.out (Nat.le_refl _)⟩
    · obtain rfl : k = 3 := by omega
      have hfull := hide (show rb = true by rw [hq.out, List.drop_of_length_le (by rw [List.length_zip, HL.out, HM.out]; decide)]; rfl)
      go_wp2_with fail
      go_ret
      exact ⟨ret_bool hfull.out.symm, below_step hw.out hbr (Nat.le_refl _)⟩
end Go.Proofs.YtkmpddaobncheaaGreatDoor
namespace Go.Proofs.YtkmpddaobncheaaGreatDoor
open Go.RowKit

theorem search_yes {p : Nat → Bool} {n i j : Nat} (h : searchIn p (j - i) i j = searchB p n) (hij : i < j) (hp : p ((i + j) / 2) = true) : searchIn p ((i + j) / 2 - i) i ((i + j) / 2) = searchB p n := by
  rw [← h]
  obtain ⟨f, hf⟩ : ∃ f, j - i = f + 1 := ⟨j - i - 1, by omega⟩
  rw [hf, searchIn, if_pos hij, if_pos hp]
  exact search_more p _ _ _ (Nat.le_refl _) _ (by omega)
theorem search_no {p : Nat → Bool} {n i j : Nat} (h : searchIn p (j - i) i j = searchB p n) (hij : i < j) (hp : p ((i + j) / 2) = false) : searchIn p (j - ((i + j) / 2 + 1)) ((i + j) / 2 + 1) j = searchB p n := by
  rw [← h]
  obtain ⟨f, hf⟩ : ∃ f, j - i = f + 1 := ⟨j - i - 1, by omega⟩
  rw [hf, searchIn, if_pos hij, if_neg (by rw [hp]; simp)]
  exact search_more p _ _ _ (Nat.le_refl _) _ (by omega)
theorem search_end {p : Nat → Bool} {n i : Nat} (h : searchIn p (i - i) i i = searchB p n) : searchB p n = i := by
  rw [← h, Nat.sub_self, searchIn]
set_option maxHeartbeats 2000000 in
theorem search_any (p : Nat → Bool) (n : Nat) (fid : FuncId) (caps : Array Value) (w : World) (hn : n ≤ 3000000)
    (hf : ∀ (k : Nat) (W : World), k < n → Below w.heap.size w W → Calls Tryz.prog fid (#[.int .i64 (k : Int)] ++ caps) W fun e W' => e = .returned (.bool (p k)) ∧ Below W.heap.size W W')
    (hc : ∀ args w, (callFunc fid args).run Tryz.prog w = .ok (.enter fid args) w) :
    Calls Tryz.prog 201 #[.int .i64 (n : Int), .func (.func fid) #[] caps] w fun e w' => e = .returned (.int .i64 (searchB p n : Nat)) ∧ Below w.heap.size w w' := by
  have Hf := hide hf
  clear hf
  go_enter Tryz.func201, Tryz.ntmps201
  go_wp2_with fail
  go_loopw [5, 6] (fun iv jv wr => ∃ i j : Nat, iv = .int .i64 (i : Int) ∧ jv = .int .i64 (j : Int) ∧ i ≤ j ∧ j ≤ n ∧ Hid (searchIn p (j - i) i j = searchB p n) ∧ Below w.heap.size w wr) (fun iv jv _ => (intOf jv - intOf iv).toNat)
  case atStart => exact ⟨0, n, rfl, rfl, Nat.zero_le _, Nat.le_refl _, hide rfl, Below.refl _ _⟩
  case round =>
    obtain ⟨i, j, rfl, rfl, hij, hjn, hs, hb⟩ := hrel
    by_cases hlt : i < j
    · have z1 : IntKind.i64.wrap ((i : Int) + (j : Int)) = (i : Int) + (j : Int) := IntWalk.i64_in _ (by omega)
      have dk : decide ((i : Int) < (j : Int)) = true := by simp; omega
      have HF := hide (fun (W : World) (hz : Below w.heap.size w W) => Hf.out ((i + j) / 2) W (by omega) hz)
      have Hy := hide (fun (h : p ((i + j) / 2) = true) => search_yes hs.out hlt h)
      have Hn := hide (fun (h : p ((i + j) / 2) = false) => search_no hs.out hlt h)
      clear hs
      obtain ⟨m, hm⟩ : ∃ m, m = (i + j) / 2 := ⟨_, rfl⟩
      rw [← hm] at HF Hy Hn
      have hmz : ((i : Int) + (j : Int)) / 2 = (m : Int) := by omega
      have hm1 : i ≤ m := by omega
      have hm2 : m < j := by omega
      have z2 : IntKind.i64.wrap ((m : Int) + 1) = (m : Int) + 1 := IntWalk.i64_in _ (by omega)
      clear hm
      go_wp2_with fail
      refine (HF.out _ hb).mono ?_
      rintro e w1 ⟨rfl, hb1⟩
      have Hb1 := hide (below_step hb hb1 (Nat.le_refl _))
      clear hb hb1 HF
      cases hp : p m
      · have Hs := hide (Hn.out hp)
        clear hp Hn Hy
        go_wp2_with fail
        go_roundw
        case rel => exact ⟨m + 1, j, by go_num, rfl, by omega, hjn, Hs, Hb1.out⟩
        case measure => simp [intOf]; omega
      · have Hs := hide (Hy.out hp)
        clear hp Hn Hy
        go_wp2_with fail
        go_roundw
        case rel => exact ⟨i, m, rfl, rfl, hm1, by omega, Hs, Hb1.out⟩
        case measure => simp [intOf]; omega
    · obtain rfl : i = j := by omega
      have dk : decide ((i : Int) < (i : Int)) = false := by simp
      have Hr := hide (search_end hs.out)
      clear hs
      go_wp2_with fail
      go_ret
      exact ⟨ret_int (by rw [Hr.out]), hb⟩
end Go.Proofs.YtkmpddaobncheaaGreatDoor
namespace Go.Proofs.YtkmpddaobncheaaGreatDoor
open Go.RowKit

theorem bar_size {bars : List BarD} {runs : List RunD} (hok : laidOk bars runs = true) {x : BarD} (hx : x ∈ bars) : isSize x.size = true := by
  have h := (laidOk_mem hok).1 x hx
  simp only [barOk, Bool.and_eq_true] at h
  simp_all
end Go.Proofs.YtkmpddaobncheaaGreatDoor
namespace Go.Proofs.YtkmpddaobncheaaGreatDoor
open Go.RowKit

theorem hull_pair (p q : Pt) : hullOf [ptBox p, ptBox q] = legBox p q := by
  obtain ⟨p1, p2, p3⟩ := p
  obtain ⟨q1, q2, q3⟩ := q
  simp [hullOf, hullOn, ptBox, legBox, minP, maxP]
theorem ptBox_ok {p : Pt} (h : nearBy 1048576 p = true) : boxOk (ptBox p) = true := by
  obtain ⟨a, b, c⟩ := nearBy_iff.1 h
  rw [boxOk_iff]
  simp only [ptBox]
  omega
theorem leg_ok {p q : Pt} (hp : nearBy 1048576 p = true) (hq : nearBy 1048576 q = true) : boxOk (legBox p q) = true := by
  obtain ⟨a, b, c⟩ := nearBy_iff.1 hp
  obtain ⟨d, e, f⟩ := nearBy_iff.1 hq
  rw [boxOk_iff]
  simp only [legBox, minP, maxP]
  omega
/-- Two points next to each other, out of a slice of points. -/
theorem pts_pair {w : World} {B b off : Nat} {l : List Pt} {k : Nat} {p q : Pt} (h : PtsAt w B (some ⟨b, off, none⟩) l) (hp : l[k]? = some p) (hq : l[k + 1]? = some q) : PtsAt w B (some ⟨b, off + k * 3, none⟩) [p, q] := by
  obtain ⟨b', off', hA, hb, hc⟩ := h (by have := lt_of_get hp; omega)
  injection hA with hA
  injection hA with h1 h2
  subst h1
  subst h2
  intro _
  refine ⟨b, off + k * 3, rfl, hb, fun j x hx => ?_⟩
  have hj : l[k + j]? = some x := by
    match j, hx with
    | 0, hx => simp at hx; subst hx; exact hp
    | 1, hx => simp at hx; subst hx; exact hq
    | j + 2, hx => simp at hx
  obtain ⟨vs, hs, hr, hv⟩ := hc (k + j) x hj
  exact ⟨vs, hs, hr, fun i v hi => by
    have := hv i v hi
    rwa [show off + (k + j) * 3 + i = off + k * 3 + j * 3 + i by omega] at this⟩
theorem laid_near {bars : List BarD} : ∀ (runs : List RunD) (i : Nat) (l : LaidD), (∀ r ∈ runs, runOk bars r = true) → (laidAll bars runs)[i]? = some l → (∀ p ∈ l.pts, nearBy 1048576 p = true) ∧ 1 ≤ l.pts.length ∧ l.pts.length ≤ 7 := by
  intro runs
  induction runs with
  | nil => intro i l _ h; simp [laidAll] at h
  | cons r runs ih =>
    intro i l hok h
    obtain ⟨j, x, hj, hx', hx, _⟩ := runOk_bar (hok r (by simp))
    have e : laidAll bars (r :: runs) = laidTo x r r.count.toNat ++ laidAll bars runs := by rw [← laidRun_of hx]; simp [laidAll]
    rw [e] at h
    by_cases hi : i < r.count.toNat
    · rw [List.getElem?_append_left (by rw [laidTo_len]; exact hi)] at h
      simp [laidTo, hi] at h
      subst h
      refine ⟨runOk_near (hok r (by simp)) hx (by omega) (by omega), ?_⟩
      simp only [ptsOf, List.length_map, pathOf_len]
      have := legsOf_len x.code
      omega
    · rw [List.getElem?_append_right (by rw [laidTo_len]; omega)] at h
      exact ih _ l (fun z hz => hok z (List.mem_cons_of_mem _ hz)) h
set_option maxHeartbeats 4000000 in
set_option maxRecDepth 100000 in
theorem laidLegs_row (A3 A4 : Option Addr) (bars : List BarD) (runs : List RunD) (n3 c3 n4 c4 i : Nat) (ld : LaidD) (w : World) {B : Nat} (h3 : BarsAt w B A3 bars) (h4 : RunsAt w B A4 runs) (hB : B ≤ w.heap.size) (l3 : n3 = bars.length) (l4 : n4 = runs.length) (m3 : n3 ≤ 60000) (m4 : n4 ≤ 60000) (htame : Tame bars) (hok : laidOk bars runs = true) (hi : (laidAll bars runs)[i]? = some ld) :
    Calls Tryz.prog 276 #[.slice A3 n3 c3, .slice A4 n4 c4, .int .i64 i] w fun e w' => ∃ A c, e = .returned (.tuple #[.slice A (legsOfPts ld.pts).length c, .int .i64 0]) ∧ Row w' w.heap.size 51 6 encB (.slice A (legsOfPts ld.pts).length c) (legsOfPts ld.pts) ∧ Below w.heap.size w w' := by
  have HP := hide (laidPath_ok A3 A4 bars runs n3 c3 n4 c4 i ld w h3 h4 hB l3 l4 m3 m4 htame hok hi)
  obtain ⟨hnear, hl1, hl7⟩ := laid_near runs i ld (laidOk_mem hok).2.2 hi
  have Hnear := hide hnear
  obtain ⟨pts, hpts⟩ : ∃ pts, pts = ld.pts := ⟨_, rfl⟩
  rw [← hpts] at HP hl1 hl7 Hnear ⊢
  obtain ⟨n, hn⟩ : ∃ n, n = pts.length := ⟨_, rfl⟩
  rw [← hn] at HP hl1 hl7
  have Hn := hide hn
  clear h3 h4 hB l3 l4 m3 m4 htame hok hi hnear hpts hn
  go_enter Tryz.func276, Tryz.ntmps276
  go_wp2_with fail
  refine HP.out.mono ?_
  rintro e w1 ⟨A, rfl, hp, hb1⟩
  have Hp := hide hp
  have Hb1 := hide hb1
  clear HP hp hb1
  go_wp2_with fail
  go_loopw [10, 11] (fun v iv wr => ∃ k : Nat, k + 1 ≤ n ∧ iv = .int .i64 ((k : Int) + 1) ∧ (∃ acc : List BoxD, Row wr w1.heap.size 51 6 encB v acc ∧ Hid (acc = (legsOfPts pts).take k)) ∧ Below w1.heap.size w1 wr) (fun _ iv _ => n - (intOf iv).toNat)
  case atStart => exact ⟨0, hl1, rfl, ⟨[], Row.nil _ _ _ _ _, hide rfl⟩, Below.refl _ _⟩
  case round =>
    obtain ⟨k, hk, rfl, ⟨acc, hrow, hacc⟩, hbr⟩ := hrel
    obtain ⟨A0, c0, rfl⟩ := hrow.val
    have hal : acc.length ≤ 1000 := by rw [hacc.out, List.length_take]; omega
    have Hrow := hide hrow
    clear hrow
    by_cases hlt : k + 1 < n
    · obtain ⟨b, off, p, hA, hbl, hx, e3, e4, e5⟩ := PtsAt.get (k := k) (Hp.out.carry (Flat.carried _) hbr hbr.size) (by rw [← Hn.out]; omega)
      obtain ⟨b', off', q, hA', hbl', hy, e0, e1, e2⟩ := PtsAt.get (k := k + 1) (Hp.out.carry (Flat.carried _) hbr hbr.size) (by rw [← Hn.out]; exact hlt)
      clear hA' hbl' e0 e1 e2 e3 e4 e5
      subst hA
      have hsub : k + 1 + 1 - k = 2 := by omega
      have HPo := hide (fun (W : World) (hz : Below w1.heap.size w1 W) => points_any (some ⟨b, off + k * 3, none⟩) [p, q] 2 (n - k) W (pts_pair (Hp.out.carry (Flat.carried _) hz (Nat.le_refl _)) hx hy) hz.size rfl (by omega))
      have HHu := hide (fun (W : World) (A' : Option Addr) (c' : Nat) (h : BoxesAt W W.heap.size A' ([p, q].map ptBox)) => boxHull_ok A' ([p, q].map ptBox) 2 c' W h (Nat.le_refl _) rfl (by omega) (by omega) (by simp [ptBox_ok (Hnear.out p (mem_of_get hx)), ptBox_ok (Hnear.out q (mem_of_get hy))]))
      have Hhp := hide (show hullOf ([p, q].map ptBox) = legBox p q from hull_pair p q)
      have Hn2 := hide (show (legsOfPts pts).take (k + 1) = acc ++ [legBox p q] by rw [take_snoc' (legsOfPts_at pts k p q hx hy), hacc.out])
      have z1 : IntKind.i64.wrap ((k : Int) + 1 - 1) = (k : Int) := by rw [Int.add_sub_cancel]; exact IntWalk.i64_in _ (by omega)
      have z2 : IntKind.i64.wrap (k : Int) = (k : Int) := IntWalk.i64_in _ (by omega)
      have z3 : IntKind.i64.wrap ((k : Int) + 1 + 1) = (k : Int) + 1 + 1 := IntWalk.i64_in _ (by omega)
      have HB := hide hbr
      clear hx hy hbl hbr
      go_wp2_with fail
      refine (HPo.out _ HB.out).mono ?_
      rintro e w2 ⟨A6, c6, rfl, hbx, hb2⟩
      have HHu2 := hide (HHu.out w2 A6 c6 hbx)
      have HB2 := hide (below_step HB.out hb2 (Nat.le_refl _))
      have Hrow2 := hide (Hrow.out.keep hb2)
      clear hbx hb2 HPo HHu
      go_wp2_with fail
      refine HHu2.out.mono ?_
      rintro e w3 ⟨rfl, hb3⟩
      rw [Hhp.out]
      have HB3 := hide (below_step HB2.out hb3 (Nat.le_refl _))
      have Hrow3 := hide (Hrow2.out.keep hb3)
      generalize legBox p q = lb at *
      obtain ⟨⟨x1, x2, x3⟩, x4, x5, x6⟩ := lb
      have hs3 := HB3.out.size
      clear hb3 HHu2 Hhp
      go_wp2_with (at_builtin; refine wpList_append1 rfl (.tmp 44) (.tmp 46) 22 rfl w1.heap.size 51 (.agg #[.int .i64 0, .int .i64 0, .int .i64 0, .int .i64 0, .int .i64 0, .int .i64 0]) 6 48 encB Tryz.underlying22 (by kernel_rfl) rfl (by omega) encB_len encB_one _ acc ⟨(x1, x2, x3), (x4, x5, x6)⟩ rfl ((Hrow3.out.alloc _).alloc _) _ rfl (Blk.new1 w3 _ _ _) (by omega) (by omega) (le_alloc (le_alloc hs3 _) _) ?_; intro A1 c1 w6 hrow6 hb6 _)
      go_roundw
      case rel => exact ⟨k + 1, by omega, by go_num, ⟨acc ++ [⟨(x1, x2, x3), (x4, x5, x6)⟩], by simpa using hrow6, hide Hn2.out.symm⟩, ((HB3.out.alloc hs3 _).alloc (le_alloc hs3 _) _).trans hb6⟩
      case measure => simp [intOf]; omega
    · have hk9 : k + 1 = n := by omega
      have hf : acc = legsOfPts pts := by
        rw [hacc.out]
        exact List.take_of_length_le (by rw [legsOfPts_len, ← Hn.out]; omega)
      have hlen := hide (show (legsOfPts pts).length = acc.length by rw [hf])
      have Hr := hide (show Row wr w.heap.size 51 6 encB (.slice A0 (legsOfPts pts).length c0) (legsOfPts pts) by rw [← hf]; exact rowBase Hb1.out.size Hrow.out)
      have Hb := hide (below_step Hb1.out hbr (Nat.le_refl _))
      clear hf hacc Hrow hbr
      generalize acc.length = m at *
      go_wp2_with fail
      go_ret2
      exact ⟨A0, c0, by rw [hlen.out]; rfl, Hr.out, Hb.out⟩
end Go.Proofs.YtkmpddaobncheaaGreatDoor
namespace Go.Proofs.YtkmpddaobncheaaGreatDoor
open Go.RowKit

theorem wpList_load_row_g {P : Program} {ops : Array Oper} {rest : List Oper} {o : Oper} {a : Act} {w : World} {Q : Exit → Act → World → Prop} (hw : Region.wanted o (yielded ops a.tmps) = true) (ty : TypeId) (x : Operand) (ho : o.op = .load ty x)
    (g : Nat) (hx : a.eval x = .pointer (some ⟨g, 0, none⟩)) (t : TypeId) (cs : Array Value) (fr : Nat × Nat) (d : TypeDesc) (hg : w.heap[g]? = some (.cells cs t fr))
    (hu : P.underlying ty = some d) (hd : (match d with | .struct _ | .array _ _ => true | _ => false) = true) (hi : (P.info? ty).map (·.size) = some cs.size)
    (h : wpList P ops Q rest (a.put o.dst (.agg cs)) w) : wpList P ops Q (o :: rest) a w :=
  wpList_step fun K hK => by
    rw [if_pos hw]
    exact wp_load_row ty x ho g hx t cs fr d hg hu hd hi (hK _ _ h)
end Go.Proofs.YtkmpddaobncheaaGreatDoor
namespace Go.Proofs.YtkmpddaobncheaaGreatDoor
open Go.RowKit

set_option maxHeartbeats 400000 in
theorem area_any (d : Int) (w : World) (hd : isSize d = true) :
    Calls Tryz.prog 281 #[.int .i64 d] w fun e w' => e = .returned (.int .i64 (areaOf d)) ∧ w = w' := by
  have hm := isSize_mem hd
  clear hd
  simp [steelSizes] at hm
  rcases hm with rfl | rfl | rfl | rfl | rfl | rfl | rfl | rfl | rfl
  all_goals
    go_enter Tryz.func281, Tryz.ntmps281
    go_wp2_with fail
    go_ret
    exact ⟨ret_int (by simp [areaOf]), rfl⟩
set_option maxHeartbeats 400000 in
theorem area1_any (d : Int) (w : World) (g : Nat) (hd : isSize d = true) (h1 : w.cell? ⟨g, 0, none⟩ = some (.int .i64 d)) :
    Calls Tryz.prog 280 #[.pointer (some ⟨g, 0, none⟩)] w fun e w' => e = .returned (.int .i64 (areaOf d)) ∧ w = w' := by
  have HA := hide (fun W => area_any d W hd)
  clear hd
  go_enter Tryz.func280, Tryz.ntmps280
  go_wp2_with fail
  refine (HA.out _).mono ?_
  rintro e w1 ⟨rfl, rfl⟩
  go_wp2_with fail
  go_ret
  exact ⟨rfl, rfl⟩
set_option maxHeartbeats 400000 in
theorem area_ok (d : Int) (w : World) (hd : isSize d = true) :
    Calls Tryz.prog 244 #[.int .i64 d] w fun e w' => e = .returned (.tuple #[.int .i64 (areaOf d), .int .i64 0]) ∧ Below w.heap.size w w' := by
  have Hd := hide hd
  clear hd
  go_enter Tryz.func244, Tryz.ntmps244
  go_wp2_with fail
  refine (sized_ok d (areaOf d) _ _ _ Hd.out Tryz.call280 (fun W hb => area1_any d W _ Hd.out (((Blk.new w 3 #[.int .i64 d]).keep hb).cell 0))).mono ?_
  rintro e w1 ⟨rfl, hb⟩
  have HB := hide (below_step (below_new w _) hb (Nat.le_refl _))
  clear hb
  go_wp2_with fail
  go_ret2
  exact ⟨rfl, HB.out⟩
end Go.Proofs.YtkmpddaobncheaaGreatDoor
