/- The report of a cutting plan. -/
import Derived.Test.YtnhmdgkhmkeopaaGreatDoorWaste
import Derived.Test.YtnhmdgkhmkeopaaGreatDoorSteelRep
import Derived.StillTailTactics
namespace Go.Proofs.YtnhmdgkhmkeopaaGreatDoor
open Go.RowKit

def patHead (s : List StkD) (x : PatD) : List Word := [.str wLength, .num (lenAt s x.stock), .str wTimes, .num x.times, .str wPieces]
theorem patWords_eq (s : List StkD) (x : PatD) : patWords s x = patHead s x ++ x.pieces.map Word.num := rfl
def encWord (x : Word) : List Value := [x.val]
def patW (yl ti : Int) (ps : List Int) : List Word := [.str wLength, .num yl, .str wTimes, .num ti, .str wPieces] ++ ps.map Word.num
theorem patW_len (yl ti : Int) (ps : List Int) : (patW yl ti ps).length = 5 + ps.length := by simp [patW]; omega
theorem patW_snoc (yl ti : Int) (ps : List Int) (y : Int) : patW yl ti (ps ++ [y]) = patW yl ti ps ++ [.num y] := by simp [patW]
theorem encWord_len (x : Word) : (encWord x).length = 1 := rfl
theorem encWord_one (x : Word) : ∀ u ∈ encWord x, u.oneCell' = true := by
  intro u hu
  simp [encWord] at hu
  subst hu
  cases x <;> rfl
section
variable {AS A AP : Option Addr} {s : List StkD} {l : List PieD} {p : List PatD} {n1 n2 n3 : Nat} {w : World} {B : Nat}
set_option maxHeartbeats 1000000 in
theorem repCut_no (c1 c2 c3 : Nat) (h : SLP w B AS s n1 A l n2 AP p n3) (hB : B ≤ w.heap.size) (hc : chkB s l p = false) :
    Calls Tryz.prog 22 #[.slice AS n1 c1, .slice A n2 c2, .slice AP n3 c3] w fun e w' => e = .returned (.tuple #[.string ⟨#[]⟩, .int .i64 (wasteE s l p)]) ∧ Below w.heap.size w w' := by
  have HC := waste_no c1 c2 c3 h hB hc
  have hw : wasteE s l p = 13 ∨ wasteE s l p = 1 := by
    rw [wasteE]
    cases chkOk s l
    · exact .inr rfl
    · exact .inl rfl
  rcases hw with hw | hw
  all_goals
    rw [hw] at HC ⊢
    have HC := hide HC
    clear h hc hw
    go_enter Tryz.func22, Tryz.ntmps22
    go_wp2_with fail
    refine HC.out.mono ?_
    rintro e w2 ⟨rfl, hb2⟩
    clear HC
    go_wp2_with fail
    go_ret2
    exact ⟨rfl, hb2⟩
theorem headWords_ok {n sum waste : Int} (h : ∀ x ∈ [n, sum, waste], -10000000000000000 < x ∧ x < 10000000000000000) : ∀ x ∈ headWords n sum waste, x.ok := by
  have a := h n (by simp)
  have b := h sum (by simp)
  have c := h waste (by simp)
  intro x hx
  simp only [headWords, List.mem_cons, List.not_mem_nil, or_false] at hx
  rcases hx with rfl | rfl | rfl | rfl | rfl | rfl
  · simp [Word.ok, wLengths, ByteArray.size]
  · simp only [Word.ok]; omega
  · simp [Word.ok, wSum, ByteArray.size]
  · simp only [Word.ok]; omega
  · simp [Word.ok, wWaste, ByteArray.size]
  · simp only [Word.ok]; omega
theorem patWords_ok {x : PatD} (h : ∀ n ∈ lenAt s x.stock :: x.times :: x.pieces, -10000000000000000 < n ∧ n < 10000000000000000) : ∀ y ∈ patWords s x, y.ok := by
  have a := h (lenAt s x.stock) (by simp)
  have b := h x.times (by simp)
  intro y hy
  simp only [patWords, List.mem_append, List.mem_cons, List.not_mem_nil, or_false, List.mem_map] at hy
  rcases hy with (rfl | rfl | rfl | rfl | rfl) | ⟨n, hn, rfl⟩
  · simp [Word.ok, wLength, ByteArray.size]
  · simp only [Word.ok]; omega
  · simp [Word.ok, wTimes, ByteArray.size]
  · simp only [Word.ok]; omega
  · simp [Word.ok, wPieces, ByteArray.size]
  · have c := h n (by simp [hn])
    simp only [Word.ok]; omega
theorem pat_small (h : chkB s l p = true) {x : PatD} (hx : x ∈ p) : x.pieces.length = l.length ∧ x.pieces.length ≤ 200 ∧ ∀ n ∈ lenAt s x.stock :: x.times :: x.pieces, -10000000000000000 < n ∧ n < 10000000000000000 := by
  obtain ⟨o1, o2, o3, o4⟩ := usedOk_of h
  obtain ⟨a1, a2⟩ := rightOk_pieces o3 o2 hx
  obtain ⟨t0, t1, t2, t3⟩ := planOk_mem o4 hx
  have hr := lenAt_range o1 t0 t1
  refine ⟨a1, by rw [a1]; exact ordOk_len o2, fun n hn => ?_⟩
  rcases List.mem_cons.1 hn with rfl | hn
  · omega
  rcases List.mem_cons.1 hn with rfl | hn
  · omega
  have := a2 n hn
  omega
theorem head_small (h : chkB s l p = true) : ∀ x ∈ [usedN p, usedSum s p, wasteOf s l p], -10000000000000000 < x ∧ x < 10000000000000000 := by
  obtain ⟨r1, r2, r3⟩ := waste_range h
  have hw : wasteOf s l p = usedSum s p - ordSum l := rfl
  intro x hx
  simp only [List.mem_cons, List.not_mem_nil, or_false] at hx
  rcases hx with rfl | rfl | rfl <;> omega
theorem patLines_len (h : chkB s l p = true) : ∀ (q : List PatD), (∀ x ∈ q, x ∈ p) → (patLines s q).length ≤ 210000000 * q.length := by
  intro q
  induction q with
  | nil => intro _; simp [patLines]
  | cons x r ih =>
    intro hq
    obtain ⟨_, h2, h3⟩ := pat_small h (hq x (List.mem_cons_self ..))
    have h1 := lineBytes_len (patWords_ok h3)
    have h4 := ih (fun y hy => hq y (List.mem_cons_of_mem _ hy))
    have h5 : (patWords s x).length = 5 + x.pieces.length := by simp [patWords]; omega
    simp only [patLines, List.flatMap_cons, List.length_append, List.length_cons] at h4 ⊢
    omega
theorem Row.words {w : World} {base : Nat} {e : TypeId} {v : Value} {l : List Word} (h : Row w base e 1 encWord v l) (h0 : 0 < l.length) :
    ∃ g c cur, v = .slice (some ⟨g, 0, none⟩) l.length c ∧ Blk w g e cur ∧ base ≤ g ∧ ∀ (j : Nat) (x : Word), l[j]? = some x → cur[j]? = some (Word.val x) := by
  rcases h.2 with ⟨_, h2⟩ | ⟨g, cap, cur, hv, hb, hg, _, _, _, ht⟩
  · omega
  · refine ⟨g, cap, cur, hv, hg, hb, fun j x hx => ?_⟩
    have h3 := flatMap_get encWord_len l j x hx 0 (Word.val x) rfl
    rw [← ht, Nat.mul_one, Nat.add_zero, Nat.mul_one, List.getElem?_take, Array.getElem?_toList] at h3
    split at h3
    · exact h3
    · cases h3
set_option maxHeartbeats 4000000 in
set_option maxRecDepth 100000 in
theorem repCut_ok (c1 c2 c3 : Nat) (h : SLP w B AS s n1 A l n2 AP p n3) (hB : B ≤ w.heap.size) (hc : chkB s l p = true) (hp40 : n3 ≤ 100) (ht : TB B w) :
    Calls Tryz.prog 22 #[.slice AS n1 c1, .slice A n2 c2, .slice AP n3 c3] w fun e w' => e = .returned (.tuple #[.string ⟨(cutText s l p).toArray⟩, .int .i64 0]) ∧ Below w.heap.size w w' := by
  obtain ⟨o1, o2, o3, o4⟩ := usedOk_of hc
  have HW := hide (waste_ok c1 c2 c3 h hB hc)
  have HU := hide (fun (wz : World) (hz : Below w.heap.size w wz) => used_ok c1 c3 (h.carry (hz.mono hB) (Nat.le_refl _)) (Nat.le_trans hB hz.size) o1 o4)
  have Hhead := hide (headWords_ok (head_small hc))
  have Hlines := hide (fun k => patLines_len hc (p.take k) (fun x hx => List.mem_of_mem_take hx))
  have Hsmall := hide (fun x (hx : x ∈ p) => pat_small hc hx)
  have Hmem := hide (fun x (hx : x ∈ p) => planOk_mem o4 hx)
  have Hs := hide h.hs
  have Hp := hide h.hp
  have hn1' := hide h.hn1
  have hn3' := hide h.hn3
  have Ht := hide ht
  have Hhl := hide (lineBytes_len Hhead.out)
  have Htext := hide (show cutText s l p = lineBytes (headWords (usedN p) (usedSum s p) (wasteOf s l p)) ++ patLines s (p.take n3) by rw [h.hn3, List.take_length]; rfl)
  generalize cutText s l p = ct at *
  generalize wasteOf s l p = wv at *
  generalize usedSum s p = us at *
  generalize usedN p = un at *
  clear h hc o1 o2 o3 o4 ht
  go_enter Tryz.func22, Tryz.ntmps22
  go_wp2_with fail
  refine HW.out.mono ?_
  rintro e w2 ⟨rfl, hb2⟩
  clear HW
  go_wp2_with fail
  refine (HU.out _ hb2).mono ?_
  rintro e w3 ⟨rfl, hb3⟩
  have Hb3 := hide (below_step hb2 hb3 (Nat.le_refl _))
  have Ht3 := hide (Ht.out.carry (Hb3.out.mono hB))
  have hB3 := Nat.le_trans hB Hb3.out.size
  have Hbd := hide (fresh_text w3)
  clear hb2 hb3 HU
  go_wp2_with fail
  have hBx : w3.heap.size ≤ ((w3.alloc (.cells #[.pointer none, .slice none 0 0] 76)).alloc (.cells #[.iface 9 (.string wLengths), .iface 3 (.int .i64 un), .iface 9 (.string wSum), .iface 3 (.int .i64 us), .iface 9 (.string wWaste), .iface 3 (.int .i64 wv)] 20)).heap.size := by simp; omega
  refine (line_any (headWords un us wv) (w3.heap.size + 1) 6 6 _ B w3.heap.size w3.heap.size [] _ (IsBuilder.keep Hbd.out (below_new (w3.alloc _) _)) hBx hB3
      (Ht3.out.carry ((below_new2 w3 _ _).mono hB3)) (Blk.new1 w3 _ _ _) rfl ?_ Hhead.out (by omega) (Nat.zero_le _)).mono ?_
  · intro i x hi
    simp only [headWords] at hi
    rcases i with _ | _ | _ | _ | _ | _ | i <;> simp at hi <;> (try subst hi) <;> rfl
  rintro e w4 ⟨rfl, hbd4, hb4, _⟩
  obtain ⟨hd, hhd⟩ : ∃ hd, hd = lineBytes (headWords un us wv) := ⟨_, rfl⟩
  rw [List.nil_append, ← hhd] at hbd4
  rw [← hhd] at Htext Hhl
  have Hne := hide (show hd ≠ [] by rw [hhd]; simp [lineBytes])
  have hh6 : (headWords un us wv).length = 6 := rfl
  rw [hh6] at Hhl
  have Hbd4 := hide hbd4
  have Hb4 := hide ((below_new2 w3 (.cells #[.pointer none, .slice none 0 0] 76) (.cells #[.iface 9 (.string wLengths), .iface 3 (.int .i64 un), .iface 9 (.string wSum), .iface 3 (.int .i64 us), .iface 9 (.string wWaste), .iface 3 (.int .i64 wv)] 20)).trans hb4)
  clear hbd4 hb4 hhd hh6 hBx Hbd Hhead
  go_wp2_with fail
  go_loopw [51] (fun i wr => ∃ k : Nat, k ≤ n3 ∧ i = .int .i64 k ∧ Bld wr 76 w3.heap.size w3.heap.size (hd ++ patLines s (p.take k)) ∧ Below w3.heap.size w3 wr) (fun i _ => n3 - (intOf i).toNat)
  case atStart => exact ⟨0, Nat.zero_le _, rfl, by simpa [patLines] using Hbd4.out, Hb4.out⟩
  case round =>
    clear Hbd4 Hb4
    obtain ⟨k, hk, rfl, hbd, hbr⟩ := hrel
    have Hbd := hide hbd
    have hBr := hbr.size
    have Hbw := hide (below_step Hb3.out hbr (Nat.le_refl _))
    clear hbd
    by_cases hlt : k < n3
    · obtain ⟨b, off, x, A', c', hA, hbl, hx, hi, e0, e1, e2⟩ := PatsAt.get (k := k) Hp.out (by rw [← hn3'.out]; exact hlt)
      subst hA
      have hbw0 : b < w.heap.size := by omega
      replace e0 := (Hbw.out.cell (p := ⟨b, off + k * 3, none⟩) hbw0).trans e0
      replace e1 := (Hbw.out.cell (p := ⟨b, off + k * 3 + 1, none⟩) hbw0).trans e1
      replace e2 := (Hbw.out.cell (p := ⟨b, off + k * 3 + 2, none⟩) hbw0).trans e2
      obtain ⟨t0, t1, t2, t3⟩ := Hmem.out x (mem_of_get hx)
      obtain ⟨q0, q1, q2⟩ := Hsmall.out x (mem_of_get hx)
      have Hok := hide (patWords_ok q2)
      have Hnext := hide (show patLines s (p.take (k + 1)) = patLines s (p.take k) ++ lineBytes (patWords s x) by rw [take_snoc' hx, patLines_snoc])
      obtain ⟨st, ps, ti⟩ := x
      simp only at t0 t1 t2 t3 e0 e1 e2 hi q0 q1
      obtain ⟨j, rfl⟩ := Int.eq_ofNat_of_zero_le t0
      have hj : j < n1 := by have := hn1'.out; omega
      obtain ⟨bs, os, y, hAS, hbs, hy, y0, y1⟩ := StksAt.get (k := j) (Hs.out.carry (Flat.carried _) (Hbw.out.mono hB) (Nat.le_refl _)) (by rw [← hn1'.out]; exact hj)
      subst hAS
      have hyl : lenAt s (j : Int) = y.length := by rw [lenAt, show ((j : Int)).toNat = j from rfl, hy]
      obtain ⟨yl, yc⟩ := y
      simp only at y0 y1 hyl
      have Hpw := hide (show patWords s ⟨(j : Int), ps, ti⟩ = [.str wLength, .num yl, .str wTimes, .num ti, .str wPieces] ++ ps.map Word.num by rw [patWords, hyl])
      have Hi := hide hi
      obtain ⟨q, hqn⟩ : ∃ q, q = ps.length := ⟨_, rfl⟩
      rw [← hqn] at e1 q1
      have Hqn := hide hqn
      have hbs2 : bs < wr.heap.size := by have := Hbw.out.size; omega
      clear hx hi hy hyl y1 hbl hbs hqn q0 q2
      go_wp2_with fail
      obtain ⟨w5, hw5⟩ : ∃ w5, w5 = wr.alloc (.cells #[.int .i64 j, .slice A' q c', .int .i64 ti] 63) := ⟨_, rfl⟩
      have bP := Blk.new wr 63 #[.int .i64 j, .slice A' q c', .int .i64 ti]
      have Hb5 := hide (hbr.alloc hBr (.cells #[.int .i64 j, .slice A' q c', .int .i64 ti] 63))
      have Hbd5 := hide (IsBuilder.keep Hbd.out (below_new wr (.cells #[.int .i64 j, .slice A' q c', .int .i64 ti] 63)))
      have y2 := (World.cell?_alloc_lt _ (.cells #[.int .i64 j, .slice A' q c', .int .i64 ti] 63) ⟨bs, os + j * 2, none⟩ hbs2).trans y0
      rw [← hw5] at bP Hb5 Hbd5 y2 ⊢
      have g0 := bP.cell 0
      have g1 := bP.cell 1
      have g2 := bP.cell 2
      simp at g0 g1 g2
      have hp5 := bP.lt
      obtain ⟨gp, hgp⟩ : ∃ gp, gp = wr.heap.size := ⟨_, rfl⟩
      rw [← hgp] at bP g0 g1 g2 hp5 ⊢
      have BP := hide bP
      have hgw : w3.heap.size ≤ gp := by rw [hgp]; exact hBr
      clear hw5 e0 e1 e2 y0 bP hgp
      go_still_tail 13, (by kernel_rfl)
      change wpList _ _ _ _ _ (World.drew w5)
      go_wp2_with fail
      obtain ⟨cs5, hcs5⟩ : ∃ cs5 : Array Value, cs5 = #[.iface 9 (.string ⟨#[108, 101, 110, 103, 116, 104]⟩), .iface 3 (.int .i64 yl), .iface 9 (.string ⟨#[116, 105, 109, 101, 115]⟩), .iface 3 (.int .i64 ti), .iface 9 (.string ⟨#[112, 105, 101, 99, 101, 115]⟩)] := ⟨_, rfl⟩
      have hsz5 : cs5.size = 5 * 1 := by rw [hcs5]; rfl
      have hls5 : cs5.toList = (patW yl ti (ps.take 0)).flatMap encWord := by rw [hcs5]; rfl
      rw [← hcs5]
      clear hcs5
      have hrow := World.ownsRow_lit (base := w5.heap.size) (e := 20) (size := 1) w5 cs5 5 (Nat.le_refl _) (by unfold maxLen; omega) hsz5
      rw [hls5] at hrow
      have hb56 := (below_new w5 (.cells cs5 20)).drew
      have hrow6 : Row (w5.alloc (.cells cs5 20)).drew w5.heap.size 20 1 encWord (.slice (some ⟨w5.heap.size, 0, none⟩) 5 5) (patW yl ti (ps.take 0)) := hrow
      generalize (w5.alloc (.cells cs5 20)).drew = w6 at hb56 hrow6 ⊢
      have Hrow := hide hrow6
      have Hb56 := hide hb56
      clear hrow hrow6 hsz5 hls5 hb56 g0 g1 g2 y2
      go_loopw [15, 72] (fun v i wi => ∃ i' : Nat, i' ≤ q ∧ i = .int .i64 i' ∧ Row wi w5.heap.size 20 1 encWord v (patW yl ti (ps.take i')) ∧ Below w5.heap.size w5 wi) (fun _ i _ => q - (intOf i).toNat)
      case atStart => exact ⟨0, Nat.zero_le _, rfl, Hrow.out, Hb56.out⟩
      case round =>
        clear Hrow Hb56
        obtain ⟨i, hi, rfl, hrow, hbi⟩ := hrel
        obtain ⟨A0, c0, rfl⟩ := hrow.val
        have Hrow := hide hrow
        have hbw5 := hide (below_step Hb3.out (Hb5.out.trans (hbi.mono Hb5.out.size)) (Nat.le_refl _))
        have hrl : (patW yl ti (ps.take i)).length ≤ 1000 := by
          rw [patW_len, List.length_take]; omega
        clear hrow
        by_cases hiq : i < q
        · obtain ⟨b2, off2, y, rfl, hb2, hy, d0⟩ := Ints.get (k := i) (Hi.out.carry (hbw5.out.mono hB) (Nat.le_refl B)) (by rw [← Hqn.out]; exact hiq)
          have hsz := hbi.size
          have hnext := hide (show patW yl ti (ps.take (i + 1)) = patW yl ti (ps.take i) ++ [.num y] by rw [take_snoc' hy, patW_snoc])
          clear hy hb2
          go_wp2_with (at_builtin; refine wpList_append1 rfl (.tmp 76) (.tmp 79) 98 rfl w5.heap.size 20 .nilIface 1 16 encWord Tryz.underlying98 (by kernel_rfl) rfl (by omega) encWord_len encWord_one _ _ (.num y) rfl (Hrow.out.alloc _) _ rfl (Blk.new wr _ _) (by omega) (by omega) (le_alloc hsz _) ?_; intro A1 c1 w7 hrow7 hb7 _)
          go_roundw
          case rel => exact ⟨i + 1, by omega, by go_num, by rw [hnext.out]; simpa using hrow7, (hbi.alloc hsz _).trans hb7⟩
          case measure => simp [intOf]; omega
        · obtain rfl : i = q := by omega
          have hfull := hide (show patW yl ti (ps.take i) = patWords s ⟨(j : Int), ps, ti⟩ by rw [Hpw.out, Hqn.out, List.take_length]; rfl)
          have h0 : 0 < (patW yl ti (ps.take i)).length := by rw [patW_len]; omega
          obtain ⟨g9, c9, cur, hv9, hg9, hgb9, hc9⟩ := Row.words Hrow.out h0
          rw [hfull.out] at hc9
          have hn9 : (patW yl ti (ps.take i)).length = (patWords s ⟨(j : Int), ps, ti⟩).length := by rw [hfull.out]
          clear hfull h0 Hrow
          generalize (patW yl ti (ps.take i)).length = ln at *
          injection hv9 with hv9 _ hcc
          subst hv9
          subst hcc
          have Hn9 := hide hn9
          clear hn9
          have Hg9 := hide hg9
          have Hc9 := hide hc9
          have Hbd9 := hide (IsBuilder.keep Hbd5.out hbi)
          have hb9 := hide (Hb5.out.trans (hbi.mono Hb5.out.size))
          have Ht9 := hide (Ht3.out.carry (hb9.out.mono hB3))
          have hl9 := hide (show (hd ++ patLines s (p.take k)).length ≤ 50000000000 by
            have h9 := Hlines.out k
            have h8 := Hhl.out
            rw [List.length_take] at h9
            rw [List.length_append]
            omega)
          clear hbi hg9 hc9
          go_wp2_with fail
          refine (line_any (patWords s ⟨(j : Int), ps, ti⟩) g9 ln c0 cur B w3.heap.size w3.heap.size _ _ Hbd9.out hb9.out.size hB3 Ht9.out Hg9.out Hn9.out Hc9.out Hok.out hrl hl9.out).mono ?_
          rintro e w8 ⟨rfl, hbd8, hb8, _⟩
          have Hbd8 := hide hbd8
          have Hb8 := hide (hb9.out.trans hb8)
          clear hbd8 hb8
          go_wp2_with fail
          go_roundw
          case rel => exact ⟨k + 1, by omega, by go_num, by rw [Hnext.out, ← List.append_assoc]; exact Hbd8.out, Hb8.out⟩
          case measure => simp [intOf]; omega
    · obtain rfl : k = n3 := by omega
      have hne := hide (show hd ++ patLines s (p.take k) ≠ [] from fun h => Hne.out (List.append_eq_nil_iff.1 h).1)
      go_wp2_with fail
      refine (builderString_some 76 w3.heap.size w3.heap.size _ _ Hbd.out hne.out).mono ?_
      rintro e w7 ⟨rfl, hb7⟩
      go_wp2_with fail
      go_ret2
      exact ⟨by rw [Htext.out]; rfl, Hbw.out.trans (hb7.mono Hb3.out.size)⟩
end
end Go.Proofs.YtnhmdgkhmkeopaaGreatDoor
