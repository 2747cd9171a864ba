/- The reference of layer 47: the steel of a section. The law SectionCuts: Bars, Cut, and Steel return what is specified. -/
import Derived.Test.YtmcjpdlkkpnhfaaGreatQbt
import Derived.Test.YtmcjpdlkkpnhfaaGreatQbf
import Derived.Test.YtmcjpdlkkpnhfaaGreatQaa
namespace Go.Proofs.YtmcjpdlkkpnhfaaGreat
open Go.RowKit

theorem piece_size (a : Int) : ∀ (l : List LaidD), ∀ p ∈ piecesTo a l, ∃ (i : Nat) (ld : LaidD), l[i]? = some ld ∧ p.bar = (i : Int) ∧ p.size = ld.bar.size := by
  intro l p hp
  simp only [piecesTo, List.mem_flatMap] at hp
  obtain ⟨⟨ld, i⟩, hl, hp⟩ := hp
  simp only [legPieces, List.mem_map, List.mem_filter] at hp
  obtain ⟨b, ⟨hb, ho⟩, rfl⟩ := hp
  exact ⟨i, ld, List.mk_mem_zipIdx_iff_getElem?.1 hl, rfl, rfl⟩
theorem field_size (m : ByteArray) (a b c : Int) (A : Option Addr) (n q : Nat) (w : World) : (Instr.field 57 (.agg #[.string m, .int .i64 a, .int .i64 b, .int .i64 c, .slice A n q]) 1).run Tryz.prog w = .ok (.int .i64 a) w := by kernel_rfl
set_option maxHeartbeats 8000000 in
set_option maxRecDepth 100000 in
theorem refSteel47_ok (x : DetD) (s : DetS) (a : Int) (w : World) {B : Nat} (h : DetAt w B x s) (hB : B ≤ w.heap.size) (hf : DetFit x s) (hok : laidOk x.bars x.runs = true) :
    Calls Tryz.prog 27 #[detV x s, .int .i64 a] w fun e w' => e = .returned (.int .i64 (steelOf (cutsOf x a))) ∧ Below w.heap.size w w' := by
  obtain ⟨hcl, hcs⟩ := cuts_fine hok a
  have HPa := hide (fun (W : World) (hz : Below w.heap.size w W) => refParts_ok x s a W (h.carry (hz.mono hB) (Nat.le_refl _)) (Nat.le_trans hB hz.size) hf hok)
  have HBa := hide (fun (i : Nat) (ld : LaidD) (hi : (laidAll x.bars x.runs)[i]? = some ld) (W : World) (hz : Below w.heap.size w W) => refBar_ok s.a3 s.a4 x.bars x.runs s.n3 s.c3 s.n4 s.c4 i ld W (h.h3.carry (hz.mono hB) (Nat.le_refl _)) (h.h4.carry (Flat.carried _) (hz.mono hB) (Nat.le_refl _)) (Nat.le_trans hB hz.size) hf.l3 hf.l4 hf.m3 hok hi)
  have Hps := hide (fun (p : PieceD) (hp : p ∈ cutsOf x a) => piece_size a (laidAll x.bars x.runs) p hp)
  have Hi := hide (show (Tryz.prog.info? 34).map (·.size) = some 19 by kernel_rfl)
  have K0 := hide (Blk.new w 34 (detCells x.mem x.rule s))
  have HW := hide (below_new w (.cells (detCells x.mem x.rule s) 34))
  generalize laidAll x.bars x.runs = LA at *
  generalize cutsOf x a = C at *
  obtain ⟨n, hn⟩ : ∃ n, n = C.length := ⟨_, rfl⟩
  have Hn := hide hn
  have hnb : n ≤ 12000 := by omega
  rw [← hn] at HPa
  have Hcs := hide hcs
  have Hrg := hide (fun (k : Nat) => steel_range (C.take k) (fun p hp => hcs p (List.mem_of_mem_take hp)))
  clear h hf hB hok hn hcl hcs
  obtain ⟨mem, bars, runs, laps, dems, rule⟩ := x
  obtain ⟨a1, n1, c1, a2, n2, c2, a3, n3, c3, a4, n4, c4, a5, n5, c5, a6, n6, c6⟩ := s
  obtain ⟨name, boxes, holes, cover, agg, poker⟩ := mem
  obtain ⟨r1, r2, r3, r4, r5, r6, r7, r8, r9⟩ := rule
  simp only [detCells] at K0 HW
  simp only at HBa
  show Calls Tryz.prog 27 #[.agg #[.string name, .slice a1 n1 c1, .slice a2 n2 c2, .int .i64 cover, .int .i64 agg, .int .i64 poker, .slice a3 n3 c3, .slice a4 n4 c4, .slice a5 n5 c5, .slice a6 n6 c6, .int .i64 r1, .int .i64 r2, .int .i64 r3, .int .i64 r4, .int .i64 r5, .int .i64 r6, .int .i64 r7, .int .i64 r8, .int .i64 r9], .int .i64 a] w _
  go_enter Tryz.func27, Tryz.ntmps27
  go_wp2_with (refine wpList_load_row rfl 34 (.tmp 2) rfl w.heap.size rfl 34 _ (0, 0) _ K0.out Tryz.underlying34 rfl Hi.out ?_)
  refine (HPa.out _ HW.out).mono ?_
  rintro e w2 ⟨A, c, rfl, hp, hb2⟩
  have HW2 := hide (below_step HW.out hb2 (Nat.le_refl _))
  have K2 := hide (K0.out.keep hb2)
  have Hp := hide hp
  clear hb2 HPa K0 HW Hi hp
  go_wp2_with fail
  go_loopw [6, 7] (fun v iv wr => ∃ k : Nat, k ≤ n ∧ iv = .int .i64 k ∧ (∃ t : Int, v = .int .i64 t ∧ Hid (t = steelOf (C.take k))) ∧ Hid (Blk wr w.heap.size 34 #[.string name, .slice a1 n1 c1, .slice a2 n2 c2, .int .i64 cover, .int .i64 agg, .int .i64 poker, .slice a3 n3 c3, .slice a4 n4 c4, .slice a5 n5 c5, .slice a6 n6 c6, .int .i64 r1, .int .i64 r2, .int .i64 r3, .int .i64 r4, .int .i64 r5, .int .i64 r6, .int .i64 r7, .int .i64 r8, .int .i64 r9]) ∧ Hid (Below w2.heap.size w2 wr)) (fun _ iv _ => n - (intOf iv).toNat)
  case atStart => exact ⟨0, Nat.zero_le _, rfl, ⟨0, rfl, hide rfl⟩, K2, hide (Below.refl _ _)⟩
  case round =>
    clear K2
    obtain ⟨k, hk, rfl, ⟨t, rfl, ht⟩, hK, hbr⟩ := hrel
    have hrg := Hrg.out k
    rw [← ht.out, List.length_take] at hrg
    by_cases hlt : k < n
    · have dk : decide ((k : Int) < (n : Int)) = true := by simp; omega
      obtain ⟨b, off, p, rfl, hbl, hx, hc⟩ := PartsAt.get (k := k) (SlOf.carry (Flat.carried _) Hp.out hbr.out (Nat.le_refl _)) (by rw [← Hn.out]; exact hlt)
      have hsz := Hcs.out p (mem_of_get hx)
      have har := area_range hsz
      obtain ⟨i, ld, hld, hbi, hps⟩ := Hps.out p (mem_of_get hx)
      have Hnx := hide (show steelOf (C.take (k + 1)) = t + steelOne p by rw [take_snoc' hx, steelOf_snoc, ht.out])
      have HA := hide (fun W => refArea_any p.size W hsz)
      have HBi := HBa.out i ld hld
      obtain ⟨⟨mk, bsz, ct, cd, dims⟩, pts⟩ := ld
      obtain ⟨⟨⟨x1, x2, x3⟩, x4, x5, x6⟩, br, sz, cr⟩ := p
      simp only [barV] at HBi hps hbi hsz har HA Hnx
      subst hps
      subst hbi
      have HBi := hide HBi
      have p6 := hc 6 _ rfl
      have p7 := hc 7 _ rfl
      simp only at p6 p7
      have Hst := hide (show steelOne ⟨⟨(x1, x2, x3), x4, x5, x6⟩, (i : Int), sz, true⟩ = areaOf sz from rfl)
      generalize areaOf sz = ar at *
      have hbw : b < wr.heap.size := Nat.lt_of_lt_of_le hbl hbr.out.size
      have q6 := hK.out.cell 6
      have q7 := hK.out.cell 7
      simp at q6 q7
      have lk := hK.out.lt
      have HWr := hide (below_step HW2.out hbr.out (Nat.le_refl _))
      clear hx hc hsz hld hbl
      cases cr
      · have Hn2 := hide (show t = steelOf (C.take (k + 1)) by rw [Hnx.out]; simp [steelOne])
        go_wp2_with fail
        go_roundw
        case rel => exact ⟨k + 1, by omega, by go_num, ⟨t, rfl, Hn2⟩, hK, hbr⟩
        case measure => simp [intOf]; omega
      · have Hn2 := hide (show t + ar = steelOf (C.take (k + 1)) by rw [Hnx.out, Hst.out])
        have HC := hide (fun (W : World) (h : Below wr.heap.size wr W) => show W.cell? ⟨w.heap.size, 6, none⟩ = some (.slice a3 n3 c3) ∧ W.cell? ⟨w.heap.size, 7, none⟩ = some (.slice a4 n4 c4) ∧ W.cell? ⟨b, off + k * 8 + 6, none⟩ = some (.int .i64 i) from
          ⟨(h.cell (p := ⟨w.heap.size, 6, none⟩) lk).trans q6, (h.cell (p := ⟨w.heap.size, 7, none⟩) lk).trans q7, (h.cell (p := ⟨b, off + k * 8 + 6, none⟩) hbw).trans p6⟩)
        have hS0 := HC.out _ (Below.drew (Below.refl wr.heap.size wr))
        have hBx := Below.drew (Below.refl wr.heap.size wr)
        have hfm := field_size mk sz ct cd
        have z1 : IntKind.i64.wrap (t + ar) = t + ar := IntWalk.i64_in _ (by omega)
        go_wp2_with fail
        go_region_held3 (fun W => W.cell? ⟨w.heap.size, 6, none⟩ = some (.slice a3 n3 c3) ∧ W.cell? ⟨w.heap.size, 7, none⟩ = some (.slice a4 n4 c4) ∧ W.cell? ⟨b, off + k * 8 + 6, none⟩ = some (.int .i64 i))
          (first | (with_reducible assumption) | go_keep)
          (first
            | (go_at_call 58; (with_reducible refine (HBi.out _ (below_step HWr.out hBx (Nat.le_refl _))).mono ?_); rintro e wz ⟨A7, c7, rfl, _, hbz⟩; have hBx := below_step hBx hbz (Nat.le_refl _); have hS' := HC.out _ hBx)
            | (go_at_call 57; (with_reducible refine (HA.out _).mono ?_); rintro e wz ⟨rfl, rfl⟩))
        all_goals
          have hK3 := hide (hK.out.keep hBx)
          have hbr3 := hide (hbr.out.trans (hBx.mono hbr.out.size))
          clear hK hbr HC hS0 hfm q6 q7 lk p6 p7 HBi
          go_wp2_with fail
          go_roundw
          case rel => exact ⟨k + 1, by omega, by go_num, ⟨t + ar, rfl, Hn2⟩, hK3, hbr3⟩
          case measure => simp [intOf]; omega
    · obtain rfl : k = n := by omega
      have dk : decide ((k : Int) < (k : Int)) = false := by simp
      have Hfin := hide (show steelOf C = t by rw [ht.out, Hn.out, List.take_length])
      have HB := hide (below_step HW2.out hbr.out (Nat.le_refl _))
      clear hbr ht hrg hK
      go_wp2_with fail
      go_ret
      exact ⟨by rw [Hfin.out]; rfl, HB.out⟩
end Go.Proofs.YtmcjpdlkkpnhfaaGreat
namespace Go.Proofs.YtmcjpdlkkpnhfaaGreat
open Go.RowKit

set_option maxHeartbeats 8000000 in
set_option maxRecDepth 100000 in
theorem sectionCuts_law (x : DetD) (s : DetS) (a : Int) (w : World) {B : Nat} (h : DetAt w B x s) (hB : B ≤ w.heap.size) (hl : DetLen x s) :
    Calls Tryz.prog 5 #[detV x s, .int .i64 a] w fun e w' => e = .returned (.bool true) ∧ Below w.heap.size w w' := by
  have HF := hide (fun (W : World) (hz : Below w.heap.size w W) => small25_any x s W (h.carry (hz.mono hB) (Nat.le_refl _)) (Nat.le_trans hB hz.size) hl)
  have HB0 := hide (fun (f : Few x s) (he : secErr x a = 0) (W : World) (hz : Below w.heap.size w W) => sectBars_ok x s a W (h.carry (hz.mono hB) (Nat.le_refl _)) (Nat.le_trans hB hz.size) (few_fit hl f) he)
  have HB1 := hide (fun (f : Few x s) (he : secErr x a ≠ 0) (W : World) (hz : Below w.heap.size w W) => sectBars_bad x s a W (h.carry (hz.mono hB) (Nat.le_refl _)) (Nat.le_trans hB hz.size) (few_fit hl f) he)
  have HC0 := hide (fun (f : Few x s) (he : secErr x a = 0) (W : World) (hz : Below w.heap.size w W) => sectCut_ok x s a W (h.carry (hz.mono hB) (Nat.le_refl _)) (Nat.le_trans hB hz.size) (few_fit hl f) he)
  have HC1 := hide (fun (f : Few x s) (he : secErr x a ≠ 0) (W : World) (hz : Below w.heap.size w W) => sectCut_bad x s a W (h.carry (hz.mono hB) (Nat.le_refl _)) (Nat.le_trans hB hz.size) (few_fit hl f) he)
  have HS0 := hide (fun (f : Few x s) (he : secErr x a = 0) (W : World) (hz : Below w.heap.size w W) => sectSteel_ok x s a W (h.carry (hz.mono hB) (Nat.le_refl _)) (Nat.le_trans hB hz.size) (few_fit hl f) he)
  have HS1 := hide (fun (f : Few x s) (he : secErr x a ≠ 0) (W : World) (hz : Below w.heap.size w W) => sectSteel_bad x s a W (h.carry (hz.mono hB) (Nat.le_refl _)) (Nat.le_trans hB hz.size) (few_fit hl f) he)
  have hg := fun (f : Few x s) (W : World) (hz : Below w.heap.size w W) => refGiven47_any x s a 1 W (h.carry (hz.mono hB) (Nat.le_refl _)) (Nat.le_trans hB hz.size) (few_fit hl f) (few_dems f)
  rw [givErr_one] at hg
  have HG := hide hg
  have HP := hide (fun (f : Few x s) (he : secErr x a = 0) (W : World) (hz : Below w.heap.size w W) => refParts_ok x s a W (h.carry (hz.mono hB) (Nat.le_refl _)) (Nat.le_trans hB hz.size) (few_fit hl f) (detOk_parts (secErr_ok he).1).2.1)
  have HRS := hide (fun (f : Few x s) (he : secErr x a = 0) (W : World) (hz : Below w.heap.size w W) => refSteel47_ok x s a W (h.carry (hz.mono hB) (Nat.le_refl _)) (Nat.le_trans hB hz.size) (few_fit hl f) (detOk_parts (secErr_ok he).1).2.1)
  have Hcl := hide (fun (he : secErr x a = 0) => (cuts_fine (detOk_parts (secErr_ok he).1).2.1 a).1)
  have Hi := hide (show (Tryz.prog.info? 34).map (·.size) = some 19 by kernel_rfl)
  have K0 := hide (Blk.new w 34 (detCells x.mem x.rule s))
  have HW := hide (below_new w (.cells (detCells x.mem x.rule s) 34))
  clear h hB hl hg
  go_enter Tryz.func5, Tryz.ntmps5
  go_wp2_with fail
  refine (awake_any _).mono ?_
  rintro e w1 ⟨rfl, hb⟩
  have K0 := hide (K0.out.keep hb)
  have HW := hide (below_step HW.out hb (Nat.le_refl _))
  clear hb
  go_wp2_with (first
    | (refine wpList_load_row rfl 34 (.tmp 2) rfl w.heap.size rfl 34 _ (0, 0) _ K0.out Tryz.underlying34 rfl Hi.out ?_)
    | (refine wpList_load_row_g (by rfl) 34 (.tmp 2) rfl w.heap.size rfl 34 _ (0, 0) _ K0.out Tryz.underlying34 rfl Hi.out ?_))
  refine (HF.out _ HW.out).mono ?_
  rintro e w2 ⟨⟨t, rfl, ht⟩, hb⟩
  have Ht := hide ht
  have K0 := hide (K0.out.keep hb)
  have HW := hide (below_step HW.out hb (Nat.le_refl _))
  clear hb ht HF
  cases t
  · go_wp2_with fail
    go_ret
    exact ⟨rfl, HW.out⟩
  have Hf := hide (Ht.out rfl)
  have HGf := hide (HG.out Hf.out)
  clear Ht HG
  by_cases he : secErr x a = 0
  · have HB := hide (HB0.out Hf.out he)
    have HC := hide (HC0.out Hf.out he)
    have HS := hide (HS0.out Hf.out he)
    have HPp := hide (HP.out Hf.out he)
    have HRs := hide (HRS.out Hf.out he)
    have hcl := Hcl.out he
    rw [he] at HGf
    clear HB0 HB1 HC0 HC1 HS0 HS1 HP HRS Hcl he Hf
    obtain ⟨n, hn⟩ : ∃ n, n = (cutsOf x a).length := ⟨_, rfl⟩
    rw [← hn] at HC HPp hcl
    have Hn := hide hn
    clear hn
    generalize cutsOf x a = L at *
    obtain ⟨ST, hST⟩ : ∃ q, q = steelOf L := ⟨_, rfl⟩
    rw [← hST] at HS HRs
    clear hST
    have HRB := hide (fun (A : Option Addr) (c : Nat) (W1 W : World) (hp : PartsAt W1 W1.heap.size A L) (hz : Below W1.heap.size W1 W) => refBars47_any A L n c W (hp.carry (Flat.carried _) hz (Nat.le_refl _)) hz.size Hn.out hcl)
    have hbl := barsOf_len L
    obtain ⟨nb, hnb⟩ : ∃ n, n = (barsOf L).length := ⟨_, rfl⟩
    have Hnb := hide hnb
    rw [← hnb] at HB HRB hbl
    clear hnb
    have HEq := hide (fun (A A' : Option Addr) (c c' : Nat) (W : World) (B B' : Nat) (h1 : Ints W B A (barsOf L)) (h2 : Ints W B' A' (barsOf L)) => equalInts_any A A' (barsOf L) nb c c' W h1 h2 Hnb.out (by rw [← Hn.out] at hbl; omega))
    generalize barsOf L = BL at *
    go_wp2_with (first
      | (refine wpList_load_row rfl 34 (.tmp 2) rfl w.heap.size rfl 34 _ (0, 0) _ K0.out Tryz.underlying34 rfl Hi.out ?_)
      | (refine wpList_load_row_g (by rfl) 34 (.tmp 2) rfl w.heap.size rfl 34 _ (0, 0) _ K0.out Tryz.underlying34 rfl Hi.out ?_))
    refine (HB.out _ HW.out).mono ?_
    rintro e w3 ⟨Al, cl, rfl, ⟨b0, hrl⟩, hb⟩
    have RL := hide (Row.read hrl encInt_len (by omega))
    have K0 := hide (K0.out.keep hb)
    have HW := hide (below_step HW.out hb (Nat.le_refl _))
    clear hb HB hrl
    go_wp2_with (first
      | (refine wpList_load_row rfl 34 (.tmp 2) rfl w.heap.size rfl 34 _ (0, 0) _ K0.out Tryz.underlying34 rfl Hi.out ?_)
      | (refine wpList_load_row_g (by rfl) 34 (.tmp 2) rfl w.heap.size rfl 34 _ (0, 0) _ K0.out Tryz.underlying34 rfl Hi.out ?_))
    refine (HC.out _ HW.out).mono ?_
    rintro e w4 ⟨Ac, cc, Ab, cb, rfl, hcut, hbar, hb⟩
    have RL := hide (SlOf.carry (Flat.carried _) RL.out hb hb.size)
    have RC := hide hcut
    have RB := hide hbar
    have K0 := hide (K0.out.keep hb)
    have HW := hide (below_step HW.out hb (Nat.le_refl _))
    clear hb HC hcut hbar
    go_wp2_with (first
      | (refine wpList_load_row rfl 34 (.tmp 2) rfl w.heap.size rfl 34 _ (0, 0) _ K0.out Tryz.underlying34 rfl Hi.out ?_)
      | (refine wpList_load_row_g (by rfl) 34 (.tmp 2) rfl w.heap.size rfl 34 _ (0, 0) _ K0.out Tryz.underlying34 rfl Hi.out ?_))
    refine (HS.out _ HW.out).mono ?_
    rintro e w5 ⟨rfl, hb⟩
    have RL := hide (SlOf.carry (Flat.carried _) RL.out hb hb.size)
    have RC := hide (SlOf.carry (Flat.carried _) RC.out hb hb.size)
    have RB := hide (SlOf.carry (Flat.carried _) RB.out hb hb.size)
    have K0 := hide (K0.out.keep hb)
    have HW := hide (below_step HW.out hb (Nat.le_refl _))
    clear hb HS
    go_wp2_with (first
      | (refine wpList_load_row rfl 34 (.tmp 2) rfl w.heap.size rfl 34 _ (0, 0) _ K0.out Tryz.underlying34 rfl Hi.out ?_)
      | (refine wpList_load_row_g (by rfl) 34 (.tmp 2) rfl w.heap.size rfl 34 _ (0, 0) _ K0.out Tryz.underlying34 rfl Hi.out ?_))
    refine (HGf.out _ HW.out).mono ?_
    rintro e w6 ⟨rfl, hb⟩
    have RL := hide (SlOf.carry (Flat.carried _) RL.out hb hb.size)
    have RC := hide (SlOf.carry (Flat.carried _) RC.out hb hb.size)
    have RB := hide (SlOf.carry (Flat.carried _) RB.out hb hb.size)
    have K0 := hide (K0.out.keep hb)
    have HW := hide (below_step HW.out hb (Nat.le_refl _))
    clear hb HGf
    go_wp2_with (first
      | (refine wpList_load_row rfl 34 (.tmp 2) rfl w.heap.size rfl 34 _ (0, 0) _ K0.out Tryz.underlying34 rfl Hi.out ?_)
      | (refine wpList_load_row_g (by rfl) 34 (.tmp 2) rfl w.heap.size rfl 34 _ (0, 0) _ K0.out Tryz.underlying34 rfl Hi.out ?_))
    refine (HPp.out _ HW.out).mono ?_
    rintro e w7 ⟨Ap, cp, rfl, hpt, hb⟩
    have RL := hide (SlOf.carry (Flat.carried _) RL.out hb hb.size)
    have RC := hide (SlOf.carry (Flat.carried _) RC.out hb hb.size)
    have RB := hide (SlOf.carry (Flat.carried _) RB.out hb hb.size)
    have RP := hide hpt
    have K0 := hide (K0.out.keep hb)
    have HW := hide (below_step HW.out hb (Nat.le_refl _))
    have HRBp := hide (fun (W : World) (hz : Below w7.heap.size w7 W) => HRB.out Ap cp w7 W hpt hz)
    clear hb HPp hpt HRB
    go_wp2_with fail
    refine (HRBp.out _ (Below.refl _ _)).mono ?_
    rintro e w8 ⟨Aq, cq, rfl, hbq, hb⟩
    have RL := hide (SlOf.carry (Flat.carried _) RL.out hb hb.size)
    have RC := hide (SlOf.carry (Flat.carried _) RC.out hb hb.size)
    have RB := hide (SlOf.carry (Flat.carried _) RB.out hb hb.size)
    have RP := hide (SlOf.carry (Flat.carried _) RP.out hb hb.size)
    have RQ := hide hbq
    have K0 := hide (K0.out.keep hb)
    have HW := hide (below_step HW.out hb (Nat.le_refl _))
    clear hb HRBp hbq
    go_wp2_with fail
    refine (HEq.out Al Aq cl cq _ _ _ RL.out RQ.out).mono ?_
    rintro e w9 ⟨rfl, hb⟩
    have RL := hide (SlOf.carry (Flat.carried _) RL.out hb hb.size)
    have RC := hide (SlOf.carry (Flat.carried _) RC.out hb hb.size)
    have RB := hide (SlOf.carry (Flat.carried _) RB.out hb hb.size)
    have RP := hide (SlOf.carry (Flat.carried _) RP.out hb hb.size)
    have K0 := hide (K0.out.keep hb)
    have HW := hide (below_step HW.out hb (Nat.le_refl _))
    clear hb HEq RQ
    go_wp2_with (first
      | (refine wpList_load_row rfl 34 (.tmp 2) rfl w.heap.size rfl 34 _ (0, 0) _ K0.out Tryz.underlying34 rfl Hi.out ?_)
      | (refine wpList_load_row_g (by rfl) 34 (.tmp 2) rfl w.heap.size rfl 34 _ (0, 0) _ K0.out Tryz.underlying34 rfl Hi.out ?_))
    refine (HRs.out _ HW.out).mono ?_
    rintro e wA ⟨rfl, hb⟩
    have RL := hide (SlOf.carry (Flat.carried _) RL.out hb hb.size)
    have RC := hide (SlOf.carry (Flat.carried _) RC.out hb hb.size)
    have RB := hide (SlOf.carry (Flat.carried _) RB.out hb hb.size)
    have RP := hide (SlOf.carry (Flat.carried _) RP.out hb hb.size)
    have K0 := hide (K0.out.keep hb)
    have HW := hide (below_step HW.out hb (Nat.le_refl _))
    clear hb HRs RL K0 Hi
    go_wp2_with fail
    go_loopw [120] (fun iv wr => ∃ k : Nat, k ≤ n ∧ iv = .int .i64 k ∧ Hid (Below wA.heap.size wA wr)) (fun iv _ => n - (intOf iv).toNat)
    case atStart => exact ⟨0, Nat.zero_le _, rfl, hide (Below.refl _ _)⟩
    case round =>
      obtain ⟨k, hk, rfl, hbr⟩ := hrel
      have hbs := hbr.out.size
      by_cases hlt : k < n
      · have dk : decide ((k : Int) < (n : Int)) = true := by simp; omega
        obtain ⟨b, off, p, rfl, hbl, hx, hc⟩ := PartsAt.get (k := k) (SlOf.carry (Flat.carried _) RP.out hbr.out hbs) (by rw [← Hn.out]; exact hlt)
        obtain ⟨b1, off1, y, rfl, hbl1, hy, y0, y1, y2, y3, y4, y5⟩ := BoxesAt.get (k := k) (SlOf.carry (Flat.carried _) RC.out hbr.out hbs) (by rw [List.length_map, ← Hn.out]; exact hlt)
        obtain ⟨b2, off2, z, rfl, hbl2, hz, z0⟩ := Ints.get (k := k) (SlOf.carry (Flat.carried _) RB.out hbr.out hbs) (by rw [List.length_map, ← Hn.out]; exact hlt)
        rw [List.getElem?_map, hx] at hy hz
        simp only [Option.map_some, Option.some.injEq] at hy hz
        subst hy
        subst hz
        obtain ⟨⟨⟨x1, x2, x3⟩, x4, x5, x6⟩, br, sz, cr⟩ := p
        have p0 := hc 0 _ rfl
        have p1 := hc 1 _ rfl
        have p2 := hc 2 _ rfl
        have p3 := hc 3 _ rfl
        have p4 := hc 4 _ rfl
        have p5 := hc 5 _ rfl
        have p6 := hc 6 _ rfl
        have p7 := hc 7 _ rfl
        simp only [Nat.add_zero] at p0 p1 p2 p3 p4 p5 p6 p7 y0 y1 y2 y3 y4 y5 z0
        have hB := hide (hbr.out.alloc hbs (.cells #[.int .i64 x1, .int .i64 x2, .int .i64 x3, .int .i64 x4, .int .i64 x5, .int .i64 x6, .int .i64 br, .bool cr] 74))
        clear hx hc hbr
        go_wp2_with fail
        go_quiet (fail)
        go_wp2_with fail
        go_roundw
        case rel => exact ⟨k + 1, by omega, by go_num, hide (below_drewN' hB.out _)⟩
        case measure => simp [intOf]; omega
      · obtain rfl : k = n := by omega
        have dk : decide ((k : Int) < (k : Int)) = false := by simp
        have HB := hide (below_step HW.out hbr.out (Nat.le_refl _))
        clear hbr
        go_wp2_with fail
        go_ret
        exact ⟨rfl, HB.out⟩
  · have HB := hide (HB1.out Hf.out he)
    have HC := hide (HC1.out Hf.out he)
    have HS := hide (HS1.out Hf.out he)
    have he' := hide he
    generalize secErr x a = er at *
    have d1 : (er == 0) = false := by simpa using he'.out
    have d2 : (er != 0) = true := by simpa using he'.out
    clear HB0 HB1 HC0 HC1 HS0 HS1 HP HRS Hcl he Hf
    go_wp2_with (first
      | (refine wpList_load_row rfl 34 (.tmp 2) rfl w.heap.size rfl 34 _ (0, 0) _ K0.out Tryz.underlying34 rfl Hi.out ?_)
      | (refine wpList_load_row_g (by rfl) 34 (.tmp 2) rfl w.heap.size rfl 34 _ (0, 0) _ K0.out Tryz.underlying34 rfl Hi.out ?_))
    refine (HB.out _ HW.out).mono ?_
    rintro e w3 ⟨rfl, hb⟩
    have K0 := hide (K0.out.keep hb)
    have HW := hide (below_step HW.out hb (Nat.le_refl _))
    clear hb HB
    go_wp2_with (first
      | (refine wpList_load_row rfl 34 (.tmp 2) rfl w.heap.size rfl 34 _ (0, 0) _ K0.out Tryz.underlying34 rfl Hi.out ?_)
      | (refine wpList_load_row_g (by rfl) 34 (.tmp 2) rfl w.heap.size rfl 34 _ (0, 0) _ K0.out Tryz.underlying34 rfl Hi.out ?_))
    refine (HC.out _ HW.out).mono ?_
    rintro e w4 ⟨rfl, hb⟩
    have K0 := hide (K0.out.keep hb)
    have HW := hide (below_step HW.out hb (Nat.le_refl _))
    clear hb HC
    go_wp2_with (first
      | (refine wpList_load_row rfl 34 (.tmp 2) rfl w.heap.size rfl 34 _ (0, 0) _ K0.out Tryz.underlying34 rfl Hi.out ?_)
      | (refine wpList_load_row_g (by rfl) 34 (.tmp 2) rfl w.heap.size rfl 34 _ (0, 0) _ K0.out Tryz.underlying34 rfl Hi.out ?_))
    refine (HS.out _ HW.out).mono ?_
    rintro e w5 ⟨rfl, hb⟩
    have K0 := hide (K0.out.keep hb)
    have HW := hide (below_step HW.out hb (Nat.le_refl _))
    clear hb HS
    go_wp2_with (first
      | (refine wpList_load_row rfl 34 (.tmp 2) rfl w.heap.size rfl 34 _ (0, 0) _ K0.out Tryz.underlying34 rfl Hi.out ?_)
      | (refine wpList_load_row_g (by rfl) 34 (.tmp 2) rfl w.heap.size rfl 34 _ (0, 0) _ K0.out Tryz.underlying34 rfl Hi.out ?_))
    refine (HGf.out _ HW.out).mono ?_
    rintro e w6 ⟨rfl, hb⟩
    have K0 := hide (K0.out.keep hb)
    have HW := hide (below_step HW.out hb (Nat.le_refl _))
    clear hb HGf
    go_wp2_with fail
    go_ret
    exact ⟨rfl, HW.out⟩
end Go.Proofs.YtmcjpdlkkpnhfaaGreat
