/- The drawing of a plan. The legend of a plan. The chapter's example, and that it holds. law46's awake: the example can be drawn, and its text and legend are right. -/
import Derived.Test.YtpmipoljnchheaaGreatMaq
import Derived.StillTailTactics
namespace Go.Proofs.YtpmipoljnchheaaGreat
open Go.RowKit

def letterOf (k : Int) : UInt8 := UInt8.ofNat (97 + (k % 26).toNat)
theorem letterOf_nat (k : Int) : ((letterOf k).toNat : Int) = 97 + k % 26 := by
  have h0 := Int.emod_nonneg k (show (26 : Int) ≠ 0 by decide)
  have h1 := Int.emod_lt_of_pos k (show (0 : Int) < 26 by decide)
  unfold letterOf
  rw [UInt8.toNat_ofNat']
  omega
set_option maxHeartbeats 400000 in
theorem planLetter_any (k : Int) (w : World) (hk : 0 ≤ k ∧ k ≤ 1000000) : Calls Tryz.prog 36 #[.int .i64 k] w fun e w' => e = .returned (.int .u8 ((letterOf k).toNat : Int)) ∧ w' = w := by
  have h0 := Int.emod_nonneg k (show (26 : Int) ≠ 0 by decide)
  have h1 := Int.emod_lt_of_pos k (show (0 : Int) < 26 by decide)
  have Hl := hide (letterOf_nat k)
  go_enter Tryz.func36, Tryz.ntmps36
  go_wp2_with fail
  go_ret
  refine ⟨?_, rfl⟩
  rw [Hl.out]
  congr 2
def cellByte : List Int → UInt8
  | [] => 46
  | [k] => letterOf k
  | _ => 43
def drawRow (f : Int → Int → List Int) (r c : Nat) : List UInt8 := (List.range c).map fun (k : Nat) => cellByte (f r k)
def drawTo (f : Int → Int → List Int) (C r : Nat) : List UInt8 := (List.range r).flatMap fun (q : Nat) => drawRow f q C ++ [10]
def drawText (x : DetD) (s : Int) : List UInt8 := drawTo (seenAt x s) (gridOf x s).cols.toNat (gridOf x s).rows.toNat
theorem drawRow_succ (f : Int → Int → List Int) (r c : Nat) : drawRow f r (c + 1) = drawRow f r c ++ [cellByte (f r c)] := by simp [drawRow, List.range_succ]
theorem drawRow_len (f : Int → Int → List Int) (r c : Nat) : (drawRow f r c).length = c := by simp [drawRow]
theorem drawTo_succ (f : Int → Int → List Int) (C r : Nat) : drawTo f C (r + 1) = drawTo f C r ++ (drawRow f r C ++ [10]) := by simp [drawTo, List.range_succ]
theorem drawTo_len (f : Int → Int → List Int) (C r : Nat) : (drawTo f C r).length = r * (C + 1) := by
  induction r with
  | zero => simp [drawTo]
  | succ r ih => rw [drawTo_succ, List.length_append, ih, List.length_append, drawRow_len, List.length_singleton, Nat.add_mul]; omega
def drawOut (x : DetD) (s : Int) : ByteArray := if planErr x s = 0 then ⟨(drawText x s).toArray⟩ else ByteArray.empty
set_option maxHeartbeats 4000000 in
set_option maxRecDepth 100000 in
theorem planDraw_ok (x : DetD) (s : DetS) (sc : Int) (w : World) {B : Nat} (h : DetAt w B x s) (hB : B ≤ w.heap.size) (hf : DetFit x s) (he : planErr x sc = 0) :
    Calls Tryz.prog 11 #[detV x s, .int .i64 sc] w fun e w' => e = .returned (.tuple #[.string ⟨(drawText x sc).toArray⟩, .int .i64 0]) ∧ Below w.heap.size w w' := by
  have hpf := plan_facts he
  have hM := fun (W : World) (hz : Below w.heap.size w W) => made_any x s sc W (h.carry (hz.mono hB) (Nat.le_refl _)) (Nat.le_trans hB hz.size) hf
  rw [plan_ok he, he] at hM
  have HM := hide hM
  have HR := hide (fun (W : World) (hz : Below w.heap.size w W) => rods_ok x s W (h.carry (hz.mono hB) (Nat.le_refl _)) (Nat.le_trans hB hz.size) hf hpf.laid)
  have hrl : (rodsOf x.bars x.runs).length ≤ 20000 := by have := rodsOf_len hpf.laid; omega
  obtain ⟨SE, hSE⟩ : ∃ SE : Int → Int → List Int, SE = seenAt x sc := ⟨_, rfl⟩
  have HSb := hide (fun (W : World) (A : Option Addr) (c : Nat) (row col : Int) (hr : 0 ≤ row ∧ row < (gridOf x sc).rows) (hc : 0 ≤ col ∧ col < (gridOf x sc).cols) (hA : RodsAt W W.heap.size A (rodsOf x.bars x.runs)) =>
    (show Calls Tryz.prog 34 #[.agg (gridCells (gridOf x sc)), .slice A (rodsOf x.bars x.runs).length c, .int .i64 row, .int .i64 col] W fun e w' => ∃ A' c', e = .returned (.slice A' (SE row col).length c') ∧ Ints w' w'.heap.size A' (SE row col) ∧ Below W.heap.size W w' by
      rw [hSE]
      have hrow := hpf.row row hr.1 hr.2
      have hcol := hpf.col col hc.1 hc.2
      exact seen_ok x.bars.length (gridOf x sc) A (rodsOf x.bars x.runs) (rodsOf x.bars x.runs).length c row col W hA (Nat.le_refl _) rfl hrl hpf.lo ⟨show 0 ≤ sc by have := hpf.sc; omega, hpf.sc.2⟩ (show 0 ≤ row * sc ∧ row * sc ≤ 1099511627776 by omega) (show 0 ≤ col * sc ∧ col * sc ≤ 1099511627776 by omega) (rods_lines hpf.laid)))
  have Hi := hide (show (Tryz.prog.info? 34).map (·.size) = some 19 by kernel_rfl)
  have K0 := hide (Blk.new w 34 (detCells x.mem x.rule s))
  have HW := hide (below_new w (.cells (detCells x.mem x.rule s) 34))
  have Hsm := hide (fun (row col k : Int) (hk : k ∈ SE row col) => show 0 ≤ k ∧ k ≤ 1000000 by
    rw [hSE] at hk
    have h1 := seenAt_mem hk
    have h2 := hf.l3
    have h3 := hf.m3
    omega)
  obtain ⟨R, hR⟩ : ∃ R : Nat, (gridOf x sc).rows = (R : Int) := Int.eq_ofNat_of_zero_le (by have := hpf.rows; omega)
  obtain ⟨C, hC⟩ : ∃ C : Nat, (gridOf x sc).cols = (C : Int) := Int.eq_ofNat_of_zero_le (by have := hpf.cols; omega)
  have hR2 : R ≤ 20000 := by have := hpf.rows; omega
  have hC2 : C ≤ 20000 := by have := hpf.cols; omega
  have hRC : R * C ≤ 20000 := by
    have h9 := (plan_detOk he).2.2
    rw [hR, hC] at h9
    exact_mod_cast h9
  have hlen : ∀ r, r ≤ R → r * (C + 1) ≤ 40000 := by
    intro r hr
    have h8 := Nat.mul_le_mul_right C hr
    rw [Nat.mul_add]
    omega
  obtain ⟨DT, hDT⟩ : ∃ DT : Nat → List UInt8, DT = drawTo SE C := ⟨_, rfl⟩
  obtain ⟨DR, hDR⟩ : ∃ DR : Nat → Nat → List UInt8, DR = drawRow SE := ⟨_, rfl⟩
  have Htext := hide (show drawText x sc = DT R by rw [hDT, drawText, ← hSE, hR, hC]; rfl)
  have HD0 := hide (show DT 0 = [] by rw [hDT]; rfl)
  have HDn := hide (fun (r : Nat) => show DT (r + 1) = DT r ++ (DR r C ++ [10]) by rw [hDT, hDR]; exact drawTo_succ SE C r)
  have HDs := hide (fun (r c : Nat) => show DR r (c + 1) = DR r c ++ [cellByte (SE r c)] by rw [hDR]; exact drawRow_succ SE r c)
  have HR0 := hide (fun (r : Nat) => show DR r 0 = [] by rw [hDR]; rfl)
  have HDl := hide (fun (r c : Nat) (hr : r ≤ R) (hc : c ≤ C) => show (DT r ++ DR r c).length ≤ 100000 by
    rw [hDT, hDR, List.length_append, drawTo_len, drawRow_len]
    have := hlen r hr
    omega)
  generalize drawText x sc = TX at *
  generalize rodsOf x.bars x.runs = RO at *
  generalize gridOf x sc = g at *
  obtain ⟨⟨g1, g2, g3⟩, g4, g5, g6⟩ := g
  simp only at hR hC
  subst hR
  subst hC
  obtain ⟨mem, bars, runs, laps, dems, rule⟩ := x
  obtain ⟨a1, n1, c1, a2, n2, c2, a3, n3, c3, a4, n4, c4, a5, n5, c5, a6, n6, c6⟩ := s
  obtain ⟨name, boxes, holes, cover, agg, poker⟩ := mem
  obtain ⟨r1, r2, r3, r4, r5, r6, r7, r8, r9⟩ := rule
  simp only [detCells] at K0 HW
  simp only at HSb
  clear h hf he hM hpf hrl hSE hlen hRC hDT hDR
  show Calls Tryz.prog 11 #[.agg #[.string name, .slice a1 n1 c1, .slice a2 n2 c2, .int .i64 cover, .int .i64 agg, .int .i64 poker, .slice a3 n3 c3, .slice a4 n4 c4, .slice a5 n5 c5, .slice a6 n6 c6, .int .i64 r1, .int .i64 r2, .int .i64 r3, .int .i64 r4, .int .i64 r5, .int .i64 r6, .int .i64 r7, .int .i64 r8, .int .i64 r9], .int .i64 sc] w _
  go_enter Tryz.func11, Tryz.ntmps11
  go_wp2_with (refine wpList_load_row rfl 34 (.tmp 2) rfl w.heap.size rfl 34 _ (0, 0) _ K0.out Tryz.underlying34 rfl Hi.out ?_)
  refine (HM.out _ HW.out).mono ?_
  rintro e w2 ⟨rfl, hb2⟩
  have K0 := hide (K0.out.keep hb2)
  have HW2 := hide (below_step HW.out hb2 (Nat.le_refl _))
  have KG := hide (Blk.new w2 84 #[.int .i64 g1, .int .i64 g2, .int .i64 g3, .int .i64 g4, .int .i64 R, .int .i64 C])
  have K1 := hide (K0.out.alloc (.cells #[.int .i64 g1, .int .i64 g2, .int .i64 g3, .int .i64 g4, .int .i64 R, .int .i64 C] 84))
  have HW3 := hide (HW2.out.alloc HW2.out.size (.cells #[.int .i64 g1, .int .i64 g2, .int .i64 g3, .int .i64 g4, .int .i64 R, .int .i64 C] 84))
  clear hb2 HM K0 HW
  go_wp2_with (refine wpList_load_row rfl 34 (.tmp 2) rfl w.heap.size rfl 34 _ (0, 0) _ K1.out Tryz.underlying34 rfl Hi.out ?_)
  refine (HR.out _ HW3.out).mono ?_
  rintro e w4 ⟨A4, c4', rfl, hro, hb4⟩
  have KG := hide (KG.out.keep hb4)
  have HW4 := hide (below_step HW3.out hb4 (Nat.le_refl _))
  have Hro := hide hro
  have k4 := (KG.out.alloc (.cells #[.pointer none, .slice none 0 0] 93)).cell 4
  simp at k4
  have lg := KG.out.lt
  have HF := hide (Lib.fresh_isBuilder 93 5 w4)
  have HFb := hide (below_new w4 (.cells #[.pointer none, .slice none 0 0] 93))
  have e4 := KG.out.cell 4
  simp at e4
  clear hb4 hro HR HW2 HW3 Hi K1
  go_wp2_with fail
  go_loopw [32] (fun iv wr => ∃ r : Nat, r ≤ R ∧ iv = .int .i64 r ∧ Bld wr 93 w4.heap.size w4.heap.size (DT r) ∧ Below w4.heap.size w4 wr) (fun iv _ => R - (intOf iv).toNat)
  case atStart => exact ⟨0, Nat.zero_le _, rfl, by rw [HD0.out]; exact HF.out, HFb.out⟩
  case round =>
    rename World => wo
    clear HF HFb k4
    obtain ⟨r, hr, rfl, hbd, hbr⟩ := hrel
    have Hbd := hide hbd
    have Hbr := hide hbr
    by_cases hrl : r < R
    · have kk := KG.out.below hbr KG.out.lt
      have e5 := kk.cell 5
      simp at e5
      have lk := kk.lt
      clear kk hbd hbr
      go_wp2_with fail
      go_loopw [37] (fun iv wr => ∃ c : Nat, c ≤ C ∧ iv = .int .i64 c ∧ Bld wr 93 w4.heap.size w4.heap.size (DT r ++ DR r c) ∧ Below w4.heap.size w4 wr) (fun iv _ => C - (intOf iv).toNat)
      case atStart => exact ⟨0, Nat.zero_le _, rfl, by rw [HR0.out, List.append_nil]; exact Hbd.out, Hbr.out⟩
      case round =>
        clear e5 lk
        obtain ⟨c, hc, rfl, hbd, hbr⟩ := hrel
        have Hbd := hide hbd
        have hbrs := hbr.size
        have hlt := HDl.out r c hr hc
        by_cases hcl : c < C
        · have kk := KG.out.below hbr KG.out.lt
          have e0 := kk.cell 0
          have e1 := kk.cell 1
          have e2 := kk.cell 2
          have e3 := kk.cell 3
          have e4' := kk.cell 4
          have e5 := kk.cell 5
          simp at e0 e1 e2 e3 e4' e5
          have lk := kk.lt
          have HSs := hide (HSb.out wr A4 c4' (r : Int) (c : Int) ⟨by omega, by omega⟩ ⟨by omega, by omega⟩ (Hro.out.carry (Flat.carried _) hbr hbr.size))
          have Hbr := hide hbr
          clear kk hbd hbr
          go_wp2_with fail
          refine HSs.out.mono ?_
          rintro e w6 ⟨A5, c5', rfl, hse, hb6⟩
          have hbr7 := hide (Hbr.out.trans (hb6.mono hbrs))
          have Hbd7 := hide (IsBuilder.keep Hbd.out hb6)
          have hbrs7 := hbr7.out.size
          have Hsk := hide (fun (k : Int) (hk : k ∈ SE r c) => Hsm.out r c k hk)
          clear hb6 HSs e0 e1 e2 e3 e4' e5 lk
          generalize hsl : SE (r : Int) (c : Int) = sl at *
          rcases sl with _ | ⟨k, _ | ⟨k2, t⟩⟩
          · have Hsl := hide hsl
            have HDs := hide (fun (r' c' : Nat) => HDs.out r' c')
            clear hsl hse
            go_wp2_with fail
            refine (writeByte_any _ builderType w4.heap.size w4.heap.size _ (cellByte (SE r c)) 46 _ (by rw [Hsl.out]; rfl) Hbd7.out (by omega) hbrs7).mono ?_
            rintro e w8 ⟨rfl, hb8, hbe8, hs8⟩
            have Hb8 := hide (show Bld w8 93 w4.heap.size w4.heap.size (DT r ++ DR r (c + 1)) by rw [HDs.out r c, ← List.append_assoc]; exact hb8)
            have hbr8 := hide (hbr7.out.trans hbe8)
            clear hb8 hbe8 hs8
            go_wp2_with fail
            go_roundw
            case rel => exact ⟨c + 1, by omega, by go_num, Hb8.out, hbr8.out⟩
            case measure => simp [intOf]; omega
          · obtain ⟨b, off, q, rfl, hbl, hx, e0⟩ := Ints.get (k := 0) hse (by simp)
            simp at hx
            subst hx
            simp only [Nat.add_zero] at e0
            obtain ⟨hk0, hk1⟩ := Hsk.out k (by simp)
            have Hsl := hide hsl
            clear hsl hse hbl
            go_wp2_with (go_at_call 36; refine (planLetter_any k _ ⟨hk0, hk1⟩).mono ?_; rintro e w7 ⟨rfl, rfl⟩)
            refine (writeByte_any _ builderType w4.heap.size w4.heap.size _ (cellByte (SE r c)) _ _ (by rw [Hsl.out]; rfl) Hbd7.out (by omega) hbrs7).mono ?_
            rintro e w8 ⟨rfl, hb8, hbe8, hs8⟩
            have Hb8 := hide (show Bld w8 93 w4.heap.size w4.heap.size (DT r ++ DR r (c + 1)) by rw [HDs.out r c, ← List.append_assoc]; exact hb8)
            have hbr8 := hide (hbr7.out.trans hbe8)
            clear hb8 hbe8 hs8
            go_wp2_with fail
            go_roundw
            case rel => exact ⟨c + 1, by omega, by go_num, Hb8.out, hbr8.out⟩
            case measure => simp [intOf]; omega
          · have Hsl := hide hsl
            obtain ⟨m, hm⟩ : ∃ m, m = (k :: k2 :: t).length := ⟨_, rfl⟩
            have hm2 : 2 ≤ m := by rw [hm]; simp
            have m0 : ((m : Int) == 0) = false := by simp; omega
            have m1 : ((m : Int) == 1) = false := by simp; omega
            have m2 : (m == 0) = false := by simp; omega
            have m3 : (m == 1) = false := by simp; omega
            have m4 : ¬ m = 0 := by omega
            have m5 : ¬ m = 1 := by omega
            rw [← hm]
            clear hsl hse hm
            go_wp2_with fail
            refine (writeByte_any _ builderType w4.heap.size w4.heap.size _ (cellByte (SE r c)) 43 _ (by rw [Hsl.out]; rfl) Hbd7.out (by omega) hbrs7).mono ?_
            rintro e w8 ⟨rfl, hb8, hbe8, hs8⟩
            have Hb8 := hide (show Bld w8 93 w4.heap.size w4.heap.size (DT r ++ DR r (c + 1)) by rw [HDs.out r c, ← List.append_assoc]; exact hb8)
            have hbr8 := hide (hbr7.out.trans hbe8)
            clear hb8 hbe8 hs8
            go_wp2_with fail
            go_roundw
            case rel => exact ⟨c + 1, by omega, by go_num, Hb8.out, hbr8.out⟩
            case measure => simp [intOf]; omega
        · obtain rfl : c = C := by omega
          have Hbr := hide hbr
          clear hbd hbr
          go_wp2_with fail
          refine (writeByte_any _ builderType w4.heap.size w4.heap.size _ 10 10 _ rfl Hbd.out (by omega) hbrs).mono ?_
          rintro e w8 ⟨rfl, hb8, hbe8, hs8⟩
          have Hb8 := hide (show Bld w8 93 w4.heap.size w4.heap.size (DT (r + 1)) by rw [HDn.out r, ← List.append_assoc]; exact hb8)
          have hbr8 := hide (Hbr.out.trans hbe8)
          clear hb8 hbe8 hs8
          go_wp2_with fail
          go_roundw
          case rel => exact ⟨r + 1, by omega, by go_num, Hb8.out, hbr8.out⟩
          case measure => simp [intOf]; omega
    · obtain rfl : r = R := by omega
      have Hs := hide (Tryz.Builder_String_any w4.heap.size w4.heap.size (DT r) wo hbd hbr.size)
      clear hbd hbr
      go_wp2_with fail
      refine Hs.out.mono ?_
      rintro e w9 ⟨rfl, hb9⟩
      have Hfin := hide (below_step HW4.out (Hbr.out.trans hb9) (Nat.le_refl _))
      clear Hs hb9
      go_wp2_with fail
      go_ret2
      exact ⟨by rw [Htext.out]; rfl, Hfin.out⟩
end Go.Proofs.YtpmipoljnchheaaGreat
namespace Go.Proofs.YtpmipoljnchheaaGreat
open Go.RowKit

theorem name_size {m : ByteArray} (h : isName m = true) : m.size ≤ 20 := by
  simp only [isName, Bool.and_eq_true, decide_eq_true_eq] at h
  omega
theorem mark_size {x : BarD} (h : barOk x = true) : x.mark.size ≤ 20 := by
  simp only [barOk, Bool.and_eq_true] at h
  exact name_size h.1.1.1.1.1.2
theorem enc_ascii (c : UInt8) (h : c.toNat < 128) : Utf8.encode (c.toNat : Int) = ⟨#[c]⟩ := by
  have hv : Utf8.valid (c.toNat : Int) = true := by
    simp [Utf8.valid]
    omega
  unfold Utf8.encode
  simp [hv, h]
def legendLine (i : Nat) (m : ByteArray) : List UInt8 := letterOf i :: 32 :: (m.data.toList ++ [10])
def legendTo (bars : List BarD) (k : Nat) : List UInt8 := (List.range k).flatMap fun i => legendLine i (barMark bars i)
theorem legendTo_succ (bars : List BarD) (k : Nat) : legendTo bars (k + 1) = legendTo bars k ++ legendLine k (barMark bars k) := by simp [legendTo, List.range_succ]
def legendText (bars : List BarD) : List UInt8 := legendTo bars bars.length
set_option maxHeartbeats 4000000 in
set_option maxRecDepth 100000 in
theorem planLegend_ok (x : DetD) (s : DetS) (w : World) {B : Nat} (h : DetAt w B x s) (hB : B ≤ w.heap.size) (hf : DetFit x s) (hd : detOk x = true) :
    Calls Tryz.prog 16 #[detV x s] w fun e w' => e = .returned (.tuple #[.string ⟨(legendText x.bars).toArray⟩, .int .i64 0]) ∧ Below w.heap.size w w' := by
  have hV := fun (W : World) (hz : Below w.heap.size w W) => lapValid_any x s W (h.carry (hz.mono hB) (Nat.le_refl _)) (Nat.le_trans hB hz.size) hf
  rw [hd] at hV
  have HV := hide hV
  have Hi := hide (show (Tryz.prog.info? 34).map (·.size) = some 19 by kernel_rfl)
  have K0 := hide (Blk.new w 34 (detCells x.mem x.rule s))
  have HW := hide (below_new w (.cells (detCells x.mem x.rule s) 34))
  have H3 := hide h.h3
  have L3 := hide hf.l3
  have hok := (detOk_parts hd).2.1
  have hbars := (laidOk_mem hok).1
  have Hmk := hide (fun (y : BarD) (hy : y ∈ x.bars) => show y.mark.size ≤ 20 from mark_size (hbars y hy))
  have hn3 : s.n3 ≤ 60000 := hf.m3
  obtain ⟨LT, hLT⟩ : ∃ LT : Nat → List UInt8, LT = legendTo x.bars := ⟨_, rfl⟩
  have HL0 := hide (show LT 0 = [] by rw [hLT]; rfl)
  have HLn := hide (fun (k : Nat) (y : BarD) (hy : x.bars[k]? = some y) => show LT (k + 1) = LT k ++ legendLine k y.mark by rw [hLT, legendTo_succ]; simp [barMark, hy])
  have HLt := hide (show legendText x.bars = LT s.n3 by rw [hLT, hf.l3]; rfl)
  obtain ⟨mem, bars, runs, laps, dems, rule⟩ := x
  obtain ⟨a1, n1, c1, a2, n2, c2, a3, n3, c3, a4, n4, c4, a5, n5, c5, a6, n6, c6⟩ := s
  obtain ⟨name, boxes, holes, cover, agg, poker⟩ := mem
  obtain ⟨r1, r2, r3, r4, r5, r6, r7, r8, r9⟩ := rule
  simp only [detCells] at K0 HW
  simp only at H3 L3 Hmk hn3 HLn HLt
  clear h hf hd hV hok hbars hLT
  show Calls Tryz.prog 16 #[.agg #[.string name, .slice a1 n1 c1, .slice a2 n2 c2, .int .i64 cover, .int .i64 agg, .int .i64 poker, .slice a3 n3 c3, .slice a4 n4 c4, .slice a5 n5 c5, .slice a6 n6 c6, .int .i64 r1, .int .i64 r2, .int .i64 r3, .int .i64 r4, .int .i64 r5, .int .i64 r6, .int .i64 r7, .int .i64 r8, .int .i64 r9]] w _
  go_enter Tryz.func16, Tryz.ntmps16
  go_wp2_with (refine wpList_load_row rfl 34 (.tmp 1) rfl w.heap.size rfl 34 _ (0, 0) _ K0.out Tryz.underlying34 rfl Hi.out ?_)
  refine (HV.out _ HW.out).mono ?_
  rintro e w2 ⟨rfl, hb2⟩
  have K0 := hide (K0.out.keep hb2)
  have HW2 := hide (below_step HW.out hb2 (Nat.le_refl _))
  have e6 := K0.out.cell 6
  simp at e6
  have lk := K0.out.lt
  have HF := hide (Lib.fresh_isBuilder 93 5 w2)
  have HFb := hide (below_new w2 (.cells #[.pointer none, .slice none 0 0] 93))
  clear hb2 HV HW Hi
  go_wp2_with fail
  go_loopw [13] (fun iv wr => ∃ k : Nat, k ≤ n3 ∧ iv = .int .i64 k ∧ Bld wr 93 w2.heap.size w2.heap.size (LT k) ∧ Hid ((LT k).length ≤ 23 * k) ∧ Below w2.heap.size w2 wr) (fun iv _ => n3 - (intOf iv).toNat)
  case atStart => exact ⟨0, Nat.zero_le _, rfl, by rw [HL0.out]; exact HF.out, hide (by rw [HL0.out]; simp), HFb.out⟩
  case round =>
    clear HF HFb e6 lk K0
    obtain ⟨k, hk, rfl, hbd, hln, hbr⟩ := hrel
    have Hbd := hide hbd
    have Hbr := hide hbr
    have hbrs := hbr.size
    by_cases hlt : k < n3
    · have HWr := hide (below_step HW2.out hbr (Nat.le_refl _))
      obtain ⟨b3, off3, y, A', c', rfl, hbl3, hy, _, f0, f1, f2, f3, f4⟩ := BarsAt.get (k := k) (H3.out.carry (HWr.out.mono hB) (Nat.le_refl _)) (by have := L3.out; omega)
      have hbw : b3 < wr.heap.size := by have := HWr.out.size; omega
      have Hm := Hmk.out y (mem_of_get hy)
      have Hn := hide (HLn.out k y hy)
      clear hbd hbr hbl3 hy
      obtain ⟨lb, hlb⟩ : ∃ lb, lb = letterOf (k : Int) := ⟨_, rfl⟩
      have hl128 : lb.toNat < 128 := by
        have h9 := letterOf_nat (k : Int)
        rw [← hlb] at h9
        omega
      have henc := enc_ascii lb hl128
      have HPL := hide (fun (W : World) => (show Calls Tryz.prog 36 #[.int .i64 k] W fun e w' => e = .returned (.int .u8 (lb.toNat : Int)) ∧ w' = W by rw [hlb]; exact planLetter_any (k : Int) W (by omega)))
      have Hlb := hide hlb
      clear hlb hl128
      go_wp2_with fail
      obtain ⟨wa, hwa⟩ : ∃ wa, wa = wr.alloc (.cells #[.string y.mark, .int .i64 y.size, .int .i64 y.count, .int .i64 y.code, .slice A' y.dims.length c'] 65) := ⟨_, rfl⟩
      have KB := hide (Blk.new wr 65 #[.string y.mark, .int .i64 y.size, .int .i64 y.count, .int .i64 y.code, .slice A' y.dims.length c'])
      have HBa := hide (Hbr.out.alloc hbrs (.cells #[.string y.mark, .int .i64 y.size, .int .i64 y.count, .int .i64 y.code, .slice A' y.dims.length c'] 65))
      have Hbda := hide (IsBuilder.keep Hbd.out (below_new wr (.cells #[.string y.mark, .int .i64 y.size, .int .i64 y.count, .int .i64 y.code, .slice A' y.dims.length c'] 65)))
      rw [← hwa] at KB HBa Hbda ⊢
      have e0 := KB.out.cell 0
      simp at e0
      have hbas := HBa.out.size
      have hS1 : ∀ W : World, (Op.stringOp .add ((⟨#[lb]⟩ : ByteArray) ++ (⟨#[32]⟩ : ByteArray)) y.mark).run Tryz.prog W = .ok (.string (((⟨#[lb]⟩ : ByteArray) ++ (⟨#[32]⟩ : ByteArray)) ++ y.mark)) W := fun W => run_string_add_sum W _ _ (by have : ((⟨#[lb]⟩ : ByteArray) ++ (⟨#[32]⟩ : ByteArray)).size = 2 := rfl; omega)
      have hS2 : ∀ W : World, (Op.stringOp .add (((⟨#[lb]⟩ : ByteArray) ++ (⟨#[32]⟩ : ByteArray)) ++ y.mark) (⟨#[10]⟩ : ByteArray)).run Tryz.prog W = .ok (.string ((((⟨#[lb]⟩ : ByteArray) ++ (⟨#[32]⟩ : ByteArray)) ++ y.mark) ++ (⟨#[10]⟩ : ByteArray))) W := fun W => run_string_add_sum W _ _ (by rw [ByteArray.size_append]; have : ((⟨#[lb]⟩ : ByteArray) ++ (⟨#[32]⟩ : ByteArray)).size = 2 := rfl; have : (⟨#[10]⟩ : ByteArray).size = 1 := rfl; omega)
      clear hwa f0 f1 f2 f3 f4
      go_still_tail 8, (by kernel_rfl)
      still_call (HPL.out _)
      repeat still_step
      try refine wpStill_nil ?_
      change wpList _ _ _ _ _ wa.drew
      obtain ⟨sv, hsv⟩ : ∃ sv, sv = (((⟨#[lb]⟩ : ByteArray) ++ (⟨#[32]⟩ : ByteArray)) ++ y.mark) ++ (⟨#[10]⟩ : ByteArray) := ⟨_, rfl⟩
      rw [← hsv]
      have Hsv := hide (show sv.data.toList = legendLine k y.mark by rw [hsv, legendLine, ← Hlb.out]; simp)
      have hsz : sv.size ≤ 23 := by
        have h9 := congrArg List.length Hsv.out
        simp only [legendLine, List.length_cons, List.length_append, List.length_nil, Array.length_toList] at h9
        have h8 : y.mark.data.size = y.mark.size := rfl
        have h7 : sv.data.size = sv.size := rfl
        omega
      have hl9 := hln.out
      clear hsv hS1 hS2 henc e0 HPL
      go_wp2_with fail
      refine (writeString_any _ builderType w2.heap.size w2.heap.size _ sv _ (IsBuilder.keep Hbda.out (Below.drew (Below.refl _ _))) (by omega) (by omega) (show w2.heap.size ≤ wa.drew.heap.size from hbas)).mono ?_
      rintro e w8 ⟨rfl, hb8, hbe8, hs8⟩
      have Hb8 := hide (show Bld w8 93 w2.heap.size w2.heap.size (LT (k + 1)) by rw [Hn.out, ← Hsv.out]; exact hb8)
      have hbr8 := hide ((HBa.out.drew).trans hbe8)
      have hl8 := hide (show (LT (k + 1)).length ≤ 23 * (k + 1) by
        rw [Hn.out, ← Hsv.out, List.length_append]
        have h7 : sv.data.toList.length = sv.size := by simp
        omega)
      clear hb8 hbe8 hs8
      go_wp2_with fail
      go_roundw
      case rel => exact ⟨k + 1, by omega, by go_num, Hb8.out, hl8, hbr8.out⟩
      case measure => simp [intOf]; omega
    · obtain rfl : k = n3 := by omega
      have Hs := hide (Tryz.Builder_String_any w2.heap.size w2.heap.size (LT k) wr hbd hbrs)
      clear hbd hbr
      go_wp2_with fail
      refine Hs.out.mono ?_
      rintro e w9 ⟨rfl, hb9⟩
      have Hfin := hide (below_step HW2.out (Hbr.out.trans hb9) (Nat.le_refl _))
      clear Hs hb9
      go_wp2_with fail
      go_ret2
      exact ⟨by rw [HLt.out]; rfl, Hfin.out⟩
end Go.Proofs.YtpmipoljnchheaaGreat
namespace Go.Proofs.YtpmipoljnchheaaGreat
open Go.RowKit

theorem at_any (x y z : Int) (w : World) : Calls Tryz.prog 57 #[.int .i64 x, .int .i64 y, .int .i64 z] w fun e w' => e = .returned (ptA (x, y, z)) ∧ Below w.heap.size w w' := by
  have kR := hide (Blk.new w 44 #[.int .i64 x, .int .i64 y, .int .i64 z])
  have hB := hide (below_new w (.cells #[.int .i64 x, .int .i64 y, .int .i64 z] 44))
  go_enter Tryz.func57, Tryz.ntmps57
  go_wp2_with fail
  refine bodyPost_ret (results_c rfl rfl kR.out Tryz.underlying44 rfl (by kernel_rfl)) rfl ?_
  exact ⟨rfl, hB.out⟩
def exMain : ByteArray := ⟨#[109, 97, 105, 110]⟩
def exD : DetD := ⟨⟨⟨#[109]⟩, [⟨(0, 0, 0), (400, 200, 300)⟩], [], 0, 16, 50⟩, [⟨exMain, 10, 1, 0, [200]⟩], [⟨exMain, 1, 2, (100, 50, 50), (0, 0, 0), 1⟩], [], [], ⟨40, 1, 1, 1, 1, 1, 1, 1, 0⟩⟩
theorem exD_err : planErr exD 100 = 0 := by decide +kernel
theorem exD_ok : detOk exD = true := by decide +kernel
theorem exD_text : drawText exD 100 = [46, 97, 97, 97, 10, 46, 46, 46, 46, 10] := by decide +kernel
theorem exD_legend : legendText exD.bars = [97, 32, 109, 97, 105, 110, 10] := by decide +kernel
abbrev exS (g1 g3 g4 : Nat) : DetS := ⟨some ⟨g1, 0, none⟩, 1, 1, none, 0, 0, some ⟨g3, 0, none⟩, 1, 1, some ⟨g4, 0, none⟩, 1, 1, none, 0, 0, none, 0, 0⟩
theorem exam_at {W : World} {g1 g2 g3 g4 : Nat} {t1 t2 t3 t4 : TypeId} (h1 : Blk W g1 t1 #[.int .i64 0, .int .i64 0, .int .i64 0, .int .i64 400, .int .i64 200, .int .i64 300]) (h2 : Blk W g2 t2 #[.int .i64 200])
    (h3 : Blk W g3 t3 #[.string ⟨#[109, 97, 105, 110]⟩, .int .i64 10, .int .i64 1, .int .i64 0, .slice (some ⟨g2, 0, none⟩) 1 1]) (h4 : Blk W g4 t4 #[.string ⟨#[109, 97, 105, 110]⟩, .int .i64 1, .int .i64 2, .int .i64 100, .int .i64 50, .int .i64 50, .int .i64 0, .int .i64 0, .int .i64 0, .int .i64 1]) : DetAt W W.heap.size exD (exS g1 g3 g4) :=
  ⟨blk_sl encB_len h1 (fun j u h => by simpa [exD, encB] using h) h1.lt, SlOf.nil _ _ _ _ _,
   SlOf.of_row (xs := [.string ⟨#[109, 97, 105, 110]⟩, .int .i64 10, .int .i64 1, .int .i64 0, .slice (some ⟨g2, 0, none⟩) 1 1]) h3.lt (fun j u hu => by rw [h3.cell]; simpa using hu)
     (fun k x hx => by
       have hk : k = 0 := by rcases Nat.lt_or_ge k 1 with h | h; · omega
                             · rw [List.getElem?_eq_none (by simpa [exD] using h)] at hx; cases hx
       subst hk
       obtain rfl : x = ⟨exMain, 10, 1, 0, [200]⟩ := by simpa [exD] using hx.symm
       refine ⟨[.string ⟨#[109, 97, 105, 110]⟩, .int .i64 10, .int .i64 1, .int .i64 0, .slice (some ⟨g2, 0, none⟩) 1 1], rfl, ⟨some ⟨g2, 0, none⟩, 1, rfl, blk_sl encInt_len h2 (fun j u h => by simpa [encInt] using h) h2.lt⟩, fun j v hj => ?_⟩
       simpa using hj),
   blk_sl encRun_len h4 (fun j u h => by simpa [exD, encRun, exMain] using h) h4.lt, SlOf.nil _ _ _ _ _, SlOf.nil _ _ _ _ _⟩
theorem exam_fit (g1 g3 g4 : Nat) : DetFit exD (exS g1 g3 g4) :=
  ⟨rfl, rfl, rfl, rfl, rfl, rfl, (by decide : (1 : Nat) ≤ 60000), (by decide : (1 : Nat) ≤ 60000), (by decide : (0 : Nat) ≤ 60000), (by decide : (0 : Nat) ≤ 60000), (by decide : (0 : Nat) ≤ 0), by decide, fun x hx => by
    obtain rfl : x = ⟨exMain, 10, 1, 0, [200]⟩ := by simpa [exD] using hx
    exact ⟨by decide, by decide⟩, fun d hd => by simp [exD] at hd⟩
set_option maxHeartbeats 4000000 in
set_option maxRecDepth 100000 in
theorem example_any (w : World) : Calls Tryz.prog 30 #[] w fun e w' => ∃ s : DetS, e = .returned (detV exD s) ∧ DetAt w' w'.heap.size exD s ∧ DetFit exD s ∧ Below w.heap.size w w' := by
  go_enter Tryz.func30, Tryz.ntmps30
  go_wp2_with fail
  have KZ := hide (Blk.new w 34 #[.string ⟨#[]⟩, .slice none 0 0, .slice none 0 0, .int .i64 0, .int .i64 0, .int .i64 0, .slice none 0 0, .slice none 0 0, .slice none 0 0, .slice none 0 0, .int .i64 0, .int .i64 0, .int .i64 0, .int .i64 0, .int .i64 0, .int .i64 0, .int .i64 0, .int .i64 0, .int .i64 0])
  have HW := hide (below_new w (.cells #[.string ⟨#[]⟩, .slice none 0 0, .slice none 0 0, .int .i64 0, .int .i64 0, .int .i64 0, .slice none 0 0, .slice none 0 0, .slice none 0 0, .slice none 0 0, .int .i64 0, .int .i64 0, .int .i64 0, .int .i64 0, .int .i64 0, .int .i64 0, .int .i64 0, .int .i64 0, .int .i64 0] 34))
  refine (at_any 400 200 300 _).mono ?_
  rintro e w2 ⟨rfl, hb2⟩
  have KZ := hide (KZ.out.keep hb2)
  have HW := hide (below_step HW.out hb2 (Nat.le_refl _))
  have hz : w.heap.size < w2.heap.size := by have := hb2.size; simp at this; omega
  have hz := hide hz
  clear hb2
  go_wp2_with fail
  refine (at_any 100 50 50 _).mono ?_
  rintro e w3 ⟨rfl, hb3⟩
  have KB : Hid (Blk w3 w2.heap.size 73 #[.int .i64 0, .int .i64 0, .int .i64 0, .int .i64 400, .int .i64 200, .int .i64 300]) := hide ((((Blk.new w2 _ _).alloc _).alloc _).keep hb3)
  have KI : Hid (Blk w3 (w2.heap.size + 1) 3 #[.int .i64 200]) := hide (((Blk.new1 w2 _ _ _).alloc _).keep hb3)
  have KR : Hid (Blk w3 (w2.heap.size + 2) 65 #[.string ⟨#[109, 97, 105, 110]⟩, .int .i64 10, .int .i64 1, .int .i64 0, .slice (some ⟨w2.heap.size + 1, 0, none⟩) 1 1]) := hide ((Blk.new2 w2 _ _ _ _).keep hb3)
  have KZ := hide (((((KZ.out.alloc _).alloc _).alloc _)).keep hb3)
  have HW := hide (below_step (((HW.out.alloc (Nat.le_of_lt hz.out) _).alloc (le_alloc (Nat.le_of_lt hz.out) _) _).alloc (le_alloc (le_alloc (Nat.le_of_lt hz.out) _) _) _) hb3 (Nat.le_refl _))
  have hz3 : w2.heap.size + 3 ≤ w3.heap.size := by have := hb3.size; simp at this; omega
  have hz3 := hide hz3
  clear hb3
  have KT := hide (Blk.new w3 79 #[.string ⟨#[109, 97, 105, 110]⟩, .int .i64 1, .int .i64 2, .int .i64 100, .int .i64 50, .int .i64 50, .int .i64 0, .int .i64 0, .int .i64 0, .int .i64 1])
  have KZ := hide (KZ.out.alloc (.cells #[.string ⟨#[109, 97, 105, 110]⟩, .int .i64 1, .int .i64 2, .int .i64 100, .int .i64 50, .int .i64 50, .int .i64 0, .int .i64 0, .int .i64 0, .int .i64 1] 79))
  have Hi : Hid ((Tryz.prog.info? 34).map (·.size) = some 19) := hide (by kernel_rfl)
  have Hone : Hid ((detCells exD.mem exD.rule ⟨some ⟨w2.heap.size, 0, none⟩, 1, 1, none, 0, 0, some ⟨w2.heap.size + 2, 0, none⟩, 1, 1, some ⟨w3.heap.size, 0, none⟩, 1, 1, none, 0, 0, none, 0, 0⟩).all (·.oneCell') = true) := hide (by kernel_rfl)
  go_wp2_with (first
    | (refine wpList_store_row rfl 34 (.tmp 0) (.tmp 14) rfl w.heap.size (detCells exD.mem exD.rule ⟨some ⟨w2.heap.size, 0, none⟩, 1, 1, none, 0, 0, some ⟨w2.heap.size + 2, 0, none⟩, 1, 1, some ⟨w3.heap.size, 0, none⟩, 1, 1, none, 0, 0, none, 0, 0⟩) rfl rfl 34 _ KZ.out Hi.out rfl Hone.out ?_)
    | (refine wp_store_row 34 (.tmp 0) (.tmp 14) rfl w.heap.size (detCells exD.mem exD.rule ⟨some ⟨w2.heap.size, 0, none⟩, 1, 1, none, 0, 0, some ⟨w2.heap.size + 2, 0, none⟩, 1, 1, some ⟨w3.heap.size, 0, none⟩, 1, 1, none, 0, 0, none, 0, 0⟩) rfl rfl 34 _ KZ.out Hi.out rfl Hone.out ?_))
  have kD := setRow_heap _ w.heap.size _ (detCells exD.mem exD.rule (exS w2.heap.size (w2.heap.size + 2) w3.heap.size)) _ _ KZ.out
  refine bodyPost_ret (results_c rfl rfl kD Tryz.underlying34 rfl (by kernel_rfl)) rfl ?_
  have q := hz.out
  have q3 := hz3.out
  refine ⟨exS w2.heap.size (w2.heap.size + 2) w3.heap.size, rfl, exam_at (g2 := w2.heap.size + 1) ((setRow_other _ _ _ _ (by omega)).trans (KB.out.alloc _)) ((setRow_other _ _ _ _ (by omega)).trans (KI.out.alloc _)) ((setRow_other _ _ _ _ (by omega)).trans (KR.out.alloc _)) ((setRow_other _ _ _ _ (by omega)).trans KT.out), exam_fit _ _ _, ?_⟩
  exact Below.setRow (HW.out.alloc (by omega) _) (Nat.le_refl _) _
end Go.Proofs.YtpmipoljnchheaaGreat
namespace Go.Proofs.YtpmipoljnchheaaGreat
open Go.RowKit

set_option maxHeartbeats 4000000 in
set_option maxRecDepth 100000 in
theorem awake_any (w : World) : Calls Tryz.prog 8 #[] w fun e w' => e = .returned (.bool true) ∧ Below w.heap.size w w' := by
  have hD := fun (s : DetS) (W : World) (h : DetAt W W.heap.size exD s) (hf : DetFit exD s) => planDraw_ok exD s 100 W h (Nat.le_refl _) hf exD_err
  rw [exD_text] at hD
  have HD := hide hD
  have hL := fun (s : DetS) (W : World) (h : DetAt W W.heap.size exD s) (hf : DetFit exD s) => planLegend_ok exD s W h (Nat.le_refl _) hf exD_ok
  rw [exD_legend] at hL
  have HL := hide hL
  clear hD hL
  go_enter Tryz.func8, Tryz.ntmps8
  go_wp2_with fail
  refine (example_any _).mono ?_
  rintro e w2 ⟨s, rfl, hat, hfit, hb⟩
  have HB := hide hb
  clear hb
  go_wp2_with fail
  refine (HD.out s _ hat hfit).mono ?_
  rintro e w3 ⟨rfl, hb⟩
  have HB := hide (below_step HB.out hb (Nat.le_refl _))
  clear hb hat hfit
  go_wp2_with fail
  refine (example_any _).mono ?_
  rintro e w4 ⟨s', rfl, hat, hfit, hb⟩
  have HB := hide (below_step HB.out hb (Nat.le_refl _))
  clear hb
  go_wp2_with fail
  refine (HL.out s' _ hat hfit).mono ?_
  rintro e w5 ⟨rfl, hb⟩
  have HB := hide (below_step HB.out hb (Nat.le_refl _))
  clear hb hat hfit
  go_wp2_with fail
  go_ret
  exact ⟨rfl, HB.out⟩
end Go.Proofs.YtpmipoljnchheaaGreat
