/- The references' copies: layers 23, 14 (a demand, a schedule). -/
import Derived.Test.YtpaanfjjnjjoeaaGreatRQbn
import Derived.Test.YtpaanfjjnjjoeaaGreatRQbi
namespace Go.Proofs.YtpaanfjjnjjoeaaGreat
open Go.RowKit
theorem ref23Copy_any (A : Option Addr) (d : DemD) (c : Nat) (w : World) {B : Nat} (h : StpsAt w B A d.steps) (hB : B ≤ w.heap.size) (hm : d.steps.length ≤ 300000) :
  Calls Tryz.prog 137 #[demV d A c] w fun e w' => ∃ A' c', e = .returned (demV d A' c') ∧ Row w' w.heap.size 71 2 encStp (.slice A' d.steps.length c') d.steps ∧ Below w.heap.size w w' := by
 obtain ⟨name, ⟨⟨x1, x2, x3⟩, x4, x5, x6⟩, l⟩ := d
 simp only at h hm
 obtain ⟨n, hn⟩ : ∃ n, n = l.length := ⟨_, rfl⟩
 rw [← hn] at hm
 show Calls Tryz.prog 137 #[.agg #[.string name, .int .i64 x1, .int .i64 x2, .int .i64 x3, .int .i64 x4, .int .i64 x5, .int .i64 x6, .slice A l.length c]] w _
 rw [← hn]
 have K0 := hide ((Blk.new w 69 #[.string name, .int .i64 x1, .int .i64 x2, .int .i64 x3, .int .i64 x4, .int .i64 x5, .int .i64 x6, .slice A n c]).alloc (.cells #[.string ⟨#[]⟩, .int .i64 0, .int .i64 0, .int .i64 0, .int .i64 0, .int .i64 0, .int .i64 0, .slice none 0 0] 69))
 have K1 := hide (Blk.new1 w (.cells #[.string name, .int .i64 x1, .int .i64 x2, .int .i64 x3, .int .i64 x4, .int .i64 x5, .int .i64 x6, .slice A n c] 69) 69 #[.string ⟨#[]⟩, .int .i64 0, .int .i64 0, .int .i64 0, .int .i64 0, .int .i64 0, .int .i64 0, .slice none 0 0])
 have HW := hide (below_new2 w (.cells #[.string name, .int .i64 x1, .int .i64 x2, .int .i64 x3, .int .i64 x4, .int .i64 x5, .int .i64 x6, .slice A n c] 69) (.cells #[.string ⟨#[]⟩, .int .i64 0, .int .i64 0, .int .i64 0, .int .i64 0, .int .i64 0, .int .i64 0, .slice none 0 0] 69))
 have Hs := hide (SlOf.carry (Flat.carried _) h (HW.out.mono hB) (Nat.le_refl _))
 have HB := hide hB
 clear h hB
 have Hn := hide hn
 clear hn
 show Calls Tryz.prog 137 #[.agg #[.string name, .int .i64 x1, .int .i64 x2, .int .i64 x3, .int .i64 x4, .int .i64 x5, .int .i64 x6, .slice A n c]] w _
 obtain ⟨w2, hw2⟩ : ∃ w2, w2 = (w.alloc (.cells #[.string name, .int .i64 x1, .int .i64 x2, .int .i64 x3, .int .i64 x4, .int .i64 x5, .int .i64 x6, .slice A n c] 69)).alloc (.cells #[.string ⟨#[]⟩, .int .i64 0, .int .i64 0, .int .i64 0, .int .i64 0, .int .i64 0, .int .i64 0, .slice none 0 0] 69) := ⟨_, rfl⟩
 rw [← hw2] at K0 K1 HW Hs
 have e7 := K0.out.cell 7
 simp at e7
 have l0 := K0.out.lt
 have l1 := K1.out.lt
 go_enter Tryz.func137, Tryz.ntmps137
 go_upto_region 1 with fail
 rw [← hw2]
 clear hw2
 have Hs2 := hide (SlOf.carry (Flat.carried _) Hs.out (w' := w2.alloc (.cells #[] 71)) ((below_new w2 (.cells #[] 71)).mono (Nat.le_trans (show B ≤ w.heap.size from HB.out) HW.out.size)) (Nat.le_refl _))
 go_upto_region 2 with (first
  | (at_builtin; refine wpList_appendG rfl _ _ 67 rfl w.heap.size 71 (.agg #[.int .i64 0, .int .i64 0]) 2 16 encStp Tryz.underlying67 (by kernel_rfl) rfl (by omega) (fun _ => rfl) encStp_one _ [] l rfl (World.ownsRow_made w2 #[] 0 HW.out.size (Nat.zero_le _) (by simp)) A n c rfl Hn.out Hs2.out (by simp) (by rw [← Hn.out]; omega) (by omega) (by simp; omega) ?_; intro A5 c5 w5 hrow5 hb5 hg5; have K65 := hide ((K0.out.alloc (.cells #[] 71)).grown hg5 (show some w.heap.size ≠ some w2.heap.size from fun h9 => by have := Option.some.inj h9; omega)); have K75 := hide ((K1.out.alloc (.cells #[] 71)).grown hg5 (show some (w.heap.size + 1) ≠ some w2.heap.size from fun h9 => by have := Option.some.inj h9; omega)); rw [show ([] : List (Int × Int)).length + n = n from Nat.zero_add n] at hrow5; have HR5 := hide hrow5; have HB5 := hide hb5; have HG5 := hide hg5; clear hrow5 hb5 hg5; have e9 := K65.out.cell 7; have f9 := K65.out.frozen 7; simp at e9))
 have k66 := K65.out.set_ 7 (.slice A5 n c5)
 have K66 := hide (show Blk (w5.setCell ⟨w.heap.size, 7, none⟩ (.slice A5 n c5)) w.heap.size 69 #[.string name, .int .i64 x1, .int .i64 x2, .int .i64 x3, .int .i64 x4, .int .i64 x5, .int .i64 x6, .slice A5 n c5] from k66)
 have K76 := hide (K75.out.far (p := ⟨w.heap.size, 7, none⟩) (show w.heap.size + 1 ≠ w.heap.size by omega) (.slice A5 n c5))
 have HR6 := hide (row_kept HR5.out (grown_set w5 w.heap.size 7 (.slice A5 n c5)) (fun k hk => by
  injection hk with hk
  subst hk
  exact apart_type HR5.out K65.out (by decide)))
 have HW6 := hide (((HW.out.alloc HW.out.size (.cells #[] 71)).trans HB5.out).setCell (p := ⟨w.heap.size, 7, none⟩) (Nat.le_refl _) (.slice A5 n c5))
 generalize World.setCell w5 ⟨w.heap.size, 7, none⟩ (.slice A5 n c5) = w6 at *
 clear k66 K65 K75 HR5 HB5 HG5 HW e7 e9 f9 Hs Hs2 K0 K1
 go_wp2_with (first
  | (refine wpList_load_row rfl 69 (.tmp 1) rfl w.heap.size rfl 69 _ (0, 0) _ K66.out Tryz.underlying69 rfl (by kernel_rfl) ?_)
  | (refine wpList_store_row rfl 69 (.tmp 2) (.tmp 8) rfl (w.heap.size + 1) #[.string name, .int .i64 x1, .int .i64 x2, .int .i64 x3, .int .i64 x4, .int .i64 x5, .int .i64 x6, .slice A5 n c5] rfl rfl 69 _ K76.out (by kernel_rfl) rfl (by kernel_rfl) ?_))
 refine bodyPost_ret (results_c rfl rfl (setRow_heap _ (w.heap.size + 1) _ _ _ _ K76.out) Tryz.underlying69 rfl (by kernel_rfl)) rfl ?_
 refine ⟨A5, c5, by rw [demV, ← Hn.out], row_kept HR6.out (grown_row _ _ _) (fun k hk => ?_), Below.setRow HW6.out (by omega) _⟩
 injection hk with hk
 subst hk
 exact apart_type HR6.out K76.out (by decide)
end Go.Proofs.YtpaanfjjnjjoeaaGreat
