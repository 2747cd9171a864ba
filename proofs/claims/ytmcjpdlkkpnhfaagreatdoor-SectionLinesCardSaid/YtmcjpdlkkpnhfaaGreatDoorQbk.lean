/- law47's awake: the chapter's example has the steel, the bars and the drawing that are told. -/
import Derived.Test.YtmcjpdlkkpnhfaaGreatDoorQac
import Derived.Test.YtmcjpdlkkpnhfaaGreatDoorQbi
import Derived.Test.YtmcjpdlkkpnhfaaGreatDoorQbf
namespace Go.Proofs.YtmcjpdlkkpnhfaaGreatDoor
open Go.RowKit

set_option maxHeartbeats 4000000 in
set_option maxRecDepth 100000 in
theorem awake_any (w : World) : Calls Tryz.prog 4 #[] w fun e w' => e = .returned (.bool true) ∧ Below w.heap.size w w' := by
  have hS := fun (s : DetS) (W : World) (h : DetAt W W.heap.size exE s) (hf : DetFit exE s) => sectSteel_ok exE s 500 W h (Nat.le_refl _) hf exE_err
  rw [exE_steel] at hS
  have HS := hide hS
  have hL := fun (s : DetS) (W : World) (h : DetAt W W.heap.size exE s) (hf : DetFit exE s) => sectBars_ok exE s 500 W h (Nat.le_refl _) hf exE_err
  rw [exE_bars] at hL
  have HL := hide hL
  have hD := fun (s : DetS) (W : World) (h : DetAt W W.heap.size exE s) (hf : DetFit exE s) => sectDraw_ok exE s 500 100 W h (Nat.le_refl _) hf exE_draw
  rw [exE_text] at hD
  have HD := hide hD
  clear hS hL hD
  go_enter Tryz.func4, Tryz.ntmps4
  go_wp2_with fail
  refine (example_any _).mono ?_
  rintro e w2 ⟨s, rfl, hat, hfit, hb⟩
  have HB := hide hb
  clear hb
  go_wp2_with fail
  refine (HS.out s _ hat hfit).mono ?_
  rintro e w3 ⟨rfl, hb⟩
  have HB := hide (below_step HB.out hb (Nat.le_refl _))
  clear hb hat hfit
  go_wp2_with fail
  refine (example_any _).mono ?_
  rintro e w4 ⟨s', rfl, hat, hfit, hb⟩
  have HB := hide (below_step HB.out hb (Nat.le_refl _))
  clear hb
  go_wp2_with fail
  refine (HL.out s' _ hat hfit).mono ?_
  rintro e w5 ⟨A, c, rfl, ⟨b0, hr⟩, hb⟩
  have RL : Hid (Ints w5 w5.heap.size A [0, 1]) := hide (Row.read hr encInt_len (by omega))
  have HB := hide (below_step HB.out hb (Nat.le_refl _))
  clear hb hat hfit hr
  go_wp2_with fail
  refine (example_any _).mono ?_
  rintro e w6 ⟨s2, rfl, hat, hfit, hb⟩
  have RL := hide (RL.out.carry hb hb.size)
  have HB := hide (below_step HB.out hb (Nat.le_refl _))
  clear hb
  go_wp2_with fail
  refine (HD.out s2 _ hat hfit).mono ?_
  rintro e w7 ⟨rfl, hb⟩
  have RL := hide (RL.out.carry hb hb.size)
  have HB := hide (below_step HB.out hb (Nat.le_refl _))
  clear hb hat hfit
  have RQ : Hid (Ints (w7.alloc (.cells #[.int .i64 0, .int .i64 1] 3)) (w7.heap.size + 1) (some ⟨w7.heap.size, 0, none⟩) [0, 1]) := hide (Ints.of_blk (l := [0, 1]) (Blk.new w7 3 #[.int .i64 0, .int .i64 1]) (Nat.lt_succ_self _))
  have RL := hide (RL.out.carry (below_new w7 (.cells #[.int .i64 0, .int .i64 1] 3)) (Nat.le_refl _))
  have HB := hide (HB.out.alloc HB.out.size (.cells #[.int .i64 0, .int .i64 1] 3))
  go_wp2_with fail
  refine (equalInts_any _ _ [0, 1] _ _ _ _ RL.out RQ.out rfl (by decide)).mono ?_
  rintro e w8 ⟨rfl, hb⟩
  have HB := hide (below_step HB.out hb (Nat.le_refl _))
  clear hb RL RQ
  go_wp2_with fail
  go_ret
  exact ⟨rfl, HB.out⟩
end Go.Proofs.YtmcjpdlkkpnhfaaGreatDoor
