/- The reference's functions on places: what each returns; nothing old is turned. No condition. -/
import Derived.Test.YtklobepkihdbkaaDoorClsSpec
import Derived.Test.YtklobepkihdbkaaDoorPlcFns
namespace Go.Proofs.YtklobepkihdbkaaDoor.PlcS
open Go.RowKit Cls Plc
set_option linter.unusedVariables false
set_option linter.unusedSimpArgs false
set_option maxHeartbeats 400000 in
theorem slab (c s : Int) (w : World) (h0 : 0 ≤ c) (h1 : c < 12) (h2 : 0 ≤ s) (h3 : s < 6) :
    Calls Tryd.prog 30 #[.int .i64 c, .int .i64 s] w fun e w' => e = .returned (.int .i64 (first c s)) ∧ Below w.heap.size w w' := by
  have hb := first_bd h0 h1 h2 h3
  have hb1 := hb.2.2.1
  have hb2 := hb.2.2.2
  have hr1 := (rstart_bd c).1
  have hr2 := (rstart_bd c).2
  have hp1 := (pages_bd c).1
  have hp2 := (pages_bd c).2
  clear hb
  go_enter Tryd.func30, Tryd.ntmps30
  go_wp2_with fail
  refine (ClsS.regionStart _ _).mono ?_; rintro e w1 ⟨rfl, hw1⟩
  go_wp2_with fail
  refine (ClsS.slabPages _ _).mono ?_; rintro e w2 ⟨rfl, hw2⟩
  go_wp2
  go_ret
  exact ⟨rfl, ClsS.below_step hw1 hw2⟩
set_option maxHeartbeats 400000 in
theorem slotAddr_yes (c s j : Int) (w : World) (h : Slot c s j) :
    Calls Tryd.prog 10 #[.int .i64 c, .int .i64 s, .int .i64 j] w fun e w' => e = .returned (.tuple #[.int .u64 (addr c s j), .bool true]) ∧ Below w.heap.size w w' := by
  have hb1 := (slot_bd h).1
  have hb2 := (slot_bd h).2.2
  obtain ⟨h0, h1, h2, h3, h4, h5⟩ := h
  have hf1 := (first_bd h0 h1 h2 h3).1
  have hf2 := (first_bd h0 h1 h2 h3).2.1
  have hp1 := (pages_bd c).1
  have hs1 := (sz_pos h0 h1).1
  have hne : (sz c == 0) = false := by simp; omega
  go_enter Tryd.func10, Tryd.ntmps10
  go_wp2_with fail
  refine (ClsS.slotSize _ _).mono ?_; rintro e w1 ⟨rfl, hw1⟩
  go_wp2_with fail
  refine (ClsS.slabSlots _ _).mono ?_; rintro e w2 ⟨rfl, hw2⟩
  go_wp2_with fail
  refine (slab _ _ _ h0 h1 h2 h3).mono ?_; rintro e w3 ⟨rfl, hw3⟩
  go_wp2_with fail
  refine (ClsS.slotSize _ _).mono ?_; rintro e w4 ⟨rfl, hw4⟩
  go_wp2
  go_ret2
  exact ⟨rfl, ClsS.below_step (ClsS.below_step (ClsS.below_step hw1 hw2) hw3) hw4⟩
theorem not_slot {c s j : Int} (h : ¬ Slot c s j) : (c < 0 ∨ 12 ≤ c) ∨ (0 ≤ c ∧ c < 12 ∧ s < 0) ∨ (0 ≤ c ∧ c < 12 ∧ 0 ≤ s ∧ 6 ≤ s) ∨ (0 ≤ c ∧ c < 12 ∧ 0 ≤ s ∧ s < 6 ∧ j < 0) ∨ (0 ≤ c ∧ c < 12 ∧ 0 ≤ s ∧ s < 6 ∧ 0 ≤ j ∧ slots c ≤ j) := by
  unfold Slot at h
  omega
set_option maxHeartbeats 1000000 in
theorem slotAddr_no (c s j : Int) (w : World) (h : ¬ Slot c s j) :
    Calls Tryd.prog 10 #[.int .i64 c, .int .i64 s, .int .i64 j] w fun e w' => e = .returned (.tuple #[.int .u64 0, .bool false]) ∧ Below w.heap.size w w' := by
  rcases not_slot h with h | ⟨h0, h1, h⟩ | ⟨h0, h1, h2, h⟩ | ⟨h0, h1, h2, h3, h⟩ | ⟨h0, h1, h2, h3, h4, h⟩
  · have hz : (sz c == 0) = true := by simp [sz_out h]
    clear h
    go_enter Tryd.func10, Tryd.ntmps10
    go_wp2_with (go_at_call 24; refine (ClsS.slotSize _ _).mono ?_; rintro e w1 ⟨rfl, hw1⟩)
    go_ret2
    exact ⟨rfl, hw1⟩
  all_goals
    have hs1 := (sz_pos h0 h1).1
    have hne : (sz c == 0) = false := by simp; omega
    go_enter Tryd.func10, Tryd.ntmps10
    go_wp2_with fail
    refine (ClsS.slotSize _ _).mono ?_; rintro e w1 ⟨rfl, hw1⟩
  all_goals
    go_wp2_with (go_at_call 29; refine (ClsS.slabSlots _ _).mono ?_; rintro e w2 ⟨rfl, hw2⟩)
    go_ret2
    first | exact ⟨rfl, hw1⟩ | exact ⟨rfl, ClsS.below_step hw1 hw2⟩
end Go.Proofs.YtklobepkihdbkaaDoor.PlcS
