/- The walks of the exact laws on SlotAddr and Decode: each returns true. Condition: the table of sizes is the text's. -/
import Derived.Test.YtklobepkihdbkaaDoorPlc
import Derived.Test.YtklobepkihdbkaaDoorPlcSpec
import Derived.Test.YtklobepkihdbkaaDoorDecS
import Derived.OpenShut
namespace Go.Proofs.YtklobepkihdbkaaDoor.PlcL
open Go.RowKit Cls Plc
set_option linter.unusedVariables false
set_option linter.unusedSimpArgs false
set_option maxHeartbeats 400000 in
theorem slotAddr_law (c s j : Int) (_ : (Lit.int .i64 c).wf = true) (_ : (Lit.int .i64 s).wf = true) (_ : (Lit.int .i64 j).wf = true) (w : World) (ht : Laid.Table w) :
    Calls Tryd.prog 4 #[.int .i64 c, .int .i64 s, .int .i64 j] w fun e w' => e = .returned (.bool true) ∧ Below w.heap.size w w' := by
  by_cases h : Slot c s j
  · go_enter Tryd.func4, Tryd.ntmps4
    go_wp2_with fail
    refine (PlcS.slotAddr_yes _ _ _ _ h).mono ?_; rintro e w1 ⟨rfl, hw1⟩
    go_wp2_with fail
    refine (slotAddr_yes _ _ _ _ (ht.below hw1 ht.lt) h).mono ?_; rintro e w2 ⟨rfl, rfl⟩
    go_wp2
    go_ret
    exact ⟨rfl, hw1⟩
  · go_enter Tryd.func4, Tryd.ntmps4
    go_wp2_with fail
    refine (PlcS.slotAddr_no _ _ _ _ h).mono ?_; rintro e w1 ⟨rfl, hw1⟩
    go_wp2_with fail
    refine (slotAddr_no _ _ _ _ (ht.below hw1 ht.lt) h).mono ?_; rintro e w2 ⟨rfl, rfl⟩
    go_wp2
    go_ret
    exact ⟨rfl, hw1⟩
theorem specDecode (a k c s j p o : Int) (h : dec a = ⟨k, c, s, j, p, o⟩) (w : World) (h0 : 0 ≤ a) (hU : a ≤ 18446744073709551615) :
    Calls Tryd.prog 20 #[.int .u64 a] w fun e w' => e = .returned (.agg #[.int .i64 k, .int .i64 c, .int .i64 s, .int .i64 j, .int .i64 p, .int .i64 o]) ∧ Below w.heap.size w w' :=
  PFnExactDecode.spec_Decode.calls 1000 a _ _ _ _ _ _ w ((DecS.decode_is h0 hU 1000 (Nat.le_refl _)).trans (by rw [h]; rfl))
theorem implDecode (a k c s j p o : Int) (h : dec a = ⟨k, c, s, j, p, o⟩) (w : World) (ht : Laid.Table w) (h0 : 0 ≤ a) (hU : a ≤ 18446744073709551615) :
    Calls Tryd.prog 21 #[.int .u64 a] w fun e w' => e = .returned (.agg #[.int .i64 k, .int .i64 c, .int .i64 s, .int .i64 j, .int .i64 p, .int .i64 o]) ∧ Below w.heap.size w w' := by
  have := Plc.decode a w ht h0 hU
  rw [h] at this
  exact this
theorem eqPlace (k c s j p o : Int) (w : World) :
    Calls Tryd.prog 22 #[.agg #[.int .i64 k, .int .i64 c, .int .i64 s, .int .i64 j, .int .i64 p, .int .i64 o], .agg #[.int .i64 k, .int .i64 c, .int .i64 s, .int .i64 j, .int .i64 p, .int .i64 o]] w fun e w' => e = .returned (.bool true) ∧ Below w.heap.size w w' :=
  PFnExactDecode.laws_eqPlace.calls _ _ _ _ _ _ _ _ _ _ _ _ true w (by unfold PFnExactDecode.laws_eqPlace.f; simp)
theorem balloc {w w1 : World} (h : Below w.heap.size w w1) (o : Obj) : Below w.heap.size w (w1.alloc o) := h.alloc h.size o
theorem bcell {W w1 : World} (hb : Below W.heap.size W w1) : (∀ b o, b < W.heap.size → w1.cell? ⟨b, o, none⟩ = W.cell? ⟨b, o, none⟩) ∧ (∀ b o, b < W.heap.size → w1.frozen? ⟨b, o, none⟩ = W.frozen? ⟨b, o, none⟩) :=
  ⟨fun b o h => hb.cell (p := ⟨b, o, none⟩) h, fun b o h => hb.frozen (p := ⟨b, o, none⟩) h⟩
set_option maxHeartbeats 1000000 in
theorem decode_law (a : Int) (wa : (Lit.int .u64 a).wf = true) (w : World) (ht : Laid.Table w) :
    Calls Tryd.prog 6 #[.int .u64 a] w fun e w' => e = .returned (.bool true) ∧ Below w.heap.size w w' := by
  have h0 := (bounds_u64 wa).1
  have hU := Lib.hid (bounds_u64 wa).2
  obtain ⟨k, c, s, j, p, o, hx⟩ : ∃ k c s j p o, dec a = ⟨k, c, s, j, p, o⟩ := ⟨_, _, _, _, _, _, rfl⟩
  have hX := Lib.hid hx
  clear hx
  go_enter Tryd.func6, Tryd.ntmps6
  go_wp2_with fail
  refine (specDecode _ _ _ _ _ _ _ hX.out _ h0 hU.out).mono ?_; rintro e w1 ⟨rfl, hw1⟩
  go_wp2_with fail
  refine (implDecode _ _ _ _ _ _ _ hX.out _ (ht.below (hw1.alloc hw1.size _) ht.lt) h0 hU.out).mono ?_; rintro e w2 ⟨rfl, hw2⟩
  obtain ⟨hc2, hf2⟩ := bcell hw2
  have hz2 : w1.heap.size < w2.heap.size := by have := hw2.size; simp at this; omega
  go_wp2_with fail
  refine (eqPlace _ _ _ _ _ _ _).mono ?_; rintro e w3 ⟨rfl, hw3⟩
  go_wp2
  go_ret
  exact ⟨rfl, ClsS.below_step (balloc (ClsS.below_step (balloc hw1 _) hw2) _) hw3⟩
end Go.Proofs.YtklobepkihdbkaaDoor.PlcL
