/- The walks of the exact laws on classes and regions: each returns true. Condition: the table of sizes is the text's. -/
import Derived.Test.YtkgkgogpogggiaaDoorCls
import Derived.Test.YtkgkgogpogggiaaDoorClsSpec
import Derived.OpenShut
namespace Go.Proofs.YtkgkgogpogggiaaDoor.ClsL
open Go.RowKit Cls ClsS
set_option linter.unusedVariables false
set_option linter.unusedSimpArgs false
theorem wf_u64 {r : Int} (h : (Lit.int .u64 r).wf = true) : 0 ≤ r := (bounds_u64 h).1
section
set_option maxHeartbeats 400000 in
theorem slotSize_law (c : Int) (_wc : (Lit.int .i64 c).wf = true) (w : World) (ht : Laid.Table w) :
    Calls Tryd.prog 3 #[.int .i64 c] w fun e w' => e = .returned (.bool true) ∧ Below w.heap.size w w' := by
  skip
  go_enter Tryd.func3, Tryd.ntmps3
  go_wp2_with fail
  refine (ClsS.slotSize _ _).mono ?_; rintro e w1 ⟨rfl, hw1⟩
  go_wp2_with fail
  refine (Cls.slotSize _ _ (ht.below hw1 ht.lt)).mono ?_; rintro e w2 ⟨rfl, rfl⟩
  go_wp2
  go_ret
  exact ⟨rfl, hw1⟩
end

section
set_option maxHeartbeats 400000 in
theorem usable_law (c : Int) (_wc : (Lit.int .i64 c).wf = true) (w : World) (ht : Laid.Table w) :
    Calls Tryd.prog 4 #[.int .i64 c] w fun e w' => e = .returned (.bool true) ∧ Below w.heap.size w w' := by
  skip
  go_enter Tryd.func4, Tryd.ntmps4
  go_wp2_with fail
  refine (ClsS.usable_spec _ _).mono ?_; rintro e w1 ⟨rfl, hw1⟩
  go_wp2_with fail
  refine (Cls.usable_impl _ _ (ht.below hw1 ht.lt)).mono ?_; rintro e w2 ⟨rfl, rfl⟩
  go_wp2
  go_ret
  exact ⟨rfl, hw1⟩
end

section
set_option maxHeartbeats 400000 in
theorem slabPages_law (c : Int) (_wc : (Lit.int .i64 c).wf = true) (w : World) (ht : Laid.Table w) :
    Calls Tryd.prog 5 #[.int .i64 c] w fun e w' => e = .returned (.bool true) ∧ Below w.heap.size w w' := by
  skip
  go_enter Tryd.func5, Tryd.ntmps5
  go_wp2_with fail
  refine (ClsS.slabPages _ _).mono ?_; rintro e w1 ⟨rfl, hw1⟩
  go_wp2_with fail
  refine (Cls.slabPages _ _ (ht.below hw1 ht.lt)).mono ?_; rintro e w2 ⟨rfl, rfl⟩
  go_wp2
  go_ret
  exact ⟨rfl, hw1⟩
end

section
set_option maxHeartbeats 400000 in
theorem slabSlots_law (c : Int) (_wc : (Lit.int .i64 c).wf = true) (w : World) (ht : Laid.Table w) :
    Calls Tryd.prog 8 #[.int .i64 c] w fun e w' => e = .returned (.bool true) ∧ Below w.heap.size w w' := by
  skip
  go_enter Tryd.func8, Tryd.ntmps8
  go_wp2_with fail
  refine (ClsS.slabSlots _ _).mono ?_; rintro e w1 ⟨rfl, hw1⟩
  go_wp2_with fail
  refine (Cls.slabSlots _ _ (ht.below hw1 ht.lt)).mono ?_; rintro e w2 ⟨rfl, rfl⟩
  go_wp2
  go_ret
  exact ⟨rfl, hw1⟩
end

section
set_option maxHeartbeats 400000 in
theorem regionPages_law (c : Int) (_wc : (Lit.int .i64 c).wf = true) (w : World) (ht : Laid.Table w) :
    Calls Tryd.prog 7 #[.int .i64 c] w fun e w' => e = .returned (.bool true) ∧ Below w.heap.size w w' := by
  skip
  go_enter Tryd.func7, Tryd.ntmps7
  go_wp2_with fail
  refine (ClsS.regionPages _ _).mono ?_; rintro e w1 ⟨rfl, hw1⟩
  go_wp2_with fail
  refine (Cls.regionPages _ _ (ht.below hw1 ht.lt)).mono ?_; rintro e w2 ⟨rfl, rfl⟩
  go_wp2
  go_ret
  exact ⟨rfl, hw1⟩
end

section
set_option maxHeartbeats 400000 in
theorem regionStart_law (c : Int) (_wc : (Lit.int .i64 c).wf = true) (w : World) (ht : Laid.Table w) :
    Calls Tryd.prog 9 #[.int .i64 c] w fun e w' => e = .returned (.bool true) ∧ Below w.heap.size w w' := by
  skip
  go_enter Tryd.func9, Tryd.ntmps9
  go_wp2_with fail
  refine (ClsS.regionStart _ _).mono ?_; rintro e w1 ⟨rfl, hw1⟩
  go_wp2_with fail
  refine (Cls.regionStart _ _ (ht.below hw1 ht.lt)).mono ?_; rintro e w2 ⟨rfl, rfl⟩
  go_wp2
  go_ret
  exact ⟨rfl, hw1⟩
end

section
set_option maxHeartbeats 400000 in
theorem largeStart_law   (w : World) (ht : Laid.Table w) :
    Calls Tryd.prog 10 #[] w fun e w' => e = .returned (.bool true) ∧ Below w.heap.size w w' := by
  skip
  go_enter Tryd.func10, Tryd.ntmps10
  go_wp2_with fail
  refine (ClsS.largeStart _).mono ?_; rintro e w1 ⟨rfl, hw1⟩
  go_wp2_with fail
  refine (Cls.largeStart _ (ht.below hw1 ht.lt)).mono ?_; rintro e w2 ⟨rfl, rfl⟩
  go_wp2
  go_ret
  exact ⟨rfl, hw1⟩
end


section
set_option maxHeartbeats 400000 in
theorem classOf_law (r : Int) (_wr : (Lit.int .u64 r).wf = true) (w : World) (ht : Laid.Table w) :
    Calls Tryd.prog 6 #[.int .u64 r] w fun e w' => e = .returned (.bool true) ∧ Below w.heap.size w w' := by
  have h0 := wf_u64 _wr
  go_enter Tryd.func6, Tryd.ntmps6
  go_wp2_with fail
  refine (ClsS.classOf_spec _ _ h0).mono ?_; rintro e w1 ⟨rfl, hw1⟩
  go_wp2_with fail
  refine (Cls.classOf_impl _ _ (ht.below hw1 ht.lt) h0).mono ?_; rintro e w2 ⟨rfl, rfl⟩
  go_wp2
  go_ret
  exact ⟨rfl, hw1⟩
end
end Go.Proofs.YtkgkgogpogggiaaDoor.ClsL
