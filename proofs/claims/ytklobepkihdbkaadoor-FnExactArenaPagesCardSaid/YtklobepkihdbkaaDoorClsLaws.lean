/- The walks of the exact laws on classes and regions: each returns true. Condition: the table of sizes is the text's. -/
import Derived.Test.YtklobepkihdbkaaDoorCls
import Derived.Test.YtklobepkihdbkaaDoorClsSpec
import Derived.OpenShut
namespace Go.Proofs.YtklobepkihdbkaaDoor.ClsL
open Go.RowKit Cls ClsS
set_option linter.unusedVariables false
set_option linter.unusedSimpArgs false
theorem wf_u64 {r : Int} (h : (Lit.int .u64 r).wf = true) : 0 ≤ r := (bounds_u64 h).1







section
set_option maxHeartbeats 400000 in
theorem arenaPages_law   (w : World) (ht : Laid.Table w) :
    Calls Tryd.prog 3 #[] w fun e w' => e = .returned (.bool true) ∧ Below w.heap.size w w' := by
  skip
  go_enter Tryd.func3, Tryd.ntmps3
  go_wp2_with fail
  refine (ClsS.arenaPages _).mono ?_; rintro e w1 ⟨rfl, hw1⟩
  go_wp2_with fail
  refine (Cls.arenaPages _ (ht.below hw1 ht.lt)).mono ?_; rintro e w2 ⟨rfl, rfl⟩
  go_wp2
  go_ret
  exact ⟨rfl, hw1⟩
end

end Go.Proofs.YtklobepkihdbkaaDoor.ClsL
