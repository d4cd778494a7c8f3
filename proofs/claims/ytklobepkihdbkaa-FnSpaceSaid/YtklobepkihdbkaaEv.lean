/- Two wraps. -/
import Derived.Test.YtklobepkihdbkaaWWords
namespace Go.Proofs.Ytklobepkihdbkaa.Ev
open Go.RowKit Go.Proofs.YtklobepkihdbkaaW.PrintWords
theorem w64 {x : Int} (h : -4611686018427387904 ≤ x) (h' : x ≤ 4611686018427387904) : wrap64 x = x := by unfold wrap64; omega
theorem w64w {x : Int} (h : -9223372036854775808 ≤ x) (h' : x ≤ 9223372036854775807) : wrap64 x = x := by unfold wrap64; omega
theorem w64s {j : Nat} (h : j < 4611686018427387904) : wrap64 ((j : Int) + 1) = ((j + 1 : Nat) : Int) := by rw [w64 (by omega) (by omega)]; omega
end Go.Proofs.Ytklobepkihdbkaa.Ev
