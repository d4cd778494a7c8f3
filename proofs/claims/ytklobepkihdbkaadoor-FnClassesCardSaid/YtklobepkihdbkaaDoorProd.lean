/- Product, the program's and the reference's: what each returns. No condition. -/
import Derived.Test.YtklobepkihdbkaaDoorRows
import Derived.Test.YtklobepkihdbkaaDoorShelf
import Derived.WalkKit
import Derived.WalkLawsBesides
import Derived.Lib.Hide
import Derived.OpenShut
namespace Go.Proofs.YtklobepkihdbkaaDoor.Prod
open Go.RowKit
set_option linter.unusedVariables false
set_option linter.unusedSimpArgs false
def lim : Nat := 18446744073709551616
def hi (x y : Nat) : Int := ((x * y / lim : Nat) : Int)
def lo (x y : Nat) : Int := ((x * y % lim : Nat) : Int)
theorem mul64 (x y : Nat) (hx : x < lim) (hy : y < lim) (w : World) :
    Calls Tryd.prog 35 #[.int .u64 x, .int .u64 y] w fun e w' => e = .returned (.tuple #[.int .u64 (hi x y), .int .u64 (lo x y)]) ∧ w' = w :=
  Tryd.bits_Mul64 x y hx hy w
theorem hi_zero {x y : Nat} : (hi x y == 0) = decide (x * y < lim) := by
  unfold hi
  have : x * y / lim = 0 ↔ x * y < lim := by
    rw [Nat.div_eq_zero_iff]
    simp [lim]
  rw [Bool.eq_iff_iff, beq_iff_eq, decide_eq_true_iff, ← this]
  exact Int.ofNat_eq_zero
theorem lo_fits {x y : Nat} (h : x * y < lim) : lo x y = ((x * y : Nat) : Int) := by
  unfold lo
  rw [Nat.mod_eq_of_lt h]
theorem big_iff {x y : Nat} (hx : 0 < x) : y ≤ 18446744073709551615 / x ↔ x * y < lim := by
  rw [Nat.le_div_iff_mul_le hx, Nat.mul_comm]
  unfold lim
  omega
theorem cast_le (M x y : Nat) (h : y ≤ M / x) : (y : Int) ≤ (M : Int) / (x : Int) := by
  rw [← Int.natCast_ediv]
  exact Int.ofNat_le.2 h
theorem cast_lt (M x y : Nat) (h : M / x < y) : (M : Int) / (x : Int) < (y : Int) := by
  rw [← Int.natCast_ediv]
  exact Int.ofNat_lt.2 h
section
set_option maxHeartbeats 400000 in
theorem impl_yes (x y : Nat) (hx : x < lim) (hy : y < lim) (h : x * y < lim) (w : World) :
    Calls Tryd.prog 19 #[.int .u64 x, .int .u64 y] w fun e w' => e = .returned (.tuple #[.int .u64 ((x * y : Nat) : Int), .bool true]) ∧ w = w' := by
  have hz : (hi x y == 0) = true := by rw [hi_zero]; exact decide_eq_true h
  have hn : (hi x y != 0) = false := by simp only [bne, hz]; rfl
  have hl := Lib.hid (lo_fits h)
  clear h
  go_enter Tryd.func19, Tryd.ntmps19
  go_wp2_with (go_at_call 35; refine (mul64 _ _ hx hy _).mono ?_; rintro e w' ⟨rfl, rfl⟩)
  go_ret2
  exact ⟨by simp [hl.out], rfl⟩
set_option maxHeartbeats 400000 in
theorem impl_no (x y : Nat) (hx : x < lim) (hy : y < lim) (h : ¬ x * y < lim) (w : World) :
    Calls Tryd.prog 19 #[.int .u64 x, .int .u64 y] w fun e w' => e = .returned (.tuple #[.int .u64 0, .bool false]) ∧ w = w' := by
  have hz : (hi x y == 0) = false := by rw [hi_zero]; exact decide_eq_false h
  have hn : (hi x y != 0) = true := by simp only [bne, hz]; rfl
  clear h
  go_enter Tryd.func19, Tryd.ntmps19
  go_wp2_with (go_at_call 35; refine (mul64 _ _ hx hy _).mono ?_; rintro e w' ⟨rfl, rfl⟩)
  go_ret2
  exact ⟨rfl, rfl⟩
end
theorem nat_u64 {a : Int} (h : (Lit.int .u64 a).wf = true) : ∃ x : Nat, a = x ∧ x < lim := by
  obtain ⟨x, rfl⟩ := Int.eq_ofNat_of_zero_le (bounds_u64 h).1
  have := (bounds_u64 h).2
  exact ⟨x, rfl, by unfold lim; omega⟩
end Go.Proofs.YtklobepkihdbkaaDoor.Prod
