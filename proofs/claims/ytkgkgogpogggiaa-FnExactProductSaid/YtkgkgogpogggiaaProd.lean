/- Product, the program's and the reference's: what each returns. No condition. -/
import Derived.Test.YtkgkgogpogggiaaRows
import Derived.Test.YtkgkgogpogggiaaShelf
import Derived.WalkKit
import Derived.WalkLawsBesides
import Derived.Lib.Hide
import Derived.OpenShut
namespace Go.Proofs.Ytkgkgogpogggiaa.Prod
open Go.RowKit
set_option linter.unusedVariables false
set_option linter.unusedSimpArgs false
def lim : Nat := 18446744073709551616
def hi (x y : Nat) : Int := ((x * y / lim : Nat) : Int)
def lo (x y : Nat) : Int := ((x * y % lim : Nat) : Int)
theorem mul64 (x y : Nat) (hx : x < lim) (hy : y < lim) (w : World) :
    Calls Try.prog 16 #[.int .u64 x, .int .u64 y] w fun e w' => e = .returned (.tuple #[.int .u64 (hi x y), .int .u64 (lo x y)]) ∧ w' = w :=
  Try.bits_Mul64 x y hx hy w
theorem hi_zero {x y : Nat} : (hi x y == 0) = decide (x * y < lim) := by
  unfold hi
  have : x * y / lim = 0 ↔ x * y < lim := by
    rw [Nat.div_eq_zero_iff]
    simp [lim]
  rw [Bool.eq_iff_iff, beq_iff_eq, decide_eq_true_iff, ← this]
  exact Int.ofNat_eq_zero
theorem lo_fits {x y : Nat} (h : x * y < lim) : lo x y = ((x * y : Nat) : Int) := by
  unfold lo
  rw [Nat.mod_eq_of_lt h]
section
set_option maxHeartbeats 400000 in
theorem impl_yes (x y : Nat) (hx : x < lim) (hy : y < lim) (h : x * y < lim) (w : World) :
    Calls Try.prog 10 #[.int .u64 x, .int .u64 y] w fun e w' => e = .returned (.tuple #[.int .u64 ((x * y : Nat) : Int), .bool true]) ∧ w = w' := by
  have hz : (hi x y == 0) = true := by rw [hi_zero]; exact decide_eq_true h
  have hn : (hi x y != 0) = false := by simp only [bne, hz]; rfl
  have hl := Lib.hid (lo_fits h)
  clear h
  go_enter Try.func10, Try.ntmps10
  go_wp2_with (go_at_call 16; refine (mul64 _ _ hx hy _).mono ?_; rintro e w' ⟨rfl, rfl⟩)
  go_ret2
  exact ⟨by simp [hl.out], rfl⟩
set_option maxHeartbeats 400000 in
theorem impl_no (x y : Nat) (hx : x < lim) (hy : y < lim) (h : ¬ x * y < lim) (w : World) :
    Calls Try.prog 10 #[.int .u64 x, .int .u64 y] w fun e w' => e = .returned (.tuple #[.int .u64 0, .bool false]) ∧ w = w' := by
  have hz : (hi x y == 0) = false := by rw [hi_zero]; exact decide_eq_false h
  have hn : (hi x y != 0) = true := by simp only [bne, hz]; rfl
  clear h
  go_enter Try.func10, Try.ntmps10
  go_wp2_with (go_at_call 16; refine (mul64 _ _ hx hy _).mono ?_; rintro e w' ⟨rfl, rfl⟩)
  go_ret2
  exact ⟨rfl, rfl⟩
end
section
theorem big_iff {x y : Nat} (hx : 0 < x) : y ≤ 18446744073709551615 / x ↔ x * y < lim := by
  rw [Nat.le_div_iff_mul_le hx, Nat.mul_comm]
  unfold lim
  omega
theorem cast_le (M x y : Nat) (h : y ≤ M / x) : (y : Int) ≤ (M : Int) / (x : Int) := by
  rw [← Int.natCast_ediv]
  exact Int.ofNat_le.2 h
theorem cast_lt (M x y : Nat) (h : M / x < y) : (M : Int) / (x : Int) < (y : Int) := by
  rw [← Int.natCast_ediv]
  exact Int.ofNat_lt.2 h
theorem wrap_fits {x y : Nat} (h : x * y < lim) : IntKind.u64.wrap ((x : Int) * (y : Int)) = ((x * y : Nat) : Int) := by
  rw [← Int.natCast_mul, IntKind.wrap_u64]
  unfold lim at h
  omega
set_option maxHeartbeats 400000 in
theorem spec_yes (x y : Nat) (h : x * y < lim) (w : World) :
    Calls Try.prog 9 #[.int .u64 x, .int .u64 y] w fun e w' => e = .returned (.tuple #[.int .u64 ((x * y : Nat) : Int), .bool true]) ∧ w = w' := by
  have hw := Lib.hid (wrap_fits h)
  by_cases hx : x = 0
  · subst hx
    clear h
    go_enter Try.func9, Try.ntmps9
    go_wp2
    go_ret2
    exact ⟨by simp, rfl⟩
  · have hb := (big_iff (y := y) (show 0 < x by omega)).2 h
    have hb' : (y : Int) ≤ 18446744073709551615 / (x : Int) := cast_le 18446744073709551615 x y hb
    have hne : ((x : Int) != 0) = true := by rw [bne_iff_ne]; omega
    clear h hb
    go_enter Try.func9, Try.ntmps9
    go_wp2
    go_ret2
    exact ⟨by simp [hw.out], rfl⟩
set_option maxHeartbeats 400000 in
theorem spec_no (x y : Nat) (h : ¬ x * y < lim) (w : World) :
    Calls Try.prog 9 #[.int .u64 x, .int .u64 y] w fun e w' => e = .returned (.tuple #[.int .u64 0, .bool false]) ∧ w = w' := by
  by_cases hx : x = 0
  · subst hx
    exact (h (by rw [Nat.zero_mul]; unfold lim; omega)).elim
  · have hb := fun hh => h ((big_iff (y := y) (show 0 < x by omega)).1 hh)
    have hb' : 18446744073709551615 / (x : Int) < (y : Int) := cast_lt 18446744073709551615 x y (Nat.lt_of_not_le hb)
    have hne : ((x : Int) != 0) = true := by rw [bne_iff_ne]; omega
    clear h hb
    go_enter Try.func9, Try.ntmps9
    go_wp2
    go_ret2
    exact ⟨rfl, rfl⟩
end
theorem nat_u64 {a : Int} (h : (Lit.int .u64 a).wf = true) : ∃ x : Nat, a = x ∧ x < lim := by
  obtain ⟨x, rfl⟩ := Int.eq_ofNat_of_zero_le (bounds_u64 h).1
  have := (bounds_u64 h).2
  exact ⟨x, rfl, by unfold lim; omega⟩
section
set_option maxHeartbeats 400000 in
theorem product_law (a b : Int) (wa : (Lit.int .u64 a).wf = true) (wb : (Lit.int .u64 b).wf = true) (w : World) :
    Calls Try.prog 5 #[.int .u64 a, .int .u64 b] w fun e w' => e = .returned (.bool true) ∧ Below w.heap.size w w' := by
  obtain ⟨x, rfl, hx⟩ := nat_u64 wa
  obtain ⟨y, rfl, hy⟩ := nat_u64 wb
  have Hx := Lib.hid hx
  have Hy := Lib.hid hy
  clear hx hy
  by_cases h : x * y < lim
  · have H := Lib.hid h
    clear h
    go_enter Try.func5, Try.ntmps5
    go_wp2_with (first | (go_at_call 9; refine (spec_yes _ _ H.out _).mono ?_; rintro e w' ⟨rfl, rfl⟩) | (go_at_call 10; refine (impl_yes _ _ Hx.out Hy.out H.out _).mono ?_; rintro e w' ⟨rfl, rfl⟩))
    go_ret
    exact ⟨rfl, Below.refl _ _⟩
  · have H := Lib.hid h
    clear h
    go_enter Try.func5, Try.ntmps5
    go_wp2_with (first | (go_at_call 9; refine (spec_no _ _ H.out _).mono ?_; rintro e w' ⟨rfl, rfl⟩) | (go_at_call 10; refine (impl_no _ _ Hx.out Hy.out H.out _).mono ?_; rintro e w' ⟨rfl, rfl⟩))
    go_ret
    exact ⟨rfl, Below.refl _ _⟩
end
end Go.Proofs.Ytkgkgogpogggiaa.Prod
