/- PagesOf, the program's and the reference's: what each returns. No condition. -/
import Derived.Test.YtklobepkihdbkaaRows
import Derived.WalkKit
import Derived.WalkLawsBesides
import Derived.Lib.Hide
import Derived.OpenShut
namespace Go.Proofs.Ytklobepkihdbkaa.Pag
open Go.RowKit
set_option linter.unusedVariables false
set_option linter.unusedSimpArgs false
def last (a n : Int) : Int := IntKind.u64.wrap (IntKind.u64.wrap (a + n) - 1)
def Ok (a n : Int) : Prop := 1 ≤ n ∧ n ≤ 4194304 ∧ a + n - 1 < 4611686018427387904
instance (a n : Int) : Decidable (Ok a n) := by unfold Ok; infer_instance
theorem wrapped {a n : Int} (h0 : 0 ≤ a) (h1 : a ≤ 18446744073709551615) (hn : 1 ≤ n) (hm : n ≤ 4194304) (h : ¬ Ok a n) : last a n < a ∨ 4611686018427387904 ≤ last a n := by
  have hb : ¬ a + n - 1 < 4611686018427387904 := fun hb => h ⟨hn, hm, hb⟩
  unfold last
  simp only [IntKind.wrap_u64]
  omega
section
set_option maxHeartbeats 400000 in
theorem impl_no (a n : Int) (w : World) (h0 : 0 ≤ a) (h1 : a ≤ 18446744073709551615) (h : ¬ Ok a n) :
    Calls Try.prog 85 #[.int .u64 a, .int .i64 n] w fun e w' => e = .returned (.tuple #[.int .i64 0, .int .i64 0, .bool false]) ∧ w = w' := by
  by_cases hn : n < 1
  · clear h1
    go_enter Try.func85, Try.ntmps85
    go_wp2
    go_ret3
    exact ⟨rfl, rfl⟩
  · by_cases hm : 4194304 < n
    · clear h1
      go_enter Try.func85, Try.ntmps85
      go_wp2
      go_ret3
      exact ⟨rfl, rfl⟩
    · have hw := wrapped h0 h1 (by omega) (by omega) h
      have hn1 : 1 ≤ n := by omega
      have hm1 : n ≤ 4194304 := by omega
      clear h1 hn hm
      unfold last at hw
      rcases hw with hw | hw
      all_goals
        go_enter Try.func85, Try.ntmps85
        go_wp2
        all_goals go_ret3
        all_goals exact ⟨rfl, rfl⟩
set_option maxHeartbeats 400000 in
theorem impl_ok (a n : Int) (w : World) (h0 : 0 ≤ a) (h : Ok a n) :
    Calls Try.prog 85 #[.int .u64 a, .int .i64 n] w fun e w' => e = .returned (.tuple #[.int .i64 (a / 1024), .int .i64 ((a + n - 1) / 1024), .bool true]) ∧ w = w' := by
  obtain ⟨hn, hm, hb⟩ := h
  go_enter Try.func85, Try.ntmps85
  go_wp2
  go_ret3
  exact ⟨rfl, rfl⟩
end
section
set_option maxHeartbeats 400000 in
theorem spec_no (a n : Int) (w : World) (h0 : 0 ≤ a) (h1 : a ≤ 18446744073709551615) (h : ¬ Ok a n) :
    Calls Try.prog 89 #[.int .u64 a, .int .i64 n] w fun e w' => e = .returned (.tuple #[.int .i64 0, .int .i64 0, .bool false]) ∧ w = w' := by
  by_cases hn : n < 1
  · clear h1
    go_enter Try.func89, Try.ntmps89
    go_wp2
    go_ret3
    exact ⟨rfl, rfl⟩
  · by_cases hm : 4194304 < n
    · clear h1
      go_enter Try.func89, Try.ntmps89
      go_wp2
      go_ret3
      exact ⟨rfl, rfl⟩
    · have hw := wrapped h0 h1 (by omega) (by omega) h
      have hn1 : 1 ≤ n := by omega
      have hm1 : n ≤ 4194304 := by omega
      clear h1 hn hm
      unfold last at hw
      rcases hw with hw | hw
      all_goals
        go_enter Try.func89, Try.ntmps89
        go_wp2
        all_goals go_ret3
        all_goals exact ⟨rfl, rfl⟩
set_option maxHeartbeats 400000 in
theorem spec_ok (a n : Int) (w : World) (h0 : 0 ≤ a) (h : Ok a n) :
    Calls Try.prog 89 #[.int .u64 a, .int .i64 n] w fun e w' => e = .returned (.tuple #[.int .i64 (a / 1024), .int .i64 ((a + n - 1) / 1024), .bool true]) ∧ w = w' := by
  obtain ⟨hn, hm, hb⟩ := h
  go_enter Try.func89, Try.ntmps89
  go_wp2
  go_ret3
  exact ⟨rfl, rfl⟩
end
end Go.Proofs.Ytklobepkihdbkaa.Pag
