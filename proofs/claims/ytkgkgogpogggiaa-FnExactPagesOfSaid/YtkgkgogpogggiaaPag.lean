/- PagesOf, the program's and the reference's: what each returns. No condition. -/
import Derived.Test.YtkgkgogpogggiaaRows
import Derived.WalkKit
import Derived.WalkLawsBesides
import Derived.Lib.Hide
import Derived.OpenShut
namespace Go.Proofs.Ytkgkgogpogggiaa.Pag
open Go.RowKit
set_option linter.unusedVariables false
set_option linter.unusedSimpArgs false
def last (a n : Int) : Int := IntKind.u64.wrap (IntKind.u64.wrap (a + n) - 1)
def Ok (a n : Int) : Prop := 1 ≤ n ∧ n ≤ 4194304 ∧ a + n - 1 < 4611686018427387904
instance (a n : Int) : Decidable (Ok a n) := by unfold Ok; infer_instance
theorem wrapped {a n : Int} (h0 : 0 ≤ a) (h1 : a ≤ 18446744073709551615) (hn : 1 ≤ n) (hm : n ≤ 4194304) (h : ¬ Ok a n) : last a n < a ∨ 4611686018427387904 ≤ last a n := by
  have hb : ¬ a + n - 1 < 4611686018427387904 := fun hb => h ⟨hn, hm, hb⟩
  unfold last
  simp only [IntKind.wrap_u64]
  omega
section
set_option maxHeartbeats 400000 in
theorem impl_no (a n : Int) (w : World) (h0 : 0 ≤ a) (h1 : a ≤ 18446744073709551615) (h : ¬ Ok a n) :
    Calls Try.prog 8 #[.int .u64 a, .int .i64 n] w fun e w' => e = .returned (.tuple #[.int .i64 0, .int .i64 0, .bool false]) ∧ w = w' := by
  by_cases hn : n < 1
  · clear h1
    go_enter Try.func8, Try.ntmps8
    go_wp2
    go_ret3
    exact ⟨rfl, rfl⟩
  · by_cases hm : 4194304 < n
    · clear h1
      go_enter Try.func8, Try.ntmps8
      go_wp2
      go_ret3
      exact ⟨rfl, rfl⟩
    · have hw := wrapped h0 h1 (by omega) (by omega) h
      have hn1 : 1 ≤ n := by omega
      have hm1 : n ≤ 4194304 := by omega
      clear h1 hn hm
      unfold last at hw
      rcases hw with hw | hw
      all_goals
        go_enter Try.func8, Try.ntmps8
        go_wp2
        all_goals go_ret3
        all_goals exact ⟨rfl, rfl⟩
set_option maxHeartbeats 400000 in
theorem impl_ok (a n : Int) (w : World) (h0 : 0 ≤ a) (h : Ok a n) :
    Calls Try.prog 8 #[.int .u64 a, .int .i64 n] w fun e w' => e = .returned (.tuple #[.int .i64 (a / 1024), .int .i64 ((a + n - 1) / 1024), .bool true]) ∧ w = w' := by
  obtain ⟨hn, hm, hb⟩ := h
  go_enter Try.func8, Try.ntmps8
  go_wp2
  go_ret3
  exact ⟨rfl, rfl⟩
end
section
set_option maxHeartbeats 400000 in
theorem spec_no (a n : Int) (w : World) (h0 : 0 ≤ a) (h1 : a ≤ 18446744073709551615) (h : ¬ Ok a n) :
    Calls Try.prog 7 #[.int .u64 a, .int .i64 n] w fun e w' => e = .returned (.tuple #[.int .i64 0, .int .i64 0, .bool false]) ∧ w = w' := by
  by_cases hn : n < 1
  · clear h1
    go_enter Try.func7, Try.ntmps7
    go_wp2
    go_ret3
    exact ⟨rfl, rfl⟩
  · by_cases hm : 4194304 < n
    · clear h1
      go_enter Try.func7, Try.ntmps7
      go_wp2
      go_ret3
      exact ⟨rfl, rfl⟩
    · have hw := wrapped h0 h1 (by omega) (by omega) h
      have hn1 : 1 ≤ n := by omega
      have hm1 : n ≤ 4194304 := by omega
      clear h1 hn hm
      unfold last at hw
      rcases hw with hw | hw
      all_goals
        go_enter Try.func7, Try.ntmps7
        go_wp2
        all_goals go_ret3
        all_goals exact ⟨rfl, rfl⟩
set_option maxHeartbeats 400000 in
theorem spec_ok (a n : Int) (w : World) (h0 : 0 ≤ a) (h : Ok a n) :
    Calls Try.prog 7 #[.int .u64 a, .int .i64 n] w fun e w' => e = .returned (.tuple #[.int .i64 (a / 1024), .int .i64 ((a + n - 1) / 1024), .bool true]) ∧ w = w' := by
  obtain ⟨hn, hm, hb⟩ := h
  go_enter Try.func7, Try.ntmps7
  go_wp2
  go_ret3
  exact ⟨rfl, rfl⟩
end
section
set_option maxHeartbeats 400000 in
theorem pagesOf_law (a n : Int) (wa : (Lit.int .u64 a).wf = true) (_wn : (Lit.int .i64 n).wf = true) (w : World) :
    Calls Try.prog 4 #[.int .u64 a, .int .i64 n] w fun e w' => e = .returned (.bool true) ∧ Below w.heap.size w w' := by
  have h0 := (bounds_u64 wa).1
  have h1 := Lib.hid (bounds_u64 wa).2
  by_cases h : Ok a n
  · go_enter Try.func4, Try.ntmps4
    go_wp2_with (first | (go_at_call 7; refine (spec_ok _ _ _ h0 h).mono ?_; rintro e w' ⟨rfl, rfl⟩) | (go_at_call 8; refine (impl_ok _ _ _ h0 h).mono ?_; rintro e w' ⟨rfl, rfl⟩))
    go_ret
    exact ⟨rfl, Below.refl _ _⟩
  · go_enter Try.func4, Try.ntmps4
    go_wp2_with (first | (go_at_call 7; refine (spec_no _ _ _ h0 h1.out h).mono ?_; rintro e w' ⟨rfl, rfl⟩) | (go_at_call 8; refine (impl_no _ _ _ h0 h1.out h).mono ?_; rintro e w' ⟨rfl, rfl⟩))
    go_ret
    exact ⟨rfl, Below.refl _ _⟩
end
end Go.Proofs.Ytkgkgogpogggiaa.Pag
