/- The reference's RunWaiting: at an argument that it refuses. -/
import Derived.Test.YtklobepkihdbkaaRwIb
namespace Go.Proofs.Ytklobepkihdbkaa.RwSb
open Go.RowKit Go.Proofs.YtklobepkihdbkaaW.PrintWords Go.Proofs.YtklobepkihdbkaaW.PrintLast Go.Proofs.YtklobepkihdbkaaW.PrintMore Wp WpG WpI WpJ WpS Rw RwIb
set_option linter.unusedVariables false
set_option linter.unusedSimpArgs false
set_option maxRecDepth 100000 in
set_option maxHeartbeats 4000000 in
theorem run_bad {As Ad : Option Addr} {cs cd : Nat} {slots draws : List Int} {mix limit : Int} (w : World) (hs : (Kd.int .i64).C w As slots.length slots) (hcs : slots.length ≤ cs) (hsl : slots.length ≤ 1048576) (hg : ¬ runOk mix limit slots) :
    Calls Try.prog 15 #[.int .i64 mix, .int .i64 limit, .slice As slots.length cs, .slice Ad draws.length cd] w fun e w' => e = .returned (.tuple #[.slice none 0 0, .bool false]) ∧ Below w.heap.size w w' := by
  have HS := Lib.hid hs
  by_cases c1 : mix < 0 ∨ 16 < mix ∨ limit < 1 ∨ 32 < limit ∨ 2000 < slots.length
  · have key : (decide (mix < 0) || decide (16 < mix) || decide (limit < 1) || decide (32 < limit) || decide (2000 < (slots.length : Int))) = true := by
      simp only [Bool.or_eq_true, decide_eq_true_eq]
      omega
    clear hs hg c1
    go_enter Try.func15, Try.ntmps15
    go_wp2
    all_goals exact bodyPost_ret (v := .tuple #[.slice none 0 0, .bool false]) (by simp [results, Try.results15, go_sem]) rfl ⟨rfl, Below.refl _ _⟩
  have hneg : ¬ ∀ x ∈ slots, 0 ≤ x := fun h => hg ⟨by omega, by omega, by omega, by omega, by omega, h⟩
  have n1 : ¬ mix < 0 := by omega
  have n2 : ¬ 16 < mix := by omega
  have n3 : ¬ limit < 1 := by omega
  have n4 : ¬ 32 < limit := by omega
  have n5 : ¬ 2000 < slots.length := by omega
  have HNEG := Lib.hid hneg
  clear hs hg c1 hneg
  go_enter Try.func15, Try.ntmps15
  go_wp2_with fail
  go_loopw [39] (fun i wr => ∃ j : Nat, i = .int .i64 j ∧ j ≤ slots.length ∧ (∀ i : Nat, i < j → 0 ≤ slots.getD i 0) ∧ w = wr) (fun i _ => slots.length - (intOf i).toNat)
  case atStart => exact ⟨0, rfl, Nat.zero_le _, fun i hi => by omega, rfl⟩
  case round =>
    obtain ⟨j, rfl, hj, hall, rfl⟩ := hrel
    by_cases hlt : j < slots.length
    · obtain ⟨ad, had, hcx⟩ := Kd.at_int HS.out (j : Int) (by omega) (by omega)
      rw [Int.toNat_natCast, show rd slots (j : Int) = slots.getD j 0 from rd_getD slots j] at hcx
      subst had
      obtain ⟨x, hx⟩ : ∃ x, slots.getD j 0 = x := ⟨_, rfl⟩
      rw [hx] at hcx
      have HA := Lib.hid hall
      clear hall
      by_cases hx1 : x < 0
      · go_wp2
        exact bodyPost_ret (v := .tuple #[.slice none 0 0, .bool false]) (by simp [results, Try.results15, go_sem]) rfl ⟨rfl, Below.refl _ _⟩
      · go_wp2_with fail
        go_roundw
        case rel => exact ⟨j + 1, by go_num, by omega, (fun i hi => by
          by_cases h : i = j
          · subst h; omega
          · exact HA.out i (by omega)), trivial⟩
        case measure => simp [intOf]; omega

    · refine absurd (fun x hx => ?_) HNEG.out
      obtain ⟨i, hi, rfl⟩ := List.getElem_of_mem hx
      have := hall i (by omega)
      rw [List.getD_eq_getElem?_getD, List.getElem?_eq_getElem hi] at this
      exact this
end Go.Proofs.Ytklobepkihdbkaa.RwSb
