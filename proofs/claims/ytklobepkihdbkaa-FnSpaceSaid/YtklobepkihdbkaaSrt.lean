/- sort.Ints on a row of the call's own. No condition beside the row's. -/
import Derived.Test.YtklobepkihdbkaaShelf
import Derived.Test.YtklobepkihdbkaaWWords
import Derived.Sort.OwnSortedInts
namespace Go.Proofs.Ytklobepkihdbkaa.Srt
open Go.Proofs.YtklobepkihdbkaaW.PrintWords
set_option linter.unusedVariables false
set_option linter.unusedSimpArgs false
abbrev leI : Int → Int → Bool := fun x y => decide (x ≤ y)
theorem sort_is {w : World} {base : Nat} {ok : Nat → Prop} {v : Value} {xs : List Int} (hR : (Kd.int .i64).R 3 w base ok v xs) (hsz : xs.length < 4611686018427387904) :
    Calls Try.prog 61 #[v] w fun e w' => e = .returned (.tuple #[]) ∧ (Kd.int .i64).R 3 w' base ok v (xs.mergeSort leI) ∧ w.grownBy w' v.ownBlock := by
  have ho := Kd.own_of_R hR
  have hlm : (xs.mergeSort leI).length = xs.length := (List.mergeSort_perm xs leI).length_eq
  rcases ho.2 with ⟨rfl, h0⟩ | ⟨g, cap, cur, rfl, hb, hc, h1, h2, h3, h4⟩
  · have hx : xs = [] := by
      cases xs with
      | nil => rfl
      | cons a l => simp [encs] at h0
    subst hx
    refine (Try.sort_Ints_none none 0 w).mono fun e w' h => ?_
    obtain ⟨rfl, rfl⟩ := h
    exact ⟨rfl, by rw [List.mergeSort_nil]; exact hR, ⟨rfl, rfl, rfl, Nat.le_refl _, fun _ _ _ => rfl⟩⟩
  · have hH : Sort.Holds (Value.int .i64) w g 0 xs.toArray := holds_of_blockI hc (by simpa [encs] using h4)
    refine (Try.sort_Ints g 0 cap xs w hH (Array.getElem?_eq_some_iff.1 hc).1 hsz).mono fun e w' h => ?_
    obtain ⟨rfl, n, os, rfl⟩ := h
    refine ⟨rfl, ?_, ?_⟩
    · refine Kd.R_of_own ?_ hR.1
      rw [hlm]
      simpa [encs] using ownsRow_sortedI (ts := xs.mergeSort leI) hlm hb hc h1 h2 (by omega)
    · simpa [Value.ownBlock] using grownBy_sortedI (w := w) (g := g) (n := n) (os := os) (xs.mergeSort leI).toArray
end Go.Proofs.Ytklobepkihdbkaa.Srt
