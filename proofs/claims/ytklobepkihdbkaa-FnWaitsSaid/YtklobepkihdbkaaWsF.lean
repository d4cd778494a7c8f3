/- Runs over slots 0, 1, ..: what waits and what has left; plain facts. -/
import Derived.Test.YtklobepkihdbkaaDrw
import Derived.Test.YtklobepkihdbkaaRw
namespace Go.Proofs.Ytklobepkihdbkaa.WsF
open Wp Drw
set_option linter.unusedVariables false
set_option linter.unusedSimpArgs false
theorem iota_nn (n : Nat) : ∀ x ∈ iota n, 0 ≤ x := fun x hx => by
  simp only [iota, List.mem_map] at hx
  obtain ⟨a, _, rfl⟩ := hx
  exact Int.natCast_nonneg a
theorem run_st {m : Nat} {limit : Int} (hm : m ≤ 16) (h1 : 1 ≤ limit) (h2 : limit ≤ 32) (n : Nat) (draws : List Int) : ∀ j, j ≤ n → Aged (st m limit (iota n) draws j).1 (st m limit (iota n) draws j).2 j ∧ pos (st m limit (iota n) draws j).1 + (st m limit (iota n) draws j).2.length + pos (lefts m limit (iota n) draws j) = j
  | 0, _ => by
    refine ⟨⟨fun x hx => ?_, fun p hp => ?_⟩, ?_⟩
    · rw [(List.mem_replicate.1 hx).2]; omega
    · simp [st] at hp
    · have : pos (List.replicate m (-1 : Int)) = 0 := by unfold pos; simp
      simp [st, lefts, this, pos]
  | j + 1, hj => by
    obtain ⟨ha, hp⟩ := run_st hm h1 h2 n draws j (by omega)
    have hg := good_st hm h1 h2 (iota_nn n) draws j
    have hs : (iota n).getD j 0 = (j : Int) := iota_getD (by omega)
    have hh := held_step hg (slot := (j : Int)) (by omega) (draws.getD j 0)
    have hst := (aged_step hg ha (draws.getD j 0)).1
    rw [lefts_succ, pos_append]
    simp only [st]
    rw [hs]
    exact ⟨hst, by omega⟩
/-- What leaves at push j is one of the slots and has waited for limit pushes. -/
theorem out_at {m : Nat} {limit : Int} (hm : m ≤ 16) (h1 : 1 ≤ limit) (h2 : limit ≤ 32) (n : Nat) (draws : List Int) {j : Nat} (hj : j < n) :
    0 ≤ fifoOut (st m limit (iota n) draws j).2 limit (mixOut (st m limit (iota n) draws j).1 (j : Int) (draws.getD j 0)) → fifoOut (st m limit (iota n) draws j).2 limit (mixOut (st m limit (iota n) draws j).1 (j : Int) (draws.getD j 0)) + limit ≤ j :=
  (aged_step (good_st hm h1 h2 (iota_nn n) draws j) (run_st hm h1 h2 n draws j (by omega)).1 (draws.getD j 0)).2
theorem lefts_getD (m : Nat) (limit : Int) (slots draws : List Int) {n j : Nat} (hj : j < n) : (lefts m limit slots draws n).getD j 0 = fifoOut (st m limit slots draws j).2 limit (mixOut (st m limit slots draws j).1 (slots.getD j 0) (draws.getD j 0)) := by
  simp [lefts, List.getD_eq_getElem?_getD, hj]
end Go.Proofs.Ytklobepkihdbkaa.WsF
