/- The plain functions of the size classes: numbers alone. -/
import Derived.Test.YtklobepkihdbkaaDoorLaid
namespace Go.Proofs.YtklobepkihdbkaaDoor.Cls
open Go.RowKit
set_option linter.unusedVariables false
set_option linter.unusedSimpArgs false
def sz (c : Int) : Int := if 0 ≤ c ∧ c < 12 then Laid.szl.getD c.toNat 0 else 0
def pages (c : Int) : Int := (4 * sz c + 1023) / 1024
def slots (c : Int) : Int := if sz c = 0 then 0 else pages c * 1024 / sz c
def usable (c : Int) : Int := if sz c = 0 then 0 else sz c - 8
def rpages (c : Int) : Int := if sz c = 0 then 0 else 6 * (pages c + 1)
def rsum : Nat → Int
  | 0 => 1
  | n + 1 => rsum n + rpages n
def rstart (c : Int) : Int := if sz c = 0 then -1 else rsum c.toNat
/-- The class of a request: the first one that fits. -/
def classFrom (r : Int) : Nat → Nat → Int
  | 0, _ => -1
  | k + 1, c => if r + 8 ≤ sz c then (c : Int) else classFrom r k (c + 1)
def classOf (r : Int) : Int := classFrom r 12 0

theorem in12 {c : Int} (h : 0 ≤ c) (h' : c < 12) : c = 0 ∨ c = 1 ∨ c = 2 ∨ c = 3 ∨ c = 4 ∨ c = 5 ∨ c = 6 ∨ c = 7 ∨ c = 8 ∨ c = 9 ∨ c = 10 ∨ c = 11 := by omega
theorem sz_out {c : Int} (h : c < 0 ∨ 12 ≤ c) : sz c = 0 := by
  unfold sz
  rw [if_neg (by omega)]
theorem sz_in {c : Int} (h : 0 ≤ c) (h' : c < 12) : sz c = Laid.szl.getD c.toNat 0 := by
  unfold sz
  rw [if_pos ⟨h, h'⟩]
theorem sz_pos {c : Int} (h : 0 ≤ c) (h' : c < 12) : 16 ≤ sz c ∧ sz c ≤ 1024 := by
  rcases in12 h h' with rfl | rfl | rfl | rfl | rfl | rfl | rfl | rfl | rfl | rfl | rfl | rfl <;> decide
theorem sz_bd (c : Int) : 0 ≤ sz c ∧ sz c ≤ 1024 := by
  by_cases h : 0 ≤ c ∧ c < 12
  · have := sz_pos h.1 h.2
    omega
  · rw [sz_out (by omega)]
    omega
theorem sz_zero {c : Int} : sz c = 0 ↔ c < 0 ∨ 12 ≤ c := by
  constructor
  · intro h
    by_cases h' : 0 ≤ c ∧ c < 12
    · have := sz_pos h'.1 h'.2
      omega
    · omega
  · exact sz_out
theorem pages_bd (c : Int) : 0 ≤ pages c ∧ pages c ≤ 4 := by
  have := sz_bd c
  unfold pages
  omega
theorem pages_out {c : Int} (h : c < 0 ∨ 12 ≤ c) : pages c = 0 := by
  unfold pages
  rw [sz_out h]
  rfl
theorem pages_pos {c : Int} (h : 0 ≤ c) (h' : c < 12) : 1 ≤ pages c := by
  have := sz_pos h h'
  unfold pages
  omega
theorem slots_bd (c : Int) : 0 ≤ slots c ∧ slots c ≤ 64 := by
  by_cases h : 0 ≤ c ∧ c < 12
  · rcases in12 h.1 h.2 with rfl | rfl | rfl | rfl | rfl | rfl | rfl | rfl | rfl | rfl | rfl | rfl <;> decide
  · unfold slots
    rw [if_pos (sz_out (by omega))]
    omega
theorem slots_pos {c : Int} (h : 0 ≤ c) (h' : c < 12) : 4 ≤ slots c := by
  rcases in12 h h' with rfl | rfl | rfl | rfl | rfl | rfl | rfl | rfl | rfl | rfl | rfl | rfl <;> decide
theorem slots_fit (c : Int) : slots c * sz c ≤ pages c * 1024 := by
  by_cases h : 0 ≤ c ∧ c < 12
  · rcases in12 h.1 h.2 with rfl | rfl | rfl | rfl | rfl | rfl | rfl | rfl | rfl | rfl | rfl | rfl <;> decide
  · rw [sz_out (by omega), pages_out (by omega)]
    omega
theorem usable_bd (c : Int) : 0 ≤ usable c ∧ usable c ≤ 1016 := by
  have h := sz_bd c
  unfold usable
  split
  · omega
  · rename_i hz
    have : 0 ≤ c ∧ c < 12 := by
      by_cases h' : 0 ≤ c ∧ c < 12
      · exact h'
      · exact absurd (sz_out (by omega)) hz
    have := sz_pos this.1 this.2
    omega
theorem usable_max (c : Int) : max 0 (sz c - 8) = usable c := by
  unfold usable
  by_cases h : 0 ≤ c ∧ c < 12
  · have := sz_pos h.1 h.2
    rw [if_neg (by omega)]
    omega
  · rw [if_pos (sz_out (by omega)), sz_out (by omega)]
    rfl
theorem rpages_bd (c : Int) : 0 ≤ rpages c ∧ rpages c ≤ 30 := by
  have := pages_bd c
  unfold rpages
  split <;> omega
theorem rsum_bd (n : Nat) : 1 ≤ rsum n ∧ rsum n ≤ 1 + 30 * n := by
  induction n with
  | zero => simp [rsum]
  | succ n ih =>
    have := rpages_bd n
    simp only [rsum]
    omega
theorem rstart_in {c : Int} (h : 0 ≤ c) (h' : c < 12) : rstart c = rsum c.toNat := by
  have := sz_pos h h'
  unfold rstart
  rw [if_neg (by omega)]
theorem rstart_bd (c : Int) : -1 ≤ rstart c ∧ rstart c ≤ 361 := by
  by_cases h : 0 ≤ c ∧ c < 12
  · rw [rstart_in h.1 h.2]
    have := rsum_bd c.toNat
    omega
  · unfold rstart
    rw [if_pos (sz_out (by omega))]
    omega
theorem large_val : rstart 11 + rpages 11 = 187 := by decide
/-- The spec's page count: the least n from 1 on whose pages hold four slots. -/
theorem pages_least {c n : Int} (h : 0 ≤ c) (h' : c < 12) (hle : n ≤ pages c) (hge : ¬ n * 1024 < 4 * sz c) : n = pages c := by
  have := sz_pos h h'
  unfold pages at *
  omega
theorem pages_more {c n : Int} (hlt : n * 1024 < 4 * sz c) : n + 1 ≤ pages c := by
  have := sz_bd c
  unfold pages
  omega
theorem classFrom_step {r : Int} {k c : Nat} (h : ¬ r + 8 ≤ sz c) : classFrom r (k + 1) c = classFrom r k (c + 1) := by
  rw [classFrom, if_neg h]
theorem classFrom_hit {r : Int} {k c : Nat} (h : r + 8 ≤ sz c) : classFrom r (k + 1) c = c := by
  rw [classFrom, if_pos h]
theorem classFrom_big {r : Int} (h : 1016 < r) : ∀ k c, classFrom r k c = -1
  | 0, _ => rfl
  | k + 1, c => by
    have := sz_bd c
    rw [classFrom, if_neg (by omega)]
    exact classFrom_big h k (c + 1)
theorem classOf_big {r : Int} (h : 1016 < r) : classOf r = -1 := classFrom_big h 12 0
theorem classFrom_bd (r : Int) : ∀ k c, c + k = 12 → -1 ≤ classFrom r k c ∧ classFrom r k c < 12
  | 0, c, _ => by simp [classFrom]
  | k + 1, c, h => by
    rw [classFrom]
    split
    · omega
    · exact classFrom_bd r k (c + 1) (by omega)
theorem classOf_bd (r : Int) : -1 ≤ classOf r ∧ classOf r < 12 := classFrom_bd r 12 0 rfl
end Go.Proofs.YtklobepkihdbkaaDoor.Cls
