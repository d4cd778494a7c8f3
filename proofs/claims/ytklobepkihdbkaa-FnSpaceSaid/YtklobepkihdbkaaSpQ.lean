/- The address space: which bytes may be touched; plain facts. -/
import Derived.Test.YtklobepkihdbkaaSpP
import Derived.Test.YtklobepkihdbkaaWWords
import Derived.Test.YtklobepkihdbkaaPag
namespace Go.Proofs.Ytklobepkihdbkaa.SpQ
open Go.RowKit Go.Proofs.YtklobepkihdbkaaW.PrintWords Mem Sp SpI SpA SpP
set_option linter.unusedVariables false
set_option linter.unusedSimpArgs false
theorem reach_lt {A : Pages} {a : Nat} (h : reach A a = true) : a / 1024 < A.length := by
  refine pg_lt ?_
  unfold reach at h
  cases hh : pg A (a / 1024) with
  | none => rw [hh] at h; cases h
  | some x => rfl
theorem access_iff {A : Pages} {a n : Nat} (hn : 1 ≤ n) :
    (∀ i, i < n → reach A (a + i) = true) ↔ (a + n - 1) / 1024 < A.length ∧ allR A (a / 1024) ((a + n - 1) / 1024 - a / 1024 + 1) opened := by
  constructor
  · intro h
    refine ⟨by have := reach_lt (h (n - 1) (by omega)); rw [show a + (n - 1) = a + n - 1 by omega] at this; exact this, fun k hk => ?_⟩
    by_cases h0 : k = 0
    · subst h0
      have := h 0 (by omega)
      unfold reach at this
      simpa using this
    · have := h ((a / 1024 + k) * 1024 - a) (by omega)
      unfold reach at this
      rw [show (a + ((a / 1024 + k) * 1024 - a)) / 1024 = a / 1024 + k by omega] at this
      exact this
  · rintro ⟨h1, h2⟩ i hi
    have := h2 ((a + i) / 1024 - a / 1024) (by omega)
    rw [show a / 1024 + ((a + i) / 1024 - a / 1024) = (a + i) / 1024 by omega] at this
    exact this
theorem accessC_ok {A : Pages} {a n : Nat} (h : accessC A a n = 0) : n ≤ 4096 ∧ (1 ≤ n → (a : Int) + n ≤ 4611686018427387904) ∧ ∀ i, i < n → reach A (a + i) = true := by
  unfold accessC at h
  simp only [Int.toNat_natCast] at h
  split at h
  · omega
  · rename_i h1
    split at h
    · rename_i h2
      exact ⟨by omega, fun _ => by omega, fun i hi => by omega⟩
    · split at h
      · rename_i h3
        exact ⟨by omega, fun _ => h3.1, h3.2⟩
      · omega
/-- What is read so far. -/
def ldk (A : Pages) (a n i : Nat) : List Int := (List.range n).map fun k => if k < i then getB A (a + k) else 0
theorem ldk_len (A : Pages) (a n i : Nat) : (ldk A a n i).length = n := by simp [ldk]
theorem ldk_zero (A : Pages) (a n : Nat) : ldk A a n 0 = List.replicate n 0 := by
  apply List.ext_getElem (by simp [ldk])
  intro i h1 h2
  simp [ldk]
theorem ldk_full (A : Pages) (a n : Nat) : ldk A a n n = loadD A a n := by
  unfold ldk loadD
  simp only [Int.toNat_natCast]
  exact List.map_congr_left fun k hk => by rw [if_pos (List.mem_range.1 hk)]
theorem ldk_succ (A : Pages) (a n i : Nat) : (ldk A a n i).set i (getB A (a + i)) = ldk A a n (i + 1) := by
  apply List.ext_getElem (by simp [ldk])
  intro k h1 h2
  simp only [ldk, List.getElem_set, List.getElem_map, List.getElem_range]
  by_cases e : i = k
  · subst e
    simp
  · rw [if_neg e]
    by_cases e2 : k < i
    · rw [if_pos e2, if_pos (by omega)]
    · rw [if_neg e2, if_neg (by omega)]
theorem putAll_take {A : Pages} {a i : Nat} {data : List Int} (h : i < data.length) : putAll A a (data.take (i + 1)) = putB (putAll A a (data.take i)) (a + i) (data.getD i 0) := by
  rw [List.take_succ_eq_append_getElem h, putAll_snoc, List.length_take, Nat.min_eq_left (by omega)]
  simp [List.getD_eq_getElem?_getD, List.getElem?_eq_getElem h]
theorem reach_putAll : ∀ (data : List Int) (A : Pages) (a b : Nat), (∀ i, i < data.length → (a + i) / 1024 < A.length) → reach (putAll A a data) b = reach A b
  | [], A, a, b, _ => rfl
  | v :: vs, A, a, b, h => by
    rw [putAll, reach_putAll vs (putB A a v) (a + 1) b (fun i hi => by rw [putB_len]; have := h (i + 1) (by simpa using hi); rw [show a + 1 + i = a + (i + 1) by omega]; exact this), reach_putB (by simpa using h 0 (by simp))]
/-- A row that is read stays while its block does. -/
theorem C_move {k : IntKind} {w w1 : World} {A : Option Addr} {n : Nat} {xs : List Int} (h : (Kd.int k).C w A n xs) (hm : ∀ ad, A = some ad → 0 < n → w1.heap[ad.block]? = w.heap[ad.block]?) : (Kd.int k).C w1 A n xs := by
  refine ⟨h.1, h.2.1, fun hn => ?_⟩
  obtain ⟨ad, hA, hc⟩ := h.2.2 hn
  refine ⟨ad, hA, fun j p hj => ?_⟩
  obtain ⟨c, h1, h2, h3⟩ := hc j p hj
  refine ⟨c, h1, h2, fun i u hu => ?_⟩
  have := h3 i u hu
  unfold World.cell? at this ⊢
  rw [add_block] at this
  rw [add_block, hm ad hA hn]
  exact this
theorem C_lt {k : IntKind} {w : World} {A : Option Addr} {n : Nat} {xs : List Int} (h : (Kd.int k).C w A n xs) : ∀ ad, A = some ad → 0 < n → ad.block < w.heap.size := by
  intro ad hA hn
  obtain ⟨ad', hA', hc⟩ := h.2.2 hn
  obtain rfl := Option.some.inj (hA.symm.trans hA')
  obtain ⟨c, h1, h2, h3⟩ := hc 0 _ (List.getElem?_eq_getElem (by have := h.1; omega))
  cases h2
  have := h3 0 _ rfl
  unfold World.cell? at this
  rw [add_block] at this
  split at this
  · rename_i e; exact lt_of e
  · cases this
end Go.Proofs.Ytklobepkihdbkaa.SpQ
