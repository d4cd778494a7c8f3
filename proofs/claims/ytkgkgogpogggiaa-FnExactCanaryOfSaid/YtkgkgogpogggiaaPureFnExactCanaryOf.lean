/- The exact law on CanaryOf: both give one list of eight bytes; marks hold. No condition. -/
import Derived.Test.YtkgkgogpogggiaaPFnExactCanaryOfx1
namespace Go.Proofs.Ytkgkgogpogggiaa.Pure
open Go.RowKit Go.Proofs.Ytkgkgogpogggiaa.PFnExactCanaryOf Go.Proofs.YtkgkgogpogggiaaW.PrintWords Go.Proofs.YtkgkgogpogggiaaW.PrintLast
set_option linter.unusedVariables false

theorem w1 {i : Int} (h0 : 0 ≤ i) (h : i ≤ 4611686018427387904) : wrap64 (i + 1) = i + 1 := by
  unfold wrap64
  omega

theorem eq_self (xs : List Int) (hn : xs.length ≤ 1000000) : ∀ (d k : Nat) (i : Int), 0 ≤ i → (xs.length : Int) - i = d → d < k → laws_eqByteS.l0 k xs xs i = some true := by
  intro d
  induction d with
  | zero =>
    intro k i h0 hd hk
    obtain ⟨k, rfl⟩ : ∃ m, k = m + 1 := ⟨k - 1, by omega⟩
    simp only [laws_eqByteS.l0]
    rw [if_neg (by omega)]
  | succ d ih =>
    intro k i h0 hd hk
    obtain ⟨k, rfl⟩ : ∃ m, k = m + 1 := ⟨k - 1, by omega⟩
    simp only [laws_eqByteS.l0]
    rw [if_pos (by omega), if_pos h0, if_pos (by omega), if_true, w1 h0 (by omega)]
    exact ih k (i + 1) (by omega) (by omega) (by omega)

theorem eq_selff (xs : List Int) (hn : xs.length ≤ 1000000) (k : Nat) (hk : xs.length < k) : laws_eqByteS.f k xs xs = some true := by
  unfold laws_eqByteS.f
  rw [if_pos rfl]
  exact eq_self xs hn xs.length k 0 (by omega) (by omega) hk

theorem rd_set (xs : List Int) (i j : Nat) (v : Int) (hi : i < xs.length) : rd (xs.set i v) (j : Int) = if i = j then v else rd xs j := by
  unfold rd
  simp only [Int.toNat_natCast, List.getD_eq_getElem?_getD, List.getElem?_set]
  by_cases h : i = j
  · subst h
    simp [hi]
  · simp [h]

theorem held_of (xs : List Int) : ∀ (d k : Nat) (i a : Int), 0 ≤ i → 0 ≤ a → a + d ≤ 4611686018427387904 → (xs.length : Int) - i = d → i + d ≤ 4611686018427387904 → d < k →
    (∀ j : Nat, i ≤ j → j < xs.length → rd xs j = (a + (j - i)) % 256) → laws_heldByteS.l0 k xs a i = some (a + d) := by
  intro d
  induction d with
  | zero =>
    intro k i a h0 ha hb hd hc hk _
    obtain ⟨k, rfl⟩ : ∃ m, k = m + 1 := ⟨k - 1, by omega⟩
    simp only [laws_heldByteS.l0]
    rw [if_neg (by omega)]
    simp
  | succ d ih =>
    intro k i a h0 ha hb hd hc hk h
    obtain ⟨k, rfl⟩ : ∃ m, k = m + 1 := ⟨k - 1, by omega⟩
    simp only [laws_heldByteS.l0]
    have hi := h i.toNat (by omega) (by omega)
    rw [show ((i.toNat : Nat) : Int) = i by omega] at hi
    rw [if_pos (by omega), if_pos h0, if_pos (by rw [hi]; congr 1; omega), w1 h0 (by omega), w1 ha (by omega)]
    rw [ih k (i + 1) (a + 1) (by omega) (by omega) (by omega) (by omega) (by omega) (by omega) (fun j h1 h2 => by rw [h j (by omega) h2]; congr 1; omega)]
    congr 1
    omega

theorem mark_of : ∀ (d k : Nat) (xs : List Int) (i a : Int), 0 ≤ i → 0 ≤ a → a + d ≤ 4611686018427387904 → (xs.length : Int) - i = d → i + d ≤ 4611686018427387904 → d < k →
    ∃ ys, laws_markByteS.l0 k xs a i = some (a + d, ys) ∧ ys.length = xs.length ∧ (∀ j : Nat, (j : Int) < i → rd ys j = rd xs j) ∧ (∀ j : Nat, i ≤ j → j < xs.length → rd ys j = (a + (j - i)) % 256) := by
  intro d
  induction d with
  | zero =>
    intro k xs i a h0 ha hb hd hc hk
    obtain ⟨k, rfl⟩ : ∃ m, k = m + 1 := ⟨k - 1, by omega⟩
    refine ⟨xs, ?_, rfl, fun _ _ => rfl, fun j h1 h2 => by omega⟩
    simp only [laws_markByteS.l0]
    rw [if_neg (by omega)]
    simp
  | succ d ih =>
    intro k xs i a h0 ha hb hd hc hk
    obtain ⟨k, rfl⟩ : ∃ m, k = m + 1 := ⟨k - 1, by omega⟩
    obtain ⟨ys, h1, h2, h3, h4⟩ := ih k (xs.set i.toNat (a % 256)) (i + 1) (a + 1) (by omega) (by omega) (by omega) (by simp; omega) (by omega) (by omega)
    refine ⟨ys, ?_, by simpa using h2, fun j hj => ?_, fun j hj hl => ?_⟩
    · simp only [laws_markByteS.l0]
      rw [if_pos (by omega), if_pos h0, w1 h0 (by omega), w1 ha (by omega), h1]
      congr 2
      omega
    · rw [h3 j (by omega), rd_set _ _ _ _ (by omega), if_neg (by omega)]
    · by_cases he : (j : Int) = i
      · rw [h3 j (by omega), rd_set _ _ _ _ (by omega), if_pos (by omega)]
        congr 1
        omega
      · rw [h4 j (by omega) (by simpa using hl)]
        congr 1
        omega

/-- Marks, then the look: the same number. -/
theorem mark_held (xs : List Int) (hn : xs.length ≤ 1000000) (k : Nat) (hk : xs.length < k) :
    ∃ ys, laws_markByteS.f k xs 1 = some (1 + (xs.length : Int), ys) ∧ laws_heldByteS.f k ys 1 = some (1 + (xs.length : Int)) := by
  obtain ⟨ys, h1, h2, h3, h4⟩ := mark_of xs.length k xs 0 1 (by omega) (by omega) (by omega) (by omega) (by omega) hk
  refine ⟨ys, h1, ?_⟩
  unfold laws_heldByteS.f
  rw [held_of ys xs.length k 0 1 (by omega) (by omega) (by omega) (by omega) (by omega) hk (fun j _ hj => h4 j (by omega) (by omega))]

/-- One byte of the canary. -/
def can (X i : Int) : Int := if (shr .u64 X (8 * i)) % 256 = 0 then 1 else (shr .u64 X (8 * i)) % 256
theorem wrap8 {i : Int} (h0 : 1 ≤ i) (h : i < 8) : wrap64 (8 * i) = 8 * i := by unfold wrap64; omega
theorem wrapu {i : Int} (h0 : 1 ≤ i) (h : i < 8) : IntKind.u64.wrap (8 * i) = 8 * i := by rw [IntKind.wrap_u64]; omega
theorem spec_step (k : Nat) (X : Int) (xs : List Int) (i : Int) (h0 : 1 ≤ i) (h : i < 8) (hl : xs.length < 100) : spec_CanaryOf.l0 (k + 1) X xs i = spec_CanaryOf.l0 k X (xs ++ [can X i]) (i + 1) := by
  simp only [spec_CanaryOf.l0]
  rw [wrap8 h0 h, wrapu h0 h, w1 (by omega) (by omega), if_pos h, if_pos (by omega)]
  unfold can
  split <;> rw [if_pos (by omega)]
theorem impl_step (k : Nat) (X : Int) (xs : List Int) (i : Int) (h0 : 1 ≤ i) (h : i < 8) (hl : xs.length = 8) : impl_CanaryOf.l0 (k + 1) X xs i = impl_CanaryOf.l0 k X (xs.set i.toNat (can X i)) (i + 1) := by
  simp only [impl_CanaryOf.l0]
  rw [wrap8 h0 h, w1 (by omega) (by omega), if_pos h, if_pos (by omega), if_pos (by omega), if_pos (by omega)]
  congr 2
  unfold can mx
  have := Int.emod_nonneg (shr .u64 X (8 * i)) (show (256 : Int) ≠ 0 by omega)
  split <;> split <;> omega
def cans (X : Int) : List Int := [0, can X 1, can X 2, can X 3, can X 4, can X 5, can X 6, can X 7]
theorem spec_is (k : Nat) (hk : 8 ≤ k) (a b : Int) : spec_CanaryOf.f k a b = some (cans (IntKind.u64.wrap ((Go.bits .xor .u64 a b) * 11400714819323198485))) := by
  obtain ⟨k, rfl⟩ : ∃ m, k = m + 8 := ⟨k - 8, by omega⟩
  unfold spec_CanaryOf.f
  generalize IntKind.u64.wrap ((Go.bits .xor .u64 a b) * 11400714819323198485) = X
  rw [spec_step _ _ _ _ (by omega) (by omega) (by simp), spec_step _ _ _ _ (by omega) (by omega) (by simp), spec_step _ _ _ _ (by omega) (by omega) (by simp), spec_step _ _ _ _ (by omega) (by omega) (by simp),
    spec_step _ _ _ _ (by omega) (by omega) (by simp), spec_step _ _ _ _ (by omega) (by omega) (by simp), spec_step _ _ _ _ (by omega) (by omega) (by simp)]
  simp [spec_CanaryOf.l0, cans]
theorem small8 : 8 ≤ 281474976710656 := by decide
theorem impl_go (k : Nat) (X : Int) : impl_CanaryOf.l0 (k + 8) X (List.replicate 8 0) 1 = some (cans X) := by
  rw [impl_step _ _ _ _ (by omega) (by omega) rfl, impl_step _ _ _ _ (by omega) (by omega) rfl, impl_step _ _ _ _ (by omega) (by omega) rfl, impl_step _ _ _ _ (by omega) (by omega) rfl,
    impl_step _ _ _ _ (by omega) (by omega) rfl, impl_step _ _ _ _ (by omega) (by omega) rfl, impl_step _ _ _ _ (by omega) (by omega) rfl]
  simp only [impl_CanaryOf.l0]
  rw [if_neg (by omega)]
  rfl
theorem impl_is (k : Nat) (hk : 8 ≤ k) (a b : Int) : impl_CanaryOf.f k a b = some (cans (IntKind.u64.wrap ((Go.bits .xor .u64 a b) * 11400714819323198485))) := by
  obtain ⟨k, rfl⟩ : ∃ m, k = m + 8 := ⟨k - 8, by omega⟩
  have h := impl_go k (IntKind.u64.wrap ((Go.bits .xor .u64 a b) * 11400714819323198485))
  unfold impl_CanaryOf.f
  generalize IntKind.u64.wrap ((Go.bits .xor .u64 a b) * 11400714819323198485) = X at h ⊢
  generalize impl_CanaryOf.l0 (k + 8) X (List.replicate 8 0) 1 = y at h ⊢
  exact (if_pos small8).trans h

theorem FnExactCanaryOf : laws_FnExactCanaryOf.Pure := by
  intro a b _ _
  obtain ⟨k, hk⟩ : ∃ k : Nat, 100 ≤ k := ⟨100, Nat.le_refl _⟩
  refine ⟨k, ?_⟩
  generalize hL : cans (IntKind.u64.wrap ((Go.bits .xor .u64 a b) * 11400714819323198485)) = L
  have hl : L.length = 8 := by rw [← hL]; rfl
  obtain ⟨ys, hm, hh⟩ := mark_held L (by omega) k (by omega)
  unfold laws_FnExactCanaryOf.f
  rw [spec_is k (by omega), impl_is k (by omega), hL]
  simp only [Option.bind_some]
  rw [eq_selff L (by omega) k (by omega)]
  simp only [Option.bind_some, if_true]
  rw [hm]
  simp only [Option.bind_some]
  rw [hh, hl]
  simp
end Go.Proofs.Ytkgkgogpogggiaa.Pure
