/- What 'good' answers of a quarantine, the program's and the reference's. -/
import Derived.Test.YtklobepkihdbkaaPFnExactWaitPushx
import Derived.Test.YtklobepkihdbkaaWp
import Derived.WalkSmall
namespace Go.Proofs.Ytklobepkihdbkaa.WpG
open Go.RowKit Go.Proofs.Ytklobepkihdbkaa.PFnExactWaitPush Go.Proofs.YtklobepkihdbkaaW.PrintWords Go.Proofs.YtklobepkihdbkaaW.PrintLast Wp
set_option linter.unusedVariables false
set_option linter.unusedSimpArgs false
theorem w64 {x : Int} (h : -4611686018427387904 ≤ x) (h' : x ≤ 4611686018427387904) : wrap64 x = x := by unfold wrap64; omega
theorem rd_getD (xs : List Int) (i : Nat) : rd xs (i : Int) = xs.getD i 0 := by unfold rd; rw [Int.toNat_natCast]
def allFrom (lo : Int) (xs : List Int) (i : Nat) : Prop := ∀ j, i ≤ j → j < xs.length → lo ≤ xs.getD j 0
theorem allFrom_mem {lo : Int} {xs : List Int} : allFrom lo xs 0 ↔ ∀ x ∈ xs, lo ≤ x := by
  constructor
  · intro h x hx
    obtain ⟨j, hj, rfl⟩ := List.getElem_of_mem hx
    have := h j (Nat.zero_le _) hj
    simpa [hj] using this
  · intro h j _ hj
    have := h xs[j] (List.getElem_mem hj)
    simpa [hj] using this
theorem allFrom_step {lo : Int} {xs : List Int} {i : Nat} (hi : i < xs.length) : allFrom lo xs i ↔ lo ≤ xs.getD i 0 ∧ allFrom lo xs (i + 1) := by
  constructor
  · exact fun h => ⟨h i (Nat.le_refl _) hi, fun j hj hl => h j (by omega) hl⟩
  · rintro ⟨h1, h2⟩ j hj hl
    by_cases e : j = i
    · rw [e]; exact h1
    · exact h2 j (by omega) hl
section
theorem impl_good_l1 (xs : List Int) (hn : xs.length ≤ 1048576) : ∀ (d k i : Nat), xs.length - i = d → i ≤ xs.length → d < k → ∃ b, impl_good.l1 k xs xs.length i = some b ∧ (b = true ↔ allFrom 0 xs i) := by
  intro d
  induction d with
  | zero =>
    intro k i hd hi hk
    obtain ⟨k, rfl⟩ : ∃ m, k = m + 1 := ⟨k - 1, by omega⟩
    exact ⟨true, by rw [impl_good.l1, if_neg (by omega)], by simp only [true_iff]; intro j h1 h2; omega⟩
  | succ d ih =>
    intro k i hd hi hk
    obtain ⟨k, rfl⟩ : ∃ m, k = m + 1 := ⟨k - 1, by omega⟩
    have e1 : wrap64 ((i : Int) + 1) = ((i + 1 : Nat) : Int) := by rw [w64 (by omega) (by omega)]; omega
    rw [impl_good.l1, if_pos (by omega), if_pos (by omega), if_pos (by omega), rd_getD, e1, allFrom_step (by omega)]
    by_cases h : xs.getD i 0 < 0
    · rw [if_pos h]
      exact ⟨false, rfl, by simp only [Bool.false_eq_true, false_iff]; intro h2; omega⟩
    · rw [if_neg h]
      obtain ⟨b, hb, hb2⟩ := ih k (i + 1) (by omega) (by omega) (by omega)
      exact ⟨b, hb, by rw [hb2]; constructor; exact fun h2 => ⟨by omega, h2⟩; exact fun h2 => h2.2⟩
theorem impl_good_l0 (xs fifo : List Int) (lim : Int) (hn : xs.length ≤ 1048576) (hf : fifo.length ≤ 1048576) : ∀ (d k i : Nat), xs.length - i = d → i ≤ xs.length → d + fifo.length + 1 < k → ∃ b, impl_good.l0 k xs xs.length i xs fifo lim = some b ∧ (b = true ↔ allFrom (-1) xs i ∧ allFrom 0 fifo 0) := by
  intro d
  induction d with
  | zero =>
    intro k i hd hi hk
    obtain ⟨k, rfl⟩ : ∃ m, k = m + 1 := ⟨k - 1, by omega⟩
    obtain ⟨b, hb, hb2⟩ := impl_good_l1 fifo hf fifo.length k 0 (by omega) (by omega) (by omega)
    refine ⟨b, ?_, ?_⟩
    · rw [impl_good.l0, if_neg (by omega)]
      exact hb
    · rw [hb2]
      exact ⟨fun h => ⟨fun j h1 h2 => by omega, h⟩, fun h => h.2⟩
  | succ d ih =>
    intro k i hd hi hk
    obtain ⟨k, rfl⟩ : ∃ m, k = m + 1 := ⟨k - 1, by omega⟩
    have e1 : wrap64 ((i : Int) + 1) = ((i + 1 : Nat) : Int) := by rw [w64 (by omega) (by omega)]; omega
    rw [impl_good.l0, if_pos (by omega), if_pos (by omega), if_pos (by omega), rd_getD, e1, allFrom_step (by omega)]
    by_cases h : xs.getD i 0 < -1
    · rw [if_pos h]
      exact ⟨false, rfl, by simp only [Bool.false_eq_true, false_iff]; intro h2; omega⟩
    · rw [if_neg h]
      obtain ⟨b, hb, hb2⟩ := ih k (i + 1) (by omega) (by omega) (by omega)
      exact ⟨b, hb, by rw [hb2]; constructor; exact fun h2 => ⟨⟨by omega, h2.1⟩, h2.2⟩; exact fun h2 => ⟨h2.1.2, h2.2⟩⟩
theorem impl_good_is (mix fifo : List Int) (lim : Int) (hn : mix.length ≤ 1048576) (hf : fifo.length ≤ 1048576) (k : Nat) (hk : mix.length + fifo.length + 3 ≤ k) : ∃ b, impl_good.f k mix fifo lim = some b ∧ (b = true ↔ GoodW mix fifo lim) := by
  obtain ⟨k, rfl⟩ : ∃ m, k = m + 1 := ⟨k - 1, by omega⟩
  have no : impl_good.j0 (k + 1) true mix fifo lim = some false := by rw [impl_good.j0, if_pos rfl]
  unfold impl_good.f
  by_cases h1 : (mix.length : Int) > 16
  · rw [if_pos h1, no]
    exact ⟨false, rfl, by simp only [Bool.false_eq_true, false_iff]; intro h; have := h.mixLen; omega⟩
  · rw [if_neg h1]
    by_cases h2 : lim < 1
    · rw [if_pos h2, no]
      exact ⟨false, rfl, by simp only [Bool.false_eq_true, false_iff]; intro h; have := h.limLo; omega⟩
    · rw [if_neg h2]
      by_cases h3 : lim > 32
      · rw [if_pos h3, no]
        exact ⟨false, rfl, by simp only [Bool.false_eq_true, false_iff]; intro h; have := h.limHi; omega⟩
      · rw [if_neg h3]
        by_cases h4 : (fifo.length : Int) > lim
        · rw [decide_eq_true h4, no]
          exact ⟨false, rfl, by simp only [Bool.false_eq_true, false_iff]; intro h; have := h.fifoLen; omega⟩
        · rw [decide_eq_false h4, impl_good.j0, if_neg (by simp)]
          obtain ⟨b, hb, hb2⟩ := impl_good_l0 mix fifo lim hn hf mix.length k 0 (by omega) (by omega) (by omega)
          refine ⟨b, hb, ?_⟩
          rw [hb2, allFrom_mem, allFrom_mem]
          exact ⟨fun h => ⟨by omega, by omega, by omega, by omega, h.1, h.2⟩, fun h => ⟨h.mixAll, h.fifoAll⟩⟩
end
section
theorem spec_l5Good_l1 (xs : List Int) (hn : xs.length ≤ 1048576) : ∀ (d k i : Nat), xs.length - i = d → i ≤ xs.length → d < k → ∃ b, spec_l5Good.l1 k xs xs.length i = some b ∧ (b = true ↔ allFrom 0 xs i) := by
  intro d
  induction d with
  | zero =>
    intro k i hd hi hk
    obtain ⟨k, rfl⟩ : ∃ m, k = m + 1 := ⟨k - 1, by omega⟩
    exact ⟨true, by rw [spec_l5Good.l1, if_neg (by omega)], by simp only [true_iff]; intro j h1 h2; omega⟩
  | succ d ih =>
    intro k i hd hi hk
    obtain ⟨k, rfl⟩ : ∃ m, k = m + 1 := ⟨k - 1, by omega⟩
    have e1 : wrap64 ((i : Int) + 1) = ((i + 1 : Nat) : Int) := by rw [w64 (by omega) (by omega)]; omega
    rw [spec_l5Good.l1, if_pos (by omega), if_pos (by omega), if_pos (by omega), rd_getD, e1, allFrom_step (by omega)]
    by_cases h : xs.getD i 0 < 0
    · rw [if_pos h]
      exact ⟨false, rfl, by simp only [Bool.false_eq_true, false_iff]; intro h2; omega⟩
    · rw [if_neg h]
      obtain ⟨b, hb, hb2⟩ := ih k (i + 1) (by omega) (by omega) (by omega)
      exact ⟨b, hb, by rw [hb2]; constructor; exact fun h2 => ⟨by omega, h2⟩; exact fun h2 => h2.2⟩
theorem spec_l5Good_l0 (xs fifo : List Int) (lim : Int) (hn : xs.length ≤ 1048576) (hf : fifo.length ≤ 1048576) : ∀ (d k i : Nat), xs.length - i = d → i ≤ xs.length → d + fifo.length + 1 < k → ∃ b, spec_l5Good.l0 k xs xs.length i xs fifo lim = some b ∧ (b = true ↔ allFrom (-1) xs i ∧ allFrom 0 fifo 0) := by
  intro d
  induction d with
  | zero =>
    intro k i hd hi hk
    obtain ⟨k, rfl⟩ : ∃ m, k = m + 1 := ⟨k - 1, by omega⟩
    obtain ⟨b, hb, hb2⟩ := spec_l5Good_l1 fifo hf fifo.length k 0 (by omega) (by omega) (by omega)
    refine ⟨b, ?_, ?_⟩
    · rw [spec_l5Good.l0, if_neg (by omega)]
      exact hb
    · rw [hb2]
      exact ⟨fun h => ⟨fun j h1 h2 => by omega, h⟩, fun h => h.2⟩
  | succ d ih =>
    intro k i hd hi hk
    obtain ⟨k, rfl⟩ : ∃ m, k = m + 1 := ⟨k - 1, by omega⟩
    have e1 : wrap64 ((i : Int) + 1) = ((i + 1 : Nat) : Int) := by rw [w64 (by omega) (by omega)]; omega
    rw [spec_l5Good.l0, if_pos (by omega), if_pos (by omega), if_pos (by omega), rd_getD, e1, allFrom_step (by omega)]
    by_cases h : xs.getD i 0 < -1
    · rw [if_pos h]
      exact ⟨false, rfl, by simp only [Bool.false_eq_true, false_iff]; intro h2; omega⟩
    · rw [if_neg h]
      obtain ⟨b, hb, hb2⟩ := ih k (i + 1) (by omega) (by omega) (by omega)
      exact ⟨b, hb, by rw [hb2]; constructor; exact fun h2 => ⟨⟨by omega, h2.1⟩, h2.2⟩; exact fun h2 => ⟨h2.1.2, h2.2⟩⟩
theorem spec_l5Good_is (mix fifo : List Int) (lim : Int) (hn : mix.length ≤ 1048576) (hf : fifo.length ≤ 1048576) (k : Nat) (hk : mix.length + fifo.length + 3 ≤ k) : ∃ b, spec_l5Good.f k mix fifo lim = some b ∧ (b = true ↔ GoodW mix fifo lim) := by
  obtain ⟨k, rfl⟩ : ∃ m, k = m + 1 := ⟨k - 1, by omega⟩
  have no : spec_l5Good.j0 (k + 1) true mix fifo lim = some false := by rw [spec_l5Good.j0, if_pos rfl]
  unfold spec_l5Good.f
  by_cases h1 : (mix.length : Int) > 16
  · rw [if_pos h1, no]
    exact ⟨false, rfl, by simp only [Bool.false_eq_true, false_iff]; intro h; have := h.mixLen; omega⟩
  · rw [if_neg h1]
    by_cases h2 : lim < 1
    · rw [if_pos h2, no]
      exact ⟨false, rfl, by simp only [Bool.false_eq_true, false_iff]; intro h; have := h.limLo; omega⟩
    · rw [if_neg h2]
      by_cases h3 : lim > 32
      · rw [if_pos h3, no]
        exact ⟨false, rfl, by simp only [Bool.false_eq_true, false_iff]; intro h; have := h.limHi; omega⟩
      · rw [if_neg h3]
        by_cases h4 : (fifo.length : Int) > lim
        · rw [decide_eq_true h4, no]
          exact ⟨false, rfl, by simp only [Bool.false_eq_true, false_iff]; intro h; have := h.fifoLen; omega⟩
        · rw [decide_eq_false h4, spec_l5Good.j0, if_neg (by simp)]
          obtain ⟨b, hb, hb2⟩ := spec_l5Good_l0 mix fifo lim hn hf mix.length k 0 (by omega) (by omega) (by omega)
          refine ⟨b, hb, ?_⟩
          rw [hb2, allFrom_mem, allFrom_mem]
          exact ⟨fun h => ⟨by omega, by omega, by omega, by omega, h.1, h.2⟩, fun h => ⟨h.mixAll, h.fifoAll⟩⟩
end
end Go.Proofs.Ytklobepkihdbkaa.WpG
