/- Bitmaps as numbers: plain facts. -/
import Derived.Test.YtleooacadfhelaaPFnExactBitsHasx
import Derived.WalkSmall
namespace Go.Proofs.Ytleooacadfhelaa.BitF
open Go.RowKit Go.Proofs.Ytleooacadfhelaa.PFnExactBitsHas Go.Proofs.YtleooacadfhelaaW.PrintWords Go.Proofs.YtleooacadfhelaaW.PrintLast Go.Proofs.YtleooacadfhelaaW.PrintMore
set_option linter.unusedVariables false
set_option linter.unusedSimpArgs false
theorem w64 {x : Int} (h : -4611686018427387904 ≤ x) (h' : x ≤ 4611686018427387904) : wrap64 x = x := by unfold wrap64; omega
def Words (l : List Int) : Prop := ∀ x ∈ l, 0 ≤ x ∧ x ≤ 18446744073709551615
theorem rd_mem {l : List Int} {i : Int} (h0 : 0 ≤ i) (h1 : i < l.length) : rd l i ∈ l := by
  unfold rd
  rw [List.getD_eq_getElem?_getD, List.getElem?_eq_getElem (by omega)]
  exact List.getElem_mem _
/-- Bit j of a word. -/
def bit (x : Int) (j : Nat) : Bool := x / 2 ^ j % 2 == 1
theorem bit_nat (x j : Nat) : bit (x : Int) j = x.testBit j := by
  unfold bit
  rw [Nat.testBit_eq_decide_div_mod_eq]
  have : ((x : Int) / 2 ^ j % 2) = ((x / 2 ^ j % 2 : Nat) : Int) := by
    rw [Int.natCast_emod, Int.natCast_ediv, Int.natCast_pow]
    rfl
  rw [this, Bool.eq_iff_iff]
  simp
  omega
theorem shr_bit {x : Int} (h0 : 0 ≤ x) (h1 : x ≤ 18446744073709551615) {j : Int} (hj : 0 ≤ j) (hj' : j < 64) : (Go.bits .and .u64 (shr .u64 x j) 1 == 1) = bit x j.toNat := by
  have hb : IntKind.u64.bits = 64 := rfl
  unfold shr
  rw [hb, Nat.min_eq_left (by omega)]
  have hd0 : 0 ≤ x / 2 ^ j.toNat := Int.ediv_nonneg h0 (Int.pow_nonneg (by omega))
  have hd1 : x / 2 ^ j.toNat ≤ x := Int.ediv_le_self _ h0
  rw [and_one_u64 _ hd0 (by omega)]
  rfl
theorem high_zero {x : Int} (h0 : 0 ≤ x) (h1 : x ≤ 18446744073709551615) {m : Nat} (hm : m < 64) : (x / 2 ^ m == 0) = true ↔ ∀ j, m ≤ j → j < 64 → bit x j = false := by
  obtain ⟨x, rfl⟩ := Int.eq_ofNat_of_zero_le h0
  have hx : x < 2 ^ 64 := by
    have : x ≤ 18446744073709551615 := by omega
    exact Nat.lt_of_le_of_lt this (by decide)
  have hz : ((x : Int) / 2 ^ m == 0) = true ↔ x < 2 ^ m := by
    rw [beq_iff_eq]
    have : ((x : Int) / 2 ^ m) = ((x / 2 ^ m : Nat) : Int) := by
      rw [Int.natCast_ediv, Int.natCast_pow]
      rfl
    rw [this, Int.natCast_eq_zero, Nat.div_eq_zero_iff]
    have := Nat.two_pow_pos m
    omega
  rw [hz]
  constructor
  · intro h j h2 _
    rw [bit_nat]
    exact Nat.testBit_lt_two_pow (Nat.lt_of_lt_of_le h (Nat.pow_le_pow_right (by omega) h2))
  · intro h
    refine Nat.lt_pow_two_of_testBit x (fun j hj => ?_)
    by_cases hj64 : j < 64
    · rw [← bit_nat]
      exact h j hj hj64
    · exact Nat.testBit_lt_two_pow (Nat.lt_of_lt_of_le hx (Nat.pow_le_pow_right (by omega) (by omega)))
/-- Bit i of a bitmap. -/
def at_ (l : List Int) (i : Nat) : Bool := bit (rd l (i / 64 : Nat)) (i % 64)
/-- A good bitmap. -/
def Shape (l : List Int) (n : Int) : Prop := 0 ≤ n ∧ n ≤ 4096 ∧ (l.length : Int) = (n + 63) / 64
def GoodB (l : List Int) (n : Int) : Prop := Shape l n ∧ ∀ i : Nat, n ≤ i → i < 64 * l.length → at_ l i = false
theorem good_is {l : List Int} (hl : Words l) {n : Int} (hs : Shape l n) : ∃ g, impl_bitmap_uint64_good.f l n = some g ∧ (g = true ↔ GoodB l n) := by
  obtain ⟨h0, h1, h2⟩ := hs
  unfold impl_bitmap_uint64_good.f
  rw [if_neg (by omega), if_neg (by omega), w64 (x := n + 63) (by omega) (by omega), Int.tdiv_eq_ediv_of_nonneg (by omega), w64 (x := (n + 63) / 64) (by omega) (by omega), if_pos h2, Int.tmod_eq_emod_of_nonneg h0]
  by_cases hm : n % 64 = 0
  · rw [if_pos hm]
    refine ⟨true, rfl, by simp only [true_iff]; exact ⟨⟨h0, h1, h2⟩, fun i hi hi' => by omega⟩⟩
  · rw [if_neg hm, w64 (by omega) (by omega), if_pos (by omega), if_pos (by omega), if_pos (by omega)]
    have hx := hl _ (rd_mem (l := l) (i := (l.length : Int) - 1) (by omega) (by omega))
    have hb : IntKind.u64.bits = 64 := rfl
    have hsh : shr .u64 (rd l ((l.length : Int) - 1)) (n % 64) = rd l ((l.length : Int) - 1) / 2 ^ (n % 64).toNat := by
      unfold shr
      rw [hb, Nat.min_eq_left (by omega)]
    rw [hsh]
    refine ⟨_, rfl, ?_⟩
    rw [high_zero hx.1 hx.2 (by omega)]
    constructor
    · intro h
      refine ⟨⟨h0, h1, h2⟩, fun i hi hi' => ?_⟩
      unfold at_
      rw [show ((i / 64 : Nat) : Int) = (l.length : Int) - 1 by omega]
      exact h _ (by omega) (by omega)
    · intro h j hj hj'
      have := h.2 (64 * (l.length - 1) + j) (by omega) (by omega)
      unfold at_ at this
      rw [show (((64 * (l.length - 1) + j) / 64 : Nat) : Int) = (l.length : Int) - 1 by omega, show (64 * (l.length - 1) + j) % 64 = j by omega] at this
      exact this
theorem bad_shape {l : List Int} {n : Int} (hs : ¬ Shape l n) (hlen : l.length ≤ 1048576) (hn : -9223372036854775808 ≤ n ∧ n ≤ 9223372036854775807) : impl_bitmap_uint64_good.f l n = some false := by
  unfold impl_bitmap_uint64_good.f
  by_cases h0 : n < 0
  · rw [if_pos h0]
  · by_cases h1 : n > 4096
    · rw [if_neg h0, if_pos h1]
    · rw [if_neg h0, if_neg h1, w64 (x := n + 63) (by omega) (by omega), Int.tdiv_eq_ediv_of_nonneg (by omega), w64 (x := (n + 63) / 64) (by omega) (by omega), if_neg (fun h => hs ⟨by omega, by omega, h⟩)]
theorem has_is {l : List Int} (hl : Words l) {n : Int} (hs : Shape l n) {i : Int} (h0 : 0 ≤ i) (h1 : i < n) : impl_bitmap_uint64_has.f l n i = some (at_ l i.toNat) := by
  obtain ⟨h2, h3, h4⟩ := hs
  unfold impl_bitmap_uint64_has.f
  rw [Int.tdiv_eq_ediv_of_nonneg h0, Int.tmod_eq_emod_of_nonneg h0, w64 (x := i / 64) (by omega) (by omega), if_pos (by omega), if_pos (by omega), if_pos (by omega)]
  have hx := hl _ (rd_mem (l := l) (i := i / 64) (by omega) (by omega))
  rw [shr_bit hx.1 hx.2 (by omega) (by omega)]
  unfold at_
  rw [show ((i.toNat / 64 : Nat) : Int) = i / 64 by omega, show i.toNat % 64 = (i % 64).toNat by omega]
end Go.Proofs.Ytleooacadfhelaa.BitF
