/- The reference's list of a bitmap, as printed for BitsHas: the bits, where it is good. -/
import Derived.Test.YtleooacadfhelaaBitFns
import Derived.Lib.Hide
namespace Go.Proofs.Ytleooacadfhelaa.L2BitsHas
open Go.RowKit Go.Proofs.Ytleooacadfhelaa.PFnExactBitsHas Go.Proofs.YtleooacadfhelaaW.PrintWords Go.Proofs.YtleooacadfhelaaW.PrintLast Go.Proofs.YtleooacadfhelaaW.PrintMore BitF
set_option linter.unusedVariables false
set_option linter.unusedSimpArgs false
theorem set_getD (xs : List Bool) (i j : Nat) (v : Bool) (hi : i < xs.length) : (xs.set i v).getD j false = if i = j then v else xs.getD j false := by
  simp only [List.getD_eq_getElem?_getD, List.getElem?_set]
  by_cases h : i = j
  · subst h
    simp [hi]
  · simp [h]
theorem bit_one {b : Bool} {x : Int} (h : (x == 1) = b) : x = 1 ↔ b = true := by rw [← h, beq_iff_eq]
theorem walk {l : List Int} (hl : Words l) {n : Int} (hs : Shape l n) : ∀ (d k : Nat) (i : Nat) (xs : List Bool), 64 * l.length - i = d → i ≤ 64 * l.length → d < k → (xs.length : Int) = n → (∀ j : Nat, n ≤ j → j < i → at_ l j = false) → (∀ j : Nat, j < i → (j : Int) < n → xs.getD j false = at_ l j) →
    (GoodB l n → ∃ ys, spec_l2List.l0 k l n xs i = some (ys, true) ∧ (ys.length : Int) = n ∧ ∀ j : Nat, (j : Int) < n → ys.getD j false = at_ l j) ∧ (¬ GoodB l n → spec_l2List.l0 k l n xs i = some ([], false)) := by
  have hs' := hs
  obtain ⟨h0, h1, h2⟩ := hs'
  intro d
  induction d with
  | zero =>
    intro k i xs hd hi hk hx hz hb
    obtain ⟨k, rfl⟩ : ∃ m, k = m + 1 := ⟨k - 1, by omega⟩
    have hg : GoodB l n := ⟨hs, fun j hj hj' => hz j hj (by omega)⟩
    refine ⟨fun _ => ⟨xs, ?_, hx, fun j hj => hb j (by omega) hj⟩, fun h => absurd hg h⟩
    rw [spec_l2List.l0, w64 (x := (l.length : Int) * 64) (by omega) (by omega), if_neg (by omega)]
  | succ d ih =>
    intro k i xs hd hi hk hx hz hb
    obtain ⟨k, rfl⟩ : ∃ m, k = m + 1 := ⟨k - 1, by omega⟩
    have hw := hl _ (rd_mem (l := l) (i := (i : Int) / 64) (by omega) (by omega))
    have hbit : (Go.bits .and .u64 (shr .u64 (rd l ((i : Int) / 64)) ((i : Int) % 64)) 1 == 1) = at_ l i := by
      rw [shr_bit hw.1 hw.2 (by omega) (by omega)]
      unfold at_
      rw [show ((i / 64 : Nat) : Int) = (i : Int) / 64 by omega, show i % 64 = ((i : Int) % 64).toNat by omega]
    have hwu : IntKind.u64.wrap ((i : Int) % 64) = (i : Int) % 64 := by rw [IntKind.wrap_u64]; omega
    have c1 : (i : Int) < (l.length : Int) * 64 := by omega
    have c2 : 0 ≤ (i : Int) / 64 := by omega
    have c3 : (i : Int) / 64 < (l.length : Int) := by omega
    have c4 : 0 ≤ (i : Int) % 64 := by omega
    have c5 : (0 : Int) ≤ i := by omega
    have e1 : Hid (wrap64 ((l.length : Int) * 64) = (l.length : Int) * 64) := w64 (by omega) (by omega)
    have e2 : Hid (wrap64 ((i : Int) / 64) = (i : Int) / 64) := w64 (by omega) (by omega)
    have e3 : Hid (wrap64 ((i : Int) + 1) = (i : Int) + 1) := w64 (by omega) (by omega)
    have e5 : (i : Int) + 1 = ((i + 1 : Nat) : Int) := by omega
    rw [spec_l2List.l0, Int.tdiv_eq_ediv_of_nonneg c5, Int.tmod_eq_emod_of_nonneg c5, e1.out, e2.out, hwu, e3.out, e5, hbit, if_pos c1, if_pos c2, if_pos c3, if_pos c4]
    have hone := bit_one hbit
    clear hbit hwu
    by_cases hin : (i : Int) < n
    · rw [if_pos hin, if_pos (by omega), if_pos (by omega)]
      refine ih k (i + 1) (xs.set (i : Int).toNat (at_ l i)) (by omega) (by omega) (by omega) (by simpa using hx) (fun j hj hj' => by omega) (fun j hj hj' => ?_)
      rw [set_getD _ _ _ _ (by omega)]
      by_cases e : (i : Int).toNat = j
      · rw [if_pos e]
        congr 1
      · rw [if_neg e]
        exact hb j (by omega) hj'
    · rw [if_neg hin]
      by_cases hon : at_ l i = true
      · rw [if_pos (hone.2 hon)]
        refine ⟨fun hg => ?_, fun _ => rfl⟩
        have := hg.2 i (by omega) (by omega)
        rw [hon] at this
        cases this
      · rw [if_neg (fun h => hon (hone.1 h))]
        refine ih k (i + 1) xs (by omega) (by omega) (by omega) hx (fun j hj hj' => ?_) (fun j hj hj' => hb j (by omega) hj')
        by_cases e : j = i
        · subst e
          exact Bool.eq_false_iff.2 hon
        · exact hz j hj (by omega)
theorem list_good {l : List Int} (hl : Words l) {n : Int} (hg : GoodB l n) (k : Nat) (hk : 64 * l.length + 2 ≤ k) : ∃ ys, spec_l2List.f k l n = some (ys, true) ∧ (ys.length : Int) = n ∧ ∀ j : Nat, (j : Int) < n → ys.getD j false = at_ l j := by
  obtain ⟨k, rfl⟩ : ∃ m, k = m + 1 := ⟨k - 1, by omega⟩
  have hs := hg.1
  obtain ⟨h0, h1, h2⟩ := hs
  obtain ⟨ys, e, r⟩ := (walk hl hg.1 (64 * l.length) k 0 (List.replicate n.toNat false) (by omega) (by omega) (by omega) (by simp; omega) (fun j hj hj' => by omega) (fun j hj _ => by omega)).1 hg
  refine ⟨ys, ?_, r⟩
  unfold spec_l2List.f
  have hne : ((l.length : Int) != (n + 63) / 64) = false := by rw [h2]; simp
  rw [if_neg (by omega), if_neg (by omega), w64 (x := n + 63) (by omega) (by omega), Int.tdiv_eq_ediv_of_nonneg (by omega), w64 (x := (n + 63) / 64) (by omega) (by omega), hne, spec_l2List.j0, if_neg (by simp), if_pos h0, if_pos (by omega)]
  exact e
theorem list_bad {l : List Int} (hl : Words l) {n : Int} (hlen : l.length ≤ 1048576) (hg : ¬ GoodB l n) (k : Nat) (hk : 64 * l.length + 2 ≤ k) : spec_l2List.f k l n = some ([], false) := by
  obtain ⟨k, rfl⟩ : ∃ m, k = m + 1 := ⟨k - 1, by omega⟩
  unfold spec_l2List.f
  by_cases h0 : n < 0
  · rw [if_pos h0, spec_l2List.j0, if_pos rfl]
  · by_cases h1 : n > 4096
    · rw [if_neg h0, if_pos h1, spec_l2List.j0, if_pos rfl]
    · rw [if_neg h0, if_neg h1, w64 (x := n + 63) (by omega) (by omega), Int.tdiv_eq_ediv_of_nonneg (by omega), w64 (x := (n + 63) / 64) (by omega) (by omega)]
      by_cases h2 : (l.length : Int) = (n + 63) / 64
      · have hs : Shape l n := ⟨by omega, by omega, h2⟩
        have hne : ((l.length : Int) != (n + 63) / 64) = false := by rw [h2]; simp
        rw [hne, spec_l2List.j0, if_neg (by simp), if_pos (by omega), if_pos (by omega)]
        exact (walk hl hs (64 * l.length) k 0 (List.replicate n.toNat false) (by omega) (by omega) (by omega) (by simp; omega) (fun j hj hj' => by omega) (fun j hj _ => by omega)).2 hg
      · have hne : ((l.length : Int) != (n + 63) / 64) = true := by rw [bne_iff_ne]; exact h2
        rw [hne, spec_l2List.j0, if_pos rfl]
end Go.Proofs.Ytleooacadfhelaa.L2BitsHas
