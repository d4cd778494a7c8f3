/- The walk of the exact law on BitsHas: it returns true. No condition. -/
import Derived.Test.YtleooacadfhelaaBitL2
import Derived.Test.YtleooacadfhelaaBits
import Derived.OpenShut
namespace Go.Proofs.Ytleooacadfhelaa.BitHasL
open Go.RowKit Go.Proofs.Ytleooacadfhelaa.PFnExactBitsHas Go.Proofs.YtleooacadfhelaaW.PrintWords Go.Proofs.YtleooacadfhelaaW.PrintLast Go.Proofs.YtleooacadfhelaaW.PrintMore BitF L2BitsHas
set_option linter.unusedVariables false
set_option linter.unusedSimpArgs false
theorem set_getDI (xs : List Int) (i j : Nat) (v : Int) (hi : i < xs.length) : (xs.set i v).getD j 0 = if i = j then v else xs.getD j 0 := by
  simp only [List.getD_eq_getElem?_getD, List.getElem?_set]
  by_cases h : i = j
  · subst h
    simp [hi]
  · simp [h]
theorem ext_getD {xs ys : List Int} (hl : xs.length = ys.length) (h : ∀ j : Nat, j < ys.length → xs.getD j 0 = ys.getD j 0) : xs = ys := by
  apply List.ext_getElem hl
  intro j h1 h2
  have := h j h2
  simp only [List.getD_eq_getElem?_getD, List.getElem?_eq_getElem h1, List.getElem?_eq_getElem h2, Option.getD_some] at this
  exact this
theorem to_go (l : List Int) (hn : l.length ≤ 1048576) : ∀ (d k i : Nat) (xs : List Int), l.length - i = d → i ≤ l.length → d < k → xs.length = l.length → (∀ j : Nat, j < i → xs.getD j 0 = l.getD j 0) → laws_toUint64S.l0 k l xs i = some l := by
  intro d
  induction d with
  | zero =>
    intro k i xs hd hi hk hx hb
    obtain ⟨k, rfl⟩ : ∃ m, k = m + 1 := ⟨k - 1, by omega⟩
    rw [laws_toUint64S.l0, if_neg (by omega), ext_getD hx (fun j hj => hb j (by omega))]
  | succ d ih =>
    intro k i xs hd hi hk hx hb
    obtain ⟨k, rfl⟩ : ∃ m, k = m + 1 := ⟨k - 1, by omega⟩
    have e3 : Hid (wrap64 ((i : Int) + 1) = (i : Int) + 1) := w64 (by omega) (by omega)
    have e5 : (i : Int) + 1 = ((i + 1 : Nat) : Int) := by omega
    rw [laws_toUint64S.l0, if_pos (by omega), if_pos (by omega), if_pos (by omega), e3.out, e5]
    refine ih k (i + 1) _ (by omega) (by omega) (by omega) (by simpa using hx) (fun j hj => ?_)
    rw [set_getDI _ _ _ _ (by omega)]
    by_cases e : (i : Int).toNat = j
    · rw [if_pos e]
      unfold rd
      rw [e]
    · rw [if_neg e]
      exact hb j (by omega)
theorem to_is (l : List Int) (hn : l.length ≤ 1048576) (k : Nat) (hk : l.length < k) : laws_toUint64S.f k l = some l := by
  unfold laws_toUint64S.f
  rw [if_pos (by omega), if_pos (by omega)]
  exact to_go l hn l.length k 0 _ (by omega) (by omega) hk (by simp) (fun j hj => by omega)
theorem eq_go (l : List Int) (hn : l.length ≤ 1048576) : ∀ (d k i : Nat), l.length - i = d → i ≤ l.length → d < k → laws_eqUint64S.l0 k l l i = some true := by
  intro d
  induction d with
  | zero =>
    intro k i hd hi hk
    obtain ⟨k, rfl⟩ : ∃ m, k = m + 1 := ⟨k - 1, by omega⟩
    rw [laws_eqUint64S.l0, if_neg (by omega)]
  | succ d ih =>
    intro k i hd hi hk
    obtain ⟨k, rfl⟩ : ∃ m, k = m + 1 := ⟨k - 1, by omega⟩
    have e3 : Hid (wrap64 ((i : Int) + 1) = (i : Int) + 1) := w64 (by omega) (by omega)
    have e5 : (i : Int) + 1 = ((i + 1 : Nat) : Int) := by omega
    rw [laws_eqUint64S.l0, if_pos (by omega), if_pos (by omega), if_pos (by omega), if_pos rfl, e3.out, e5]
    exact ih k (i + 1) (by omega) (by omega) (by omega)
theorem eq_is (l : List Int) (hn : l.length ≤ 1048576) (k : Nat) (hk : l.length < k) : laws_eqUint64S.f k l l = some true := by
  unfold laws_eqUint64S.f
  rw [if_pos rfl]
  exact eq_go l hn l.length k 0 (by omega) (by omega) hk
theorem spec_yes {l : List Int} (hl : Words l) {n i : Int} (hg : GoodB l n) (h0 : 0 ≤ i) (h1 : i < n) (k : Nat) (hk : 64 * l.length + 2 ≤ k) : spec_BitsHas.f k l n i = some (at_ l i.toNat) := by
  obtain ⟨ys, e, e1, e2⟩ := list_good hl hg k hk
  unfold spec_BitsHas.f
  rw [e]
  simp only [Option.bind_some]
  rw [if_pos trivial, if_pos h0, if_pos h1, if_pos h0, if_pos (by omega)]
  unfold rdOf
  rw [e2 i.toNat (by omega)]
theorem spec_no {l : List Int} (hl : Words l) {n i : Int} (hn : l.length ≤ 1048576) (h : ¬ (GoodB l n ∧ 0 ≤ i ∧ i < n)) (k : Nat) (hk : 64 * l.length + 2 ≤ k) : spec_BitsHas.f k l n i = some false := by
  by_cases hg : GoodB l n
  · obtain ⟨ys, e, e1, e2⟩ := list_good hl hg k hk
    unfold spec_BitsHas.f
    rw [e]
    simp only [Option.bind_some]
    rw [if_pos trivial]
    by_cases h0 : 0 ≤ i
    · by_cases h1 : i < n
      · exact absurd ⟨hg, h0, h1⟩ h
      · rw [if_pos h0, if_neg h1]
    · rw [if_neg h0]
  · unfold spec_BitsHas.f
    rw [list_bad hl hn hg k hk]
    simp
/-- The program's own answer, one of two. -/
theorem impl_is (A : Option Addr) (c : Nat) (l : List Int) (hl : Words l) (n i : Int) (hn : l.length ≤ 1048576) (hr : Bool) (w : World) (hC : Kd.C (Kd.int .u64) w A l.length l) (hc : l.length ≤ c) (hnb : -9223372036854775808 ≤ n ∧ n ≤ 9223372036854775807)
    (h : (GoodB l n ∧ 0 ≤ i ∧ i < n ∧ hr = at_ l i.toNat) ∨ (¬ (GoodB l n ∧ 0 ≤ i ∧ i < n) ∧ hr = false)) :
    Calls Try.prog 11 #[.slice A l.length c, .int .i64 n, .int .i64 i] w fun e w' => e = .returned (.bool hr) ∧ Below w.heap.size w w' := by
  rcases h with ⟨hg, h0, h1, rfl⟩ | ⟨h, rfl⟩
  · obtain ⟨g, hf, hi⟩ := good_is hl hg.1
    rw [hi.2 hg] at hf
    exact Bits.bitsHas_yes A c l n i _ w hC hc hf h0 h1 (has_is hl hg.1 h0 h1)
  · by_cases hs : Shape l n
    · obtain ⟨g, hf, hi⟩ := good_is hl hs
      refine Bits.bitsHas_no A c l n i g w hC hc hf ?_
      cases g
      · exact .inl rfl
      · by_cases h0 : i < 0
        · exact .inr (.inl h0)
        · refine .inr (.inr ?_)
          by_cases h1 : n ≤ i
          · exact h1
          · exact absurd ⟨hi.1 rfl, by omega, by omega⟩ h
    · exact Bits.bitsHas_no A c l n i false w hC hc (bad_shape hs hn hnb) (.inl rfl)
set_option maxHeartbeats 2000000 in
theorem bitsHas_law {w : World} (A : Option Addr) (c : Nat) (l : List Int) (n i : Int) (hC : Kd.C (Kd.int .u64) w A l.length l) (hc : l.length ≤ c) (hwf : ∀ x ∈ l, (Lit.int .u64 x).wf = true) (hy : l.length * 8 ≤ 140737488351232) (wn : (Lit.int .i64 n).wf = true) (wi : (Lit.int .i64 i).wf = true) :
    Calls Try.prog 3 #[.slice A l.length c, .int .i64 n, .int .i64 i] w fun e w' => e = .returned (.bool true) ∧ Below w.heap.size w w' := by
  by_cases hbig : 1048576 < l.length
  · go_enter Try.func3, Try.ntmps3
    go_wp2
    go_ret
    exact ⟨rfl, Below.refl _ _⟩
  · have hn : l.length ≤ 1048576 := by omega
    have hnb := Lib.hid (bounds_i64 wn)
    have hW : Words l := fun x hx => ⟨(bounds_u64 (hwf x hx)).1, (bounds_u64 (hwf x hx)).2⟩
    have HC := Lib.hid hC
    clear hC hwf wn wi hbig
    obtain ⟨r, hsp, him⟩ : ∃ r, spec_BitsHas.f (64 * l.length + 2) l n i = some r ∧ ((GoodB l n ∧ 0 ≤ i ∧ i < n ∧ r = at_ l i.toNat) ∨ (¬ (GoodB l n ∧ 0 ≤ i ∧ i < n) ∧ r = false)) := by
      by_cases h : GoodB l n ∧ 0 ≤ i ∧ i < n
      · exact ⟨_, spec_yes hW h.1 h.2.1 h.2.2 _ (Nat.le_refl _), .inl ⟨h.1, h.2.1, h.2.2, rfl⟩⟩
      · exact ⟨_, spec_no hW hn h _ (Nat.le_refl _), .inr ⟨h, rfl⟩⟩
    have HS := Lib.hid hsp
    have HI := Lib.hid him
    clear hsp him
    have HT := Lib.hid (to_is l hn (l.length + 1) (Nat.lt_succ_self _))
    have HE := Lib.hid (eq_is l hn (l.length + 1) (Nat.lt_succ_self _))
    have HW := Lib.hid hW
    clear hW
    go_enter Try.func3, Try.ntmps3
    go_wp2_with fail
    refine (laws_toUint64S.calls _ A c l l _ HC.out hc HT.out).mono ?_
    rintro e w1 ⟨v1, rfl, hR1, hw1⟩
    obtain ⟨A1, c1, rfl, hc1, hC1⟩ := Kd.R_reads hR1
    clear hR1
    go_wp2_with fail
    refine (spec_BitsHas.calls _ A1 c1 l n i r _ hC1 hc1 HS.out).mono ?_
    rintro e w2 ⟨rfl, hw2⟩
    go_wp2_with fail
    refine (laws_toUint64S.calls _ A c l l _ (Kd.C_below HC.out (Bits.bstep hw1 hw2)) hc HT.out).mono ?_
    rintro e w3 ⟨v3, rfl, hR3, hw3⟩
    obtain ⟨A3, c3, rfl, hc3, hC3⟩ := Kd.R_reads hR3
    clear hR3
    go_wp2_with fail
    refine (impl_is A3 c3 l HW.out n i hn r _ hC3 hc3 hnb.out HI.out).mono ?_
    rintro e w4 ⟨rfl, hw4⟩
    have hB4 := Bits.bstep (Bits.bstep (Bits.bstep hw1 hw2) hw3) hw4
    cases r
    all_goals
      go_wp2_with fail
      refine (laws_toUint64S.calls _ A c l l _ (Kd.C_below HC.out hB4) hc HT.out).mono ?_
      rintro e w5 ⟨v5, rfl, hR5, hw5⟩
      obtain ⟨A5, c5, rfl, hc5, hC5⟩ := Kd.R_reads hR5
      clear hR5
      go_wp2_with fail
      refine (laws_eqUint64S.calls _ A3 c3 l A5 c5 l true _ (Kd.C_below hC3 (Bits.bstep hw4 hw5)) hc3 hC5 hc5 HE.out).mono ?_
      rintro e w6 ⟨rfl, hw6⟩
      go_wp2
      go_ret
      exact ⟨rfl, Bits.bstep (Bits.bstep hB4 hw5) hw6.below⟩
end Go.Proofs.Ytleooacadfhelaa.BitHasL
