/- The walk of the exact law on BitsFree: it returns true. No condition. -/
import Derived.Test.YtleooacadfhelaaFreL2
import Derived.Test.YtleooacadfhelaaFre
import Derived.OpenShut
namespace Go.Proofs.Ytleooacadfhelaa.FreL
open Go.RowKit Go.Proofs.Ytleooacadfhelaa.PFnExactBitsFree Go.Proofs.YtleooacadfhelaaW.PrintWords Go.Proofs.YtleooacadfhelaaW.PrintLast Go.Proofs.YtleooacadfhelaaW.PrintMore BitF L2BitsFree Iter
set_option linter.unusedVariables false
set_option linter.unusedSimpArgs false
theorem set_getDI (xs : List Int) (i j : Nat) (v : Int) (hi : i < xs.length) : (xs.set i v).getD j 0 = if i = j then v else xs.getD j 0 := by
  simp only [List.getD_eq_getElem?_getD, List.getElem?_set]
  by_cases h : i = j
  · subst h
    simp [hi]
  · simp [h]
theorem ext_getD {xs ys : List Int} (hl : xs.length = ys.length) (h : ∀ j : Nat, j < ys.length → xs.getD j 0 = ys.getD j 0) : xs = ys := by
  apply List.ext_getElem hl
  intro j h1 h2
  have := h j h2
  simp only [List.getD_eq_getElem?_getD, List.getElem?_eq_getElem h1, List.getElem?_eq_getElem h2, Option.getD_some] at this
  exact this
theorem to_go (l : List Int) (hn : l.length ≤ 1048576) : ∀ (d k i : Nat) (xs : List Int), l.length - i = d → i ≤ l.length → d < k → xs.length = l.length → (∀ j : Nat, j < i → xs.getD j 0 = l.getD j 0) → laws_toUint64S.l0 k l xs i = some l := by
  intro d
  induction d with
  | zero =>
    intro k i xs hd hi hk hx hb
    obtain ⟨k, rfl⟩ : ∃ m, k = m + 1 := ⟨k - 1, by omega⟩
    rw [laws_toUint64S.l0, if_neg (by omega), ext_getD hx (fun j hj => hb j (by omega))]
  | succ d ih =>
    intro k i xs hd hi hk hx hb
    obtain ⟨k, rfl⟩ : ∃ m, k = m + 1 := ⟨k - 1, by omega⟩
    have e3 : Hid (wrap64 ((i : Int) + 1) = (i : Int) + 1) := w64 (by omega) (by omega)
    have e5 : (i : Int) + 1 = ((i + 1 : Nat) : Int) := by omega
    rw [laws_toUint64S.l0, if_pos (by omega), if_pos (by omega), if_pos (by omega), e3.out, e5]
    refine ih k (i + 1) _ (by omega) (by omega) (by omega) (by simpa using hx) (fun j hj => ?_)
    rw [set_getDI _ _ _ _ (by omega)]
    by_cases e : (i : Int).toNat = j
    · rw [if_pos e]
      unfold rd
      rw [e]
    · rw [if_neg e]
      exact hb j (by omega)
theorem to_is (l : List Int) (hn : l.length ≤ 1048576) (k : Nat) (hk : l.length < k) : laws_toUint64S.f k l = some l := by
  unfold laws_toUint64S.f
  rw [if_pos (by omega), if_pos (by omega)]
  exact to_go l hn l.length k 0 _ (by omega) (by omega) hk (by simp) (fun j hj => by omega)
theorem eq_go (l : List Int) (hn : l.length ≤ 1048576) : ∀ (d k i : Nat), l.length - i = d → i ≤ l.length → d < k → laws_eqUint64S.l0 k l l i = some true := by
  intro d
  induction d with
  | zero =>
    intro k i hd hi hk
    obtain ⟨k, rfl⟩ : ∃ m, k = m + 1 := ⟨k - 1, by omega⟩
    rw [laws_eqUint64S.l0, if_neg (by omega)]
  | succ d ih =>
    intro k i hd hi hk
    obtain ⟨k, rfl⟩ : ∃ m, k = m + 1 := ⟨k - 1, by omega⟩
    have e3 : Hid (wrap64 ((i : Int) + 1) = (i : Int) + 1) := w64 (by omega) (by omega)
    have e5 : (i : Int) + 1 = ((i + 1 : Nat) : Int) := by omega
    rw [laws_eqUint64S.l0, if_pos (by omega), if_pos (by omega), if_pos (by omega), if_pos rfl, e3.out, e5]
    exact ih k (i + 1) (by omega) (by omega) (by omega)
theorem eq_is (l : List Int) (hn : l.length ≤ 1048576) (k : Nat) (hk : l.length < k) : laws_eqUint64S.f k l l = some true := by
  unfold laws_eqUint64S.f
  rw [if_pos rfl]
  exact eq_go l hn l.length k 0 (by omega) (by omega) hk
theorem frs_stop (l : List Int) (n : Nat) : ∀ d : Nat, frs l n (n + d) = frs l n n
  | 0 => rfl
  | d + 1 => by
    rw [← Nat.add_assoc, frs_no (by unfold isFree; simp; omega)]
    exact frs_stop l n d
theorem free_go (l : List Int) (n : Nat) (hn : n ≤ 4096) (ys : List Bool) (hy : ys.length = n) (he : ∀ j : Nat, j < n → ys.getD j false = at_ l j) (q : Nat) (hq : (q : Int) ≤ 9223372036854775807) : ∀ (d k i : Nat), n - i = d → i ≤ n → d < k → (frs l n i).length ≤ q →
    spec_BitsFree.l0 k ((q : Int) - (frs l n i).length) ys n i = some ((frs l n n)[q]?.getD (-1)) := by
  intro d
  induction d with
  | zero =>
    intro k i hd hi hk hle
    obtain ⟨k, rfl⟩ : ∃ m, k = m + 1 := ⟨k - 1, by omega⟩
    obtain rfl : i = n := by omega
    rw [spec_BitsFree.l0, if_neg (by omega), List.getElem?_eq_none hle]
    rfl
  | succ d ih =>
    intro k i hd hi hk hle
    obtain ⟨k, rfl⟩ : ∃ m, k = m + 1 := ⟨k - 1, by omega⟩
    have hb : rdOf false ys (i : Int) = at_ l i := by
      unfold rdOf
      exact he i (by omega)
    have e5 : (i : Int) + 1 = ((i + 1 : Nat) : Int) := by omega
    rw [spec_BitsFree.l0, if_pos (by omega), if_pos (by omega), if_pos (by omega), hb, w64 (x := (i : Int) + 1) (by omega) (by omega)]
    have IH := ih k (i + 1) (by omega) (by omega) (by omega)
    cases hat : at_ l i with
    | true =>
      have hf : frs l n (i + 1) = frs l n i := frs_no (by unfold isFree; simp [hat])
      rw [hf] at IH
      rw [if_pos rfl, e5]
      exact IH hle
    | false =>
      have hf : frs l n (i + 1) = frs l n i ++ [(i : Int)] := frs_yes (by unfold isFree; simp [hat]; omega)
      rw [if_neg (by simp)]
      by_cases hz : (frs l n i).length = q
      · rw [if_pos (by omega), Fre.frs_at (l := l) (n := n) (k := i + 1) (m := n) (j := q) (x := i) (by omega) (by rw [hf, List.getElem?_append_right (by omega), hz]; simp)]
        rfl
      · rw [if_neg (by omega), e5]
        have hw : wrap64 ((q : Int) - (frs l n i).length - 1) = (q : Int) - (frs l n (i + 1)).length := by
          rw [hf, List.length_append]
          unfold wrap64
          simp
          omega
        rw [hw]
        exact IH (by rw [hf, List.length_append]; simp; omega)
theorem spec_yes {l : List Int} (hl : Words l) {n : Int} (hg : GoodB l n) (q : Nat) (hq : (q : Int) ≤ 9223372036854775807) (k : Nat) (hk : 64 * l.length + 2 ≤ k) : spec_BitsFree.f k l n q = some ((frs l n (64 * l.length))[q]?.getD (-1)) := by
  obtain ⟨ys, e, e1, e2⟩ := list_good hl hg k hk
  obtain ⟨h0, h1, h2⟩ := hg.1
  obtain ⟨m, rfl⟩ := Int.eq_ofNat_of_zero_le h0
  unfold spec_BitsFree.f
  rw [e]
  simp only [Option.bind_some]
  obtain ⟨k, rfl⟩ : ∃ p, k = p + 1 := ⟨k - 1, by omega⟩
  rw [if_pos trivial, spec_BitsFree.j0, if_neg (by simp), show ((ys.length : Nat) : Int) = (m : Int) from e1]
  have := free_go l m (by omega) ys (by omega) (fun j hj => e2 j (by omega)) q hq m k 0 (by omega) (by omega) (by omega) (by show 0 ≤ q; omega)
  have hz : frs l m 0 = [] := rfl
  rw [hz] at this
  rw [show 64 * l.length = m + (64 * l.length - m) by omega, frs_stop]
  simpa using this
theorem spec_no {l : List Int} (hl : Words l) {n q : Int} (hn : l.length ≤ 1048576) (h : ¬ (GoodB l n ∧ 0 ≤ q)) (k : Nat) (hk : 64 * l.length + 2 ≤ k) : spec_BitsFree.f k l n q = some (-1) := by
  unfold spec_BitsFree.f
  by_cases hg : GoodB l n
  · obtain ⟨ys, e, e1, e2⟩ := list_good hl hg k hk
    have hq : q < 0 := by
      by_cases h0 : q < 0
      · exact h0
      · exact absurd ⟨hg, by omega⟩ h
    rw [e]
    obtain ⟨k, rfl⟩ : ∃ p, k = p + 1 := ⟨k - 1, by omega⟩
    simp only [Option.bind_some]
    rw [if_pos trivial, spec_BitsFree.j0, if_pos (by simpa using hq)]
  · rw [list_bad hl hn hg k hk]
    obtain ⟨k, rfl⟩ : ∃ p, k = p + 1 := ⟨k - 1, by omega⟩
    simp [spec_BitsFree.j0]
def ans (l : List Int) (n q : Int) (r : Int) : Prop := (GoodB l n ∧ 0 ≤ q ∧ r = (frs l n (64 * l.length))[q.toNat]?.getD (-1)) ∨ (¬ (GoodB l n ∧ 0 ≤ q) ∧ r = -1)
theorem impl_is (A : Option Addr) (c : Nat) (l : List Int) (hl : Words l) (n i : Int) (hn : l.length ≤ 1048576) (r : Int) (w : World) (hC : Kd.C (Kd.int .u64) w A l.length l) (hc : l.length ≤ c) (hnb : -9223372036854775808 ≤ n ∧ n ≤ 9223372036854775807) (hib : i ≤ 9223372036854775807) (h : ans l n i r) :
    Calls Try.prog 18 #[.slice A l.length c, .int .i64 n, .int .i64 i] w fun e w' => e = .returned (.int .i64 r) ∧ Below w.heap.size w w' := by
  rcases h with ⟨hg, h0, rfl⟩ | ⟨hg, rfl⟩
  · obtain ⟨q, rfl⟩ := Int.eq_ofNat_of_zero_le h0
    exact callsIn_wide.1 (Fre.free_good A c l n q w hC hc hl hg hib)
  · by_cases hs : Shape l n
    · obtain ⟨g, hf, hi⟩ := good_is hl hs
      refine Fre.free_bad A c l n i g w hC hc hf ?_
      cases g
      · exact .inl rfl
      · by_cases h0 : i < 0
        · exact .inr h0
        · exact absurd ⟨hi.1 rfl, by omega⟩ hg
    · exact Fre.free_bad A c l n i false w hC hc (bad_shape hs hn hnb) (.inl rfl)
set_option maxHeartbeats 2000000 in
theorem bitsFree_law {w : World} (A : Option Addr) (c : Nat) (l : List Int) (n i : Int) (hC : Kd.C (Kd.int .u64) w A l.length l) (hc : l.length ≤ c) (hwf : ∀ x ∈ l, (Lit.int .u64 x).wf = true) (hy : l.length * 8 ≤ 140737488351232) (wn : (Lit.int .i64 n).wf = true) (wi : (Lit.int .i64 i).wf = true) :
    Calls Try.prog 6 #[.slice A l.length c, .int .i64 n, .int .i64 i] w fun e w' => e = .returned (.bool true) ∧ Below w.heap.size w w' := by
  by_cases hbig : 1048576 < l.length
  · go_enter Try.func6, Try.ntmps6
    go_wp2
    go_ret
    exact ⟨rfl, Below.refl _ _⟩
  · have hn : l.length ≤ 1048576 := by omega
    have hnb := Lib.hid (bounds_i64 wn)
    have hib := Lib.hid (bounds_i64 wi).2
    have hW : Words l := fun x hx => ⟨(bounds_u64 (hwf x hx)).1, (bounds_u64 (hwf x hx)).2⟩
    have HC := Lib.hid hC
    clear hC hwf wn wi hbig
    obtain ⟨r, hsp, him⟩ : ∃ r, spec_BitsFree.f (64 * l.length + 2) l n i = some r ∧ ans l n i r := by
      by_cases h : GoodB l n ∧ 0 ≤ i
      · obtain ⟨q, rfl⟩ := Int.eq_ofNat_of_zero_le h.2
        exact ⟨_, spec_yes hW h.1 q hib.out _ (Nat.le_refl _), .inl ⟨h.1, h.2, rfl⟩⟩
      · exact ⟨_, spec_no hW hn h _ (Nat.le_refl _), .inr ⟨h, rfl⟩⟩
    have HS := Lib.hid hsp
    have HI := Lib.hid him
    clear hsp him
    have HT := Lib.hid (to_is l hn (l.length + 1) (Nat.lt_succ_self _))
    have HE := Lib.hid (eq_is l hn (l.length + 1) (Nat.lt_succ_self _))
    have HW := Lib.hid hW
    clear hW
    go_enter Try.func6, Try.ntmps6
    go_wp2_with fail
    refine (laws_toUint64S.calls _ A c l l _ HC.out hc HT.out).mono ?_
    rintro e w1 ⟨v1, rfl, hR1, hw1⟩
    obtain ⟨A1, c1, rfl, hc1, hC1⟩ := Kd.R_reads hR1
    clear hR1
    go_wp2_with fail
    refine (spec_BitsFree.calls _ A1 c1 l n i r _ hC1 hc1 HS.out).mono ?_
    rintro e w2 ⟨rfl, hw2⟩
    go_wp2_with fail
    refine (laws_toUint64S.calls _ A c l l _ (Kd.C_below HC.out (Bits.bstep hw1 hw2)) hc HT.out).mono ?_
    rintro e w3 ⟨v3, rfl, hR3, hw3⟩
    obtain ⟨A3, c3, rfl, hc3, hC3⟩ := Kd.R_reads hR3
    clear hR3
    go_wp2_with fail
    refine (impl_is A3 c3 l HW.out n i hn r _ hC3 hc3 hnb.out hib.out HI.out).mono ?_
    rintro e w4 ⟨rfl, hw4⟩
    have hB4 := Bits.bstep (Bits.bstep (Bits.bstep hw1 hw2) hw3) hw4
    go_wp2_with fail
    refine (laws_toUint64S.calls _ A c l l _ (Kd.C_below HC.out hB4) hc HT.out).mono ?_
    rintro e w5 ⟨v5, rfl, hR5, hw5⟩
    obtain ⟨A5, c5, rfl, hc5, hC5⟩ := Kd.R_reads hR5
    clear hR5
    go_wp2_with fail
    refine (laws_eqUint64S.calls _ A3 c3 l A5 c5 l true _ (Kd.C_below hC3 (Bits.bstep hw4 hw5)) hc3 hC5 hc5 HE.out).mono ?_
    rintro e w6 ⟨rfl, hw6⟩
    go_wp2
    go_ret
    exact ⟨rfl, Bits.bstep (Bits.bstep hB4 hw5) hw6.below⟩
end Go.Proofs.Ytleooacadfhelaa.FreL
