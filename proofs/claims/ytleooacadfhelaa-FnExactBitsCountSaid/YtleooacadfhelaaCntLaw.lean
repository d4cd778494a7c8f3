/- The walk of the exact law on BitsCount: it returns true. No condition. -/
import Derived.Test.YtleooacadfhelaaCntL2
import Derived.Test.YtleooacadfhelaaCnt
import Derived.OpenShut
namespace Go.Proofs.Ytleooacadfhelaa.CntL
open Go.RowKit Go.Proofs.Ytleooacadfhelaa.PFnExactBitsCount Go.Proofs.YtleooacadfhelaaW.PrintWords Go.Proofs.YtleooacadfhelaaW.PrintLast Go.Proofs.YtleooacadfhelaaW.PrintMore BitF L2BitsCount Iter
set_option linter.unusedVariables false
set_option linter.unusedSimpArgs false
theorem set_getDI (xs : List Int) (i j : Nat) (v : Int) (hi : i < xs.length) : (xs.set i v).getD j 0 = if i = j then v else xs.getD j 0 := by
  simp only [List.getD_eq_getElem?_getD, List.getElem?_set]
  by_cases h : i = j
  · subst h
    simp [hi]
  · simp [h]
theorem ext_getD {xs ys : List Int} (hl : xs.length = ys.length) (h : ∀ j : Nat, j < ys.length → xs.getD j 0 = ys.getD j 0) : xs = ys := by
  apply List.ext_getElem hl
  intro j h1 h2
  have := h j h2
  simp only [List.getD_eq_getElem?_getD, List.getElem?_eq_getElem h1, List.getElem?_eq_getElem h2, Option.getD_some] at this
  exact this
theorem to_go (l : List Int) (hn : l.length ≤ 1048576) : ∀ (d k i : Nat) (xs : List Int), l.length - i = d → i ≤ l.length → d < k → xs.length = l.length → (∀ j : Nat, j < i → xs.getD j 0 = l.getD j 0) → laws_toUint64S.l0 k l xs i = some l := by
  intro d
  induction d with
  | zero =>
    intro k i xs hd hi hk hx hb
    obtain ⟨k, rfl⟩ : ∃ m, k = m + 1 := ⟨k - 1, by omega⟩
    rw [laws_toUint64S.l0, if_neg (by omega), ext_getD hx (fun j hj => hb j (by omega))]
  | succ d ih =>
    intro k i xs hd hi hk hx hb
    obtain ⟨k, rfl⟩ : ∃ m, k = m + 1 := ⟨k - 1, by omega⟩
    have e3 : Hid (wrap64 ((i : Int) + 1) = (i : Int) + 1) := w64 (by omega) (by omega)
    have e5 : (i : Int) + 1 = ((i + 1 : Nat) : Int) := by omega
    rw [laws_toUint64S.l0, if_pos (by omega), if_pos (by omega), if_pos (by omega), e3.out, e5]
    refine ih k (i + 1) _ (by omega) (by omega) (by omega) (by simpa using hx) (fun j hj => ?_)
    rw [set_getDI _ _ _ _ (by omega)]
    by_cases e : (i : Int).toNat = j
    · rw [if_pos e]
      unfold rd
      rw [e]
    · rw [if_neg e]
      exact hb j (by omega)
theorem to_is (l : List Int) (hn : l.length ≤ 1048576) (k : Nat) (hk : l.length < k) : laws_toUint64S.f k l = some l := by
  unfold laws_toUint64S.f
  rw [if_pos (by omega), if_pos (by omega)]
  exact to_go l hn l.length k 0 _ (by omega) (by omega) hk (by simp) (fun j hj => by omega)
theorem eq_go (l : List Int) (hn : l.length ≤ 1048576) : ∀ (d k i : Nat), l.length - i = d → i ≤ l.length → d < k → laws_eqUint64S.l0 k l l i = some true := by
  intro d
  induction d with
  | zero =>
    intro k i hd hi hk
    obtain ⟨k, rfl⟩ : ∃ m, k = m + 1 := ⟨k - 1, by omega⟩
    rw [laws_eqUint64S.l0, if_neg (by omega)]
  | succ d ih =>
    intro k i hd hi hk
    obtain ⟨k, rfl⟩ : ∃ m, k = m + 1 := ⟨k - 1, by omega⟩
    have e3 : Hid (wrap64 ((i : Int) + 1) = (i : Int) + 1) := w64 (by omega) (by omega)
    have e5 : (i : Int) + 1 = ((i + 1 : Nat) : Int) := by omega
    rw [laws_eqUint64S.l0, if_pos (by omega), if_pos (by omega), if_pos (by omega), if_pos rfl, e3.out, e5]
    exact ih k (i + 1) (by omega) (by omega) (by omega)
theorem eq_is (l : List Int) (hn : l.length ≤ 1048576) (k : Nat) (hk : l.length < k) : laws_eqUint64S.f k l l = some true := by
  unfold laws_eqUint64S.f
  rw [if_pos rfl]
  exact eq_go l hn l.length k 0 (by omega) (by omega) hk
theorem frs_stop (l : List Int) (n : Nat) : ∀ d : Nat, frs l n (n + d) = frs l n n
  | 0 => rfl
  | d + 1 => by
    rw [← Nat.add_assoc, frs_no (by unfold isFree; simp; omega)]
    exact frs_stop l n d
theorem count_go (l : List Int) (n : Nat) (hn : n ≤ 4096) (ys : List Bool) (hy : ys.length = n) (he : ∀ j : Nat, j < n → ys.getD j false = at_ l j) : ∀ (d k i : Nat), n - i = d → i ≤ n → d < k →
    spec_BitsCount.l0 k ((i : Int) - (frs l n i).length) ys n i = some ((n : Int) - (frs l n n).length) := by
  intro d
  induction d with
  | zero =>
    intro k i hd hi hk
    obtain ⟨k, rfl⟩ : ∃ m, k = m + 1 := ⟨k - 1, by omega⟩
    obtain rfl : i = n := by omega
    rw [spec_BitsCount.l0, if_neg (by omega)]
  | succ d ih =>
    intro k i hd hi hk
    obtain ⟨k, rfl⟩ : ∃ m, k = m + 1 := ⟨k - 1, by omega⟩
    have hb : rdOf false ys (i : Int) = at_ l i := by
      unfold rdOf
      exact he i (by omega)
    have hfl := frs_len l n i
    have e5 : (i : Int) + 1 = ((i + 1 : Nat) : Int) := by omega
    rw [spec_BitsCount.l0, if_pos (by omega), if_pos (by omega), if_pos (by omega), hb, w64 (x := (i : Int) + 1) (by omega) (by omega), w64 (by omega) (by omega)]
    have IH := ih k (i + 1) (by omega) (by omega) (by omega)
    cases hat : at_ l i with
    | true =>
      have hf : frs l n (i + 1) = frs l n i := frs_no (by unfold isFree; simp [hat])
      rw [hf] at IH
      rw [if_pos rfl, e5, ← IH]
      congr 1
      omega
    | false =>
      have hf : frs l n (i + 1) = frs l n i ++ [(i : Int)] := frs_yes (by unfold isFree; simp [hat]; omega)
      rw [hf, List.length_append] at IH
      rw [if_neg (by simp), e5, ← IH]
      congr 1
      simp
      omega
theorem spec_yes {l : List Int} (hl : Words l) {n : Int} (hg : GoodB l n) (k : Nat) (hk : 64 * l.length + 2 ≤ k) : spec_BitsCount.f k l n = some (n - (frs l n (64 * l.length)).length) := by
  obtain ⟨ys, e, e1, e2⟩ := list_good hl hg k hk
  obtain ⟨h0, h1, h2⟩ := hg.1
  obtain ⟨m, rfl⟩ := Int.eq_ofNat_of_zero_le h0
  unfold spec_BitsCount.f
  rw [e]
  simp only [Option.bind_some]
  rw [if_pos trivial, show ((ys.length : Nat) : Int) = (m : Int) from e1]
  have := count_go l m (by omega) ys (by omega) (fun j hj => e2 j (by omega)) m k 0 (by omega) (by omega) (by omega)
  have hz : frs l m 0 = [] := rfl
  rw [hz] at this
  rw [show 64 * l.length = m + (64 * l.length - m) by omega, frs_stop]
  exact this
theorem spec_no {l : List Int} (hl : Words l) {n : Int} (hn : l.length ≤ 1048576) (h : ¬ GoodB l n) (k : Nat) (hk : 64 * l.length + 2 ≤ k) : spec_BitsCount.f k l n = some (-1) := by
  unfold spec_BitsCount.f
  rw [list_bad hl hn h k hk]
  simp
def ans (l : List Int) (n : Int) (r : Int) : Prop := (GoodB l n ∧ r = n - (frs l n (64 * l.length)).length) ∨ (¬ GoodB l n ∧ r = -1)
theorem impl_is (A : Option Addr) (c : Nat) (l : List Int) (hl : Words l) (n : Int) (hn : l.length ≤ 1048576) (r : Int) (w : World) (hC : Kd.C (Kd.int .u64) w A l.length l) (hc : l.length ≤ c) (hnb : -9223372036854775808 ≤ n ∧ n ≤ 9223372036854775807) (h : ans l n r) :
    Calls Try.prog 14 #[.slice A l.length c, .int .i64 n] w fun e w' => e = .returned (.int .i64 r) ∧ Below w.heap.size w w' := by
  rcases h with ⟨hg, rfl⟩ | ⟨hg, rfl⟩
  · exact callsIn_wide.1 (Cnt.count_in A c l n w hC hc hl hg)
  · by_cases hs : Shape l n
    · obtain ⟨g, hf, hi⟩ := good_is hl hs
      obtain rfl : g = false := by
        cases g
        · rfl
        · exact absurd (hi.1 rfl) hg
      exact Cnt.count_bad A c l n w hC hc hf
    · exact Cnt.count_bad A c l n w hC hc (bad_shape hs hn hnb)
set_option maxHeartbeats 2000000 in
theorem bitsCount_law {w : World} (A : Option Addr) (c : Nat) (l : List Int) (n : Int) (hC : Kd.C (Kd.int .u64) w A l.length l) (hc : l.length ≤ c) (hwf : ∀ x ∈ l, (Lit.int .u64 x).wf = true) (hy : l.length * 8 ≤ 140737488351232) (wn : (Lit.int .i64 n).wf = true) :
    Calls Try.prog 4 #[.slice A l.length c, .int .i64 n] w fun e w' => e = .returned (.bool true) ∧ Below w.heap.size w w' := by
  by_cases hbig : 1048576 < l.length
  · go_enter Try.func4, Try.ntmps4
    go_wp2
    go_ret
    exact ⟨rfl, Below.refl _ _⟩
  · have hn : l.length ≤ 1048576 := by omega
    have hnb := Lib.hid (bounds_i64 wn)
    have hW : Words l := fun x hx => ⟨(bounds_u64 (hwf x hx)).1, (bounds_u64 (hwf x hx)).2⟩
    have HC := Lib.hid hC
    clear hC hwf wn hbig
    obtain ⟨r, hsp, him⟩ : ∃ r, spec_BitsCount.f (64 * l.length + 2) l n = some r ∧ ans l n r := by
      by_cases h : GoodB l n
      · exact ⟨_, spec_yes hW h _ (Nat.le_refl _), .inl ⟨h, rfl⟩⟩
      · exact ⟨_, spec_no hW hn h _ (Nat.le_refl _), .inr ⟨h, rfl⟩⟩
    have HS := Lib.hid hsp
    have HI := Lib.hid him
    clear hsp him
    have HT := Lib.hid (to_is l hn (l.length + 1) (Nat.lt_succ_self _))
    have HE := Lib.hid (eq_is l hn (l.length + 1) (Nat.lt_succ_self _))
    have HW := Lib.hid hW
    clear hW
    go_enter Try.func4, Try.ntmps4
    go_wp2_with fail
    refine (laws_toUint64S.calls _ A c l l _ HC.out hc HT.out).mono ?_
    rintro e w1 ⟨v1, rfl, hR1, hw1⟩
    obtain ⟨A1, c1, rfl, hc1, hC1⟩ := Kd.R_reads hR1
    clear hR1
    go_wp2_with fail
    refine (spec_BitsCount.calls _ A1 c1 l n r _ hC1 hc1 HS.out).mono ?_
    rintro e w2 ⟨rfl, hw2⟩
    go_wp2_with fail
    refine (laws_toUint64S.calls _ A c l l _ (Kd.C_below HC.out (Bits.bstep hw1 hw2)) hc HT.out).mono ?_
    rintro e w3 ⟨v3, rfl, hR3, hw3⟩
    obtain ⟨A3, c3, rfl, hc3, hC3⟩ := Kd.R_reads hR3
    clear hR3
    go_wp2_with fail
    refine (impl_is A3 c3 l HW.out n hn r _ hC3 hc3 hnb.out HI.out).mono ?_
    rintro e w4 ⟨rfl, hw4⟩
    have hB4 := Bits.bstep (Bits.bstep (Bits.bstep hw1 hw2) hw3) hw4
    go_wp2_with fail
    refine (laws_toUint64S.calls _ A c l l _ (Kd.C_below HC.out hB4) hc HT.out).mono ?_
    rintro e w5 ⟨v5, rfl, hR5, hw5⟩
    obtain ⟨A5, c5, rfl, hc5, hC5⟩ := Kd.R_reads hR5
    clear hR5
    go_wp2_with fail
    refine (laws_eqUint64S.calls _ A3 c3 l A5 c5 l true _ (Kd.C_below hC3 (Bits.bstep hw4 hw5)) hc3 hC5 hc5 HE.out).mono ?_
    rintro e w6 ⟨rfl, hw6⟩
    go_wp2
    go_ret
    exact ⟨rfl, Bits.bstep (Bits.bstep hB4 hw5) hw6.below⟩
end Go.Proofs.Ytleooacadfhelaa.CntL
