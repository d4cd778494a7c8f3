/- A bit put into a bitmap: plain facts, and the reference's answer. -/
import Derived.Test.YtleooacadfhelaaPut
import Derived.Test.YtleooacadfhelaaBsL2
import Derived.Test.YtleooacadfhelaaCnt
import Derived.Laws.BitsAllLaws
namespace Go.Proofs.Ytleooacadfhelaa.BsF
open Go.RowKit Go.Proofs.Ytleooacadfhelaa.PFnBits Go.Proofs.YtleooacadfhelaaW.PrintWords Go.Proofs.YtleooacadfhelaaW.PrintLast Go.Proofs.YtleooacadfhelaaW.PrintMore BitF L2Bs Put Iter
set_option linter.unusedVariables false
set_option linter.unusedSimpArgs false
theorem pow_small (m : Nat) (hm : m < 64) : 2 ^ m < 18446744073709551616 := by
  have := Nat.pow_lt_pow_right (a := 2) (by omega) hm
  simpa using this
theorem wrap_pow (m : Nat) (hm : m < 64) : IntKind.u64.wrap (2 ^ m) = ((2 ^ m : Nat) : Int) := by
  have hp := pow_small m hm
  have e : ((2 : Int) ^ m) = ((2 ^ m : Nat) : Int) := by rw [Int.natCast_pow]; rfl
  rw [IntKind.wrap_u64, e]
  obtain ⟨q, hq⟩ : ∃ q, 2 ^ m = q := ⟨_, rfl⟩
  rw [hq] at hp ⊢
  omega
theorem bit_lt {x : Int} (h0 : 0 ≤ x) (h1 : x ≤ 18446744073709551615) {y : Int} (h2 : 0 ≤ y) (h3 : y ≤ 18446744073709551615) (h : ∀ j, j < 64 → bit x j = bit y j) : x = y := by
  obtain ⟨X, rfl⟩ := Int.eq_ofNat_of_zero_le h0
  obtain ⟨Y, rfl⟩ := Int.eq_ofNat_of_zero_le h2
  congr 1
  apply Nat.eq_of_testBit_eq
  intro j
  by_cases hj : j < 64
  · have := h j hj
    rw [bit_nat, bit_nat] at this
    exact this
  · have hp : 2 ^ 64 ≤ 2 ^ j := Nat.pow_le_pow_right (by omega) (by omega)
    have e : (2 : Nat) ^ 64 = 18446744073709551616 := by decide
    rw [Nat.testBit_lt_two_pow (Nat.lt_of_lt_of_le (by omega) hp), Nat.testBit_lt_two_pow (Nat.lt_of_lt_of_le (by omega) hp)]
theorem offwis {x i : Int} (h0 : 0 ≤ x) (h1 : x ≤ 18446744073709551615) (hi : 0 ≤ i) : (0 ≤ offw x i ∧ offw x i ≤ 18446744073709551615) ∧ ∀ j, j < 64 → bit (offw x i) j = (bit x j && !decide (j = (i % 64).toNat)) := by
  obtain ⟨X, rfl⟩ := Int.eq_ofNat_of_zero_le h0
  have hm : (i % 64).toNat < 64 := by omega
  obtain ⟨m, hme⟩ : ∃ m, (i % 64).toNat = m := ⟨_, rfl⟩
  rw [hme] at hm ⊢
  have hp := pow_small m hm
  unfold offw mask
  rw [hme, wrap_pow m hm, u64_andNot_nat X (2 ^ m) (by omega) hp]
  have e : (18446744073709551615 - 2 ^ m) = 2 ^ 64 - (2 ^ m + 1) := by
    have e : (2 : Nat) ^ 64 = 18446744073709551616 := by decide
    omega
  have hle : X &&& (18446744073709551615 - 2 ^ m) ≤ X := Nat.and_le_left
  refine ⟨⟨by omega, by omega⟩, fun j hj => ?_⟩
  have hp' : (2 : Nat) ^ m < 2 ^ 64 := Nat.pow_lt_pow_right (by omega) hm
  rw [bit_nat, bit_nat, Nat.testBit_and, e, Nat.testBit_two_pow_sub_succ hp', Nat.testBit_two_pow]
  simp [hj, eq_comm]
theorem on_is {x i : Int} (h0 : 0 ≤ x) (h1 : x ≤ 18446744073709551615) (hi : 0 ≤ i) : (0 ≤ onw x i ∧ onw x i ≤ 18446744073709551615) ∧ ∀ j, j < 64 → bit (onw x i) j = (bit x j || decide (j = (i % 64).toNat)) := by
  obtain ⟨⟨g0, g1⟩, hb⟩ := offwis h0 h1 hi
  unfold onw
  obtain ⟨y, hy⟩ : ∃ y, offw x i = y := ⟨_, rfl⟩
  rw [hy] at g0 g1 hb ⊢
  obtain ⟨Y, rfl⟩ := Int.eq_ofNat_of_zero_le g0
  have hm : (i % 64).toNat < 64 := by omega
  obtain ⟨m, hme⟩ : ∃ m, (i % 64).toNat = m := ⟨_, rfl⟩
  unfold mask
  rw [hme] at hm hb ⊢
  have hp := pow_small m hm
  rw [wrap_pow m hm, u64_or_nat Y (2 ^ m) (by omega) hp]
  have hlt : Y ||| 2 ^ m < 2 ^ 64 := Nat.or_lt_two_pow (by omega) (by omega)
  refine ⟨⟨by omega, by omega⟩, fun j hj => ?_⟩
  have := hb j hj
  rw [bit_nat] at this ⊢
  rw [Nat.testBit_or, this, Nat.testBit_two_pow]
  by_cases e : m = j
  · subst e
    simp
  · have : ¬ j = m := fun h => e h.symm
    simp [e, this]
theorem rd_set {l : List Int} {q : Nat} {v : Int} (hq : q < l.length) (p : Nat) : rd (l.set q v) (p : Int) = if p = q then v else rd l p := by
  unfold rd
  rw [Int.toNat_natCast]
  simp only [List.getD_eq_getElem?_getD, List.getElem?_set]
  by_cases h : q = p
  · subst h
    simp [hq]
  · rw [if_neg h, if_neg (fun e => h e.symm)]
theorem at_set {l : List Int} {q : Nat} {v : Int} (hq : q < l.length) (j : Nat) : at_ (l.set q v) j = if j / 64 = q then bit v (j % 64) else at_ l j := by
  unfold at_
  rw [rd_set hq]
  by_cases h : j / 64 = q
  · rw [if_pos h, if_pos h]
  · rw [if_neg h, if_neg h]
theorem words_set {l : List Int} (hl : Words l) {q : Nat} {v : Int} (hv : 0 ≤ v ∧ v ≤ 18446744073709551615) : Words (l.set q v) := fun x hx => by
  rcases List.mem_or_eq_of_mem_set hx with h | rfl
  · exact hl x h
  · exact hv
theorem at_putw {l : List Int} (hl : Words l) {i : Nat} (hi : i < 64 * l.length) (on : Bool) : Words (putw l i on) ∧ (putw l i on).length = l.length ∧ ∀ j, at_ (putw l i on) j = if j = i then on else at_ l j := by
  have hx := hl _ (rd_mem (l := l) (i := (i : Int) / 64) (by omega) (by omega))
  have hof := offwis hx.1 hx.2 (i := (i : Int)) (by omega)
  have hon := on_is hx.1 hx.2 (i := (i : Int)) (by omega)
  have hq : ((i : Int) / 64).toNat = i / 64 := by omega
  have hm : ((i : Int) % 64).toNat = i % 64 := by omega
  have hc : ((i / 64 : Nat) : Int) = (i : Int) / 64 := by omega
  unfold putw
  rw [hq]
  refine ⟨words_set hl (by cases on; exact hof.1; exact hon.1), by simp, fun j => ?_⟩
  rw [at_set (by omega)]
  by_cases h : j / 64 = i / 64
  · rw [if_pos h]
    have hat : at_ l j = bit (rd l ((i : Int) / 64)) (j % 64) := by
      unfold at_
      rw [h, hc]
    cases on with
    | false =>
      rw [if_neg (by simp), hof.2 _ (by omega), hm, ← hat]
      by_cases e : j = i
      · subst e
        simp
      · rw [if_neg e, decide_eq_false (by omega)]
        simp
    | true =>
      rw [if_pos rfl, hon.2 _ (by omega), hm, ← hat]
      by_cases e : j = i
      · subst e
        simp
      · rw [if_neg e, decide_eq_false (by omega)]
        simp
  · rw [if_neg h, if_neg (by omega)]
theorem ext_words {a b : List Int} (ha : Words a) (hb : Words b) (hl : a.length = b.length) (h : ∀ j, j < 64 * b.length → at_ a j = at_ b j) : a = b := by
  apply List.ext_getElem hl
  intro p h1 h2
  have ea : rd a (p : Int) = a[p] := by unfold rd; simp [h1]
  have eb : rd b (p : Int) = b[p] := by unfold rd; simp [h2]
  have wa := ha _ (List.getElem_mem h1)
  have wb := hb _ (List.getElem_mem h2)
  refine bit_lt wa.1 wa.2 wb.1 wb.2 (fun j hj => ?_)
  have := h (64 * p + j) (by omega)
  unfold at_ at this
  rw [show (64 * p + j) / 64 = p by omega, show (64 * p + j) % 64 = j by omega, ea, eb] at this
  exact this
theorem or_mask (x : Int) (i : Nat) : Go.bits .or .u64 x (shl .u64 1 (IntKind.u64.wrap ((i : Int) % 64))) = Go.bits .or .u64 x (mask i) := by
  unfold mask
  have hwu : IntKind.u64.wrap ((i : Int) % 64) = (i : Int) % 64 := by rw [IntKind.wrap_u64]; omega
  rw [hwu]
  congr 1
  unfold shl
  have hb : IntKind.u64.bits = 64 := rfl
  rw [hb]
  rw [Nat.min_eq_left (by omega)]
  simp
theorem or_is {x : Int} (h0 : 0 ≤ x) (h1 : x ≤ 18446744073709551615) (i : Nat) : (0 ≤ Go.bits .or .u64 x (mask i) ∧ Go.bits .or .u64 x (mask i) ≤ 18446744073709551615) ∧ ∀ j, j < 64 → bit (Go.bits .or .u64 x (mask i)) j = (bit x j || decide (j = i % 64)) := by
  obtain ⟨X, rfl⟩ := Int.eq_ofNat_of_zero_le h0
  have hm : i % 64 < 64 := by omega
  have hme : ((i : Int) % 64).toNat = i % 64 := by omega
  unfold mask
  rw [hme]
  obtain ⟨m, hmm⟩ : ∃ m, i % 64 = m := ⟨_, rfl⟩
  rw [hmm] at hm ⊢
  have hp := pow_small m hm
  rw [wrap_pow m hm, u64_or_nat X (2 ^ m) (by omega) hp]
  have hlt : X ||| 2 ^ m < 2 ^ 64 := Nat.or_lt_two_pow (by omega) (by omega)
  refine ⟨⟨by omega, by omega⟩, fun j hj => ?_⟩
  rw [bit_nat, bit_nat, Nat.testBit_or, Nat.testBit_two_pow]
  by_cases e : m = j
  · subst e
    simp
  · have : ¬ j = m := fun h => e h.symm
    simp [e, this]
theorem words_go (ys : List Bool) (hy : ys.length ≤ 100000) : ∀ (d k i : Nat) (xs : List Int), ys.length - i = d → i ≤ ys.length → d < k → xs.length = (ys.length + 63) / 64 → Words xs → (∀ j, at_ xs j = (decide (j < i) && ys.getD j false)) →
    ∃ r, spec_l2Words.l0 k xs ys ys.length i = some r ∧ r.length = (ys.length + 63) / 64 ∧ Words r ∧ ∀ j, at_ r j = ys.getD j false := by
  intro d
  induction d with
  | zero =>
    intro k i xs hd hi hk hx hw hb
    obtain ⟨k, rfl⟩ : ∃ m, k = m + 1 := ⟨k - 1, by omega⟩
    refine ⟨xs, by rw [spec_l2Words.l0, if_neg (by omega)], hx, hw, fun j => ?_⟩
    rw [hb]
    by_cases h : j < i
    · simp [h]
    · rw [List.getD_eq_getElem?_getD, List.getElem?_eq_none (by omega)]
      simp
  | succ d ih =>
    intro k i xs hd hi hk hx hw hb
    obtain ⟨k, rfl⟩ : ∃ m, k = m + 1 := ⟨k - 1, by omega⟩
    have e5 : (i : Int) + 1 = ((i + 1 : Nat) : Int) := by omega
    have hr : rdOf false ys (i : Int) = ys.getD i false := by unfold rdOf; rw [Int.toNat_natCast]
    have ht : Int.tdiv (i : Int) 64 = ((i / 64 : Nat) : Int) := by rw [Int.tdiv_eq_ediv_of_nonneg (by omega)]; omega
    have htm : Int.tmod (i : Int) 64 = (i : Int) % 64 := Int.tmod_eq_emod_of_nonneg (by omega)
    have hwu : IntKind.u64.wrap ((i : Int) % 64) = (i : Int) % 64 := by rw [IntKind.wrap_u64]; omega
    have hcast : ((i / 64 : Nat) : Int).toNat = i / 64 := Int.toNat_natCast _
    rw [spec_l2Words.l0, if_pos (by omega), if_pos (by omega), if_pos (by omega), hr, ht, htm, w64 (x := ((i / 64 : Nat) : Int)) (by omega) (by omega), w64 (x := (i : Int) + 1) (by omega) (by omega), or_mask, e5]
    cases hv : ys.getD i false with
    | false =>
      rw [if_neg (by simp)]
      refine ih k (i + 1) xs (by omega) (by omega) (by omega) hx hw (fun j => ?_)
      rw [hb]
      by_cases h : j = i
      · subst h
        rw [hv]
        simp
      · rw [show decide (j < i + 1) = decide (j < i) by rw [decide_eq_decide]; omega]
    | true =>
      rw [if_pos rfl, if_pos (by omega), if_pos (by omega), if_pos (by rw [hwu]; omega), hcast]
      have hmem := hw _ (rd_mem (l := xs) (i := ((i / 64 : Nat) : Int)) (by omega) (by omega))
      have ho := or_is hmem.1 hmem.2 i
      refine ih k (i + 1) _ (by omega) (by omega) (by omega) (by simpa using hx) (words_set hw ho.1) (fun j => ?_)
      rw [at_set (by omega)]
      by_cases h : j / 64 = i / 64
      · have hat : at_ xs j = bit (rd xs ((i / 64 : Nat) : Int)) (j % 64) := by
          unfold at_
          rw [h]
        rw [if_pos h, ho.2 _ (by omega), ← hat, hb]
        by_cases e : j = i
        · subst e
          rw [hv]
          simp
        · rw [decide_eq_false (p := j % 64 = i % 64) (by omega), Bool.or_false, show decide (j < i + 1) = decide (j < i) by rw [decide_eq_decide]; omega]
      · rw [if_neg h, hb, show decide (j < i + 1) = decide (j < i) by rw [decide_eq_decide]; omega]
theorem at_zero (m j : Nat) : at_ (List.replicate m (0 : Int)) j = false := by
  have : rd (List.replicate m (0 : Int)) ((j / 64 : Nat) : Int) = 0 := by
    unfold rd
    rw [Int.toNat_natCast, List.getD_eq_getElem?_getD, List.getElem?_replicate]
    split <;> rfl
  unfold at_
  rw [this]
  unfold bit
  simp
theorem words_is (ys : List Bool) (hy : ys.length ≤ 100000) (k : Nat) (hk : ys.length < k) : ∃ r, spec_l2Words.f k ys = some r ∧ r.length = (ys.length + 63) / 64 ∧ Words r ∧ ∀ j, at_ r j = ys.getD j false := by
  unfold spec_l2Words.f
  rw [w64 (x := (ys.length : Int) + 63) (by omega) (by omega), Int.tdiv_eq_ediv_of_nonneg (by omega), w64 (x := ((ys.length : Int) + 63) / 64) (by omega) (by omega), if_pos (by omega), if_pos (by omega)]
  have e : (((ys.length : Int) + 63) / 64).toNat = (ys.length + 63) / 64 := by omega
  rw [e]
  exact words_go ys hy ys.length k 0 _ (by omega) (by omega) hk (by simp) (fun x hx => by rw [(List.mem_replicate.1 hx).2]; omega) (fun j => by rw [at_zero]; simp)
theorem spec_yes {l : List Int} (hl : Words l) {n : Int} (hg : GoodB l n) (i : Nat) (hi : (i : Int) < n) (on : Bool) (k : Nat) (hk : 64 * l.length + 2 ≤ k) : spec_BitsPut.f k l n i on = some (putw l i on, true) := by
  obtain ⟨ys, e, e1, e2⟩ := list_good hl hg k hk
  obtain ⟨h0, h1, h2⟩ := hg.1
  unfold spec_BitsPut.f
  rw [e]
  simp only [Option.bind_some]
  obtain ⟨r, hr, hr1, hr2, hr3⟩ := words_is (ys.set i on) (by simp; omega) k (by simp; omega)
  rw [if_pos trivial, if_neg (by omega), if_neg (by omega), if_pos (by omega), if_pos (by omega), Int.toNat_natCast, hr, Option.bind_some]
  have hp := at_putw hl (i := i) (by omega) on
  have : r = putw l i on := by
    refine ext_words hr2 hp.1 (by rw [hr1, hp.2.1]; simp; omega) (fun j hj => ?_)
    rw [hp.2.1] at hj
    rw [hr3, hp.2.2, set_getD _ _ _ _ (by omega)]
    by_cases h : i = j
    · rw [if_pos h, if_pos h.symm]
    · rw [if_neg h, if_neg (fun e => h e.symm)]
      by_cases hj' : (j : Int) < n
      · exact e2 j hj'
      · rw [hg.2 j (by omega) hj, List.getD_eq_getElem?_getD, List.getElem?_eq_none (by omega)]
        rfl
  rw [this]
theorem spec_no {l : List Int} (hl : Words l) {n i : Int} (hn : l.length ≤ 1048576) (on : Bool) (h : ¬ (GoodB l n ∧ 0 ≤ i ∧ i < n)) (k : Nat) (hk : 64 * l.length + 2 ≤ k) : spec_BitsPut.f k l n i on = some ([], false) := by
  unfold spec_BitsPut.f
  by_cases hg : GoodB l n
  · obtain ⟨ys, e, e1, e2⟩ := list_good hl hg k hk
    rw [e]
    simp only [Option.bind_some]
    rw [if_pos trivial]
    by_cases h0 : i < 0
    · rw [if_pos h0]
    · rw [if_neg h0, if_pos (by by_cases h1 : i < n; exact absurd ⟨hg, by omega, h1⟩ h; omega)]
  · rw [list_bad hl hn hg k hk]
    simp
theorem frs_stop (l : List Int) (n : Nat) : ∀ d : Nat, frs l n (n + d) = frs l n n
  | 0 => rfl
  | d + 1 => by
    rw [← Nat.add_assoc, frs_no (by unfold isFree; simp; omega)]
    exact frs_stop l n d
theorem count_go (l : List Int) (n : Nat) (hn : n ≤ 4096) (ys : List Bool) (hy : ys.length = n) (he : ∀ j : Nat, j < n → ys.getD j false = at_ l j) : ∀ (d k i : Nat), n - i = d → i ≤ n → d < k →
    spec_BitsCount.l0 k ((i : Int) - (frs l n i).length) ys n i = some ((n : Int) - (frs l n n).length) := by
  intro d
  induction d with
  | zero =>
    intro k i hd hi hk
    obtain ⟨k, rfl⟩ : ∃ m, k = m + 1 := ⟨k - 1, by omega⟩
    obtain rfl : i = n := by omega
    rw [spec_BitsCount.l0, if_neg (by omega)]
  | succ d ih =>
    intro k i hd hi hk
    obtain ⟨k, rfl⟩ : ∃ m, k = m + 1 := ⟨k - 1, by omega⟩
    have hb : rdOf false ys (i : Int) = at_ l i := by
      unfold rdOf
      exact he i (by omega)
    have hfl := frs_len l n i
    have e5 : (i : Int) + 1 = ((i + 1 : Nat) : Int) := by omega
    rw [spec_BitsCount.l0, if_pos (by omega), if_pos (by omega), if_pos (by omega), hb, w64 (x := (i : Int) + 1) (by omega) (by omega), w64 (by omega) (by omega)]
    have IH := ih k (i + 1) (by omega) (by omega) (by omega)
    cases hat : at_ l i with
    | true =>
      have hf : frs l n (i + 1) = frs l n i := frs_no (by unfold isFree; simp [hat])
      rw [hf] at IH
      rw [if_pos rfl, e5, ← IH]
      congr 1
      omega
    | false =>
      have hf : frs l n (i + 1) = frs l n i ++ [(i : Int)] := frs_yes (by unfold isFree; simp [hat]; omega)
      rw [hf, List.length_append] at IH
      rw [if_neg (by simp), e5, ← IH]
      congr 1
      simp
      omega
theorem count_yes {l : List Int} (hl : Words l) {n : Int} (hg : GoodB l n) (k : Nat) (hk : 64 * l.length + 2 ≤ k) : spec_BitsCount.f k l n = some (n - (frs l n (64 * l.length)).length) := by
  obtain ⟨ys, e, e1, e2⟩ := list_good hl hg k hk
  obtain ⟨h0, h1, h2⟩ := hg.1
  obtain ⟨m, rfl⟩ := Int.eq_ofNat_of_zero_le h0
  unfold spec_BitsCount.f
  rw [e]
  simp only [Option.bind_some]
  rw [if_pos trivial, show ((ys.length : Nat) : Int) = (m : Int) from e1]
  have := count_go l m (by omega) ys (by omega) (fun j hj => e2 j (by omega)) m k 0 (by omega) (by omega) (by omega)
  have hz : frs l m 0 = [] := rfl
  rw [hz] at this
  rw [show 64 * l.length = m + (64 * l.length - m) by omega, frs_stop]
  exact this
theorem count_no {l : List Int} (hl : Words l) {n : Int} (hn : l.length ≤ 1048576) (h : ¬ GoodB l n) (k : Nat) (hk : 64 * l.length + 2 ≤ k) : spec_BitsCount.f k l n = some (-1) := by
  unfold spec_BitsCount.f
  rw [list_bad hl hn h k hk]
  simp
end Go.Proofs.Ytleooacadfhelaa.BsF
