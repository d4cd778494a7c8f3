/- The walk of the exact law on BitsScan: it returns true. No condition. -/
import Derived.Test.YtleooacadfhelaaScnL2
import Derived.Test.YtleooacadfhelaaScn
import Derived.OpenShut
namespace Go.Proofs.Ytleooacadfhelaa.ScnL
open Go.RowKit Go.Proofs.Ytleooacadfhelaa.PFnExactBitsScan Go.Proofs.YtleooacadfhelaaW.PrintWords Go.Proofs.YtleooacadfhelaaW.PrintLast Go.Proofs.YtleooacadfhelaaW.PrintMore BitF L2BitsScan Iter
set_option linter.unusedVariables false
set_option linter.unusedSimpArgs false
theorem set_getDI (xs : List Int) (i j : Nat) (v : Int) (hi : i < xs.length) : (xs.set i v).getD j 0 = if i = j then v else xs.getD j 0 := by
  simp only [List.getD_eq_getElem?_getD, List.getElem?_set]
  by_cases h : i = j
  · subst h
    simp [hi]
  · simp [h]
theorem ext_getD {xs ys : List Int} (hl : xs.length = ys.length) (h : ∀ j : Nat, j < ys.length → xs.getD j 0 = ys.getD j 0) : xs = ys := by
  apply List.ext_getElem hl
  intro j h1 h2
  have := h j h2
  simp only [List.getD_eq_getElem?_getD, List.getElem?_eq_getElem h1, List.getElem?_eq_getElem h2, Option.getD_some] at this
  exact this
theorem to_go (l : List Int) (hn : l.length ≤ 1048576) : ∀ (d k i : Nat) (xs : List Int), l.length - i = d → i ≤ l.length → d < k → xs.length = l.length → (∀ j : Nat, j < i → xs.getD j 0 = l.getD j 0) → laws_toUint64S.l0 k l xs i = some l := by
  intro d
  induction d with
  | zero =>
    intro k i xs hd hi hk hx hb
    obtain ⟨k, rfl⟩ : ∃ m, k = m + 1 := ⟨k - 1, by omega⟩
    rw [laws_toUint64S.l0, if_neg (by omega), ext_getD hx (fun j hj => hb j (by omega))]
  | succ d ih =>
    intro k i xs hd hi hk hx hb
    obtain ⟨k, rfl⟩ : ∃ m, k = m + 1 := ⟨k - 1, by omega⟩
    have e3 : Hid (wrap64 ((i : Int) + 1) = (i : Int) + 1) := w64 (by omega) (by omega)
    have e5 : (i : Int) + 1 = ((i + 1 : Nat) : Int) := by omega
    rw [laws_toUint64S.l0, if_pos (by omega), if_pos (by omega), if_pos (by omega), e3.out, e5]
    refine ih k (i + 1) _ (by omega) (by omega) (by omega) (by simpa using hx) (fun j hj => ?_)
    rw [set_getDI _ _ _ _ (by omega)]
    by_cases e : (i : Int).toNat = j
    · rw [if_pos e]
      unfold rd
      rw [e]
    · rw [if_neg e]
      exact hb j (by omega)
theorem to_is (l : List Int) (hn : l.length ≤ 1048576) (k : Nat) (hk : l.length < k) : laws_toUint64S.f k l = some l := by
  unfold laws_toUint64S.f
  rw [if_pos (by omega), if_pos (by omega)]
  exact to_go l hn l.length k 0 _ (by omega) (by omega) hk (by simp) (fun j hj => by omega)
theorem eq_go (l : List Int) (hn : l.length ≤ 1048576) : ∀ (d k i : Nat), l.length - i = d → i ≤ l.length → d < k → laws_eqUint64S.l0 k l l i = some true := by
  intro d
  induction d with
  | zero =>
    intro k i hd hi hk
    obtain ⟨k, rfl⟩ : ∃ m, k = m + 1 := ⟨k - 1, by omega⟩
    rw [laws_eqUint64S.l0, if_neg (by omega)]
  | succ d ih =>
    intro k i hd hi hk
    obtain ⟨k, rfl⟩ : ∃ m, k = m + 1 := ⟨k - 1, by omega⟩
    have e3 : Hid (wrap64 ((i : Int) + 1) = (i : Int) + 1) := w64 (by omega) (by omega)
    have e5 : (i : Int) + 1 = ((i + 1 : Nat) : Int) := by omega
    rw [laws_eqUint64S.l0, if_pos (by omega), if_pos (by omega), if_pos (by omega), if_pos rfl, e3.out, e5]
    exact ih k (i + 1) (by omega) (by omega) (by omega)
theorem eq_is (l : List Int) (hn : l.length ≤ 1048576) (k : Nat) (hk : l.length < k) : laws_eqUint64S.f k l l = some true := by
  unfold laws_eqUint64S.f
  rw [if_pos rfl]
  exact eq_go l hn l.length k 0 (by omega) (by omega) hk
theorem frs_stop (l : List Int) (n : Nat) : ∀ d : Nat, frs l n (n + d) = frs l n n
  | 0 => rfl
  | d + 1 => by
    rw [← Nat.add_assoc, frs_no (by unfold isFree; simp; omega)]
    exact frs_stop l n d
theorem mem_frs {l : List Int} {n : Int} {m : Nat} {y : Int} : y ∈ frs l n m ↔ ∃ i : Nat, i < m ∧ isFree l n i = true ∧ y = (i : Int) := by
  unfold frs
  simp only [List.mem_map, List.mem_filter, List.mem_range]
  constructor
  · rintro ⟨i, ⟨h1, h2⟩, rfl⟩
    exact ⟨i, h1, h2, rfl⟩
  · rintro ⟨i, h1, h2, rfl⟩
    exact ⟨i, ⟨h1, h2⟩, rfl⟩
theorem free_iff {l : List Int} {n : Nat} {i : Nat} : isFree l n i = true ↔ i < n ∧ at_ l i = false := by
  unfold isFree
  simp
theorem ans_at {l : List Int} {n s i : Nat} (hi : i < n) (hn : n ≤ 64 * l.length) (hf : at_ l i = false) (hs : s ≤ i) (ho : ∀ j, s ≤ j → j < i → at_ l j = true) : Scn.ans l n s = i := by
  refine Scn.ans_stop (k := i + 1) (pre := frs l n i) (x := (i : Int)) (by omega) (frs_yes (free_iff.2 ⟨hi, hf⟩)) ?_ (by omega)
  intro y hy
  obtain ⟨j, hj, hfr, rfl⟩ := mem_frs.1 hy
  have hj2 := (free_iff.1 hfr).2
  by_cases h : s ≤ j
  · rw [ho j h hj] at hj2
    cases hj2
  · omega
theorem frs_nil {l : List Int} {n : Nat} {m : Nat} (h : ∀ j, j < m → j < n → at_ l j = true) : frs l n m = [] := by
  refine List.eq_nil_iff_forall_not_mem.2 (fun y hy => ?_)
  obtain ⟨j, hj, hfr, rfl⟩ := mem_frs.1 hy
  have := free_iff.1 hfr
  rw [h j hj this.1] at this
  cases this.2
theorem ans_wrap {l : List Int} {n s i : Nat} (hi : i < n) (hn : n ≤ 64 * l.length) (hf : at_ l i = false) (hs : i < s) (ho : ∀ j, j < i → at_ l j = true) (ho' : ∀ j, s ≤ j → j < n → at_ l j = true) : Scn.ans l n s = i := by
  rw [Scn.ans_done (fun y hy => ?_)]
  · obtain ⟨r, e⟩ := Scn.frs_prefix l n (k := i + 1) (m := 64 * l.length) (by omega)
    rw [e, frs_yes (free_iff.2 ⟨hi, hf⟩), frs_nil (fun j hj _ => ho j hj)]
    show Scn.fst (if (-1 : Int) < 0 then (i : Int) else -1) r = i
    rw [if_pos (by omega)]
    exact Scn.fst_keep _ _ (by omega)
  · obtain ⟨j, hj, hfr, rfl⟩ := mem_frs.1 hy
    have := free_iff.1 hfr
    by_cases h : s ≤ j
    · rw [ho' j h this.1] at this
      cases this.2
    · omega
theorem ans_none {l : List Int} {n s : Nat} (ho : ∀ j, j < n → at_ l j = true) : Scn.ans l n s = -1 := by
  unfold Scn.ans
  rw [frs_nil (fun j _ h => ho j h)]
  rfl
theorem scan_go (l : List Int) (n : Nat) (hn : n ≤ 4096) (hnl : n ≤ 64 * l.length) (ys : List Bool) (hy : ys.length = n) (he : ∀ j : Nat, j < n → ys.getD j false = at_ l j) (s : Nat) (hs : s < n) : ∀ (d k i : Nat), n - i = d → i ≤ n → d < k → (∀ j, j < i → at_ l ((s + j) % n) = true) →
    spec_BitsScan.l0 k n s ys i = some (Scn.ans l n s) := by
  intro d
  induction d with
  | zero =>
    intro k i hd hi hk hon
    obtain ⟨k, rfl⟩ : ∃ m, k = m + 1 := ⟨k - 1, by omega⟩
    obtain rfl : i = n := by omega
    rw [spec_BitsScan.l0, if_neg (by omega), ans_none (fun j hj => ?_)]
    by_cases h : s ≤ j
    · have := hon (j - s) (by omega)
      rw [show s + (j - s) = j by omega, Nat.mod_eq_of_lt hj] at this
      exact this
    · have := hon (j + i - s) (by omega)
      rw [show s + (j + i - s) = j + i by omega, Nat.add_mod_right, Nat.mod_eq_of_lt hj] at this
      exact this
  | succ d ih =>
    intro k i hd hi hk hon
    obtain ⟨k, rfl⟩ : ∃ m, k = m + 1 := ⟨k - 1, by omega⟩
    have em : Int.tmod ((s : Int) + (i : Int)) (n : Int) = ((s + i) % n : Nat) := by
      rw [Int.tmod_eq_emod_of_nonneg (by omega), Int.natCast_emod]
      rfl
    have hm : (s + i) % n < n := Nat.mod_lt _ (by omega)
    obtain ⟨q, hq⟩ : ∃ q, (s + i) % n = q := ⟨_, rfl⟩
    have hb : rdOf false ys (q : Int) = at_ l q := by
      unfold rdOf
      exact he q (by omega)
    have e5 : (i : Int) + 1 = ((i + 1 : Nat) : Int) := by omega
    rw [spec_BitsScan.l0, if_pos (by omega), if_neg (by omega), w64 (x := (s : Int) + (i : Int)) (by omega) (by omega), em, hq, if_pos (by omega), if_pos (by omega), hb, w64 (x := (i : Int) + 1) (by omega) (by omega)]
    cases hat : at_ l q with
    | true =>
      rw [if_pos rfl, e5]
      refine ih k (i + 1) (by omega) (by omega) (by omega) (fun j hj => ?_)
      by_cases e : j = i
      · rw [e, hq]
        exact hat
      · exact hon j (by omega)
    | false =>
      rw [if_neg (by simp)]
      congr 1
      by_cases h : s + i < n
      · have hqe : q = s + i := by rw [← hq, Nat.mod_eq_of_lt h]
        refine (ans_at (by omega) hnl hat (by omega) (fun j h1 h2 => ?_)).symm
        have := hon (j - s) (by omega)
        rw [show s + (j - s) = j by omega, Nat.mod_eq_of_lt (by omega)] at this
        exact this
      · have hqe : q = s + i - n := by
          rw [← hq, Nat.mod_eq_sub_mod (by omega), Nat.mod_eq_of_lt (by omega)]
        refine (ans_wrap (by omega) hnl hat (by omega) (fun j h1 => ?_) (fun j h1 h2 => ?_)).symm
        · have := hon (j + n - s) (by omega)
          rw [show s + (j + n - s) = j + n by omega, Nat.add_mod_right, Nat.mod_eq_of_lt (by omega)] at this
          exact this
        · have := hon (j - s) (by omega)
          rw [show s + (j - s) = j by omega, Nat.mod_eq_of_lt (by omega)] at this
          exact this
theorem spec_yes {l : List Int} (hl : Words l) {n : Int} (hg : GoodB l n) (s : Nat) (hs : (s : Int) < n) (k : Nat) (hk : 64 * l.length + 2 ≤ k) : spec_BitsScan.f k l n s = some (Scn.ans l n s) := by
  obtain ⟨ys, e, e1, e2⟩ := list_good hl hg k hk
  obtain ⟨h0, h1, h2⟩ := hg.1
  obtain ⟨m, rfl⟩ := Int.eq_ofNat_of_zero_le h0
  unfold spec_BitsScan.f
  rw [e]
  simp only [Option.bind_some]
  obtain ⟨k, rfl⟩ : ∃ p, k = p + 1 := ⟨k - 1, by omega⟩
  rw [if_pos trivial, if_neg (by omega), spec_BitsScan.j0, if_neg (by simp; omega)]
  exact scan_go l m (by omega) (by omega) ys (by omega) (fun j hj => e2 j (by omega)) s (by omega) m k 0 (by omega) (by omega) (by omega) (fun j hj => by omega)
theorem spec_no {l : List Int} (hl : Words l) {n q : Int} (hn : l.length ≤ 1048576) (h : ¬ (GoodB l n ∧ 0 ≤ q ∧ q < n)) (k : Nat) (hk : 64 * l.length + 2 ≤ k) : spec_BitsScan.f k l n q = some (-1) := by
  unfold spec_BitsScan.f
  by_cases hg : GoodB l n
  · obtain ⟨ys, e, e1, e2⟩ := list_good hl hg k hk
    rw [e]
    obtain ⟨k, rfl⟩ : ∃ p, k = p + 1 := ⟨k - 1, by omega⟩
    simp only [Option.bind_some]
    rw [if_pos trivial]
    by_cases h0 : q < 0
    · rw [if_pos h0, spec_BitsScan.j0, if_pos rfl]
    · rw [if_neg h0, spec_BitsScan.j0, if_pos (by by_cases h1 : q < n; exact absurd ⟨hg, by omega, h1⟩ h; simpa using h1)]
  · rw [list_bad hl hn hg k hk]
    obtain ⟨k, rfl⟩ : ∃ p, k = p + 1 := ⟨k - 1, by omega⟩
    simp [spec_BitsScan.j0]
def ans (l : List Int) (n q : Int) (r : Int) : Prop := (GoodB l n ∧ 0 ≤ q ∧ q < n ∧ r = Scn.ans l n q) ∨ (¬ (GoodB l n ∧ 0 ≤ q ∧ q < n) ∧ r = -1)
theorem impl_is (A : Option Addr) (c : Nat) (l : List Int) (hl : Words l) (n i : Int) (hn : l.length ≤ 1048576) (r : Int) (w : World) (hC : Kd.C (Kd.int .u64) w A l.length l) (hc : l.length ≤ c) (hnb : -9223372036854775808 ≤ n ∧ n ≤ 9223372036854775807) (h : ans l n i r) :
    Calls Try.prog 16 #[.slice A l.length c, .int .i64 n, .int .i64 i] w fun e w' => e = .returned (.int .i64 r) ∧ Below w.heap.size w w' := by
  rcases h with ⟨hg, h0, h1, rfl⟩ | ⟨hg, rfl⟩
  · exact callsIn_wide.1 (Scn.scan_good A c l n i w hC hc hl hg h0 h1)
  · by_cases hs : Shape l n
    · obtain ⟨g, hf, hi⟩ := good_is hl hs
      refine Scn.scan_bad A c l n i g w hC hc hf ?_
      cases g
      · exact .inl rfl
      · by_cases h0 : i < 0
        · exact .inr (.inl h0)
        · by_cases h1 : i < n
          · exact absurd ⟨hi.1 rfl, by omega, h1⟩ hg
          · exact .inr (.inr (by omega))
    · exact Scn.scan_bad A c l n i false w hC hc (bad_shape hs hn hnb) (.inl rfl)
set_option maxHeartbeats 2000000 in
theorem bitsScan_law {w : World} (A : Option Addr) (c : Nat) (l : List Int) (n i : Int) (hC : Kd.C (Kd.int .u64) w A l.length l) (hc : l.length ≤ c) (hwf : ∀ x ∈ l, (Lit.int .u64 x).wf = true) (hy : l.length * 8 ≤ 140737488351232) (wn : (Lit.int .i64 n).wf = true) (wi : (Lit.int .i64 i).wf = true) :
    Calls Try.prog 5 #[.slice A l.length c, .int .i64 n, .int .i64 i] w fun e w' => e = .returned (.bool true) ∧ Below w.heap.size w w' := by
  by_cases hbig : 1048576 < l.length
  · go_enter Try.func5, Try.ntmps5
    go_wp2
    go_ret
    exact ⟨rfl, Below.refl _ _⟩
  · have hn : l.length ≤ 1048576 := by omega
    have hnb := Lib.hid (bounds_i64 wn)
    have hW : Words l := fun x hx => ⟨(bounds_u64 (hwf x hx)).1, (bounds_u64 (hwf x hx)).2⟩
    have HC := Lib.hid hC
    clear hC hwf wn wi hbig
    obtain ⟨r, hsp, him⟩ : ∃ r, spec_BitsScan.f (64 * l.length + 2) l n i = some r ∧ ans l n i r := by
      by_cases h : GoodB l n ∧ 0 ≤ i ∧ i < n
      · obtain ⟨q, rfl⟩ := Int.eq_ofNat_of_zero_le h.2.1
        exact ⟨_, spec_yes hW h.1 q h.2.2 _ (Nat.le_refl _), .inl ⟨h.1, h.2.1, h.2.2, rfl⟩⟩
      · exact ⟨_, spec_no hW hn h _ (Nat.le_refl _), .inr ⟨h, rfl⟩⟩
    have HS := Lib.hid hsp
    have HI := Lib.hid him
    clear hsp him
    have HT := Lib.hid (to_is l hn (l.length + 1) (Nat.lt_succ_self _))
    have HE := Lib.hid (eq_is l hn (l.length + 1) (Nat.lt_succ_self _))
    have HW := Lib.hid hW
    clear hW
    go_enter Try.func5, Try.ntmps5
    go_wp2_with fail
    refine (laws_toUint64S.calls _ A c l l _ HC.out hc HT.out).mono ?_
    rintro e w1 ⟨v1, rfl, hR1, hw1⟩
    obtain ⟨A1, c1, rfl, hc1, hC1⟩ := Kd.R_reads hR1
    clear hR1
    go_wp2_with fail
    refine (spec_BitsScan.calls _ A1 c1 l n i r _ hC1 hc1 HS.out).mono ?_
    rintro e w2 ⟨rfl, hw2⟩
    go_wp2_with fail
    refine (laws_toUint64S.calls _ A c l l _ (Kd.C_below HC.out (Bits.bstep hw1 hw2)) hc HT.out).mono ?_
    rintro e w3 ⟨v3, rfl, hR3, hw3⟩
    obtain ⟨A3, c3, rfl, hc3, hC3⟩ := Kd.R_reads hR3
    clear hR3
    go_wp2_with fail
    refine (impl_is A3 c3 l HW.out n i hn r _ hC3 hc3 hnb.out HI.out).mono ?_
    rintro e w4 ⟨rfl, hw4⟩
    have hB4 := Bits.bstep (Bits.bstep (Bits.bstep hw1 hw2) hw3) hw4
    go_wp2_with fail
    refine (laws_toUint64S.calls _ A c l l _ (Kd.C_below HC.out hB4) hc HT.out).mono ?_
    rintro e w5 ⟨v5, rfl, hR5, hw5⟩
    obtain ⟨A5, c5, rfl, hc5, hC5⟩ := Kd.R_reads hR5
    clear hR5
    go_wp2_with fail
    refine (laws_eqUint64S.calls _ A3 c3 l A5 c5 l true _ (Kd.C_below hC3 (Bits.bstep hw4 hw5)) hc3 hC5 hc5 HE.out).mono ?_
    rintro e w6 ⟨rfl, hw6⟩
    go_wp2
    go_ret
    exact ⟨rfl, Bits.bstep (Bits.bstep hB4 hw5) hw6.below⟩
end Go.Proofs.Ytleooacadfhelaa.ScnL
