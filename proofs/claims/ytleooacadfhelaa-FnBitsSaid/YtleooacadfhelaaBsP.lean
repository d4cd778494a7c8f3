/- Free bits of two bitmaps that differ at one place: plain facts. -/
import Derived.Test.YtleooacadfhelaaBsF
import Derived.Test.YtleooacadfhelaaScn
import Derived.Test.YtleooacadfhelaaFre
namespace Go.Proofs.Ytleooacadfhelaa.BsP
open Go.RowKit Go.Proofs.YtleooacadfhelaaW.PrintWords Go.Proofs.YtleooacadfhelaaW.PrintLast BitF Put BsF Iter
set_option linter.unusedVariables false
set_option linter.unusedSimpArgs false
theorem free_iff {l : List Int} {n : Nat} {i : Nat} : isFree l n i = true ↔ i < n ∧ at_ l i = false := by
  unfold isFree
  simp
theorem mem_frs {l : List Int} {n : Int} {m : Nat} {y : Int} : y ∈ frs l n m ↔ ∃ i : Nat, i < m ∧ isFree l n i = true ∧ y = (i : Int) := by
  unfold frs
  simp only [List.mem_map, List.mem_filter, List.mem_range]
  constructor
  · rintro ⟨i, ⟨h1, h2⟩, rfl⟩
    exact ⟨i, h1, h2, rfl⟩
  · rintro ⟨i, h1, h2, rfl⟩
    exact ⟨i, ⟨h1, h2⟩, rfl⟩
theorem free_eq {a b : List Int} {n j : Nat} (h : at_ a j = at_ b j) : isFree a n j = isFree b n j := by
  unfold isFree
  rw [h]
theorem len_diff {a b : List Int} {n i : Nat} (hi : i < n) (h : ∀ j, j ≠ i → at_ a j = at_ b j) (ha : at_ a i = false) (hb : at_ b i = true) : ∀ m : Nat, (frs a n m).length = (frs b n m).length + if i < m then 1 else 0
  | 0 => by simp [frs]
  | m + 1 => by
    have ih := len_diff hi h ha hb m
    by_cases e : m = i
    · subst e
      rw [frs_yes (free_iff.2 ⟨hi, ha⟩), frs_no (l := b) (by unfold isFree; simp [hb]), List.length_append, ih]
      simp
    · have hf := free_eq (n := n) (h m e)
      cases hc : isFree a n m with
      | true =>
        rw [hc] at hf
        rw [frs_yes hc, frs_yes hf.symm, List.length_append, List.length_append, ih]
        by_cases h1 : i < m
        · rw [if_pos h1, if_pos (by omega)]
          simp
        · rw [if_neg h1, if_neg (by omega)]
          omega
      | false =>
        rw [hc] at hf
        rw [frs_no hc, frs_no hf.symm, ih]
        by_cases h1 : i < m
        · rw [if_pos h1, if_pos (by omega)]
        · rw [if_neg h1, if_neg (by omega)]
theorem len_same {a b : List Int} {n : Nat} : ∀ m : Nat, (∀ j, j < m → at_ a j = at_ b j) → frs a n m = frs b n m
  | 0, _ => rfl
  | m + 1, h => by
    have ih := len_same (n := n) m (fun j hj => h j (by omega))
    have hf := free_eq (n := n) (h m (by omega))
    cases hc : isFree a n m with
    | true => rw [hc] at hf; rw [frs_yes hc, frs_yes hf.symm, ih]
    | false => rw [hc] at hf; rw [frs_no hc, frs_no hf.symm, ih]
theorem len_le (l : List Int) (n : Nat) : ∀ m : Nat, (frs l n m).length ≤ n ∧ (frs l n m).length ≤ m
  | 0 => by simp [frs]
  | m + 1 => by
    have ih := len_le l n m
    cases hc : isFree l n m with
    | true =>
      have := free_iff.1 hc
      have h2 : ∀ q : Nat, q ≤ n → (frs l n q).length ≤ q := fun q _ => frs_len l n q
      have h3 := h2 m (by omega)
      rw [frs_yes hc, List.length_append]
      simp
      omega
    | false =>
      rw [frs_no hc]
      omega
theorem ans_at {l : List Int} {n s i : Nat} (hi : i < n) (hn : n ≤ 64 * l.length) (hf : at_ l i = false) (hs : s ≤ i) (ho : ∀ j, s ≤ j → j < i → at_ l j = true) : Scn.ans l n s = i := by
  refine Scn.ans_stop (k := i + 1) (pre := frs l n i) (x := (i : Int)) (by omega) (frs_yes (free_iff.2 ⟨hi, hf⟩)) ?_ (by omega)
  intro y hy
  obtain ⟨j, hj, hfr, rfl⟩ := mem_frs.1 hy
  have hj2 := (free_iff.1 hfr).2
  by_cases h : s ≤ j
  · rw [ho j h hj] at hj2
    cases hj2
  · omega
theorem fst_mem : ∀ (f : Int) (r : List Int), (∀ y ∈ r, 0 ≤ y) → (Scn.fst f r ∈ r ∨ Scn.fst f r = f)
  | f, [], _ => .inr rfl
  | f, x :: r, h => by
    rw [Scn.fst]
    rcases fst_mem (if f < 0 then x else f) r (fun y hy => h y (List.mem_cons_of_mem _ hy)) with h1 | h1
    · exact .inl (List.mem_cons_of_mem _ h1)
    · rw [h1]
      by_cases hf : f < 0
      · rw [if_pos hf]
        exact .inl List.mem_cons_self
      · rw [if_neg hf]
        exact .inr rfl
theorem fst_full {r : List Int} (h : ∀ y ∈ r, 0 ≤ y) (hr : r ≠ []) : Scn.fst (-1) r ∈ r := by
  cases r with
  | nil => exact absurd rfl hr
  | cons x r =>
    have hx := h x List.mem_cons_self
    rw [Scn.fst, if_pos (by omega), Scn.fst_keep x r hx]
    exact List.mem_cons_self
theorem ans_mem {l : List Int} {n : Nat} {s : Int} : (frs l n (64 * l.length) = [] ∧ Scn.ans l n s = -1) ∨ Scn.ans l n s ∈ frs l n (64 * l.length) := by
  have hp : ∀ y ∈ frs l n (64 * l.length), 0 ≤ y := fun y hy => by
    obtain ⟨j, _, _, rfl⟩ := mem_frs.1 hy
    omega
  unfold Scn.ans
  cases hf : (frs l n (64 * l.length)).find? (fun y => decide (s ≤ y)) with
  | some y => exact .inr (List.mem_of_find?_eq_some hf)
  | none =>
    by_cases he : frs l n (64 * l.length) = []
    · left
      rw [he]
      exact ⟨rfl, rfl⟩
    · right
      exact fst_full hp he
/-- What the law on bits uses of the three bitmaps: l, on (bit i set), off (bit i cleared). -/
structure Three (l ons offs : List Int) (n i : Nat) (cf : Int) (q : Nat) (x k : Int) : Prop where
  g1 : GoodB l n
  w1 : Words l
  g2 : GoodB ons n
  w2 : Words ons
  g3 : GoodB offs n
  w3 : Words offs
  a2 : ∀ j, j ≠ i → at_ ons j = at_ l j
  a3 : ∀ j, j ≠ i → at_ offs j = at_ l j
  o2 : at_ ons i = true
  o3 : at_ offs i = false
  p3 : offs = putw ons i false
  c1 : (n : Int) - (frs l n (64 * l.length)).length = if at_ l i then cf + 1 else cf
  c2 : (n : Int) - (frs ons n (64 * ons.length)).length = cf + 1
  c3 : (n : Int) - (frs offs n (64 * offs.length)).length = cf
  s3 : Scn.ans offs n i = i
  q1 : (frs l n i).length = q
  f3 : (frs offs n (64 * offs.length))[q]?.getD (-1) = i
  f2 : (frs ons n (64 * ons.length))[q]?.getD (-1) = x
  x2 : (x == (i : Int)) = false
  k2 : Scn.ans ons n i = k
  kk : (k = -1 ∧ cf + 1 = n) ∨ ∃ m : Nat, k = m ∧ m < n ∧ at_ ons m = false ∧ cf + 1 < n
  cfb : 0 ≤ cf ∧ cf < n
theorem three {l : List Int} (hl : Words l) {n i : Nat} (hg : GoodB l n) (hi : i < n) : ∃ cf q x k, Three l (putw l i true) (putw (putw l i true) i false) n i cf q x k := by
  obtain ⟨h0, h1, h2⟩ := hg.1
  have p2 := at_putw hl (i := i) (by omega) true
  obtain ⟨ons, hons⟩ : ∃ x, putw l i true = x := ⟨_, rfl⟩
  rw [hons] at p2 ⊢
  obtain ⟨w2, e2, b2⟩ := p2
  have p3 := at_putw w2 (i := i) (by omega) false
  obtain ⟨offs, hoffs⟩ : ∃ x, putw ons i false = x := ⟨_, rfl⟩
  rw [hoffs] at p3 ⊢
  obtain ⟨w3, e3, b3⟩ := p3
  have a2 : ∀ j, j ≠ i → at_ ons j = at_ l j := fun j hj => by rw [b2, if_neg hj]
  have a3 : ∀ j, j ≠ i → at_ offs j = at_ l j := fun j hj => by rw [b3, if_neg hj, a2 j hj]
  have o2 : at_ ons i = true := by rw [b2, if_pos rfl]
  have o3 : at_ offs i = false := by rw [b3, if_pos rfl]
  have a32 : ∀ j, j ≠ i → at_ offs j = at_ ons j := fun j hj => by rw [a3 j hj, a2 j hj]
  have g2 : GoodB ons n := ⟨⟨h0, h1, by rw [e2]; exact h2⟩, fun j hj hj' => by rw [a2 j (by omega)]; exact hg.2 j hj (by omega)⟩
  have g3 : GoodB offs n := ⟨⟨h0, h1, by rw [e3, e2]; exact h2⟩, fun j hj hj' => by rw [a3 j (by omega)]; exact hg.2 j hj (by omega)⟩
  have hN : 64 * offs.length = 64 * l.length := by rw [e3, e2]
  have hN2 : 64 * ons.length = 64 * l.length := by rw [e2]
  have hnl : n ≤ 64 * l.length := by omega
  have hc := len_diff (n := n) hi a32 o3 o2 (64 * l.length)
  rw [if_pos (by omega)] at hc
  have hle := len_le offs n (64 * l.length)
  refine ⟨(n : Int) - (frs offs n (64 * l.length)).length, (frs l n i).length, _, _, ⟨hg, hl, g2, w2, g3, w3, a2, a3, o2, o3, hoffs.symm, ?_, ?_, ?_, ?_, rfl, ?_, rfl, ?_, rfl, ?_, ?_⟩⟩
  · cases hat : at_ l i with
    | true =>
      have : frs l n (64 * l.length) = frs ons n (64 * l.length) := len_same _ (fun j _ => by
        by_cases e : j = i
        · rw [e, hat, o2]
        · rw [a2 j e])
      rw [this]
      simp
      omega
    | false =>
      have : frs l n (64 * l.length) = frs offs n (64 * l.length) := len_same _ (fun j _ => by
        by_cases e : j = i
        · rw [e, hat, o3]
        · rw [a3 j e])
      rw [this]
      simp
  · rw [hN2]
    omega
  · rw [hN]
  · exact ans_at hi (by omega) o3 (Nat.le_refl _) (fun j h1 h2 => by omega)
  · have hs : frs l n i = frs offs n i := len_same _ (fun j hj => (a3 j (by omega)).symm)
    rw [hs, hN, Fre.frs_at (l := offs) (n := n) (k := i + 1) (x := (i : Int)) (by omega) (by rw [frs_yes (free_iff.2 ⟨hi, o3⟩), List.getElem?_append_right (Nat.le_refl _)]; simp)]
    rfl
  · rw [beq_eq_false_iff_ne]
    intro he
    cases hx : (frs ons n (64 * ons.length))[(frs l n i).length]? with
    | none =>
      rw [hx] at he
      have : (-1 : Int) = i := he
      omega
    | some y =>
      rw [hx] at he
      have hm := List.mem_of_getElem? hx
      obtain ⟨j, _, hf, rfl⟩ := mem_frs.1 hm
      have : (j : Int) = i := he
      have hji : j = i := by omega
      have := (free_iff.1 hf).2
      rw [hji, o2] at this
      cases this
  · rcases ans_mem (l := ons) (n := n) (s := (i : Int)) with ⟨h, h'⟩ | h
    · left
      refine ⟨h', ?_⟩
      rw [hN2] at h
      rw [h] at hc
      simp at hc
      omega
    · right
      obtain ⟨j, hj, hf, he⟩ := mem_frs.1 h
      have := free_iff.1 hf
      refine ⟨j, he, this.1, this.2, ?_⟩
      have hpos : 0 < (frs ons n (64 * l.length)).length := by
        rw [hN2] at h
        exact List.length_pos_of_mem h
      omega
  · omega
end Go.Proofs.Ytleooacadfhelaa.BsP
