/- What the laws' helpers on lists of integers come to: plain facts. -/
import Derived.Test.YtklobepkihdbkaaWpG
import Derived.Lib.Hide
namespace Go.Proofs.Ytklobepkihdbkaa.InS
open Go.RowKit Go.Proofs.Ytklobepkihdbkaa.PFnExactWaitPush Go.Proofs.YtklobepkihdbkaaW.PrintWords Go.Proofs.YtklobepkihdbkaaW.PrintLast Go.Proofs.YtklobepkihdbkaaW.PrintMore WpG
set_option linter.unusedVariables false
set_option linter.unusedSimpArgs false
theorem set_getDI (xs : List Int) (i j : Nat) (v : Int) (hi : i < xs.length) : (xs.set i v).getD j 0 = if i = j then v else xs.getD j 0 := by
  simp only [List.getD_eq_getElem?_getD, List.getElem?_set]
  by_cases h : i = j
  · subst h
    simp [hi]
  · simp [h]
theorem ext_getD {xs ys : List Int} (hl : xs.length = ys.length) (h : ∀ j : Nat, j < ys.length → xs.getD j 0 = ys.getD j 0) : xs = ys := by
  apply List.ext_getElem hl
  intro j h1 h2
  have := h j h2
  simp only [List.getD_eq_getElem?_getD, List.getElem?_eq_getElem h1, List.getElem?_eq_getElem h2, Option.getD_some] at this
  exact this
theorem to_go (l : List Int) (hn : l.length ≤ 1048576) : ∀ (d k i : Nat) (xs : List Int), l.length - i = d → i ≤ l.length → d < k → xs.length = l.length → (∀ j : Nat, j < i → xs.getD j 0 = l.getD j 0) → laws_toIntS.l0 k l xs i = some l := by
  intro d
  induction d with
  | zero =>
    intro k i xs hd hi hk hx hb
    obtain ⟨k, rfl⟩ : ∃ m, k = m + 1 := ⟨k - 1, by omega⟩
    rw [laws_toIntS.l0, if_neg (by omega), ext_getD hx (fun j hj => hb j (by omega))]
  | succ d ih =>
    intro k i xs hd hi hk hx hb
    obtain ⟨k, rfl⟩ : ∃ m, k = m + 1 := ⟨k - 1, by omega⟩
    have e3 : Hid (wrap64 ((i : Int) + 1) = (i : Int) + 1) := w64 (by omega) (by omega)
    have e5 : (i : Int) + 1 = ((i + 1 : Nat) : Int) := by omega
    rw [laws_toIntS.l0, if_pos (by omega), if_pos (by omega), if_pos (by omega), e3.out, e5]
    refine ih k (i + 1) _ (by omega) (by omega) (by omega) (by simpa using hx) (fun j hj => ?_)
    rw [set_getDI _ _ _ _ (by omega)]
    by_cases e : (i : Int).toNat = j
    · rw [if_pos e]
      unfold rd
      rw [e]
    · rw [if_neg e]
      exact hb j (by omega)
theorem to_is (l : List Int) (hn : l.length ≤ 1048576) (k : Nat) (hk : l.length < k) : laws_toIntS.f k l = some l := by
  unfold laws_toIntS.f
  rw [if_pos (by omega), if_pos (by omega)]
  exact to_go l hn l.length k 0 _ (by omega) (by omega) hk (by simp) (fun j hj => by omega)
theorem eq_go (l : List Int) (hn : l.length ≤ 1048576) : ∀ (d k i : Nat), l.length - i = d → i ≤ l.length → d < k → laws_eqIntS.l0 k l l i = some true := by
  intro d
  induction d with
  | zero =>
    intro k i hd hi hk
    obtain ⟨k, rfl⟩ : ∃ m, k = m + 1 := ⟨k - 1, by omega⟩
    rw [laws_eqIntS.l0, if_neg (by omega)]
  | succ d ih =>
    intro k i hd hi hk
    obtain ⟨k, rfl⟩ : ∃ m, k = m + 1 := ⟨k - 1, by omega⟩
    have e3 : Hid (wrap64 ((i : Int) + 1) = (i : Int) + 1) := w64 (by omega) (by omega)
    have e5 : (i : Int) + 1 = ((i + 1 : Nat) : Int) := by omega
    rw [laws_eqIntS.l0, if_pos (by omega), if_pos (by omega), if_pos (by omega), if_pos rfl, e3.out, e5]
    exact ih k (i + 1) (by omega) (by omega) (by omega)
theorem eq_is (l : List Int) (hn : l.length ≤ 1048576) (k : Nat) (hk : l.length < k) : laws_eqIntS.f k l l = some true := by
  unfold laws_eqIntS.f
  rw [if_pos rfl]
  exact eq_go l hn l.length k 0 (by omega) (by omega) hk
def marks (m : Nat) (n : Nat) : List Int := (List.range n).map (fun j => ((m + j : Nat) : Int))
theorem marks_len (m n : Nat) : (marks m n).length = n := by simp [marks]
theorem marks_getD {m n j : Nat} (hj : j < n) : (marks m n).getD j 0 = ((m + j : Nat) : Int) := by
  simp [marks, List.getD_eq_getElem?_getD, hj]
theorem mark_go (n m : Nat) (hn : n ≤ 1048576) (hm : m ≤ 2097152) : ∀ (d k i : Nat) (xs : List Int), n - i = d → i ≤ n → d < k → xs.length = n → (∀ j : Nat, j < i → xs.getD j 0 = ((m + j : Nat) : Int)) → laws_markIntS.l0 k xs ((m + i : Nat) : Int) i = some (((m + n : Nat) : Int), marks m n) := by
  intro d
  induction d with
  | zero =>
    intro k i xs hd hi hk hx hb
    obtain ⟨k, rfl⟩ : ∃ m, k = m + 1 := ⟨k - 1, by omega⟩
    obtain rfl : i = n := by omega
    rw [laws_markIntS.l0, if_neg (by omega), ext_getD (xs := xs) (ys := marks m i) (by rw [marks_len, hx]) (fun j hj => by rw [marks_len] at hj; rw [hb j hj, marks_getD hj])]
  | succ d ih =>
    intro k i xs hd hi hk hx hb
    obtain ⟨k, rfl⟩ : ∃ m, k = m + 1 := ⟨k - 1, by omega⟩
    have e1 : Hid (wrap64 ((i : Int) + 1) = (i : Int) + 1) := w64 (by omega) (by omega)
    have e2 : Hid (wrap64 (((m + i : Nat) : Int) + 1) = ((m + i : Nat) : Int) + 1) := w64 (by omega) (by omega)
    have e5 : (i : Int) + 1 = ((i + 1 : Nat) : Int) := by omega
    have e6 : ((m + i : Nat) : Int) + 1 = ((m + (i + 1) : Nat) : Int) := by omega
    rw [laws_markIntS.l0, if_pos (by omega), if_pos (by omega), e1.out, e2.out, e5, e6]
    refine ih k (i + 1) _ (by omega) (by omega) (by omega) (by simpa using hx) (fun j hj => ?_)
    rw [set_getDI _ _ _ _ (by omega)]
    by_cases e : (i : Int).toNat = j
    · rw [if_pos e, ← e, Int.toNat_natCast]
    · rw [if_neg e]
      exact hb j (by omega)
theorem mark_is (l : List Int) (hn : l.length ≤ 1048576) (m : Nat) (hm : m ≤ 2097152) (k : Nat) (hk : l.length < k) : laws_markIntS.f k l (m : Int) = some (((m + l.length : Nat) : Int), marks m l.length) :=
  mark_go l.length m hn hm l.length k 0 l (by omega) (by omega) hk rfl (fun j hj => by omega)
theorem held_go (n m : Nat) (hn : n ≤ 1048576) (hm : m ≤ 2097152) : ∀ (d k i : Nat), n - i = d → i ≤ n → d < k → laws_heldIntS.l0 k (marks m n) ((m + i : Nat) : Int) i = some ((m + n : Nat) : Int) := by
  intro d
  induction d with
  | zero =>
    intro k i hd hi hk
    obtain ⟨k, rfl⟩ : ∃ m, k = m + 1 := ⟨k - 1, by omega⟩
    obtain rfl : i = n := by omega
    rw [laws_heldIntS.l0, if_neg (by rw [marks_len]; omega)]
  | succ d ih =>
    intro k i hd hi hk
    obtain ⟨k, rfl⟩ : ∃ m, k = m + 1 := ⟨k - 1, by omega⟩
    have e1 : Hid (wrap64 ((i : Int) + 1) = (i : Int) + 1) := w64 (by omega) (by omega)
    have e2 : Hid (wrap64 (((m + i : Nat) : Int) + 1) = ((m + i : Nat) : Int) + 1) := w64 (by omega) (by omega)
    have e5 : (i : Int) + 1 = ((i + 1 : Nat) : Int) := by omega
    have e6 : ((m + i : Nat) : Int) + 1 = ((m + (i + 1) : Nat) : Int) := by omega
    have er : rd (marks m n) (i : Int) = ((m + i : Nat) : Int) := by
      unfold rd
      rw [Int.toNat_natCast, marks_getD (by omega)]
    rw [laws_heldIntS.l0, if_pos (by rw [marks_len]; omega), if_pos (by omega), er, if_pos rfl, e1.out, e2.out, e5, e6]
    exact ih k (i + 1) (by omega) (by omega) (by omega)
theorem held_is (n : Nat) (hn : n ≤ 1048576) (m : Nat) (hm : m ≤ 2097152) (k : Nat) (hk : n < k) : laws_heldIntS.f k (marks m n) (m : Int) = some ((m + n : Nat) : Int) :=
  held_go n m hn hm n k 0 (by omega) (by omega) hk
end Go.Proofs.Ytklobepkihdbkaa.InS
