/- The reader of drawn bytes: what a call of next leaves. Bytes, at most 2^20 of them. -/
import Derived.Test.YtklobepkihdbkaaPFnWaitsx
import Derived.WalkKit
import Derived.WalkLawsBesides
import Derived.WalkSpells
import Derived.Lib.Hide
namespace Go.Proofs.Ytklobepkihdbkaa.RdW
open Go.RowKit Go.Proofs.Ytklobepkihdbkaa.PFnWaits Go.Proofs.YtklobepkihdbkaaW.PrintWords Go.Proofs.YtklobepkihdbkaaW.PrintLast
set_option linter.unusedVariables false
set_option linter.unusedSimpArgs false
def Bytes (l : List Int) : Prop := ∀ x ∈ l, 0 ≤ x ∧ x ≤ 255
def IsRd (w0 w : World) (g : Nat) (s : List Int) : Prop := ∃ i, (0 ≤ i ∧ i ≤ (s.length : Int)) ∧ IsS80 w0 w g s i
theorem IsRd.below {w0 W W1 : World} {g : Nat} {s : List Int} (h : IsRd w0 W g s) (hw : Below W.heap.size W W1) : IsRd w0 W1 g s := by
  obtain ⟨i, hi, h⟩ := h
  exact ⟨i, hi, h.below hw⟩
theorem IsRd.grown {w0 W W1 : World} {g : Nat} {s : List Int} (h : IsRd w0 W g s) {row : Option Nat} (hw : W.grownBy W1 row) (hne : some g ≠ row) : IsRd w0 W1 g s := by
  obtain ⟨i, hi, h⟩ := h
  exact ⟨i, hi, h.grown hw hne⟩
theorem IsRd.ge {w0 W : World} {g : Nat} {s : List Int} (h : IsRd w0 W g s) : w0.heap.size ≤ g := by
  obtain ⟨i, hi, h⟩ := h
  exact h.ge
theorem IsRd.lt {w0 W : World} {g : Nat} {s : List Int} (h : IsRd w0 W g s) : g < W.heap.size := by
  obtain ⟨i, hi, A, c, h, _⟩ := h
  exact blk_lt h
theorem IsRd.drew {w0 W : World} {g : Nat} {s : List Int} (h : IsRd w0 W g s) : IsRd w0 W.drew g s := h
theorem IsRd.drewN {w0 W : World} {g : Nat} {s : List Int} (h : IsRd w0 W g s) (n : Nat) : IsRd w0 (W.drewN n) g s := h
def nx (s : List Int) (i : Int) : Int := if i < (s.length : Int) then rd s i else 0
def adv (s : List Int) (i : Int) : Int := if i < (s.length : Int) then i + 1 else i
theorem nx_range {s : List Int} (hs : Bytes s) {i : Int} (h0 : 0 ≤ i) : 0 ≤ nx s i ∧ nx s i ≤ 255 := by
  unfold nx
  by_cases hi : i < (s.length : Int)
  · rw [if_pos hi]
    exact hs (rd s i) (by
      unfold rd
      rw [List.getD_eq_getElem?_getD, List.getElem?_eq_getElem (by omega)]
      exact List.getElem_mem _)
  · rw [if_neg hi]
    omega
theorem adv_range {s : List Int} {i : Int} (h : 0 ≤ i ∧ i ≤ (s.length : Int)) : 0 ≤ adv s i ∧ adv s i ≤ (s.length : Int) := by
  unfold adv
  split <;> omega
theorem next_f {s : List Int} (hs : Bytes s) (hl : s.length ≤ 1048576) {i : Int} (h0 : 0 ≤ i) : spec_l1Reader_next.f s i = some (nx s i, adv s i) := by
  have hr := nx_range hs h0
  unfold spec_l1Reader_next.f
  unfold nx at hr ⊢
  unfold adv
  by_cases hi : i < (s.length : Int)
  · rw [if_pos hi] at hr
    have e1 : wrap64 (rd s i) = rd s i := by unfold wrap64; omega
    have e2 : wrap64 (i + 1) = i + 1 := by unfold wrap64; omega
    rw [if_neg (by omega), if_pos h0, if_pos hi, if_pos hi, if_pos hi, e1, e2]
  · rw [if_pos (by omega), if_neg hi, if_neg hi]
theorem next_at {w0 w : World} {g : Nat} {s : List Int} {i r : Int} (hs : Bytes s) (hl : s.length ≤ 1048576) (h0 : 0 ≤ i) (hr : nx s i = r) (hI : IsS80 w0 w g s i) (hB : Below w0.heap.size w0 w) :
    Calls Try.prog 40 #[.pointer (some ⟨g, 0, none⟩)] w fun e w' => e = .returned (.int .i64 r) ∧ IsS80 w0 w' g s (adv s i) ∧ Below w0.heap.size w0 w' ∧ KeepBut w w' g none := by
  subst hr
  exact spec_l1Reader_next.calls g s i _ _ w0 w hI hB (next_f hs hl h0)
theorem next_any {w0 w : World} {g : Nat} {s : List Int} (hs : Bytes s) (hl : s.length ≤ 1048576) (hI : IsRd w0 w g s) (hB : Below w0.heap.size w0 w) :
    Calls Try.prog 40 #[.pointer (some ⟨g, 0, none⟩)] w fun e w' => ∃ r : Int, e = .returned (.int .i64 r) ∧ (0 ≤ r ∧ r ≤ 255) ∧ IsRd w0 w' g s ∧ Below w0.heap.size w0 w' ∧ KeepBut w w' g none := by
  obtain ⟨i, hi, hI⟩ := hI
  exact (next_at hs hl hi.1 rfl hI hB).mono fun e w' ⟨he, h2, h3, h4⟩ => ⟨_, he, nx_range hs hi.1, ⟨_, adv_range hi, h2⟩, h3, h4⟩
end Go.Proofs.Ytklobepkihdbkaa.RdW
