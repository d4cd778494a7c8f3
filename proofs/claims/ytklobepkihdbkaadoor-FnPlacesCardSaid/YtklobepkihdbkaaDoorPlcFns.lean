/- The plain functions of places: numbers alone. -/
import Derived.Test.YtklobepkihdbkaaDoorClsFns
namespace Go.Proofs.YtklobepkihdbkaaDoor.Plc
open Cls
set_option linter.unusedVariables false
/-- A slab's first page. -/
def first (c s : Int) : Int := rstart c + s * (pages c + 1)
def addr (c s j : Int) : Int := first c s * 1024 + j * sz c
def Slot (c s j : Int) : Prop := 0 ≤ c ∧ c < 12 ∧ 0 ≤ s ∧ s < 6 ∧ 0 ≤ j ∧ j < slots c
instance (c s j : Int) : Decidable (Slot c s j) := by unfold Slot; infer_instance
/-- Page p lies in slab s of class c (its guard behind it counts). -/
def InSlab (p c s : Int) : Prop := 0 ≤ c ∧ c < 12 ∧ 0 ≤ s ∧ s < 6 ∧ first c s ≤ p ∧ p ≤ first c s + pages c
instance (p c s : Int) : Decidable (InSlab p c s) := by unfold InSlab; infer_instance
theorem rstart_vals : rstart 0 = 1 ∧ rstart 1 = 13 ∧ rstart 2 = 25 ∧ rstart 3 = 37 ∧ rstart 4 = 49 ∧ rstart 5 = 61 ∧ rstart 6 = 73 ∧ rstart 7 = 85 ∧ rstart 8 = 97 ∧ rstart 9 = 115 ∧ rstart 10 = 133 ∧ rstart 11 = 157 := by decide
theorem pages_vals : pages 0 = 1 ∧ pages 1 = 1 ∧ pages 2 = 1 ∧ pages 3 = 1 ∧ pages 4 = 1 ∧ pages 5 = 1 ∧ pages 6 = 1 ∧ pages 7 = 1 ∧ pages 8 = 2 ∧ pages 9 = 2 ∧ pages 10 = 3 ∧ pages 11 = 4 := by decide
theorem sz_vals : sz 0 = 16 ∧ sz 1 = 32 ∧ sz 2 = 48 ∧ sz 3 = 64 ∧ sz 4 = 96 ∧ sz 5 = 128 ∧ sz 6 = 192 ∧ sz 7 = 256 ∧ sz 8 = 384 ∧ sz 9 = 512 ∧ sz 10 = 768 ∧ sz 11 = 1024 := by decide
theorem slots_vals : slots 0 = 64 ∧ slots 1 = 32 ∧ slots 2 = 21 ∧ slots 3 = 16 ∧ slots 4 = 10 ∧ slots 5 = 8 ∧ slots 6 = 5 ∧ slots 7 = 4 ∧ slots 8 = 5 ∧ slots 9 = 4 ∧ slots 10 = 4 ∧ slots 11 = 4 := by decide
theorem rpages_vals : rpages 0 = 12 ∧ rpages 1 = 12 ∧ rpages 2 = 12 ∧ rpages 3 = 12 ∧ rpages 4 = 12 ∧ rpages 5 = 12 ∧ rpages 6 = 12 ∧ rpages 7 = 12 ∧ rpages 8 = 18 ∧ rpages 9 = 18 ∧ rpages 10 = 24 ∧ rpages 11 = 30 := by decide
/-- All of a class's numbers, class by class. -/
theorem vals {c : Int} (h0 : 0 ≤ c) (h1 : c < 12) :
    (c = 0 ∧ rstart c = 1 ∧ pages c = 1 ∧ sz c = 16 ∧ slots c = 64 ∧ rpages c = 12) ∨ (c = 1 ∧ rstart c = 13 ∧ pages c = 1 ∧ sz c = 32 ∧ slots c = 32 ∧ rpages c = 12) ∨
    (c = 2 ∧ rstart c = 25 ∧ pages c = 1 ∧ sz c = 48 ∧ slots c = 21 ∧ rpages c = 12) ∨ (c = 3 ∧ rstart c = 37 ∧ pages c = 1 ∧ sz c = 64 ∧ slots c = 16 ∧ rpages c = 12) ∨
    (c = 4 ∧ rstart c = 49 ∧ pages c = 1 ∧ sz c = 96 ∧ slots c = 10 ∧ rpages c = 12) ∨ (c = 5 ∧ rstart c = 61 ∧ pages c = 1 ∧ sz c = 128 ∧ slots c = 8 ∧ rpages c = 12) ∨
    (c = 6 ∧ rstart c = 73 ∧ pages c = 1 ∧ sz c = 192 ∧ slots c = 5 ∧ rpages c = 12) ∨ (c = 7 ∧ rstart c = 85 ∧ pages c = 1 ∧ sz c = 256 ∧ slots c = 4 ∧ rpages c = 12) ∨
    (c = 8 ∧ rstart c = 97 ∧ pages c = 2 ∧ sz c = 384 ∧ slots c = 5 ∧ rpages c = 18) ∨ (c = 9 ∧ rstart c = 115 ∧ pages c = 2 ∧ sz c = 512 ∧ slots c = 4 ∧ rpages c = 18) ∨
    (c = 10 ∧ rstart c = 133 ∧ pages c = 3 ∧ sz c = 768 ∧ slots c = 4 ∧ rpages c = 24) ∨ (c = 11 ∧ rstart c = 157 ∧ pages c = 4 ∧ sz c = 1024 ∧ slots c = 4 ∧ rpages c = 30) := by
  rcases in12 h0 h1 with rfl | rfl | rfl | rfl | rfl | rfl | rfl | rfl | rfl | rfl | rfl | rfl <;>
    (repeat first | exact ⟨rfl, by decide, by decide, by decide, by decide, by decide⟩ | exact Or.inl ⟨rfl, by decide, by decide, by decide, by decide, by decide⟩ | apply Or.inr)
theorem first_bd {c s : Int} (h0 : 0 ≤ c) (h1 : c < 12) (h2 : 0 ≤ s) (h3 : s < 6) : 1 ≤ first c s ∧ first c s + pages c ≤ 186 ∧ 0 ≤ s * (pages c + 1) ∧ s * (pages c + 1) ≤ 25 := by
  unfold first
  rcases vals h0 h1 with ⟨rfl, a, b, _⟩ | ⟨rfl, a, b, _⟩ | ⟨rfl, a, b, _⟩ | ⟨rfl, a, b, _⟩ | ⟨rfl, a, b, _⟩ | ⟨rfl, a, b, _⟩ | ⟨rfl, a, b, _⟩ | ⟨rfl, a, b, _⟩ | ⟨rfl, a, b, _⟩ | ⟨rfl, a, b, _⟩ | ⟨rfl, a, b, _⟩ | ⟨rfl, a, b, _⟩ <;> (rw [a, b]; omega)
theorem slot_bd {c s j : Int} (h : Slot c s j) : 0 ≤ j * sz c ∧ j * sz c + sz c ≤ pages c * 1024 ∧ j * sz c ≤ 4096 := by
  obtain ⟨h0, h1, _, _, h4, h5⟩ := h
  rcases vals h0 h1 with ⟨rfl, _, b, d, e, _⟩ | ⟨rfl, _, b, d, e, _⟩ | ⟨rfl, _, b, d, e, _⟩ | ⟨rfl, _, b, d, e, _⟩ | ⟨rfl, _, b, d, e, _⟩ | ⟨rfl, _, b, d, e, _⟩ | ⟨rfl, _, b, d, e, _⟩ | ⟨rfl, _, b, d, e, _⟩ | ⟨rfl, _, b, d, e, _⟩ | ⟨rfl, _, b, d, e, _⟩ | ⟨rfl, _, b, d, e, _⟩ | ⟨rfl, _, b, d, e, _⟩ <;>
    (rw [e] at h5; rw [b, d]; omega)
theorem addr_bd {c s j : Int} (h : Slot c s j) : 1024 ≤ addr c s j ∧ addr c s j + sz c ≤ 187 * 1024 := by
  have h1 := first_bd h.1 h.2.1 h.2.2.1 h.2.2.2.1
  have h2 := slot_bd h
  unfold addr
  omega
theorem loc_one {p c s c' s' : Int} (h : InSlab p c s) (h' : InSlab p c' s') : c = c' ∧ s = s' := by
  obtain ⟨a0, a1, a2, a3, a4, a5⟩ := h
  obtain ⟨b0, b1, b2, b3, b4, b5⟩ := h'
  unfold first at *
  have key : ∀ c s : Int, 0 ≤ c → c < 12 → 0 ≤ s → s < 6 → rstart c ≤ rstart c + s * (pages c + 1) ∧ rstart c + s * (pages c + 1) + pages c < rstart c + rpages c := by
    intro c s h0 h1 h2 h3
    rcases vals h0 h1 with ⟨rfl, a, b, _, _, f⟩ | ⟨rfl, a, b, _, _, f⟩ | ⟨rfl, a, b, _, _, f⟩ | ⟨rfl, a, b, _, _, f⟩ | ⟨rfl, a, b, _, _, f⟩ | ⟨rfl, a, b, _, _, f⟩ | ⟨rfl, a, b, _, _, f⟩ | ⟨rfl, a, b, _, _, f⟩ | ⟨rfl, a, b, _, _, f⟩ | ⟨rfl, a, b, _, _, f⟩ | ⟨rfl, a, b, _, _, f⟩ | ⟨rfl, a, b, _, _, f⟩ <;>
      (rw [b, f]; omega)
  have k1 := key c s a0 a1 a2 a3
  have k2 := key c' s' b0 b1 b2 b3
  have mono : ∀ c c' : Int, 0 ≤ c → c < c' → c' < 12 → rstart c + rpages c ≤ rstart c' := by
    intro c c' h0 h1 h2
    rcases vals h0 (by omega) with ⟨rfl, a, b, _, _, f⟩ | ⟨rfl, a, b, _, _, f⟩ | ⟨rfl, a, b, _, _, f⟩ | ⟨rfl, a, b, _, _, f⟩ | ⟨rfl, a, b, _, _, f⟩ | ⟨rfl, a, b, _, _, f⟩ | ⟨rfl, a, b, _, _, f⟩ | ⟨rfl, a, b, _, _, f⟩ | ⟨rfl, a, b, _, _, f⟩ | ⟨rfl, a, b, _, _, f⟩ | ⟨rfl, a, b, _, _, f⟩ | ⟨rfl, a, b, _, _, f⟩ <;>
    rcases vals (show 0 ≤ c' by omega) h2 with ⟨e, a', _⟩ | ⟨e, a', _⟩ | ⟨e, a', _⟩ | ⟨e, a', _⟩ | ⟨e, a', _⟩ | ⟨e, a', _⟩ | ⟨e, a', _⟩ | ⟨e, a', _⟩ | ⟨e, a', _⟩ | ⟨e, a', _⟩ | ⟨e, a', _⟩ | ⟨e, a', _⟩ <;> omega
  have hc : c = c' := by
    by_cases h1 : c < c'
    · have := mono c c' a0 h1 b1
      omega
    · by_cases h2 : c' < c
      · have := mono c' c b0 h2 a1
        omega
      · omega
  subst hc
  clear k1 k2
  refine ⟨rfl, ?_⟩
  rcases vals a0 a1 with ⟨rfl, a, b, _⟩ | ⟨rfl, a, b, _⟩ | ⟨rfl, a, b, _⟩ | ⟨rfl, a, b, _⟩ | ⟨rfl, a, b, _⟩ | ⟨rfl, a, b, _⟩ | ⟨rfl, a, b, _⟩ | ⟨rfl, a, b, _⟩ | ⟨rfl, a, b, _⟩ | ⟨rfl, a, b, _⟩ | ⟨rfl, a, b, _⟩ | ⟨rfl, a, b, _⟩ <;>
    (rw [a, b] at a4 a5 b4 b5; omega)
/-- The class of a page, as the program finds it: the first whose region ends behind it. -/
def clsFrom (p : Int) : Nat → Nat → Int
  | 0, c => c
  | k + 1, c => if rstart c + rpages c ≤ p then clsFrom p k (c + 1) else c
def clsAt (p : Int) : Int := clsFrom p 11 0
theorem loc_at {p : Int} (h1 : 1 ≤ p) (h2 : p < 187) : 0 ≤ clsAt p ∧ clsAt p < 12 ∧ rstart (clsAt p) ≤ p ∧ p < rstart (clsAt p) + rpages (clsAt p) ∧ InSlab p (clsAt p) ((p - rstart (clsAt p)) / (pages (clsAt p) + 1)) := by
  have h : ∀ n : Nat, n < 187 → 1 ≤ n → 0 ≤ clsAt n ∧ clsAt n < 12 ∧ rstart (clsAt n) ≤ (n : Int) ∧ (n : Int) < rstart (clsAt n) + rpages (clsAt n) ∧ InSlab n (clsAt n) (((n : Int) - rstart (clsAt n)) / (pages (clsAt n) + 1)) := by decide +kernel
  obtain ⟨n, rfl⟩ := Int.eq_ofNat_of_zero_le (show 0 ≤ p by omega)
  exact h n (by omega) (by omega)
theorem clsFrom_step {p : Int} {k : Nat} (hk : k < 11) (h : rstart k + rpages k ≤ p) : clsFrom p (11 - k) k = clsFrom p (11 - (k + 1)) (k + 1) := by
  rw [show 11 - k = (11 - (k + 1)) + 1 by omega, clsFrom, if_pos h]
theorem clsFrom_stop {p : Int} {k m : Nat} (h : ¬ rstart k + rpages k ≤ p) : clsFrom p m k = k := by
  cases m with
  | zero => rfl
  | succ m => rw [clsFrom, if_neg h]
def cAt (a : Int) : Int := clsAt (a / 1024)
def sAt (a : Int) : Int := (a - rstart (cAt a) * 1024) / ((pages (cAt a) + 1) * 1024)
def oAt (a : Int) : Int := (a - rstart (cAt a) * 1024) % ((pages (cAt a) + 1) * 1024)
/-- What an address lies in: kind, class, slab, slot, page, offset. -/
structure Plce where
  k : Int
  c : Int
  s : Int
  j : Int
  p : Int
  o : Int
def decS (a : Int) : Plce :=
  if pages (cAt a) * 1024 ≤ oAt a then ⟨1, cAt a, sAt a, 0, 0, 0⟩
  else if slots (cAt a) * sz (cAt a) ≤ oAt a then ⟨2, cAt a, sAt a, 0, 0, oAt a - slots (cAt a) * sz (cAt a)⟩
  else ⟨3, cAt a, sAt a, oAt a / sz (cAt a), 0, oAt a % sz (cAt a)⟩
def dec (a : Int) : Plce :=
  if 283 ≤ a / 1024 then ⟨0, 0, 0, 0, 0, 0⟩ else if 187 ≤ a / 1024 then ⟨4, 0, 0, 0, a / 1024 - 187, a % 1024⟩ else if a < 1024 then ⟨1, 0, 0, 0, 0, 0⟩ else decS a
theorem at_loc {a : Int} (h1 : 1 ≤ a / 1024) (h2 : a / 1024 < 187) : InSlab (a / 1024) (cAt a) (sAt a) ∧ oAt a = a - first (cAt a) (sAt a) * 1024 ∧ 0 ≤ oAt a ∧ oAt a < (pages (cAt a) + 1) * 1024 := by
  obtain ⟨h3, h4, h5, h6, h7⟩ := loc_at h1 h2
  have hc : cAt a = clsAt (a / 1024) := rfl
  rw [← hc] at h3 h4 h5 h6 h7
  have hs : sAt a = (a / 1024 - rstart (cAt a)) / (pages (cAt a) + 1) := by
    unfold sAt
    rcases vals h3 h4 with ⟨_, x, y, _⟩ | ⟨_, x, y, _⟩ | ⟨_, x, y, _⟩ | ⟨_, x, y, _⟩ | ⟨_, x, y, _⟩ | ⟨_, x, y, _⟩ | ⟨_, x, y, _⟩ | ⟨_, x, y, _⟩ | ⟨_, x, y, _⟩ | ⟨_, x, y, _⟩ | ⟨_, x, y, _⟩ | ⟨_, x, y, _⟩ <;> (rw [x, y]; omega)
  have hp := (pages_bd (cAt a)).1
  refine ⟨by rw [hs]; exact h7, ?_, Int.emod_nonneg _ (by omega), Int.emod_lt_of_pos _ (by omega)⟩
  unfold oAt first sAt
  have := Int.emod_add_mul_ediv (a - rstart (cAt a) * 1024) ((pages (cAt a) + 1) * 1024)
  have e : (rstart (cAt a) + (a - rstart (cAt a) * 1024) / ((pages (cAt a) + 1) * 1024) * (pages (cAt a) + 1)) * 1024 = rstart (cAt a) * 1024 + (pages (cAt a) + 1) * 1024 * ((a - rstart (cAt a) * 1024) / ((pages (cAt a) + 1) * 1024)) := by
    rw [Int.add_mul, Int.mul_assoc, Int.mul_comm ((a - rstart (cAt a) * 1024) / ((pages (cAt a) + 1) * 1024))]
  rw [e]
  omega
end Go.Proofs.YtklobepkihdbkaaDoor.Plc
