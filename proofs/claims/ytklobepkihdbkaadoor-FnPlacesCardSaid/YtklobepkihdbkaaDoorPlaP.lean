/- Where an address lies: the cases of 'dec', numbers alone. -/
import Derived.Test.YtklobepkihdbkaaDoorPlcFns
namespace Go.Proofs.YtklobepkihdbkaaDoor.PlaP
open Cls Plc
set_option linter.unusedVariables false
theorem fit {c s j : Int} (h : Slot c s j) : j * sz c + sz c ≤ slots c * sz c := by
  have hp := (sz_pos h.1 h.2.1).1
  have : (j + 1) * sz c ≤ slots c * sz c := Int.mul_le_mul_of_nonneg_right (by have := h.2.2.2.2.2; omega) (by omega)
  rw [Int.add_mul, Int.one_mul] at this
  exact this
theorem dec_mid {x : Int} (h1 : 1 ≤ x / 1024) (h2 : x / 1024 < 187) : dec x = decS x := by
  unfold dec
  rw [if_neg (by omega), if_neg (by omega), if_neg (by omega)]
theorem dec_slot {c s j o : Int} (h : Slot c s j) (h0 : 0 ≤ o) (h1 : o < sz c) : dec (addr c s j + o) = ⟨3, c, s, j, 0, o⟩ := by
  have hb := addr_bd h
  have hs := slot_bd h
  have hf := fit h
  have hp := (sz_pos h.1 h.2.1).1
  have hfb := first_bd h.1 h.2.1 h.2.2.1 h.2.2.2.1
  have e : addr c s j = first c s * 1024 + j * sz c := rfl
  have q1 : 1 ≤ (addr c s j + o) / 1024 := by omega
  have q2 : (addr c s j + o) / 1024 < 187 := by omega
  obtain ⟨hl, ho, ho0, ho1⟩ := at_loc q1 q2
  have hl' : InSlab ((addr c s j + o) / 1024) c s := ⟨h.1, h.2.1, h.2.2.1, h.2.2.2.1, by omega, by omega⟩
  obtain ⟨ec, es⟩ := loc_one hl hl'
  rw [ec, es] at ho
  rw [dec_mid q1 q2]
  unfold decS
  rw [ec, es, ho]
  have eo : addr c s j + o - first c s * 1024 = o + j * sz c := by omega
  rw [eo, if_neg (by omega), if_neg (by omega), Int.add_mul_ediv_right _ _ (by omega), Int.add_mul_emod_self_right, Int.ediv_eq_zero_of_lt h0 h1, Int.emod_eq_of_lt h0 h1, Int.zero_add]
inductive At (x : Int) : Prop
  | out (e : dec x = ⟨0, 0, 0, 0, 0, 0⟩) (h : 289792 ≤ x)
  | large (e : dec x = ⟨4, 0, 0, 0, x / 1024 - 187, x % 1024⟩) (h : 187 ≤ x / 1024) (h' : x / 1024 < 283)
  | zero (e : dec x = ⟨1, 0, 0, 0, 0, 0⟩) (h : x < 1024)
  | guard (c s : Int) (hs : Slot c s 0) (e : dec x = ⟨1, c, s, 0, 0, 0⟩) (h : x / 1024 = rstart c + (s + 1) * (pages c + 1) - 1) (h' : 1 ≤ x / 1024)
  | tail (c s o : Int) (hs : Slot c s 0) (e : dec x = ⟨2, c, s, 0, 0, o⟩) (h0 : 0 ≤ o) (h1 : o ≤ 4096) (h : x = addr c s 0 + (slots c * sz c + o)) (h' : x / 1024 < rstart c + (s + 1) * (pages c + 1) - 1)
  | slot (c s j o : Int) (hs : Slot c s j) (e : dec x = ⟨3, c, s, j, 0, o⟩) (h0 : 0 ≤ o) (h1 : o < sz c) (h : x = addr c s j + o)
theorem at_of {x : Int} (h0 : 0 ≤ x) : At x := by
  by_cases g1 : 283 ≤ x / 1024
  · exact .out (by unfold dec; rw [if_pos g1]) (by omega)
  by_cases g2 : 187 ≤ x / 1024
  · exact .large (by unfold dec; rw [if_neg g1, if_pos g2]) g2 (by omega)
  by_cases g3 : x < 1024
  · exact .zero (by unfold dec; rw [if_neg g1, if_neg g2, if_pos g3]) g3
  have q1 : 1 ≤ x / 1024 := by omega
  have q2 : x / 1024 < 187 := by omega
  obtain ⟨hl, ho, ho0, ho1⟩ := at_loc q1 q2
  have e := dec_mid q1 q2
  unfold decS at e
  revert e hl ho ho0 ho1
  generalize cAt x = c
  generalize sAt x = s
  generalize oAt x = o
  intro hl ho ho0 ho1 e
  obtain ⟨a0, a1, a2, a3, a4, a5⟩ := hl
  have hp := sz_pos a0 a1
  have hn := slots_pos a0 a1
  have hpb := pages_bd c
  have hfit := slots_fit c
  have hS : Slot c s 0 := ⟨a0, a1, a2, a3, by omega, by omega⟩
  have hr : rstart c + (s + 1) * (pages c + 1) - 1 = first c s + pages c := by
    unfold first
    rw [Int.add_mul]
    omega
  by_cases c1 : pages c * 1024 ≤ o
  · rw [if_pos c1] at e
    exact .guard c s hS e (by rw [hr]; omega) q1
  · rw [if_neg c1] at e
    have hz : addr c s 0 = first c s * 1024 := by unfold addr; omega
    by_cases c2 : slots c * sz c ≤ o
    · rw [if_pos c2] at e
      have hnn : 0 ≤ slots c * sz c := Int.mul_nonneg (by omega) (by omega)
      exact .tail c s (o - slots c * sz c) hS e (by omega) (by omega) (by rw [hz]; omega) (by rw [hr]; omega)
    · rw [if_neg c2] at e
      have hd := Int.emod_add_mul_ediv o (sz c)
      have hj0 : 0 ≤ o / sz c := Int.ediv_nonneg ho0 (by omega)
      have hj1 : o / sz c < slots c := Int.ediv_lt_of_lt_mul (by omega) (by omega)
      refine .slot c s (o / sz c) (o % sz c) ⟨a0, a1, a2, a3, hj0, hj1⟩ e (Int.emod_nonneg _ (by omega)) (Int.emod_lt_of_pos _ (by omega)) ?_
      unfold addr
      rw [Int.mul_comm (o / sz c)]
      omega
end Go.Proofs.YtklobepkihdbkaaDoor.PlaP
