/- The reference's functions on size classes and regions: what each returns; nothing old is turned. -/
import Derived.Test.YtklobepkihdbkaaDoorClsFns
import Derived.WalkKit
import Derived.WalkLawsBesides
import Derived.WalkSpells
import Derived.Lib.Hide
namespace Go.Proofs.YtklobepkihdbkaaDoor.ClsS
open Go.RowKit Cls
set_option linter.unusedVariables false
set_option linter.unusedSimpArgs false

theorem ret_int {k : IntKind} {a b : Int} (h : a = b) : Ending.returned (.int k a) = .returned (.int k b) := by rw [h]
theorem below_one (w : World) (o : Obj) : Below w.heap.size w (w.alloc o) := (Below.refl _ w).alloc (Nat.le_refl _) o
theorem below_step {w w1 w2 : World} (h : Below w.heap.size w w1) (h' : Below w1.heap.size w1 w2) : Below w.heap.size w w2 := h.trans (h'.mono h.size)

section
set_option maxHeartbeats 400000 in
theorem slotSize_lo (c : Int) (w : World) (h : c < 0) :
    Calls Tryd.prog 24 #[.int .i64 c] w fun e w' => e = .returned (.int .i64 0) ∧ Below w.heap.size w w' := by
  go_enter Tryd.func24, Tryd.ntmps24
  go_wp2
  go_ret
  exact ⟨rfl, below_one _ _⟩
set_option maxHeartbeats 400000 in
theorem slotSize_hi (c : Int) (w : World) (h : 12 ≤ c) :
    Calls Tryd.prog 24 #[.int .i64 c] w fun e w' => e = .returned (.int .i64 0) ∧ Below w.heap.size w w' := by
  go_enter Tryd.func24, Tryd.ntmps24
  go_wp2
  go_ret
  exact ⟨rfl, below_one _ _⟩
set_option maxHeartbeats 4000000 in
theorem slotSize_in (c : Int) (w : World) (h0 : 0 ≤ c) (h1 : c < 12) :
    Calls Tryd.prog 24 #[.int .i64 c] w fun e w' => e = .returned (.int .i64 (sz c)) ∧ Below w.heap.size w w' := by
  rcases in12 h0 h1 with rfl | rfl | rfl | rfl | rfl | rfl | rfl | rfl | rfl | rfl | rfl | rfl
  all_goals
    go_enter Tryd.func24, Tryd.ntmps24
    go_wp2
    go_ret
    exact ⟨rfl, below_one _ _⟩
theorem slotSize (c : Int) (w : World) :
    Calls Tryd.prog 24 #[.int .i64 c] w fun e w' => e = .returned (.int .i64 (sz c)) ∧ Below w.heap.size w w' := by
  by_cases h0 : c < 0
  · rw [sz_out (.inl h0)]
    exact slotSize_lo c w h0
  · by_cases h1 : 12 ≤ c
    · rw [sz_out (.inr h1)]
      exact slotSize_hi c w h1
    · exact slotSize_in c w (by omega) (by omega)
end

section
set_option maxHeartbeats 400000 in
theorem usable_in (c : Int) (w : World) (h0 : 0 ≤ c) (h1 : c < 12) :
    Calls Tryd.prog 41 #[.int .i64 c] w fun e w' => e = .returned (.int .i64 (usable c)) ∧ Below w.heap.size w w' := by
  have hb1 := (sz_pos h0 h1).1
  have hb2 := (sz_pos h0 h1).2
  have hne : (sz c == 0) = false := by simp; omega
  have hne' : ¬ sz c = 0 := by omega
  go_enter Tryd.func41, Tryd.ntmps41
  go_wp2_with fail
  refine (slotSize _ _).mono ?_; rintro e w1 ⟨rfl, hw1⟩
  go_wp2_with fail
  refine (slotSize _ _).mono ?_; rintro e w2 ⟨rfl, hw2⟩
  go_wp2
  go_ret
  exact ⟨ret_int (by unfold usable; rw [if_neg hne']), below_step hw1 hw2⟩
set_option maxHeartbeats 400000 in
theorem usable_out (c : Int) (w : World) (h : c < 0 ∨ 12 ≤ c) :
    Calls Tryd.prog 41 #[.int .i64 c] w fun e w' => e = .returned (.int .i64 0) ∧ Below w.heap.size w w' := by
  have hz := Lib.hid (sz_out h)
  go_enter Tryd.func41, Tryd.ntmps41
  go_wp2_with (go_at_call 24; refine (slotSize _ _).mono ?_; rintro e w1 ⟨rfl, hw1⟩; rw [hz.out])
  go_ret
  exact ⟨rfl, hw1⟩
theorem usable_spec (c : Int) (w : World) :
    Calls Tryd.prog 41 #[.int .i64 c] w fun e w' => e = .returned (.int .i64 (usable c)) ∧ Below w.heap.size w w' := by
  by_cases h : c < 0 ∨ 12 ≤ c
  · have : usable c = 0 := by unfold usable; rw [if_pos (sz_out h)]
    rw [this]
    exact usable_out c w h
  · exact usable_in c w (by omega) (by omega)
end

section
set_option maxHeartbeats 400000 in
theorem slabPages_out (c : Int) (w : World) (h : c < 0 ∨ 12 ≤ c) :
    Calls Tryd.prog 36 #[.int .i64 c] w fun e w' => e = .returned (.int .i64 0) ∧ Below w.heap.size w w' := by
  have hz := Lib.hid (sz_out h)
  go_enter Tryd.func36, Tryd.ntmps36
  go_wp2_with (go_at_call 24; refine (slotSize _ _).mono ?_; rintro e w1 ⟨rfl, hw1⟩; rw [hz.out])
  go_ret
  exact ⟨rfl, hw1⟩
set_option maxHeartbeats 400000 in
theorem slabPages_in (c : Int) (w : World) (h0 : 0 ≤ c) (h1 : c < 12) :
    Calls Tryd.prog 36 #[.int .i64 c] w fun e w' => e = .returned (.int .i64 (pages c)) ∧ Below w.heap.size w w' := by
  have hb1 := (sz_pos h0 h1).1
  have hb2 := (sz_pos h0 h1).2
  have hp1 := pages_pos h0 h1
  have hp2 := (pages_bd c).2
  have hne : (sz c == 0) = false := by simp; omega
  go_enter Tryd.func36, Tryd.ntmps36
  go_wp2_with (go_at_call 24; refine (slotSize _ _).mono ?_; rintro e w1 ⟨rfl, hw1⟩)
  go_loop [4] (fun i => ∃ n : Int, 1 ≤ n ∧ n ≤ pages c ∧ i = .int .i64 n) (fun i => (5 - intOf i).toNat)
  case atStart => exact ⟨1, by omega, hp1, rfl⟩
  case round =>
    obtain ⟨n, hn1, hn2, rfl⟩ := hrel
    by_cases hlt : n * 1024 < 4 * sz c
    · have hm := pages_more hlt
      go_wp2
      go_round
      case rel => exact ⟨n + 1, by omega, hm, rfl⟩
      case measure => simp [intOf]; omega
    · have he := Lib.hid (pages_least h0 h1 hn2 hlt)
      go_wp2
      go_ret
      exact ⟨ret_int he.out, hw1⟩
theorem slabPages (c : Int) (w : World) :
    Calls Tryd.prog 36 #[.int .i64 c] w fun e w' => e = .returned (.int .i64 (pages c)) ∧ Below w.heap.size w w' := by
  by_cases h : c < 0 ∨ 12 ≤ c
  · rw [pages_out h]
    exact slabPages_out c w h
  · exact slabPages_in c w (by omega) (by omega)
end

section
set_option maxHeartbeats 400000 in
theorem slabSlots_in (c : Int) (w : World) (h0 : 0 ≤ c) (h1 : c < 12) :
    Calls Tryd.prog 29 #[.int .i64 c] w fun e w' => e = .returned (.int .i64 (slots c)) ∧ Below w.heap.size w w' := by
  have hb1 := (sz_pos h0 h1).1
  have hp1 := (pages_bd c).1
  have hp2 := (pages_bd c).2
  have hne : (sz c == 0) = false := by simp; omega
  have hne' : ¬ sz c = 0 := by omega
  go_enter Tryd.func29, Tryd.ntmps29
  go_wp2_with fail
  refine (slotSize _ _).mono ?_; rintro e w1 ⟨rfl, hw1⟩
  go_wp2_with fail
  refine (slabPages _ _).mono ?_; rintro e w2 ⟨rfl, hw2⟩
  go_wp2_with fail
  refine (slotSize _ _).mono ?_; rintro e w3 ⟨rfl, hw3⟩
  go_wp2
  go_ret
  exact ⟨ret_int (by unfold slots; rw [if_neg hne']), below_step (below_step hw1 hw2) hw3⟩
set_option maxHeartbeats 400000 in
theorem slabSlots_out (c : Int) (w : World) (h : c < 0 ∨ 12 ≤ c) :
    Calls Tryd.prog 29 #[.int .i64 c] w fun e w' => e = .returned (.int .i64 0) ∧ Below w.heap.size w w' := by
  have hz := Lib.hid (sz_out h)
  go_enter Tryd.func29, Tryd.ntmps29
  go_wp2_with (go_at_call 24; refine (slotSize _ _).mono ?_; rintro e w1 ⟨rfl, hw1⟩; rw [hz.out])
  go_ret
  exact ⟨rfl, hw1⟩
theorem slabSlots (c : Int) (w : World) :
    Calls Tryd.prog 29 #[.int .i64 c] w fun e w' => e = .returned (.int .i64 (slots c)) ∧ Below w.heap.size w w' := by
  by_cases h : c < 0 ∨ 12 ≤ c
  · have : slots c = 0 := by unfold slots; rw [if_pos (sz_out h)]
    rw [this]
    exact slabSlots_out c w h
  · exact slabSlots_in c w (by omega) (by omega)
end

section
set_option maxHeartbeats 400000 in
theorem regionPages_in (c : Int) (w : World) (h0 : 0 ≤ c) (h1 : c < 12) :
    Calls Tryd.prog 40 #[.int .i64 c] w fun e w' => e = .returned (.int .i64 (rpages c)) ∧ Below w.heap.size w w' := by
  have hb1 := (sz_pos h0 h1).1
  have hp1 := (pages_bd c).1
  have hp2 := (pages_bd c).2
  have hne : (sz c == 0) = false := by simp; omega
  have hne' : ¬ sz c = 0 := by omega
  go_enter Tryd.func40, Tryd.ntmps40
  go_wp2_with fail
  refine (slotSize _ _).mono ?_; rintro e w1 ⟨rfl, hw1⟩
  go_wp2_with fail
  refine (slabPages _ _).mono ?_; rintro e w2 ⟨rfl, hw2⟩
  go_wp2
  go_ret
  exact ⟨ret_int (by unfold rpages; rw [if_neg hne']), below_step hw1 hw2⟩
set_option maxHeartbeats 400000 in
theorem regionPages_out (c : Int) (w : World) (h : c < 0 ∨ 12 ≤ c) :
    Calls Tryd.prog 40 #[.int .i64 c] w fun e w' => e = .returned (.int .i64 0) ∧ Below w.heap.size w w' := by
  have hz := Lib.hid (sz_out h)
  go_enter Tryd.func40, Tryd.ntmps40
  go_wp2_with (go_at_call 24; refine (slotSize _ _).mono ?_; rintro e w1 ⟨rfl, hw1⟩; rw [hz.out])
  go_ret
  exact ⟨rfl, hw1⟩
theorem regionPages (c : Int) (w : World) :
    Calls Tryd.prog 40 #[.int .i64 c] w fun e w' => e = .returned (.int .i64 (rpages c)) ∧ Below w.heap.size w w' := by
  by_cases h : c < 0 ∨ 12 ≤ c
  · have : rpages c = 0 := by unfold rpages; rw [if_pos (sz_out h)]
    rw [this]
    exact regionPages_out c w h
  · exact regionPages_in c w (by omega) (by omega)
end

section
set_option maxHeartbeats 400000 in
theorem regionStart_out (c : Int) (w : World) (h : c < 0 ∨ 12 ≤ c) :
    Calls Tryd.prog 39 #[.int .i64 c] w fun e w' => e = .returned (.int .i64 (-1)) ∧ Below w.heap.size w w' := by
  have hz := Lib.hid (sz_out h)
  go_enter Tryd.func39, Tryd.ntmps39
  go_wp2_with (go_at_call 24; refine (slotSize _ _).mono ?_; rintro e w1 ⟨rfl, hw1⟩; rw [hz.out])
  go_ret
  exact ⟨rfl, hw1⟩
set_option maxHeartbeats 400000 in
theorem regionStart_in (c : Int) (w : World) (h0 : 0 ≤ c) (h1 : c < 12) :
    Calls Tryd.prog 39 #[.int .i64 c] w fun e w' => e = .returned (.int .i64 (rstart c)) ∧ Below w.heap.size w w' := by
  have hb1 := (sz_pos h0 h1).1
  have hne : (sz c == 0) = false := by simp; omega
  have HR := Lib.hid (rstart_in h0 h1)
  obtain ⟨n, rfl⟩ := Int.eq_ofNat_of_zero_le h0
  go_enter Tryd.func39, Tryd.ntmps39
  go_wp2_with (go_at_call 24; refine (slotSize _ _).mono ?_; rintro e w1 ⟨rfl, hw1⟩)
  go_loopw [3, 4] (fun s i W => ∃ k : Nat, k ≤ n ∧ i = .int .i64 k ∧ s = .int .i64 (rsum k) ∧ Below w.heap.size w W) (fun _ i _ => n - (intOf i).toNat)
  case atStart => exact ⟨0, Nat.zero_le _, rfl, rfl, hw1⟩
  case round =>
    obtain ⟨k, hk, rfl, rfl, hB⟩ := hrel
    have hs1 := (rsum_bd k).1
    have hs2 := (rsum_bd k).2
    have hq1 := (rpages_bd k).1
    have hq2 := (rpages_bd k).2
    by_cases hlt : k < n
    · go_wp2_with (go_at_call 40; refine (regionPages _ _).mono ?_; rintro e w2 ⟨rfl, hw2⟩)
      go_roundw
      case rel => exact ⟨k + 1, by omega, by go_num, rfl, below_step hB hw2⟩
      case measure => simp [intOf]; omega
    · have : k = n := by omega
      subst this
      go_wp2
      go_ret
      exact ⟨ret_int (by rw [HR.out]; simp), hB⟩
theorem regionStart (c : Int) (w : World) :
    Calls Tryd.prog 39 #[.int .i64 c] w fun e w' => e = .returned (.int .i64 (rstart c)) ∧ Below w.heap.size w w' := by
  by_cases h : c < 0 ∨ 12 ≤ c
  · have : rstart c = -1 := by unfold rstart; rw [if_pos (sz_out h)]
    rw [this]
    exact regionStart_out c w h
  · exact regionStart_in c w (by omega) (by omega)
end

section
set_option maxHeartbeats 400000 in
theorem largeStart (w : World) :
    Calls Tryd.prog 28 #[] w fun e w' => e = .returned (.int .i64 187) ∧ Below w.heap.size w w' := by
  have hv := Lib.hid large_val
  have hb1 := (rstart_bd 11).1
  have hb2 := (rstart_bd 11).2
  have hq1 := (rpages_bd 11).1
  have hq2 := (rpages_bd 11).2
  go_enter Tryd.func28, Tryd.ntmps28
  go_wp2_with fail
  refine (regionStart _ _).mono ?_; rintro e w1 ⟨rfl, hw1⟩
  go_wp2_with fail
  refine (regionPages _ _).mono ?_; rintro e w2 ⟨rfl, hw2⟩
  go_wp2
  go_ret
  exact ⟨ret_int hv.out, below_step hw1 hw2⟩
end

section
set_option maxHeartbeats 400000 in
theorem arenaPages (w : World) :
    Calls Tryd.prog 8 #[] w fun e w' => e = .returned (.int .i64 283) ∧ Below w.heap.size w w' := by
  go_enter Tryd.func8, Tryd.ntmps8
  go_wp2_with (go_at_call 28; refine (largeStart _).mono ?_; rintro e w1 ⟨rfl, hw1⟩)
  go_ret
  exact ⟨rfl, hw1⟩
end

end Go.Proofs.YtklobepkihdbkaaDoor.ClsS
