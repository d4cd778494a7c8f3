/- The program's own functions on size classes and regions: what each returns. Condition: the table of sizes is the text's. -/
import Derived.Test.YtklobepkihdbkaaDoorClsFns
import Derived.WalkKit
import Derived.WalkLawsBesides
import Derived.WalkSpells
import Derived.Lib.Hide
namespace Go.Proofs.YtklobepkihdbkaaDoor.Cls
open Go.RowKit
set_option linter.unusedVariables false
set_option linter.unusedSimpArgs false

theorem ret_int {k : IntKind} {a b : Int} (h : a = b) : Ending.returned (.int k a) = .returned (.int k b) := by rw [h]
theorem tbl_cell {w : World} (h : Laid.Table w) (c : Int) (h0 : 0 ≤ c) (h1 : c < 12) : w.cell? ⟨0, c.toNat, none⟩ = some (.int .i64 (sz c)) := by
  obtain ⟨t, h⟩ := h
  rcases in12 h0 h1 with rfl | rfl | rfl | rfl | rfl | rfl | rfl | rfl | rfl | rfl | rfl | rfl <;> (simp only [World.cell?, h]; rfl)

section
set_option maxHeartbeats 400000 in
theorem slotSize_in (c : Int) (w : World) (ht : Laid.Table w) (h0 : 0 ≤ c) (h1 : c < 12) :
    Calls Tryd.prog 15 #[.int .i64 c] w fun e w' => e = .returned (.int .i64 (sz c)) ∧ w = w' := by
  have hc := tbl_cell ht c h0 h1
  go_enter Tryd.func15, Tryd.ntmps15
  go_wp2
  go_ret
  exact ⟨rfl, rfl⟩
set_option maxHeartbeats 400000 in
theorem slotSize_lo (c : Int) (w : World) (h : c < 0) :
    Calls Tryd.prog 15 #[.int .i64 c] w fun e w' => e = .returned (.int .i64 0) ∧ w = w' := by
  go_enter Tryd.func15, Tryd.ntmps15
  go_wp2
  go_ret
  exact ⟨rfl, rfl⟩
set_option maxHeartbeats 400000 in
theorem slotSize_hi (c : Int) (w : World) (h : 12 ≤ c) :
    Calls Tryd.prog 15 #[.int .i64 c] w fun e w' => e = .returned (.int .i64 0) ∧ w = w' := by
  go_enter Tryd.func15, Tryd.ntmps15
  go_wp2
  go_ret
  exact ⟨rfl, rfl⟩
theorem slotSize (c : Int) (w : World) (ht : Laid.Table w) :
    Calls Tryd.prog 15 #[.int .i64 c] w fun e w' => e = .returned (.int .i64 (sz c)) ∧ w = w' := by
  by_cases h0 : c < 0
  · rw [sz_out (.inl h0)]
    exact slotSize_lo c w h0
  · by_cases h1 : 12 ≤ c
    · rw [sz_out (.inr h1)]
      exact slotSize_hi c w h1
    · exact slotSize_in c w ht (by omega) (by omega)
end

section
set_option maxHeartbeats 400000 in
theorem slabPages (c : Int) (w : World) (ht : Laid.Table w) :
    Calls Tryd.prog 17 #[.int .i64 c] w fun e w' => e = .returned (.int .i64 (pages c)) ∧ w = w' := by
  have hb1 := (sz_bd c).1
  have hb2 := (sz_bd c).2
  go_enter Tryd.func17, Tryd.ntmps17
  go_wp2_with (go_at_call 15; refine (slotSize _ _ ht).mono ?_; rintro e w' ⟨rfl, rfl⟩)
  go_ret
  refine ⟨?_, rfl⟩
  unfold pages
  have : 4 * sz c + 1024 - 1 = 4 * sz c + 1023 := by omega
  simp [this]
end

section
set_option maxHeartbeats 400000 in
theorem usable_impl (c : Int) (w : World) (ht : Laid.Table w) :
    Calls Tryd.prog 14 #[.int .i64 c] w fun e w' => e = .returned (.int .i64 (usable c)) ∧ w = w' := by
  have hb1 := (sz_bd c).1
  have hb2 := (sz_bd c).2
  go_enter Tryd.func14, Tryd.ntmps14
  go_wp2_with (go_at_call 15; refine (slotSize _ _ ht).mono ?_; rintro e w' ⟨rfl, rfl⟩)
  all_goals
    go_ret
    refine ⟨ret_int ?_, rfl⟩
    rw [← usable_max]
    omega
end

section
set_option maxHeartbeats 400000 in
theorem slabSlots_in (c : Int) (w : World) (ht : Laid.Table w) (h0 : 0 ≤ c) (h1 : c < 12) :
    Calls Tryd.prog 16 #[.int .i64 c] w fun e w' => e = .returned (.int .i64 (slots c)) ∧ w = w' := by
  have hb1 := (sz_pos h0 h1).1
  have hb2 := (sz_pos h0 h1).2
  have hp1 := (pages_bd c).1
  have hp2 := (pages_bd c).2
  have hne : (sz c == 0) = false := by simp; omega
  have hne' : ¬ sz c = 0 := by omega
  go_enter Tryd.func16, Tryd.ntmps16
  go_wp2_with (first | (go_at_call 15; refine (slotSize _ _ ht).mono ?_; rintro e w' ⟨rfl, rfl⟩) | (go_at_call 17; refine (slabPages _ _ ht).mono ?_; rintro e w' ⟨rfl, rfl⟩))
  go_ret
  refine ⟨?_, rfl⟩
  unfold slots
  simp [hne']
set_option maxHeartbeats 400000 in
theorem slabSlots_out (c : Int) (w : World) (ht : Laid.Table w) (h : c < 0 ∨ 12 ≤ c) :
    Calls Tryd.prog 16 #[.int .i64 c] w fun e w' => e = .returned (.int .i64 0) ∧ w = w' := by
  have hz := Lib.hid (sz_out h)
  go_enter Tryd.func16, Tryd.ntmps16
  go_wp2_with (go_at_call 15; refine (slotSize _ _ ht).mono ?_; rintro e w' ⟨rfl, rfl⟩; rw [hz.out])
  go_ret
  exact ⟨rfl, rfl⟩
theorem slabSlots (c : Int) (w : World) (ht : Laid.Table w) :
    Calls Tryd.prog 16 #[.int .i64 c] w fun e w' => e = .returned (.int .i64 (slots c)) ∧ w = w' := by
  by_cases h : c < 0 ∨ 12 ≤ c
  · have : slots c = 0 := by unfold slots; rw [if_pos (sz_out h)]
    rw [this]
    exact slabSlots_out c w ht h
  · exact slabSlots_in c w ht (by omega) (by omega)
end

section
set_option maxHeartbeats 400000 in
theorem regionPages_in (c : Int) (w : World) (ht : Laid.Table w) (h0 : 0 ≤ c) (h1 : c < 12) :
    Calls Tryd.prog 37 #[.int .i64 c] w fun e w' => e = .returned (.int .i64 (rpages c)) ∧ w = w' := by
  have hb1 := (sz_pos h0 h1).1
  have hp1 := (pages_bd c).1
  have hp2 := (pages_bd c).2
  have hne : (sz c == 0) = false := by simp; omega
  have hne' : ¬ sz c = 0 := by omega
  go_enter Tryd.func37, Tryd.ntmps37
  go_wp2_with (first | (go_at_call 15; refine (slotSize _ _ ht).mono ?_; rintro e w' ⟨rfl, rfl⟩) | (go_at_call 17; refine (slabPages _ _ ht).mono ?_; rintro e w' ⟨rfl, rfl⟩))
  go_ret
  exact ⟨ret_int (by unfold rpages; rw [if_neg hne']), rfl⟩
set_option maxHeartbeats 400000 in
theorem regionPages_out (c : Int) (w : World) (ht : Laid.Table w) (h : c < 0 ∨ 12 ≤ c) :
    Calls Tryd.prog 37 #[.int .i64 c] w fun e w' => e = .returned (.int .i64 0) ∧ w = w' := by
  have hz := Lib.hid (sz_out h)
  go_enter Tryd.func37, Tryd.ntmps37
  go_wp2_with (go_at_call 15; refine (slotSize _ _ ht).mono ?_; rintro e w' ⟨rfl, rfl⟩; rw [hz.out])
  go_ret
  exact ⟨rfl, rfl⟩
theorem regionPages (c : Int) (w : World) (ht : Laid.Table w) :
    Calls Tryd.prog 37 #[.int .i64 c] w fun e w' => e = .returned (.int .i64 (rpages c)) ∧ w = w' := by
  by_cases h : c < 0 ∨ 12 ≤ c
  · have : rpages c = 0 := by unfold rpages; rw [if_pos (sz_out h)]
    rw [this]
    exact regionPages_out c w ht h
  · exact regionPages_in c w ht (by omega) (by omega)
end

section
set_option maxHeartbeats 400000 in
theorem regionStart_out (c : Int) (w : World) (ht : Laid.Table w) (h : c < 0 ∨ 12 ≤ c) :
    Calls Tryd.prog 27 #[.int .i64 c] w fun e w' => e = .returned (.int .i64 (-1)) ∧ w = w' := by
  have hz := Lib.hid (sz_out h)
  go_enter Tryd.func27, Tryd.ntmps27
  go_wp2_with (go_at_call 15; refine (slotSize _ _ ht).mono ?_; rintro e w' ⟨rfl, rfl⟩; rw [hz.out])
  go_ret
  exact ⟨rfl, rfl⟩
set_option maxHeartbeats 400000 in
theorem regionStart_in (c : Int) (w : World) (ht : Laid.Table w) (h0 : 0 ≤ c) (h1 : c < 12) :
    Calls Tryd.prog 27 #[.int .i64 c] w fun e w' => e = .returned (.int .i64 (rstart c)) ∧ w = w' := by
  have hb1 := (sz_pos h0 h1).1
  have hne : (sz c == 0) = false := by simp; omega
  have HR := Lib.hid (rstart_in h0 h1)
  obtain ⟨n, rfl⟩ := Int.eq_ofNat_of_zero_le h0
  go_enter Tryd.func27, Tryd.ntmps27
  go_wp2_with (go_at_call 15; refine (slotSize _ _ ht).mono ?_; rintro e w' ⟨rfl, rfl⟩)
  go_loop [3, 9] (fun s i => ∃ k : Nat, k ≤ n ∧ i = .int .i64 k ∧ s = .int .i64 (rsum k)) (fun _ i => n - (intOf i).toNat)
  case atStart => exact ⟨0, Nat.zero_le _, rfl, rfl⟩
  case round =>
    obtain ⟨k, hk, rfl, rfl⟩ := hrel
    have hs1 := (rsum_bd k).1
    have hs2 := (rsum_bd k).2
    have hq1 := (rpages_bd k).1
    have hq2 := (rpages_bd k).2
    by_cases hlt : k < n
    · go_wp2_with (go_at_call 37; refine (regionPages _ _ ht).mono ?_; rintro e w' ⟨rfl, rfl⟩)
      go_round
      case rel => exact ⟨k + 1, by omega, by go_num, rfl⟩
      case measure => simp [intOf]; omega
    · have : k = n := by omega
      subst this
      go_wp2
      go_ret
      exact ⟨ret_int (by rw [HR.out]; simp), rfl⟩
theorem regionStart (c : Int) (w : World) (ht : Laid.Table w) :
    Calls Tryd.prog 27 #[.int .i64 c] w fun e w' => e = .returned (.int .i64 (rstart c)) ∧ w = w' := by
  by_cases h : c < 0 ∨ 12 ≤ c
  · have : rstart c = -1 := by unfold rstart; rw [if_pos (sz_out h)]
    rw [this]
    exact regionStart_out c w ht h
  · exact regionStart_in c w ht (by omega) (by omega)
end

section
set_option maxHeartbeats 400000 in
theorem largeStart (w : World) (ht : Laid.Table w) :
    Calls Tryd.prog 26 #[] w fun e w' => e = .returned (.int .i64 187) ∧ w = w' := by
  have hv := Lib.hid large_val
  have hb1 := (rstart_bd 11).1
  have hb2 := (rstart_bd 11).2
  have hq1 := (rpages_bd 11).1
  have hq2 := (rpages_bd 11).2
  go_enter Tryd.func26, Tryd.ntmps26
  go_wp2_with (first | (go_at_call 27; refine (regionStart _ _ ht).mono ?_; rintro e w' ⟨rfl, rfl⟩) | (go_at_call 37; refine (regionPages _ _ ht).mono ?_; rintro e w' ⟨rfl, rfl⟩))
  go_ret
  exact ⟨ret_int hv.out, rfl⟩
end

section
set_option maxHeartbeats 400000 in
theorem arenaPages (w : World) (ht : Laid.Table w) :
    Calls Tryd.prog 9 #[] w fun e w' => e = .returned (.int .i64 283) ∧ w = w' := by
  go_enter Tryd.func9, Tryd.ntmps9
  go_wp2_with (go_at_call 26; refine (largeStart _ ht).mono ?_; rintro e w' ⟨rfl, rfl⟩)
  go_ret
  exact ⟨rfl, rfl⟩
end

section
set_option maxHeartbeats 400000 in
theorem classOf_hi (r : Int) (w : World) (h : 1016 < r) :
    Calls Tryd.prog 13 #[.int .u64 r] w fun e w' => e = .returned (.int .i64 (classOf r)) ∧ w = w' := by
  have HR := Lib.hid (classOf_big h)
  go_enter Tryd.func13, Tryd.ntmps13
  go_wp2
  go_ret
  exact ⟨ret_int HR.out.symm, rfl⟩
theorem idx (w : World) (c : Nat) (h : c < 12) : (Instr.index 48 (.agg Laid.tbl) (.int .i64 c)).run Tryd.prog w = .ok (.int .i64 (sz c)) w := by
  have h' : c = 0 ∨ c = 1 ∨ c = 2 ∨ c = 3 ∨ c = 4 ∨ c = 5 ∨ c = 6 ∨ c = 7 ∨ c = 8 ∨ c = 9 ∨ c = 10 ∨ c = 11 := by omega
  rcases h' with rfl | rfl | rfl | rfl | rfl | rfl | rfl | rfl | rfl | rfl | rfl | rfl <;> rfl
set_option maxHeartbeats 400000 in
theorem classOf_lo (r : Int) (w : World) (ht : Laid.Table w) (h0 : 0 ≤ r) (h : r ≤ 1016) :
    Calls Tryd.prog 13 #[.int .u64 r] w fun e w' => e = .returned (.int .i64 (classOf r)) ∧ w = w' := by
  obtain ⟨tt, ht⟩ := ht
  have HD : Hid (classOf r = classFrom r 12 0) := Lib.hid rfl
  go_enter Tryd.func13, Tryd.ntmps13
  go_wp2_with (refine wpList_load_row rfl 48 _ rfl 0 rfl tt Laid.tbl _ _ ht Tryd.underlying48 rfl (by kernel_rfl) ?_)
  go_loop [3, 4, 8] (fun _ _ i => ∃ k : Nat, k ≤ 12 ∧ i = .int .i64 k ∧ classOf r = classFrom r (12 - k) k) (fun _ _ i => 12 - (intOf i).toNat)
  case atStart => exact ⟨0, Nat.zero_le _, rfl, rfl⟩
  case round =>
    obtain ⟨k, hk, rfl, hcl⟩ := hrel
    have HC := Lib.hid hcl
    clear hcl
    by_cases hlt : k < 12
    · have hs1 := (sz_bd k).1
      have hs2 := (sz_bd k).2
      have hi := fun w => idx w k hlt
      by_cases hf : r + 8 ≤ sz k
      · go_wp2
        go_ret
        exact ⟨ret_int (by rw [HC.out, show 12 - k = (11 - k) + 1 by omega, classFrom_hit hf]), rfl⟩
      · go_wp2
        go_round
        case rel => exact ⟨k + 1, by omega, by go_num, by rw [HC.out, show 12 - k = (11 - k) + 1 by omega, classFrom_step hf, show 12 - (k + 1) = 11 - k by omega]⟩
        case measure => simp [intOf]; omega
    · have : k = 12 := by omega
      subst this
      go_wp2
      go_ret
      exact ⟨ret_int (by rw [HC.out]; rfl), rfl⟩
theorem classOf_impl (r : Int) (w : World) (ht : Laid.Table w) (h0 : 0 ≤ r) :
    Calls Tryd.prog 13 #[.int .u64 r] w fun e w' => e = .returned (.int .i64 (classOf r)) ∧ w = w' := by
  by_cases h : 1016 < r
  · exact classOf_hi r w h
  · exact classOf_lo r w ht h0 (by omega)
end
end Go.Proofs.YtklobepkihdbkaaDoor.Cls
