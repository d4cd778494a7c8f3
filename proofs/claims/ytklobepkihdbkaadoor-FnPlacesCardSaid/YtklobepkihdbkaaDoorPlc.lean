/- The program's functions on places: what each returns. Condition: the table of sizes is the text's. -/
import Derived.Test.YtklobepkihdbkaaDoorCls
import Derived.Test.YtklobepkihdbkaaDoorPlcFns
import Derived.StillTailTactics
import Derived.Deep.QuietTactic
import Derived.BigQuiet
import Derived.Deep.RegionWith
namespace Go.Proofs.YtklobepkihdbkaaDoor.Plc
open Go.RowKit Cls
set_option linter.unusedVariables false
set_option linter.unusedSimpArgs false
set_option maxHeartbeats 400000 in
theorem slabPage (c s : Int) (w : World) (ht : Laid.Table w) (h0 : 0 ≤ c) (h1 : c < 12) (h2 : 0 ≤ s) (h3 : s < 6) :
    Calls Tryd.prog 31 #[.int .i64 c, .int .i64 s] w fun e w' => e = .returned (.int .i64 (first c s)) ∧ w = w' := by
  have hb := first_bd h0 h1 h2 h3
  have hb1 := hb.2.2.1
  have hb2 := hb.2.2.2
  have hr1 := (rstart_bd c).1
  have hr2 := (rstart_bd c).2
  have hp1 := (pages_bd c).1
  have hp2 := (pages_bd c).2
  clear hb
  go_enter Tryd.func31, Tryd.ntmps31
  go_wp2_with (first | (go_at_call 27; refine (regionStart _ _ ht).mono ?_; rintro e w' ⟨rfl, rfl⟩) | (go_at_call 17; refine (slabPages _ _ ht).mono ?_; rintro e w' ⟨rfl, rfl⟩))
  go_ret
  exact ⟨rfl, rfl⟩
set_option maxHeartbeats 400000 in
theorem slotAddr_yes (c s j : Int) (w : World) (ht : Laid.Table w) (h : Slot c s j) :
    Calls Tryd.prog 11 #[.int .i64 c, .int .i64 s, .int .i64 j] w fun e w' => e = .returned (.tuple #[.int .u64 (addr c s j), .bool true]) ∧ w = w' := by
  have hb1 := (slot_bd h).1
  have hb2 := (slot_bd h).2.2
  obtain ⟨h0, h1, h2, h3, h4, h5⟩ := h
  have hf1 := (first_bd h0 h1 h2 h3).1
  have hf2 := (first_bd h0 h1 h2 h3).2.1
  have hp1 := (pages_bd c).1
  have hs1 := (sz_pos h0 h1).1
  have hne : (sz c == 0) = false := by simp; omega
  go_enter Tryd.func11, Tryd.ntmps11
  go_wp2_with (first | (go_at_call 15; refine (slotSize _ _ ht).mono ?_; rintro e w' ⟨rfl, rfl⟩) | (go_at_call 16; refine (slabSlots _ _ ht).mono ?_; rintro e w' ⟨rfl, rfl⟩) | (go_at_call 31; refine (slabPage _ _ _ ht h0 h1 h2 h3).mono ?_; rintro e w' ⟨rfl, rfl⟩))
  go_ret2
  exact ⟨rfl, rfl⟩
theorem not_slot {c s j : Int} (h : ¬ Slot c s j) : (c < 0 ∨ 12 ≤ c) ∨ (0 ≤ c ∧ c < 12 ∧ s < 0) ∨ (0 ≤ c ∧ c < 12 ∧ 0 ≤ s ∧ 6 ≤ s) ∨ (0 ≤ c ∧ c < 12 ∧ 0 ≤ s ∧ s < 6 ∧ j < 0) ∨ (0 ≤ c ∧ c < 12 ∧ 0 ≤ s ∧ s < 6 ∧ 0 ≤ j ∧ slots c ≤ j) := by
  unfold Slot at h
  omega
set_option maxHeartbeats 1000000 in
theorem slotAddr_no (c s j : Int) (w : World) (ht : Laid.Table w) (h : ¬ Slot c s j) :
    Calls Tryd.prog 11 #[.int .i64 c, .int .i64 s, .int .i64 j] w fun e w' => e = .returned (.tuple #[.int .u64 0, .bool false]) ∧ w = w' := by
  rcases not_slot h with h | ⟨h0, h1, h⟩ | ⟨h0, h1, h2, h⟩ | ⟨h0, h1, h2, h3, h⟩ | ⟨h0, h1, h2, h3, h4, h⟩
  · have hz : (sz c == 0) = true := by simp [sz_out h]
    clear h
    go_enter Tryd.func11, Tryd.ntmps11
    go_wp2_with (go_at_call 15; refine (slotSize _ _ ht).mono ?_; rintro e w' ⟨rfl, rfl⟩)
    go_ret2
    exact ⟨rfl, rfl⟩
  all_goals
    have hs1 := (sz_pos h0 h1).1
    have hne : (sz c == 0) = false := by simp; omega
    go_enter Tryd.func11, Tryd.ntmps11
    go_wp2_with (first | (go_at_call 15; refine (slotSize _ _ ht).mono ?_; rintro e w' ⟨rfl, rfl⟩) | (go_at_call 16; refine (slabSlots _ _ ht).mono ?_; rintro e w' ⟨rfl, rfl⟩))
    go_ret2
    exact ⟨rfl, rfl⟩
def placeV (k c s j p o : Int) : Value := .agg #[.int .i64 k, .int .i64 c, .int .i64 s, .int .i64 j, .int .i64 p, .int .i64 o]
set_option maxHeartbeats 1000000 in
theorem decode_out (a : Int) (w : World) (ht : Laid.Table w) (hU : a ≤ 18446744073709551615) (h : 283 ≤ a / 1024) :
    Calls Tryd.prog 21 #[.int .u64 a] w fun e w' => e = .returned (placeV 0 0 0 0 0 0) ∧ Below w.heap.size w w' := by
  have ht2 : ∀ o, Laid.Table (w.alloc o) := fun o => ht.below ((Below.refl _ w).alloc (Nat.le_refl _) o) ht.lt
  go_enter Tryd.func21, Tryd.ntmps21
  go_wp2_with (first | (go_at_call 9; refine (arenaPages _ (ht2 _)).mono ?_; rintro e w' ⟨rfl, rfl⟩) | (go_at_call 26; refine (largeStart _ (ht2 _)).mono ?_; rintro e w' ⟨rfl, rfl⟩))
  exact bodyPost_ret (v := placeV 0 0 0 0 0 0) (by simp [results, Tryd.results21, go_sem, placeV]) rfl ⟨rfl, (Below.refl _ w).alloc (Nat.le_refl _) _⟩
set_option maxHeartbeats 1000000 in
theorem decode_large (a : Int) (w : World) (ht : Laid.Table w) (h : 187 ≤ a / 1024) (h' : a / 1024 < 283) :
    Calls Tryd.prog 21 #[.int .u64 a] w fun e w' => e = .returned (placeV 4 0 0 0 (a / 1024 - 187) (a % 1024)) ∧ Below w.heap.size w w' := by
  have ht2 : ∀ o, Laid.Table (w.alloc o) := fun o => ht.below ((Below.refl _ w).alloc (Nat.le_refl _) o) ht.lt
  go_enter Tryd.func21, Tryd.ntmps21
  go_wp2_with (first | (go_at_call 9; refine (arenaPages _ (ht2 _)).mono ?_; rintro e w' ⟨rfl, rfl⟩) | (go_at_call 26; refine (largeStart _ (ht2 _)).mono ?_; rintro e w' ⟨rfl, rfl⟩))
  exact bodyPost_ret (v := placeV 4 0 0 0 (a / 1024 - 187) (a % 1024)) (by simp [results, Tryd.results21, go_sem, placeV]) rfl ⟨rfl, (Below.refl _ w).alloc (Nat.le_refl _) _⟩
set_option maxHeartbeats 1000000 in
theorem decode_zero (a : Int) (w : World) (ht : Laid.Table w) (h : 0 ≤ a) (h' : a < 1024) :
    Calls Tryd.prog 21 #[.int .u64 a] w fun e w' => e = .returned (placeV 1 0 0 0 0 0) ∧ Below w.heap.size w w' := by
  have ht2 : ∀ o, Laid.Table (w.alloc o) := fun o => ht.below ((Below.refl _ w).alloc (Nat.le_refl _) o) ht.lt
  have hz : a / 1024 = 0 := by omega
  have hz1 : (a / 1024 == 0) = true := by simp; omega
  clear hz
  go_enter Tryd.func21, Tryd.ntmps21
  go_wp2_with (first | (go_at_call 9; refine (arenaPages _ (ht2 _)).mono ?_; rintro e w' ⟨rfl, rfl⟩) | (go_at_call 26; refine (largeStart _ (ht2 _)).mono ?_; rintro e w' ⟨rfl, rfl⟩))
  exact bodyPost_ret (v := placeV 1 0 0 0 0 0) (by simp [results, Tryd.results21, go_sem, placeV]) rfl ⟨rfl, (Below.refl _ w).alloc (Nat.le_refl _) _⟩
def plV (x : Plce) : Value := placeV x.k x.c x.s x.j x.p x.o
def decV (a : Int) : Value := plV (decS a)
theorem decV_eq (a : Int) : decV a = if pages (cAt a) * 1024 ≤ oAt a then placeV 1 (cAt a) (sAt a) 0 0 0
    else if slots (cAt a) * sz (cAt a) ≤ oAt a then placeV 2 (cAt a) (sAt a) 0 0 (oAt a - slots (cAt a) * sz (cAt a))
    else placeV 3 (cAt a) (sAt a) (oAt a / sz (cAt a)) 0 (oAt a % sz (cAt a)) := by
  unfold decV decS
  split
  · rfl
  · split <;> rfl
set_option maxHeartbeats 2000000 in
theorem decode_slab (a : Int) (w : World) (ht : Laid.Table w) (h : 1 ≤ a / 1024) (h' : a / 1024 < 187) :
    Calls Tryd.prog 21 #[.int .u64 a] w fun e w' => e = .returned (decV a) ∧ Below w.heap.size w w' := by
  have ht2 : ∀ o, Laid.Table (w.alloc o) := fun o => ht.below ((Below.refl _ w).alloc (Nat.le_refl _) o) ht.lt
  have ht3 : ∀ o o', Laid.Table ((w.alloc o).alloc o') := fun o o' => ht.below (((Below.refl _ w).alloc (Nat.le_refl _) o).alloc (by simp) o') ht.lt
  have ht4 : ∀ o o', Laid.Table ((w.alloc o).alloc o').drew := fun o o' => ht.below ((((Below.refl _ w).alloc (Nat.le_refl _) o).alloc (by simp) o').drew) ht.lt
  have hz1 : (a / 1024 == 0) = false := by simp; omega
  have L := Lib.hid (loc_at h h')
  have HD : Hid (cAt a = clsFrom (a / 1024) (11 - 0) 0) := Lib.hid rfl
  have hv := rstart_vals
  have hv11 : rstart 11 = 157 := by simp [hv]
  have hr11 : rpages 11 = 30 := by simp [rpages_vals]
  have HV := Lib.hid (And.intro hv11 hr11)
  clear hv hv11 hr11
  go_enter Tryd.func21, Tryd.ntmps21
  go_wp2_with (first | (go_at_call 9; refine (arenaPages _ (ht2 _)).mono ?_; rintro e w' ⟨rfl, rfl⟩) | (go_at_call 26; refine (largeStart _ (ht2 _)).mono ?_; rintro e w' ⟨rfl, rfl⟩))
  go_loop [4] (fun i => ∃ k : Nat, k ≤ 11 ∧ i = .int .i64 k ∧ Hid (cAt a = clsFrom (a / 1024) (11 - k) k)) (fun i => 12 - (intOf i).toNat)
  case atStart => exact ⟨0, by omega, rfl, HD⟩
  case round =>
    obtain ⟨k, hk, rfl, HC⟩ := hrel
    have hr1 := (rstart_bd k).1
    have hr2 := (rstart_bd k).2
    have hp1 := (pages_bd k).1
    have hp2 := (pages_bd k).2
    have hq1 := (rpages_bd k).1
    have hq2 := (rpages_bd k).2
    by_cases hlt : rstart k + rpages k ≤ a / 1024
    · have hk11 : k < 11 := by
        by_cases e : k = 11
        · subst e
          have h1 := HV.out.1
          have h2 := HV.out.2
          have : rstart ((11 : Nat) : Int) + rpages ((11 : Nat) : Int) = 187 := by
            show rstart 11 + rpages 11 = 187
            rw [h1, h2]
            rfl
          omega
        · omega
      have HS := Lib.hid (clsFrom_step hk11 hlt)
      go_wp2_with (first | (go_at_call 27; refine (regionStart _ _ (ht2 _)).mono ?_; rintro e w' ⟨rfl, rfl⟩) | (go_at_call 37; refine (regionPages _ _ (ht2 _)).mono ?_; rintro e w' ⟨rfl, rfl⟩))
      go_round
      case rel => exact ⟨k + 1, by omega, by go_num, Lib.hid (HC.out.trans HS.out)⟩
      case measure => simp [intOf]; omega
    · have HE := Lib.hid (HC.out.trans (clsFrom_stop hlt))
      have hc12 : k < 12 := by omega
      have hlo : rstart k ≤ a / 1024 := by
        have := L.out.2.2.1
        have e : clsAt (a / 1024) = k := HE.out
        rwa [e] at this
      have hf1 : 0 ≤ slots k * sz k := Int.mul_nonneg (slots_bd k).1 (sz_bd k).1
      have hf2 : slots k * sz k ≤ 4096 := Int.le_trans (slots_fit k) (by omega)
      have hz16 := (sz_pos (c := k) (by omega) (by omega)).1
      have hm1 : 0 ≤ (a - rstart k * 1024) % ((pages k + 1) * 1024) := Int.emod_nonneg _ (by omega)
      have hm2 : (a - rstart k * 1024) % ((pages k + 1) * 1024) < (pages k + 1) * 1024 := Int.emod_lt_of_pos _ (by omega)
      have HF : Hid (decV a = (if pages k * 1024 ≤ (a - rstart k * 1024) % ((pages k + 1) * 1024) then placeV 1 k ((a - rstart k * 1024) / ((pages k + 1) * 1024)) 0 0 0
          else if slots k * sz k ≤ (a - rstart k * 1024) % ((pages k + 1) * 1024) then placeV 2 k ((a - rstart k * 1024) / ((pages k + 1) * 1024)) 0 0 ((a - rstart k * 1024) % ((pages k + 1) * 1024) - slots k * sz k)
          else placeV 3 k ((a - rstart k * 1024) / ((pages k + 1) * 1024)) ((a - rstart k * 1024) % ((pages k + 1) * 1024) / sz k) 0 ((a - rstart k * 1024) % ((pages k + 1) * 1024) % sz k))) := Lib.hid (by
        rw [decV_eq]
        unfold sAt oAt
        rw [HE.out])
      by_cases g1 : pages k * 1024 ≤ (a - rstart k * 1024) % ((pages k + 1) * 1024)
      · go_wp2_with (first | (go_at_call 27; refine (regionStart _ _ (by first | exact ht2 _ | exact ht3 _ _)).mono ?_; rintro e w' ⟨rfl, rfl⟩) | (go_at_call 37; refine (regionPages _ _ (ht2 _)).mono ?_; rintro e w' ⟨rfl, rfl⟩) | (go_at_call 17; refine (slabPages _ _ (ht2 _)).mono ?_; rintro e w' ⟨rfl, rfl⟩) | (go_at_call 16; refine (slabSlots _ _ (ht3 _ _)).mono ?_; rintro e w' ⟨rfl, rfl⟩) | (go_at_call 15; refine (slotSize _ _ (ht3 _ _)).mono ?_; rintro e w' ⟨rfl, rfl⟩))
        exact bodyPost_ret (v := placeV 1 k ((a - rstart k * 1024) / ((pages k + 1) * 1024)) 0 0 0) (by simp [results, Tryd.results21, go_sem, placeV]) rfl ⟨by rw [HF.out, if_pos (by omega)], ((Below.refl _ w).alloc (Nat.le_refl _) _).alloc (by simp) _⟩
      · by_cases g2 : slots k * sz k ≤ (a - rstart k * 1024) % ((pages k + 1) * 1024)
        · go_wp2_with (first | (go_at_call 27; refine (regionStart _ _ (by first | exact ht2 _ | exact ht3 _ _)).mono ?_; rintro e w' ⟨rfl, rfl⟩) | (go_at_call 37; refine (regionPages _ _ (ht2 _)).mono ?_; rintro e w' ⟨rfl, rfl⟩) | (go_at_call 17; refine (slabPages _ _ (ht2 _)).mono ?_; rintro e w' ⟨rfl, rfl⟩) | (go_at_call 16; refine (slabSlots _ _ (ht3 _ _)).mono ?_; rintro e w' ⟨rfl, rfl⟩) | (go_at_call 15; refine (slotSize _ _ (ht3 _ _)).mono ?_; rintro e w' ⟨rfl, rfl⟩))
          exact bodyPost_ret (v := placeV 2 k ((a - rstart k * 1024) / ((pages k + 1) * 1024)) 0 0 ((a - rstart k * 1024) % ((pages k + 1) * 1024) - slots k * sz k)) (by simp [results, Tryd.results21, go_sem, placeV]) rfl ⟨by rw [HF.out, if_neg (by omega), if_pos (by omega)], ((Below.refl _ w).alloc (Nat.le_refl _) _).alloc (by simp) _⟩
        · go_wp2_with (first | (go_at_call 27; refine (regionStart _ _ (by first | exact ht2 _ | exact ht3 _ _)).mono ?_; rintro e w' ⟨rfl, rfl⟩) | (go_at_call 37; refine (regionPages _ _ (ht2 _)).mono ?_; rintro e w' ⟨rfl, rfl⟩) | (go_at_call 17; refine (slabPages _ _ (ht2 _)).mono ?_; rintro e w' ⟨rfl, rfl⟩) | (go_at_call 16; refine (slabSlots _ _ (ht3 _ _)).mono ?_; rintro e w' ⟨rfl, rfl⟩) | (go_at_call 15; refine (slotSize _ _ (ht3 _ _)).mono ?_; rintro e w' ⟨rfl, rfl⟩))
          go_region_with (go_at_call 15; refine (slotSize _ _ (ht4 _ _)).mono ?_; rintro e w' ⟨rfl, rfl⟩)
          all_goals go_wp2
          all_goals exact bodyPost_ret (v := placeV 3 k ((a - rstart k * 1024) / ((pages k + 1) * 1024)) ((a - rstart k * 1024) % ((pages k + 1) * 1024) / sz k) 0 ((a - rstart k * 1024) % ((pages k + 1) * 1024) % sz k)) (by simp [results, Tryd.results21, go_sem, placeV]) rfl ⟨by rw [HF.out, if_neg (by omega), if_neg (by omega)], (((Below.refl _ w).alloc (Nat.le_refl _) _).alloc (by simp) _).drew⟩
theorem decode (a : Int) (w : World) (ht : Laid.Table w) (h0 : 0 ≤ a) (hU : a ≤ 18446744073709551615) :
    Calls Tryd.prog 21 #[.int .u64 a] w fun e w' => e = .returned (plV (dec a)) ∧ Below w.heap.size w w' := by
  unfold dec
  by_cases h1 : 283 ≤ a / 1024
  · rw [if_pos h1]
    exact decode_out a w ht hU h1
  · rw [if_neg h1]
    by_cases h2 : 187 ≤ a / 1024
    · rw [if_pos h2]
      exact decode_large a w ht h2 (by omega)
    · rw [if_neg h2]
      by_cases h3 : a < 1024
      · rw [if_pos h3]
        exact decode_zero a w ht h0 h3
      · rw [if_neg h3]
        exact decode_slab a w ht (by omega) (by omega)
end Go.Proofs.YtklobepkihdbkaaDoor.Plc
