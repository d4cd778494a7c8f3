/- The walk of FnClasses: it returns true. Condition: the table of sizes is the text's. -/
import Derived.Test.YtklobepkihdbkaaDoorCls
import Derived.Test.YtklobepkihdbkaaDoorDrwC
import Derived.Test.YtklobepkihdbkaaDoorProd
import Derived.OpenShut
namespace Go.Proofs.YtklobepkihdbkaaDoor.ClsLaw
open Go.RowKit Go.Proofs.YtklobepkihdbkaaDoorW.PrintWords Cls
set_option linter.unusedVariables false
set_option linter.unusedSimpArgs false
theorem bstep {w w1 w2 : World} (h : Below w.heap.size w w1) (h' : Below w1.heap.size w1 w2) : Below w.heap.size w w2 := h.trans (h'.mono h.size)
/-- What the class of a request is good for. -/
theorem classFrom_is {r : Int} : ∀ k c : Nat, c + k = 12 → (∃ j : Nat, c ≤ j ∧ j < 12 ∧ r + 8 ≤ sz j) → ∃ m : Nat, classFrom r k c = m ∧ c ≤ m ∧ m < 12 ∧ r + 8 ≤ sz m ∧ ∀ j : Nat, c ≤ j → j < m → ¬ r + 8 ≤ sz j
  | 0, c, h, ⟨j, h1, h2, _⟩ => by omega
  | k + 1, c, h, ⟨j, h1, h2, h3⟩ => by
    by_cases hf : r + 8 ≤ sz c
    · exact ⟨c, classFrom_hit hf, by omega, by omega, hf, fun j h4 h5 => by omega⟩
    · obtain ⟨m, e, h4, h5, h6, h7⟩ := classFrom_is k (c + 1) (by omega) ⟨j, by
        by_cases e : j = c
        · subst e; exact absurd h3 hf
        · omega, h2, h3⟩
      refine ⟨m, (classFrom_step hf).trans e, by omega, h5, h6, fun i hi hi' => ?_⟩
      by_cases e : i = c
      · subst e; exact hf
      · exact h7 i (by omega) hi'
theorem classOf_is {r : Int} (h : r ≤ 1016) : ∃ m : Int, classOf r = m ∧ 0 ≤ m ∧ m < 12 ∧ r ≤ usable m ∧ (0 < m → usable (m - 1) < r) := by
  obtain ⟨m, e, _, h1, h2, h3⟩ := classFrom_is (r := r) 12 0 rfl ⟨11, by omega, by omega, by
    have : sz ((11 : Nat) : Int) = 1024 := by decide
    omega⟩
  have hu : ∀ c : Int, 0 ≤ c → c < 12 → usable c = sz c - 8 := fun c hc0 hc => by
    have := sz_pos (c := c) (by omega) (by omega)
    unfold usable
    rw [if_neg (by omega)]
  refine ⟨m, e, by omega, by omega, by rw [hu m (by omega) (by omega)]; omega, fun hj => ?_⟩
  have := h3 (m - 1) (by omega) (by omega)
  rw [hu (m - 1) (by omega) (by omega)]
  have e' : ((m - 1 : Nat) : Int) = (m : Int) - 1 := by omega
  rw [e'] at this
  omega
set_option maxHeartbeats 4000000 in
set_option maxRecDepth 100000 in
theorem classes_law {w : World} (A : Option Addr) (c : Nat) (l : List Int) (hC : Kd.C (Kd.int .u8) w A l.length l) (hc : l.length ≤ c) (hwf : ∀ x ∈ l, (Lit.int .u8 x).wf = true) (hy : l.length * 1 ≤ 140737488351232) (ht : Laid.Table w) :
    Calls Tryd.prog 5 #[.slice A l.length c] w fun e w' => e = .returned (.bool true) ∧ Below w.heap.size w w' := by
  by_cases hbig : 1048576 < l.length
  · go_enter Tryd.func5, Tryd.ntmps5
    go_wp2
    go_ret
    exact ⟨rfl, Below.refl _ _⟩
  have hl : DrwC.Bytes l := ⟨by omega, fun x hx => bounds_u8 (hwf x hx)⟩
  have hn : l.length ≤ 1048576 := by omega
  have HC := Lib.hid hC
  clear hC hwf hbig
  go_enter Tryd.func5, Tryd.ntmps5
  go_wp2_with fail
  refine (DrwC.drawClassOf _ _ _ hl _ HC.out).mono ?_
  rintro e w1 ⟨r, hr, rfl, hw1⟩
  have hr0 : 0 ≤ r := hr.1
  have HT := Lib.hid (ht.below hw1 ht.lt)
  clear hr
  by_cases h : 1016 < r
  · have HK := Lib.hid (classOf_big h)
    go_wp2_with (go_at_call 13; refine (Cls.classOf_impl _ _ HT.out hr0).mono ?_; rintro e w' ⟨rfl, rfl⟩; rw [HK.out])
    go_wp2_with fail
    refine (DrwC.drawProduct _ _ _ hl _ (Kd.C_below HC.out hw1)).mono ?_
    rintro e w2 ⟨a, b, ha, hb, rfl, hw2⟩
    have hB := Lib.hid (bstep hw1 hw2)
    obtain ⟨x, rfl⟩ := Int.eq_ofNat_of_zero_le ha.1
    obtain ⟨y, rfl⟩ := Int.eq_ofNat_of_zero_le hb.1
    have hx : Hid (x < Prod.lim) := Lib.hid (by have := ha.2; unfold Prod.lim; omega)
    have hy : Hid (y < Prod.lim) := Lib.hid (by have := hb.2; unfold Prod.lim; omega)
    clear ha hb
    by_cases hf : x * y < Prod.lim
    · have HF := Lib.hid hf
      clear hf
      by_cases h0 : x = 0
      · subst h0
        go_wp2_with (go_at_call 19; refine (Prod.impl_yes _ _ hx.out hy.out HF.out _).mono ?_; rintro e w' ⟨rfl, rfl⟩)
        go_ret
        exact ⟨by simp, hB.out⟩
      · have b0 : ((x : Int) == 0) = false := by rw [beq_eq_false_iff_ne]; omega
        by_cases h1 : y = 0
        · subst h1
          go_wp2_with (go_at_call 19; refine (Prod.impl_yes _ _ hx.out hy.out HF.out _).mono ?_; rintro e w' ⟨rfl, rfl⟩)
          go_ret
          exact ⟨by simp, hB.out⟩
        · have b1 : ((y : Int) == 0) = false := by rw [beq_eq_false_iff_ne]; omega
          have le : (y : Int) ≤ 18446744073709551615 / (x : Int) := Prod.cast_le 18446744073709551615 x y ((Prod.big_iff (by omega)).2 HF.out)
          have d1 : (((x * y : Nat) : Int) / (x : Int) == (y : Int)) = true := by
            rw [beq_iff_eq, Int.natCast_mul]
            exact Int.mul_ediv_cancel_left _ (by omega)
          have d2 : (((x * y : Nat) : Int) % (x : Int) == 0) = true := by
            rw [beq_iff_eq, Int.natCast_mul]
            exact Int.mul_emod_right _ _
          have d3 : 0 ≤ ((x * y : Nat) : Int) := by omega
          have wy : IntKind.u64.wrap (y : Int) = y := by
            have := hy.out
            unfold Prod.lim at this
            rw [IntKind.wrap_u64]
            omega
          have HW := Lib.hid wy
          clear wy
          have HD := Lib.hid (And.intro d1 d2)
          clear d1 d2
          go_wp2_with (go_at_call 19; refine (Prod.impl_yes _ _ hx.out hy.out HF.out _).mono ?_; rintro e w' ⟨rfl, rfl⟩)
          all_goals first
            | exact absurd HW.out (by assumption)
            | (go_ret; exact ⟨rfl, hB.out⟩)

    · have HF := Lib.hid hf
      clear hf
      have hx0 : x ≠ 0 := fun h => HF.out (by rw [h, Nat.zero_mul]; unfold Prod.lim; omega)
      have hy0 : y ≠ 0 := fun h => HF.out (by rw [h, Nat.mul_zero]; unfold Prod.lim; omega)
      have b0 : ((x : Int) == 0) = false := by rw [beq_eq_false_iff_ne]; omega
      have b1 : ((y : Int) == 0) = false := by rw [beq_eq_false_iff_ne]; omega
      have gt : 18446744073709551615 / (x : Int) < (y : Int) := Prod.cast_lt 18446744073709551615 x y (Nat.lt_of_not_le (fun h => HF.out ((Prod.big_iff (by omega)).1 h)))
      go_wp2_with (go_at_call 19; refine (Prod.impl_no _ _ hx.out hy.out HF.out _).mono ?_; rintro e w' ⟨rfl, rfl⟩)
      go_ret
      exact ⟨rfl, hB.out⟩
  · obtain ⟨m, hm, hm0, hm12, hu, hlo⟩ := classOf_is (r := r) (by omega)
    have HK := Lib.hid hm
    obtain ⟨hu1, hu2⟩ := usable_bd m
    obtain ⟨hv1, hv2⟩ := usable_bd (m - 1)
    obtain ⟨hp1, hp2⟩ := pages_bd m
    have hq1 := slots_pos (c := m) (by omega) (by omega)
    have hq2 := (slots_bd m).2
    have hz1 := (sz_bd m).1
    have hz2 := (sz_bd m).2
    have hf := slots_fit m
    have hf0 : 0 ≤ slots m * sz m := Int.mul_nonneg (by omega) hz1
    have hsz : sz m = usable m + 8 := by
      have := sz_pos (c := m) (by omega) (by omega)
      unfold usable; rw [if_neg (by omega)]; omega
    generalize hU : usable m = U at *
    generalize hV : usable (m - 1) = V at *
    generalize hP : pages m = P at *
    generalize hQ : slots m = Q at *
    generalize hZ : sz m = Z at *
    have HU := Lib.hid hU
    have HV := Lib.hid hV
    have HP := Lib.hid hP
    have HQ := Lib.hid hQ
    have HZ := Lib.hid hZ
    have hzb : (Z != U + 8) = false := by rw [hsz]; simp
    have hr' : r ≤ 1016 := by omega
    clear hm h hU hV hP hQ hZ hsz
    by_cases h0 : 0 < m
    · have hlo' := hlo h0
      clear hlo
      go_wp2_with (first | (go_at_call 13; refine (Cls.classOf_impl _ _ HT.out hr0).mono ?_; rintro e w' ⟨rfl, rfl⟩; rw [HK.out]) | (go_at_call 14; refine (Cls.usable_impl _ _ HT.out).mono ?_; rintro e w' ⟨rfl, rfl⟩; first | rw [HU.out] | rw [HV.out]) | (go_at_call 15; refine (Cls.slotSize _ _ HT.out).mono ?_; rintro e w' ⟨rfl, rfl⟩; rw [HZ.out]) | (go_at_call 16; refine (Cls.slabSlots _ _ HT.out).mono ?_; rintro e w' ⟨rfl, rfl⟩; rw [HQ.out]) | (go_at_call 17; refine (Cls.slabPages _ _ HT.out).mono ?_; rintro e w' ⟨rfl, rfl⟩; rw [HP.out]))
      go_wp2_with fail
      refine (DrwC.drawProduct _ _ _ hl _ (Kd.C_below HC.out hw1)).mono ?_
      rintro e w2 ⟨a, b, ha, hb, rfl, hw2⟩
      have hB := Lib.hid (bstep hw1 hw2)
      obtain ⟨x, rfl⟩ := Int.eq_ofNat_of_zero_le ha.1
      obtain ⟨y, rfl⟩ := Int.eq_ofNat_of_zero_le hb.1
      have hx : Hid (x < Prod.lim) := Lib.hid (by have := ha.2; unfold Prod.lim; omega)
      have hy : Hid (y < Prod.lim) := Lib.hid (by have := hb.2; unfold Prod.lim; omega)
      clear ha hb
      by_cases hf : x * y < Prod.lim
      · have HF := Lib.hid hf
        clear hf
        by_cases h0 : x = 0
        · subst h0
          go_wp2_with (go_at_call 19; refine (Prod.impl_yes _ _ hx.out hy.out HF.out _).mono ?_; rintro e w' ⟨rfl, rfl⟩)
          go_ret
          exact ⟨by simp, hB.out⟩
        · have b0 : ((x : Int) == 0) = false := by rw [beq_eq_false_iff_ne]; omega
          by_cases h1 : y = 0
          · subst h1
            go_wp2_with (go_at_call 19; refine (Prod.impl_yes _ _ hx.out hy.out HF.out _).mono ?_; rintro e w' ⟨rfl, rfl⟩)
            go_ret
            exact ⟨by simp, hB.out⟩
          · have b1 : ((y : Int) == 0) = false := by rw [beq_eq_false_iff_ne]; omega
            have le : (y : Int) ≤ 18446744073709551615 / (x : Int) := Prod.cast_le 18446744073709551615 x y ((Prod.big_iff (by omega)).2 HF.out)
            have d1 : (((x * y : Nat) : Int) / (x : Int) == (y : Int)) = true := by
              rw [beq_iff_eq, Int.natCast_mul]
              exact Int.mul_ediv_cancel_left _ (by omega)
            have d2 : (((x * y : Nat) : Int) % (x : Int) == 0) = true := by
              rw [beq_iff_eq, Int.natCast_mul]
              exact Int.mul_emod_right _ _
            have d3 : 0 ≤ ((x * y : Nat) : Int) := by omega
            have wy : IntKind.u64.wrap (y : Int) = y := by
              have := hy.out
              unfold Prod.lim at this
              rw [IntKind.wrap_u64]
              omega
            have HW := Lib.hid wy
            clear wy
            have HD := Lib.hid (And.intro d1 d2)
            clear d1 d2
            go_wp2_with (go_at_call 19; refine (Prod.impl_yes _ _ hx.out hy.out HF.out _).mono ?_; rintro e w' ⟨rfl, rfl⟩)
            all_goals first
              | exact absurd HW.out (by assumption)
              | (go_ret; exact ⟨rfl, hB.out⟩)
  
      · have HF := Lib.hid hf
        clear hf
        have hx0 : x ≠ 0 := fun h => HF.out (by rw [h, Nat.zero_mul]; unfold Prod.lim; omega)
        have hy0 : y ≠ 0 := fun h => HF.out (by rw [h, Nat.mul_zero]; unfold Prod.lim; omega)
        have b0 : ((x : Int) == 0) = false := by rw [beq_eq_false_iff_ne]; omega
        have b1 : ((y : Int) == 0) = false := by rw [beq_eq_false_iff_ne]; omega
        have gt : 18446744073709551615 / (x : Int) < (y : Int) := Prod.cast_lt 18446744073709551615 x y (Nat.lt_of_not_le (fun h => HF.out ((Prod.big_iff (by omega)).1 h)))
        go_wp2_with (go_at_call 19; refine (Prod.impl_no _ _ hx.out hy.out HF.out _).mono ?_; rintro e w' ⟨rfl, rfl⟩)
        go_ret
        exact ⟨rfl, hB.out⟩
    · clear hlo
      go_wp2_with (first | (go_at_call 13; refine (Cls.classOf_impl _ _ HT.out hr0).mono ?_; rintro e w' ⟨rfl, rfl⟩; rw [HK.out]) | (go_at_call 14; refine (Cls.usable_impl _ _ HT.out).mono ?_; rintro e w' ⟨rfl, rfl⟩; first | rw [HU.out] | rw [HV.out]) | (go_at_call 15; refine (Cls.slotSize _ _ HT.out).mono ?_; rintro e w' ⟨rfl, rfl⟩; rw [HZ.out]) | (go_at_call 16; refine (Cls.slabSlots _ _ HT.out).mono ?_; rintro e w' ⟨rfl, rfl⟩; rw [HQ.out]) | (go_at_call 17; refine (Cls.slabPages _ _ HT.out).mono ?_; rintro e w' ⟨rfl, rfl⟩; rw [HP.out]))
      go_wp2_with fail
      refine (DrwC.drawProduct _ _ _ hl _ (Kd.C_below HC.out hw1)).mono ?_
      rintro e w2 ⟨a, b, ha, hb, rfl, hw2⟩
      have hB := Lib.hid (bstep hw1 hw2)
      obtain ⟨x, rfl⟩ := Int.eq_ofNat_of_zero_le ha.1
      obtain ⟨y, rfl⟩ := Int.eq_ofNat_of_zero_le hb.1
      have hx : Hid (x < Prod.lim) := Lib.hid (by have := ha.2; unfold Prod.lim; omega)
      have hy : Hid (y < Prod.lim) := Lib.hid (by have := hb.2; unfold Prod.lim; omega)
      clear ha hb
      by_cases hf : x * y < Prod.lim
      · have HF := Lib.hid hf
        clear hf
        by_cases h0 : x = 0
        · subst h0
          go_wp2_with (go_at_call 19; refine (Prod.impl_yes _ _ hx.out hy.out HF.out _).mono ?_; rintro e w' ⟨rfl, rfl⟩)
          go_ret
          exact ⟨by simp, hB.out⟩
        · have b0 : ((x : Int) == 0) = false := by rw [beq_eq_false_iff_ne]; omega
          by_cases h1 : y = 0
          · subst h1
            go_wp2_with (go_at_call 19; refine (Prod.impl_yes _ _ hx.out hy.out HF.out _).mono ?_; rintro e w' ⟨rfl, rfl⟩)
            go_ret
            exact ⟨by simp, hB.out⟩
          · have b1 : ((y : Int) == 0) = false := by rw [beq_eq_false_iff_ne]; omega
            have le : (y : Int) ≤ 18446744073709551615 / (x : Int) := Prod.cast_le 18446744073709551615 x y ((Prod.big_iff (by omega)).2 HF.out)
            have d1 : (((x * y : Nat) : Int) / (x : Int) == (y : Int)) = true := by
              rw [beq_iff_eq, Int.natCast_mul]
              exact Int.mul_ediv_cancel_left _ (by omega)
            have d2 : (((x * y : Nat) : Int) % (x : Int) == 0) = true := by
              rw [beq_iff_eq, Int.natCast_mul]
              exact Int.mul_emod_right _ _
            have d3 : 0 ≤ ((x * y : Nat) : Int) := by omega
            have wy : IntKind.u64.wrap (y : Int) = y := by
              have := hy.out
              unfold Prod.lim at this
              rw [IntKind.wrap_u64]
              omega
            have HW := Lib.hid wy
            clear wy
            have HD := Lib.hid (And.intro d1 d2)
            clear d1 d2
            go_wp2_with (go_at_call 19; refine (Prod.impl_yes _ _ hx.out hy.out HF.out _).mono ?_; rintro e w' ⟨rfl, rfl⟩)
            all_goals first
              | exact absurd HW.out (by assumption)
              | (go_ret; exact ⟨rfl, hB.out⟩)
  
      · have HF := Lib.hid hf
        clear hf
        have hx0 : x ≠ 0 := fun h => HF.out (by rw [h, Nat.zero_mul]; unfold Prod.lim; omega)
        have hy0 : y ≠ 0 := fun h => HF.out (by rw [h, Nat.mul_zero]; unfold Prod.lim; omega)
        have b0 : ((x : Int) == 0) = false := by rw [beq_eq_false_iff_ne]; omega
        have b1 : ((y : Int) == 0) = false := by rw [beq_eq_false_iff_ne]; omega
        have gt : 18446744073709551615 / (x : Int) < (y : Int) := Prod.cast_lt 18446744073709551615 x y (Nat.lt_of_not_le (fun h => HF.out ((Prod.big_iff (by omega)).1 h)))
        go_wp2_with (go_at_call 19; refine (Prod.impl_no _ _ hx.out hy.out HF.out _).mono ?_; rintro e w' ⟨rfl, rfl⟩)
        go_ret
        exact ⟨rfl, hB.out⟩
end Go.Proofs.YtklobepkihdbkaaDoor.ClsLaw
