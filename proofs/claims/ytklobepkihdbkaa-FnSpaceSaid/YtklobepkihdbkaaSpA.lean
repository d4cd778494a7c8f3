/- The program's address space: what is asked of all pages of a range. -/
import Derived.Test.YtklobepkihdbkaaSpI
namespace Go.Proofs.Ytklobepkihdbkaa.SpA
open Go.RowKit Go.MuLone Mem Sp SpI
set_option linter.unusedVariables false
set_option linter.unusedSimpArgs false
def pval (A : Pages) (pb : Nat → Nat) (k : Nat) : Value := if (pg A k).isSome = true then .pointer (some ⟨pb k, 0, none⟩) else .pointer none
theorem pval_is (A : Pages) (pb : Nat → Nat) (k : Nat) : ptrC.enc ((pgIn A pb (k : Int)).getD 0) = pval A pb k := by
  unfold pgIn pval
  simp only [Int.toNat_natCast]
  by_cases h : (pg A k).isSome = true
  · rw [if_pos ⟨by omega, h⟩, if_pos h]; rfl
  · rw [if_neg (fun e => h e.2), if_neg h]; rfl
theorem pval_some {A : Pages} {pb : Nat → Nat} {k : Nat} (h : (pg A k).isSome = true) : pval A pb k = .pointer (some ⟨pb k, 0, none⟩) := if_pos h
theorem pval_none {A : Pages} {pb : Nat → Nat} {k : Nat} (h : ¬ (pg A k).isSome = true) : pval A pb k = .pointer none := if_neg h
theorem ret {x y : Bool} (h : x = y) : Ending.returned (.bool x) = .returned (.bool y) := by rw [h]
theorem isnil_is (A : Pages) (pb : Nat → Nat) (k : Nat) (w : World) : Calls Try.prog 75 #[pval A pb k] w fun e w' => e = .returned (.bool (pg A k).isNone) ∧ w = w' := by
  by_cases h : (pg A k).isSome = true
  · rw [pval_some h]
    have h2 : (pg A k).isNone = false := by cases hh : pg A k <;> simp_all
    rw [h2]
    go_enter Try.func75, Try.ntmps75
    go_wp2
    go_ret
    exact ⟨rfl, rfl⟩
  · rw [pval_none h]
    have h2 : (pg A k).isNone = true := by cases hh : pg A k <;> simp_all
    rw [h2]
    go_enter Try.func75, Try.ntmps75
    go_wp2
    go_ret
    exact ⟨rfl, rfl⟩
theorem notnil1_is (A : Pages) (pb : Nat → Nat) (k : Nat) (w : World) : Calls Try.prog 76 #[pval A pb k] w fun e w' => e = .returned (.bool (pg A k).isSome) ∧ w = w' := by
  by_cases h : (pg A k).isSome = true
  · rw [pval_some h, h]
    go_enter Try.func76, Try.ntmps76
    go_wp2
    go_ret
    exact ⟨rfl, rfl⟩
  · rw [pval_none h, Bool.eq_false_iff.2 h]
    go_enter Try.func76, Try.ntmps76
    go_wp2
    go_ret
    exact ⟨rfl, rfl⟩
theorem notnil2_is (A : Pages) (pb : Nat → Nat) (k : Nat) (w : World) : Calls Try.prog 77 #[pval A pb k] w fun e w' => e = .returned (.bool (pg A k).isSome) ∧ w = w' := by
  by_cases h : (pg A k).isSome = true
  · rw [pval_some h, h]
    go_enter Try.func77, Try.ntmps77
    go_wp2
    go_ret
    exact ⟨rfl, rfl⟩
  · rw [pval_none h, Bool.eq_false_iff.2 h]
    go_enter Try.func77, Try.ntmps77
    go_wp2
    go_ret
    exact ⟨rfl, rfl⟩
theorem isopen_is {F : Nat → Prop} {sb mb : Nat} {pb : Nat → Nat} {m bud : Int} {A : Pages} (k : Nat) (w : World) (h : ISp w F sb mb pb m bud A) : Calls Try.prog 86 #[pval A pb k] w fun e w' => e = .returned (.bool (opened (pg A k))) ∧ w = w' := by
  cases hp : pg A k with
  | none =>
    rw [pval_none (by rw [hp]; simp)]
    go_enter Try.func86, Try.ntmps86
    go_wp2
    go_ret
    exact ⟨rfl, rfl⟩
  | some x =>
    obtain ⟨bs, op⟩ := x
    rw [pval_some (by rw [hp]; rfl)]
    obtain ⟨hl, _, hc⟩ := h.hp k bs op hp
    have hc1 := bcell hc 1024
    rw [page_lock hl] at hc1
    clear hc hp h
    go_enter Try.func86, Try.ntmps86
    go_wp2
    go_ret
    exact ⟨ret (by simp [opened]), rfl⟩
set_option maxRecDepth 100000 in
set_option maxHeartbeats 1000000 in
theorem all_is {F : Nat → Prop} {sb mb : Nat} {pb : Nat → Nat} {m bud : Int} {A : Pages} (w : World) (fid : Nat) (p : Pg → Bool) (f c : Nat) (h : ISp w F sb mb pb m bud A) (hb : f + c ≤ 4096) (b : Bool) (hbb : b = true ↔ allR A f c p)
    (eg : ∀ args w, (callFunc fid args).run Try.prog w = .ok (.enter fid args) w) (hcl : ∀ k, Calls Try.prog fid #[pval A pb k] w fun e w' => e = .returned (.bool (p (pg A k))) ∧ w = w') :
    Calls Try.prog 74 #[.pointer (some ⟨sb, 0, none⟩), .int .i64 f, .int .i64 c, .func (.func fid) #[] #[]] w fun e w' => e = .returned (.bool b) ∧ w = w' := by
  have hc2 := bcell h.hs 2
  simp only [List.getElem?_toArray, List.getElem?_cons_succ, List.getElem?_cons_zero] at hc2
  have HM := Lib.hid h.hm
  have HB := Lib.hid hbb
  have HC := Lib.hid hcl
  clear hbb hcl h
  go_enter Try.func74, Try.ntmps74
  go_wp2
  go_loop [9] (fun i => ∃ j : Nat, i = .int .i64 ((f + j : Nat) : Int) ∧ j ≤ c ∧ ∀ k, k < j → p (pg A (f + k)) = true) (fun i => f + c - (intOf i).toNat)
  case atStart => exact ⟨0, rfl, Nat.zero_le _, fun k hk => by omega⟩
  case round =>
    obtain ⟨j, rfl, hj, hall⟩ := hrel
    have HA := Lib.hid hall
    clear hall
    obtain ⟨i, hi⟩ : ∃ i, f + j = i := ⟨_, rfl⟩
    rw [hi]
    have HI := Lib.hid hi
    by_cases hlt : j < c
    · have hlt2 : i < f + c := by omega
      have hw : (Lit.int .i64 (i : Int)).wf = true := WalkArith.wf_i64 (by omega)
      clear hi
      go_wp2_with (at_lookup; refine wp_look Try.underlying3 Try.underlying93 rfl _ _ rfl (by kernel_rfl) rfl HM.out _ rfl hw ?_; rw [pval_is])
      refine (HC.out i).mono ?_
      rintro e w1 ⟨rfl, rfl⟩
      cases hp : p (pg A i) with
      | false =>
        have hbf : b = false := by
          cases b with
          | false => rfl
          | true => have := HB.out.1 rfl j hlt; rw [HI.out, hp] at this; cases this
        subst hbf
        clear hp
        go_wp2
        go_ret
        exact ⟨rfl, rfl⟩
      | true =>
        have HA2 : Hid (∀ k, k < j + 1 → p (pg A (f + k)) = true) := Lib.hid (fun k hk => by
          by_cases e : k = j
          · subst e; rw [HI.out]; exact hp
          · exact HA.out k (by omega))
        clear hp
        go_wp2_with fail
        go_round
        case rel => exact ⟨j + 1, by rw [show f + (j + 1) = i + 1 by have := HI.out; omega]; go_num, by omega, HA2.out⟩
        case measure => simp [intOf]; omega
    · have hbt : b = true := HB.out.2 (fun k hk => HA.out k (by omega))
      subst hbt
      have hlt2 : ¬ i < f + c := by omega
      clear hi
      go_wp2
      go_ret
      exact ⟨rfl, rfl⟩
end Go.Proofs.Ytklobepkihdbkaa.SpA
