/- The program's address space: commit, decommit, lock. -/
import Derived.Test.YtklobepkihdbkaaSpP
import Derived.Deep.DeepCutAuto
import Derived.Deep.CutBlock
namespace Go.Proofs.Ytklobepkihdbkaa.SpC
open Go.RowKit Go.MuLone Mem Sp SpI SpA SpP
set_option linter.unusedVariables false
set_option linter.unusedSimpArgs false
theorem zero_page : Try.zeroCells113 = pageCells zeros false := by kernel_rfl
theorem not_t {b : Bool} (h : ¬ b = true) : b = false := by cases b <;> simp_all
theorem iff_no {p : Prop} (h : ¬ p) : (false = true ↔ p) := ⟨fun e => (by cases e), fun e => absurd e h⟩
theorem pg_next {A : Pages} {f j : Nat} (g : Pg → Pg) (h : f + j < A.length) : pg (setR A f j g) (f + j) = pg A (f + j) := by
  rw [pg_setR h, if_neg (by omega)]
set_option maxRecDepth 100000 in
set_option maxHeartbeats 2000000 in
theorem commit_is {F : Nat → Prop} {sb : Nat} {bud : Int} {A : Pages} (w : World) (f c : Int) (h : ISpace w F sb 0 bud A) :
    Calls Try.prog 56 #[.pointer (some ⟨sb, 0, none⟩), .int .i64 f, .int .i64 c] w (SpPost w F sb bud (commitC bud A f c) (commitA bud A f c)) := by
  have hF : F sb := by obtain ⟨mb, pb, h⟩ := h; exact h.fs
  obtain ⟨w1, hw1⟩ : ∃ x, w.setCell ⟨sb, 0, none⟩ (.int .i32 1) = x := ⟨_, rfl⟩
  have hI1 := h.mutex 1
  have hT1 : Turn w (w.setCell ⟨sb, 0, none⟩ (.int .i32 1)) F := (Turn.refl w F).setCell (.inl hF) _
  rw [hw1] at hI1 hT1
  obtain ⟨mb, pb, hI⟩ := hI1
  have h0 : w.cell? ⟨sb, 0, none⟩ = some (.int .i32 0) := by obtain ⟨mb, pb, h⟩ := h; exact bcell h.hs 0
  have f0 : w.frozen? ⟨sb, 0, none⟩ = false := by obtain ⟨mb, pb, h⟩ := h; exact bfroz h.hs 0
  have k0 : w1.cell? ⟨sb, 0, none⟩ = some (.int .i32 1) := bcell hI.hs 0
  have k2 : w1.cell? ⟨sb, 2, none⟩ = some (.map (some mb)) := bcell hI.hs 2
  have k3 : w1.cell? ⟨sb, 3, none⟩ = some (.int .i64 (A.length : Int)) := bcell hI.hs 3
  have k4 : w1.cell? ⟨sb, 4, none⟩ = some (.int .i64 bud) := bcell hI.hs 4
  have g0 : w1.frozen? ⟨sb, 0, none⟩ = false := bfroz hI.hs 0
  have hlen := hI.len
  have HI := Lib.hid hI
  have HT := Lib.hid hT1
  have HW := Lib.hid hw1
  have HF := Lib.hid hF
  have hbd : ∀ k, F k → F k ∨ w.heap.size ≤ k := fun k hk => .inl hk
  have HBD := Lib.hid hbd
  clear h hI hT1 hF hbd hw1
  by_cases c1 : within A.length f c
  · obtain ⟨fn, rfl⟩ := Int.eq_ofNat_of_zero_le c1.2.1
    obtain ⟨cn, rfl⟩ := Int.eq_ofNat_of_zero_le (show 0 ≤ c by have := c1.1; omega)
    have hb : fn + cn ≤ A.length := by have := c1.2.2; omega
    have hcn : 1 ≤ cn := by have := c1.1; omega
    by_cases c2 : allR A fn cn Option.isNone
    · by_cases c3 : (onCount A : Int) + cn > bud
      · have e1 : commitC bud A fn cn = 1 := by unfold commitC; rw [Int.toNat_natCast, Int.toNat_natCast, if_pos ⟨c1, c2⟩, if_pos c3]
        have e2 : commitA bud A fn cn = A := by unfold commitA; rw [e1, if_neg (by omega)]
        rw [e1, e2]
        have HC1 := Lib.hid c1
        have HC2 := Lib.hid c2
        clear c1 c2 e1 e2
        go_enter_defers Try.func56, Try.ntmps56
        go_wp2_with (first
          | (go_at_call 71; refine (lock_free Try.muLib ⟨sb, 0, none⟩ _ h0 f0).mono ?_; rintro e w' ⟨rfl, rfl⟩; rw [HW.out])
          | (go_at_call 73; refine (within_is w1 fn cn k3 hlen).mono ?_; rintro e w' ⟨rfl, rfl⟩; rw [decide_eq_true HC1.out])
          | (go_at_call 74; refine (all_is w1 75 Option.isNone fn cn HI.out (by omega) true ⟨fun _ => HC2.out, fun _ => rfl⟩ (fun _ _ => by kernel_rfl) (fun k => isnil_is A pb k w1)).mono ?_; rintro e w' ⟨rfl, rfl⟩))
        have hlr : ∀ n : Nat, (Builtin.len_ #[93] 3 #[.map (some mb)]).run Try.prog (w1.drewN n) = .ok (.int .i64 (onCount A)) (w1.drewN n) := fun n => PMap.len_run Try.underlying3 Try.underlying93 (HI.out.hm.move (w' := w1.drewN n) rfl) 3
        have hoc := onCount_le A
        have c4 : decide (bud < (onCount A : Int) + cn) = true := by simpa using c3
        clear c3
        go_quiet (fail)
        clear hlr
        have hIq : ISp (w1.drewN nq) F sb mb pb 1 bud A := HI.out.move (fun _ _ => rfl) (Nat.le_refl _)
        have hTq : Turn w (w1.drewN nq) F := HT.out.drewN nq
        obtain ⟨wq, hwq⟩ : ∃ x, w1.drewN nq = x := ⟨_, rfl⟩
        rw [hwq] at hIq hTq ⊢
        have q0 := bcell hIq.hs 0
        have z0 := bfroz hIq.hs 0
        have HIq := Lib.hid hIq
        have HTq := Lib.hid hTq
        clear hIq hTq hwq k0 k2 k3 k4 g0
        go_wp2
        refine leaves_cons (f := 72) (args := #[.pointer (some ⟨sb, 0, none⟩)]) (by simp) (by simp [go_sem]) ?_
        refine (unlock_deferred Try.muLib ⟨sb, 0, none⟩ .returning _ q0 z0).mono ?_
        rintro e u' w'' ⟨rfl, rfl, rfl⟩
        exact ⟨_, results_tmp rfl _ _ _, sp_fin ⟨mb, pb, HIq.out⟩ HBD.out HTq.out HF.out⟩
      · have e1 : commitC bud A fn cn = 0 := by unfold commitC; rw [Int.toNat_natCast, Int.toNat_natCast, if_pos ⟨c1, c2⟩, if_neg c3]
        have e2 : commitA bud A fn cn = setR A fn cn (fun _ => some (zeros, true)) := by unfold commitA; rw [e1, if_pos rfl, Int.toNat_natCast, Int.toNat_natCast]
        rw [e1, e2]
        have HC1 := Lib.hid c1
        have HC2 := Lib.hid c2
        clear c1 c2 e1 e2
        go_enter_defers Try.func56, Try.ntmps56
        go_wp2_with (first
          | (go_at_call 71; refine (lock_free Try.muLib ⟨sb, 0, none⟩ _ h0 f0).mono ?_; rintro e w' ⟨rfl, rfl⟩; rw [HW.out])
          | (go_at_call 73; refine (within_is w1 fn cn k3 hlen).mono ?_; rintro e w' ⟨rfl, rfl⟩; rw [decide_eq_true HC1.out])
          | (go_at_call 74; refine (all_is w1 75 Option.isNone fn cn HI.out (by omega) true ⟨fun _ => HC2.out, fun _ => rfl⟩ (fun _ _ => by kernel_rfl) (fun k => isnil_is A pb k w1)).mono ?_; rintro e w' ⟨rfl, rfl⟩))
        have hlr : ∀ n : Nat, (Builtin.len_ #[93] 3 #[.map (some mb)]).run Try.prog (w1.drewN n) = .ok (.int .i64 (onCount A)) (w1.drewN n) := fun n => PMap.len_run Try.underlying3 Try.underlying93 (HI.out.hm.move (w' := w1.drewN n) rfl) 3
        have hoc := onCount_le A
        have c4 : decide (bud < (onCount A : Int) + cn) = false := by simpa using c3
        clear c3
        go_quiet (fail)
        clear hlr
        have hIq : ISp (w1.drewN nq) F sb mb pb 1 bud A := HI.out.move (fun _ _ => rfl) (Nat.le_refl _)
        have hTq : Turn w (w1.drewN nq) F := HT.out.drewN nq
        obtain ⟨wq, hwq⟩ : ∃ x, w1.drewN nq = x := ⟨_, rfl⟩
        rw [hwq] at hIq hTq ⊢
        have q0 := bcell hIq.hs 0
        have z0 := bfroz hIq.hs 0
        have HIq := Lib.hid hIq
        have HTq := Lib.hid hTq
        clear hIq hTq hwq k0 k2 k3 k4 g0
        go_upto_block 0 with fail
        go_wp2_with fail
        have HI0 : Hid (ISp wq F sb mb pb 1 bud (setR A fn 0 (fun _ => some (zeros, true)))) := by rw [setR_zero]; exact HIq
        clear HIq q0 z0 HI
        go_loopw [7] (fun i W => ∃ j : Nat, i = .int .i64 ((fn + j : Nat) : Int) ∧ j ≤ cn ∧ ∃ G pb, Hid (ISp W G sb mb pb 1 bud (setR A fn j (fun _ => some (zeros, true)))) ∧ Hid (∀ k, G k → F k ∨ w.heap.size ≤ k) ∧ Hid (Turn w W F)) (fun i _ => fn + cn - (intOf i).toNat)
        case atStart => exact ⟨0, rfl, Nat.zero_le _, F, pb, HI0, HBD, HTq⟩
        case round =>
          clear HI0 HTq HT
          obtain ⟨j, rfl, hj, G, pb, HI, HG, HT⟩ := hrel
          obtain ⟨i, hi⟩ : ∃ i, fn + j = i := ⟨_, rfl⟩
          rw [hi]
          by_cases hlt : j < cn
          · have hlt2 : i < fn + cn := by omega
            have hw : (Lit.int .i64 (i : Int)).wf = true := WalkArith.wf_i64 (by omega)
            have hn : pg (setR A fn j (fun _ => some (zeros, true))) i = none := by
              rw [← hi, pg_next _ (by omega)]
              have := HC2.out j hlt
              simpa using this
            have hnx := setR_succ (g := fun _ => some (zeros, true)) (show fn + j < A.length by omega)
            rw [hi] at hnx
            have HNX := Lib.hid hnx
            have HN := Lib.hid hn
            have hil : i < (setR A fn j (fun _ => some (zeros, true))).length := by rw [setR_len]; omega
            obtain ⟨B, hB⟩ : ∃ B, setR A fn j (fun _ => some (zeros, true)) = B := ⟨_, rfl⟩
            rw [hB] at HI HNX HN hil
            have k0 := bcell HI.out.hs 0
            have k2 := bcell HI.out.hs 2
            simp only [List.getElem?_toArray, List.getElem?_cons_succ, List.getElem?_cons_zero] at k0 k2
            have HM := Lib.hid (HI.out.hm.move (w' := wr.alloc (.cells (pageCells zeros false) 113)) (((Below.refl wr.heap.size wr).alloc (Nat.le_refl _) _).block mb (HI.out.bound _ HI.out.fm)))
            have hoc := onCount_le B
            have hol : B.length ≤ 4096 := HI.out.len
            have hzp := zero_page
            have HIX := Lib.hid hi
            clear hnx hn hi hB
            go_wp2_with (at_mapUpdate; refine wp_store Try.underlying3 Try.underlying93 rfl _ _ _ rfl rfl HM.out (by unfold maxLen; omega) _ rfl hw (wr.heap.size + 1) rfl trivial ?_; intro w5 hm5 ht5; have HI5 := Lib.hid (SpP.ISp.commit1 HI.out hil HN.out rfl hm5 ht5); have HT5 := Lib.hid ((HT.out.alloc (.cells (pageCells zeros false) 113)).grown ht5.grown (fun b hb => by cases hb; exact HG.out _ HI.out.fm)); have HG5 : Hid (∀ k, (G k ∨ k = wr.heap.size) → F k ∨ w.heap.size ≤ k) := Lib.hid (fun k hk => hk.elim (HG.out k) (fun e => .inr (by subst e; exact HT.out.size))); clear hm5 ht5)
            rw [← HNX.out] at HI5
            go_roundw
            case rel => exact ⟨j + 1, by rw [show fn + (j + 1) = i + 1 by have := HIX.out; omega]; go_num, by omega, _, _, HI5, HG5, HT5⟩
            case measure => simp [intOf]; omega
          · obtain rfl : cn = j := by omega
            have hlt2 : ¬ i < fn + cn := by omega
            have k0 := bcell HI.out.hs 0
            have g0 := bfroz HI.out.hs 0
            clear hi
            go_wp2
            refine leaves_cons (f := 72) (args := #[.pointer (some ⟨sb, 0, none⟩)]) (by simp) (by simp [go_sem]) ?_
            refine (unlock_deferred Try.muLib ⟨sb, 0, none⟩ .returning _ k0 g0).mono ?_
            rintro e u' w'' ⟨rfl, rfl, rfl⟩
            exact ⟨_, results_tmp rfl _ _ _, sp_fin ⟨mb, pb, HI.out⟩ HG.out HT.out HF.out⟩
    · have e1 : commitC bud A fn cn = 6 := by unfold commitC; rw [Int.toNat_natCast, Int.toNat_natCast, if_neg (fun e => c2 e.2)]
      have e2 : commitA bud A fn cn = A := by unfold commitA; rw [e1, if_neg (by omega)]
      rw [e1, e2]
      have HC1 := Lib.hid c1
      have HC2 := Lib.hid c2
      clear c1 c2 e1 e2
      go_enter_defers Try.func56, Try.ntmps56
      go_wp2_with (first
        | (go_at_call 71; refine (lock_free Try.muLib ⟨sb, 0, none⟩ _ h0 f0).mono ?_; rintro e w' ⟨rfl, rfl⟩; rw [HW.out])
        | (go_at_call 73; refine (within_is w1 fn cn k3 hlen).mono ?_; rintro e w' ⟨rfl, rfl⟩; rw [decide_eq_true HC1.out])
        | (go_at_call 74; refine (all_is w1 75 Option.isNone fn cn HI.out (by omega) false (iff_no HC2.out) (fun _ _ => by kernel_rfl) (fun k => isnil_is A pb k w1)).mono ?_; rintro e w' ⟨rfl, rfl⟩))
      refine leaves_cons (f := 72) (args := #[.pointer (some ⟨sb, 0, none⟩)]) (by simp) (by simp [go_sem]) ?_
      refine (unlock_deferred Try.muLib ⟨sb, 0, none⟩ .returning _ k0 g0).mono ?_
      rintro e u' w'' ⟨rfl, rfl, rfl⟩
      exact ⟨_, results_tmp rfl _ _ _, sp_fin ⟨mb, pb, HI.out⟩ HBD.out HT.out HF.out⟩
  · have e1 : commitC bud A f c = 6 := by unfold commitC; rw [if_neg (fun e => c1 e.1)]
    have e2 : commitA bud A f c = A := by unfold commitA; rw [e1, if_neg (by omega)]
    rw [e1, e2]
    have HC1 := Lib.hid c1
    clear c1 e1 e2
    go_enter_defers Try.func56, Try.ntmps56
    go_wp2_with (first
      | (go_at_call 71; refine (lock_free Try.muLib ⟨sb, 0, none⟩ _ h0 f0).mono ?_; rintro e w' ⟨rfl, rfl⟩; rw [HW.out])
      | (go_at_call 73; refine (within_is w1 f c k3 hlen).mono ?_; rintro e w' ⟨rfl, rfl⟩; rw [decide_eq_false HC1.out]))
    refine leaves_cons (f := 72) (args := #[.pointer (some ⟨sb, 0, none⟩)]) (by simp) (by simp [go_sem]) ?_
    refine (unlock_deferred Try.muLib ⟨sb, 0, none⟩ .returning _ k0 g0).mono ?_
    rintro e u' w'' ⟨rfl, rfl, rfl⟩
    exact ⟨_, results_tmp rfl _ _ _, sp_fin ⟨mb, pb, HI.out⟩ HBD.out HT.out HF.out⟩
set_option maxRecDepth 100000 in
set_option maxHeartbeats 2000000 in
theorem decommit_is {F : Nat → Prop} {sb : Nat} {bud : Int} {A : Pages} (w : World) (f c : Int) (h : ISpace w F sb 0 bud A) :
    Calls Try.prog 57 #[.pointer (some ⟨sb, 0, none⟩), .int .i64 f, .int .i64 c] w (SpPost w F sb bud (rangeC A f c) (decommitA A f c)) := by
  have hF : F sb := by obtain ⟨mb, pb, h⟩ := h; exact h.fs
  obtain ⟨w1, hw1⟩ : ∃ x, w.setCell ⟨sb, 0, none⟩ (.int .i32 1) = x := ⟨_, rfl⟩
  have hI1 := h.mutex 1
  have hT1 : Turn w (w.setCell ⟨sb, 0, none⟩ (.int .i32 1)) F := (Turn.refl w F).setCell (.inl hF) _
  rw [hw1] at hI1 hT1
  obtain ⟨mb, pb, hI⟩ := hI1
  have h0 : w.cell? ⟨sb, 0, none⟩ = some (.int .i32 0) := by obtain ⟨mb, pb, h⟩ := h; exact bcell h.hs 0
  have f0 : w.frozen? ⟨sb, 0, none⟩ = false := by obtain ⟨mb, pb, h⟩ := h; exact bfroz h.hs 0
  have k0 : w1.cell? ⟨sb, 0, none⟩ = some (.int .i32 1) := bcell hI.hs 0
  have k2 : w1.cell? ⟨sb, 2, none⟩ = some (.map (some mb)) := bcell hI.hs 2
  have k3 : w1.cell? ⟨sb, 3, none⟩ = some (.int .i64 (A.length : Int)) := bcell hI.hs 3
  have k4 : w1.cell? ⟨sb, 4, none⟩ = some (.int .i64 bud) := bcell hI.hs 4
  have g0 : w1.frozen? ⟨sb, 0, none⟩ = false := bfroz hI.hs 0
  have hlen := hI.len
  have HI := Lib.hid hI
  have HT := Lib.hid hT1
  have HW := Lib.hid hw1
  have HF := Lib.hid hF
  have hbd : ∀ k, F k → F k ∨ w.heap.size ≤ k := fun k hk => .inl hk
  have HBD := Lib.hid hbd
  clear h hI hT1 hF hbd hw1
  by_cases c1 : within A.length f c
  · obtain ⟨fn, rfl⟩ := Int.eq_ofNat_of_zero_le c1.2.1
    obtain ⟨cn, rfl⟩ := Int.eq_ofNat_of_zero_le (show 0 ≤ c by have := c1.1; omega)
    have hb : fn + cn ≤ A.length := by have := c1.2.2; omega
    have hcn : 1 ≤ cn := by have := c1.1; omega
    by_cases c2 : allR A fn cn Option.isSome
    · have e1 : rangeC A fn cn = 0 := by unfold rangeC; rw [Int.toNat_natCast, Int.toNat_natCast, if_pos ⟨c1, c2⟩]
      have e2 : decommitA A fn cn = setR A fn cn (fun _ => none) := by unfold decommitA; rw [e1, if_pos rfl, Int.toNat_natCast, Int.toNat_natCast]
      rw [e1, e2]
      have HC1 := Lib.hid c1
      have HC2 := Lib.hid c2
      clear c1 c2 e1 e2
      have HI0 : Hid (ISp w1 F sb mb pb 1 bud (setR A fn 0 (fun _ => none))) := by rw [setR_zero]; exact HI
      go_enter_defers Try.func57, Try.ntmps57
      go_wp2_with (first
        | (go_at_call 71; refine (lock_free Try.muLib ⟨sb, 0, none⟩ _ h0 f0).mono ?_; rintro e w' ⟨rfl, rfl⟩; rw [HW.out])
        | (go_at_call 73; refine (within_is w1 fn cn k3 hlen).mono ?_; rintro e w' ⟨rfl, rfl⟩; rw [decide_eq_true HC1.out])
        | (go_at_call 74; refine (all_is w1 76 Option.isSome fn cn HI.out (by omega) true ⟨fun _ => HC2.out, fun _ => rfl⟩ (fun _ _ => by kernel_rfl) (fun k => notnil1_is A pb k w1)).mono ?_; rintro e w' ⟨rfl, rfl⟩))
      clear HI k0 k2 k3 k4 g0
      go_loopw [7] (fun i W => ∃ j : Nat, i = .int .i64 ((fn + j : Nat) : Int) ∧ j ≤ cn ∧ Hid (ISp W F sb mb pb 1 bud (setR A fn j (fun _ => none))) ∧ Hid (Turn w W F)) (fun i _ => fn + cn - (intOf i).toNat)
      case atStart => exact ⟨0, rfl, Nat.zero_le _, HI0, HT⟩
      case round =>
        clear HI0 HT
        obtain ⟨j, rfl, hj, HI, HT⟩ := hrel
        obtain ⟨i, hi⟩ : ∃ i, fn + j = i := ⟨_, rfl⟩
        rw [hi]
        by_cases hlt : j < cn
        · have hlt2 : i < fn + cn := by omega
          have hw : (Lit.int .i64 (i : Int)).wf = true := WalkArith.wf_i64 (by omega)
          have hn : pg (setR A fn j (fun _ => none)) i = pg A i := by rw [← hi, pg_next _ (by omega)]
          have hs : (pg A i).isSome = true := by rw [← hi]; exact HC2.out j hlt
          have hnx := setR_succ (g := (fun _ => none)) (show fn + j < A.length by omega)
          rw [hi] at hnx
          try rw [← hn] at hnx
          rw [← hn] at hs
          have HNX := Lib.hid hnx
          have HS := Lib.hid hs
          obtain ⟨B, hB⟩ : ∃ B, setR A fn j (fun _ => none) = B := ⟨_, rfl⟩
          rw [hB] at HI HNX HS
          have k2 := bcell HI.out.hs 2
          simp only [List.getElem?_toArray, List.getElem?_cons_succ, List.getElem?_cons_zero] at k2
          have HIX := Lib.hid hi
          clear hnx hn hi hB hs
          go_wp2_with (at_delete; refine wp_delete Try.underlying3 Try.underlying93 rfl _ _ rfl rfl HI.out.hm _ rfl hw ?_; intro w5 hm5 ht5; have HI5 := Lib.hid (SpP.ISp.drop1 HI.out HS.out hm5 ht5); have HT5 := Lib.hid (HT.out.grown ht5.grown (fun b hb => by cases hb; exact .inl HI.out.fm)); clear hm5 ht5)
          rw [← HNX.out] at HI5
          go_roundw
          case rel => exact ⟨j + 1, by rw [show fn + (j + 1) = i + 1 by have := HIX.out; omega]; go_num, by omega, HI5, HT5⟩
          case measure => simp [intOf]; omega
        · obtain rfl : cn = j := by omega
          have hlt2 : ¬ i < fn + cn := by omega
          have k0 := bcell HI.out.hs 0
          have g0 := bfroz HI.out.hs 0
          clear hi
          go_wp2
          refine leaves_cons (f := 72) (args := #[.pointer (some ⟨sb, 0, none⟩)]) (by simp) (by simp [go_sem]) ?_
          refine (unlock_deferred Try.muLib ⟨sb, 0, none⟩ .returning _ k0 g0).mono ?_
          rintro e u' w'' ⟨rfl, rfl, rfl⟩
          exact ⟨_, results_tmp rfl _ _ _, sp_fin ⟨mb, pb, HI.out⟩ HBD.out HT.out HF.out⟩
    · have e1 : rangeC A fn cn = 6 := by unfold rangeC; rw [Int.toNat_natCast, Int.toNat_natCast, if_neg (fun e => c2 e.2)]
      have e2 : decommitA A fn cn = A := by unfold decommitA; rw [e1, if_neg (by omega)]
      rw [e1, e2]
      have HC1 := Lib.hid c1
      have HC2 := Lib.hid c2
      clear c1 c2 e1 e2
      go_enter_defers Try.func57, Try.ntmps57
      go_wp2_with (first
        | (go_at_call 71; refine (lock_free Try.muLib ⟨sb, 0, none⟩ _ h0 f0).mono ?_; rintro e w' ⟨rfl, rfl⟩; rw [HW.out])
        | (go_at_call 73; refine (within_is w1 fn cn k3 hlen).mono ?_; rintro e w' ⟨rfl, rfl⟩; rw [decide_eq_true HC1.out])
        | (go_at_call 74; refine (all_is w1 76 Option.isSome fn cn HI.out (by omega) false (iff_no HC2.out) (fun _ _ => by kernel_rfl) (fun k => notnil1_is A pb k w1)).mono ?_; rintro e w' ⟨rfl, rfl⟩))
      refine leaves_cons (f := 72) (args := #[.pointer (some ⟨sb, 0, none⟩)]) (by simp) (by simp [go_sem]) ?_
      refine (unlock_deferred Try.muLib ⟨sb, 0, none⟩ .returning _ k0 g0).mono ?_
      rintro e u' w'' ⟨rfl, rfl, rfl⟩
      exact ⟨_, results_tmp rfl _ _ _, sp_fin ⟨mb, pb, HI.out⟩ HBD.out HT.out HF.out⟩
  · have e1 : rangeC A f c = 6 := by unfold rangeC; rw [if_neg (fun e => c1 e.1)]
    have e2 : decommitA A f c = A := by unfold decommitA; rw [e1, if_neg (by omega)]
    rw [e1, e2]
    have HC1 := Lib.hid c1
    clear c1 e1 e2
    go_enter_defers Try.func57, Try.ntmps57
    go_wp2_with (first
      | (go_at_call 71; refine (lock_free Try.muLib ⟨sb, 0, none⟩ _ h0 f0).mono ?_; rintro e w' ⟨rfl, rfl⟩; rw [HW.out])
      | (go_at_call 73; refine (within_is w1 f c k3 hlen).mono ?_; rintro e w' ⟨rfl, rfl⟩; rw [decide_eq_false HC1.out]))
    refine leaves_cons (f := 72) (args := #[.pointer (some ⟨sb, 0, none⟩)]) (by simp) (by simp [go_sem]) ?_
    refine (unlock_deferred Try.muLib ⟨sb, 0, none⟩ .returning _ k0 g0).mono ?_
    rintro e u' w'' ⟨rfl, rfl, rfl⟩
    exact ⟨_, results_tmp rfl _ _ _, sp_fin ⟨mb, pb, HI.out⟩ HBD.out HT.out HF.out⟩
set_option maxRecDepth 100000 in
set_option maxHeartbeats 2000000 in
theorem lock_is {F : Nat → Prop} {sb : Nat} {bud : Int} {A : Pages} (w : World) (f c : Int) (lk : Bool) (h : ISpace w F sb 0 bud A) :
    Calls Try.prog 58 #[.pointer (some ⟨sb, 0, none⟩), .int .i64 f, .int .i64 c, .bool lk] w (SpPost w F sb bud (rangeC A f c) (lockA A f c (!lk))) := by
  have hF : F sb := by obtain ⟨mb, pb, h⟩ := h; exact h.fs
  obtain ⟨w1, hw1⟩ : ∃ x, w.setCell ⟨sb, 0, none⟩ (.int .i32 1) = x := ⟨_, rfl⟩
  have hI1 := h.mutex 1
  have hT1 : Turn w (w.setCell ⟨sb, 0, none⟩ (.int .i32 1)) F := (Turn.refl w F).setCell (.inl hF) _
  rw [hw1] at hI1 hT1
  obtain ⟨mb, pb, hI⟩ := hI1
  have h0 : w.cell? ⟨sb, 0, none⟩ = some (.int .i32 0) := by obtain ⟨mb, pb, h⟩ := h; exact bcell h.hs 0
  have f0 : w.frozen? ⟨sb, 0, none⟩ = false := by obtain ⟨mb, pb, h⟩ := h; exact bfroz h.hs 0
  have k0 : w1.cell? ⟨sb, 0, none⟩ = some (.int .i32 1) := bcell hI.hs 0
  have k2 : w1.cell? ⟨sb, 2, none⟩ = some (.map (some mb)) := bcell hI.hs 2
  have k3 : w1.cell? ⟨sb, 3, none⟩ = some (.int .i64 (A.length : Int)) := bcell hI.hs 3
  have k4 : w1.cell? ⟨sb, 4, none⟩ = some (.int .i64 bud) := bcell hI.hs 4
  have g0 : w1.frozen? ⟨sb, 0, none⟩ = false := bfroz hI.hs 0
  have hlen := hI.len
  have HI := Lib.hid hI
  have HT := Lib.hid hT1
  have HW := Lib.hid hw1
  have HF := Lib.hid hF
  have hbd : ∀ k, F k → F k ∨ w.heap.size ≤ k := fun k hk => .inl hk
  have HBD := Lib.hid hbd
  clear h hI hT1 hF hbd hw1
  by_cases c1 : within A.length f c
  · obtain ⟨fn, rfl⟩ := Int.eq_ofNat_of_zero_le c1.2.1
    obtain ⟨cn, rfl⟩ := Int.eq_ofNat_of_zero_le (show 0 ≤ c by have := c1.1; omega)
    have hb : fn + cn ≤ A.length := by have := c1.2.2; omega
    have hcn : 1 ≤ cn := by have := c1.1; omega
    by_cases c2 : allR A fn cn Option.isSome
    · have e1 : rangeC A fn cn = 0 := by unfold rangeC; rw [Int.toNat_natCast, Int.toNat_natCast, if_pos ⟨c1, c2⟩]
      have e2 : lockA A fn cn (!lk) = setR A fn cn (fun x => x.map fun y => (y.1, !lk)) := by unfold lockA; rw [e1, if_pos rfl, Int.toNat_natCast, Int.toNat_natCast]
      rw [e1, e2]
      have HC1 := Lib.hid c1
      have HC2 := Lib.hid c2
      clear c1 c2 e1 e2
      have HI0 : Hid (ISp w1 F sb mb pb 1 bud (setR A fn 0 (fun x => x.map fun y => (y.1, !lk)))) := by rw [setR_zero]; exact HI
      go_enter_defers Try.func58, Try.ntmps58
      go_wp2_with (first
        | (go_at_call 71; refine (lock_free Try.muLib ⟨sb, 0, none⟩ _ h0 f0).mono ?_; rintro e w' ⟨rfl, rfl⟩; rw [HW.out])
        | (go_at_call 73; refine (within_is w1 fn cn k3 hlen).mono ?_; rintro e w' ⟨rfl, rfl⟩; rw [decide_eq_true HC1.out])
        | (go_at_call 74; refine (all_is w1 77 Option.isSome fn cn HI.out (by omega) true ⟨fun _ => HC2.out, fun _ => rfl⟩ (fun _ _ => by kernel_rfl) (fun k => notnil2_is A pb k w1)).mono ?_; rintro e w' ⟨rfl, rfl⟩))
      clear HI k0 k2 k3 k4 g0
      go_loopw [9] (fun i W => ∃ j : Nat, i = .int .i64 ((fn + j : Nat) : Int) ∧ j ≤ cn ∧ Hid (ISp W F sb mb pb 1 bud (setR A fn j (fun x => x.map fun y => (y.1, !lk)))) ∧ Hid (Turn w W F)) (fun i _ => fn + cn - (intOf i).toNat)
      case atStart => exact ⟨0, rfl, Nat.zero_le _, HI0, HT⟩
      case round =>
        clear HI0 HT
        obtain ⟨j, rfl, hj, HI, HT⟩ := hrel
        obtain ⟨i, hi⟩ : ∃ i, fn + j = i := ⟨_, rfl⟩
        rw [hi]
        by_cases hlt : j < cn
        · have hlt2 : i < fn + cn := by omega
          have hw : (Lit.int .i64 (i : Int)).wf = true := WalkArith.wf_i64 (by omega)
          have hn : pg (setR A fn j (fun x => x.map fun y => (y.1, !lk))) i = pg A i := by rw [← hi, pg_next _ (by omega)]
          have hs : (pg A i).isSome = true := by rw [← hi]; exact HC2.out j hlt
          have hnx := setR_succ (g := (fun x => x.map fun y => (y.1, !lk))) (show fn + j < A.length by omega)
          rw [hi] at hnx
          try rw [← hn] at hnx
          rw [← hn] at hs
          have HNX := Lib.hid hnx
          have HS := Lib.hid hs
          obtain ⟨B, hB⟩ : ∃ B, setR A fn j (fun x => x.map fun y => (y.1, !lk)) = B := ⟨_, rfl⟩
          rw [hB] at HI HNX HS
          have k2 := bcell HI.out.hs 2
          simp only [List.getElem?_toArray, List.getElem?_cons_succ, List.getElem?_cons_zero] at k2
          have HIX := Lib.hid hi
          clear hnx hn hi hB hs
          obtain ⟨⟨bs, op⟩, hx⟩ := Option.isSome_iff_exists.1 HS.out
          obtain ⟨hl, hFp, hbk⟩ := HI.out.hp i bs op hx
          have hc := bcell hbk 1024
          rw [page_lock hl] at hc
          have hfz := bfroz hbk 1024
          have hbs := bset hbk 1024 (.bool lk)
          rw [page_relock hl] at hbs
          have HI5 := Lib.hid (SpP.ISp.page1 (op' := !lk) (w2 := wr.setCell ⟨pb i, 1024, none⟩ (.bool lk)) HI.out hx hl (by rw [Bool.not_not]; exact hbs) (set_size _ _ _) (fun q hq => Below.heap_setCell _ _ _ _ hq))
          have HT5 := Lib.hid (HT.out.setCell (p := ⟨pb i, 1024, none⟩) (.inl hFp) (.bool lk))
          rw [hx, Option.map_some] at HNX
          have hpv : pval B pb i = .pointer (some ⟨pb i, 0, none⟩) := pval_some HS.out
          have HPV := Lib.hid hpv
          have HX := Lib.hid hx
          clear hbk hbs hpv hl hFp hx
          go_wp2_with (at_lookup; refine wp_look Try.underlying3 Try.underlying93 rfl _ _ rfl (by kernel_rfl) rfl HI.out.hm _ rfl hw ?_; rw [pval_is, HPV.out])
          rw [← HNX.out] at HI5
          go_roundw
          case rel => exact ⟨j + 1, by rw [show fn + (j + 1) = i + 1 by have := HIX.out; omega]; go_num, by omega, HI5, HT5⟩
          case measure => simp [intOf]; omega
        · obtain rfl : cn = j := by omega
          have hlt2 : ¬ i < fn + cn := by omega
          have k0 := bcell HI.out.hs 0
          have g0 := bfroz HI.out.hs 0
          clear hi
          go_wp2
          refine leaves_cons (f := 72) (args := #[.pointer (some ⟨sb, 0, none⟩)]) (by simp) (by simp [go_sem]) ?_
          refine (unlock_deferred Try.muLib ⟨sb, 0, none⟩ .returning _ k0 g0).mono ?_
          rintro e u' w'' ⟨rfl, rfl, rfl⟩
          exact ⟨_, results_tmp rfl _ _ _, sp_fin ⟨mb, pb, HI.out⟩ HBD.out HT.out HF.out⟩
    · have e1 : rangeC A fn cn = 6 := by unfold rangeC; rw [Int.toNat_natCast, Int.toNat_natCast, if_neg (fun e => c2 e.2)]
      have e2 : lockA A fn cn (!lk) = A := by unfold lockA; rw [e1, if_neg (by omega)]
      rw [e1, e2]
      have HC1 := Lib.hid c1
      have HC2 := Lib.hid c2
      clear c1 c2 e1 e2
      go_enter_defers Try.func58, Try.ntmps58
      go_wp2_with (first
        | (go_at_call 71; refine (lock_free Try.muLib ⟨sb, 0, none⟩ _ h0 f0).mono ?_; rintro e w' ⟨rfl, rfl⟩; rw [HW.out])
        | (go_at_call 73; refine (within_is w1 fn cn k3 hlen).mono ?_; rintro e w' ⟨rfl, rfl⟩; rw [decide_eq_true HC1.out])
        | (go_at_call 74; refine (all_is w1 77 Option.isSome fn cn HI.out (by omega) false (iff_no HC2.out) (fun _ _ => by kernel_rfl) (fun k => notnil2_is A pb k w1)).mono ?_; rintro e w' ⟨rfl, rfl⟩))
      refine leaves_cons (f := 72) (args := #[.pointer (some ⟨sb, 0, none⟩)]) (by simp) (by simp [go_sem]) ?_
      refine (unlock_deferred Try.muLib ⟨sb, 0, none⟩ .returning _ k0 g0).mono ?_
      rintro e u' w'' ⟨rfl, rfl, rfl⟩
      exact ⟨_, results_tmp rfl _ _ _, sp_fin ⟨mb, pb, HI.out⟩ HBD.out HT.out HF.out⟩
  · have e1 : rangeC A f c = 6 := by unfold rangeC; rw [if_neg (fun e => c1 e.1)]
    have e2 : lockA A f c (!lk) = A := by unfold lockA; rw [e1, if_neg (by omega)]
    rw [e1, e2]
    have HC1 := Lib.hid c1
    clear c1 e1 e2
    go_enter_defers Try.func58, Try.ntmps58
    go_wp2_with (first
      | (go_at_call 71; refine (lock_free Try.muLib ⟨sb, 0, none⟩ _ h0 f0).mono ?_; rintro e w' ⟨rfl, rfl⟩; rw [HW.out])
      | (go_at_call 73; refine (within_is w1 f c k3 hlen).mono ?_; rintro e w' ⟨rfl, rfl⟩; rw [decide_eq_false HC1.out]))
    refine leaves_cons (f := 72) (args := #[.pointer (some ⟨sb, 0, none⟩)]) (by simp) (by simp [go_sem]) ?_
    refine (unlock_deferred Try.muLib ⟨sb, 0, none⟩ .returning _ k0 g0).mono ?_
    rintro e u' w'' ⟨rfl, rfl, rfl⟩
    exact ⟨_, results_tmp rfl _ _ _, sp_fin ⟨mb, pb, HI.out⟩ HBD.out HT.out HF.out⟩
end Go.Proofs.Ytklobepkihdbkaa.SpC
