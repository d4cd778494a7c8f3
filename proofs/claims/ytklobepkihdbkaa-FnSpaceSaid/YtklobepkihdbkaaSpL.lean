/- The program's address space: open, load, store. -/
import Derived.Test.YtklobepkihdbkaaSpQ
import Derived.Deep.DeepCutAuto
import Derived.Deep.CutBlock
namespace Go.Proofs.Ytklobepkihdbkaa.SpL
open Go.RowKit Go.MuLone Go.Proofs.YtklobepkihdbkaaW.PrintWords Mem Sp SpI SpA SpP SpQ
set_option linter.unusedVariables false
set_option linter.unusedSimpArgs false
theorem retI {a b : Int} (h : a = b) : Ending.returned (.int .i64 a) = .returned (.int .i64 b) := by rw [h]
theorem iff_no {p : Prop} (h : ¬ p) : (false = true ↔ p) := ⟨fun e => (by cases e), fun e => absurd e h⟩
set_option maxRecDepth 100000 in
set_option maxHeartbeats 1000000 in
theorem open_is {F : Nat → Prop} {sb mb : Nat} {pb : Nat → Nat} {m bud : Int} {A : Pages} (w : World) (a n : Int) (h : ISp w F sb mb pb m bud A) (h0 : 0 ≤ a) (h1 : a ≤ 18446744073709551615) :
    Calls Try.prog 78 #[.pointer (some ⟨sb, 0, none⟩), .int .u64 a, .int .i64 n] w fun e w' => e = .returned (.int .i64 (accessC A a n)) ∧ w = w' := by
  have k3 : w.cell? ⟨sb, 3, none⟩ = some (.int .i64 (A.length : Int)) := bcell h.hs 3
  have hlen := h.len
  have HI := Lib.hid h
  have H1 := Lib.hid h1
  clear h h1
  by_cases c1 : n < 0 ∨ 4096 < n
  · have e1 : accessC A a n = 6 := by unfold accessC; rw [if_pos c1]
    rw [e1]
    have e2 : (decide (n < 0) || decide (4096 < n)) = true := by simp only [Bool.or_eq_true, decide_eq_true_eq]; exact c1
    clear c1 e1
    go_enter Try.func78, Try.ntmps78
    go_wp2
    all_goals go_ret
    all_goals exact ⟨rfl, rfl⟩
  obtain ⟨nn, rfl⟩ := Int.eq_ofNat_of_zero_le (show 0 ≤ n by omega)
  obtain ⟨an, rfl⟩ := Int.eq_ofNat_of_zero_le h0
  have hn : nn ≤ 4096 := by omega
  clear c1 h0
  by_cases c2 : nn = 0
  · subst c2
    have e1 : accessC A an (0 : Nat) = 0 := by unfold accessC; rw [if_neg (by omega), if_pos (by omega)]
    rw [e1]
    go_enter Try.func78, Try.ntmps78
    go_wp2
    all_goals go_ret
    all_goals exact ⟨rfl, rfl⟩
  have hn1 : 1 ≤ nn := by omega
  have hne : ((nn : Int) == 0) = false := by simp; omega
  clear c2
  by_cases c3 : Pag.Ok an nn
  · have hb := c3.2.2
    by_cases c4 : (an + nn - 1) / 1024 < A.length
    · by_cases c5 : allR A (an / 1024) ((an + nn - 1) / 1024 - an / 1024 + 1) opened
      · have e1 : accessC A an nn = 0 := by
          unfold accessC
          rw [if_neg (by omega), if_neg (by omega), if_pos ⟨by omega, by simpa using (access_iff hn1).2 ⟨c4, c5⟩⟩]
        rw [e1]
        have hq : ((an : Int) + nn - 1) / 1024 = ((an + nn - 1) / 1024 : Nat) := by omega
        have hp : (an : Int) / 1024 = (an / 1024 : Nat) := by omega
        have hpq : an / 1024 ≤ (an + nn - 1) / 1024 := by omega
        obtain ⟨q, hqq⟩ : ∃ q, (an + nn - 1) / 1024 = q := ⟨_, rfl⟩
        obtain ⟨p, hpp⟩ : ∃ p, an / 1024 = p := ⟨_, rfl⟩
        rw [hqq] at hq c4 hpq c5
        rw [hpp] at hp hpq c5
        have hqp : ((q : Int) - p + 1) = ((q - p + 1 : Nat) : Int) := by omega
        have H3 := Lib.hid c3
        have HQ := Lib.hid hq
        have HP := Lib.hid hp
        have HQP := Lib.hid hqp
        have H5 := Lib.hid c5
        clear c3 hb e1 hq hqq hp hpp hqp c5
        go_enter Try.func78, Try.ntmps78
        go_wp2_with (first | (go_at_call 85; refine (Pag.impl_ok an nn w (by omega) H3.out).mono ?_; rintro e w' ⟨rfl, rfl⟩; rw [HQ.out, HP.out]) | (go_at_call 74; rw [HQP.out]; refine (all_is w 86 opened p (q - p + 1) HI.out (by omega) true ⟨fun _ => H5.out, fun _ => rfl⟩ (fun _ _ => by kernel_rfl) (fun k => isopen_is k w HI.out)).mono ?_; rintro e w' ⟨rfl, rfl⟩))
        all_goals go_ret
        all_goals exact ⟨rfl, rfl⟩
      · have e1 : accessC A an nn = 2 := by
          unfold accessC
          rw [if_neg (by omega), if_neg (by omega), if_neg (fun e => c5 ((access_iff hn1).1 (by simpa using e.2)).2)]
        rw [e1]
        have hq : ((an : Int) + nn - 1) / 1024 = ((an + nn - 1) / 1024 : Nat) := by omega
        have hp : (an : Int) / 1024 = (an / 1024 : Nat) := by omega
        have hpq : an / 1024 ≤ (an + nn - 1) / 1024 := by omega
        obtain ⟨q, hqq⟩ : ∃ q, (an + nn - 1) / 1024 = q := ⟨_, rfl⟩
        obtain ⟨p, hpp⟩ : ∃ p, an / 1024 = p := ⟨_, rfl⟩
        rw [hqq] at hq c4 hpq c5
        rw [hpp] at hp hpq c5
        have hqp : ((q : Int) - p + 1) = ((q - p + 1 : Nat) : Int) := by omega
        have H3 := Lib.hid c3
        have HQ := Lib.hid hq
        have HP := Lib.hid hp
        have HQP := Lib.hid hqp
        have H5 := Lib.hid c5
        clear c3 hb e1 hq hqq hp hpp hqp c5
        go_enter Try.func78, Try.ntmps78
        go_wp2_with (first | (go_at_call 85; refine (Pag.impl_ok an nn w (by omega) H3.out).mono ?_; rintro e w' ⟨rfl, rfl⟩; rw [HQ.out, HP.out]) | (go_at_call 74; rw [HQP.out]; refine (all_is w 86 opened p (q - p + 1) HI.out (by omega) false (iff_no H5.out) (fun _ _ => by kernel_rfl) (fun k => isopen_is k w HI.out)).mono ?_; rintro e w' ⟨rfl, rfl⟩))
        all_goals go_ret
        all_goals exact ⟨rfl, rfl⟩
    · have e1 : accessC A an nn = 2 := by
        unfold accessC
        rw [if_neg (by omega), if_neg (by omega), if_neg (fun e => c4 ((access_iff hn1).1 (by simpa using e.2)).1)]
      rw [e1]
      have hq : ((an : Int) + nn - 1) / 1024 = ((an + nn - 1) / 1024 : Nat) := by omega
      obtain ⟨q, hqq⟩ : ∃ q, (an + nn - 1) / 1024 = q := ⟨_, rfl⟩
      rw [hqq] at hq c4
      have H3 := Lib.hid c3
      have HQ := Lib.hid hq
      clear c3 hb e1 hq hqq
      go_enter Try.func78, Try.ntmps78
      go_wp2_with (go_at_call 85; refine (Pag.impl_ok an nn w (by omega) H3.out).mono ?_; rintro e w' ⟨rfl, rfl⟩; rw [HQ.out])
      all_goals go_ret
      all_goals exact ⟨rfl, rfl⟩
  · have e1 : accessC A an nn = 2 := by
      unfold accessC
      rw [if_neg (by omega), if_neg (by omega), if_neg (fun e => c3 ⟨by omega, by omega, by omega⟩)]
    rw [e1]
    have H3 := Lib.hid c3
    clear c3 e1
    go_enter Try.func78, Try.ntmps78
    go_wp2_with (go_at_call 85; refine (Pag.impl_no an nn w (by omega) H1.out H3.out).mono ?_; rintro e w' ⟨rfl, rfl⟩)
    all_goals go_ret
    all_goals exact ⟨rfl, rfl⟩
/-! ### load -/
def LdPost (w : World) (F : Nat → Prop) (sb : Nat) (bud code : Int) (A : Pages) (data : List Int) (e : Ending) (w' : World) : Prop :=
  ∃ v, e = .returned (.tuple #[v, .int .i64 code]) ∧ (Kd.int .u8).R 5 w' w.heap.size (fun _ => True) v data ∧ ISpace w' F sb 0 bud A ∧ Turn w w' F
theorem info5 : (Try.prog.info? 5).map (fun i => (i.zero, i.size, i.bytes)) = some (some (.int .u8 0), 1, 1) := by kernel_rfl
set_option maxRecDepth 100000 in
set_option maxHeartbeats 2000000 in
theorem load_is {F : Nat → Prop} {sb : Nat} {bud : Int} {A : Pages} (w : World) (a n : Int) (h : ISpace w F sb 0 bud A) (ha : 0 ≤ a) (hA : a ≤ 18446744073709551615) :
    Calls Try.prog 59 #[.pointer (some ⟨sb, 0, none⟩), .int .u64 a, .int .i64 n] w (LdPost w F sb bud (accessC A a n) A (if accessC A a n = 0 then loadD A a n else [])) := by
  have hF : F sb := by obtain ⟨mb, pb, h⟩ := h; exact h.fs
  have hb0 := h.bound
  obtain ⟨w1, hw1⟩ : ∃ x, w.setCell ⟨sb, 0, none⟩ (.int .i32 1) = x := ⟨_, rfl⟩
  have hI1 := h.mutex 1
  have hT1 : Turn w (w.setCell ⟨sb, 0, none⟩ (.int .i32 1)) F := (Turn.refl w F).setCell (.inl hF) _
  rw [hw1] at hI1 hT1
  obtain ⟨mb, pb, hI⟩ := hI1
  have h0 : w.cell? ⟨sb, 0, none⟩ = some (.int .i32 0) := by obtain ⟨mb, pb, h⟩ := h; exact bcell h.hs 0
  have f0 : w.frozen? ⟨sb, 0, none⟩ = false := by obtain ⟨mb, pb, h⟩ := h; exact bfroz h.hs 0
  have k0 : w1.cell? ⟨sb, 0, none⟩ = some (.int .i32 1) := bcell hI.hs 0
  have g0 : w1.frozen? ⟨sb, 0, none⟩ = false := bfroz hI.hs 0
  have HI := Lib.hid hI
  have HT := Lib.hid hT1
  have HW := Lib.hid hw1
  have HF := Lib.hid hF
  have HA := Lib.hid hA
  have HB0 := Lib.hid hb0
  clear h hI hT1 hF hw1 hA hb0
  by_cases c1 : accessC A a n = 0
  · obtain ⟨hn, hadd, hre⟩ : n ≤ 4096 ∧ (1 ≤ n → a + n ≤ 4611686018427387904) ∧ ∀ i : Nat, (i : Int) < n → reach A (a.toNat + i) = true := by
      obtain ⟨nn, rfl⟩ := Int.eq_ofNat_of_zero_le (show 0 ≤ n by unfold accessC at c1; split at c1 <;> omega)
      obtain ⟨an, rfl⟩ := Int.eq_ofNat_of_zero_le ha
      obtain ⟨h1, h2, h3⟩ := accessC_ok c1
      exact ⟨by omega, fun h => h2 (by omega), fun i hi => by rw [Int.toNat_natCast]; exact h3 i (by omega)⟩
    obtain ⟨nn, rfl⟩ := Int.eq_ofNat_of_zero_le (show 0 ≤ n by unfold accessC at c1; split at c1 <;> omega)
    obtain ⟨an, rfl⟩ := Int.eq_ofNat_of_zero_le ha
    rw [if_pos c1, c1]
    rw [Int.toNat_natCast] at hre
    have hn2 : nn ≤ 4096 := by omega
    have HC := Lib.hid c1
    have HRE := Lib.hid hre
    have HAD := Lib.hid hadd
    clear c1 hn hadd hre
    go_enter_defers Try.func59, Try.ntmps59
    go_upto_region 7 with (first
      | (go_at_call 71; refine (lock_free Try.muLib ⟨sb, 0, none⟩ _ h0 f0).mono ?_; rintro e w' ⟨rfl, rfl⟩; rw [HW.out])
      | (go_at_call 78; refine (open_is w1 an nn HI.out ha HA.out).mono ?_; rintro e w' ⟨rfl, rfl⟩; rw [HC.out])
      | ((with_reducible refine gate_dst (N := 27) rfl ?_); refine Kd.R_make (Kd.int .u8) (w0 := w1) w1.heap.size 5 rfl (N := 27) rfl 39 _ _ rfl (nn : Int) rfl rfl Try.underlying39 (.int .u8 0) 1 info5 rfl (by decide) (by omega) 0 (ok := fun _ => True) (okp := fun _ => True) rfl (fun _ hk => hk) trivial (by omega) (by omega) (Below.refl _ _) (Nat.le_refl _) ?_; intro v2 w2 hR hB hg hnew))
    rw [Int.toNat_natCast, ← ldk_zero A an nn] at hR
    obtain ⟨Ag, cg, rfl, hcg, _⟩ := Kd.R_reads hR
    rw [ldk_len] at hR hcg ⊢
    have hz1 : w.heap.size ≤ w1.heap.size := HT.out.size
    have hI2 : ISp w2 F sb mb pb 1 bud A := HI.out.move (fun k hk => hB.block k (HI.out.bound k hk)) hB.size
    have hT2 : Turn w w2 F := HT.out.trans (Turn.of_below hB (fun _ => False)) (fun k hk => hk.elim)
    have HR := Lib.hid hR
    have HI2 := Lib.hid hI2
    have HT2 := Lib.hid hT2
    clear hR hI2 hT2 hg hnew k0 g0 h0 f0 hB
    go_upto_block 0 with fail
    go_wp2_with fail
    go_loopw [30] (fun i W => ∃ j : Nat, i = .int .i64 j ∧ j ≤ nn ∧ Hid ((Kd.int .u8).R 5 W w1.heap.size (fun _ => True) (.slice Ag nn cg) (ldk A an nn j)) ∧ Hid (ISp W F sb mb pb 1 bud A) ∧ Hid (Turn w W F)) (fun i _ => nn - (intOf i).toNat)
    case atStart => exact ⟨0, rfl, Nat.zero_le _, HR, HI2, HT2⟩
    case round =>
      clear HR HI2 HT2
      obtain ⟨j, rfl, hj, HR, HI2, HT2⟩ := hrel
      by_cases hlt : j < nn
      · obtain ⟨g, cap, hv, hgb, hgl, _⟩ := Kd.R_form HR.out (by rw [ldk_len]; omega)
        rw [ldk_len] at hv
        injection hv with hv1 _ hv2
        subst hv1 hv2
        obtain ⟨hc, hf⟩ := Kd.R_celln (0 : Int) HR.out (j : Int) (by omega) (by omega)
        obtain ⟨hR, hG⟩ := Kd.R_putg HR.out (j : Int) (getB A (an + j))
        rw [Int.toNat_natCast, ldk_succ] at hR
        rw [Int.toNat_natCast] at hc hf hG
        have hnF : ∀ k, F k → k ≠ g := fun k hk e => by have := HB0.out k hk; omega
        have hI3 : ISp (wr.setCell ⟨g, j, none⟩ (.int .u8 (getB A (an + j)))) F sb mb pb 1 bud A := HI2.out.move (fun k hk => Below.heap_setCell _ _ _ _ (hnF k hk)) (by rw [set_size]; exact Nat.le_refl _)
        have hT3 : Turn w (wr.setCell ⟨g, j, none⟩ (.int .u8 (getB A (an + j)))) F := HT2.out.setCell (p := ⟨g, j, none⟩) (.inr (by show w.heap.size ≤ g; omega)) _
        have HR3 := Lib.hid hR
        have HI3 := Lib.hid hI3
        have HT3 := Lib.hid hT3
        have hrq := HRE.out j (by omega)
        have had := HAD.out (by omega)
        have had2 : an + j ≤ 4611686018427387904 := by omega
        clear hR hG hI3 hT3 hgb hgl hnF had
        obtain ⟨q, hq⟩ : ∃ q, an + j = q := ⟨_, rfl⟩
        have hqi : (an : Int) + (j : Int) = (q : Int) := by omega
        rw [hq] at hrq had2 HR3 HI3 HT3
        unfold reach at hrq
        obtain ⟨bs, hx⟩ : ∃ bs, pg A (q / 1024) = some (bs, true) := by
          cases hh : pg A (q / 1024) with
          | none => rw [hh] at hrq; cases hrq
          | some y => obtain ⟨y1, y2⟩ := y; rw [hh] at hrq; exact ⟨y1, by rw [show y2 = true from hrq]⟩
        obtain ⟨hl, _, hbk⟩ := HI2.out.hp _ _ _ hx
        have hpc := bcell hbk (q % 1024)
        rw [page_at hl (by omega)] at hpc
        have hgb : getB A q = bs.getD (q % 1024) 0 := by unfold getB; rw [hx]; rfl
        have hpv : pval A pb (q / 1024) = .pointer (some ⟨pb (q / 1024), 0, none⟩) := pval_some (by rw [hx]; rfl)
        rw [← hgb] at hpc
        have k2 := bcell HI2.out.hs 2
        simp only [List.getElem?_toArray, List.getElem?_cons_succ, List.getElem?_cons_zero] at k2
        have HPV := Lib.hid hpv
        have hwk : (Lit.int .i64 ((q / 1024 : Nat) : Int)).wf = true := WalkArith.wf_i64 (by omega)
        have HQI := Lib.hid hqi
        clear hbk hgb hpv hl hx hrq hq
        have hky : (q : Int) / 1024 = ((q / 1024 : Nat) : Int) := by omega
        have HKY := Lib.hid hky
        clear hky
        go_upto_region 11 with fail
        clear hqi
        go_wp2_with (at_lookup; refine wp_look Try.underlying3 Try.underlying93 rfl _ _ rfl (by kernel_rfl) rfl HI2.out.hm _ rfl (by first | exact hwk | (rw [HKY.out]; exact hwk)) ?_; (try rw [HKY.out]); rw [pval_is, HPV.out])
        go_roundw
        case rel => exact ⟨j + 1, by go_num, by omega, HR3, HI3, HT3⟩
        case measure => simp [intOf]; omega
      · obtain rfl : nn = j := by omega
        have k0 := bcell HI2.out.hs 0
        have g0 := bfroz HI2.out.hs 0
        have hld := ldk_full A an nn
        have HLD := Lib.hid hld
        clear hld
        go_wp2
        refine leaves_cons (f := 72) (args := #[.pointer (some ⟨sb, 0, none⟩)]) (by simp) (by simp [go_sem]) ?_
        refine (unlock_deferred Try.muLib ⟨sb, 0, none⟩ .returning _ k0 g0).mono ?_
        rintro e u' w'' ⟨rfl, rfl, rfl⟩
        have hR := HR.out
        rw [HLD.out] at hR
        have hsg : ∀ k, (Value.slice Ag nn cg).ownBlock = some k → k ≠ sb := fun k hk e => by
          have := (Kd.R_bound hR).1 k hk
          have := HB0.out sb HF.out
          omega
        exact ⟨_, results_tmp2 rfl _ _ _, _, rfl, Kd.R_lower (Kd.R_mono (Kd.R_far (Kd.R_mono (ok' := fun k => k ≠ sb) (Kd.R_bound hR) (fun k hk e => by have := HB0.out sb HF.out; omega)) (p := ⟨sb, 0, none⟩) (fun k hk => hk) _) (fun _ _ => trivial)) hz1, ISpace.mutex ⟨mb, pb, HI2.out⟩ 0, HT2.out.setCell (.inl HF.out) _⟩
  · rw [if_neg c1]
    have c2 : (accessC A a n != 0) = true := by simpa using c1
    obtain ⟨code, hcode⟩ : ∃ c, accessC A a n = c := ⟨_, rfl⟩
    rw [hcode] at c2 ⊢
    have HC := Lib.hid hcode
    clear c1 hcode
    go_enter_defers Try.func59, Try.ntmps59
    go_wp2_with (first
      | (go_at_call 71; refine (lock_free Try.muLib ⟨sb, 0, none⟩ _ h0 f0).mono ?_; rintro e w' ⟨rfl, rfl⟩; rw [HW.out])
      | (go_at_call 78; refine (open_is w1 a n HI.out ha HA.out).mono ?_; rintro e w' ⟨rfl, rfl⟩; rw [HC.out]))
    refine leaves_cons (f := 72) (args := #[.pointer (some ⟨sb, 0, none⟩)]) (by simp) (by simp [go_sem]) ?_
    refine (unlock_deferred Try.muLib ⟨sb, 0, none⟩ .returning _ k0 g0).mono ?_
    rintro e u' w'' ⟨rfl, rfl, rfl⟩
    exact ⟨_, results_tmp2 rfl _ _ _, _, rfl, Kd.R_nil _ _ _ _ _, ISpace.mutex ⟨mb, pb, HI.out⟩ 0, HT.out.setCell (.inl HF.out) _⟩
end Go.Proofs.Ytklobepkihdbkaa.SpL
