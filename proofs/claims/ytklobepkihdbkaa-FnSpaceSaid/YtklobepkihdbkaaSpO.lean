/- The program's address space: the open pages; a new space. -/
import Derived.Test.YtklobepkihdbkaaSpD
import Derived.Test.YtklobepkihdbkaaSrt
import Derived.Carry
import Derived.Deep.DeepFit
namespace Go.Proofs.Ytklobepkihdbkaa.SpO
open Go.RowKit Go.MuLone Go.Proofs.YtklobepkihdbkaaW.PrintWords Mem Sp SpI SpA SpP SpQ SpC Srt
set_option linter.unusedVariables false
set_option linter.unusedSimpArgs false
theorem openL_mem {A : Pages} {x : Int} : x ∈ openL A ↔ 0 ≤ x ∧ opened (pg A x.toNat) = true := by
  unfold openL
  simp only [List.mem_map, List.mem_filter, List.mem_range]
  constructor
  · rintro ⟨i, ⟨hi, ho⟩, rfl⟩
    exact ⟨by omega, by simpa using ho⟩
  · rintro ⟨h0, ho⟩
    refine ⟨x.toNat, ⟨?_, ho⟩, by omega⟩
    refine pg_lt ?_
    revert ho
    cases pg A x.toNat <;> simp [opened]
theorem openL_sorted (A : Pages) : (openL A).Pairwise fun a b => a < b := by
  unfold openL
  rw [List.pairwise_map]
  refine List.Pairwise.imp (R := fun a b : Nat => a < b) (fun {a b} h => by omega) ?_
  exact List.Pairwise.sublist List.filter_sublist (List.pairwise_lt_range)
theorem openL_len (A : Pages) : (openL A).length ≤ A.length := by
  unfold openL
  rw [List.length_map]
  exact Nat.le_trans (List.length_filter_le _ _) (by simp)
/-- What has been met in whatever order, sorted, is the open pages in order. -/
theorem sorted_open {A : Pages} {ks : List Int} (hn : ks.Nodup) (hm : ∀ x, x ∈ ks ↔ 0 ≤ x ∧ opened (pg A x.toNat) = true) : ks.mergeSort leI = openL A := by
  have hs := openL_sorted A
  have hp : ks.Perm (openL A) := (List.perm_ext_iff_of_nodup hn (hs.imp (fun h e => by omega))).2 (fun a => by rw [hm, openL_mem])
  refine List.Perm.eq_of_pairwise (le := fun a b => a ≤ b) (fun a b _ _ h1 h2 => by omega) ?_ (hs.imp (fun h => by omega)) ((List.mergeSort_perm ks leI).trans hp)
  exact (List.pairwise_mergeSort (le := leI) (fun a b c h1 h2 => by simp only [decide_eq_true_eq] at *; omega) (fun a b => by simp only [Bool.or_eq_true, decide_eq_true_eq]; omega) ks).imp (fun h => by simpa using h)
def OpPost (w : World) (xs : List Int) (e : Ending) (w' : World) : Prop :=
  ∃ v, e = .returned v ∧ (Kd.int .i64).R 3 w' w.heap.size (fun _ => True) v xs ∧ Turn w w' (fun _ => False)
theorem info3 : (Try.prog.info? 3).map (fun i => (i.zero, i.size, i.bytes)) = some (some (.int .i64 0), 1, 8) := by kernel_rfl
/-- Which keys have been met: those that are no longer to come and whose page is open. -/
def Met (A : Pages) (left : Int → Bool) (ks : List Int) : Prop := ks.Nodup ∧ ∀ x, x ∈ ks ↔ 0 ≤ x ∧ opened (pg A x.toNat) = true ∧ left x = false
theorem opened_some {A : Pages} {i : Nat} (h : opened (pg A i) = true) : (pg A i).isSome = true := by
  revert h
  cases pg A i <;> simp [opened]
theorem met_start (A : Pages) (pb : Nat → Nat) : Met A (fun x => (pgIn A pb x).isSome) [] := by
  refine ⟨List.nodup_nil, fun x => ⟨fun h => by simp at h, fun h => ?_⟩⟩
  obtain ⟨h0, h1, h2⟩ := h
  simp only [pgIn] at h2
  rw [if_pos ⟨h0, opened_some h1⟩] at h2
  cases h2
theorem met_on {A : Pages} {left : Int → Bool} {ks : List Int} (h : Met A left ks) {x : Int} (h0 : 0 ≤ x) (ho : opened (pg A x.toNat) = true) (hl : left x = true) : Met A (fun z => left z && !(z == x)) (ks ++ [x]) := by
  obtain ⟨h1, h2⟩ := h
  have hx : x ∉ ks := fun e => by have := ((h2 x).1 e).2.2; rw [hl] at this; cases this
  refine ⟨?_, fun z => ?_⟩
  · rw [List.nodup_append]
    refine ⟨h1, by simp, fun a ha b hb => ?_⟩
    rw [List.mem_singleton] at hb
    subst hb
    exact fun e => hx (e ▸ ha)
  · rw [List.mem_append, h2 z, List.mem_singleton]
    by_cases e : z = x
    · subst e
      simp [h0, ho]
    · simp [e]
theorem met_off {A : Pages} {left : Int → Bool} {ks : List Int} (h : Met A left ks) {x : Int} (ho : opened (pg A x.toNat) = false) : Met A (fun z => left z && !(z == x)) ks := by
  obtain ⟨h1, h2⟩ := h
  refine ⟨h1, fun z => ?_⟩
  rw [h2 z]
  by_cases e : z = x
  · subst e
    simp [ho]
  · simp [e]
theorem met_end {A : Pages} {left : Int → Bool} {ks : List Int} (h : Met A left ks) (hA : A.length ≤ 4096) (hl : ∀ x, (Lit.int .i64 x).wf = true → left x = false) : ks.mergeSort leI = openL A := by
  refine sorted_open h.1 (fun x => ?_)
  rw [h.2 x]
  constructor
  · exact fun e => ⟨e.1, e.2.1⟩
  · intro e
    have := pg_lt (opened_some e.2)
    exact ⟨e.1, e.2, hl x (WalkArith.wf_i64 (by omega))⟩
set_option maxRecDepth 100000 in
set_option maxHeartbeats 4000000 in
theorem openPages_is {F : Nat → Prop} {sb : Nat} {m bud : Int} {A : Pages} (w : World) (h : ISpace w F sb m bud A) :
    Calls Try.prog 44 #[.pointer (some ⟨sb, 0, none⟩)] w (OpPost w (openL A)) := by
  obtain ⟨mb, pb, h⟩ := h
  have k2 : w.cell? ⟨sb, 2, none⟩ = some (.map (some mb)) := bcell h.hs 2
  have hlen := h.len
  have hT1 : Turn w (w.alloc (.cells #[] 3)) (fun _ => False) := (Turn.refl w _).alloc _
  have hI1 := h.move (w' := w.alloc (.cells #[] 3)) (fun k hk => hT1.block k (h.bound k hk) (fun e => e)) hT1.size
  have hR1 : (Kd.int .i64).R 3 (w.alloc (.cells #[] 3)) w.heap.size (fun k => k = w.heap.size) (.slice (some ⟨w.heap.size, 0, none⟩) 0 0) [] := by
    refine Kd.R_of_own ⟨rfl, .inr ⟨w.heap.size, 0, #[], rfl, Nat.le_refl _, alloc_new _ _, Nat.le_refl _, by unfold maxLen; omega, rfl, rfl⟩⟩ (fun k hk => by simpa [Value.ownBlock] using hk.symm)
  have hz1 : (w.alloc (.cells #[] 3)).heap.size = w.heap.size + 1 := by simp
  have HH := Lib.hid h
  have hmb := h.bound mb h.fm
  clear h
  obtain ⟨w1, hw1⟩ : ∃ x, w.alloc (.cells #[] 3) = x := ⟨_, rfl⟩
  have HW1 := Lib.hid hw1
  rw [hw1] at hT1 hI1 hR1 hz1
  have q2 : w1.cell? ⟨sb, 2, none⟩ = some (.map (some mb)) := bcell hI1.hs 2
  have HI := Lib.hid hI1
  have HT1 := Lib.hid hT1
  have HR1 := Lib.hid hR1
  clear hw1 hT1 hI1 hR1 k2
  have hoc := onCount_le A
  go_enter Try.func44, Try.ntmps44
  go_upto_region 2 with fail
  rw [HW1.out]
  go_wp2_with (at_range; refine wp_range Try.underlying3 Try.underlying93 rfl _ rfl rfl HI.out.hm ?_; intro w2 hrg2 hg2 hs2)
  go_frame
  have HRG := Lib.hid hrg2
  have hb1 : ∀ b, (none : Option Nat) = some b → False ∨ w.heap.size ≤ b := fun b e => by cases e
  have HT2 := Lib.hid (HT1.out.grown hg2 hb1)
  have HR2 := Lib.hid (Kd.R_grown HR1.out hg2 (fun k _ => by simp))
  have HM0 := Lib.hid (met_start A pb)
  clear hrg2 hg2 hs2 hb1
  obtain ⟨ib, hibb⟩ : ∃ x, w1.heap.size = x := ⟨_, rfl⟩
  rw [hibb] at HRG hz1 ⊢
  clear hibb HR1 HT1 q2
  have HR3 := Lib.hid (Kd.R_mono (ok' := fun k => k ≠ ib) HR2.out (fun k hk => by omega))
  have hib : w.heap.size < ib := by omega
  clear HR2 hz1
  go_loopw [3] (fun v W => ∃ left cnt ks, Hid (PRange Try.prog 3 .i64 ptrC W mb ib (onCount A) (pgIn A pb) left cnt) ∧ Hid (Met A left ks) ∧ ks.length + cnt ≤ onCount A ∧ Hid ((Kd.int .i64).R 3 W w.heap.size (fun k => k ≠ ib) v ks) ∧ Hid (Turn w W (fun _ => False))) (fun _ W => W.rangeLeft mb ib)
  case atStart => exact ⟨_, _, [], HRG, HM0, by simp, HR3, HT2⟩
  case round =>
    clear HRG HM0 HR3 HT2
    obtain ⟨left, cnt, ks, HRG, HM, hkc, HR, HT⟩ := hrel
    have hlq := HRG.out.left_eq
    have HLQ := Lib.hid hlq
    have hirz := HRG.out.lt
    have HNE := Lib.hid HRG.out.ne
    clear hlq
    go_wp2_with (at_next; refine wp_next Try.underlying3 rfl _ rfl rfl HRG.out ?_ ?_)
    · intro hc0 hl0
      have hsorted := met_end HM.out hlen hl0
      have HS := Lib.hid hsorted
      have HC := Lib.hid (sort_is HR.out (by omega))
      clear hl0 hsorted
      obtain ⟨Ak, ck, hv, _, _⟩ := Kd.R_reads HR.out
      subst hv
      go_wp2_with (go_at_call 61; refine HC.out.mono ?_; rintro e w5 ⟨rfl, hR5, hg5⟩; rw [HS.out] at hR5; have HR5 := Lib.hid hR5; have HT5 := Lib.hid (HT.out.grown hg5 (fun b e => .inr ((Kd.R_bound HR.out).1 b e).2.1)); clear hR5 hg5)
      go_ret
      exact ⟨_, rfl, Kd.R_mono HR5.out (fun _ _ => trivial), HT5.out⟩
    · intro x u w5 cnt1 hwx hlx hfx hrg5 hlt hg5 hs5 hen
      have hx0 : 0 ≤ x ∧ (pg A x.toNat).isSome = true ∧ u = pb x.toNat + 1 := by
        unfold pgIn at hfx
        split at hfx
        · rename_i hh
          exact ⟨hh.1, hh.2, by cases hfx; rfl⟩
        · cases hfx
      obtain ⟨h0, hsm, rfl⟩ := hx0
      obtain ⟨i, rfl⟩ := Int.eq_ofNat_of_zero_le h0
      rw [Int.toNat_natCast] at hsm hen ⊢
      rw [show ptrC.enc (pb i + 1) = .pointer (some ⟨pb i, 0, none⟩) from rfl] at hen ⊢
      obtain ⟨⟨bs, op⟩, hx⟩ := Option.isSome_iff_exists.1 hsm
      have HT5 := Lib.hid (HT.out.grown hg5 (fun b e => by cases e; exact .inr (by omega)))
      obtain ⟨hl, hFp, hbk⟩ := (HH.out.move (fun k hk => HT5.out.block k (HH.out.bound k hk) (fun e => e)) HT5.out.size).hp i bs op hx
      have hc := bcell hbk 1024
      rw [page_lock hl] at hc
      have HR5 := Lib.hid (Kd.R_grown HR.out hg5 (fun k hk e => hk (by cases e; rfl)))
      have HRG5 := Lib.hid hrg5
      have hil := pg_lt hsm
      clear hs5 hg5 hrg5 hbk hfx hsm h0 HH hl hFp
      cases op with
      | true =>
        have HM5 := Lib.hid (met_on HM.out (x := (i : Int)) (by omega) (by rw [Int.toNat_natCast, hx]; rfl) hlx)
        have hzs := HT5.out.size
        clear hx hlx
        go_wp2_with ((with_reducible refine gate_dst (N := 25) rfl ?_); at_builtin; refine Kd.R_append (Kd.int .i64) (w0 := w) w.heap.size rfl (.tmp 22) (.tmp 24) 22 3 (.int .i64 0) 8 rfl Try.underlying22 info3 rfl (by decide) (by omega) _ ks (i : Int) [.int .i64 (i : Int)] (fun k => k ≠ ib) (fun _ => False) rfl ?aX ?aP (fun _ hk => hk.elim) ?aF ?aO ?aB ?aS ?aL ?_; (case aX => simp [Act.eval]); (case aP => exact rfl); (case aF => intro k hk; have := HRG5.out.lt; omega); (case aO => exact HR5.out); (case aB => exact HT5.out.below (Nat.le_refl _) (fun k e => e.elim)); (case aS => exact hzs); (case aL => omega); intro v1 w6 hR6 hB6 hg6 hat6; have HR6 := Lib.hid hR6; have HT6 := Lib.hid (HT5.out.grown hg6 (fun b e => .inr ((Kd.R_bound HR5.out).1 b e).2.1)); have HRG6 := Lib.hid (HRG5.out.kept hg6 (fun e => by have := ((Kd.R_bound HR5.out).1 mb e.symm).2.1; omega) (fun e => ((Kd.R_bound HR5.out).1 ib e.symm).1 rfl)); clear hR6 hB6 hg6 hat6)
        go_roundw
        case rel => exact ⟨_, _, _, HRG6, HM5, by simp; omega, HR6, HT6⟩
        case measure => rw [HRG6.out.left_eq, HLQ.out]; exact hlt
      | false =>
        have HM5 := Lib.hid (met_off HM.out (x := (i : Int)) (by rw [Int.toNat_natCast, hx]; rfl))
        clear hx hlx
        go_wp2_with fail
        go_roundw
        case rel => exact ⟨_, _, _, HRG5, HM5, by omega, HR5, HT5⟩
        case measure => rw [HRG5.out.left_eq, HLQ.out]; exact hlt
end Go.Proofs.Ytklobepkihdbkaa.SpO
