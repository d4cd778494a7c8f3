/- The address space's pages: bytes that were put, how many pages are committed; plain facts. -/
import Derived.Test.YtklobepkihdbkaaSpQ
import Derived.Test.YtklobepkihdbkaaSpR
import Derived.Test.YtklobepkihdbkaaRsP
import Derived.Test.YtklobepkihdbkaaMrk
namespace Go.Proofs.Ytklobepkihdbkaa.SpB
open Sp SpP SpQ
set_option linter.unusedVariables false
set_option linter.unusedSimpArgs false
/-- Every page that is committed has its 1024 bytes. -/
def Whole (A : Pages) : Prop := ∀ k bs op, pg A k = some (bs, op) → bs.length = 1024
theorem some_putB {A : Pages} {a : Nat} {v : Int} (k : Nat) : (pg (putB A a v) k).isSome = (pg A k).isSome := by
  by_cases h : a / 1024 < A.length
  · rw [pg_putB h]
    by_cases e : k = a / 1024
    · rw [if_pos e]
      unfold putP
      cases pg A k <;> rfl
    · rw [if_neg e]
  · unfold putB
    rw [List.set_eq_of_length_le (by omega)]
theorem open_putB {A : Pages} {a : Nat} {v : Int} (k : Nat) : opened (pg (putB A a v) k) = opened (pg A k) := by
  by_cases h : a / 1024 < A.length
  · rw [pg_putB h]
    by_cases e : k = a / 1024
    · rw [if_pos e, opened_putP]
    · rw [if_neg e]
  · unfold putB
    rw [List.set_eq_of_length_le (by omega)]
theorem Whole.putB {A : Pages} (hW : Whole A) (a : Nat) (v : Int) : Whole (putB A a v) := by
  intro k bs op e
  by_cases h : a / 1024 < A.length
  · rw [pg_putB h] at e
    by_cases c : k = a / 1024
    · rw [if_pos c] at e
      unfold putP at e
      cases hx : pg A k with
      | none => rw [hx] at e; cases e
      | some y =>
        rw [hx] at e
        simp only [Option.map_some, Option.some.injEq, Prod.mk.injEq] at e
        rw [← e.1, List.length_set]
        exact hW k y.1 y.2 hx
    · rw [if_neg c] at e
      exact hW k bs op e
  · unfold Sp.putB at e
    rw [List.set_eq_of_length_le (by omega)] at e
    exact hW k bs op e
theorem getB_putB {A : Pages} (hW : Whole A) {a : Nat} (b : Nat) (v : Int) (ha : (pg A (a / 1024)).isSome = true) : getB (putB A a v) b = if b = a then v else getB A b := by
  have hlt := pg_lt ha
  unfold getB
  rw [pg_putB hlt]
  by_cases e : b / 1024 = a / 1024
  · rw [if_pos e]
    obtain ⟨⟨bs, op⟩, hx⟩ := Option.isSome_iff_exists.1 ha
    have hl := hW _ _ _ hx
    rw [e, hx]
    show (bs.set (a % 1024) v).getD (b % 1024) 0 = if b = a then v else bs.getD (b % 1024) 0
    by_cases c : b = a
    · subst c
      rw [if_pos rfl, List.getD_eq_getElem?_getD, List.getElem?_set_self (by omega)]
      rfl
    · rw [if_neg c, List.getD_eq_getElem?_getD, List.getElem?_set_ne (by omega), ← List.getD_eq_getElem?_getD]
  · rw [if_neg e, if_neg (fun c => e (by rw [c]))]
theorem some_putAll : ∀ (data : List Int) (A : Pages) (a k : Nat), (pg (putAll A a data) k).isSome = (pg A k).isSome
  | [], _, _, _ => rfl
  | v :: vs, A, a, k => by rw [putAll, some_putAll vs, some_putB]
theorem open_putAll : ∀ (data : List Int) (A : Pages) (a k : Nat), opened (pg (putAll A a data) k) = opened (pg A k)
  | [], _, _, _ => rfl
  | v :: vs, A, a, k => by rw [putAll, open_putAll vs, open_putB]
theorem Whole.putAll : ∀ (data : List Int) {A : Pages} (a : Nat), Whole A → Whole (putAll A a data)
  | [], _, _, h => h
  | v :: vs, A, a, h => by
    rw [Sp.putAll]
    exact Whole.putAll vs (a + 1) (h.putB a v)
theorem getB_putAll : ∀ (data : List Int) {A : Pages} (a b : Nat), Whole A → (∀ i, i < data.length → (pg A ((a + i) / 1024)).isSome = true) →
    getB (putAll A a data) b = if a ≤ b ∧ b < a + data.length then data.getD (b - a) 0 else getB A b
  | [], A, a, b, hW, h => by
    rw [if_neg (by simp only [List.length_nil]; omega)]
    rfl
  | v :: vs, A, a, b, hW, h => by
    have h0 := h 0 (by simp)
    rw [Sp.putAll, getB_putAll vs (a + 1) b (hW.putB a v) (fun i hi => by
      rw [some_putB, show a + 1 + i = a + (i + 1) by omega]
      exact h (i + 1) (by simpa using hi)), getB_putB hW b v (by simpa using h0)]
    simp only [List.length_cons]
    by_cases c : b = a
    · subst c
      rw [if_neg (by omega), if_pos rfl, if_pos (by omega), Nat.sub_self]
      rfl
    · by_cases c2 : a + 1 ≤ b ∧ b < a + 1 + vs.length
      · rw [if_pos c2, if_pos (by omega), show b - a = (b - (a + 1)) + 1 by omega]
        rfl
      · rw [if_neg c2, if_neg c, if_neg (by omega)]
/-- What a load gives behind a store at the same place. -/
theorem load_put {A : Pages} {a : Nat} {data : List Int} (hW : Whole A) (h : ∀ i, i < data.length → (pg A ((a + i) / 1024)).isSome = true) : loadD (putAll A a data) (a : Int) data.length = data := by
  unfold loadD
  apply List.ext_getElem
  · simp
  · intro i h1 h2
    simp only [List.getElem_map, List.getElem_range, Int.toNat_natCast]
    rw [getB_putAll data a (a + i) hW h, if_pos (by omega), show a + i - a = i by omega]
    simp [List.getD_eq_getElem?_getD, h2]
theorem reach_of {A : Pages} {a : Nat} (h : reach A a = true) : (pg A (a / 1024)).isSome = true := by
  unfold reach at h
  unfold opened at h
  cases hx : pg A (a / 1024) with
  | none => rw [hx] at h; cases h
  | some y => rfl
/-! ### ranges of pages -/
theorem setR_none_len {A : Pages} {f c : Nat} {g : Pg → Pg} {k : Nat} : pg (setR A f c g) k = if k < A.length then (if f ≤ k ∧ k < f + c then g (pg A k) else pg A k) else none := by
  by_cases h : k < A.length
  · rw [if_pos h, pg_setR h]
  · rw [if_neg h, pg_out (by rw [setR_len]; omega)]
theorem Whole.setR {A : Pages} (hW : Whole A) (f c : Nat) {g : Pg → Pg} (hg : ∀ x bs op, (∀ bs' op', x = some (bs', op') → bs'.length = 1024) → g x = some (bs, op) → bs.length = 1024) : Whole (setR A f c g) := by
  intro k bs op e
  rw [setR_none_len] at e
  split at e
  · split at e
    · exact hg _ _ _ (fun bs' op' hx => hW k bs' op' hx) e
    · exact hW k bs op e
  · cases e
theorem on_some {A : Pages} {f : Nat} (z : List Int × Bool) : ∀ c : Nat, f + c ≤ A.length → allR A f c Option.isNone → onCount (setR A f c fun _ => some z) = onCount A + c
  | 0, _, _ => by rw [setR_zero]; rfl
  | c + 1, h, hn => by
    have h1 := on_some z c (by omega) (fun k hk => hn k (by omega))
    have h2 := onCount_set (setR A f c fun _ => some z) (f + c) (some z) (by rw [setR_len]; omega)
    rw [pg_setR (A := A) (i := f + c) (by omega), if_neg (show ¬ (f ≤ f + c ∧ f + c < f + c) by omega)] at h2
    have h3 : pg A (f + c) = none := by simpa using hn c (by omega)
    rw [setR_succ (by omega)]
    simp only [h3, Option.isSome_none, Option.isSome_some, Bool.false_eq_true, if_false, if_true] at h2
    omega
theorem on_le {A : Pages} {f : Nat} {g : Pg → Pg} (hg : ∀ x, (g x).isSome = true → x.isSome = true) : ∀ c : Nat, f + c ≤ A.length → onCount (setR A f c g) ≤ onCount A
  | 0, _ => by rw [setR_zero]; exact Nat.le_refl _
  | c + 1, h => by
    have h1 := on_le (A := A) (f := f) hg c (by omega)
    have h2 := onCount_set (setR A f c g) (f + c) (g (pg A (f + c))) (by rw [setR_len]; omega)
    rw [pg_setR (A := A) (i := f + c) (by omega), if_neg (show ¬ (f ≤ f + c ∧ f + c < f + c) by omega)] at h2
    rw [setR_succ (by omega)]
    by_cases h3 : (g (pg A (f + c))).isSome = true
    · rw [if_pos h3, if_pos (hg _ h3)] at h2
      omega
    · rw [if_neg h3] at h2
      omega
theorem onCount_putB (A : Pages) (a : Nat) (v : Int) : onCount (putB A a v) = onCount A := by
  by_cases h : a / 1024 < A.length
  · have h2 := onCount_set A (a / 1024) (putP (pg A (a / 1024)) (a % 1024) v) h
    have h3 : (putP (pg A (a / 1024)) (a % 1024) v).isSome = (pg A (a / 1024)).isSome := by unfold putP; cases pg A (a / 1024) <;> rfl
    rw [h3] at h2
    unfold putB
    omega
  · unfold putB
    rw [List.set_eq_of_length_le (by omega)]
theorem onCount_putAll : ∀ (data : List Int) (A : Pages) (a : Nat), onCount (putAll A a data) = onCount A
  | [], _, _ => rfl
  | v :: vs, A, a => by rw [putAll, onCount_putAll vs, onCount_putB]
end Go.Proofs.Ytklobepkihdbkaa.SpB
/- Plain facts for FnSpace: the budget holds; what is refused changes nothing; a store, then a load. -/
namespace Go.Proofs.Ytklobepkihdbkaa.FsP
open Go.RowKit Sp SpP SpQ SpB SpD SpR SpC RsP Go.Proofs.Ytklobepkihdbkaa.PFnExactRunSpace Go.Proofs.YtklobepkihdbkaaW.PrintWords
set_option linter.unusedVariables false
set_option linter.unusedSimpArgs false
theorem within_nat {n : Nat} {f c : Int} (h : within n f c) : f.toNat + c.toNat ≤ n := by
  unfold within at h
  omega
theorem commit_on (bud : Int) (A : Pages) (p c : Int) (h : (onCount A : Int) ≤ bud) : (onCount (commitA bud A p c) : Int) ≤ bud := by
  unfold commitA
  split
  · rename_i e
    unfold commitC at e
    split at e
    · rename_i hw
      split at e
      · omega
      · rw [on_some _ _ (within_nat hw.1) hw.2]
        have := hw.1.1
        omega
    · omega
  · exact h
theorem decommit_on (A : Pages) (p c : Int) : onCount (decommitA A p c) ≤ onCount A := by
  unfold decommitA
  split
  · rename_i e
    unfold rangeC at e
    split at e
    · rename_i hw
      exact on_le (fun x hx => by cases hx) _ (within_nat hw.1)
    · omega
  · exact Nat.le_refl _
theorem lock_on (A : Pages) (p c : Int) (o : Bool) : onCount (lockA A p c o) ≤ onCount A := by
  unfold lockA
  split
  · rename_i e
    unfold rangeC at e
    split at e
    · rename_i hw
      exact on_le (fun x hx => by simpa using hx) _ (within_nat hw.1)
    · omega
  · exact Nat.le_refl _
theorem step_on (bud : Int) (A : Pages) (o : So) (h : (onCount A : Int) ≤ bud) : (onCount (stepA bud A o) : Int) ≤ bud := by
  unfold stepA doA
  have h1 := commit_on bud A o.f1 o.f2 h
  have h2 := decommit_on A o.f1 o.f2
  have h3 := lock_on A o.f1 o.f2 (!true)
  have h4 := lock_on A o.f1 o.f2 (!false)
  have h5 : onCount (storeA A o.f3 o.f5) ≤ onCount A := by
    unfold storeA
    split
    · rw [onCount_putAll]; exact Nat.le_refl _
    · exact Nat.le_refl _
  repeat' split
  all_goals omega
theorem run_on (bud : Int) (n : Nat) (ops : List So) (hb : 0 ≤ bud) : ∀ j, (onCount (runS bud n ops j) : Int) ≤ bud
  | 0 => by rw [runS, onCount_fresh]; exact hb
  | j + 1 => by rw [runS]; exact step_on _ _ _ (run_on bud n ops hb j)
theorem whole_fresh (n : Nat) : Whole (fresh n) := fun k bs op e => by rw [pg_fresh] at e; cases e
theorem step_whole (bud : Int) (A : Pages) (o : So) (h : Whole A) : Whole (stepA bud A o) := by
  unfold stepA doA
  have h1 : Whole (commitA bud A o.f1 o.f2) := by
    unfold commitA
    split
    · exact h.setR _ _ (fun x bs op _ e => by cases e; exact List.length_replicate)
    · exact h
  have h2 : Whole (decommitA A o.f1 o.f2) := by
    unfold decommitA
    split
    · exact h.setR _ _ (fun x bs op _ e => by cases e)
    · exact h
  have h3 : ∀ b, Whole (lockA A o.f1 o.f2 b) := fun b => by
    unfold lockA
    split
    · exact h.setR _ _ (fun x bs op hx e => by
        cases x with
        | none => cases e
        | some y =>
          simp only [Option.map_some, Option.some.injEq, Prod.mk.injEq] at e
          rw [← e.1]
          exact hx y.1 y.2 rfl)
    · exact h
  have h5 : Whole (storeA A o.f3 o.f5) := by
    unfold storeA
    split
    · exact Whole.putAll _ _ h
    · exact h
  repeat' split
  all_goals first | exact h1 | exact h2 | exact h3 _ | exact h5 | exact h
theorem run_whole (bud : Int) (n : Nat) (ops : List So) : ∀ j, Whole (runS bud n ops j)
  | 0 => by rw [runS]; exact whole_fresh n
  | j + 1 => by rw [runS]; exact step_whole _ _ _ (run_whole bud n ops j)
/-- What is refused changes nothing. -/
theorem step_no (bud : Int) (A : Pages) (o : So) (h : (ansO bud A o).f0 ≠ 0) : stepA bud A o = A := by
  unfold stepA doA
  have h' : doC bud A o.f0 o.f1 o.f2 o.f3 o.f4 o.f5 ≠ 0 := h
  unfold doC at h'
  by_cases c0 : o.f0 = 0
  · rw [if_pos c0] at h' ⊢
    unfold commitA
    rw [if_neg h']
  rw [if_neg c0] at h' ⊢
  by_cases c1 : o.f0 = 1
  · rw [if_pos c1] at h' ⊢
    unfold decommitA
    rw [if_neg h']
  rw [if_neg c1] at h' ⊢
  by_cases c2 : o.f0 = 2
  · rw [if_pos c2] at h' ⊢
    unfold lockA
    rw [if_neg h']
  rw [if_neg c2] at h' ⊢
  by_cases c3 : o.f0 = 3
  · rw [if_pos c3] at h' ⊢
    unfold lockA
    rw [if_neg h']
  rw [if_neg c3] at h' ⊢
  by_cases c5 : o.f0 = 5
  · rw [if_neg (by omega), if_pos c5] at h'
    rw [if_pos c5]
    unfold storeA
    rw [if_neg h']
  · rw [if_neg c5]
theorem runS_pre (bud : Int) (n : Nat) (l m : List So) : ∀ j, j ≤ l.length → runS bud n (l ++ m) j = runS bud n l j
  | 0, _ => rfl
  | j + 1, h => by
    rw [runS, runS, runS_pre bud n l m j (by omega), List.getD_eq_getElem?_getD, List.getElem?_append_left (by omega), ← List.getD_eq_getElem?_getD]
theorem runO_pre (bud : Int) (n : Nat) (l m : List So) (j : Nat) (h : j ≤ l.length) : runO bud n (l ++ m) j = runO bud n l j := by
  unfold runO
  apply List.map_congr_left
  intro i hi
  have hi := List.mem_range.1 hi
  rw [runS_pre bud n l m i (by omega), List.getD_eq_getElem?_getD, List.getElem?_append_left (by omega), ← List.getD_eq_getElem?_getD]
/-- The operations that were answered by 0 among the first j, and what they were answered. -/
def keptS (bud : Int) (n : Nat) (ops : List So) : Nat → List So
  | 0 => []
  | j + 1 => if (ansO bud (runS bud n ops j) (ops.getD j zO)).f0 = 0 then keptS bud n ops j ++ [ops.getD j zO] else keptS bud n ops j
def keptA (bud : Int) (n : Nat) (ops : List So) : Nat → List An
  | 0 => []
  | j + 1 => if (ansO bud (runS bud n ops j) (ops.getD j zO)).f0 = 0 then keptA bud n ops j ++ [ansO bud (runS bud n ops j) (ops.getD j zO)] else keptA bud n ops j
theorem keptA_len (bud : Int) (n : Nat) (ops : List So) : ∀ j, (keptA bud n ops j).length = (keptS bud n ops j).length
  | 0 => rfl
  | j + 1 => by
    rw [keptA, keptS]
    have := keptA_len bud n ops j
    split <;> simp [this]
theorem keptS_len (bud : Int) (n : Nat) (ops : List So) : ∀ j, (keptS bud n ops j).length ≤ j
  | 0 => Nat.le_refl _
  | j + 1 => by
    rw [keptS]
    have := keptS_len bud n ops j
    split
    · simp; omega
    · omega
theorem keptA_zero (bud : Int) (n : Nat) (ops : List So) : ∀ j, ∀ x ∈ keptA bud n ops j, x.f0 = 0
  | 0, x, h => by cases h
  | j + 1, x, h => by
    rw [keptA] at h
    split at h
    · rename_i e
      rcases List.mem_append.1 h with h | h
      · exact keptA_zero bud n ops j x h
      · rw [List.mem_singleton.1 h]; exact e
    · exact keptA_zero bud n ops j x h
theorem kept_run (bud : Int) (n : Nat) (ops : List So) : ∀ j, runS bud n (keptS bud n ops j) (keptS bud n ops j).length = runS bud n ops j ∧ runO bud n (keptS bud n ops j) (keptS bud n ops j).length = keptA bud n ops j
  | 0 => ⟨rfl, rfl⟩
  | j + 1 => by
    obtain ⟨h1, h2⟩ := kept_run bud n ops j
    rw [keptS, keptA]
    by_cases c : (ansO bud (runS bud n ops j) (ops.getD j zO)).f0 = 0
    · rw [if_pos c, if_pos c]
      have hl : (keptS bud n ops j ++ [ops.getD j zO]).length = (keptS bud n ops j).length + 1 := by simp
      have hg : (keptS bud n ops j ++ [ops.getD j zO]).getD (keptS bud n ops j).length zO = ops.getD j zO := by
        rw [List.getD_eq_getElem?_getD, List.getElem?_append_right (Nat.le_refl _)]
        simp
      rw [hl]
      constructor
      · rw [runS, runS_pre _ _ _ _ _ (Nat.le_refl _), h1, runS]
        exact congrArg (stepA bud (runS bud n ops j)) hg
      · rw [runO_succ, runO_pre _ _ _ _ _ (Nat.le_refl _), runS_pre _ _ _ _ _ (Nat.le_refl _), h2, h1]
        exact congrArg (fun x => keptA bud n ops j ++ [ansO bud (runS bud n ops j) x]) hg
    · rw [if_neg c, if_neg c, h1, h2, runS]
      exact ⟨(step_no bud _ _ c).symm, rfl⟩
/-! ### a store at an open page's start, then a load -/
def stO (a : Int) (d : List Int) : So := ⟨5, 0, 0, a, 0, d⟩
def ldO (a n : Int) : So := ⟨4, 0, 0, a, n, []⟩
theorem openL_at {A : Pages} {i : Nat} (hi : i < (openL A).length) : ∃ k : Nat, (openL A).getD i 0 = (k : Int) ∧ opened (pg A k) = true ∧ k < A.length := by
  have hm : (openL A).getD i 0 ∈ openL A := by
    rw [List.getD_eq_getElem?_getD, List.getElem?_eq_getElem hi]
    exact List.getElem_mem hi
  unfold openL at hm ⊢
  obtain ⟨k, hk, he⟩ := List.mem_map.1 hm
  have hk := List.mem_filter.1 hk
  exact ⟨k, he.symm, hk.2, List.mem_range.1 hk.1⟩
theorem store_ok {A : Pages} {k n : Nat} (ho : opened (pg A k) = true) (hk : k ≤ 4096) (hn : n ≤ 1024) : accessC A (k * 1024 : Nat) n = 0 := by
  unfold accessC
  rw [if_neg (by omega)]
  by_cases c : (n : Int) = 0
  · rw [if_pos c]
  · rw [if_neg c, if_pos]
    refine ⟨by omega, fun i hi => ?_⟩
    unfold reach
    rw [Int.toNat_natCast, show (k * 1024 + i) / 1024 = k by omega]
    exact ho
theorem two_eq {a b a' b' : An} (h1 : a = a') (h2 : b = b') : [a] ++ [b] = [a', b'] := by
  rw [h1, h2]
  rfl
theorem last_two (bud : Int) (n : Nat) (ops : List So) (k : Nat) (d : List Int) (ho : opened (pg (runS bud n ops ops.length) k) = true) (hk : k ≤ 4096) (hd : d.length ≤ 1024) :
    runO bud n (ops ++ [stO (k * 1024 : Nat) d, ldO (k * 1024 : Nat) d.length]) (ops.length + 2) = runO bud n ops ops.length ++ [⟨0, []⟩, ⟨0, d⟩] := by
  have hg0 : (ops ++ [stO (k * 1024 : Nat) d, ldO (k * 1024 : Nat) d.length]).getD ops.length zO = stO (k * 1024 : Nat) d := by
    rw [List.getD_eq_getElem?_getD, List.getElem?_append_right (Nat.le_refl _)]
    simp
  have hg1 : (ops ++ [stO (k * 1024 : Nat) d, ldO (k * 1024 : Nat) d.length]).getD (ops.length + 1) zO = ldO (k * 1024 : Nat) d.length := by
    rw [List.getD_eq_getElem?_getD, List.getElem?_append_right (by omega)]
    simp
  have hs := store_ok ho hk hd
  have hst : stepA bud (runS bud n ops ops.length) (stO (k * 1024 : Nat) d) = putAll (runS bud n ops ops.length) (k * 1024) d := by
    show storeA (runS bud n ops ops.length) ((k * 1024 : Nat) : Int) d = _
    unfold storeA
    rw [if_pos hs, Int.toNat_natCast]
  rw [runO_succ, runO_succ, runO_pre _ _ _ _ _ (Nat.le_refl _), runS_pre _ _ _ _ _ (Nat.le_refl _), List.append_assoc]
  congr 1
  have e0 : ansO bud (runS bud n ops ops.length) ((ops ++ [stO (k * 1024 : Nat) d, ldO (k * 1024 : Nat) d.length]).getD ops.length zO) = ⟨0, []⟩ := by
    rw [hg0]
    show (⟨accessC (runS bud n ops ops.length) ((k * 1024 : Nat) : Int) d.length, []⟩ : An) = _
    rw [hs]
  have e1 : ansO bud (runS bud n (ops ++ [stO (k * 1024 : Nat) d, ldO (k * 1024 : Nat) d.length]) (ops.length + 1)) ((ops ++ [stO (k * 1024 : Nat) d, ldO (k * 1024 : Nat) d.length]).getD (ops.length + 1) zO) = ⟨0, d⟩ := by
    rw [hg1]
    have : runS bud n (ops ++ [stO (k * 1024 : Nat) d, ldO (k * 1024 : Nat) d.length]) (ops.length + 1) = putAll (runS bud n ops ops.length) (k * 1024) d := by
      rw [runS, runS_pre _ _ _ _ _ (Nat.le_refl _), ← hst]
      exact congrArg (stepA bud (runS bud n ops ops.length)) hg0
    rw [this]
    have hl : accessC (putAll (runS bud n ops ops.length) (k * 1024) d) ((k * 1024 : Nat) : Int) d.length = 0 := store_ok (by rw [open_putAll]; exact ho) hk hd
    show (⟨accessC (putAll (runS bud n ops ops.length) (k * 1024) d) ((k * 1024 : Nat) : Int) d.length, if accessC (putAll (runS bud n ops ops.length) (k * 1024) d) ((k * 1024 : Nat) : Int) d.length = 0 then loadD (putAll (runS bud n ops ops.length) (k * 1024) d) ((k * 1024 : Nat) : Int) d.length else []⟩ : An) = _
    rw [hl, if_pos rfl, load_put (run_whole bud n ops _)]
    intro i hi
    rw [show (k * 1024 + i) / 1024 = k by omega]
    have := reach_of (A := runS bud n ops ops.length) (a := k * 1024) (by unfold reach; rw [show k * 1024 / 1024 = k by omega]; exact ho)
    rwa [show k * 1024 / 1024 = k by omega] at this
  exact two_eq e0 e1
end Go.Proofs.Ytklobepkihdbkaa.FsP
/- Reports of runs over a space in memory; rows of structs that lend their inner rows. No condition. -/
namespace Go.Proofs.Ytklobepkihdbkaa.Rep
open Go.RowKit Go.Proofs.YtklobepkihdbkaaW.PrintWords Go.Proofs.Ytklobepkihdbkaa.PFnExactRunSpace RsP Mem SpI SpR Mrk
set_option linter.unusedVariables false
set_option linter.unusedSimpArgs false
/-- A report's own rows lie from lo to hi, its box is block hi. -/
structure Rep (W : World) (lo B hi : Nat) (ok : Bool) (A1 : Option Addr) (c1 : Nat) (A2 : Option Addr) (c2 : Nat) (xs : List An) (cm : Int) (op : List Int) : Prop where
  lh : lo ≤ hi
  box : W.heap[hi]? = some (.cells #[.bool ok, .slice A1 xs.length c1, .int .i64 cm, .slice A2 op.length c2] 48 (0, 0))
  s : Kd.S k54 54 W lo (fun k => k < B ∧ k < hi) (.slice A1 xs.length c1) xs
  r : (Kd.int .i64).R 3 W lo (fun k => B ≤ k ∧ k < hi) (.slice A2 op.length c2) op
section
variable {W W' w w' : World} {lo B hi : Nat} {ok : Bool} {A1 A2 : Option Addr} {c1 c2 : Nat} {xs : List An} {cm : Int} {op : List Int} {F : Nat → Prop}
theorem Rep.kept (h : Rep W lo B hi ok A1 c1 A2 c2 xs cm op) (hk : Kept W W' F) (hF : ∀ k, F k → ¬ (lo ≤ k ∧ k ≤ hi)) : Rep W' lo B hi ok A1 c1 A2 c2 xs cm op :=
  ⟨h.lh, (hk.2 _ (lt_of h.box) (fun e => hF _ e ⟨h.lh, Nat.le_refl _⟩)).trans h.box,
   Kd.S_mono (Kd.S_move (Kd.S_bound h.s) (fun k hk2 => hk.2 k hk2.2.2.1 (fun e => hF k e ⟨hk2.2.1, by have := hk2.1.2; omega⟩))) (fun k hk2 => hk2.1),
   Kd.R_mono (Kd.R_move (Kd.R_bound h.r) (fun k hk2 => hk.2 k hk2.2.2.1 (fun e => hF k e ⟨hk2.2.1, by have := hk2.1.2; omega⟩))) (fun k hk2 => hk2.1)⟩
theorem Rep.below (h : Rep W lo B hi ok A1 c1 A2 c2 xs cm op) (hb : Below W.heap.size W W') : Rep W' lo B hi ok A1 c1 A2 c2 xs cm op := h.kept (Kept.of_below hb (fun _ => False)) (fun _ e => e.elim)
/-- What the helpers read of a report. -/
theorem Rep.reads (h : Rep W lo B hi ok A1 c1 A2 c2 xs cm op) : Kd.C k54 W A1 xs.length xs ∧ xs.length ≤ c1 ∧ (Kd.int .i64).C W A2 op.length op ∧ op.length ≤ c2 := by
  have h1 := Kd.S_reads' h.s
  have h2 := Kd.R_reads' h.r
  exact ⟨h1.2.2, h1.2.1, h2.2.2, h2.2.1⟩
theorem Rep.cells (h : Rep W lo B hi ok A1 c1 A2 c2 xs cm op) : W.cell? ⟨hi, 0, none⟩ = some (.bool ok) ∧ W.cell? ⟨hi, 1, none⟩ = some (.slice A1 xs.length c1) ∧ W.cell? ⟨hi, 2, none⟩ = some (.int .i64 cm) ∧ W.cell? ⟨hi, 3, none⟩ = some (.slice A2 op.length c2) :=
  ⟨bcell h.box 0, bcell h.box 1, bcell h.box 2, bcell h.box 3⟩
theorem rep_of {e : Ending} (h : RnPost w ok xs cm op e W) : ∃ B A1 c1 A2 c2, e = .returned (.agg #[.bool ok, .slice A1 xs.length c1, .int .i64 cm, .slice A2 op.length c2]) ∧ Below w.heap.size w W ∧
    Rep (W.alloc (.cells #[.bool ok, .slice A1 xs.length c1, .int .i64 cm, .slice A2 op.length c2] 48)) w.heap.size B W.heap.size ok A1 c1 A2 c2 xs cm op := by
  obtain ⟨va, vo, B, rfl, hS, hR, hB⟩ := h
  obtain ⟨A1, c1, rfl⟩ := Kd.S_slice hS
  obtain ⟨A2, c2, rfl⟩ := Kd.R_slice hR
  refine ⟨B, A1, c1, A2, c2, rfl, hB, hB.size, alloc_new _ _, Kd.S_alloc (Kd.S_mono (Kd.S_bound hS) (fun k hk => ⟨hk.1, hk.2.2.1⟩)) _, Kd.R_alloc (Kd.R_mono (Kd.R_bound hR) (fun k hk => ⟨hk.1, hk.2.2.1⟩)) _⟩
end
/-- A kind whose values' inner rows lie elsewhere and stay as they were at W0. -/
def lent {α : Type} (d : Kd α) (W0 : World) : Kd α where
  sz := d.sz
  E := d.E
  K _ x cs := d.K W0 x cs
  M _ _ _ x cs := d.K W0 x cs
  K_len h := d.K_len h
  K_one h := d.K_one h
  K_below _ h := h
  K_of_M h := h
  M_mono _ h := h
  M_bound h := h
  M_move _ h := h
  M_lower _ h := h
theorem lent_C {α : Type} {d : Kd α} {W0 W : World} (hB : Below W0.heap.size W0 W) {A : Option Addr} {n : Nat} {xs : List α} (h : (lent d W0).C W A n xs) : d.C W A n xs :=
  ⟨h.1, h.2.1, fun hn => by
    obtain ⟨ad, e, h2⟩ := h.2.2 hn
    refine ⟨ad, e, fun j p hj => ?_⟩
    obtain ⟨c, h3, h4, h5⟩ := h2 j p hj
    exact ⟨c, h3, d.K_below hB h4, h5⟩⟩
end Go.Proofs.Ytklobepkihdbkaa.Rep
