/- The program's address space: one page committed, dropped, locked; plain facts. -/
import Derived.Test.YtklobepkihdbkaaSpA
namespace Go.Proofs.Ytklobepkihdbkaa.SpP
open Go.RowKit Go.MuLone Mem Sp SpI SpA
set_option linter.unusedVariables false
set_option linter.unusedSimpArgs false
theorem pg_lt {A : Pages} {k : Nat} (h : (pg A k).isSome = true) : k < A.length := by
  by_cases hk : k < A.length
  · exact hk
  · rw [pg_out (by omega)] at h; cases h
theorem onCount_set : ∀ (A : Pages) (k : Nat) (y : Pg), k < A.length → onCount (A.set k y) + (if (pg A k).isSome then 1 else 0) = onCount A + (if y.isSome then 1 else 0)
  | [], k, y, h => by simp at h
  | x :: xs, 0, y, h => by
    simp only [onCount, List.set_cons_zero, pg, List.getD_cons_zero, List.filter_cons]
    cases x <;> cases y <;> simp
  | x :: xs, k + 1, y, h => by
    have := onCount_set xs k y (by simpa using h)
    simp only [onCount, List.set_cons_succ, pg, List.getD_cons_succ, List.filter_cons] at this ⊢
    cases x <;> simp_all <;> omega
theorem pgIn_set {A : Pages} {pb : Nat → Nat} {k : Nat} (hk : k < A.length) (y : Pg) (b : Nat) (x : Int) :
    pgIn (A.set k y) (fun i => if i = k then b else pb i) x = upd (pgIn A pb) (k : Int) (if y.isSome then some (b + 1) else none) x := by
  unfold upd pgIn
  by_cases h0 : 0 ≤ x
  · obtain ⟨n, rfl⟩ := Int.eq_ofNat_of_zero_le h0
    rw [Int.toNat_natCast, pg_set hk]
    by_cases e : n = k
    · subst e
      simp
    · rw [if_neg e, if_neg (show ¬ (n : Int) = k by omega)]
      simp only [if_neg e]
  · rw [if_neg (fun h => h0 h.1), if_neg (by omega), if_neg (fun h => h0 h.1)]
theorem wf_of {x : Int} (h : (Lit.int .i64 x).wf = true) : True := trivial
section
variable {w w1 w2 : World} {F : Nat → Prop} {sb mb : Nat} {pb : Nat → Nat} {m bud : Int} {A : Pages}
theorem turned_old {b : Nat} (ht : w1.mapTurned w2 b) {i : Nat} (hi : i ≠ b) : w2.heap[i]? = w1.heap[i]? := by
  obtain ⟨es, c, es', c', hb, rfl⟩ := ht
  exact ChangeMaps.heap_setBlock_other hb _ hi
theorem turned_size {b : Nat} (ht : w1.mapTurned w2 b) : w2.heap.size = w1.heap.size := by
  obtain ⟨es, c, es', c', hb, rfl⟩ := ht
  simp [ChangeMaps.setBlock]
/-- A new page block, and its entry. -/
theorem ISp.commit1 (h : ISp w F sb mb pb m bud A) {k : Nat} (hk : k < A.length) (hn : pg A k = none)
    (hw1 : w1 = w.alloc (.cells (pageCells zeros false) 113)) (hm : PMap Try.prog 3 .i64 ptrC w2 mb (if (pgIn A pb k).isSome then onCount A else onCount A + 1) (upd (pgIn A pb) k (some (w.heap.size + 1)))) (ht : w1.mapTurned w2 mb) :
    ISp w2 (fun i => F i ∨ i = w.heap.size) sb mb (fun i => if i = k then w.heap.size else pb i) m bud (A.set k (some (zeros, true))) := by
  have hz : w1.heap.size = w.heap.size + 1 := by rw [hw1]; simp
  have hz2 := turned_size ht
  have hold : ∀ {i o}, w.heap[i]? = some o → i ≠ mb → w2.heap[i]? = some o := fun {i o} h1 h2 => (turned_old ht h2).trans (by rw [hw1]; exact alloc_old h1 _)
  have hc := onCount_set A k (some (zeros, true)) hk
  rw [hn] at hc
  simp at hc
  have hi : (pgIn A pb k).isSome = false := by simp [pgIn, hn]
  rw [hi] at hm
  simp at hm
  refine ⟨?_, ?_, fun i bs op e => ?_, fun i i' hi hi' e => ?_, .inl h.fs, .inl h.fm, fun i hi => ?_, by rw [List.length_set]; exact h.len⟩
  · rw [List.length_set]
    exact hold h.hs (Ne.symm h.map_ne)
  · rw [hc]
    exact hm.congr fun x hx => by rw [pgIn_set hk]; rfl
  · rw [pg_set hk] at e
    by_cases e1 : i = k
    · subst e1
      rw [if_pos rfl] at e
      cases e
      refine ⟨List.length_replicate, .inr (if_pos rfl), ?_⟩
      rw [if_pos rfl, turned_old ht (by have := h.bound mb h.fm; omega), hw1]
      exact alloc_new _ _
    · rw [if_neg e1] at e
      obtain ⟨h1, h2, h3⟩ := h.hp i bs op e
      rw [if_neg e1]
      exact ⟨h1, .inl h2, hold h3 (h.page_ne (by rw [e]; rfl)).2⟩
  · rw [pg_set hk] at hi hi'
    by_cases e1 : i = k
    · by_cases e2 : i' = k
      · omega
      · simp only [if_pos e1, if_neg e2] at e hi'
        obtain ⟨x, hx⟩ := Option.isSome_iff_exists.1 hi'
        have := h.bound _ (h.hp i' x.1 x.2 hx).2.1
        omega
    · by_cases e2 : i' = k
      · simp only [if_neg e1, if_pos e2] at e hi
        obtain ⟨x, hx⟩ := Option.isSome_iff_exists.1 hi
        have := h.bound _ (h.hp i x.1 x.2 hx).2.1
        omega
      · simp only [if_neg e1, if_neg e2] at e hi hi'
        exact h.inj i i' hi hi' e
  · rcases hi with hi | rfl
    · have := h.bound i hi; omega
    · omega
/-- A page's entry struck. -/
theorem ISp.drop1 (h : ISp w F sb mb pb m bud A) {k : Nat} (hs : (pg A k).isSome = true)
    (hm : PMap Try.prog 3 .i64 ptrC w2 mb (if (pgIn A pb k).isSome then onCount A - 1 else onCount A) (upd (pgIn A pb) k none)) (ht : w.mapTurned w2 mb) :
    ISp w2 F sb mb pb m bud (A.set k none) := by
  have hk := pg_lt hs
  have hold : ∀ {i o}, w.heap[i]? = some o → i ≠ mb → w2.heap[i]? = some o := fun {i o} h1 h2 => (turned_old ht h2).trans h1
  have hc := onCount_set A k none hk
  rw [hs] at hc
  simp at hc
  have hi : (pgIn A pb k).isSome = true := by simp [pgIn, hs]
  rw [hi] at hm
  simp at hm
  refine ⟨?_, ?_, fun i bs op e => ?_, fun i i' hi hi' e => ?_, h.fs, h.fm, fun i hi => by rw [turned_size ht]; exact h.bound i hi, by rw [List.length_set]; exact h.len⟩
  · rw [List.length_set]
    exact hold h.hs (Ne.symm h.map_ne)
  · rw [show onCount (A.set k none) = onCount A - 1 by omega]
    refine hm.congr fun x hx => ?_
    have := pgIn_set (pb := pb) hk none (pb k) x
    rw [show (fun i => if i = k then pb k else pb i) = pb from funext fun i => by by_cases e : i = k <;> simp [e]] at this
    exact this
  · rw [pg_set hk] at e
    by_cases e1 : i = k
    · rw [if_pos e1] at e; cases e
    · rw [if_neg e1] at e
      obtain ⟨h1, h2, h3⟩ := h.hp i bs op e
      exact ⟨h1, h2, hold h3 (h.page_ne (by rw [e]; rfl)).2⟩
  · rw [pg_set hk] at hi hi'
    by_cases e1 : i = k
    · rw [if_pos e1] at hi; cases hi
    · by_cases e2 : i' = k
      · rw [if_pos e2] at hi'; cases hi'
      · rw [if_neg e1] at hi
        rw [if_neg e2] at hi'
        exact h.inj i i' hi hi' e
/-- A page's block turned: its bytes, its lock. -/
theorem ISp.page1 (h : ISp w F sb mb pb m bud A) {k : Nat} {bs bs' : List Int} {op op' : Bool} (he : pg A k = some (bs, op)) (hl : bs'.length = 1024)
    (hb : w2.heap[pb k]? = some (.cells (pageCells bs' (!op')) 113 (0, 0))) (hz : w2.heap.size = w.heap.size) (ho : ∀ i, i ≠ pb k → w2.heap[i]? = w.heap[i]?) :
    ISp w2 F sb mb pb m bud (A.set k (some (bs', op'))) := by
  have hs : (pg A k).isSome = true := by rw [he]; rfl
  have hk := pg_lt hs
  obtain ⟨hn1, hn2⟩ := h.page_ne hs
  have hc := onCount_set A k (some (bs', op')) hk
  rw [hs] at hc
  simp at hc
  refine ⟨?_, ?_, fun i xs x e => ?_, fun i i' hi hi' e => ?_, h.fs, h.fm, fun i hi => by rw [hz]; exact h.bound i hi, by rw [List.length_set]; exact h.len⟩
  · rw [List.length_set, ho _ (Ne.symm hn1)]
    exact h.hs
  · rw [hc]
    refine (h.hm.move (ho _ (Ne.symm hn2))).congr fun x hx => ?_
    have := pgIn_set (pb := pb) hk (some (bs', op')) (pb k) x
    rw [show (fun i => if i = k then pb k else pb i) = pb from funext fun i => by by_cases e : i = k <;> simp [e]] at this
    rw [this]
    unfold upd
    by_cases e : x = k
    · subst e
      simp [pgIn, hs]
    · rw [if_neg e]
  · rw [pg_set hk] at e
    by_cases e1 : i = k
    · subst e1
      rw [if_pos rfl] at e
      cases e
      exact ⟨hl, (h.hp i bs op he).2.1, hb⟩
    · rw [if_neg e1] at e
      obtain ⟨h1, h2, h3⟩ := h.hp i xs x e
      refine ⟨h1, h2, (ho _ (fun e2 => e1 (h.inj i k (by rw [e]; rfl) hs e2))).trans h3⟩
  · rw [pg_set hk] at hi hi'
    have hi2 : (pg A i).isSome = true := by
      by_cases e1 : i = k
      · rw [e1]; exact hs
      · rw [if_neg e1] at hi; exact hi
    have hi3 : (pg A i').isSome = true := by
      by_cases e1 : i' = k
      · rw [e1]; exact hs
      · rw [if_neg e1] at hi'; exact hi'
    exact h.inj i i' hi2 hi3 e
end
/-- What an operation on the space answers and leaves. -/
def SpPost (w : World) (F : Nat → Prop) (sb : Nat) (bud code : Int) (A : Pages) (e : Ending) (w' : World) : Prop :=
  e = .returned (.int .i64 code) ∧ ∃ G, ISpace w' G sb 0 bud A ∧ (∀ k, G k → F k ∨ w.heap.size ≤ k) ∧ Turn w w' F
theorem sp_fin {w wx : World} {F G : Nat → Prop} {sb : Nat} {bud code : Int} {A : Pages} (hI : ISpace wx G sb 1 bud A) (hG : ∀ k, G k → F k ∨ w.heap.size ≤ k) (hT : Turn w wx F) (hF : F sb) : SpPost w F sb bud code A (.returned (.int .i64 code)) (wx.setCell ⟨sb, 0, none⟩ (.int .i32 0)) :=
  ⟨rfl, G, hI.mutex 0, hG, hT.setCell (.inl hF) _⟩
theorem onCount_le (A : Pages) : onCount A ≤ A.length := List.length_filter_le _ _
end Go.Proofs.Ytklobepkihdbkaa.SpP
