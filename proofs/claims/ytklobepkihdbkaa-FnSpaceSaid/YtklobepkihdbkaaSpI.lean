/- The program's address space in memory; its small readers. -/
import Derived.Test.YtklobepkihdbkaaMem
import Derived.Test.YtklobepkihdbkaaMu
import Derived.Test.YtklobepkihdbkaaSp
import Derived.WalkKit
import Derived.WalkSpells
import Derived.Deep.QuietTactic
import Derived.BigQuiet
namespace Go.Proofs.Ytklobepkihdbkaa.SpI
open Go.RowKit Go.MuLone Mem Sp
set_option linter.unusedVariables false
set_option linter.unusedSimpArgs false
theorem bcell {w : World} {g : Nat} {t : TypeId} {cs : Array Value} (h : w.heap[g]? = some (.cells cs t (0, 0))) (i : Nat) : w.cell? ⟨g, i, none⟩ = cs[i]? := cell_of_row w g i cs t (0, 0) h
theorem bfroz {w : World} {g : Nat} {t : TypeId} {cs : Array Value} (h : w.heap[g]? = some (.cells cs t (0, 0))) (i : Nat) : w.frozen? ⟨g, i, none⟩ = false := by simp [World.frozen?, h]
theorem bset {w : World} {g : Nat} {t : TypeId} {cs : Array Value} (h : w.heap[g]? = some (.cells cs t (0, 0))) (i : Nat) (u : Value) : (w.setCell ⟨g, i, none⟩ u).heap[g]? = some (.cells (cs.setIfInBounds i u) t (0, 0)) := by
  simp [World.setCell, Array.getElem?_modify, h]
/-! ### a page's cells -/
def pageCells (bs : List Int) (lk : Bool) : Array Value := (bs.map (Value.int .u8) ++ [Value.bool lk]).toArray
theorem page_at {bs : List Int} {lk : Bool} (hl : bs.length = 1024) {i : Nat} (hi : i < 1024) : (pageCells bs lk)[i]? = some (.int .u8 (bs.getD i 0)) := by
  simp only [pageCells, List.getElem?_toArray]
  rw [List.getElem?_append_left (by simpa [hl] using hi)]
  simp [List.getD_eq_getElem?_getD, List.getElem?_eq_getElem (show i < bs.length by omega)]
theorem page_lock {bs : List Int} {lk : Bool} (hl : bs.length = 1024) : (pageCells bs lk)[1024]? = some (.bool lk) := by
  simp only [pageCells, List.getElem?_toArray]
  rw [List.getElem?_append_right (by simp [hl])]
  simp [hl]
theorem page_set {bs : List Int} {lk : Bool} (hl : bs.length = 1024) {i : Nat} (hi : i < 1024) (v : Int) : (pageCells bs lk).setIfInBounds i (.int .u8 v) = pageCells (bs.set i v) lk := by
  simp only [pageCells, List.setIfInBounds_toArray]
  rw [List.set_append_left _ _ (by simpa [hl] using hi), List.map_set]
theorem page_relock {bs : List Int} {lk : Bool} (hl : bs.length = 1024) (lk' : Bool) : (pageCells bs lk).setIfInBounds 1024 (.bool lk') = pageCells bs lk' := by
  simp only [pageCells, List.setIfInBounds_toArray]
  rw [List.set_append_right _ _ (by simp [hl])]
  simp [hl]
/-! ### the space -/
def pgIn (A : Pages) (pb : Nat → Nat) : Int → Option Nat := fun x => if 0 ≤ x ∧ (pg A x.toNat).isSome = true then some (pb x.toNat + 1) else none
structure ISp (w : World) (F : Nat → Prop) (sb mb : Nat) (pb : Nat → Nat) (m bud : Int) (A : Pages) : Prop where
  hs : w.heap[sb]? = some (.cells #[.int .i32 m, .int .u32 0, .map (some mb), .int .i64 A.length, .int .i64 bud] 95 (0, 0))
  hm : PMap Try.prog 3 .i64 ptrC w mb (onCount A) (pgIn A pb)
  hp : ∀ k bs op, pg A k = some (bs, op) → bs.length = 1024 ∧ F (pb k) ∧ w.heap[pb k]? = some (.cells (pageCells bs (!op)) 113 (0, 0))
  inj : ∀ k k', (pg A k).isSome = true → (pg A k').isSome = true → pb k = pb k' → k = k'
  fs : F sb
  fm : F mb
  bound : ∀ k, F k → k < w.heap.size
  len : A.length ≤ 4096
/-- The space that lies at sb: so many pages, this budget; its blocks are among F. -/
def ISpace (w : World) (F : Nat → Prop) (sb : Nat) (m bud : Int) (A : Pages) : Prop := ∃ mb pb, ISp w F sb mb pb m bud A
section
variable {w w' : World} {F G : Nat → Prop} {sb mb : Nat} {pb : Nat → Nat} {m bud : Int} {A : Pages}
theorem ISp.move (h : ISp w F sb mb pb m bud A) (hm : ∀ k, F k → w'.heap[k]? = w.heap[k]?) (hz : w.heap.size ≤ w'.heap.size) : ISp w' F sb mb pb m bud A :=
  ⟨(hm _ h.fs).trans h.hs, h.hm.move (hm _ h.fm), fun k bs op e => let ⟨a, b, c⟩ := h.hp k bs op e; ⟨a, b, (hm _ b).trans c⟩, h.inj, h.fs, h.fm, fun k hk => Nat.lt_of_lt_of_le (h.bound k hk) hz, h.len⟩
theorem ISp.widen (h : ISp w F sb mb pb m bud A) (hg : ∀ k, F k → G k) (hb : ∀ k, G k → k < w.heap.size) : ISp w G sb mb pb m bud A :=
  ⟨h.hs, h.hm, fun k bs op e => let ⟨a, b, c⟩ := h.hp k bs op e; ⟨a, hg _ b, c⟩, h.inj, hg _ h.fs, hg _ h.fm, hb, h.len⟩
theorem ISp.page_ne (h : ISp w F sb mb pb m bud A) {k : Nat} (hk : (pg A k).isSome = true) : pb k ≠ sb ∧ pb k ≠ mb := by
  obtain ⟨x, hx⟩ := Option.isSome_iff_exists.1 hk
  obtain ⟨_, _, hc⟩ := h.hp k x.1 x.2 hx
  constructor
  · intro e
    rw [e, h.hs] at hc
    injection hc with hc
    injection hc with _ hc
    exact absurd hc (by decide)
  · intro e
    obtain ⟨es, c, hb⟩ := h.hm.isMap
    rw [e, hb] at hc
    cases hc
theorem ISp.map_ne (h : ISp w F sb mb pb m bud A) : mb ≠ sb := by
  intro e
  obtain ⟨es, c, hb⟩ := h.hm.isMap
  rw [e, h.hs] at hb
  cases hb
/-- The lock's word is turned. -/
theorem ISp.mutex (h : ISp w F sb mb pb m bud A) (m' : Int) : ISp (w.setCell ⟨sb, 0, none⟩ (.int .i32 m')) F sb mb pb m' bud A :=
  ⟨bset h.hs 0 _, h.hm.move (Below.heap_setCell _ _ _ _ (by simp; exact h.map_ne)), fun k bs op e => let ⟨a, b, c⟩ := h.hp k bs op e; ⟨a, b, set_other c (by simp; exact (h.page_ne (by rw [e]; rfl)).1) _⟩, h.inj, h.fs, h.fm, fun k hk => by rw [set_size]; exact h.bound k hk, h.len⟩
theorem ISpace.move (h : ISpace w F sb m bud A) (hm : ∀ k, F k → w'.heap[k]? = w.heap[k]?) (hz : w.heap.size ≤ w'.heap.size) : ISpace w' F sb m bud A := let ⟨mb, pb, h⟩ := h; ⟨mb, pb, h.move hm hz⟩
theorem ISpace.bound (h : ISpace w F sb m bud A) : ∀ k, F k → k < w.heap.size := let ⟨mb, pb, h⟩ := h; h.bound
theorem ISpace.turned (h : ISpace w F sb m bud A) (ht : Turn w w' G) (hg : ∀ k, F k → ¬ G k) : ISpace w' F sb m bud A := h.move (fun k hk => ht.block k (h.bound k hk) (hg k hk)) ht.size
theorem ISpace.mutex (h : ISpace w F sb m bud A) (m' : Int) : ISpace (w.setCell ⟨sb, 0, none⟩ (.int .i32 m')) F sb m' bud A := let ⟨mb, pb, h⟩ := h; ⟨mb, pb, h.mutex m'⟩
end
/-! ### within -/
set_option maxHeartbeats 1000000 in
theorem within_is {sb n : Nat} (w : World) (f c : Int) (hc : w.cell? ⟨sb, 3, none⟩ = some (.int .i64 (n : Int))) (hn : n ≤ 4096) :
    Calls Try.prog 73 #[.pointer (some ⟨sb, 0, none⟩), .int .i64 f, .int .i64 c] w fun e w' => e = .returned (.bool (decide (within n f c))) ∧ w = w' := by
  have ret : ∀ {x y : Bool}, x = y → Ending.returned (.bool x) = .returned (.bool y) := fun h => by rw [h]
  unfold within
  by_cases h1 : 1 ≤ c
  · by_cases h2 : 0 ≤ f
    · by_cases h3 : f < n
      · go_enter Try.func73, Try.ntmps73
        go_wp2
        go_ret
        exact ⟨ret (by simp [h1, h2, h3]), rfl⟩
      · have n1 : (decide (1 ≤ c ∧ 0 ≤ f ∧ f < (n : Int) ∧ c ≤ (n : Int) - f)) = false := by simp; omega
        rw [n1]
        go_enter Try.func73, Try.ntmps73
        go_wp2
        go_ret
        exact ⟨rfl, rfl⟩
    · have n1 : (decide (1 ≤ c ∧ 0 ≤ f ∧ f < (n : Int) ∧ c ≤ (n : Int) - f)) = false := by simp; omega
      rw [n1]
      go_enter Try.func73, Try.ntmps73
      go_wp2
      go_ret
      exact ⟨rfl, rfl⟩
  · have n1 : (decide (1 ≤ c ∧ 0 ≤ f ∧ f < (n : Int) ∧ c ≤ (n : Int) - f)) = false := by simp; omega
    rw [n1]
    go_enter Try.func73, Try.ntmps73
    go_wp2
    go_ret
    exact ⟨rfl, rfl⟩
end Go.Proofs.Ytklobepkihdbkaa.SpI
