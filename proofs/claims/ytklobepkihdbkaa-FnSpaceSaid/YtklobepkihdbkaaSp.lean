/- The address space as a list of pages: what each operation comes to; plain facts. -/
import Derived.WalkSmall
namespace Go.Proofs.Ytklobepkihdbkaa.Sp
set_option linter.unusedVariables false
set_option linter.unusedSimpArgs false
/-- A page that is committed: its bytes; whether it is open. -/
abbrev Pg := Option (List Int × Bool)
abbrev Pages := List Pg
def pg (A : Pages) (i : Nat) : Pg := A.getD i none
/-- The pages from first on, so many, turned by g. -/
def setR (A : Pages) (first count : Nat) (g : Pg → Pg) : Pages := A.mapIdx fun i x => if first ≤ i ∧ i < first + count then g x else x
theorem setR_len (A : Pages) (f c : Nat) (g : Pg → Pg) : (setR A f c g).length = A.length := by simp [setR]
theorem pg_setR {A : Pages} {f c : Nat} {g : Pg → Pg} {i : Nat} (hi : i < A.length) : pg (setR A f c g) i = if f ≤ i ∧ i < f + c then g (pg A i) else pg A i := by
  unfold pg setR
  simp only [List.getD_eq_getElem?_getD, List.getElem?_mapIdx, List.getElem?_eq_getElem hi, Option.map_some, Option.getD_some]
theorem pg_out {A : Pages} {i : Nat} (hi : A.length ≤ i) : pg A i = none := by
  unfold pg
  rw [List.getD_eq_getElem?_getD, List.getElem?_eq_none hi]
  rfl
theorem pages_ext {A B : Pages} (hl : A.length = B.length) (h : ∀ i, i < B.length → pg A i = pg B i) : A = B := by
  apply List.ext_getElem hl
  intro i h1 h2
  have := h i h2
  unfold pg at this
  simpa [List.getD_eq_getElem?_getD, h1, h2] using this
theorem setR_zero (A : Pages) (f : Nat) (g : Pg → Pg) : setR A f 0 g = A := pages_ext (setR_len _ _ _ _) (fun i hi => by
  rw [pg_setR hi, if_neg (by omega)])
theorem setR_succ {A : Pages} {f c : Nat} {g : Pg → Pg} (h : f + c < A.length) : setR A f (c + 1) g = (setR A f c g).set (f + c) (g (pg A (f + c))) := by
  refine pages_ext (by simp [setR_len]) (fun i hi => ?_)
  rw [List.length_set, setR_len] at hi
  rw [pg_setR hi]
  unfold pg
  rw [List.getD_eq_getElem?_getD (l := (setR A f c g).set _ _), List.getElem?_set]
  by_cases e : f + c = i
  · subst e
    rw [if_pos ⟨by omega, by omega⟩, if_pos rfl, if_pos (by rw [setR_len]; exact h)]
    rfl
  · rw [if_neg e, ← List.getD_eq_getElem?_getD]
    have := pg_setR (f := f) (c := c) (g := g) hi
    unfold pg at this
    rw [this]
    by_cases h1 : f ≤ i ∧ i < f + c
    · rw [if_pos h1, if_pos ⟨h1.1, by omega⟩]
    · rw [if_neg h1, if_neg (by omega)]
def within (n : Nat) (first count : Int) : Prop := 1 ≤ count ∧ 0 ≤ first ∧ first < n ∧ count ≤ n - first
instance (n : Nat) (f c : Int) : Decidable (within n f c) := by unfold within; infer_instance
def allR (A : Pages) (first count : Nat) (p : Pg → Bool) : Prop := ∀ k, k < count → p (pg A (first + k)) = true
instance (A : Pages) (f c : Nat) (p : Pg → Bool) : Decidable (allR A f c p) := by unfold allR; infer_instance
def onCount (A : Pages) : Nat := (A.filter Option.isSome).length
def zeros : List Int := List.replicate 1024 0
/-- What commit, decommit and lock answer and leave. -/
def commitC (bud : Int) (A : Pages) (f c : Int) : Int := if within A.length f c ∧ allR A f.toNat c.toNat Option.isNone then (if (onCount A : Int) + c > bud then 1 else 0) else 6
def commitA (bud : Int) (A : Pages) (f c : Int) : Pages := if commitC bud A f c = 0 then setR A f.toNat c.toNat (fun _ => some (zeros, true)) else A
def rangeC (A : Pages) (f c : Int) : Int := if within A.length f c ∧ allR A f.toNat c.toNat Option.isSome then 0 else 6
def decommitA (A : Pages) (f c : Int) : Pages := if rangeC A f c = 0 then setR A f.toNat c.toNat (fun _ => none) else A
def lockA (A : Pages) (f c : Int) (op : Bool) : Pages := if rangeC A f c = 0 then setR A f.toNat c.toNat (fun x => x.map fun y => (y.1, op)) else A
/-- Bytes. -/
def opened : Pg → Bool
  | some (_, o) => o
  | none => false
def reach (A : Pages) (a : Nat) : Bool := opened (pg A (a / 1024))
def byte (x : Pg) (o : Nat) : Int := match x with
  | some (bs, _) => bs.getD o 0
  | none => 0
def getB (A : Pages) (a : Nat) : Int := byte (pg A (a / 1024)) (a % 1024)
def putP (x : Pg) (o : Nat) (v : Int) : Pg := x.map fun y => (y.1.set o v, y.2)
def putB (A : Pages) (a : Nat) (v : Int) : Pages := A.set (a / 1024) (putP (pg A (a / 1024)) (a % 1024) v)
/-- The code of an access to n bytes from addr on. -/
def pagesOk (addr n : Int) : Prop := addr + n ≤ 4611686018427387904
def accessC (A : Pages) (addr n : Int) : Int :=
  if n < 0 ∨ 4096 < n then 6 else if n = 0 then 0 else if addr + n ≤ 4611686018427387904 ∧ ∀ i, i < n.toNat → reach A (addr.toNat + i) = true then 0 else 2
def loadD (A : Pages) (addr n : Int) : List Int := (List.range n.toNat).map fun i => getB A (addr.toNat + i)
def putAll (A : Pages) (addr : Nat) : List Int → Pages
  | [] => A
  | v :: vs => putAll (putB A addr v) (addr + 1) vs
def storeA (A : Pages) (addr : Int) (data : List Int) : Pages := if accessC A addr data.length = 0 then putAll A addr.toNat data else A
theorem putB_len (A : Pages) (a : Nat) (v : Int) : (putB A a v).length = A.length := by simp [putB]
theorem putAll_len : ∀ (data : List Int) (A : Pages) (a : Nat), (putAll A a data).length = A.length
  | [], _, _ => rfl
  | v :: vs, A, a => by rw [putAll, putAll_len vs, putB_len]
theorem putAll_snoc : ∀ (data : List Int) (A : Pages) (a : Nat) (v : Int), putAll A a (data ++ [v]) = putB (putAll A a data) (a + data.length) v
  | [], A, a, v => rfl
  | x :: xs, A, a, v => by
    show putAll (putB A a x) (a + 1) (xs ++ [v]) = _
    rw [putAll_snoc xs]
    show _ = putB (putAll (putB A a x) (a + 1) xs) (a + (xs.length + 1)) v
    rw [show a + 1 + xs.length = a + (xs.length + 1) by omega]
theorem pg_set {A : Pages} {i j : Nat} {x : Pg} (hi : i < A.length) : pg (A.set i x) j = if j = i then x else pg A j := by
  unfold pg
  rw [List.getD_eq_getElem?_getD, List.getElem?_set]
  by_cases e : i = j
  · subst e
    simp [hi]
  · rw [if_neg e, if_neg (fun h => e h.symm), ← List.getD_eq_getElem?_getD]
theorem opened_putP (x : Pg) (o : Nat) (v : Int) : opened (putP x o v) = opened x := by
  cases x with
  | none => rfl
  | some y => rfl
theorem pg_putB {A : Pages} {a j : Nat} {v : Int} (h : a / 1024 < A.length) : pg (putB A a v) j = if j = a / 1024 then putP (pg A j) (a % 1024) v else pg A j := by
  unfold putB
  rw [pg_set h]
  by_cases e : j = a / 1024
  · rw [if_pos e, if_pos e, e]
  · rw [if_neg e, if_neg e]
theorem reach_putB {A : Pages} {a b : Nat} {v : Int} (h : a / 1024 < A.length) : reach (putB A a v) b = reach A b := by
  unfold reach
  rw [pg_putB h]
  by_cases e : b / 1024 = a / 1024
  · rw [if_pos e, opened_putP]
  · rw [if_neg e]
/-- The open pages' numbers, rising. -/
def openL (A : Pages) : List Int := ((List.range A.length).filter fun i => opened (pg A i)).map fun i : Nat => (i : Int)
end Go.Proofs.Ytklobepkihdbkaa.Sp
