/- Memory: what a call may turn; maps from whole numbers to codes. No condition. -/
import Derived.Test.YtklobepkihdbkaaRows
import Derived.WalkKit
import Derived.Maps.OwnSet
import Derived.Maps.RangeWalk
import Derived.Lib.Hide
import Derived.Deep.Draws
namespace Go.Proofs.Ytklobepkihdbkaa.Mem
open Go.RowKit
open Go.Maps (Keyed)
set_option linter.unusedVariables false
set_option linter.unusedSimpArgs false
set_option linter.unusedSectionVars false
/-- w' is w, but for new blocks and the blocks of F. -/
structure Turn (w w' : World) (F : Nat → Prop) : Prop where
  os : w'.os = w.os
  tape : w'.tape = w.tape
  output : w'.output = w.output
  size : w.heap.size ≤ w'.heap.size
  block : ∀ k, k < w.heap.size → ¬ F k → w'.heap[k]? = w.heap[k]?
section
variable {w w1 w2 : World} {F G : Nat → Prop}
theorem Turn.refl (w : World) (F : Nat → Prop) : Turn w w F := ⟨rfl, rfl, rfl, Nat.le_refl _, fun _ _ _ => rfl⟩
theorem Turn.trans (h : Turn w w1 F) (k : Turn w1 w2 G) (hg : ∀ k, G k → F k ∨ w.heap.size ≤ k) : Turn w w2 F :=
  ⟨k.os.trans h.os, k.tape.trans h.tape, k.output.trans h.output, Nat.le_trans h.size k.size, fun i hi hf => (k.block i (Nat.lt_of_lt_of_le hi h.size) (fun hgi => (hg i hgi).elim hf (fun h => by omega))).trans (h.block i hi hf)⟩
theorem Turn.mono (h : Turn w w1 F) (hg : ∀ k, F k → G k ∨ w.heap.size ≤ k) : Turn w w1 G :=
  ⟨h.os, h.tape, h.output, h.size, fun i hi hf => h.block i hi (fun hgi => (hg i hgi).elim hf (fun h => by omega))⟩
theorem Turn.of_below (h : Below w.heap.size w w1) (F : Nat → Prop) : Turn w w1 F := ⟨h.os, h.tape, h.output, h.size, fun i hi _ => h.block i hi⟩
theorem Turn.below {B : Nat} (h : Turn w w1 F) (hB : B ≤ w.heap.size) (hf : ∀ k, F k → B ≤ k) : Below B w w1 :=
  ⟨h.os, h.tape, h.output, h.size, fun k hk => h.block k (by omega) (fun e => by have := hf k e; omega)⟩
theorem Turn.setCell (h : Turn w w1 F) {p : Addr} (hp : F p.block ∨ w.heap.size ≤ p.block) (v : Value) : Turn w (w1.setCell p v) F :=
  ⟨h.os, h.tape, h.output, by have := h.size; simp [World.setCell]; omega, fun i hi hf => (Below.heap_setCell w1 p v i (fun e => by subst e; exact hp.elim hf (fun h => by omega))).trans (h.block i hi hf)⟩
theorem Turn.alloc (h : Turn w w1 F) (o : Obj) : Turn w (w1.alloc o) F :=
  ⟨h.os, h.tape, h.output, by have := h.size; simp; omega, fun i hi hf => (((Below.refl w1.heap.size w1).alloc (Nat.le_refl _) o).block i (Nat.lt_of_lt_of_le hi h.size)).trans (h.block i hi hf)⟩
theorem Turn.drew (h : Turn w w1 F) : Turn w w1.drew F := ⟨h.os, h.tape, h.output, h.size, h.block⟩
theorem Turn.drewN (h : Turn w w1 F) (n : Nat) : Turn w (w1.drewN n) F := ⟨h.os, h.tape, h.output, h.size, h.block⟩
theorem Turn.grown {row : Option Nat} (h : Turn w w1 F) (hg : w1.grownBy w2 row) (hr : ∀ b, row = some b → F b ∨ w.heap.size ≤ b) : Turn w w2 F :=
  ⟨hg.os.trans h.os, hg.tape.trans h.tape, hg.output.trans h.output, Nat.le_trans h.size hg.size, fun i hi hf => (hg.block i (Nat.lt_of_lt_of_le hi h.size) (fun e => (hr i e.symm).elim hf (fun h => by omega))).trans (h.block i hi hf)⟩
theorem Turn.blk (h : Turn w w1 F) {k : Nat} (hk : ¬ F k) {o : Obj} (ho : w.heap[k]? = some o) : w1.heap[k]? = some o := (h.block k (Array.getElem?_eq_some_iff.1 ho).1 hk).trans ho
end
theorem alloc_old {w : World} {o : Obj} {i : Nat} (h : w.heap[i]? = some o) (o' : Obj) : (w.alloc o').heap[i]? = some o :=
  (((Below.refl w.heap.size w).alloc (Nat.le_refl _) o').block i (Array.getElem?_eq_some_iff.1 h).1).trans h
theorem alloc_new (w : World) (o : Obj) : (w.alloc o).heap[w.heap.size]? = some o := (MapKept.heap_alloc w o).1
theorem set_other {w : World} {p : Addr} {i : Nat} {o : Obj} (h : w.heap[i]? = some o) (hp : i ≠ p.block) (v : Value) : (w.setCell p v).heap[i]? = some o := (Below.heap_setCell w p v i hp).trans h
theorem set_size (w : World) (p : Addr) (v : Value) : (w.setCell p v).heap.size = w.heap.size := by simp [World.setCell]
theorem lt_of {w : World} {i : Nat} {o : Obj} (h : w.heap[i]? = some o) : i < w.heap.size := (Array.getElem?_eq_some_iff.1 h).1
/-! ### maps from whole numbers to codes -/
/-- Codes of values: 0 is the zero value's. -/
structure Coded where
  dec : Value → Option Nat
  enc : Nat → Value
  back : ∀ {v n}, dec v = some n → v = enc n
  okN : Nat → Prop
  dec_enc : ∀ {n}, okN n → dec (enc n) = some n
  ok0 : okN 0
def ptrC : Coded where
  dec v := match v with
    | .pointer none => some 0
    | .pointer (some ⟨b, 0, none⟩) => some (b + 1)
    | _ => none
  enc n := match n with
    | 0 => .pointer none
    | b + 1 => .pointer (some ⟨b, 0, none⟩)
  back {v n} h := by
    split at h
    · cases h; rfl
    · cases h; rfl
    · cases h
  okN _ := True
  dec_enc {n} _ := by cases n <;> rfl
  ok0 := trivial
def boolC : Coded where
  dec v := match v with
    | .bool false => some 0
    | .bool true => some 1
    | _ => none
  enc n := .bool (n != 0)
  back {v n} h := by
    split at h
    · cases h; rfl
    · cases h; rfl
    · cases h
  okN n := n ≤ 1
  dec_enc {n} h := by
    match n, h with
    | 0, _ => rfl
    | 1, _ => rfl
  ok0 := Nat.zero_le _
def cR (c : Coded) (v : Value) : Option (DataW Unit × List MemPlace) := (c.dec v).map fun n : Nat => (.lit (.int .u64 (n : Int)), [])
theorem cR_enc (c : Coded) {n : Nat} (h : c.okN n) : cR c (c.enc n) = some (.lit (.int .u64 n), []) := by simp [cR, c.dec_enc h]
theorem cR_inv (c : Coded) {v : Value} {z : DataW Unit × List MemPlace} (h : cR c v = some z) : ∃ n : Nat, v = c.enc n ∧ z = (.lit (.int .u64 n), []) := by
  simp only [cR, Option.map_eq_some_iff] at h
  obtain ⟨n, h, rfl⟩ := h
  exact ⟨n, c.back h, rfl⟩
/-- Block b is a map of n entries; at x it holds the code f x. -/
def PMap (P : Program) (K : TypeId) (q : IntKind) (c : Coded) (w : World) (b n : Nat) (f : Int → Option Nat) : Prop :=
  ∃ D, w.ownsMap P K (cR c) b n D ∧ Maps.size D = n ∧ (∀ x, (Lit.int q x).wf = true → Maps.has D (.int q x) = (f x).isSome) ∧ ∀ x v, (Lit.int q x).wf = true → f x = some v → c.okN v ∧ ∀ z, D.atKey (.int q x) z = .lit (.int .u64 v)
def upd (f : Int → Option Nat) (x : Int) (v : Option Nat) : Int → Option Nat := fun y => if y = x then v else f y
section
variable {P : Program} {K : TypeId} {q : IntKind} {c : Coded} {w w' : World} {b n : Nat} {f : Int → Option Nat}
theorem PMap.lt (h : PMap P K q c w b n f) : b < w.heap.size := let ⟨_, h, _⟩ := h; h.lt
theorem PMap.move (h : PMap P K q c w b n f) (hb : w'.heap[b]? = w.heap[b]?) : PMap P K q c w' b n f := by
  obtain ⟨D, ⟨es, clock, h1, F, h2, h3⟩, r⟩ := h
  exact ⟨D, ⟨es, clock, hb.trans h1, F, h2, h3⟩, r⟩
theorem PMap.congr (h : PMap P K q c w b n f) {g : Int → Option Nat} (hg : ∀ x, (Lit.int q x).wf = true → g x = f x) : PMap P K q c w b n g := by
  obtain ⟨D, h1, h2, h3, h4⟩ := h
  exact ⟨D, h1, h2, fun x hx => by rw [h3 x hx, hg x hx], fun x v hx hv => h4 x v hx (by rw [← hg x hx]; exact hv)⟩
theorem PMap.isMap (h : PMap P K q c w b n f) : ∃ es clock, w.heap[b]? = some (.map es clock) := by
  obtain ⟨D, ⟨es, clock, h1, _⟩, _⟩ := h
  exact ⟨es, clock, h1⟩
theorem PMap.new (w : World) : PMap P K q c (w.alloc (.map #[] 0)) w.heap.size 0 (fun _ => none) :=
  ⟨_, World.ownsMap_made w P K (cR c), rfl, fun _ _ => rfl, fun _ _ _ h => by cases h⟩
theorem lit_key (x : Int) : WideAt.IsKeyLit (.int q x) := trivial
theorem lit_ne {x y : Int} (h : y ≠ x) : (Lit.int q y) ≠ .int q x := fun e => h (by cases e; rfl)
section
variable (hk : P.underlying K = some (.int q)) {T E : TypeId} (ht : P.underlying T = some (.map K E))
include hk ht
theorem PMap.store (h : PMap P K q c w b n f) (hn : n < maxLen) {x : Int} (hx : (Lit.int q x).wf = true) {v : Nat} (hv : c.okN v) :
    ∃ w', (Instr.mapUpdate T (.map (some b)) (.int q x) (c.enc v)).run P w = .ok () w' ∧ PMap P K q c w' b (if (f x).isSome then n else n + 1) (upd f x (some v)) ∧ w.mapTurned w' b := by
  obtain ⟨D, h1, h2, h3, h4⟩ := h
  obtain ⟨w', hrun, h5, h6⟩ := h1.store (Maps.int_keyed hk) ht hn (Maps.keyOf_int_mk hk hx) (cR_enc c hv)
  have hm := h1.isMap
  have hsz : Maps.size (D.put (.int q x) (.lit (.int .u64 v))) = if (f x).isSome then n else n + 1 := by
    rw [Maps.size_put (h1.tidy (Maps.int_keyed hk)), h3 x hx, h2]
  refine ⟨w', hrun, ⟨_, ?_, hsz, fun y hy => ?_, fun y u hy hu => ?_⟩, h6⟩
  · obtain ⟨es, clock, g1, g2, g3, g4⟩ := h5
    refine ⟨es, clock, g1, g2, ?_, g4⟩
    rw [← hsz, g4]
    simp [Maps.size, length_sorted]
  · unfold upd
    by_cases e : y = x
    · subst e
      rw [if_pos rfl, Maps.has_put_same hm (lit_key _)]
      rfl
    · rw [if_neg e, Maps.has_put_other (lit_ne e), h3 y hy]
  · unfold upd at hu
    by_cases e : y = x
    · subst e
      rw [if_pos rfl] at hu
      cases hu
      exact ⟨hv, fun z => Maps.atKey_put_same hm (lit_key _) _ z⟩
    · rw [if_neg e] at hu
      exact ⟨(h4 y u hy hu).1, fun z => (Maps.atKey_put_other (lit_ne e) _ z).trans ((h4 y u hy hu).2 z)⟩
theorem PMap.drop (h : PMap P K q c w b n f) {x : Int} (hx : (Lit.int q x).wf = true) (ty : TypeId) :
    ∃ w', (Builtin.delete_ #[T, K] ty #[.map (some b), .int q x]).run P w = .ok (.tuple #[]) w' ∧ PMap P K q c w' b (if (f x).isSome then n - 1 else n) (upd f x none) ∧ w.mapTurned w' b := by
  obtain ⟨D, h1, h2, h3, h4⟩ := h
  obtain ⟨w', hrun, h5, h6⟩ := h1.drop (Maps.int_keyed hk) ht (Maps.keyOf_int_mk hk hx) ty
  have hsz : Maps.size (D.del (.int q x)) = if (f x).isSome then n - 1 else n := by
    have := Maps.size_del (k := .int q x) (h1.tidy (Maps.int_keyed hk))
    rw [h3 x hx, h2] at this
    split <;> rename_i hh <;> simp [hh] at this <;> omega
  refine ⟨w', hrun, ⟨_, ?_, hsz, fun y hy => ?_, fun y u hy hu => ?_⟩, h6⟩
  · obtain ⟨es, clock, g1, g2, g3, g4⟩ := h5
    refine ⟨es, clock, g1, g2, ?_, g4⟩
    rw [← hsz, g4]
    simp [Maps.size, length_sorted]
  · unfold upd
    by_cases e : y = x
    · subst e
      rw [if_pos rfl, Maps.has_del_same]
      rfl
    · rw [if_neg e, Maps.has_del_other (lit_ne e), h3 y hy]
  · unfold upd at hu
    by_cases e : y = x
    · rw [if_pos e] at hu
      cases hu
    · rw [if_neg e] at hu
      exact ⟨(h4 y u hy hu).1, fun z => (Maps.atKey_del_other (lit_ne e) z).trans ((h4 y u hy hu).2 z)⟩
theorem PMap.len_run (h : PMap P K q c w b n f) (ty : TypeId) : (Builtin.len_ #[T] ty #[.map (some b)]).run P w = .ok (.int .i64 n) w := by
  obtain ⟨D, h1, h2, _⟩ := h
  rw [h1.len ht ty, h2]
theorem PMap.look (h : PMap P K q c w b n f) (hz : (zeroValue E).run P w = .ok (c.enc 0) w) {x : Int} (hx : (Lit.int q x).wf = true) :
    (Instr.lookup T (.map (some b)) (.int q x) false).run P w = .ok (c.enc ((f x).getD 0)) w := by
  obtain ⟨D, h1, h2, h3, h4⟩ := h
  obtain ⟨v, ps, hrun, hv⟩ := h1.lookup (Maps.int_keyed hk) ht hz (cR_enc c c.ok0) (Maps.keyOf_int_mk hk hx)
  rw [hrun]
  obtain ⟨m, rfl, hm⟩ := cR_inv c hv
  simp only [Prod.mk.injEq] at hm
  have hm1 := hm.1
  cases hf : f x with
  | none =>
    rw [Maps.atKey_of_not_has (by rw [h3 x hx, hf]; rfl)] at hm1
    injection hm1 with hm1
    injection hm1 with _ hm1
    rw [show m = 0 by omega]; rfl
  | some u =>
    rw [(h4 x u hx hf).2] at hm1
    injection hm1 with hm1
    injection hm1 with _ hm1
    rw [show m = u by omega]; rfl
end
/-! ### at the operation, for the walk -/
section
variable (hk : P.underlying K = some (.int q)) {T E : TypeId} (ht : P.underlying T = some (.map K E)) {ops : Array Oper} {rest : List Oper} {o : Oper} {a : Act} {Q : Exit → Act → World → Prop}
include hk ht
theorem wp_look (hg : o.guard = none) (m x : Operand) (hop : o.op = Op.lookup T m x false) (hz : (zeroValue E).run P w = .ok (c.enc 0) w) (hm : a.eval m = .map (some b)) (h : PMap P K q c w b n f) (y : Int) (hx : a.eval x = .int q y) (hy : (Lit.int q y).wf = true)
    (hK : wpList P ops Q rest (a.put o.dst (c.enc ((f y).getD 0))) w) : wpList P ops Q (o :: rest) a w := by
  refine wpList_plain hg fun K' hK' => ?_
  unfold Oper.wp
  simp [execOp, hop, hm, hx, h.look hk ht hz hy, Result.andThen]
  exact hK' _ _ hK
theorem wp_store (hg : o.guard = none) (m x v : Operand) (hop : o.op = Op.mapUpdate T m x v) (hm : a.eval m = .map (some b)) (h : PMap P K q c w b n f) (hn : n < maxLen) (y : Int) (hx : a.eval x = .int q y) (hy : (Lit.int q y).wf = true) (u : Nat) (hv : a.eval v = c.enc u) (hu : c.okN u)
    (hK : ∀ w', PMap P K q c w' b (if (f y).isSome then n else n + 1) (upd f y (some u)) → w.mapTurned w' b → wpList P ops Q rest (a.put o.dst undef) w') : wpList P ops Q (o :: rest) a w := by
  refine wpList_plain hg fun K' hK' => ?_
  obtain ⟨w', hrun, r1, r2⟩ := h.store hk ht hn hy hu
  unfold Oper.wp
  simp [execOp, hop, hm, hx, hv, hrun, Result.andThen]
  exact hK' _ _ (hK w' r1 r2)
theorem wp_delete (hg : o.guard = none) (m x : Operand) (hop : o.op = Op.call { callee := Callee.builtin Builtin.delete, args := #[m, x], argTypes := #[T, K] }) (hm : a.eval m = .map (some b)) (h : PMap P K q c w b n f) (y : Int) (hx : a.eval x = .int q y) (hy : (Lit.int q y).wf = true)
    (hK : ∀ w', PMap P K q c w' b (if (f y).isSome then n - 1 else n) (upd f y none) → w.mapTurned w' b → wpList P ops Q rest (a.put o.dst (.tuple #[])) w') : wpList P ops Q (o :: rest) a w := by
  refine wpList_plain hg fun K' hK' => ?_
  obtain ⟨w', hrun, r1, r2⟩ := h.drop hk ht hy o.type
  unfold Oper.wp
  simp [execOp, hop, resolve, invoke, builtin, hm, hx, hrun, Result.andThen]
  exact hK' _ _ (hK w' r1 r2)
theorem wp_len (hg : o.guard = none) (m : Operand) (hop : o.op = Op.call { callee := Callee.builtin Builtin.len, args := #[m], argTypes := #[T] }) (hm : a.eval m = .map (some b)) (h : PMap P K q c w b n f)
    (hK : wpList P ops Q rest (a.put o.dst (.int .i64 n)) w) : wpList P ops Q (o :: rest) a w := by
  obtain ⟨D, h1, h2, _⟩ := h
  exact wpList_len_own w hg m T hop K E ht (cR c) b n D hm h1 (by rw [h2]; exact hK)
end
/-! ### ranging -/
/-- r is an iterator over the map at b; the keys x with left x are still to come. -/
def PRange (P : Program) (K : TypeId) (q : IntKind) (c : Coded) (w : World) (b r n : Nat) (f : Int → Option Nat) (left : Int → Bool) (cnt : Nat) : Prop :=
  ∃ D L, w.ranges P K (cR c) b r n D L cnt ∧ Maps.size D = n ∧ (∀ x, (Lit.int q x).wf = true → Maps.has D (.int q x) = (f x).isSome) ∧ (∀ x v, (Lit.int q x).wf = true → f x = some v → c.okN v ∧ ∀ z, D.atKey (.int q x) z = .lit (.int .u64 v)) ∧ ∀ x, (Lit.int q x).wf = true → L (.int q x) = left x
theorem PRange.map {r cnt : Nat} {left : Int → Bool} (h : PRange P K q c w b r n f left cnt) : PMap P K q c w b n f := by
  obtain ⟨D, L, h1, h2, h3, h4, _⟩ := h
  exact ⟨D, h1.owns, h2, h3, h4⟩
theorem PRange.left_eq {r cnt : Nat} {left : Int → Bool} (h : PRange P K q c w b r n f left cnt) : w.rangeLeft b r = cnt := by
  obtain ⟨D, L, h1, _⟩ := h
  exact h1.left_eq
theorem PRange.kept {r cnt : Nat} {left : Int → Bool} {row : Option Nat} (h : PRange P K q c w b r n f left cnt) (hg : w.grownBy w' row) (hb' : some b ≠ row) (hr' : some r ≠ row) : PRange P K q c w' b r n f left cnt := by
  obtain ⟨D, L, h1, h2⟩ := h
  exact ⟨D, L, h1.kept hg hb' hr', h2⟩
theorem PRange.lt {r cnt : Nat} {left : Int → Bool} (h : PRange P K q c w b r n f left cnt) : r < w.heap.size := by
  obtain ⟨D, L, h1, _⟩ := h
  exact h1.lt
theorem PRange.ne {r cnt : Nat} {left : Int → Bool} (h : PRange P K q c w b r n f left cnt) : r ≠ b := by
  obtain ⟨D, L, h1, _⟩ := h
  exact h1.ne
section
variable (hk : P.underlying K = some (.int q)) {T E : TypeId} (ht : P.underlying T = some (.map K E)) {ops : Array Oper} {rest : List Oper} {o : Oper} {a : Act} {Q : Exit → Act → World → Prop}
include hk ht
theorem wp_range (hg : o.guard = none) (m : Operand) (hop : o.op = Op.range T m) (hm : a.eval m = .map (some b)) (h : PMap P K q c w b n f)
    (hK : ∀ w', PRange P K q c w' b w.heap.size n f (fun x => (f x).isSome) n → w.grownBy w' none → w'.heap.size = w.heap.size + 1 → wpList P ops Q rest (a.put o.dst (.pointer (some ⟨w.heap.size, 0, none⟩))) w') : wpList P ops Q (o :: rest) a w := by
  obtain ⟨D, h1, h2, h3, h4⟩ := h
  exact wpList_range_own w hg m T hop K E (Maps.int_keyed hk) ht (cR c) b n D hm h1 (fun w' r1 r2 r3 => hK w' ⟨D, _, by rw [← h2]; rw [h2]; rw [h2] at r1; exact r1, h2, h3, h4, h3⟩ r2 r3)
end
theorem wp_next (hk : P.underlying K = some (.int q)) {ops : Array Oper} {rest : List Oper} {o : Oper} {a : Act} {Q : Exit → Act → World → Prop} (hg : o.guard = none) (it : Operand) (hop : o.op = Op.next it false) {r cnt : Nat} {left : Int → Bool} (hit : a.eval it = .pointer (some ⟨r, 0, none⟩)) (h : PRange P K q c w b r n f left cnt)
    (hDone : cnt = 0 → (∀ x, (Lit.int q x).wf = true → left x = false) → wpList P ops Q rest (a.put o.dst (.tuple #[.bool false])) w)
    (hMore : ∀ (x : Int) (u : Nat) (w' : World) (cnt' : Nat), (Lit.int q x).wf = true → left x = true → f x = some u → PRange P K q c w' b r n f (fun z => left z && !(z == x)) cnt' → cnt' < cnt → w.grownBy w' (some r) → w'.heap.size = w.heap.size →
      (Instr.entry (.pointer (some ⟨r, 0, none⟩))).run P w' = .ok (.tuple #[.int q x, c.enc u]) w' → wpList P ops Q rest (a.put o.dst (.tuple #[.bool true, .int q x, c.enc u])) w') :
    wpList P ops Q (o :: rest) a w := by
  obtain ⟨D, L, h1, h2, h3, h4, h5⟩ := h
  refine wpList_next_ranges w hg it hop K (Maps.int_keyed hk) (cR c) (Value.int q) c.enc (fun key kl hkey => by obtain ⟨x, rfl, _⟩ := Maps.keyOf_int_inv hk hkey; exact ⟨x, rfl⟩) (fun v y hv => by obtain ⟨m, rfl, _⟩ := cR_inv c hv; exact ⟨m, rfl⟩) b r n D L cnt hit h1
    (fun h0 hl => hDone h0 (fun x hx => by rw [← h5 x hx]; exact hl _)) (fun x u kl y w' cnt' hkey hlk hv hat hrg hlt hgr hsz hen => ?_)
  obtain ⟨x', ex, rfl, hwx⟩ := Maps.keyOf_int_inv hk hkey
  cases ex
  have hf : ∃ u', f x = some u' := by
    cases hfx : f x with
    | some u' => exact ⟨u', rfl⟩
    | none =>
      have e0 := Maps.atKey_of_not_has (k := .int q x) (by rw [h3 x hwx, hfx]; rfl) (D := D)
      have e1 := (e0 (.lit (.bool true))).symm.trans (hat _)
      have e2 := (e0 (.lit (.bool false))).symm.trans (hat _)
      rw [← e2] at e1
      simp at e1
  obtain ⟨u', hu'⟩ := hf
  have hy := ((h4 x u' hwx hu').2 (.nil)).symm.trans (hat _)
  obtain ⟨m, hm, rfl⟩ := cR_inv c hv
  have hmu : m = u' := by
    injection hy with hy
    injection hy with _ hy
    omega
  subst hmu
  rw [hm] at hen ⊢
  refine hMore x m w' cnt' hwx (by rw [← h5 x hwx]; exact hlk) hu' ⟨D, _, hrg, h2, h3, h4, fun z hz => ?_⟩ hlt hgr hsz hen
  show (L (.int q z) && !(Lit.int q z).sameKey (.int q x)) = _
  rw [h5 z hz]
  congr 2
  by_cases e : z = x
  · subst e
    rw [WideAt.sameKey_self (lit_key _)]
    simp
  · rw [Maps.sameKey_ne (lit_ne e)]
    simp [e]
end
end Go.Proofs.Ytklobepkihdbkaa.Mem
