/- Runs of pushes: plain facts, and what holds between two pushes. -/
import Derived.Test.YtklobepkihdbkaaWpLaw
import Derived.Test.YtklobepkihdbkaaPFnExactRunWaitingx
namespace Go.Proofs.Ytklobepkihdbkaa.Rw
open Go.RowKit Go.Proofs.YtklobepkihdbkaaW.PrintWords Go.Proofs.YtklobepkihdbkaaW.PrintLast Go.Proofs.YtklobepkihdbkaaW.PrintMore Wp WpG WpI WpJ
set_option linter.unusedVariables false
set_option linter.unusedSimpArgs false
theorem impl_new_go (m : Nat) (hm : m ≤ 16) (lim : Int) : ∀ (d k i : Nat), m - i = d → i ≤ m → d < k → PFnExactRunWaiting.impl_newWaiting.l0 k m i (List.replicate i (-1)) lim = some (List.replicate m (-1), [], lim) := by
  intro d
  induction d with
  | zero =>
    intro k i hd hi hk
    obtain ⟨k, rfl⟩ : ∃ q, k = q + 1 := ⟨k - 1, by omega⟩
    obtain rfl : i = m := by omega
    rw [PFnExactRunWaiting.impl_newWaiting.l0, if_neg (by omega)]
  | succ d ih =>
    intro k i hd hi hk
    obtain ⟨k, rfl⟩ : ∃ q, k = q + 1 := ⟨k - 1, by omega⟩
    have e : wrap64 ((i : Int) + 1) = ((i + 1 : Nat) : Int) := by rw [w64 (by omega) (by omega)]; omega
    rw [PFnExactRunWaiting.impl_newWaiting.l0, if_pos (by omega), if_pos (by simp; omega), e, ← List.replicate_succ']
    exact ih k (i + 1) (by omega) (by omega) (by omega)
theorem impl_new_is (m : Nat) (hm : m ≤ 16) (lim : Int) : PFnExactRunWaiting.impl_newWaiting.f 17 m lim = some (List.replicate m (-1), [], lim) :=
  impl_new_go m hm lim m 17 0 rfl (by omega) (by omega)
theorem spec_new_go (m : Nat) (hm : m ≤ 16) (lim : Int) : ∀ (d k i : Nat), m - i = d → i ≤ m → d < k → PFnExactRunWaiting.spec_l5New.l0 k ((m - i : Nat) : Int) (List.replicate i (-1)) lim = some (List.replicate m (-1), [], lim) := by
  intro d
  induction d with
  | zero =>
    intro k i hd hi hk
    obtain ⟨k, rfl⟩ : ∃ q, k = q + 1 := ⟨k - 1, by omega⟩
    obtain rfl : i = m := by omega
    rw [PFnExactRunWaiting.spec_l5New.l0, if_neg (by omega)]
  | succ d ih =>
    intro k i hd hi hk
    obtain ⟨k, rfl⟩ : ∃ q, k = q + 1 := ⟨k - 1, by omega⟩
    have e : wrap64 (((m - i : Nat) : Int) - 1) = ((m - (i + 1) : Nat) : Int) := by rw [w64 (by omega) (by omega)]; omega
    rw [PFnExactRunWaiting.spec_l5New.l0, if_pos (by omega), if_pos (by simp; omega), e, ← List.replicate_succ']
    exact ih k (i + 1) (by omega) (by omega) (by omega)
theorem spec_new_is (m : Nat) (hm : m ≤ 16) (lim : Int) : PFnExactRunWaiting.spec_l5New.f 17 m lim = some (List.replicate m (-1), [], lim) :=
  spec_new_go m hm lim m 17 0 rfl (by omega) (by omega)
/-- What holds between two pushes: the box at g, its two rows, the row of what has left. -/
def RInv (w : World) (g : Nat) (m : Nat) (limit : Int) (slots draws : List Int) (j i : Nat) (vo : Value) (wr : World) : Prop :=
  ∃ (lo hi : Nat) (A1 A2 : Option Addr) (c1 c2 : Nat), (g < lo ∨ hi ≤ g) ∧ hi ≤ wr.heap.size ∧ w.heap.size ≤ g ∧
    wr.heap[g]? = some (.cells #[.slice A1 (st m limit slots draws j).1.length c1, .slice A2 (st m limit slots draws j).2.length c2, .int .i64 limit] 26 (0, 0)) ∧
    (Kd.int .i64).R 3 wr w.heap.size (fun k => lo ≤ k ∧ k < hi) (.slice A1 (st m limit slots draws j).1.length c1) (st m limit slots draws j).1 ∧
    (Kd.int .i64).R 3 wr w.heap.size (fun k => lo ≤ k ∧ k < hi) (.slice A2 (st m limit slots draws j).2.length c2) (st m limit slots draws j).2 ∧
    (Kd.int .i64).R 3 wr w.heap.size (fun k => ¬ (lo ≤ k ∧ k < hi) ∧ k ≠ g) vo (lefts m limit slots draws i) ∧ Below w.heap.size w wr
/-- The first state: a new quarantine in its box, no row of leavings yet, or an empty one. -/
theorem rinv_new {w w1 : World} {m : Nat} {limit : Int} {slots draws : List Int} {v1 v2 : Value} (hR1 : (Kd.int .i64).R 3 w1 w.heap.size (fun k => some k ≠ v2.ownBlock) v1 (List.replicate m (-1))) (hR2 : (Kd.int .i64).R 3 w1 w.heap.size (fun k => some k ≠ v1.ownBlock) v2 []) (hB : Below w.heap.size w w1) :
    ∃ A1 c1 A2 c2, v1 = .slice A1 m c1 ∧ v2 = .slice A2 0 c2 ∧ m ≤ c1 ∧ RInv w w1.heap.size m limit slots draws 0 0 (.slice none 0 0) (w1.alloc (.cells #[v1, v2, .int .i64 limit] 26)) := by
  obtain ⟨A1, c1, rfl, hc1, _⟩ := Kd.R_reads hR1
  obtain ⟨A2, c2, rfl, hc2, _⟩ := Kd.R_reads hR2
  rw [List.length_replicate] at hc1 hR1 hR2 ⊢
  refine ⟨A1, c1, A2, c2, rfl, rfl, hc1, w.heap.size, w1.heap.size, A1, A2, c1, c2, .inr (Nat.le_refl _), by simp, hB.size, ?_, ?_, ?_, Kd.R_nil _ _ _ _ _, balloc hB _⟩
  · simp only [st, List.length_replicate]
    exact heap_alloc_new w1 _
  · simp only [st, List.length_replicate]
    exact Kd.R_alloc (Kd.R_mono (Kd.R_bound hR1) (fun k hk => ⟨hk.2.1, hk.2.2.1⟩)) _
  · simp only [st]
    exact Kd.R_alloc (Kd.R_mono (Kd.R_bound hR2) (fun k hk => ⟨hk.2.1, hk.2.2.1⟩)) _
theorem RInv.below {w wr w' : World} {g m : Nat} {limit : Int} {slots draws : List Int} {j i : Nat} {vo : Value} (h : RInv w g m limit slots draws j i vo wr) (hb : Below wr.heap.size wr w') : RInv w g m limit slots draws j i vo w' := by
  obtain ⟨lo, hi, A1, A2, c1, c2, h1, h2, h3, hbox, hr1, hr2, ho, hB⟩ := h
  exact ⟨lo, hi, A1, A2, c1, c2, h1, Nat.le_trans h2 hb.size, h3, (hb.block _ (blk_lt hbox)).trans hbox, Kd.R_below hr1 hb, Kd.R_below hr2 hb, Kd.R_below ho hb, bstep hB hb⟩
theorem RInv.empty {w wr : World} {g m : Nat} {limit : Int} {slots draws : List Int} {j : Nat} {vo : Value} (h : RInv w g m limit slots draws j 0 vo wr) : RInv w g m limit slots draws j 0 (.slice (some ⟨wr.heap.size, 0, none⟩) 0 0) (wr.alloc (.cells #[] 3)) := by
  obtain ⟨lo, hi, A1, A2, c1, c2, h1, h2, h3, hbox, hr1, hr2, ho, hB⟩ := h
  have := blk_lt hbox
  exact ⟨lo, hi, A1, A2, c1, c2, h1, by simp; omega, h3, alloc_old hbox _, Kd.R_alloc hr1 _, Kd.R_alloc hr2 _, R_empty wr hB.size (by omega), balloc hB _⟩
/-- Behind a push and the store of what it answers. -/
theorem RInv.push {w wr w' : World} {g m : Nat} {limit : Int} {slots draws : List Int} {j i : Nat} {vo : Value} (h : RInv w g m limit slots draws j i vo wr) {A1 A2 : Option Addr} {c1 c2 n1 n2 : Nat}
    (hR1 : (Kd.int .i64).R 3 w' wr.heap.size (fun k => some k ≠ (Value.slice A2 n2 c2).ownBlock) (.slice A1 n1 c1) (st m limit slots draws (j + 1)).1) (hR2 : (Kd.int .i64).R 3 w' wr.heap.size (fun k => some k ≠ (Value.slice A1 n1 c1).ownBlock) (.slice A2 n2 c2) (st m limit slots draws (j + 1)).2) (hb : Below wr.heap.size wr w') :
    RInv w g m limit slots draws (j + 1) i vo (((w'.setCell ⟨g, 0, none⟩ (.slice A1 n1 c1)).setCell ⟨g, 1, none⟩ (.slice A2 n2 c2)).setCell ⟨g, 2, none⟩ (.int .i64 limit)) := by
  obtain ⟨lo, hi, B1, B2, d1, d2, h1, h2, h3, hbox, hr1, hr2, ho, hB⟩ := h
  have hg := blk_lt hbox
  have hz := hb.size
  have hsz : ∀ (W : World) (p : Addr) (u : Value), (W.setCell p u).heap.size = W.heap.size := fun W p u => by simp [World.setCell]
  obtain ⟨e1, l1, x1⟩ := Kd.R_reads' hR1
  obtain ⟨e2, l2, x2⟩ := Kd.R_reads' hR2
  subst e1 e2
  have hbox1 := (hb.block _ hg).trans hbox
  have hR1' := Kd.R_lower (Kd.R_mono (Kd.R_bound hR1) (ok' := fun k => wr.heap.size ≤ k ∧ k < w'.heap.size) (fun k hk => ⟨hk.2.1, hk.2.2.1⟩)) hB.size
  have hR2' := Kd.R_lower (Kd.R_mono (Kd.R_bound hR2) (ok' := fun k => wr.heap.size ≤ k ∧ k < w'.heap.size) (fun k hk => ⟨hk.2.1, hk.2.2.1⟩)) hB.size
  have ho' := Kd.R_below (Kd.R_mono (Kd.R_bound ho) (ok' := fun k => k < wr.heap.size ∧ k ≠ g) (fun k hk => ⟨hk.2.2.1, hk.1.2⟩)) hb
  refine ⟨wr.heap.size, w'.heap.size, A1, A2, c1, c2, .inl hg, by simp [hsz], h3, ?_, ?_, ?_, ?_, ?_⟩
  · exact blk_set (blk_set (blk_set hbox1 0 _) 1 _) 2 _
  · exact Kd.R_far (Kd.R_far (Kd.R_far hR1' (p := ⟨g, 0, none⟩) (fun k hk => by simp; omega) _) (p := ⟨g, 1, none⟩) (fun k hk => by simp; omega) _) (p := ⟨g, 2, none⟩) (fun k hk => by simp; omega) _
  · exact Kd.R_far (Kd.R_far (Kd.R_far hR2' (p := ⟨g, 0, none⟩) (fun k hk => by simp; omega) _) (p := ⟨g, 1, none⟩) (fun k hk => by simp; omega) _) (p := ⟨g, 2, none⟩) (fun k hk => by simp; omega) _
  · exact Kd.R_mono (Kd.R_far (Kd.R_far (Kd.R_far ho' (p := ⟨g, 0, none⟩) (fun k hk => hk.2) _) (p := ⟨g, 1, none⟩) (fun k hk => hk.2) _) (p := ⟨g, 2, none⟩) (fun k hk => hk.2) _) (fun k hk => ⟨by omega, hk.2⟩)
  · exact (((bstep hB hb).setCell (p := ⟨g, 0, none⟩) h3 _).setCell (p := ⟨g, 1, none⟩) h3 _).setCell (p := ⟨g, 2, none⟩) h3 _
/-- Behind the append of what has left: the two rows' bounds are told by name. -/
theorem rinv_append {w wr w' : World} {g m : Nat} {limit : Int} {slots draws : List Int} {j i : Nat} {vo v1 : Value} {lo hi : Nat} {A1 A2 : Option Addr} {c1 c2 : Nat} (h1 : g < lo ∨ hi ≤ g) (h2 : hi ≤ wr.heap.size) (h3 : w.heap.size ≤ g)
    (hbox : wr.heap[g]? = some (.cells #[.slice A1 (st m limit slots draws j).1.length c1, .slice A2 (st m limit slots draws j).2.length c2, .int .i64 limit] 26 (0, 0)))
    (hr1 : (Kd.int .i64).R 3 wr w.heap.size (fun k => lo ≤ k ∧ k < hi) (.slice A1 (st m limit slots draws j).1.length c1) (st m limit slots draws j).1)
    (hr2 : (Kd.int .i64).R 3 wr w.heap.size (fun k => lo ≤ k ∧ k < hi) (.slice A2 (st m limit slots draws j).2.length c2) (st m limit slots draws j).2)
    (ho : ∀ k, vo.ownBlock = some k → ¬ (lo ≤ k ∧ k < hi) ∧ k ≠ g)
    (hR : (Kd.int .i64).R 3 w' w.heap.size (fun k => ¬ (lo ≤ k ∧ k < hi) ∧ k ≠ g) v1 (lefts m limit slots draws i)) (hB : Below w.heap.size w w') (hg : wr.grownBy w' vo.ownBlock) : RInv w g m limit slots draws j i v1 w' :=
  ⟨lo, hi, A1, A2, c1, c2, h1, Nat.le_trans h2 hg.size, h3, blk_grown hbox hg (fun e => (ho g e.symm).2 rfl), Kd.R_grown hr1 hg (fun k hk e => (ho k e.symm).1 hk), Kd.R_grown hr2 hg (fun k hk e => (ho k e.symm).1 hk), hR, hB⟩
theorem RInv.B {w wr : World} {g m : Nat} {limit : Int} {slots draws : List Int} {j i : Nat} {vo : Value} (h : RInv w g m limit slots draws j i vo wr) : Below w.heap.size w wr := by
  obtain ⟨lo, hi, A1, A2, c1, c2, h1, h2, h3, hbox, hr1, hr2, ho, hB⟩ := h
  exact hB
end Go.Proofs.Ytklobepkihdbkaa.Rw
