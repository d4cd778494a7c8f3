/- An argument that is a row of operations: what it reads as. -/
import Derived.Test.YtklobepkihdbkaaPFnExactRunSpacex0
import Derived.Deep.Slices
import Derived.ChangeSlices
namespace Go.Proofs.Ytklobepkihdbkaa.ArgO
open Go.RowKit Go.ChangeShapes Go.WideShapes Go.Deep Go.Proofs.YtklobepkihdbkaaW.PrintWords Go.Proofs.Ytklobepkihdbkaa.PFnExactRunSpace
set_option linter.unusedVariables false
/-- A row out of its elements, told one by one. -/
theorem row_of {α : Type} {d : Kd α} {w : World} {a : Addr} {n : Nat} (p : α → Prop) (hn : n ≤ 9223372036854775807)
    (h : ∀ i, i < n → ∃ o cs, cs.length = d.sz ∧ d.K w o cs ∧ (∀ j u, cs[j]? = some u → w.cell? (a.add (i * d.sz + j)) = some u) ∧ p o) : ∃ l : List α, l.length = n ∧ Kd.C d w (some a) n l ∧ ∀ o ∈ l, p o := by
  refine ⟨List.ofFn fun i : Fin n => Classical.choose (h i.1 i.2), by simp, ⟨by simp, hn, fun _ => ⟨a, rfl, fun j q hj => ?_⟩⟩, fun o ho => ?_⟩
  · obtain ⟨hl, e⟩ := List.getElem?_eq_some_iff.1 hj
    rw [List.getElem_ofFn] at e
    obtain ⟨cs, h1, h2, h3, _⟩ := Classical.choose_spec (h j (by simpa using hl))
    exact ⟨cs, h1, by rw [← e]; exact h2, h3⟩
  · obtain ⟨i, hi, e⟩ := List.getElem_of_mem ho
    rw [List.getElem_ofFn] at e
    obtain ⟨cs, _, _, _, h4⟩ := Classical.choose_spec (h i (by simpa using hi))
    rw [← e]
    exact h4
section
variable {H : Type} {enc : TypeId × Value → H} {w : World} {base : Nat} {spare : Nat → Bool} {held : Bool}
theorem arg_bytes {fuel : Nat} {cs : List Value} {x : DataW H × List MemPlace} (h : DataW.trod enc Try.prog w base spare held fuel 39 cs = some x) :
    ∃ (A : Option Addr) (c : Nat) (l : List Int), cs = [.slice A l.length c] ∧ l.length ≤ c ∧ (Kd.int .u8).C w A l.length l := by
  rcases open_ints Try.underlying39 Try.underlying5 (by kernel_rfl) h with ⟨hcs, _⟩ | ⟨a, len, cap, zs, hcs, _, hl, hm, hz, _, hcell, hwz⟩
  · exact ⟨none, 0, [], hcs, Nat.le_refl _, rfl, by simp, fun hn => absurd hn (by simp)⟩
  · have hlz : len ≤ zs.length := by rw [hz]; split <;> omega
    have hm2 : maxLen = 9223372036854775807 := by decide
    refine ⟨some a, cap, zs.take len, by rw [hcs, List.length_take, Nat.min_eq_left hlz], by rw [List.length_take]; omega, rfl, by rw [List.length_take]; omega, fun hn => ⟨a, rfl, fun j q hj => ?_⟩⟩
    rw [List.getElem?_take] at hj
    split at hj
    · obtain ⟨hjl, e⟩ := List.getElem?_eq_some_iff.1 hj
      refine ⟨[.int .u8 q], rfl, rfl, fun i u hu => ?_⟩
      match i, hu with
      | 0, hu =>
        cases hu
        have := hcell j hjl
        rw [List.getD_eq_getElem?_getD, hj, Option.getD_some] at this
        rw [show j * (Kd.int .u8).sz + 0 = j from by show j * 1 + 0 = j; omega]
        exact this
      | i + 1, hu => simp at hu
    · cases hj
set_option maxRecDepth 100000 in
theorem arg_ops {fuel : Nat} {cs : List Value} {x : DataW H × List MemPlace} (h : DataW.trod enc Try.prog w base spare held fuel 56 cs = some x) :
    ∃ (A : Option Addr) (c : Nat) (l : List S100), cs = [.slice A l.length c] ∧ l.length ≤ c ∧ Kd.C k100 w A l.length l ∧ ∀ o ∈ l, 0 ≤ o.f3 ∧ o.f3 ≤ 18446744073709551615 := by
  have hC : Try.prog.cellsOf 100 = 6 := by kernel_rfl
  have hi : Try.prog.cellsOf 3 = 1 := by kernel_rfl
  have hu : Try.prog.cellsOf 50 = 1 := by kernel_rfl
  have hs : Try.prog.cellsOf 39 = 1 := by kernel_rfl
  rcases open_slice Try.underlying56 h with ⟨hcs, _⟩ | ⟨a, len, cap, m, n, D, Pl, hcs, hb, hl, hm, hmm, _, hel⟩
  · exact ⟨none, 0, [], hcs, Nat.le_refl _, ⟨rfl, by simp, fun hn => absurd hn (by simp)⟩, fun o ho => by cases ho⟩
  · have hm2 : maxLen = 9223372036854775807 := by decide
    have hlm : len ≤ m := by rw [hmm]; split <;> omega
    obtain ⟨l, hll, hlC, hlp⟩ := row_of (d := k100) (w := w) (a := a) (n := len) (fun o => 0 ≤ o.f3 ∧ o.f3 ≤ 18446744073709551615) (by omega) (fun i hi2 => by
      obtain ⟨cs', hc, ht'⟩ := hel i (by omega)
      rw [hC] at hc
      obtain ⟨_, hcl, hat⟩ := World.cells?_some hc
      obtain ⟨ys, n', _, _, _, hyl, hf⟩ := DataW.trod_struct Try.underlying100 ht'
      match cs', hcl with
      | [c0, c1, c2, c3, c4, c5], _ =>
        have g0 : DataW.trod enc Try.prog w base spare held n' 3 (([c0, c1, c2, c3, c4, c5].drop 0).take (Try.prog.cellsOf 3)) = ys[0]? := hf 0 _ rfl
        have g1 : DataW.trod enc Try.prog w base spare held n' 3 (([c0, c1, c2, c3, c4, c5].drop 1).take (Try.prog.cellsOf 3)) = ys[1]? := hf 1 _ rfl
        have g2 : DataW.trod enc Try.prog w base spare held n' 3 (([c0, c1, c2, c3, c4, c5].drop 2).take (Try.prog.cellsOf 3)) = ys[2]? := hf 2 _ rfl
        have g3 : DataW.trod enc Try.prog w base spare held n' 50 (([c0, c1, c2, c3, c4, c5].drop 3).take (Try.prog.cellsOf 50)) = ys[3]? := hf 3 _ rfl
        have g4 : DataW.trod enc Try.prog w base spare held n' 3 (([c0, c1, c2, c3, c4, c5].drop 4).take (Try.prog.cellsOf 3)) = ys[4]? := hf 4 _ rfl
        have g5 : DataW.trod enc Try.prog w base spare held n' 39 (([c0, c1, c2, c3, c4, c5].drop 5).take (Try.prog.cellsOf 39)) = ys[5]? := hf 5 _ rfl
        have hy : ∀ j, j < 6 → ∃ y, ys[j]? = some y := fun j hj => ⟨_, List.getElem?_eq_getElem (by rw [hyl]; exact hj)⟩
        obtain ⟨y0, e0⟩ := hy 0 (by omega)
        obtain ⟨y1, e1⟩ := hy 1 (by omega)
        obtain ⟨y2, e2⟩ := hy 2 (by omega)
        obtain ⟨y3, e3⟩ := hy 3 (by omega)
        obtain ⟨y4, e4⟩ := hy 4 (by omega)
        obtain ⟨y5, e5⟩ := hy 5 (by omega)
        rw [e0] at g0
        rw [e1] at g1
        rw [e2] at g2
        rw [e3] at g3
        rw [e4] at g4
        rw [e5] at g5
        simp only [hi, hu, hs, List.drop_zero, List.drop_succ_cons, List.take_succ_cons, List.take_zero] at g0 g1 g2 g3 g4 g5
        obtain ⟨z0, q0, _, _⟩ := DataW.trod_int Try.underlying3 g0
        obtain ⟨z1, q1, _, _⟩ := DataW.trod_int Try.underlying3 g1
        obtain ⟨z2, q2, _, _⟩ := DataW.trod_int Try.underlying3 g2
        obtain ⟨z3, q3, _, w3⟩ := DataW.trod_int Try.underlying50 g3
        obtain ⟨z4, q4, _, _⟩ := DataW.trod_int Try.underlying3 g4
        obtain ⟨A5, n5, l5, q5, hl5, hC5⟩ := arg_bytes g5
        simp only [List.cons.injEq, and_true] at q0 q1 q2 q3 q4 q5
        subst q0 q1 q2 q3 q4 q5
        refine ⟨⟨z0, z1, z2, z3, z4, l5⟩, _, rfl, k100_mk w ⟨z0, z1, z2, z3, z4, l5⟩ hl5 hC5, fun j u hu => ?_, ?_⟩
        · have hj : j < 6 := by
            have := (List.getElem?_eq_some_iff.1 hu).1
            simpa using this
          have := hat j hj
          rw [Go.Deep.add_add] at this
          exact this.trans hu
        · have := w3
          simp [Lit.wf] at this
          have e1 : IntKind.u64.min = 0 := by decide
          have e2 : IntKind.u64.max = 18446744073709551615 := by decide
          rw [e1, e2] at this
          exact this)
    subst hll
    exact ⟨some a, cap, l, hcs, hl, hlC, hlp⟩
end
end Go.Proofs.Ytklobepkihdbkaa.ArgO
