/- BitsCount of the program: how many bits are on. -/
import Derived.Test.YtleooacadfhelaaIter
import Derived.Test.YtleooacadfhelaaBits
import Derived.RangeFuncFrom
namespace Go.Proofs.Ytleooacadfhelaa.Cnt
open Go.RowKit Go.Shelf Go.Proofs.YtleooacadfhelaaW.PrintWords Go.Proofs.Ytleooacadfhelaa.PFnExactBitsHas BitF Iter
set_option linter.unusedVariables false
set_option linter.unusedSimpArgs false
attribute [local go_sem] Oper.semAt_some
set_option maxRecDepth 100000 in
set_option maxHeartbeats 4000000 in
theorem count_in (A : Option Addr) (c : Nat) (l : List Int) (nn : Int) (w : World) (hC : Kd.C (Kd.int .u64) w A l.length l) (hc : l.length ≤ c) (hl : Words l) (hg : GoodB l nn) :
    CallsIn Fence.wide 4 Try.prog 14 #[.slice A l.length c, .int .i64 nn] w fun e w' => e = .returned (.int .i64 (nn - (frs l nn (64 * l.length)).length)) ∧ Below w.heap.size w w' := by
  obtain ⟨g, hgood, hgi⟩ := good_is hl hg.1
  obtain rfl : g = true := hgi.2 hg
  have HH := Lib.hid hgood
  clear hgood hgi
  obtain ⟨hn0, hn1, hn2⟩ := hg.1
  refine callsIn_of_wp_marks Try.func14 rfl trivial ?_ rfl
  simp only [Try.ntmps14, List.size_toArray, List.length_cons, List.length_nil, Nat.reduceAdd, Nat.reduceSub, Array.replicate_succ, Array.replicate_zero, List.push_toArray, List.append_toArray, List.nil_append, List.cons_append]
  gi_wp2_with (first
    | (refine ⟨trivial, ?_⟩; gi_at_call 25; refine (callsIn_wide.2 (Bits.mapOf A c l nn true _ hC hc HH.out)).mono ?_; rintro e w1 ⟨rfl, hw1⟩)
    | (refine ⟨trivial, ?_⟩; gi_at_call 27; refine (Iter.free_in Fence.wide _ trivial rfl _ _ _ _ _).mono ?_; rintro e w' ⟨rfl, rfl⟩))
  have hB0 : Below w.heap.size w (((w1.alloc (.cells #[.slice A l.length c, .int .i64 nn] 41)).alloc (.cells #[.int .i64 nn] 3)).alloc (.cells #[.slice A l.length c, .int .i64 nn] 41)) :=
    ((hw1.alloc hw1.size _).alloc (by have := hw1.size; simp; omega) _).alloc (by have := hw1.size; simp; omega) _
  have hsz := hw1.size
  obtain ⟨W0, hW0⟩ : ∃ W0, (((w1.alloc (.cells #[.slice A l.length c, .int .i64 nn] 41)).alloc (.cells #[.int .i64 nn] 3)).alloc (.cells #[.slice A l.length c, .int .i64 nn] 41)) = W0 := ⟨_, rfl⟩
  have hs0 : W0.heap.size = w1.heap.size + 3 := by rw [← hW0]; simp
  have hb0 : W0.cell? ⟨w1.heap.size + 1 + 1, 0, none⟩ = some (.slice A l.length c) := by rw [← hW0]; simp [go_sem]
  have hb1 : W0.cell? ⟨w1.heap.size + 1 + 1, 1, none⟩ = some (.int .i64 nn) := by rw [← hW0]; simp [go_sem]
  have hk0 : W0.cell? ⟨w1.heap.size + 1, 0, none⟩ = some (.int .i64 nn) := by rw [← hW0]; simp [go_sem]
  have hk1 : W0.frozen? ⟨w1.heap.size + 1, 0, none⟩ = false := by rw [← hW0]; simp [go_sem]
  have hwd : ∀ j, j < l.length → ∃ ad, A = some ad ∧ ad.block < w1.heap.size ∧ W0.cell? (ad.add j) = some (.int .u64 (rd l j)) := fun j hj => by
    obtain ⟨ad, e, hb, hcc⟩ := words_of hC j hj
    exact ⟨ad, e, by omega, (by rw [← hW0] at *; exact (hB0.cell (p := ad.add j) (by rw [Iter.add_block]; exact hb)).trans hcc)⟩
  rw [hW0] at hB0 ⊢
  refine wpIn_rangeFunc_ownF rfl (by omega) (gf := 32) (lb := #[.pointer (some ⟨w1.heap.size + 1 + 1, 0, none⟩)]) rfl trivial (enters_of Try.func32 (by kernel_rfl) rfl)
    (free_stops Fence.wide 3 trivial rfl (by omega) (w1.heap.size + 1 + 1) w1.heap.size A c l nn hl (by omega) hn0 hn1 W0 (by omega) (by omega) hb0 hb1 hwd) Kb.trans (Kb.put (by omega)) (Below.refl _ _) (fun _ => rfl)
    (fun pre W => (W.cell? ⟨w1.heap.size + 1, 0, none⟩ = some (.int .i64 (nn - (pre.length : Nat))) ∧ W.frozen? ⟨w1.heap.size + 1, 0, none⟩ = false) ∧ Below w.heap.size w W)
    (fun _ _ _ => False)
    (OwnFrom.and (Own.from (fun s A B row hs hg hr => ⟨cell_kept hs.1 hg hr, (frozen_kept hs.1 hg hr).trans hs.2⟩) _) (ownFrom_below (Nat.le_refl _) (by omega)))
    (fun _ _ _ _ _ hs _ _ => hs)
    ⟨⟨by simpa using hk0, hk1⟩, hB0⟩
    (fun x => { tmps := #[.slice A l.length c, .int .i64 nn, undef, undef, .int .i64 0, .pointer (some ⟨w1.heap.size, 0, none⟩), .bool true, .pointer (some ⟨w1.heap.size + 1, 0, none⟩),
          .tuple #[.agg #[.slice A l.length c, .int .i64 nn], .bool true], .slice A l.length c, .int .i64 nn, .tuple #[.agg #[.slice A l.length c, .int .i64 nn], .bool true], .agg #[.slice A l.length c, .int .i64 nn], .bool true, .bool true,
          .bool false, .int .i64 nn, .agg #[.slice A l.length c, .int .i64 nn], .func (.func 32) #[] #[.pointer (some ⟨w1.heap.size + 1 + 1, 0, none⟩)], .int .i64 x, undef, undef, undef], defers := [] }) ?assign ?body ?done ?stop
  case assign =>
    intro l x W K hK
    gi_wp2
    simpa using hK
  case body =>
    rintro lp pre x W ⟨⟨hcc, hf⟩, hB⟩ hlen
    have hle : (pre.length : Int) ≤ 4096 + 64 := by omega
    gi_wp2
    refine ⟨KeepsOthers.setCell _ _ _, ⟨(Below.refl _ W).setCell (p := ⟨w1.heap.size + 1, 0, none⟩) (by simp) _, fun o v e => (World.cell?_setCell_other _ _ _ _ (by simp)).trans e⟩, ⟨?_, by rw [World.frozen?_setCell]; exact hf⟩, hB.setCell (p := ⟨w1.heap.size + 1, 0, none⟩) (by simp; omega) _⟩
    rw [World.cell?_setCell_same' _ _ _ (by rw [hcc]; rfl)]
    simp
    omega
  case done =>
    rintro D ys W hD rfl ⟨⟨hcc, _⟩, hB⟩ hK
    gi_wp2
    refine ⟨by simp, .inl ⟨_, _, rfl, run_takeDeferred hK, ?_⟩⟩
    exact ⟨_, results_tmp rfl _ _ _, rfl, hB.trans (belowK_b (w := w) (Nat.le_refl _) W D _ _ (by omega) hK rfl rfl)⟩
  case stop =>
    rintro D c pre W _ _ h _
    exact h.elim
set_option maxHeartbeats 1000000 in
theorem count_bad (A : Option Addr) (c : Nat) (l : List Int) (n : Int) (w : World) (hC : Kd.C (Kd.int .u64) w A l.length l) (hc : l.length ≤ c) (h : impl_bitmap_uint64_good.f l n = some false) :
    Calls Try.prog 14 #[.slice A l.length c, .int .i64 n] w fun e w' => e = .returned (.int .i64 (-1)) ∧ Below w.heap.size w w' := by
  have HH := Lib.hid h
  have HR := Lib.hid hC
  clear h hC
  go_enter Try.func14, Try.ntmps14
  go_wp2_with (go_at_call 25; refine (Bits.mapOf A c l n false _ HR.out hc HH.out).mono ?_; rintro e w1 ⟨rfl, hw1⟩)
  go_ret
  exact ⟨rfl, hw1.alloc hw1.size _⟩
end Go.Proofs.Ytleooacadfhelaa.Cnt
