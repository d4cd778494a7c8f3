/- BitsFree of the program: the place of free bit number k. -/
import Derived.Test.YtleooacadfhelaaIter
import Derived.Test.YtleooacadfhelaaBits
import Derived.RangeFuncFrom
namespace Go.Proofs.Ytleooacadfhelaa.Fre
open Go.RowKit Go.Shelf Go.Proofs.YtleooacadfhelaaW.PrintWords Go.Proofs.Ytleooacadfhelaa.PFnExactBitsHas BitF Iter
set_option linter.unusedVariables false
set_option linter.unusedSimpArgs false
attribute [local go_sem] Oper.semAt_some
theorem frs_at {l : List Int} {n : Int} {k m j : Nat} {x : Int} (h : k ≤ m) (hx : (frs l n k)[j]? = some x) : (frs l n m)[j]? = some x := by
  induction h with
  | refl => exact hx
  | step _ ih =>
    rename_i m' _
    cases hf : isFree l n m' with
    | true =>
      rw [Nat.succ_eq_add_one, frs_yes hf, List.getElem?_append_left (List.getElem?_eq_some_iff.1 ih).1]
      exact ih
    | false => rw [Nat.succ_eq_add_one, frs_no hf]; exact ih
theorem kcell {w1 : World} {b : Nat} {v : Value} (h : w1.cell? ⟨b, 0, none⟩ = some v) (o : Obj) : (w1.alloc o).cell? ⟨b, 0, none⟩ = some v :=
  (((Below.refl _ w1).alloc (Nat.le_refl _) o).cell (p := ⟨b, 0, none⟩) (blk_lt h)).trans h
theorem kfroz {w1 : World} {b : Nat} {v : Value} (h : w1.cell? ⟨b, 0, none⟩ = some v) (h' : w1.frozen? ⟨b, 0, none⟩ = false) (o : Obj) : (w1.alloc o).frozen? ⟨b, 0, none⟩ = false :=
  (((Below.refl _ w1).alloc (Nat.le_refl _) o).frozen (p := ⟨b, 0, none⟩) (blk_lt h)).trans h'
set_option maxRecDepth 100000 in
set_option maxHeartbeats 4000000 in
theorem free_good (A : Option Addr) (c : Nat) (l : List Int) (nn : Int) (k0 : Nat) (w : World) (hC : Kd.C (Kd.int .u64) w A l.length l) (hc : l.length ≤ c) (hl : Words l) (hg : GoodB l nn) (hk : (k0 : Int) ≤ 9223372036854775807) :
    CallsIn Fence.wide 4 Try.prog 18 #[.slice A l.length c, .int .i64 nn, .int .i64 k0] w fun e w' => e = .returned (.int .i64 ((frs l nn (64 * l.length))[k0]?.getD (-1))) ∧ Below w.heap.size w w' := by
  obtain ⟨g, hgood, hgi⟩ := good_is hl hg.1
  obtain rfl : g = true := hgi.2 hg
  have HH := Lib.hid hgood
  clear hgood hgi
  obtain ⟨hn0, hn1, hn2⟩ := hg.1
  refine callsIn_of_wp_marks Try.func18 rfl trivial ?_ rfl
  simp only [Try.ntmps18, List.size_toArray, List.length_cons, List.length_nil, Nat.reduceAdd, Nat.reduceSub, Array.replicate_succ, Array.replicate_zero, List.push_toArray, List.append_toArray, List.nil_append, List.cons_append]
  gi_wp2_with (first
    | (refine ⟨trivial, ?_⟩; gi_at_call 25; refine (callsIn_wide.2 (Bits.mapOf A c l nn true _ (Kd.C_below hC (((Below.refl _ w).alloc (Nat.le_refl _) _).alloc (by simp) _)) hc HH.out)).mono ?_; rintro e w1 ⟨rfl, hw1⟩; obtain ⟨hcw, hfw⟩ := Bits.bcell hw1; have hsz := hw1.size; simp only [World.size_alloc] at hsz; have hk0 : w1.cell? ⟨w.heap.size, 0, none⟩ = some (.int .i64 k0) := (hcw _ _ (by simp; omega)).trans (by simp [go_sem]); have hk1 : w1.frozen? ⟨w.heap.size, 0, none⟩ = false := (hfw _ _ (by simp; omega)).trans (by simp [go_sem]); have hr0 : w1.cell? ⟨w.heap.size + 1, 0, none⟩ = some (.int .i64 0) := (hcw _ _ (by simp)).trans (by simp [go_sem]); have hr1 : w1.frozen? ⟨w.heap.size + 1, 0, none⟩ = false := (hfw _ _ (by simp)).trans (by simp [go_sem]); clear hcw hfw; have hka : ∀ o, (w1.alloc o).cell? ⟨w.heap.size, 0, none⟩ = some (.int .i64 k0) := fun o => kcell hk0 o; have hkb : ∀ o, (w1.alloc o).frozen? ⟨w.heap.size, 0, none⟩ = false := fun o => kfroz hk0 hk1 o)
    | (refine ⟨trivial, ?_⟩; gi_at_call 27; refine (Iter.free_in Fence.wide _ trivial rfl _ _ _ _ _).mono ?_; rintro e w' ⟨rfl, rfl⟩))
  have hB0 : Below w.heap.size w ((w1.alloc (.cells #[.slice A l.length c, .int .i64 nn] 41)).alloc (.cells #[.slice A l.length c, .int .i64 nn] 41)) :=
    (((((Below.refl _ w).alloc (Nat.le_refl _) _).alloc (by simp) _).trans (hw1.mono (by simp; omega))).alloc (by omega) _).alloc (by simp; omega) _
  obtain ⟨W0, hW0⟩ : ∃ W0, ((w1.alloc (.cells #[.slice A l.length c, .int .i64 nn] 41)).alloc (.cells #[.slice A l.length c, .int .i64 nn] 41)) = W0 := ⟨_, rfl⟩
  have hs0 : W0.heap.size = w1.heap.size + 2 := by rw [← hW0]; simp
  have hb0 : W0.cell? ⟨w1.heap.size + 1, 0, none⟩ = some (.slice A l.length c) := by rw [← hW0]; simp [go_sem]
  have hb1 : W0.cell? ⟨w1.heap.size + 1, 1, none⟩ = some (.int .i64 nn) := by rw [← hW0]; simp [go_sem]
  have hkc : W0.cell? ⟨w.heap.size, 0, none⟩ = some (.int .i64 k0) := by rw [← hW0]; exact kcell (kcell hk0 _) _
  have hkf : W0.frozen? ⟨w.heap.size, 0, none⟩ = false := by rw [← hW0]; exact kfroz (kcell hk0 _) (kfroz hk0 hk1 _) _
  have hrc : W0.cell? ⟨w.heap.size + 1, 0, none⟩ = some (.int .i64 0) := by rw [← hW0]; exact kcell (kcell hr0 _) _
  have hrf : W0.frozen? ⟨w.heap.size + 1, 0, none⟩ = false := by rw [← hW0]; exact kfroz (kcell hr0 _) (kfroz hr0 hr1 _) _
  rw [hW0] at hB0 ⊢
  have hwd : ∀ j, j < l.length → ∃ ad, A = some ad ∧ ad.block < w.heap.size ∧ W0.cell? (ad.add j) = some (.int .u64 (rd l j)) := fun j hj => by
    obtain ⟨ad, e, hb, hcc⟩ := words_of hC j hj
    exact ⟨ad, e, hb, (hB0.cell (p := ad.add j) (by rw [Iter.add_block]; exact hb)).trans hcc⟩
  refine wpIn_rangeFunc_ownF rfl (by omega) (gf := 32) (lb := #[.pointer (some ⟨w1.heap.size + 1, 0, none⟩)]) rfl trivial (enters_of Try.func32 (by kernel_rfl) rfl)
    (free_stops Fence.wide 3 trivial rfl (by omega) (w1.heap.size + 1) w.heap.size A c l nn hl (by omega) hn0 hn1 W0 (by omega) (by omega) hb0 hb1 hwd) Kb.trans (Kb.put (by omega)) (Below.refl _ _) (fun _ => rfl)
    (fun pre W => (pre.length ≤ k0 ∧ W.cell? ⟨w.heap.size, 0, none⟩ = some (.int .i64 ((k0 : Int) - (pre.length : Nat))) ∧ W.frozen? ⟨w.heap.size, 0, none⟩ = false ∧ W.cell? ⟨w.heap.size + 1, 0, none⟩ = some (.int .i64 0) ∧ W.frozen? ⟨w.heap.size + 1, 0, none⟩ = false) ∧ Below w.heap.size w W)
    (fun c pre W => (c = .ret ∧ ∃ x, pre[k0]? = some x ∧ W.cell? ⟨w.heap.size + 1, 0, none⟩ = some (.int .i64 x)) ∧ Below w.heap.size w W)
    (OwnFrom.and (Own.from (fun s A B row hs hg hr => ⟨hs.1, cell_kept hs.2.1 hg hr, (frozen_kept hs.2.1 hg hr).trans hs.2.2.1, cell_kept hs.2.2.2.1 hg hr, (frozen_kept hs.2.2.2.1 hg hr).trans hs.2.2.2.2⟩) _) (ownFrom_below (Nat.le_refl _) (by omega)))
    (fun c => OwnFrom.and (Own.from (fun s A B row hs hg hr => ⟨hs.1, let ⟨x, e, h⟩ := hs.2; ⟨x, e, cell_kept h hg hr⟩⟩) _) (ownFrom_below (Nat.le_refl _) (by omega)))
    ⟨⟨by simp, by simpa using hkc, hkf, hrc, hrf⟩, hB0⟩
    (fun x => { tmps := #[.slice A l.length c, .int .i64 nn, .int .i64 k0, undef, undef, .pointer (some ⟨w.heap.size, 0, none⟩), .pointer (some ⟨w.heap.size + 1, 0, none⟩), .pointer (some ⟨w1.heap.size, 0, none⟩), .bool true, .int .i64 x,
          .tuple #[.agg #[.slice A l.length c, .int .i64 nn], .bool true], .slice A l.length c, .int .i64 nn, .tuple #[.agg #[.slice A l.length c, .int .i64 nn], .bool true], .agg #[.slice A l.length c, .int .i64 nn], .bool true, .bool true,
          .bool false, .bool false, .int .i64 k0, .bool (decide ((k0 : Int) < 0)), .bool (decide ((k0 : Int) < 0)), .agg #[.slice A l.length c, .int .i64 nn], .func (.func 32) #[] #[.pointer (some ⟨w1.heap.size + 1, 0, none⟩)], .int .i64 x, undef, undef, undef, undef, undef], defers := [] }) ?assign ?body ?done ?stop
  case assign =>
    intro l x W K hK
    gi_wp2
    simpa using hK
  case body =>
    rintro lp pre x W ⟨⟨hle, hcc, hf, hrc, hrf⟩, hB⟩ hlen
    by_cases hz : pre.length = k0
    · have hzb : ((k0 : Int) - (pre.length : Nat) == 0) = true := by rw [beq_iff_eq]; omega
      gi_wp2
      exact ⟨KeepsOthers.setCell _ _ _, ⟨rfl, x, by rw [List.getElem?_append_right (by omega), hz]; simp, World.cell?_setCell_same' _ _ _ (by rw [hrc]; rfl)⟩, hB.setCell (p := ⟨w.heap.size + 1, 0, none⟩) (by simp) _⟩
    · have hzb : ((k0 : Int) - (pre.length : Nat) == 0) = false := by rw [beq_eq_false_iff_ne]; omega
      have hlt : (pre.length : Int) < k0 := by omega
      gi_wp2
      refine ⟨KeepsOthers.setCell _ _ _, ⟨(Below.refl _ W).setCell (p := ⟨w.heap.size, 0, none⟩) (by simp) _, fun o v e => (World.cell?_setCell_other _ _ _ _ (by first | (simp; done) | (simp; omega))).trans e⟩,
        ⟨by first | (simp; done) | (simp; omega), ?_, by rw [World.frozen?_setCell]; exact hf, (World.cell?_setCell_other _ _ _ _ (by simp)).trans hrc, by rw [World.frozen?_setCell]; exact hrf⟩, hB.setCell (p := ⟨w.heap.size, 0, none⟩) (by simp) _⟩
      rw [World.cell?_setCell_same' _ _ _ (by rw [hcc]; rfl)]
      simp
      omega
  case done =>
    rintro D ys W hD rfl ⟨⟨hle, hcc, _, hrc, hrf⟩, hB⟩ hK
    gi_wp2
    have hK' := (KeepsOthers.setCell W ⟨w.heap.size + 1, 0, none⟩ (.int .i64 (-1))).same D _ hK rfl
    refine ⟨by simp, .inl ⟨_, _, rfl, run_takeDeferred hK', ?_⟩⟩
    have hc5 := cell_kept (World.cell?_setCell_same' W ⟨w.heap.size + 1, 0, none⟩ (.int .i64 (-1)) (by rw [hrc]; rfl)) (grownBy_putObj' _ D (.deferred none)) (fun r e => by cases e; exact ⟨_, hK', rfl⟩)
    refine ⟨.int .i64 (-1), by simp [results, Try.results18, go_sem, hc5], by rw [List.getElem?_eq_none hle]; rfl, (hB.setCell (p := ⟨w.heap.size + 1, 0, none⟩) (by simp) _).trans (belowK_b (w := w) (Nat.le_refl _) _ D _ _ (by omega) hK' rfl rfl)⟩
  case stop =>
    rintro D c pre W hD ⟨k, hk1, rfl⟩ ⟨⟨rfl, x, hx, hrc⟩, hB⟩ hK
    gi_wp2
    refine ⟨by simp, .inl ⟨_, _, rfl, run_takeDeferred hK, ?_⟩⟩
    have hc5 := cell_kept hrc (grownBy_putObj' _ D (.deferred none)) (fun r e => by cases e; exact ⟨_, hK, rfl⟩)
    refine ⟨.int .i64 x, by simp [results, Try.results18, go_sem, hc5], by rw [frs_at hk1 hx]; rfl, hB.trans (belowK_b (w := w) (Nat.le_refl _) W D _ _ (by omega) hK rfl rfl)⟩
set_option maxHeartbeats 2000000 in
theorem free_bad (A : Option Addr) (c : Nat) (l : List Int) (n k0 : Int) (g : Bool) (w : World) (hC : Kd.C (Kd.int .u64) w A l.length l) (hc : l.length ≤ c) (h : impl_bitmap_uint64_good.f l n = some g) (hg : g = false ∨ k0 < 0) :
    Calls Try.prog 18 #[.slice A l.length c, .int .i64 n, .int .i64 k0] w fun e w' => e = .returned (.int .i64 (-1)) ∧ Below w.heap.size w w' := by
  have HH := Lib.hid h
  have HR := Lib.hid hC
  clear h hC
  have hB0 := ((Below.refl _ w).alloc (Nat.le_refl _) (.cells #[.int .i64 k0] 3)).alloc (by simp) (.cells #[.int .i64 0] 3)
  have key : g = false ∨ (g = true ∧ k0 < 0) := by
    cases g
    · exact .inl rfl
    · rcases hg with hg | hg
      · cases hg
      · exact .inr ⟨rfl, hg⟩
  rcases key with rfl | ⟨rfl, hk⟩
  all_goals
    go_enter Try.func18, Try.ntmps18
    go_wp2_with (go_at_call 25; refine (Bits.mapOf A c l n _ _ (Kd.C_below HR.out (((Below.refl _ w).alloc (Nat.le_refl _) _).alloc (by simp) _)) hc HH.out).mono ?_; rintro e w1 ⟨rfl, hw1⟩; obtain ⟨hcw, hfw⟩ := Bits.bcell hw1; have hsz := hw1.size; simp only [World.size_alloc] at hsz; have hk0 : w1.cell? ⟨w.heap.size, 0, none⟩ = some (.int .i64 k0) := (hcw _ _ (by simp; omega)).trans (by simp [go_sem]); have hr0 : w1.cell? ⟨w.heap.size + 1, 0, none⟩ = some (.int .i64 0) := (hcw _ _ (by simp)).trans (by simp [go_sem]); have hr1 : w1.frozen? ⟨w.heap.size + 1, 0, none⟩ = false := (hfw _ _ (by simp)).trans (by simp [go_sem]); clear hcw hfw; have hka : ∀ o, (w1.alloc o).cell? ⟨w.heap.size, 0, none⟩ = some (.int .i64 k0) := fun o => kcell hk0 o; have hra : ∀ o, (w1.alloc o).cell? ⟨w.heap.size + 1, 0, none⟩ = some (.int .i64 0) := fun o => kcell hr0 o; have hrb : ∀ o, (w1.alloc o).frozen? ⟨w.heap.size + 1, 0, none⟩ = false := fun o => kfroz hr0 hr1 o)
    have hfin : ∀ o, ((w1.alloc o).setCell ⟨w.heap.size + 1, 0, none⟩ (.int .i64 (-1))).cell? ⟨w.heap.size + 1, 0, none⟩ = some (.int .i64 (-1)) := fun o => World.cell?_setCell_same _ _ _ (hra o)
    exact bodyPost_ret (v := .int .i64 (-1)) (by simp [results, Try.results18, go_sem, hfin]) rfl ⟨rfl, ((hB0.trans (hw1.mono (by simp; omega))).alloc (by omega) _).setCell (p := ⟨w.heap.size + 1, 0, none⟩) (by simp) _⟩
end Go.Proofs.Ytleooacadfhelaa.Fre
