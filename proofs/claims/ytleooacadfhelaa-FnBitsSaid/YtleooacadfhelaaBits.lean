/- The program's bitmaps, what only reads: mapOf and BitsHas; and the exact law on BitsHas. No condition. -/
import Derived.Test.YtleooacadfhelaaPFnExactBitsHasx
import Derived.WalkKit
import Derived.WalkLawsBesides
import Derived.WalkSpells
import Derived.Lib.Hide
namespace Go.Proofs.Ytleooacadfhelaa.Bits
open Go.RowKit Go.Proofs.Ytleooacadfhelaa.PFnExactBitsHas Go.Proofs.YtleooacadfhelaaW.PrintWords Go.Proofs.YtleooacadfhelaaW.PrintLast
set_option linter.unusedVariables false
set_option linter.unusedSimpArgs false
theorem balloc {w w1 : World} (h : Below w.heap.size w w1) (o : Obj) : Below w.heap.size w (w1.alloc o) := h.alloc h.size o
theorem bstep {w w1 w2 : World} (h : Below w.heap.size w w1) (h' : Below w1.heap.size w1 w2) : Below w.heap.size w w2 := h.trans (h'.mono h.size)
theorem bcell {W w1 : World} (hb : Below W.heap.size W w1) : (∀ b o, b < W.heap.size → w1.cell? ⟨b, o, none⟩ = W.cell? ⟨b, o, none⟩) ∧ (∀ b o, b < W.heap.size → w1.frozen? ⟨b, o, none⟩ = W.frozen? ⟨b, o, none⟩) :=
  ⟨fun b o h => hb.cell (p := ⟨b, o, none⟩) h, fun b o h => hb.frozen (p := ⟨b, o, none⟩) h⟩
set_option maxHeartbeats 400000 in
theorem mapOf (A : Option Addr) (c : Nat) (l : List Int) (n : Int) (g : Bool) (w : World) (hr : Kd.C (Kd.int .u64) w A l.length l) (hc : l.length ≤ c) (h : impl_bitmap_uint64_good.f l n = some g) :
    Calls Try.prog 25 #[.slice A l.length c, .int .i64 n] w fun e w' => e = .returned (.tuple #[.agg #[.slice A l.length c, .int .i64 n], .bool g]) ∧ Below w.heap.size w w' := by
  have HH := Lib.hid h
  have HR := Lib.hid hr
  clear h hr
  go_enter Try.func25, Try.ntmps25
  go_wp2_with fail
  go_region_with (go_at_call 31; refine (impl_bitmap_uint64_good.calls A c l n g _ (by exact Kd.C_below HR.out ((balloc (balloc (Below.refl _ _) _) _).drew)) hc HH.out).mono ?_; rintro e w1 ⟨rfl, hw1⟩; obtain ⟨hc1, hf1⟩ := bcell hw1; have hz1 : w.heap.size + 1 < w1.heap.size := by (have := hw1.size; simp at this; omega))
  all_goals go_wp2
  all_goals
    have k0 : w1.cell? ⟨w.heap.size, 0, none⟩ = some (.slice none 0 0) := (hc1 _ _ (by simp; omega)).trans (by simp [go_sem])
    have k1 : w1.cell? ⟨w.heap.size, 1, none⟩ = some (.int .i64 0) := (hc1 _ _ (by simp; omega)).trans (by simp [go_sem])
    have m0 : (w1.setCell ⟨w.heap.size, 0, none⟩ (.slice A l.length c)).cell? ⟨w.heap.size, 0, none⟩ = some (.slice A l.length c) := World.cell?_setCell_same _ _ _ k0
    have m1 : ((w1.setCell ⟨w.heap.size, 0, none⟩ (.slice A l.length c)).setCell ⟨w.heap.size, 1, none⟩ (.int .i64 n)).cell? ⟨w.heap.size, 1, none⟩ = some (.int .i64 n) :=
      World.cell?_setCell_same _ _ _ ((World.cell?_setCell_other _ _ _ _ (by simp)).trans k1)
  all_goals exact bodyPost_ret (v := .tuple #[.agg #[.slice A l.length c, .int .i64 n], .bool g]) (by simp [results, Try.results25, go_sem, m0, m1]) rfl ⟨rfl, ((bstep ((balloc (balloc (Below.refl _ _) _) _).drew) hw1).setCell (by simp) _).setCell (by simp) _⟩
set_option maxHeartbeats 1000000 in
theorem bitsHas_no (A : Option Addr) (c : Nat) (l : List Int) (n i : Int) (g : Bool) (w : World) (hr : Kd.C (Kd.int .u64) w A l.length l) (hc : l.length ≤ c) (h : impl_bitmap_uint64_good.f l n = some g) (hg : g = false ∨ i < 0 ∨ n ≤ i) :
    Calls Try.prog 11 #[.slice A l.length c, .int .i64 n, .int .i64 i] w fun e w' => e = .returned (.bool false) ∧ Below w.heap.size w w' := by
  have HH := Lib.hid h
  have HR := Lib.hid hr
  clear h hr
  have key : (g = false) ∨ (g = true ∧ i < 0) ∨ (g = true ∧ 0 ≤ i ∧ n ≤ i) := by
    cases g
    · exact .inl rfl
    · rcases hg with hg | hg | hg
      · cases hg
      · exact .inr (.inl ⟨rfl, hg⟩)
      · by_cases h0 : i < 0
        · exact .inr (.inl ⟨rfl, h0⟩)
        · exact .inr (.inr ⟨rfl, by omega, hg⟩)
  clear hg
  rcases key with rfl | ⟨rfl, h0⟩ | ⟨rfl, h0, h1⟩
  all_goals
    go_enter Try.func11, Try.ntmps11
    go_wp2_with fail
    refine (mapOf A c l n _ _ HR.out hc HH.out).mono ?_; rintro e w1 ⟨rfl, hw1⟩
    go_wp2
    go_ret
    exact ⟨rfl, balloc hw1 _⟩
set_option maxHeartbeats 1000000 in
theorem bitsHas_yes (A : Option Addr) (c : Nat) (l : List Int) (n i : Int) (r : Bool) (w : World) (hr : Kd.C (Kd.int .u64) w A l.length l) (hc : l.length ≤ c) (h : impl_bitmap_uint64_good.f l n = some true) (h0 : 0 ≤ i) (h1 : i < n) (hh : impl_bitmap_uint64_has.f l n i = some r) :
    Calls Try.prog 11 #[.slice A l.length c, .int .i64 n, .int .i64 i] w fun e w' => e = .returned (.bool r) ∧ Below w.heap.size w w' := by
  have HH := Lib.hid h
  have HR := Lib.hid hr
  have HB := Lib.hid hh
  clear h hr hh
  go_enter Try.func11, Try.ntmps11
  go_wp2_with fail
  refine (mapOf A c l n _ _ HR.out hc HH.out).mono ?_; rintro e w1 ⟨rfl, hw1⟩
  go_wp2_with fail
  refine (impl_bitmap_uint64_has.calls A c l n i r _ (by exact Kd.C_below HR.out (balloc hw1 _)) hc HB.out).mono ?_; rintro e w2 ⟨rfl, hw2⟩
  go_wp2
  go_ret
  exact ⟨rfl, bstep (balloc hw1 _) hw2⟩
end Go.Proofs.Ytleooacadfhelaa.Bits
