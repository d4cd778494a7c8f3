/- What the listed variable 'impl.sizes' gives the walks: its block is the twelve sizes. No condition beyond the row's own. -/
import Derived.Test.YtklobepkihdbkaaDoorRows
import Derived.WalkKit
import Derived.ProofKit
import Derived.LaidMore
import Derived.OpenShut
import Derived.Lib.LaidTab
import Derived.Stop.Joined
namespace Go.Proofs.YtklobepkihdbkaaDoor.Laid
open Go.ChangeShapes Go.WideShapes Go.ChangeAt Go.RowKit
set_option linter.unusedVariables false
set_option linter.unusedSimpArgs false
def sizesName : String := "loop.example/s01868/impl.sizes"
def list : List (String × DataW Unit) := [(sizesName, Rows.laid_loop_example_s01868_impl_sizes)]
theorem gSizes : Tryd.prog.globalNamed sizesName = some 0 := by kernel_rfl
theorem tSizes : (Tryd.prog.globals[0]?).map (·.type) = some 48 := by kernel_rfl
theorem cellsInt : Tryd.prog.cellsOf 3 = 1 := by kernel_rfl
def szl : List Int := [16, 32, 48, 64, 96, 128, 192, 256, 384, 512, 768, 1024]
def tbl : Array Value := #[.int .i64 16, .int .i64 32, .int .i64 48, .int .i64 64, .int .i64 96, .int .i64 128, .int .i64 192, .int .i64 256, .int .i64 384, .int .i64 512, .int .i64 768, .int .i64 1024]
/-- THE TABLE: the variable's block holds the twelve sizes (of whatever type number the block bears). -/
def Table (W : World) : Prop := ∃ t, W.heap[0]? = some (.cells tbl t (0, 0))
theorem Table.below {W W' : World} {B : Nat} (h : Table W) (hb : Below B W W') (hB : 0 < B) : Table W' := by
  obtain ⟨t, h⟩ := h
  exact ⟨t, (hb.block _ hB).trans h⟩
theorem Table.lt {W : World} (h : Table W) : 0 < W.heap.size := by
  obtain ⟨t, h⟩ := h
  exact (Array.getElem?_eq_some_iff.1 h).1
theorem of_laid {W : World} (h : laidMetH Tryd.prog list W) : Table W := by
  rw [MakeChecks.laidMetH_plain _ _ _ (by kernel_rfl)] at h
  obtain ⟨ps, ⟨g0, t0, cs0, f0, p0, q0, hg0, ht0, hv0, hd0, _, hps⟩, _, hcells⟩ := h
  obtain rfl := Option.some.inj (gSizes.symm.trans hg0)
  obtain rfl := Option.some.inj (tSizes.symm.trans ht0)
  have hcs := Lib.cells_of_tab (k := .i64) (zs := szl) Tryd.underlying48 Tryd.underlying3 (by kernel_rfl) (by kernel_rfl) hd0
  have hsz : cs0.size = 12 := by
    have := congrArg List.length hcs
    simpa [szl] using this
  obtain ⟨⟨c, t, hb⟩, _⟩ := hcells 0 0 (by rw [hps, hsz]; simp [MemPlace.row])
  have hc : c = cs0 := by
    have := hv0
    simp only [World.var?, gSizes, Option.bind_some, hb] at this
    exact Option.some.inj this
  subst hc
  refine ⟨t, ?_⟩
  rw [hb]
  have : c = tbl := by
    apply Array.ext'
    rw [hcs]
    rfl
  rw [this]
theorem door_met (os : Os) (args : Array Value) : laidMetH Tryd.prog list ((World.doorLaid Tryd.prog 400 os).forCall (fun _ _ => 0) ⟨#[], args, []⟩).memory :=
  laidMetH_of_parts3 (fuel := 8) (laidMet_of_run' 8 (by kernel_rfl) (by kernel_rfl)) (by kernel_rfl) (by kernel_rfl)
end Go.Proofs.YtklobepkihdbkaaDoor.Laid
