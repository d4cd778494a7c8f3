/-
  NARROWER THAN 'FOR EVERY INPUT', by the rows' own cells (each row's printed sentence says how): FnExactSlotSize: laid · FnExactUsable: laid · FnExactSlabPages: laid · FnExactClassOf: laid · FnExactRegionPages: laid · FnExactSlabSlots: laid · FnExactRegionStart: laid · FnExactLargeStart: laid.
  DERIVED. THE GIVEN ROWS OF THIS SEAT. 8 by the template 'for every input the law returns true; each argument reads behind the call as it read before'; 0 by the template 'total and deterministic' (their statements: YtkgkgogpogggiaaDoorTotals.lean).
  GIVEN WITH THE SEED: the statements are not yours to turn. If you find one false, say at which input.
  Laid BY PROGRAM, IN A SANDBOX (cutbox-rows.mjs): the forced cells as the released guide's own fill.sh prints them over the translation 21226e99cf461f6f… (all of the seat's roots in one cut). By AI agents, Wed Nov 11 2026. No macro, syntax, notation, axiom, sorry.
-/
import Derived.Test.YtkgkgogpogggiaaDoorChecked
import GoSem.Claim
import GoSem.ClaimJoined
import GoSem.ClaimMapViews
import Derived.JoinedTies
import Derived.KernelRfl
namespace Go.Proofs.YtkgkgogpogggiaaDoor
/- THE CELL 'sum', in the pinned program and in every row, IS THE sha256 OF THE DUMP (.gsa) THAT YtkgkgogpogggiaaDoorProg.lean LOADS. Nothing in Lean hashes anything: it is a label: what it is worth is what the hold of that sum in a sandbox is worth. -/
noncomputable def Tryd.pinned : Pinned := { name := "ytkgkgogpogggiaadoor", sum := "21226e99cf461f6f6abacabb028991ae21747e15ff0a0cb419f8e8b56794c1aa", checked := Tryd.checked }
namespace Rows
def none {H : Type} : Left H := { results := [], args := [] }

/- WHAT THE LISTED PACKAGE-LEVEL VARIABLES READ AS WHEN THE CALL BEGINS. Each datum BY PROGRAM (the guide's laid-datum.mjs) off the statement by which the dump's own 'gosem.cut.vars' lays the variable. In a bare row this is a premise. The card (YtkgkgogpogggiaaDoorCards.lean) ties it to the program's text. -/
def laid_loop_example_s01868_impl_sizes {H : Type} : DataW H := .agg [.lit (.int .i64 16), .lit (.int .i64 32), .lit (.int .i64 48), .lit (.int .i64 64), .lit (.int .i64 96), .lit (.int .i64 128), .lit (.int .i64 192), .lit (.int .i64 256), .lit (.int .i64 384), .lit (.int .i64 512), .lit (.int .i64 768), .lit (.int .i64 1024)]

/-- 'laws.FnExactSlotSize': WHATEVER THE INPUT: true; the input reads as it did. -/
def fnExactSlotSizeSpec : ChangeSpec := { name := "fnExactSlotSize", vars := ["loop.example/s01868/impl.sizes"], fn := fun _ => fun
  | [d, g1] => { results := [.lit (.bool true)], args := [d], vars := [g1] }
  | _ => none }
def fnExactSlotSizeRow : OpenClaim := { program := "ytkgkgogpogggiaadoor", sum := "21226e99cf461f6f6abacabb028991ae21747e15ff0a0cb419f8e8b56794c1aa", func := "loop.example/s01868/laws.FnExactSlotSize", spec := "fnExactSlotSize", named := ["loop.example/s01868/impl.sizes"], apart := false, laid := [("loop.example/s01868/impl.sizes", laid_loop_example_s01868_impl_sizes)] }
def FnExactSlotSizeSaid : Prop := fnExactSlotSizeRow.holds Tryd.pinned (OpenSpec.ofChange fnExactSlotSizeSpec)

/-- ITS FALSE NEIGHBOUR: 'it returns false'. Refute it at one input. -/
def fnExactSlotSizeWrong : ChangeSpec := { name := "fnExactSlotSize", vars := ["loop.example/s01868/impl.sizes"], fn := fun _ => fun
  | [d, g1] => { results := [.lit (.bool false)], args := [d], vars := [g1] }
  | _ => none }
def FnExactSlotSizeWrongFalsely : Prop := fnExactSlotSizeRow.holds Tryd.pinned (OpenSpec.ofChange fnExactSlotSizeWrong)

/-- 'laws.FnExactUsable': WHATEVER THE INPUT: true; the input reads as it did. -/
def fnExactUsableSpec : ChangeSpec := { name := "fnExactUsable", vars := ["loop.example/s01868/impl.sizes"], fn := fun _ => fun
  | [d, g1] => { results := [.lit (.bool true)], args := [d], vars := [g1] }
  | _ => none }
def fnExactUsableRow : OpenClaim := { program := "ytkgkgogpogggiaadoor", sum := "21226e99cf461f6f6abacabb028991ae21747e15ff0a0cb419f8e8b56794c1aa", func := "loop.example/s01868/laws.FnExactUsable", spec := "fnExactUsable", named := ["loop.example/s01868/impl.sizes"], apart := false, laid := [("loop.example/s01868/impl.sizes", laid_loop_example_s01868_impl_sizes)] }
def FnExactUsableSaid : Prop := fnExactUsableRow.holds Tryd.pinned (OpenSpec.ofChange fnExactUsableSpec)

/-- ITS FALSE NEIGHBOUR: 'it returns false'. Refute it at one input. -/
def fnExactUsableWrong : ChangeSpec := { name := "fnExactUsable", vars := ["loop.example/s01868/impl.sizes"], fn := fun _ => fun
  | [d, g1] => { results := [.lit (.bool false)], args := [d], vars := [g1] }
  | _ => none }
def FnExactUsableWrongFalsely : Prop := fnExactUsableRow.holds Tryd.pinned (OpenSpec.ofChange fnExactUsableWrong)

/-- 'laws.FnExactSlabPages': WHATEVER THE INPUT: true; the input reads as it did. -/
def fnExactSlabPagesSpec : ChangeSpec := { name := "fnExactSlabPages", vars := ["loop.example/s01868/impl.sizes"], fn := fun _ => fun
  | [d, g1] => { results := [.lit (.bool true)], args := [d], vars := [g1] }
  | _ => none }
def fnExactSlabPagesRow : OpenClaim := { program := "ytkgkgogpogggiaadoor", sum := "21226e99cf461f6f6abacabb028991ae21747e15ff0a0cb419f8e8b56794c1aa", func := "loop.example/s01868/laws.FnExactSlabPages", spec := "fnExactSlabPages", named := ["loop.example/s01868/impl.sizes"], apart := false, laid := [("loop.example/s01868/impl.sizes", laid_loop_example_s01868_impl_sizes)] }
def FnExactSlabPagesSaid : Prop := fnExactSlabPagesRow.holds Tryd.pinned (OpenSpec.ofChange fnExactSlabPagesSpec)

/-- ITS FALSE NEIGHBOUR: 'it returns false'. Refute it at one input. -/
def fnExactSlabPagesWrong : ChangeSpec := { name := "fnExactSlabPages", vars := ["loop.example/s01868/impl.sizes"], fn := fun _ => fun
  | [d, g1] => { results := [.lit (.bool false)], args := [d], vars := [g1] }
  | _ => none }
def FnExactSlabPagesWrongFalsely : Prop := fnExactSlabPagesRow.holds Tryd.pinned (OpenSpec.ofChange fnExactSlabPagesWrong)

/-- 'laws.FnExactClassOf': WHATEVER THE INPUT: true; the input reads as it did. -/
def fnExactClassOfSpec : ChangeSpec := { name := "fnExactClassOf", vars := ["loop.example/s01868/impl.sizes"], fn := fun _ => fun
  | [d, g1] => { results := [.lit (.bool true)], args := [d], vars := [g1] }
  | _ => none }
def fnExactClassOfRow : OpenClaim := { program := "ytkgkgogpogggiaadoor", sum := "21226e99cf461f6f6abacabb028991ae21747e15ff0a0cb419f8e8b56794c1aa", func := "loop.example/s01868/laws.FnExactClassOf", spec := "fnExactClassOf", named := ["loop.example/s01868/impl.sizes"], apart := false, laid := [("loop.example/s01868/impl.sizes", laid_loop_example_s01868_impl_sizes)] }
def FnExactClassOfSaid : Prop := fnExactClassOfRow.holds Tryd.pinned (OpenSpec.ofChange fnExactClassOfSpec)

/-- ITS FALSE NEIGHBOUR: 'it returns false'. Refute it at one input. -/
def fnExactClassOfWrong : ChangeSpec := { name := "fnExactClassOf", vars := ["loop.example/s01868/impl.sizes"], fn := fun _ => fun
  | [d, g1] => { results := [.lit (.bool false)], args := [d], vars := [g1] }
  | _ => none }
def FnExactClassOfWrongFalsely : Prop := fnExactClassOfRow.holds Tryd.pinned (OpenSpec.ofChange fnExactClassOfWrong)

/-- 'laws.FnExactRegionPages': WHATEVER THE INPUT: true; the input reads as it did. -/
def fnExactRegionPagesSpec : ChangeSpec := { name := "fnExactRegionPages", vars := ["loop.example/s01868/impl.sizes"], fn := fun _ => fun
  | [d, g1] => { results := [.lit (.bool true)], args := [d], vars := [g1] }
  | _ => none }
def fnExactRegionPagesRow : OpenClaim := { program := "ytkgkgogpogggiaadoor", sum := "21226e99cf461f6f6abacabb028991ae21747e15ff0a0cb419f8e8b56794c1aa", func := "loop.example/s01868/laws.FnExactRegionPages", spec := "fnExactRegionPages", named := ["loop.example/s01868/impl.sizes"], apart := false, laid := [("loop.example/s01868/impl.sizes", laid_loop_example_s01868_impl_sizes)] }
def FnExactRegionPagesSaid : Prop := fnExactRegionPagesRow.holds Tryd.pinned (OpenSpec.ofChange fnExactRegionPagesSpec)

/-- ITS FALSE NEIGHBOUR: 'it returns false'. Refute it at one input. -/
def fnExactRegionPagesWrong : ChangeSpec := { name := "fnExactRegionPages", vars := ["loop.example/s01868/impl.sizes"], fn := fun _ => fun
  | [d, g1] => { results := [.lit (.bool false)], args := [d], vars := [g1] }
  | _ => none }
def FnExactRegionPagesWrongFalsely : Prop := fnExactRegionPagesRow.holds Tryd.pinned (OpenSpec.ofChange fnExactRegionPagesWrong)

/-- 'laws.FnExactSlabSlots': WHATEVER THE INPUT: true; the input reads as it did. -/
def fnExactSlabSlotsSpec : ChangeSpec := { name := "fnExactSlabSlots", vars := ["loop.example/s01868/impl.sizes"], fn := fun _ => fun
  | [d, g1] => { results := [.lit (.bool true)], args := [d], vars := [g1] }
  | _ => none }
def fnExactSlabSlotsRow : OpenClaim := { program := "ytkgkgogpogggiaadoor", sum := "21226e99cf461f6f6abacabb028991ae21747e15ff0a0cb419f8e8b56794c1aa", func := "loop.example/s01868/laws.FnExactSlabSlots", spec := "fnExactSlabSlots", named := ["loop.example/s01868/impl.sizes"], apart := false, laid := [("loop.example/s01868/impl.sizes", laid_loop_example_s01868_impl_sizes)] }
def FnExactSlabSlotsSaid : Prop := fnExactSlabSlotsRow.holds Tryd.pinned (OpenSpec.ofChange fnExactSlabSlotsSpec)

/-- ITS FALSE NEIGHBOUR: 'it returns false'. Refute it at one input. -/
def fnExactSlabSlotsWrong : ChangeSpec := { name := "fnExactSlabSlots", vars := ["loop.example/s01868/impl.sizes"], fn := fun _ => fun
  | [d, g1] => { results := [.lit (.bool false)], args := [d], vars := [g1] }
  | _ => none }
def FnExactSlabSlotsWrongFalsely : Prop := fnExactSlabSlotsRow.holds Tryd.pinned (OpenSpec.ofChange fnExactSlabSlotsWrong)

/-- 'laws.FnExactRegionStart': WHATEVER THE INPUT: true; the input reads as it did. -/
def fnExactRegionStartSpec : ChangeSpec := { name := "fnExactRegionStart", vars := ["loop.example/s01868/impl.sizes"], fn := fun _ => fun
  | [d, g1] => { results := [.lit (.bool true)], args := [d], vars := [g1] }
  | _ => none }
def fnExactRegionStartRow : OpenClaim := { program := "ytkgkgogpogggiaadoor", sum := "21226e99cf461f6f6abacabb028991ae21747e15ff0a0cb419f8e8b56794c1aa", func := "loop.example/s01868/laws.FnExactRegionStart", spec := "fnExactRegionStart", named := ["loop.example/s01868/impl.sizes"], apart := false, laid := [("loop.example/s01868/impl.sizes", laid_loop_example_s01868_impl_sizes)] }
def FnExactRegionStartSaid : Prop := fnExactRegionStartRow.holds Tryd.pinned (OpenSpec.ofChange fnExactRegionStartSpec)

/-- ITS FALSE NEIGHBOUR: 'it returns false'. Refute it at one input. -/
def fnExactRegionStartWrong : ChangeSpec := { name := "fnExactRegionStart", vars := ["loop.example/s01868/impl.sizes"], fn := fun _ => fun
  | [d, g1] => { results := [.lit (.bool false)], args := [d], vars := [g1] }
  | _ => none }
def FnExactRegionStartWrongFalsely : Prop := fnExactRegionStartRow.holds Tryd.pinned (OpenSpec.ofChange fnExactRegionStartWrong)

/-- 'laws.FnExactLargeStart': WHATEVER THE INPUT: true; the input reads as it did. -/
def fnExactLargeStartSpec : ChangeSpec := { name := "fnExactLargeStart", vars := ["loop.example/s01868/impl.sizes"], fn := fun _ => fun
  | [g1] => { results := [.lit (.bool true)], args := [], vars := [g1] }
  | _ => none }
def fnExactLargeStartRow : OpenClaim := { program := "ytkgkgogpogggiaadoor", sum := "21226e99cf461f6f6abacabb028991ae21747e15ff0a0cb419f8e8b56794c1aa", func := "loop.example/s01868/laws.FnExactLargeStart", spec := "fnExactLargeStart", named := ["loop.example/s01868/impl.sizes"], apart := false, laid := [("loop.example/s01868/impl.sizes", laid_loop_example_s01868_impl_sizes)] }
def FnExactLargeStartSaid : Prop := fnExactLargeStartRow.holds Tryd.pinned (OpenSpec.ofChange fnExactLargeStartSpec)

/-- ITS FALSE NEIGHBOUR: 'it returns false'. Refute it at one input. -/
def fnExactLargeStartWrong : ChangeSpec := { name := "fnExactLargeStart", vars := ["loop.example/s01868/impl.sizes"], fn := fun _ => fun
  | [g1] => { results := [.lit (.bool false)], args := [], vars := [g1] }
  | _ => none }
def FnExactLargeStartWrongFalsely : Prop := fnExactLargeStartRow.holds Tryd.pinned (OpenSpec.ofChange fnExactLargeStartWrong)

/- THE SECOND FORM. 'bulk': how many values and letters a reading holds, each counted each time it is reached (what is shared counts as often as it is met; a slice's spare places count too). A statement '..UptoSaid' is the law's where the arguments, and the package variables that the reading takes, are together of bulk at most 1048576: NARROWER than '..Said'. Prove '..Said' where nothing that the law and all that it calls make is longer than what came in: it says more and counts as full. Else prove '..UptoSaid'. A law counts once. -/
mutual
def uptoBulk {H : Type} : DataW H → Nat
  | .lit (.string bytes) => bytes.length + 1
  | .lit _ => 1
  | .nil => 1
  | .ptr d => uptoBulk d + 1
  | .slice elems spare => uptoBulkAll elems + uptoBulkAll spare + 1
  | .agg parts => uptoBulkAll parts + 1
  | .iface _ d => uptoBulk d + 1
  | .map entries => uptoBulkEntries entries + 1
  | .held _ => 1
def uptoBulkAll {H : Type} : List (DataW H) → Nat
  | [] => 0
  | d :: r => uptoBulk d + uptoBulkAll r
def uptoBulkEntries {H : Type} : List (Lit × DataW H) → Nat
  | [] => 0
  | x :: r => uptoBulkEntry x + uptoBulkEntries r
def uptoBulkEntry {H : Type} : Lit × DataW H → Nat
  | (.string bytes, d) => bytes.length + uptoBulk d + 1
  | (_, d) => uptoBulk d + 1
 end
def uptoSmall : (H : Type) → List (DataW H) → Bool := fun _ ds => decide (uptoBulkAll ds ≤ 1048576)
def OpenSpec.upto (s : _root_.Go.ChangeSpec) : _root_.Go.OpenSpec := { _root_.Go.OpenSpec.ofChange s with cond := some uptoSmall }

/-- 'laws.FnExactSlotSize', WHERE WHAT IT READS IS OF BULK AT MOST 1048576: true; the input reads as it did. -/
def fnExactSlotSizeUptoRow : OpenClaim := { program := "ytkgkgogpogggiaadoor", sum := "21226e99cf461f6f6abacabb028991ae21747e15ff0a0cb419f8e8b56794c1aa", func := "loop.example/s01868/laws.FnExactSlotSize", spec := "fnExactSlotSize", named := ["loop.example/s01868/impl.sizes"], apart := false, laid := [("loop.example/s01868/impl.sizes", laid_loop_example_s01868_impl_sizes)], narrowed := true }
def FnExactSlotSizeUptoSaid : Prop := fnExactSlotSizeUptoRow.holds Tryd.pinned (OpenSpec.upto fnExactSlotSizeSpec)

/-- 'laws.FnExactUsable', WHERE WHAT IT READS IS OF BULK AT MOST 1048576: true; the input reads as it did. -/
def fnExactUsableUptoRow : OpenClaim := { program := "ytkgkgogpogggiaadoor", sum := "21226e99cf461f6f6abacabb028991ae21747e15ff0a0cb419f8e8b56794c1aa", func := "loop.example/s01868/laws.FnExactUsable", spec := "fnExactUsable", named := ["loop.example/s01868/impl.sizes"], apart := false, laid := [("loop.example/s01868/impl.sizes", laid_loop_example_s01868_impl_sizes)], narrowed := true }
def FnExactUsableUptoSaid : Prop := fnExactUsableUptoRow.holds Tryd.pinned (OpenSpec.upto fnExactUsableSpec)

/-- 'laws.FnExactSlabPages', WHERE WHAT IT READS IS OF BULK AT MOST 1048576: true; the input reads as it did. -/
def fnExactSlabPagesUptoRow : OpenClaim := { program := "ytkgkgogpogggiaadoor", sum := "21226e99cf461f6f6abacabb028991ae21747e15ff0a0cb419f8e8b56794c1aa", func := "loop.example/s01868/laws.FnExactSlabPages", spec := "fnExactSlabPages", named := ["loop.example/s01868/impl.sizes"], apart := false, laid := [("loop.example/s01868/impl.sizes", laid_loop_example_s01868_impl_sizes)], narrowed := true }
def FnExactSlabPagesUptoSaid : Prop := fnExactSlabPagesUptoRow.holds Tryd.pinned (OpenSpec.upto fnExactSlabPagesSpec)

/-- 'laws.FnExactClassOf', WHERE WHAT IT READS IS OF BULK AT MOST 1048576: true; the input reads as it did. -/
def fnExactClassOfUptoRow : OpenClaim := { program := "ytkgkgogpogggiaadoor", sum := "21226e99cf461f6f6abacabb028991ae21747e15ff0a0cb419f8e8b56794c1aa", func := "loop.example/s01868/laws.FnExactClassOf", spec := "fnExactClassOf", named := ["loop.example/s01868/impl.sizes"], apart := false, laid := [("loop.example/s01868/impl.sizes", laid_loop_example_s01868_impl_sizes)], narrowed := true }
def FnExactClassOfUptoSaid : Prop := fnExactClassOfUptoRow.holds Tryd.pinned (OpenSpec.upto fnExactClassOfSpec)

/-- 'laws.FnExactRegionPages', WHERE WHAT IT READS IS OF BULK AT MOST 1048576: true; the input reads as it did. -/
def fnExactRegionPagesUptoRow : OpenClaim := { program := "ytkgkgogpogggiaadoor", sum := "21226e99cf461f6f6abacabb028991ae21747e15ff0a0cb419f8e8b56794c1aa", func := "loop.example/s01868/laws.FnExactRegionPages", spec := "fnExactRegionPages", named := ["loop.example/s01868/impl.sizes"], apart := false, laid := [("loop.example/s01868/impl.sizes", laid_loop_example_s01868_impl_sizes)], narrowed := true }
def FnExactRegionPagesUptoSaid : Prop := fnExactRegionPagesUptoRow.holds Tryd.pinned (OpenSpec.upto fnExactRegionPagesSpec)

/-- 'laws.FnExactSlabSlots', WHERE WHAT IT READS IS OF BULK AT MOST 1048576: true; the input reads as it did. -/
def fnExactSlabSlotsUptoRow : OpenClaim := { program := "ytkgkgogpogggiaadoor", sum := "21226e99cf461f6f6abacabb028991ae21747e15ff0a0cb419f8e8b56794c1aa", func := "loop.example/s01868/laws.FnExactSlabSlots", spec := "fnExactSlabSlots", named := ["loop.example/s01868/impl.sizes"], apart := false, laid := [("loop.example/s01868/impl.sizes", laid_loop_example_s01868_impl_sizes)], narrowed := true }
def FnExactSlabSlotsUptoSaid : Prop := fnExactSlabSlotsUptoRow.holds Tryd.pinned (OpenSpec.upto fnExactSlabSlotsSpec)

/-- 'laws.FnExactRegionStart', WHERE WHAT IT READS IS OF BULK AT MOST 1048576: true; the input reads as it did. -/
def fnExactRegionStartUptoRow : OpenClaim := { program := "ytkgkgogpogggiaadoor", sum := "21226e99cf461f6f6abacabb028991ae21747e15ff0a0cb419f8e8b56794c1aa", func := "loop.example/s01868/laws.FnExactRegionStart", spec := "fnExactRegionStart", named := ["loop.example/s01868/impl.sizes"], apart := false, laid := [("loop.example/s01868/impl.sizes", laid_loop_example_s01868_impl_sizes)], narrowed := true }
def FnExactRegionStartUptoSaid : Prop := fnExactRegionStartUptoRow.holds Tryd.pinned (OpenSpec.upto fnExactRegionStartSpec)

/-- 'laws.FnExactLargeStart', WHERE WHAT IT READS IS OF BULK AT MOST 1048576: true; the input reads as it did. -/
def fnExactLargeStartUptoRow : OpenClaim := { program := "ytkgkgogpogggiaadoor", sum := "21226e99cf461f6f6abacabb028991ae21747e15ff0a0cb419f8e8b56794c1aa", func := "loop.example/s01868/laws.FnExactLargeStart", spec := "fnExactLargeStart", named := ["loop.example/s01868/impl.sizes"], apart := false, laid := [("loop.example/s01868/impl.sizes", laid_loop_example_s01868_impl_sizes)], narrowed := true }
def FnExactLargeStartUptoSaid : Prop := fnExactLargeStartUptoRow.holds Tryd.pinned (OpenSpec.upto fnExactLargeStartSpec)

end Rows
end Go.Proofs.YtkgkgogpogggiaaDoor
