/-
  NARROWER THAN 'FOR EVERY INPUT', by the rows' own cells (each row's printed sentence says how): FnExactArenaPages: laid · FnExactSlotAddr: laid · FnClasses: laid · FnExactDecode: laid · FnPlaces: laid.
  DERIVED. THE GIVEN ROWS OF THIS SEAT. 5 by the template 'for every input the law returns true; each argument reads behind the call as it read before'; 0 by the template 'total and deterministic' (their statements: YtklobepkihdbkaaDoorTotals.lean).
  GIVEN WITH THE SEED: the statements are not yours to turn. If you find one false, say at which input.
  Laid BY PROGRAM, IN A SANDBOX (cutbox-rows.mjs): the forced cells as the released guide's own fill.sh prints them over the translation 91d8e919f04341e4… (all of the seat's roots in one cut). By AI agents, Wed Nov 11 2026. No macro, syntax, notation, axiom, sorry.
-/
import Derived.Test.YtklobepkihdbkaaDoorChecked
import GoSem.Claim
import GoSem.ClaimJoined
import GoSem.ClaimMapViews
import Derived.JoinedTies
import Derived.KernelRfl
namespace Go.Proofs.YtklobepkihdbkaaDoor
/- THE CELL 'sum', in the pinned program and in every row, IS THE sha256 OF THE DUMP (.gsa) THAT YtklobepkihdbkaaDoorProg.lean LOADS. Nothing in Lean hashes anything: it is a label: what it is worth is what the hold of that sum in a sandbox is worth. -/
noncomputable def Tryd.pinned : Pinned := { name := "ytklobepkihdbkaadoor", sum := "91d8e919f04341e4c4a9ba531262337081bb156fbf3d03a428ab11a4c7ef668b", checked := Tryd.checked }
namespace Rows
def none {H : Type} : Left H := { results := [], args := [] }

/- WHAT THE LISTED PACKAGE-LEVEL VARIABLES READ AS WHEN THE CALL BEGINS. Each datum BY PROGRAM (the guide's laid-datum.mjs) off the statement by which the dump's own 'gosem.cut.vars' lays the variable. In a bare row this is a premise. The card (YtklobepkihdbkaaDoorCards.lean) ties it to the program's text. -/
def laid_loop_example_s01868_impl_sizes {H : Type} : DataW H := .agg [.lit (.int .i64 16), .lit (.int .i64 32), .lit (.int .i64 48), .lit (.int .i64 64), .lit (.int .i64 96), .lit (.int .i64 128), .lit (.int .i64 192), .lit (.int .i64 256), .lit (.int .i64 384), .lit (.int .i64 512), .lit (.int .i64 768), .lit (.int .i64 1024)]

/-- 'laws.FnExactArenaPages': WHATEVER THE INPUT: true; the input reads as it did. -/
def fnExactArenaPagesSpec : ChangeSpec := { name := "fnExactArenaPages", vars := ["loop.example/s01868/impl.sizes"], fn := fun _ => fun
  | [g1] => { results := [.lit (.bool true)], args := [], vars := [g1] }
  | _ => none }
def fnExactArenaPagesRow : OpenClaim := { program := "ytklobepkihdbkaadoor", sum := "91d8e919f04341e4c4a9ba531262337081bb156fbf3d03a428ab11a4c7ef668b", func := "loop.example/s01868/laws.FnExactArenaPages", spec := "fnExactArenaPages", named := ["loop.example/s01868/impl.sizes"], apart := false, laid := [("loop.example/s01868/impl.sizes", laid_loop_example_s01868_impl_sizes)] }
def FnExactArenaPagesSaid : Prop := fnExactArenaPagesRow.holds Tryd.pinned (OpenSpec.ofChange fnExactArenaPagesSpec)

/-- ITS FALSE NEIGHBOUR: 'it returns false'. Refute it at one input. -/
def fnExactArenaPagesWrong : ChangeSpec := { name := "fnExactArenaPages", vars := ["loop.example/s01868/impl.sizes"], fn := fun _ => fun
  | [g1] => { results := [.lit (.bool false)], args := [], vars := [g1] }
  | _ => none }
def FnExactArenaPagesWrongFalsely : Prop := fnExactArenaPagesRow.holds Tryd.pinned (OpenSpec.ofChange fnExactArenaPagesWrong)

/-- 'laws.FnExactSlotAddr': WHATEVER THE INPUT: true; the input reads as it did. -/
def fnExactSlotAddrSpec : ChangeSpec := { name := "fnExactSlotAddr", vars := ["loop.example/s01868/impl.sizes"], fn := fun _ => fun
  | [d1, d2, d3, g1] => { results := [.lit (.bool true)], args := [d1, d2, d3], vars := [g1] }
  | _ => none }
def fnExactSlotAddrRow : OpenClaim := { program := "ytklobepkihdbkaadoor", sum := "91d8e919f04341e4c4a9ba531262337081bb156fbf3d03a428ab11a4c7ef668b", func := "loop.example/s01868/laws.FnExactSlotAddr", spec := "fnExactSlotAddr", named := ["loop.example/s01868/impl.sizes"], apart := false, laid := [("loop.example/s01868/impl.sizes", laid_loop_example_s01868_impl_sizes)] }
def FnExactSlotAddrSaid : Prop := fnExactSlotAddrRow.holds Tryd.pinned (OpenSpec.ofChange fnExactSlotAddrSpec)

/-- ITS FALSE NEIGHBOUR: 'it returns false'. Refute it at one input. -/
def fnExactSlotAddrWrong : ChangeSpec := { name := "fnExactSlotAddr", vars := ["loop.example/s01868/impl.sizes"], fn := fun _ => fun
  | [d1, d2, d3, g1] => { results := [.lit (.bool false)], args := [d1, d2, d3], vars := [g1] }
  | _ => none }
def FnExactSlotAddrWrongFalsely : Prop := fnExactSlotAddrRow.holds Tryd.pinned (OpenSpec.ofChange fnExactSlotAddrWrong)

/-- 'laws.FnClasses': WHATEVER THE INPUT: true; the input reads as it did. -/
def fnClassesSpec : ChangeSpec := { name := "fnClasses", vars := ["loop.example/s01868/impl.sizes"], fn := fun _ => fun
  | [d, g1] => { results := [.lit (.bool true)], args := [d], vars := [g1] }
  | _ => none }
def fnClassesRow : OpenClaim := { program := "ytklobepkihdbkaadoor", sum := "91d8e919f04341e4c4a9ba531262337081bb156fbf3d03a428ab11a4c7ef668b", func := "loop.example/s01868/laws.FnClasses", spec := "fnClasses", named := ["loop.example/s01868/impl.sizes"], apart := false, laid := [("loop.example/s01868/impl.sizes", laid_loop_example_s01868_impl_sizes)] }
def FnClassesSaid : Prop := fnClassesRow.holds Tryd.pinned (OpenSpec.ofChange fnClassesSpec)

/-- ITS FALSE NEIGHBOUR: 'it returns false'. Refute it at one input. -/
def fnClassesWrong : ChangeSpec := { name := "fnClasses", vars := ["loop.example/s01868/impl.sizes"], fn := fun _ => fun
  | [d, g1] => { results := [.lit (.bool false)], args := [d], vars := [g1] }
  | _ => none }
def FnClassesWrongFalsely : Prop := fnClassesRow.holds Tryd.pinned (OpenSpec.ofChange fnClassesWrong)

/-- 'laws.FnExactDecode': WHATEVER THE INPUT: true; the input reads as it did. -/
def fnExactDecodeSpec : ChangeSpec := { name := "fnExactDecode", vars := ["loop.example/s01868/impl.sizes"], fn := fun _ => fun
  | [d, g1] => { results := [.lit (.bool true)], args := [d], vars := [g1] }
  | _ => none }
def fnExactDecodeRow : OpenClaim := { program := "ytklobepkihdbkaadoor", sum := "91d8e919f04341e4c4a9ba531262337081bb156fbf3d03a428ab11a4c7ef668b", func := "loop.example/s01868/laws.FnExactDecode", spec := "fnExactDecode", named := ["loop.example/s01868/impl.sizes"], apart := false, laid := [("loop.example/s01868/impl.sizes", laid_loop_example_s01868_impl_sizes)] }
def FnExactDecodeSaid : Prop := fnExactDecodeRow.holds Tryd.pinned (OpenSpec.ofChange fnExactDecodeSpec)

/-- ITS FALSE NEIGHBOUR: 'it returns false'. Refute it at one input. -/
def fnExactDecodeWrong : ChangeSpec := { name := "fnExactDecode", vars := ["loop.example/s01868/impl.sizes"], fn := fun _ => fun
  | [d, g1] => { results := [.lit (.bool false)], args := [d], vars := [g1] }
  | _ => none }
def FnExactDecodeWrongFalsely : Prop := fnExactDecodeRow.holds Tryd.pinned (OpenSpec.ofChange fnExactDecodeWrong)

/-- 'laws.FnPlaces': WHATEVER THE INPUT: true; the input reads as it did. -/
def fnPlacesSpec : ChangeSpec := { name := "fnPlaces", vars := ["loop.example/s01868/impl.sizes"], fn := fun _ => fun
  | [d, g1] => { results := [.lit (.bool true)], args := [d], vars := [g1] }
  | _ => none }
def fnPlacesRow : OpenClaim := { program := "ytklobepkihdbkaadoor", sum := "91d8e919f04341e4c4a9ba531262337081bb156fbf3d03a428ab11a4c7ef668b", func := "loop.example/s01868/laws.FnPlaces", spec := "fnPlaces", named := ["loop.example/s01868/impl.sizes"], apart := false, laid := [("loop.example/s01868/impl.sizes", laid_loop_example_s01868_impl_sizes)] }
def FnPlacesSaid : Prop := fnPlacesRow.holds Tryd.pinned (OpenSpec.ofChange fnPlacesSpec)

/-- ITS FALSE NEIGHBOUR: 'it returns false'. Refute it at one input. -/
def fnPlacesWrong : ChangeSpec := { name := "fnPlaces", vars := ["loop.example/s01868/impl.sizes"], fn := fun _ => fun
  | [d, g1] => { results := [.lit (.bool false)], args := [d], vars := [g1] }
  | _ => none }
def FnPlacesWrongFalsely : Prop := fnPlacesRow.holds Tryd.pinned (OpenSpec.ofChange fnPlacesWrong)

/- THE SECOND FORM. 'bulk': how many values and letters a reading holds, each counted each time it is reached (what is shared counts as often as it is met; a slice's spare places count too). A statement '..UptoSaid' is the law's where the arguments, and the package variables that the reading takes, are together of bulk at most 1048576: NARROWER than '..Said'. Prove '..Said' where nothing that the law and all that it calls make is longer than what came in: it says more and counts as full. Else prove '..UptoSaid'. A law counts once. -/
mutual
def uptoBulk {H : Type} : DataW H → Nat
  | .lit (.string bytes) => bytes.length + 1
  | .lit _ => 1
  | .nil => 1
  | .ptr d => uptoBulk d + 1
  | .slice elems spare => uptoBulkAll elems + uptoBulkAll spare + 1
  | .agg parts => uptoBulkAll parts + 1
  | .iface _ d => uptoBulk d + 1
  | .map entries => uptoBulkEntries entries + 1
  | .held _ => 1
def uptoBulkAll {H : Type} : List (DataW H) → Nat
  | [] => 0
  | d :: r => uptoBulk d + uptoBulkAll r
def uptoBulkEntries {H : Type} : List (Lit × DataW H) → Nat
  | [] => 0
  | x :: r => uptoBulkEntry x + uptoBulkEntries r
def uptoBulkEntry {H : Type} : Lit × DataW H → Nat
  | (.string bytes, d) => bytes.length + uptoBulk d + 1
  | (_, d) => uptoBulk d + 1
 end
def uptoSmall : (H : Type) → List (DataW H) → Bool := fun _ ds => decide (uptoBulkAll ds ≤ 1048576)
def OpenSpec.upto (s : _root_.Go.ChangeSpec) : _root_.Go.OpenSpec := { _root_.Go.OpenSpec.ofChange s with cond := some uptoSmall }

/-- 'laws.FnExactArenaPages', WHERE WHAT IT READS IS OF BULK AT MOST 1048576: true; the input reads as it did. -/
def fnExactArenaPagesUptoRow : OpenClaim := { program := "ytklobepkihdbkaadoor", sum := "91d8e919f04341e4c4a9ba531262337081bb156fbf3d03a428ab11a4c7ef668b", func := "loop.example/s01868/laws.FnExactArenaPages", spec := "fnExactArenaPages", named := ["loop.example/s01868/impl.sizes"], apart := false, laid := [("loop.example/s01868/impl.sizes", laid_loop_example_s01868_impl_sizes)], narrowed := true }
def FnExactArenaPagesUptoSaid : Prop := fnExactArenaPagesUptoRow.holds Tryd.pinned (OpenSpec.upto fnExactArenaPagesSpec)

/-- 'laws.FnExactSlotAddr', WHERE WHAT IT READS IS OF BULK AT MOST 1048576: true; the input reads as it did. -/
def fnExactSlotAddrUptoRow : OpenClaim := { program := "ytklobepkihdbkaadoor", sum := "91d8e919f04341e4c4a9ba531262337081bb156fbf3d03a428ab11a4c7ef668b", func := "loop.example/s01868/laws.FnExactSlotAddr", spec := "fnExactSlotAddr", named := ["loop.example/s01868/impl.sizes"], apart := false, laid := [("loop.example/s01868/impl.sizes", laid_loop_example_s01868_impl_sizes)], narrowed := true }
def FnExactSlotAddrUptoSaid : Prop := fnExactSlotAddrUptoRow.holds Tryd.pinned (OpenSpec.upto fnExactSlotAddrSpec)

/-- 'laws.FnClasses', WHERE WHAT IT READS IS OF BULK AT MOST 1048576: true; the input reads as it did. -/
def fnClassesUptoRow : OpenClaim := { program := "ytklobepkihdbkaadoor", sum := "91d8e919f04341e4c4a9ba531262337081bb156fbf3d03a428ab11a4c7ef668b", func := "loop.example/s01868/laws.FnClasses", spec := "fnClasses", named := ["loop.example/s01868/impl.sizes"], apart := false, laid := [("loop.example/s01868/impl.sizes", laid_loop_example_s01868_impl_sizes)], narrowed := true }
def FnClassesUptoSaid : Prop := fnClassesUptoRow.holds Tryd.pinned (OpenSpec.upto fnClassesSpec)

/-- 'laws.FnExactDecode', WHERE WHAT IT READS IS OF BULK AT MOST 1048576: true; the input reads as it did. -/
def fnExactDecodeUptoRow : OpenClaim := { program := "ytklobepkihdbkaadoor", sum := "91d8e919f04341e4c4a9ba531262337081bb156fbf3d03a428ab11a4c7ef668b", func := "loop.example/s01868/laws.FnExactDecode", spec := "fnExactDecode", named := ["loop.example/s01868/impl.sizes"], apart := false, laid := [("loop.example/s01868/impl.sizes", laid_loop_example_s01868_impl_sizes)], narrowed := true }
def FnExactDecodeUptoSaid : Prop := fnExactDecodeUptoRow.holds Tryd.pinned (OpenSpec.upto fnExactDecodeSpec)

/-- 'laws.FnPlaces', WHERE WHAT IT READS IS OF BULK AT MOST 1048576: true; the input reads as it did. -/
def fnPlacesUptoRow : OpenClaim := { program := "ytklobepkihdbkaadoor", sum := "91d8e919f04341e4c4a9ba531262337081bb156fbf3d03a428ab11a4c7ef668b", func := "loop.example/s01868/laws.FnPlaces", spec := "fnPlaces", named := ["loop.example/s01868/impl.sizes"], apart := false, laid := [("loop.example/s01868/impl.sizes", laid_loop_example_s01868_impl_sizes)], narrowed := true }
def FnPlacesUptoSaid : Prop := fnPlacesUptoRow.holds Tryd.pinned (OpenSpec.upto fnPlacesSpec)

end Rows
end Go.Proofs.YtklobepkihdbkaaDoor
