/-
  No cell of these rows narrows 'for every input' (looked for: loops, veiled, ifaces, maps, wideKeys, modest, calm, conditions, laid).
  DERIVED. THE GIVEN ROWS OF THIS SEAT. 4 by the template 'for every input the law returns true; each argument reads behind the call as it read before'; 0 by the template 'total and deterministic' (their statements: YtkgkgogpogggiaaTotals.lean).
  GIVEN WITH THE SEED: the statements are not yours to turn. If you find one false, say at which input.
  Laid BY PROGRAM, IN A SANDBOX (cutbox-rows.mjs): the forced cells as the released guide's own fill.sh prints them over the translation 9c65e936ec91b5e8… (all of the seat's roots in one cut). By AI agents, Wed Nov 11 2026. No macro, syntax, notation, axiom, sorry.
-/
import Derived.Test.YtkgkgogpogggiaaChecked
import GoSem.Claim
import GoSem.ClaimJoined
import GoSem.ClaimMapViews
import Derived.JoinedTies
import Derived.KernelRfl
namespace Go.Proofs.Ytkgkgogpogggiaa
/- THE CELL 'sum', in the pinned program and in every row, IS THE sha256 OF THE DUMP (.gsa) THAT YtkgkgogpogggiaaProg.lean LOADS. Nothing in Lean hashes anything: it is a label: what it is worth is what the hold of that sum in a sandbox is worth. -/
noncomputable def Try.pinned : Pinned := { name := "ytkgkgogpogggiaa", sum := "9c65e936ec91b5e877b3494f86298e90f8972c2739d6187fe1a696fc223fa38e", checked := Try.checked }
namespace Rows
def none {H : Type} : Left H := { results := [], args := [] }

/-- 'laws.FnExactConstants': WHATEVER THE INPUT: true; the input reads as it did. -/
def fnExactConstantsSpec : ChangeSpec := { name := "fnExactConstants", fn := fun _ => fun
  | [] => { results := [.lit (.bool true)], args := [] }
  | _ => none }
def fnExactConstantsRow : OpenClaim := { program := "ytkgkgogpogggiaa", sum := "9c65e936ec91b5e877b3494f86298e90f8972c2739d6187fe1a696fc223fa38e", func := "loop.example/s01868/laws.FnExactConstants", spec := "fnExactConstants", apart := false }
def FnExactConstantsSaid : Prop := fnExactConstantsRow.holds Try.pinned (OpenSpec.ofChange fnExactConstantsSpec)

/-- ITS FALSE NEIGHBOUR: 'it returns false'. Refute it at one input. -/
def fnExactConstantsWrong : ChangeSpec := { name := "fnExactConstants", fn := fun _ => fun
  | [] => { results := [.lit (.bool false)], args := [] }
  | _ => none }
def FnExactConstantsWrongFalsely : Prop := fnExactConstantsRow.holds Try.pinned (OpenSpec.ofChange fnExactConstantsWrong)

/-- 'laws.FnExactPagesOf': WHATEVER THE INPUT: true; the input reads as it did. -/
def fnExactPagesOfSpec : ChangeSpec := { name := "fnExactPagesOf", fn := fun _ => fun
  | [d1, d2] => { results := [.lit (.bool true)], args := [d1, d2] }
  | _ => none }
def fnExactPagesOfRow : OpenClaim := { program := "ytkgkgogpogggiaa", sum := "9c65e936ec91b5e877b3494f86298e90f8972c2739d6187fe1a696fc223fa38e", func := "loop.example/s01868/laws.FnExactPagesOf", spec := "fnExactPagesOf", apart := false }
def FnExactPagesOfSaid : Prop := fnExactPagesOfRow.holds Try.pinned (OpenSpec.ofChange fnExactPagesOfSpec)

/-- ITS FALSE NEIGHBOUR: 'it returns false'. Refute it at one input. -/
def fnExactPagesOfWrong : ChangeSpec := { name := "fnExactPagesOf", fn := fun _ => fun
  | [d1, d2] => { results := [.lit (.bool false)], args := [d1, d2] }
  | _ => none }
def FnExactPagesOfWrongFalsely : Prop := fnExactPagesOfRow.holds Try.pinned (OpenSpec.ofChange fnExactPagesOfWrong)

/-- 'laws.FnExactProduct': WHATEVER THE INPUT: true; the input reads as it did. -/
def fnExactProductSpec : ChangeSpec := { name := "fnExactProduct", fn := fun _ => fun
  | [d1, d2] => { results := [.lit (.bool true)], args := [d1, d2] }
  | _ => none }
def fnExactProductRow : OpenClaim := { program := "ytkgkgogpogggiaa", sum := "9c65e936ec91b5e877b3494f86298e90f8972c2739d6187fe1a696fc223fa38e", func := "loop.example/s01868/laws.FnExactProduct", spec := "fnExactProduct", apart := false }
def FnExactProductSaid : Prop := fnExactProductRow.holds Try.pinned (OpenSpec.ofChange fnExactProductSpec)

/-- ITS FALSE NEIGHBOUR: 'it returns false'. Refute it at one input. -/
def fnExactProductWrong : ChangeSpec := { name := "fnExactProduct", fn := fun _ => fun
  | [d1, d2] => { results := [.lit (.bool false)], args := [d1, d2] }
  | _ => none }
def FnExactProductWrongFalsely : Prop := fnExactProductRow.holds Try.pinned (OpenSpec.ofChange fnExactProductWrong)

/-- 'laws.FnExactCanaryOf': WHATEVER THE INPUT: true; the input reads as it did. -/
def fnExactCanaryOfSpec : ChangeSpec := { name := "fnExactCanaryOf", fn := fun _ => fun
  | [d1, d2] => { results := [.lit (.bool true)], args := [d1, d2] }
  | _ => none }
def fnExactCanaryOfRow : OpenClaim := { program := "ytkgkgogpogggiaa", sum := "9c65e936ec91b5e877b3494f86298e90f8972c2739d6187fe1a696fc223fa38e", func := "loop.example/s01868/laws.FnExactCanaryOf", spec := "fnExactCanaryOf", apart := false }
def FnExactCanaryOfSaid : Prop := fnExactCanaryOfRow.holds Try.pinned (OpenSpec.ofChange fnExactCanaryOfSpec)

/-- ITS FALSE NEIGHBOUR: 'it returns false'. Refute it at one input. -/
def fnExactCanaryOfWrong : ChangeSpec := { name := "fnExactCanaryOf", fn := fun _ => fun
  | [d1, d2] => { results := [.lit (.bool false)], args := [d1, d2] }
  | _ => none }
def FnExactCanaryOfWrongFalsely : Prop := fnExactCanaryOfRow.holds Try.pinned (OpenSpec.ofChange fnExactCanaryOfWrong)

/- THE SECOND FORM. 'bulk': how many values and letters a reading holds, each counted each time it is reached (what is shared counts as often as it is met; a slice's spare places count too). A statement '..UptoSaid' is the law's where the arguments, and the package variables that the reading takes, are together of bulk at most 1048576: NARROWER than '..Said'. Prove '..Said' where nothing that the law and all that it calls make is longer than what came in: it says more and counts as full. Else prove '..UptoSaid'. A law counts once. -/
mutual
def uptoBulk {H : Type} : DataW H → Nat
  | .lit (.string bytes) => bytes.length + 1
  | .lit _ => 1
  | .nil => 1
  | .ptr d => uptoBulk d + 1
  | .slice elems spare => uptoBulkAll elems + uptoBulkAll spare + 1
  | .agg parts => uptoBulkAll parts + 1
  | .iface _ d => uptoBulk d + 1
  | .map entries => uptoBulkEntries entries + 1
  | .held _ => 1
def uptoBulkAll {H : Type} : List (DataW H) → Nat
  | [] => 0
  | d :: r => uptoBulk d + uptoBulkAll r
def uptoBulkEntries {H : Type} : List (Lit × DataW H) → Nat
  | [] => 0
  | x :: r => uptoBulkEntry x + uptoBulkEntries r
def uptoBulkEntry {H : Type} : Lit × DataW H → Nat
  | (.string bytes, d) => bytes.length + uptoBulk d + 1
  | (_, d) => uptoBulk d + 1
 end
def uptoSmall : (H : Type) → List (DataW H) → Bool := fun _ ds => decide (uptoBulkAll ds ≤ 1048576)
def OpenSpec.upto (s : _root_.Go.ChangeSpec) : _root_.Go.OpenSpec := { _root_.Go.OpenSpec.ofChange s with cond := some uptoSmall }

/-- 'laws.FnExactConstants', WHERE WHAT IT READS IS OF BULK AT MOST 1048576: true; the input reads as it did. -/
def fnExactConstantsUptoRow : OpenClaim := { program := "ytkgkgogpogggiaa", sum := "9c65e936ec91b5e877b3494f86298e90f8972c2739d6187fe1a696fc223fa38e", func := "loop.example/s01868/laws.FnExactConstants", spec := "fnExactConstants", apart := false, narrowed := true }
def FnExactConstantsUptoSaid : Prop := fnExactConstantsUptoRow.holds Try.pinned (OpenSpec.upto fnExactConstantsSpec)

/-- 'laws.FnExactPagesOf', WHERE WHAT IT READS IS OF BULK AT MOST 1048576: true; the input reads as it did. -/
def fnExactPagesOfUptoRow : OpenClaim := { program := "ytkgkgogpogggiaa", sum := "9c65e936ec91b5e877b3494f86298e90f8972c2739d6187fe1a696fc223fa38e", func := "loop.example/s01868/laws.FnExactPagesOf", spec := "fnExactPagesOf", apart := false, narrowed := true }
def FnExactPagesOfUptoSaid : Prop := fnExactPagesOfUptoRow.holds Try.pinned (OpenSpec.upto fnExactPagesOfSpec)

/-- 'laws.FnExactProduct', WHERE WHAT IT READS IS OF BULK AT MOST 1048576: true; the input reads as it did. -/
def fnExactProductUptoRow : OpenClaim := { program := "ytkgkgogpogggiaa", sum := "9c65e936ec91b5e877b3494f86298e90f8972c2739d6187fe1a696fc223fa38e", func := "loop.example/s01868/laws.FnExactProduct", spec := "fnExactProduct", apart := false, narrowed := true }
def FnExactProductUptoSaid : Prop := fnExactProductUptoRow.holds Try.pinned (OpenSpec.upto fnExactProductSpec)

/-- 'laws.FnExactCanaryOf', WHERE WHAT IT READS IS OF BULK AT MOST 1048576: true; the input reads as it did. -/
def fnExactCanaryOfUptoRow : OpenClaim := { program := "ytkgkgogpogggiaa", sum := "9c65e936ec91b5e877b3494f86298e90f8972c2739d6187fe1a696fc223fa38e", func := "loop.example/s01868/laws.FnExactCanaryOf", spec := "fnExactCanaryOf", apart := false, narrowed := true }
def FnExactCanaryOfUptoSaid : Prop := fnExactCanaryOfUptoRow.holds Try.pinned (OpenSpec.upto fnExactCanaryOfSpec)

end Rows
end Go.Proofs.Ytkgkgogpogggiaa
