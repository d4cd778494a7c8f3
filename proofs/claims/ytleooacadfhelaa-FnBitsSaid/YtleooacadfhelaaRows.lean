/-
  No cell of these rows narrows 'for every input' (looked for: loops, veiled, ifaces, maps, wideKeys, modest, calm, conditions, laid).
  DERIVED. THE GIVEN ROWS OF THIS SEAT. 6 by the template 'for every input the law returns true; each argument reads behind the call as it read before'; 0 by the template 'total and deterministic' (their statements: YtleooacadfhelaaTotals.lean).
  GIVEN WITH THE SEED: the statements are not yours to turn. If you find one false, say at which input.
  Laid BY PROGRAM, IN A SANDBOX (cutbox-rows.mjs): the forced cells as the released guide's own fill.sh prints them over the translation 86948244b61b53d2… (all of the seat's roots in one cut). By AI agents, Wed Nov 11 2026. No macro, syntax, notation, axiom, sorry.
-/
import Derived.Test.YtleooacadfhelaaChecked
import GoSem.Claim
import GoSem.ClaimJoined
import GoSem.ClaimMapViews
import Derived.JoinedTies
import Derived.KernelRfl
namespace Go.Proofs.Ytleooacadfhelaa
/- THE CELL 'sum', in the pinned program and in every row, IS THE sha256 OF THE DUMP (.gsa) THAT YtleooacadfhelaaProg.lean LOADS. Nothing in Lean hashes anything: it is a label: what it is worth is what the hold of that sum in a sandbox is worth. -/
noncomputable def Try.pinned : Pinned := { name := "ytleooacadfhelaa", sum := "86948244b61b53d2cd2dbe4680af204123c6e588c6639d20367df94c3ac405c6", checked := Try.checked }
namespace Rows
def none {H : Type} : Left H := { results := [], args := [] }

/-- 'laws.FnExactBitsHas': WHATEVER THE INPUT: true; the input reads as it did. -/
def fnExactBitsHasSpec : ChangeSpec := { name := "fnExactBitsHas", fn := fun _ => fun
  | [d1, d2, d3] => { results := [.lit (.bool true)], args := [d1, d2, d3] }
  | _ => none }
def fnExactBitsHasRow : OpenClaim := { program := "ytleooacadfhelaa", sum := "86948244b61b53d2cd2dbe4680af204123c6e588c6639d20367df94c3ac405c6", func := "loop.example/s01868/laws.FnExactBitsHas", spec := "fnExactBitsHas", apart := false }
def FnExactBitsHasSaid : Prop := fnExactBitsHasRow.holds Try.pinned (OpenSpec.ofChange fnExactBitsHasSpec)

/-- ITS FALSE NEIGHBOUR: 'it returns false'. Refute it at one input. -/
def fnExactBitsHasWrong : ChangeSpec := { name := "fnExactBitsHas", fn := fun _ => fun
  | [d1, d2, d3] => { results := [.lit (.bool false)], args := [d1, d2, d3] }
  | _ => none }
def FnExactBitsHasWrongFalsely : Prop := fnExactBitsHasRow.holds Try.pinned (OpenSpec.ofChange fnExactBitsHasWrong)

/-- 'laws.FnExactBitsCount': WHATEVER THE INPUT: true; the input reads as it did. -/
def fnExactBitsCountSpec : ChangeSpec := { name := "fnExactBitsCount", fn := fun _ => fun
  | [d1, d2] => { results := [.lit (.bool true)], args := [d1, d2] }
  | _ => none }
def fnExactBitsCountRow : OpenClaim := { program := "ytleooacadfhelaa", sum := "86948244b61b53d2cd2dbe4680af204123c6e588c6639d20367df94c3ac405c6", func := "loop.example/s01868/laws.FnExactBitsCount", spec := "fnExactBitsCount", unfollowed := true, recurses := true, apart := false }
def FnExactBitsCountSaid : Prop := fnExactBitsCountRow.holds Try.pinned (OpenSpec.ofChange fnExactBitsCountSpec)

/-- ITS FALSE NEIGHBOUR: 'it returns false'. Refute it at one input. -/
def fnExactBitsCountWrong : ChangeSpec := { name := "fnExactBitsCount", fn := fun _ => fun
  | [d1, d2] => { results := [.lit (.bool false)], args := [d1, d2] }
  | _ => none }
def FnExactBitsCountWrongFalsely : Prop := fnExactBitsCountRow.holds Try.pinned (OpenSpec.ofChange fnExactBitsCountWrong)

/-- 'laws.FnExactBitsScan': WHATEVER THE INPUT: true; the input reads as it did. -/
def fnExactBitsScanSpec : ChangeSpec := { name := "fnExactBitsScan", fn := fun _ => fun
  | [d1, d2, d3] => { results := [.lit (.bool true)], args := [d1, d2, d3] }
  | _ => none }
def fnExactBitsScanRow : OpenClaim := { program := "ytleooacadfhelaa", sum := "86948244b61b53d2cd2dbe4680af204123c6e588c6639d20367df94c3ac405c6", func := "loop.example/s01868/laws.FnExactBitsScan", spec := "fnExactBitsScan", unfollowed := true, recurses := true, apart := false }
def FnExactBitsScanSaid : Prop := fnExactBitsScanRow.holds Try.pinned (OpenSpec.ofChange fnExactBitsScanSpec)

/-- ITS FALSE NEIGHBOUR: 'it returns false'. Refute it at one input. -/
def fnExactBitsScanWrong : ChangeSpec := { name := "fnExactBitsScan", fn := fun _ => fun
  | [d1, d2, d3] => { results := [.lit (.bool false)], args := [d1, d2, d3] }
  | _ => none }
def FnExactBitsScanWrongFalsely : Prop := fnExactBitsScanRow.holds Try.pinned (OpenSpec.ofChange fnExactBitsScanWrong)

/-- 'laws.FnExactBitsFree': WHATEVER THE INPUT: true; the input reads as it did. -/
def fnExactBitsFreeSpec : ChangeSpec := { name := "fnExactBitsFree", fn := fun _ => fun
  | [d1, d2, d3] => { results := [.lit (.bool true)], args := [d1, d2, d3] }
  | _ => none }
def fnExactBitsFreeRow : OpenClaim := { program := "ytleooacadfhelaa", sum := "86948244b61b53d2cd2dbe4680af204123c6e588c6639d20367df94c3ac405c6", func := "loop.example/s01868/laws.FnExactBitsFree", spec := "fnExactBitsFree", unfollowed := true, recurses := true, apart := false }
def FnExactBitsFreeSaid : Prop := fnExactBitsFreeRow.holds Try.pinned (OpenSpec.ofChange fnExactBitsFreeSpec)

/-- ITS FALSE NEIGHBOUR: 'it returns false'. Refute it at one input. -/
def fnExactBitsFreeWrong : ChangeSpec := { name := "fnExactBitsFree", fn := fun _ => fun
  | [d1, d2, d3] => { results := [.lit (.bool false)], args := [d1, d2, d3] }
  | _ => none }
def FnExactBitsFreeWrongFalsely : Prop := fnExactBitsFreeRow.holds Try.pinned (OpenSpec.ofChange fnExactBitsFreeWrong)

/-- 'laws.FnExactBitsPut': WHATEVER THE INPUT: true; the input reads as it did. -/
def fnExactBitsPutSpec : ChangeSpec := { name := "fnExactBitsPut", fn := fun _ => fun
  | [d1, d2, d3, d4] => { results := [.lit (.bool true)], args := [d1, d2, d3, d4] }
  | _ => none }
def fnExactBitsPutRow : OpenClaim := { program := "ytleooacadfhelaa", sum := "86948244b61b53d2cd2dbe4680af204123c6e588c6639d20367df94c3ac405c6", func := "loop.example/s01868/laws.FnExactBitsPut", spec := "fnExactBitsPut", apart := false }
def FnExactBitsPutSaid : Prop := fnExactBitsPutRow.holds Try.pinned (OpenSpec.ofChange fnExactBitsPutSpec)

/-- ITS FALSE NEIGHBOUR: 'it returns false'. Refute it at one input. -/
def fnExactBitsPutWrong : ChangeSpec := { name := "fnExactBitsPut", fn := fun _ => fun
  | [d1, d2, d3, d4] => { results := [.lit (.bool false)], args := [d1, d2, d3, d4] }
  | _ => none }
def FnExactBitsPutWrongFalsely : Prop := fnExactBitsPutRow.holds Try.pinned (OpenSpec.ofChange fnExactBitsPutWrong)

/-- 'laws.FnBits': WHATEVER THE INPUT: true; the input reads as it did. -/
def fnBitsSpec : ChangeSpec := { name := "fnBits", fn := fun _ => fun
  | [d] => { results := [.lit (.bool true)], args := [d] }
  | _ => none }
def fnBitsRow : OpenClaim := { program := "ytleooacadfhelaa", sum := "86948244b61b53d2cd2dbe4680af204123c6e588c6639d20367df94c3ac405c6", func := "loop.example/s01868/laws.FnBits", spec := "fnBits", unfollowed := true, recurses := true, apart := false }
def FnBitsSaid : Prop := fnBitsRow.holds Try.pinned (OpenSpec.ofChange fnBitsSpec)

/-- ITS FALSE NEIGHBOUR: 'it returns false'. Refute it at one input. -/
def fnBitsWrong : ChangeSpec := { name := "fnBits", fn := fun _ => fun
  | [d] => { results := [.lit (.bool false)], args := [d] }
  | _ => none }
def FnBitsWrongFalsely : Prop := fnBitsRow.holds Try.pinned (OpenSpec.ofChange fnBitsWrong)

/- THE SECOND FORM. 'bulk': how many values and letters a reading holds, each counted each time it is reached (what is shared counts as often as it is met; a slice's spare places count too). A statement '..UptoSaid' is the law's where the arguments, and the package variables that the reading takes, are together of bulk at most 1048576: NARROWER than '..Said'. Prove '..Said' where nothing that the law and all that it calls make is longer than what came in: it says more and counts as full. Else prove '..UptoSaid'. A law counts once. -/
mutual
def uptoBulk {H : Type} : DataW H → Nat
  | .lit (.string bytes) => bytes.length + 1
  | .lit _ => 1
  | .nil => 1
  | .ptr d => uptoBulk d + 1
  | .slice elems spare => uptoBulkAll elems + uptoBulkAll spare + 1
  | .agg parts => uptoBulkAll parts + 1
  | .iface _ d => uptoBulk d + 1
  | .map entries => uptoBulkEntries entries + 1
  | .held _ => 1
def uptoBulkAll {H : Type} : List (DataW H) → Nat
  | [] => 0
  | d :: r => uptoBulk d + uptoBulkAll r
def uptoBulkEntries {H : Type} : List (Lit × DataW H) → Nat
  | [] => 0
  | x :: r => uptoBulkEntry x + uptoBulkEntries r
def uptoBulkEntry {H : Type} : Lit × DataW H → Nat
  | (.string bytes, d) => bytes.length + uptoBulk d + 1
  | (_, d) => uptoBulk d + 1
 end
def uptoSmall : (H : Type) → List (DataW H) → Bool := fun _ ds => decide (uptoBulkAll ds ≤ 1048576)
def OpenSpec.upto (s : _root_.Go.ChangeSpec) : _root_.Go.OpenSpec := { _root_.Go.OpenSpec.ofChange s with cond := some uptoSmall }

/-- 'laws.FnExactBitsHas', WHERE WHAT IT READS IS OF BULK AT MOST 1048576: true; the input reads as it did. -/
def fnExactBitsHasUptoRow : OpenClaim := { program := "ytleooacadfhelaa", sum := "86948244b61b53d2cd2dbe4680af204123c6e588c6639d20367df94c3ac405c6", func := "loop.example/s01868/laws.FnExactBitsHas", spec := "fnExactBitsHas", apart := false, narrowed := true }
def FnExactBitsHasUptoSaid : Prop := fnExactBitsHasUptoRow.holds Try.pinned (OpenSpec.upto fnExactBitsHasSpec)

/-- 'laws.FnExactBitsCount', WHERE WHAT IT READS IS OF BULK AT MOST 1048576: true; the input reads as it did. -/
def fnExactBitsCountUptoRow : OpenClaim := { program := "ytleooacadfhelaa", sum := "86948244b61b53d2cd2dbe4680af204123c6e588c6639d20367df94c3ac405c6", func := "loop.example/s01868/laws.FnExactBitsCount", spec := "fnExactBitsCount", unfollowed := true, recurses := true, apart := false, narrowed := true }
def FnExactBitsCountUptoSaid : Prop := fnExactBitsCountUptoRow.holds Try.pinned (OpenSpec.upto fnExactBitsCountSpec)

/-- 'laws.FnExactBitsScan', WHERE WHAT IT READS IS OF BULK AT MOST 1048576: true; the input reads as it did. -/
def fnExactBitsScanUptoRow : OpenClaim := { program := "ytleooacadfhelaa", sum := "86948244b61b53d2cd2dbe4680af204123c6e588c6639d20367df94c3ac405c6", func := "loop.example/s01868/laws.FnExactBitsScan", spec := "fnExactBitsScan", unfollowed := true, recurses := true, apart := false, narrowed := true }
def FnExactBitsScanUptoSaid : Prop := fnExactBitsScanUptoRow.holds Try.pinned (OpenSpec.upto fnExactBitsScanSpec)

/-- 'laws.FnExactBitsFree', WHERE WHAT IT READS IS OF BULK AT MOST 1048576: true; the input reads as it did. -/
def fnExactBitsFreeUptoRow : OpenClaim := { program := "ytleooacadfhelaa", sum := "86948244b61b53d2cd2dbe4680af204123c6e588c6639d20367df94c3ac405c6", func := "loop.example/s01868/laws.FnExactBitsFree", spec := "fnExactBitsFree", unfollowed := true, recurses := true, apart := false, narrowed := true }
def FnExactBitsFreeUptoSaid : Prop := fnExactBitsFreeUptoRow.holds Try.pinned (OpenSpec.upto fnExactBitsFreeSpec)

/-- 'laws.FnExactBitsPut', WHERE WHAT IT READS IS OF BULK AT MOST 1048576: true; the input reads as it did. -/
def fnExactBitsPutUptoRow : OpenClaim := { program := "ytleooacadfhelaa", sum := "86948244b61b53d2cd2dbe4680af204123c6e588c6639d20367df94c3ac405c6", func := "loop.example/s01868/laws.FnExactBitsPut", spec := "fnExactBitsPut", apart := false, narrowed := true }
def FnExactBitsPutUptoSaid : Prop := fnExactBitsPutUptoRow.holds Try.pinned (OpenSpec.upto fnExactBitsPutSpec)

/-- 'laws.FnBits', WHERE WHAT IT READS IS OF BULK AT MOST 1048576: true; the input reads as it did. -/
def fnBitsUptoRow : OpenClaim := { program := "ytleooacadfhelaa", sum := "86948244b61b53d2cd2dbe4680af204123c6e588c6639d20367df94c3ac405c6", func := "loop.example/s01868/laws.FnBits", spec := "fnBits", unfollowed := true, recurses := true, apart := false, narrowed := true }
def FnBitsUptoSaid : Prop := fnBitsUptoRow.holds Try.pinned (OpenSpec.upto fnBitsSpec)

end Rows
end Go.Proofs.Ytleooacadfhelaa
