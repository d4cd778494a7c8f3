/-
  No cell of these rows narrows 'for every input' (looked for: loops, veiled, ifaces, maps, wideKeys, modest, calm, conditions, laid).
  DERIVED. THE GIVEN ROWS OF THIS SEAT. 5 by the template 'for every input the law returns true; each argument reads behind the call as it read before'; 0 by the template 'total and deterministic' (their statements: YtklobepkihdbkaaTotals.lean).
  GIVEN WITH THE SEED: the statements are not yours to turn. If you find one false, say at which input.
  Laid BY PROGRAM, IN A SANDBOX (cutbox-rows.mjs): the forced cells as the released guide's own fill.sh prints them over the translation 0b5ae568616dda10… (all of the seat's roots in one cut). By AI agents, Wed Nov 11 2026. No macro, syntax, notation, axiom, sorry.
-/
import Derived.Test.YtklobepkihdbkaaChecked
import GoSem.Claim
import GoSem.ClaimJoined
import GoSem.ClaimMapViews
import Derived.JoinedTies
import Derived.KernelRfl
namespace Go.Proofs.Ytklobepkihdbkaa
/- THE CELL 'sum', in the pinned program and in every row, IS THE sha256 OF THE DUMP (.gsa) THAT YtklobepkihdbkaaProg.lean LOADS. Nothing in Lean hashes anything: it is a label: what it is worth is what the hold of that sum in a sandbox is worth. -/
noncomputable def Try.pinned : Pinned := { name := "ytklobepkihdbkaa", sum := "0b5ae568616dda1094fd34c2ed91dcaa071f764cf2decd321479c639448777e5", checked := Try.checked }
namespace Rows
def none {H : Type} : Left H := { results := [], args := [] }

/-- 'laws.FnExactWaitPush': WHATEVER THE INPUT: true; the input reads as it did. -/
def fnExactWaitPushSpec : ChangeSpec := { name := "fnExactWaitPush", fn := fun _ => fun
  | [d1, d2, d3] => { results := [.lit (.bool true)], args := [d1, d2, d3] }
  | _ => none }
def fnExactWaitPushRow : OpenClaim := { program := "ytklobepkihdbkaa", sum := "0b5ae568616dda1094fd34c2ed91dcaa071f764cf2decd321479c639448777e5", func := "loop.example/s01868/laws.FnExactWaitPush", spec := "fnExactWaitPush", unfollowed := true, recurses := true, apart := false }
def FnExactWaitPushSaid : Prop := fnExactWaitPushRow.holds Try.pinned (OpenSpec.ofChange fnExactWaitPushSpec)

/-- ITS FALSE NEIGHBOUR: 'it returns false'. Refute it at one input. -/
def fnExactWaitPushWrong : ChangeSpec := { name := "fnExactWaitPush", fn := fun _ => fun
  | [d1, d2, d3] => { results := [.lit (.bool false)], args := [d1, d2, d3] }
  | _ => none }
def FnExactWaitPushWrongFalsely : Prop := fnExactWaitPushRow.holds Try.pinned (OpenSpec.ofChange fnExactWaitPushWrong)

/-- 'laws.FnExactRunWaiting': WHATEVER THE INPUT: true; the input reads as it did. -/
def fnExactRunWaitingSpec : ChangeSpec := { name := "fnExactRunWaiting", fn := fun _ => fun
  | [d1, d2, d3, d4] => { results := [.lit (.bool true)], args := [d1, d2, d3, d4] }
  | _ => none }
def fnExactRunWaitingRow : OpenClaim := { program := "ytklobepkihdbkaa", sum := "0b5ae568616dda1094fd34c2ed91dcaa071f764cf2decd321479c639448777e5", func := "loop.example/s01868/laws.FnExactRunWaiting", spec := "fnExactRunWaiting", unfollowed := true, recurses := true, apart := false }
def FnExactRunWaitingSaid : Prop := fnExactRunWaitingRow.holds Try.pinned (OpenSpec.ofChange fnExactRunWaitingSpec)

/-- ITS FALSE NEIGHBOUR: 'it returns false'. Refute it at one input. -/
def fnExactRunWaitingWrong : ChangeSpec := { name := "fnExactRunWaiting", fn := fun _ => fun
  | [d1, d2, d3, d4] => { results := [.lit (.bool false)], args := [d1, d2, d3, d4] }
  | _ => none }
def FnExactRunWaitingWrongFalsely : Prop := fnExactRunWaitingRow.holds Try.pinned (OpenSpec.ofChange fnExactRunWaitingWrong)

/-- 'laws.FnWaits': WHATEVER THE INPUT: true; the input reads as it did. -/
def fnWaitsSpec : ChangeSpec := { name := "fnWaits", fn := fun _ => fun
  | [d] => { results := [.lit (.bool true)], args := [d] }
  | _ => none }
def fnWaitsRow : OpenClaim := { program := "ytklobepkihdbkaa", sum := "0b5ae568616dda1094fd34c2ed91dcaa071f764cf2decd321479c639448777e5", func := "loop.example/s01868/laws.FnWaits", spec := "fnWaits", unfollowed := true, recurses := true, apart := false }
def FnWaitsSaid : Prop := fnWaitsRow.holds Try.pinned (OpenSpec.ofChange fnWaitsSpec)

/-- ITS FALSE NEIGHBOUR: 'it returns false'. Refute it at one input. -/
def fnWaitsWrong : ChangeSpec := { name := "fnWaits", fn := fun _ => fun
  | [d] => { results := [.lit (.bool false)], args := [d] }
  | _ => none }
def FnWaitsWrongFalsely : Prop := fnWaitsRow.holds Try.pinned (OpenSpec.ofChange fnWaitsWrong)

/-- 'laws.FnSpace': WHATEVER THE INPUT: true; the input reads as it did. -/
def fnSpaceSpec : ChangeSpec := { name := "fnSpace", fn := fun _ => fun
  | [d] => { results := [.lit (.bool true)], args := [d] }
  | _ => none }
def fnSpaceRow : OpenClaim := { program := "ytklobepkihdbkaa", sum := "0b5ae568616dda1094fd34c2ed91dcaa071f764cf2decd321479c639448777e5", func := "loop.example/s01868/laws.FnSpace", spec := "fnSpace", inPlace := ["(*internal/sync.Mutex).Lock", "internal/race.Disable", "sync/atomic.CompareAndSwapInt32", "internal/race.Enable", "internal/race.Acquire", "(*internal/sync.Mutex).lockSlow", "internal/sync.runtime_canSpin", "internal/sync.runtime_doSpin", "internal/sync.throw", "internal/sync.runtime_nanotime", "internal/sync.runtime_SemacquireMutex", "sync/atomic.AddInt32", "(*internal/sync.Mutex).Unlock", "internal/race.ReleaseMerge", "(*internal/sync.Mutex).unlockSlow", "internal/sync.fatal", "internal/sync.runtime_Semrelease"], unfollowed := true, recurses := true, apart := false }
def FnSpaceSaid : Prop := fnSpaceRow.holds Try.pinned (OpenSpec.ofChange fnSpaceSpec)

/-- ITS FALSE NEIGHBOUR: 'it returns false'. Refute it at one input. -/
def fnSpaceWrong : ChangeSpec := { name := "fnSpace", fn := fun _ => fun
  | [d] => { results := [.lit (.bool false)], args := [d] }
  | _ => none }
def FnSpaceWrongFalsely : Prop := fnSpaceRow.holds Try.pinned (OpenSpec.ofChange fnSpaceWrong)

/-- 'laws.FnExactRunSpace': WHATEVER THE INPUT: true; the input reads as it did. -/
def fnExactRunSpaceSpec : ChangeSpec := { name := "fnExactRunSpace", fn := fun _ => fun
  | [d1, d2, d3] => { results := [.lit (.bool true)], args := [d1, d2, d3] }
  | _ => none }
def fnExactRunSpaceRow : OpenClaim := { program := "ytklobepkihdbkaa", sum := "0b5ae568616dda1094fd34c2ed91dcaa071f764cf2decd321479c639448777e5", func := "loop.example/s01868/laws.FnExactRunSpace", spec := "fnExactRunSpace", inPlace := ["(*internal/sync.Mutex).Lock", "internal/race.Disable", "sync/atomic.CompareAndSwapInt32", "internal/race.Enable", "internal/race.Acquire", "(*internal/sync.Mutex).lockSlow", "internal/sync.runtime_canSpin", "internal/sync.runtime_doSpin", "internal/sync.throw", "internal/sync.runtime_nanotime", "internal/sync.runtime_SemacquireMutex", "sync/atomic.AddInt32", "(*internal/sync.Mutex).Unlock", "internal/race.ReleaseMerge", "(*internal/sync.Mutex).unlockSlow", "internal/sync.fatal", "internal/sync.runtime_Semrelease"], unfollowed := true, recurses := true, apart := false }
def FnExactRunSpaceSaid : Prop := fnExactRunSpaceRow.holds Try.pinned (OpenSpec.ofChange fnExactRunSpaceSpec)

/-- ITS FALSE NEIGHBOUR: 'it returns false'. Refute it at one input. -/
def fnExactRunSpaceWrong : ChangeSpec := { name := "fnExactRunSpace", fn := fun _ => fun
  | [d1, d2, d3] => { results := [.lit (.bool false)], args := [d1, d2, d3] }
  | _ => none }
def FnExactRunSpaceWrongFalsely : Prop := fnExactRunSpaceRow.holds Try.pinned (OpenSpec.ofChange fnExactRunSpaceWrong)

/- THE SECOND FORM. 'bulk': how many values and letters a reading holds, each counted each time it is reached (what is shared counts as often as it is met; a slice's spare places count too). A statement '..UptoSaid' is the law's where the arguments, and the package variables that the reading takes, are together of bulk at most 1048576: NARROWER than '..Said'. Prove '..Said' where nothing that the law and all that it calls make is longer than what came in: it says more and counts as full. Else prove '..UptoSaid'. A law counts once. -/
mutual
def uptoBulk {H : Type} : DataW H → Nat
  | .lit (.string bytes) => bytes.length + 1
  | .lit _ => 1
  | .nil => 1
  | .ptr d => uptoBulk d + 1
  | .slice elems spare => uptoBulkAll elems + uptoBulkAll spare + 1
  | .agg parts => uptoBulkAll parts + 1
  | .iface _ d => uptoBulk d + 1
  | .map entries => uptoBulkEntries entries + 1
  | .held _ => 1
def uptoBulkAll {H : Type} : List (DataW H) → Nat
  | [] => 0
  | d :: r => uptoBulk d + uptoBulkAll r
def uptoBulkEntries {H : Type} : List (Lit × DataW H) → Nat
  | [] => 0
  | x :: r => uptoBulkEntry x + uptoBulkEntries r
def uptoBulkEntry {H : Type} : Lit × DataW H → Nat
  | (.string bytes, d) => bytes.length + uptoBulk d + 1
  | (_, d) => uptoBulk d + 1
 end
def uptoSmall : (H : Type) → List (DataW H) → Bool := fun _ ds => decide (uptoBulkAll ds ≤ 1048576)
def OpenSpec.upto (s : _root_.Go.ChangeSpec) : _root_.Go.OpenSpec := { _root_.Go.OpenSpec.ofChange s with cond := some uptoSmall }

/-- 'laws.FnExactWaitPush', WHERE WHAT IT READS IS OF BULK AT MOST 1048576: true; the input reads as it did. -/
def fnExactWaitPushUptoRow : OpenClaim := { program := "ytklobepkihdbkaa", sum := "0b5ae568616dda1094fd34c2ed91dcaa071f764cf2decd321479c639448777e5", func := "loop.example/s01868/laws.FnExactWaitPush", spec := "fnExactWaitPush", unfollowed := true, recurses := true, apart := false, narrowed := true }
def FnExactWaitPushUptoSaid : Prop := fnExactWaitPushUptoRow.holds Try.pinned (OpenSpec.upto fnExactWaitPushSpec)

/-- 'laws.FnExactRunWaiting', WHERE WHAT IT READS IS OF BULK AT MOST 1048576: true; the input reads as it did. -/
def fnExactRunWaitingUptoRow : OpenClaim := { program := "ytklobepkihdbkaa", sum := "0b5ae568616dda1094fd34c2ed91dcaa071f764cf2decd321479c639448777e5", func := "loop.example/s01868/laws.FnExactRunWaiting", spec := "fnExactRunWaiting", unfollowed := true, recurses := true, apart := false, narrowed := true }
def FnExactRunWaitingUptoSaid : Prop := fnExactRunWaitingUptoRow.holds Try.pinned (OpenSpec.upto fnExactRunWaitingSpec)

/-- 'laws.FnWaits', WHERE WHAT IT READS IS OF BULK AT MOST 1048576: true; the input reads as it did. -/
def fnWaitsUptoRow : OpenClaim := { program := "ytklobepkihdbkaa", sum := "0b5ae568616dda1094fd34c2ed91dcaa071f764cf2decd321479c639448777e5", func := "loop.example/s01868/laws.FnWaits", spec := "fnWaits", unfollowed := true, recurses := true, apart := false, narrowed := true }
def FnWaitsUptoSaid : Prop := fnWaitsUptoRow.holds Try.pinned (OpenSpec.upto fnWaitsSpec)

/-- 'laws.FnSpace', WHERE WHAT IT READS IS OF BULK AT MOST 1048576: true; the input reads as it did. -/
def fnSpaceUptoRow : OpenClaim := { program := "ytklobepkihdbkaa", sum := "0b5ae568616dda1094fd34c2ed91dcaa071f764cf2decd321479c639448777e5", func := "loop.example/s01868/laws.FnSpace", spec := "fnSpace", inPlace := ["(*internal/sync.Mutex).Lock", "internal/race.Disable", "sync/atomic.CompareAndSwapInt32", "internal/race.Enable", "internal/race.Acquire", "(*internal/sync.Mutex).lockSlow", "internal/sync.runtime_canSpin", "internal/sync.runtime_doSpin", "internal/sync.throw", "internal/sync.runtime_nanotime", "internal/sync.runtime_SemacquireMutex", "sync/atomic.AddInt32", "(*internal/sync.Mutex).Unlock", "internal/race.ReleaseMerge", "(*internal/sync.Mutex).unlockSlow", "internal/sync.fatal", "internal/sync.runtime_Semrelease"], unfollowed := true, recurses := true, apart := false, narrowed := true }
def FnSpaceUptoSaid : Prop := fnSpaceUptoRow.holds Try.pinned (OpenSpec.upto fnSpaceSpec)

/-- 'laws.FnExactRunSpace', WHERE WHAT IT READS IS OF BULK AT MOST 1048576: true; the input reads as it did. -/
def fnExactRunSpaceUptoRow : OpenClaim := { program := "ytklobepkihdbkaa", sum := "0b5ae568616dda1094fd34c2ed91dcaa071f764cf2decd321479c639448777e5", func := "loop.example/s01868/laws.FnExactRunSpace", spec := "fnExactRunSpace", inPlace := ["(*internal/sync.Mutex).Lock", "internal/race.Disable", "sync/atomic.CompareAndSwapInt32", "internal/race.Enable", "internal/race.Acquire", "(*internal/sync.Mutex).lockSlow", "internal/sync.runtime_canSpin", "internal/sync.runtime_doSpin", "internal/sync.throw", "internal/sync.runtime_nanotime", "internal/sync.runtime_SemacquireMutex", "sync/atomic.AddInt32", "(*internal/sync.Mutex).Unlock", "internal/race.ReleaseMerge", "(*internal/sync.Mutex).unlockSlow", "internal/sync.fatal", "internal/sync.runtime_Semrelease"], unfollowed := true, recurses := true, apart := false, narrowed := true }
def FnExactRunSpaceUptoSaid : Prop := fnExactRunSpaceUptoRow.holds Try.pinned (OpenSpec.upto fnExactRunSpaceSpec)

end Rows
end Go.Proofs.Ytklobepkihdbkaa
