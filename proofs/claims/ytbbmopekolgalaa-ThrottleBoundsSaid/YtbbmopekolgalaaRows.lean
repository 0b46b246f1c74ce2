/-
  No cell of these rows narrows 'for every input' (looked for: loops, veiled, ifaces, maps, wideKeys, modest, calm, conditions, laid).
  DERIVED. THE GIVEN ROWS OF THIS SEAT. 6 by the template 'for every input the law returns true; each argument reads behind the call as it read before'; 0 by the template 'total and deterministic' (their statements: YtbbmopekolgalaaTotals.lean).
  GIVEN WITH THE SEED: the statements are not yours to turn. If you find one false, say at which input.
  Laid BY PROGRAM, IN A SANDBOX (cutbox-rows.mjs): the forced cells as the released guide's own fill.sh prints them over the translation fe3d81a75ad28a22… (all of the seat's roots in one cut). By AI agents, Wed Nov 11 2026. No macro, syntax, notation, axiom, sorry.
-/
import Derived.Test.YtbbmopekolgalaaChecked
import GoSem.Claim
import GoSem.ClaimJoined
import GoSem.ClaimMapViews
import Derived.JoinedTies
import Derived.KernelRfl
namespace Go.Proofs.Ytbbmopekolgalaa
/- THE CELL 'sum', in the pinned program and in every row, IS THE sha256 OF THE DUMP (.gsa) THAT YtbbmopekolgalaaProg.lean LOADS. Nothing in Lean hashes anything: it is a label: what it is worth is what the hold of that sum in a sandbox is worth. -/
noncomputable def Try.pinned : Pinned := { name := "ytbbmopekolgalaa", sum := "fe3d81a75ad28a22caec020bd1d6296fa41db7400185e2a8889835e2cf05d3c0", checked := Try.checked }
namespace Rows
def none {H : Type} : Left H := { results := [], args := [] }

/-- 'tolllaw15.ThrottleSets': WHATEVER THE INPUT: true; the input reads as it did. -/
def throttleSetsSpec : ChangeSpec := { name := "throttleSets", fn := fun _ => fun
  | [d1, d2, d3, d4, d5] => { results := [.lit (.bool true)], args := [d1, d2, d3, d4, d5] }
  | _ => none }
def throttleSetsRow : OpenClaim := { program := "ytbbmopekolgalaa", sum := "fe3d81a75ad28a22caec020bd1d6296fa41db7400185e2a8889835e2cf05d3c0", func := "toll/tolllaw15.ThrottleSets", spec := "throttleSets", inPlace := ["sync/atomic.LoadInt64", "sync/atomic.StoreInt64"], apart := false }
def ThrottleSetsSaid : Prop := throttleSetsRow.holds Try.pinned (OpenSpec.ofChange throttleSetsSpec)

/-- ITS FALSE NEIGHBOUR: 'it returns false'. Refute it at one input. -/
def throttleSetsWrong : ChangeSpec := { name := "throttleSets", fn := fun _ => fun
  | [d1, d2, d3, d4, d5] => { results := [.lit (.bool false)], args := [d1, d2, d3, d4, d5] }
  | _ => none }
def ThrottleSetsWrongFalsely : Prop := throttleSetsRow.holds Try.pinned (OpenSpec.ofChange throttleSetsWrong)

/-- 'tolllaw15.ThrottleBounds': WHATEVER THE INPUT: true; the input reads as it did. -/
def throttleBoundsSpec : ChangeSpec := { name := "throttleBounds", fn := fun _ => fun
  | [d1, d2, d3, d4] => { results := [.lit (.bool true)], args := [d1, d2, d3, d4] }
  | _ => none }
def throttleBoundsRow : OpenClaim := { program := "ytbbmopekolgalaa", sum := "fe3d81a75ad28a22caec020bd1d6296fa41db7400185e2a8889835e2cf05d3c0", func := "toll/tolllaw15.ThrottleBounds", spec := "throttleBounds", inPlace := ["sync/atomic.LoadInt64", "sync/atomic.StoreInt64", "sync/atomic.AddInt64"], apart := false }
def ThrottleBoundsSaid : Prop := throttleBoundsRow.holds Try.pinned (OpenSpec.ofChange throttleBoundsSpec)

/-- ITS FALSE NEIGHBOUR: 'it returns false'. Refute it at one input. -/
def throttleBoundsWrong : ChangeSpec := { name := "throttleBounds", fn := fun _ => fun
  | [d1, d2, d3, d4] => { results := [.lit (.bool false)], args := [d1, d2, d3, d4] }
  | _ => none }
def ThrottleBoundsWrongFalsely : Prop := throttleBoundsRow.holds Try.pinned (OpenSpec.ofChange throttleBoundsWrong)

/-- 'tolllaw15.ThrottleBegins': WHATEVER THE INPUT: true; the input reads as it did. -/
def throttleBeginsSpec : ChangeSpec := { name := "throttleBegins", fn := fun _ => fun
  | [d1, d2, d3, d4] => { results := [.lit (.bool true)], args := [d1, d2, d3, d4] }
  | _ => none }
def throttleBeginsRow : OpenClaim := { program := "ytbbmopekolgalaa", sum := "fe3d81a75ad28a22caec020bd1d6296fa41db7400185e2a8889835e2cf05d3c0", func := "toll/tolllaw15.ThrottleBegins", spec := "throttleBegins", inPlace := ["sync/atomic.LoadInt64", "sync/atomic.StoreInt64", "sync/atomic.AddInt64"], apart := false }
def ThrottleBeginsSaid : Prop := throttleBeginsRow.holds Try.pinned (OpenSpec.ofChange throttleBeginsSpec)

/-- ITS FALSE NEIGHBOUR: 'it returns false'. Refute it at one input. -/
def throttleBeginsWrong : ChangeSpec := { name := "throttleBegins", fn := fun _ => fun
  | [d1, d2, d3, d4] => { results := [.lit (.bool false)], args := [d1, d2, d3, d4] }
  | _ => none }
def ThrottleBeginsWrongFalsely : Prop := throttleBeginsRow.holds Try.pinned (OpenSpec.ofChange throttleBeginsWrong)

/-- 'tolllaw15.ThrottleCaps': WHATEVER THE INPUT: true; the input reads as it did. -/
def throttleCapsSpec : ChangeSpec := { name := "throttleCaps", fn := fun _ => fun
  | [d1, d2, d3] => { results := [.lit (.bool true)], args := [d1, d2, d3] }
  | _ => none }
def throttleCapsRow : OpenClaim := { program := "ytbbmopekolgalaa", sum := "fe3d81a75ad28a22caec020bd1d6296fa41db7400185e2a8889835e2cf05d3c0", func := "toll/tolllaw15.ThrottleCaps", spec := "throttleCaps", inPlace := ["sync/atomic.LoadInt64", "sync/atomic.StoreInt64", "sync/atomic.AddInt64"], apart := false }
def ThrottleCapsSaid : Prop := throttleCapsRow.holds Try.pinned (OpenSpec.ofChange throttleCapsSpec)

/-- ITS FALSE NEIGHBOUR: 'it returns false'. Refute it at one input. -/
def throttleCapsWrong : ChangeSpec := { name := "throttleCaps", fn := fun _ => fun
  | [d1, d2, d3] => { results := [.lit (.bool false)], args := [d1, d2, d3] }
  | _ => none }
def ThrottleCapsWrongFalsely : Prop := throttleCapsRow.holds Try.pinned (OpenSpec.ofChange throttleCapsWrong)

/-- 'tolllaw15.ThrottleStill': WHATEVER THE INPUT: true; the input reads as it did. -/
def throttleStillSpec : ChangeSpec := { name := "throttleStill", fn := fun _ => fun
  | [d1, d2, d3] => { results := [.lit (.bool true)], args := [d1, d2, d3] }
  | _ => none }
def throttleStillRow : OpenClaim := { program := "ytbbmopekolgalaa", sum := "fe3d81a75ad28a22caec020bd1d6296fa41db7400185e2a8889835e2cf05d3c0", func := "toll/tolllaw15.ThrottleStill", spec := "throttleStill", inPlace := ["sync/atomic.LoadInt64", "sync/atomic.StoreInt64", "sync/atomic.AddInt64"], apart := false }
def ThrottleStillSaid : Prop := throttleStillRow.holds Try.pinned (OpenSpec.ofChange throttleStillSpec)

/-- ITS FALSE NEIGHBOUR: 'it returns false'. Refute it at one input. -/
def throttleStillWrong : ChangeSpec := { name := "throttleStill", fn := fun _ => fun
  | [d1, d2, d3] => { results := [.lit (.bool false)], args := [d1, d2, d3] }
  | _ => none }
def ThrottleStillWrongFalsely : Prop := throttleStillRow.holds Try.pinned (OpenSpec.ofChange throttleStillWrong)

/-- 'tolllaw15.ThrottlePlays': WHATEVER THE INPUT: true; the input reads as it did. -/
def throttlePlaysSpec : ChangeSpec := { name := "throttlePlays", fn := fun _ => fun
  | [d1, d2, d3, d4] => { results := [.lit (.bool true)], args := [d1, d2, d3, d4] }
  | _ => none }
def throttlePlaysRow : OpenClaim := { program := "ytbbmopekolgalaa", sum := "fe3d81a75ad28a22caec020bd1d6296fa41db7400185e2a8889835e2cf05d3c0", func := "toll/tolllaw15.ThrottlePlays", spec := "throttlePlays", inPlace := ["sync/atomic.LoadInt64", "sync/atomic.StoreInt64", "sync/atomic.AddInt64"], apart := false }
def ThrottlePlaysSaid : Prop := throttlePlaysRow.holds Try.pinned (OpenSpec.ofChange throttlePlaysSpec)

/-- ITS FALSE NEIGHBOUR: 'it returns false'. Refute it at one input. -/
def throttlePlaysWrong : ChangeSpec := { name := "throttlePlays", fn := fun _ => fun
  | [d1, d2, d3, d4] => { results := [.lit (.bool false)], args := [d1, d2, d3, d4] }
  | _ => none }
def ThrottlePlaysWrongFalsely : Prop := throttlePlaysRow.holds Try.pinned (OpenSpec.ofChange throttlePlaysWrong)

/- THE SECOND FORM. 'bulk': how many values and letters a reading holds, each counted each time it is reached (what is shared counts as often as it is met; a slice's spare places count too). A statement '..UptoSaid' is the law's where the arguments, and the package variables that the reading takes, are together of bulk at most 1048576: NARROWER than '..Said'. Prove '..Said' where nothing that the law and all that it calls make is longer than what came in: it says more and counts as full. Else prove '..UptoSaid'. A law counts once. -/
mutual
def uptoBulk {H : Type} : DataW H → Nat
  | .lit (.string bytes) => bytes.length + 1
  | .lit _ => 1
  | .nil => 1
  | .ptr d => uptoBulk d + 1
  | .slice elems spare => uptoBulkAll elems + uptoBulkAll spare + 1
  | .agg parts => uptoBulkAll parts + 1
  | .iface _ d => uptoBulk d + 1
  | .map entries => uptoBulkEntries entries + 1
  | .held _ => 1
def uptoBulkAll {H : Type} : List (DataW H) → Nat
  | [] => 0
  | d :: r => uptoBulk d + uptoBulkAll r
def uptoBulkEntries {H : Type} : List (Lit × DataW H) → Nat
  | [] => 0
  | x :: r => uptoBulkEntry x + uptoBulkEntries r
def uptoBulkEntry {H : Type} : Lit × DataW H → Nat
  | (.string bytes, d) => bytes.length + uptoBulk d + 1
  | (_, d) => uptoBulk d + 1
 end
def uptoSmall : (H : Type) → List (DataW H) → Bool := fun _ ds => decide (uptoBulkAll ds ≤ 1048576)
def OpenSpec.upto (s : _root_.Go.ChangeSpec) : _root_.Go.OpenSpec := { _root_.Go.OpenSpec.ofChange s with cond := some uptoSmall }

/-- 'tolllaw15.ThrottleSets', WHERE WHAT IT READS IS OF BULK AT MOST 1048576: true; the input reads as it did. -/
def throttleSetsUptoRow : OpenClaim := { program := "ytbbmopekolgalaa", sum := "fe3d81a75ad28a22caec020bd1d6296fa41db7400185e2a8889835e2cf05d3c0", func := "toll/tolllaw15.ThrottleSets", spec := "throttleSets", inPlace := ["sync/atomic.LoadInt64", "sync/atomic.StoreInt64"], apart := false, narrowed := true }
def ThrottleSetsUptoSaid : Prop := throttleSetsUptoRow.holds Try.pinned (OpenSpec.upto throttleSetsSpec)

/-- 'tolllaw15.ThrottleBounds', WHERE WHAT IT READS IS OF BULK AT MOST 1048576: true; the input reads as it did. -/
def throttleBoundsUptoRow : OpenClaim := { program := "ytbbmopekolgalaa", sum := "fe3d81a75ad28a22caec020bd1d6296fa41db7400185e2a8889835e2cf05d3c0", func := "toll/tolllaw15.ThrottleBounds", spec := "throttleBounds", inPlace := ["sync/atomic.LoadInt64", "sync/atomic.StoreInt64", "sync/atomic.AddInt64"], apart := false, narrowed := true }
def ThrottleBoundsUptoSaid : Prop := throttleBoundsUptoRow.holds Try.pinned (OpenSpec.upto throttleBoundsSpec)

/-- 'tolllaw15.ThrottleBegins', WHERE WHAT IT READS IS OF BULK AT MOST 1048576: true; the input reads as it did. -/
def throttleBeginsUptoRow : OpenClaim := { program := "ytbbmopekolgalaa", sum := "fe3d81a75ad28a22caec020bd1d6296fa41db7400185e2a8889835e2cf05d3c0", func := "toll/tolllaw15.ThrottleBegins", spec := "throttleBegins", inPlace := ["sync/atomic.LoadInt64", "sync/atomic.StoreInt64", "sync/atomic.AddInt64"], apart := false, narrowed := true }
def ThrottleBeginsUptoSaid : Prop := throttleBeginsUptoRow.holds Try.pinned (OpenSpec.upto throttleBeginsSpec)

/-- 'tolllaw15.ThrottleCaps', WHERE WHAT IT READS IS OF BULK AT MOST 1048576: true; the input reads as it did. -/
def throttleCapsUptoRow : OpenClaim := { program := "ytbbmopekolgalaa", sum := "fe3d81a75ad28a22caec020bd1d6296fa41db7400185e2a8889835e2cf05d3c0", func := "toll/tolllaw15.ThrottleCaps", spec := "throttleCaps", inPlace := ["sync/atomic.LoadInt64", "sync/atomic.StoreInt64", "sync/atomic.AddInt64"], apart := false, narrowed := true }
def ThrottleCapsUptoSaid : Prop := throttleCapsUptoRow.holds Try.pinned (OpenSpec.upto throttleCapsSpec)

/-- 'tolllaw15.ThrottleStill', WHERE WHAT IT READS IS OF BULK AT MOST 1048576: true; the input reads as it did. -/
def throttleStillUptoRow : OpenClaim := { program := "ytbbmopekolgalaa", sum := "fe3d81a75ad28a22caec020bd1d6296fa41db7400185e2a8889835e2cf05d3c0", func := "toll/tolllaw15.ThrottleStill", spec := "throttleStill", inPlace := ["sync/atomic.LoadInt64", "sync/atomic.StoreInt64", "sync/atomic.AddInt64"], apart := false, narrowed := true }
def ThrottleStillUptoSaid : Prop := throttleStillUptoRow.holds Try.pinned (OpenSpec.upto throttleStillSpec)

/-- 'tolllaw15.ThrottlePlays', WHERE WHAT IT READS IS OF BULK AT MOST 1048576: true; the input reads as it did. -/
def throttlePlaysUptoRow : OpenClaim := { program := "ytbbmopekolgalaa", sum := "fe3d81a75ad28a22caec020bd1d6296fa41db7400185e2a8889835e2cf05d3c0", func := "toll/tolllaw15.ThrottlePlays", spec := "throttlePlays", inPlace := ["sync/atomic.LoadInt64", "sync/atomic.StoreInt64", "sync/atomic.AddInt64"], apart := false, narrowed := true }
def ThrottlePlaysUptoSaid : Prop := throttlePlaysUptoRow.holds Try.pinned (OpenSpec.upto throttlePlaysSpec)

end Rows
end Go.Proofs.Ytbbmopekolgalaa
