/-
  No cell of these rows narrows 'for every input' (looked for: loops, veiled, ifaces, maps, wideKeys, modest, calm, conditions, laid).
  DERIVED. THE GIVEN ROWS OF THIS SEAT. 3 by the template 'for every input the law returns true; each argument reads behind the call as it read before'; 0 by the template 'total and deterministic' (their statements: YtmflnbdajaiahaaTotals.lean).
  GIVEN WITH THE SEED: the statements are not yours to turn. If you find one false, say at which input.
  Laid BY PROGRAM, IN A SANDBOX (cutbox-rows.mjs): the forced cells as the released guide's own fill.sh prints them over the translation d497bb93f6b23d22… (all of the seat's roots in one cut). By AI agents, Wed Nov 11 2026. No macro, syntax, notation, axiom, sorry.
-/
import Derived.Test.YtmflnbdajaiahaaChecked
import GoSem.Claim
import GoSem.ClaimJoined
import GoSem.ClaimMapViews
import Derived.JoinedTies
import Derived.KernelRfl
namespace Go.Proofs.Ytmflnbdajaiahaa
/- THE CELL 'sum', in the pinned program and in every row, IS THE sha256 OF THE DUMP (.gsa) THAT YtmflnbdajaiahaaProg.lean LOADS. Nothing in Lean hashes anything: it is a label: what it is worth is what the hold of that sum in a sandbox is worth. -/
noncomputable def Try.pinned : Pinned := { name := "ytmflnbdajaiahaa", sum := "d497bb93f6b23d22c09b5a6a0751dade438f09517632cebe1e71017ab0d36cb3", checked := Try.checked }
namespace Rows
def none {H : Type} : Left H := { results := [], args := [] }

/-- 'metronomelaw15.FaultBorne': WHATEVER THE INPUT: true; the input reads as it did. -/
def faultBorneSpec : ChangeSpec := { name := "faultBorne", fn := fun _ => fun
  | [d1, d2] => { results := [.lit (.bool true)], args := [d1, d2] }
  | _ => none }
def faultBorneRow : OpenClaim := { program := "ytmflnbdajaiahaa", sum := "d497bb93f6b23d22c09b5a6a0751dade438f09517632cebe1e71017ab0d36cb3", func := "metronome/metronomelaw15.FaultBorne", spec := "faultBorne", unfollowed := true, recurses := true, apart := false }
def FaultBorneSaid : Prop := faultBorneRow.holds Try.pinned (OpenSpec.ofChange faultBorneSpec)

/-- ITS FALSE NEIGHBOUR: 'it returns false'. Refute it at one input. -/
def faultBorneWrong : ChangeSpec := { name := "faultBorne", fn := fun _ => fun
  | [d1, d2] => { results := [.lit (.bool false)], args := [d1, d2] }
  | _ => none }
def FaultBorneWrongFalsely : Prop := faultBorneRow.holds Try.pinned (OpenSpec.ofChange faultBorneWrong)

/-- 'metronomelaw15.FaultClean': WHATEVER THE INPUT: true; the input reads as it did. -/
def faultCleanSpec : ChangeSpec := { name := "faultClean", fn := fun _ => fun
  | [d1, d2, d3] => { results := [.lit (.bool true)], args := [d1, d2, d3] }
  | _ => none }
def faultCleanRow : OpenClaim := { program := "ytmflnbdajaiahaa", sum := "d497bb93f6b23d22c09b5a6a0751dade438f09517632cebe1e71017ab0d36cb3", func := "metronome/metronomelaw15.FaultClean", spec := "faultClean", unfollowed := true, recurses := true, apart := false }
def FaultCleanSaid : Prop := faultCleanRow.holds Try.pinned (OpenSpec.ofChange faultCleanSpec)

/-- ITS FALSE NEIGHBOUR: 'it returns false'. Refute it at one input. -/
def faultCleanWrong : ChangeSpec := { name := "faultClean", fn := fun _ => fun
  | [d1, d2, d3] => { results := [.lit (.bool false)], args := [d1, d2, d3] }
  | _ => none }
def FaultCleanWrongFalsely : Prop := faultCleanRow.holds Try.pinned (OpenSpec.ofChange faultCleanWrong)

/-- 'metronomelaw15.FaultLess': WHATEVER THE INPUT: true; the input reads as it did. -/
def faultLessSpec : ChangeSpec := { name := "faultLess", fn := fun _ => fun
  | [d1, d2, d3] => { results := [.lit (.bool true)], args := [d1, d2, d3] }
  | _ => none }
def faultLessRow : OpenClaim := { program := "ytmflnbdajaiahaa", sum := "d497bb93f6b23d22c09b5a6a0751dade438f09517632cebe1e71017ab0d36cb3", func := "metronome/metronomelaw15.FaultLess", spec := "faultLess", unfollowed := true, recurses := true, apart := false }
def FaultLessSaid : Prop := faultLessRow.holds Try.pinned (OpenSpec.ofChange faultLessSpec)

/-- ITS FALSE NEIGHBOUR: 'it returns false'. Refute it at one input. -/
def faultLessWrong : ChangeSpec := { name := "faultLess", fn := fun _ => fun
  | [d1, d2, d3] => { results := [.lit (.bool false)], args := [d1, d2, d3] }
  | _ => none }
def FaultLessWrongFalsely : Prop := faultLessRow.holds Try.pinned (OpenSpec.ofChange faultLessWrong)

/- THE SECOND FORM. 'bulk': how many values and letters a reading holds, each counted each time it is reached (what is shared counts as often as it is met; a slice's spare places count too). A statement '..UptoSaid' is the law's where the arguments, and the package variables that the reading takes, are together of bulk at most 1048576: NARROWER than '..Said'. Prove '..Said' where nothing that the law and all that it calls make is longer than what came in: it says more and counts as full. Else prove '..UptoSaid'. A law counts once. -/
mutual
def uptoBulk {H : Type} : DataW H → Nat
  | .lit (.string bytes) => bytes.length + 1
  | .lit _ => 1
  | .nil => 1
  | .ptr d => uptoBulk d + 1
  | .slice elems spare => uptoBulkAll elems + uptoBulkAll spare + 1
  | .agg parts => uptoBulkAll parts + 1
  | .iface _ d => uptoBulk d + 1
  | .map entries => uptoBulkEntries entries + 1
  | .held _ => 1
def uptoBulkAll {H : Type} : List (DataW H) → Nat
  | [] => 0
  | d :: r => uptoBulk d + uptoBulkAll r
def uptoBulkEntries {H : Type} : List (Lit × DataW H) → Nat
  | [] => 0
  | x :: r => uptoBulkEntry x + uptoBulkEntries r
def uptoBulkEntry {H : Type} : Lit × DataW H → Nat
  | (.string bytes, d) => bytes.length + uptoBulk d + 1
  | (_, d) => uptoBulk d + 1
 end
def uptoSmall : (H : Type) → List (DataW H) → Bool := fun _ ds => decide (uptoBulkAll ds ≤ 1048576)
def OpenSpec.upto (s : _root_.Go.ChangeSpec) : _root_.Go.OpenSpec := { _root_.Go.OpenSpec.ofChange s with cond := some uptoSmall }

/-- 'metronomelaw15.FaultBorne', WHERE WHAT IT READS IS OF BULK AT MOST 1048576: true; the input reads as it did. -/
def faultBorneUptoRow : OpenClaim := { program := "ytmflnbdajaiahaa", sum := "d497bb93f6b23d22c09b5a6a0751dade438f09517632cebe1e71017ab0d36cb3", func := "metronome/metronomelaw15.FaultBorne", spec := "faultBorne", unfollowed := true, recurses := true, apart := false, narrowed := true }
def FaultBorneUptoSaid : Prop := faultBorneUptoRow.holds Try.pinned (OpenSpec.upto faultBorneSpec)

/-- 'metronomelaw15.FaultClean', WHERE WHAT IT READS IS OF BULK AT MOST 1048576: true; the input reads as it did. -/
def faultCleanUptoRow : OpenClaim := { program := "ytmflnbdajaiahaa", sum := "d497bb93f6b23d22c09b5a6a0751dade438f09517632cebe1e71017ab0d36cb3", func := "metronome/metronomelaw15.FaultClean", spec := "faultClean", unfollowed := true, recurses := true, apart := false, narrowed := true }
def FaultCleanUptoSaid : Prop := faultCleanUptoRow.holds Try.pinned (OpenSpec.upto faultCleanSpec)

/-- 'metronomelaw15.FaultLess', WHERE WHAT IT READS IS OF BULK AT MOST 1048576: true; the input reads as it did. -/
def faultLessUptoRow : OpenClaim := { program := "ytmflnbdajaiahaa", sum := "d497bb93f6b23d22c09b5a6a0751dade438f09517632cebe1e71017ab0d36cb3", func := "metronome/metronomelaw15.FaultLess", spec := "faultLess", unfollowed := true, recurses := true, apart := false, narrowed := true }
def FaultLessUptoSaid : Prop := faultLessUptoRow.holds Try.pinned (OpenSpec.upto faultLessSpec)

end Rows
end Go.Proofs.Ytmflnbdajaiahaa
