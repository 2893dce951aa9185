/-
  No cell of these rows narrows 'for every input' (looked for: loops, veiled, ifaces, maps, wideKeys, modest, calm, conditions, laid).
  DERIVED. THE GIVEN ROWS OF THIS SEAT. 5 by the template 'for every input the law returns true; each argument reads behind the call as it read before'; 0 by the template 'total and deterministic' (their statements: YtjaaldeaknmmbaaTotals.lean).
  GIVEN WITH THE SEED: the statements are not yours to turn. If you find one false, say at which input.
  Laid BY PROGRAM, IN A SANDBOX (cutbox-rows.mjs): the forced cells as the released guide's own fill.sh prints them over the translation 7e003ef5b5cf6325… (all of the seat's roots in one cut). By AI agents, Wed Nov 11 2026. No macro, syntax, notation, axiom, sorry.
-/
import Derived.Test.YtjaaldeaknmmbaaChecked
import GoSem.Claim
import GoSem.ClaimJoined
import GoSem.ClaimMapViews
import Derived.JoinedTies
import Derived.KernelRfl
namespace Go.Proofs.Ytjaaldeaknmmbaa
/- THE CELL 'sum', in the pinned program and in every row, IS THE sha256 OF THE DUMP (.gsa) THAT YtjaaldeaknmmbaaProg.lean LOADS. Nothing in Lean hashes anything: it is a label: what it is worth is what the hold of that sum in a sandbox is worth. -/
noncomputable def Try.pinned : Pinned := { name := "ytjaaldeaknmmbaa", sum := "7e003ef5b5cf6325dc19bef003e236ac2cbe0c82100838e4743e8852d74e5c21", checked := Try.checked }
namespace Rows
def none {H : Type} : Left H := { results := [], args := [] }

/-- 'metronomelaw25.TraceLess': WHATEVER THE INPUT: true; the input reads as it did. -/
def traceLessSpec : ChangeSpec := { name := "traceLess", fn := fun _ => fun
  | [d1, d2, d3, d4] => { results := [.lit (.bool true)], args := [d1, d2, d3, d4] }
  | _ => none }
def traceLessRow : OpenClaim := { program := "ytjaaldeaknmmbaa", sum := "7e003ef5b5cf6325dc19bef003e236ac2cbe0c82100838e4743e8852d74e5c21", func := "metronome/metronomelaw25.TraceLess", spec := "traceLess", unfollowed := true, recurses := true, apart := false }
def TraceLessSaid : Prop := traceLessRow.holds Try.pinned (OpenSpec.ofChange traceLessSpec)

/-- ITS FALSE NEIGHBOUR: 'it returns false'. Refute it at one input. -/
def traceLessWrong : ChangeSpec := { name := "traceLess", fn := fun _ => fun
  | [d1, d2, d3, d4] => { results := [.lit (.bool false)], args := [d1, d2, d3, d4] }
  | _ => none }
def TraceLessWrongFalsely : Prop := traceLessRow.holds Try.pinned (OpenSpec.ofChange traceLessWrong)

/-- 'metronomelaw25.TraceParts': WHATEVER THE INPUT: true; the input reads as it did. -/
def tracePartsSpec : ChangeSpec := { name := "traceParts", fn := fun _ => fun
  | [d] => { results := [.lit (.bool true)], args := [d] }
  | _ => none }
def tracePartsRow : OpenClaim := { program := "ytjaaldeaknmmbaa", sum := "7e003ef5b5cf6325dc19bef003e236ac2cbe0c82100838e4743e8852d74e5c21", func := "metronome/metronomelaw25.TraceParts", spec := "traceParts", unfollowed := true, recurses := true, apart := false }
def TracePartsSaid : Prop := tracePartsRow.holds Try.pinned (OpenSpec.ofChange tracePartsSpec)

/-- ITS FALSE NEIGHBOUR: 'it returns false'. Refute it at one input. -/
def tracePartsWrong : ChangeSpec := { name := "traceParts", fn := fun _ => fun
  | [d] => { results := [.lit (.bool false)], args := [d] }
  | _ => none }
def TracePartsWrongFalsely : Prop := tracePartsRow.holds Try.pinned (OpenSpec.ofChange tracePartsWrong)

/-- 'metronomelaw25.TraceTells': WHATEVER THE INPUT: true; the input reads as it did. -/
def traceTellsSpec : ChangeSpec := { name := "traceTells", fn := fun _ => fun
  | [d1, d2, d3, d4] => { results := [.lit (.bool true)], args := [d1, d2, d3, d4] }
  | _ => none }
def traceTellsRow : OpenClaim := { program := "ytjaaldeaknmmbaa", sum := "7e003ef5b5cf6325dc19bef003e236ac2cbe0c82100838e4743e8852d74e5c21", func := "metronome/metronomelaw25.TraceTells", spec := "traceTells", unfollowed := true, recurses := true, apart := false }
def TraceTellsSaid : Prop := traceTellsRow.holds Try.pinned (OpenSpec.ofChange traceTellsSpec)

/-- ITS FALSE NEIGHBOUR: 'it returns false'. Refute it at one input. -/
def traceTellsWrong : ChangeSpec := { name := "traceTells", fn := fun _ => fun
  | [d1, d2, d3, d4] => { results := [.lit (.bool false)], args := [d1, d2, d3, d4] }
  | _ => none }
def TraceTellsWrongFalsely : Prop := traceTellsRow.holds Try.pinned (OpenSpec.ofChange traceTellsWrong)

/-- 'metronomelaw25.TraceSame': WHATEVER THE INPUT: true; the input reads as it did. -/
def traceSameSpec : ChangeSpec := { name := "traceSame", fn := fun _ => fun
  | [d1, d2] => { results := [.lit (.bool true)], args := [d1, d2] }
  | _ => none }
def traceSameRow : OpenClaim := { program := "ytjaaldeaknmmbaa", sum := "7e003ef5b5cf6325dc19bef003e236ac2cbe0c82100838e4743e8852d74e5c21", func := "metronome/metronomelaw25.TraceSame", spec := "traceSame", unfollowed := true, recurses := true, apart := false }
def TraceSameSaid : Prop := traceSameRow.holds Try.pinned (OpenSpec.ofChange traceSameSpec)

/-- ITS FALSE NEIGHBOUR: 'it returns false'. Refute it at one input. -/
def traceSameWrong : ChangeSpec := { name := "traceSame", fn := fun _ => fun
  | [d1, d2] => { results := [.lit (.bool false)], args := [d1, d2] }
  | _ => none }
def TraceSameWrongFalsely : Prop := traceSameRow.holds Try.pinned (OpenSpec.ofChange traceSameWrong)

/-- 'metronomelaw25.TraceTables': WHATEVER THE INPUT: true; the input reads as it did. -/
def traceTablesSpec : ChangeSpec := { name := "traceTables", fn := fun _ => fun
  | [d] => { results := [.lit (.bool true)], args := [d] }
  | _ => none }
def traceTablesRow : OpenClaim := { program := "ytjaaldeaknmmbaa", sum := "7e003ef5b5cf6325dc19bef003e236ac2cbe0c82100838e4743e8852d74e5c21", func := "metronome/metronomelaw25.TraceTables", spec := "traceTables", inPlace := ["internal/abi.NoEscape"], unfollowed := true, recurses := true, apart := false }
def TraceTablesSaid : Prop := traceTablesRow.holds Try.pinned (OpenSpec.ofChange traceTablesSpec)

/-- ITS FALSE NEIGHBOUR: 'it returns false'. Refute it at one input. -/
def traceTablesWrong : ChangeSpec := { name := "traceTables", fn := fun _ => fun
  | [d] => { results := [.lit (.bool false)], args := [d] }
  | _ => none }
def TraceTablesWrongFalsely : Prop := traceTablesRow.holds Try.pinned (OpenSpec.ofChange traceTablesWrong)

/- THE SECOND FORM. 'bulk': how many values and letters a reading holds, each counted each time it is reached (what is shared counts as often as it is met; a slice's spare places count too). A statement '..UptoSaid' is the law's where the arguments, and the package variables that the reading takes, are together of bulk at most 1048576: NARROWER than '..Said'. Prove '..Said' where nothing that the law and all that it calls make is longer than what came in: it says more and counts as full. Else prove '..UptoSaid'. A law counts once. -/
mutual
def uptoBulk {H : Type} : DataW H → Nat
  | .lit (.string bytes) => bytes.length + 1
  | .lit _ => 1
  | .nil => 1
  | .ptr d => uptoBulk d + 1
  | .slice elems spare => uptoBulkAll elems + uptoBulkAll spare + 1
  | .agg parts => uptoBulkAll parts + 1
  | .iface _ d => uptoBulk d + 1
  | .map entries => uptoBulkEntries entries + 1
  | .held _ => 1
def uptoBulkAll {H : Type} : List (DataW H) → Nat
  | [] => 0
  | d :: r => uptoBulk d + uptoBulkAll r
def uptoBulkEntries {H : Type} : List (Lit × DataW H) → Nat
  | [] => 0
  | x :: r => uptoBulkEntry x + uptoBulkEntries r
def uptoBulkEntry {H : Type} : Lit × DataW H → Nat
  | (.string bytes, d) => bytes.length + uptoBulk d + 1
  | (_, d) => uptoBulk d + 1
 end
def uptoSmall : (H : Type) → List (DataW H) → Bool := fun _ ds => decide (uptoBulkAll ds ≤ 1048576)
def OpenSpec.upto (s : _root_.Go.ChangeSpec) : _root_.Go.OpenSpec := { _root_.Go.OpenSpec.ofChange s with cond := some uptoSmall }

/-- 'metronomelaw25.TraceLess', WHERE WHAT IT READS IS OF BULK AT MOST 1048576: true; the input reads as it did. -/
def traceLessUptoRow : OpenClaim := { program := "ytjaaldeaknmmbaa", sum := "7e003ef5b5cf6325dc19bef003e236ac2cbe0c82100838e4743e8852d74e5c21", func := "metronome/metronomelaw25.TraceLess", spec := "traceLess", unfollowed := true, recurses := true, apart := false, narrowed := true }
def TraceLessUptoSaid : Prop := traceLessUptoRow.holds Try.pinned (OpenSpec.upto traceLessSpec)

/-- 'metronomelaw25.TraceParts', WHERE WHAT IT READS IS OF BULK AT MOST 1048576: true; the input reads as it did. -/
def tracePartsUptoRow : OpenClaim := { program := "ytjaaldeaknmmbaa", sum := "7e003ef5b5cf6325dc19bef003e236ac2cbe0c82100838e4743e8852d74e5c21", func := "metronome/metronomelaw25.TraceParts", spec := "traceParts", unfollowed := true, recurses := true, apart := false, narrowed := true }
def TracePartsUptoSaid : Prop := tracePartsUptoRow.holds Try.pinned (OpenSpec.upto tracePartsSpec)

/-- 'metronomelaw25.TraceTells', WHERE WHAT IT READS IS OF BULK AT MOST 1048576: true; the input reads as it did. -/
def traceTellsUptoRow : OpenClaim := { program := "ytjaaldeaknmmbaa", sum := "7e003ef5b5cf6325dc19bef003e236ac2cbe0c82100838e4743e8852d74e5c21", func := "metronome/metronomelaw25.TraceTells", spec := "traceTells", unfollowed := true, recurses := true, apart := false, narrowed := true }
def TraceTellsUptoSaid : Prop := traceTellsUptoRow.holds Try.pinned (OpenSpec.upto traceTellsSpec)

/-- 'metronomelaw25.TraceSame', WHERE WHAT IT READS IS OF BULK AT MOST 1048576: true; the input reads as it did. -/
def traceSameUptoRow : OpenClaim := { program := "ytjaaldeaknmmbaa", sum := "7e003ef5b5cf6325dc19bef003e236ac2cbe0c82100838e4743e8852d74e5c21", func := "metronome/metronomelaw25.TraceSame", spec := "traceSame", unfollowed := true, recurses := true, apart := false, narrowed := true }
def TraceSameUptoSaid : Prop := traceSameUptoRow.holds Try.pinned (OpenSpec.upto traceSameSpec)

/-- 'metronomelaw25.TraceTables', WHERE WHAT IT READS IS OF BULK AT MOST 1048576: true; the input reads as it did. -/
def traceTablesUptoRow : OpenClaim := { program := "ytjaaldeaknmmbaa", sum := "7e003ef5b5cf6325dc19bef003e236ac2cbe0c82100838e4743e8852d74e5c21", func := "metronome/metronomelaw25.TraceTables", spec := "traceTables", inPlace := ["internal/abi.NoEscape"], unfollowed := true, recurses := true, apart := false, narrowed := true }
def TraceTablesUptoSaid : Prop := traceTablesUptoRow.holds Try.pinned (OpenSpec.upto traceTablesSpec)

end Rows
end Go.Proofs.Ytjaaldeaknmmbaa
