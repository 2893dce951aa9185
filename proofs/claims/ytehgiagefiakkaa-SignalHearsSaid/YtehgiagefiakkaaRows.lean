/-
  No cell of these rows narrows 'for every input' (looked for: loops, veiled, ifaces, maps, wideKeys, modest, calm, conditions, laid).
  DERIVED. THE GIVEN ROWS OF THIS SEAT. 6 by the template 'for every input the law returns true; each argument reads behind the call as it read before'; 0 by the template 'total and deterministic' (their statements: YtehgiagefiakkaaTotals.lean).
  GIVEN WITH THE SEED: the statements are not yours to turn. If you find one false, say at which input.
  Laid BY PROGRAM, IN A SANDBOX (cutbox-rows.mjs): the forced cells as the released guide's own fill.sh prints them over the translation c04440b72adaa113… (all of the seat's roots in one cut). By AI agents, Wed Nov 11 2026. No macro, syntax, notation, axiom, sorry.
-/
import Derived.Test.YtehgiagefiakkaaChecked
import GoSem.Claim
import GoSem.ClaimJoined
import GoSem.ClaimMapViews
import Derived.JoinedTies
import Derived.KernelRfl
namespace Go.Proofs.Ytehgiagefiakkaa
/- THE CELL 'sum', in the pinned program and in every row, IS THE sha256 OF THE DUMP (.gsa) THAT YtehgiagefiakkaaProg.lean LOADS. Nothing in Lean hashes anything: it is a label: what it is worth is what the hold of that sum in a sandbox is worth. -/
noncomputable def Try.pinned : Pinned := { name := "ytehgiagefiakkaa", sum := "c04440b72adaa1130985584257190a8a820fdaf4f55f53b03a1476969999b776", checked := Try.checked }
namespace Rows
def none {H : Type} : Left H := { results := [], args := [] }

/-- 'metronomelaw11.SignalMakes': WHATEVER THE INPUT: true; the input reads as it did. -/
def signalMakesSpec : ChangeSpec := { name := "signalMakes", fn := fun _ => fun
  | [d1, d2, d3, d4, d5] => { results := [.lit (.bool true)], args := [d1, d2, d3, d4, d5] }
  | _ => none }
def signalMakesRow : OpenClaim := { program := "ytehgiagefiakkaa", sum := "c04440b72adaa1130985584257190a8a820fdaf4f55f53b03a1476969999b776", func := "metronome/metronomelaw11.SignalMakes", spec := "signalMakes", unfollowed := true, recurses := true, apart := false }
def SignalMakesSaid : Prop := signalMakesRow.holds Try.pinned (OpenSpec.ofChange signalMakesSpec)

/-- ITS FALSE NEIGHBOUR: 'it returns false'. Refute it at one input. -/
def signalMakesWrong : ChangeSpec := { name := "signalMakes", fn := fun _ => fun
  | [d1, d2, d3, d4, d5] => { results := [.lit (.bool false)], args := [d1, d2, d3, d4, d5] }
  | _ => none }
def SignalMakesWrongFalsely : Prop := signalMakesRow.holds Try.pinned (OpenSpec.ofChange signalMakesWrong)

/-- 'metronomelaw11.SignalJudges': WHATEVER THE INPUT: true; the input reads as it did. -/
def signalJudgesSpec : ChangeSpec := { name := "signalJudges", fn := fun _ => fun
  | [d1, d2, d3, d4, d5] => { results := [.lit (.bool true)], args := [d1, d2, d3, d4, d5] }
  | _ => none }
def signalJudgesRow : OpenClaim := { program := "ytehgiagefiakkaa", sum := "c04440b72adaa1130985584257190a8a820fdaf4f55f53b03a1476969999b776", func := "metronome/metronomelaw11.SignalJudges", spec := "signalJudges", unfollowed := true, recurses := true, apart := false }
def SignalJudgesSaid : Prop := signalJudgesRow.holds Try.pinned (OpenSpec.ofChange signalJudgesSpec)

/-- ITS FALSE NEIGHBOUR: 'it returns false'. Refute it at one input. -/
def signalJudgesWrong : ChangeSpec := { name := "signalJudges", fn := fun _ => fun
  | [d1, d2, d3, d4, d5] => { results := [.lit (.bool false)], args := [d1, d2, d3, d4, d5] }
  | _ => none }
def SignalJudgesWrongFalsely : Prop := signalJudgesRow.holds Try.pinned (OpenSpec.ofChange signalJudgesWrong)

/-- 'metronomelaw11.SignalLater': WHATEVER THE INPUT: true; the input reads as it did. -/
def signalLaterSpec : ChangeSpec := { name := "signalLater", fn := fun _ => fun
  | [d1, d2, d3, d4, d5] => { results := [.lit (.bool true)], args := [d1, d2, d3, d4, d5] }
  | _ => none }
def signalLaterRow : OpenClaim := { program := "ytehgiagefiakkaa", sum := "c04440b72adaa1130985584257190a8a820fdaf4f55f53b03a1476969999b776", func := "metronome/metronomelaw11.SignalLater", spec := "signalLater", unfollowed := true, recurses := true, apart := false }
def SignalLaterSaid : Prop := signalLaterRow.holds Try.pinned (OpenSpec.ofChange signalLaterSpec)

/-- ITS FALSE NEIGHBOUR: 'it returns false'. Refute it at one input. -/
def signalLaterWrong : ChangeSpec := { name := "signalLater", fn := fun _ => fun
  | [d1, d2, d3, d4, d5] => { results := [.lit (.bool false)], args := [d1, d2, d3, d4, d5] }
  | _ => none }
def SignalLaterWrongFalsely : Prop := signalLaterRow.holds Try.pinned (OpenSpec.ofChange signalLaterWrong)

/-- 'metronomelaw11.SignalAlone': WHATEVER THE INPUT: true; the input reads as it did. -/
def signalAloneSpec : ChangeSpec := { name := "signalAlone", fn := fun _ => fun
  | [d1, d2, d3, d4, d5] => { results := [.lit (.bool true)], args := [d1, d2, d3, d4, d5] }
  | _ => none }
def signalAloneRow : OpenClaim := { program := "ytehgiagefiakkaa", sum := "c04440b72adaa1130985584257190a8a820fdaf4f55f53b03a1476969999b776", func := "metronome/metronomelaw11.SignalAlone", spec := "signalAlone", unfollowed := true, recurses := true, apart := false }
def SignalAloneSaid : Prop := signalAloneRow.holds Try.pinned (OpenSpec.ofChange signalAloneSpec)

/-- ITS FALSE NEIGHBOUR: 'it returns false'. Refute it at one input. -/
def signalAloneWrong : ChangeSpec := { name := "signalAlone", fn := fun _ => fun
  | [d1, d2, d3, d4, d5] => { results := [.lit (.bool false)], args := [d1, d2, d3, d4, d5] }
  | _ => none }
def SignalAloneWrongFalsely : Prop := signalAloneRow.holds Try.pinned (OpenSpec.ofChange signalAloneWrong)

/-- 'metronomelaw11.SignalLower': WHATEVER THE INPUT: true; the input reads as it did. -/
def signalLowerSpec : ChangeSpec := { name := "signalLower", fn := fun _ => fun
  | [d1, d2, d3, d4, d5] => { results := [.lit (.bool true)], args := [d1, d2, d3, d4, d5] }
  | _ => none }
def signalLowerRow : OpenClaim := { program := "ytehgiagefiakkaa", sum := "c04440b72adaa1130985584257190a8a820fdaf4f55f53b03a1476969999b776", func := "metronome/metronomelaw11.SignalLower", spec := "signalLower", unfollowed := true, recurses := true, apart := false }
def SignalLowerSaid : Prop := signalLowerRow.holds Try.pinned (OpenSpec.ofChange signalLowerSpec)

/-- ITS FALSE NEIGHBOUR: 'it returns false'. Refute it at one input. -/
def signalLowerWrong : ChangeSpec := { name := "signalLower", fn := fun _ => fun
  | [d1, d2, d3, d4, d5] => { results := [.lit (.bool false)], args := [d1, d2, d3, d4, d5] }
  | _ => none }
def SignalLowerWrongFalsely : Prop := signalLowerRow.holds Try.pinned (OpenSpec.ofChange signalLowerWrong)

/-- 'metronomelaw11.SignalHears': WHATEVER THE INPUT: true; the input reads as it did. -/
def signalHearsSpec : ChangeSpec := { name := "signalHears", fn := fun _ => fun
  | [d1, d2, d3, d4] => { results := [.lit (.bool true)], args := [d1, d2, d3, d4] }
  | _ => none }
def signalHearsRow : OpenClaim := { program := "ytehgiagefiakkaa", sum := "c04440b72adaa1130985584257190a8a820fdaf4f55f53b03a1476969999b776", func := "metronome/metronomelaw11.SignalHears", spec := "signalHears", unfollowed := true, recurses := true, apart := false }
def SignalHearsSaid : Prop := signalHearsRow.holds Try.pinned (OpenSpec.ofChange signalHearsSpec)

/-- ITS FALSE NEIGHBOUR: 'it returns false'. Refute it at one input. -/
def signalHearsWrong : ChangeSpec := { name := "signalHears", fn := fun _ => fun
  | [d1, d2, d3, d4] => { results := [.lit (.bool false)], args := [d1, d2, d3, d4] }
  | _ => none }
def SignalHearsWrongFalsely : Prop := signalHearsRow.holds Try.pinned (OpenSpec.ofChange signalHearsWrong)

/- THE SECOND FORM. 'bulk': how many values and letters a reading holds, each counted each time it is reached (what is shared counts as often as it is met; a slice's spare places count too). A statement '..UptoSaid' is the law's where the arguments, and the package variables that the reading takes, are together of bulk at most 1048576: NARROWER than '..Said'. Prove '..Said' where nothing that the law and all that it calls make is longer than what came in: it says more and counts as full. Else prove '..UptoSaid'. A law counts once. -/
mutual
def uptoBulk {H : Type} : DataW H → Nat
  | .lit (.string bytes) => bytes.length + 1
  | .lit _ => 1
  | .nil => 1
  | .ptr d => uptoBulk d + 1
  | .slice elems spare => uptoBulkAll elems + uptoBulkAll spare + 1
  | .agg parts => uptoBulkAll parts + 1
  | .iface _ d => uptoBulk d + 1
  | .map entries => uptoBulkEntries entries + 1
  | .held _ => 1
def uptoBulkAll {H : Type} : List (DataW H) → Nat
  | [] => 0
  | d :: r => uptoBulk d + uptoBulkAll r
def uptoBulkEntries {H : Type} : List (Lit × DataW H) → Nat
  | [] => 0
  | x :: r => uptoBulkEntry x + uptoBulkEntries r
def uptoBulkEntry {H : Type} : Lit × DataW H → Nat
  | (.string bytes, d) => bytes.length + uptoBulk d + 1
  | (_, d) => uptoBulk d + 1
 end
def uptoSmall : (H : Type) → List (DataW H) → Bool := fun _ ds => decide (uptoBulkAll ds ≤ 1048576)
def OpenSpec.upto (s : _root_.Go.ChangeSpec) : _root_.Go.OpenSpec := { _root_.Go.OpenSpec.ofChange s with cond := some uptoSmall }

/-- 'metronomelaw11.SignalMakes', WHERE WHAT IT READS IS OF BULK AT MOST 1048576: true; the input reads as it did. -/
def signalMakesUptoRow : OpenClaim := { program := "ytehgiagefiakkaa", sum := "c04440b72adaa1130985584257190a8a820fdaf4f55f53b03a1476969999b776", func := "metronome/metronomelaw11.SignalMakes", spec := "signalMakes", unfollowed := true, recurses := true, apart := false, narrowed := true }
def SignalMakesUptoSaid : Prop := signalMakesUptoRow.holds Try.pinned (OpenSpec.upto signalMakesSpec)

/-- 'metronomelaw11.SignalJudges', WHERE WHAT IT READS IS OF BULK AT MOST 1048576: true; the input reads as it did. -/
def signalJudgesUptoRow : OpenClaim := { program := "ytehgiagefiakkaa", sum := "c04440b72adaa1130985584257190a8a820fdaf4f55f53b03a1476969999b776", func := "metronome/metronomelaw11.SignalJudges", spec := "signalJudges", unfollowed := true, recurses := true, apart := false, narrowed := true }
def SignalJudgesUptoSaid : Prop := signalJudgesUptoRow.holds Try.pinned (OpenSpec.upto signalJudgesSpec)

/-- 'metronomelaw11.SignalLater', WHERE WHAT IT READS IS OF BULK AT MOST 1048576: true; the input reads as it did. -/
def signalLaterUptoRow : OpenClaim := { program := "ytehgiagefiakkaa", sum := "c04440b72adaa1130985584257190a8a820fdaf4f55f53b03a1476969999b776", func := "metronome/metronomelaw11.SignalLater", spec := "signalLater", unfollowed := true, recurses := true, apart := false, narrowed := true }
def SignalLaterUptoSaid : Prop := signalLaterUptoRow.holds Try.pinned (OpenSpec.upto signalLaterSpec)

/-- 'metronomelaw11.SignalAlone', WHERE WHAT IT READS IS OF BULK AT MOST 1048576: true; the input reads as it did. -/
def signalAloneUptoRow : OpenClaim := { program := "ytehgiagefiakkaa", sum := "c04440b72adaa1130985584257190a8a820fdaf4f55f53b03a1476969999b776", func := "metronome/metronomelaw11.SignalAlone", spec := "signalAlone", unfollowed := true, recurses := true, apart := false, narrowed := true }
def SignalAloneUptoSaid : Prop := signalAloneUptoRow.holds Try.pinned (OpenSpec.upto signalAloneSpec)

/-- 'metronomelaw11.SignalLower', WHERE WHAT IT READS IS OF BULK AT MOST 1048576: true; the input reads as it did. -/
def signalLowerUptoRow : OpenClaim := { program := "ytehgiagefiakkaa", sum := "c04440b72adaa1130985584257190a8a820fdaf4f55f53b03a1476969999b776", func := "metronome/metronomelaw11.SignalLower", spec := "signalLower", unfollowed := true, recurses := true, apart := false, narrowed := true }
def SignalLowerUptoSaid : Prop := signalLowerUptoRow.holds Try.pinned (OpenSpec.upto signalLowerSpec)

/-- 'metronomelaw11.SignalHears', WHERE WHAT IT READS IS OF BULK AT MOST 1048576: true; the input reads as it did. -/
def signalHearsUptoRow : OpenClaim := { program := "ytehgiagefiakkaa", sum := "c04440b72adaa1130985584257190a8a820fdaf4f55f53b03a1476969999b776", func := "metronome/metronomelaw11.SignalHears", spec := "signalHears", unfollowed := true, recurses := true, apart := false, narrowed := true }
def SignalHearsUptoSaid : Prop := signalHearsUptoRow.holds Try.pinned (OpenSpec.upto signalHearsSpec)

end Rows
end Go.Proofs.Ytehgiagefiakkaa
