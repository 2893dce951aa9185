/-
  No cell of these rows narrows 'for every input' (looked for: loops, veiled, ifaces, maps, wideKeys, modest, calm, conditions, laid).
  DERIVED. THE GIVEN ROWS OF THIS SEAT. 6 by the template 'for every input the law returns true; each argument reads behind the call as it read before'; 0 by the template 'total and deterministic' (their statements: YtalcgleepobccaaTotals.lean).
  GIVEN WITH THE SEED: the statements are not yours to turn. If you find one false, say at which input.
  Laid BY PROGRAM, IN A SANDBOX (cutbox-rows.mjs): the forced cells as the released guide's own fill.sh prints them over the translation 045aa087c15c420a… (all of the seat's roots in one cut). By AI agents, Wed Nov 11 2026. No macro, syntax, notation, axiom, sorry.
-/
import Derived.Test.YtalcgleepobccaaChecked
import GoSem.Claim
import GoSem.ClaimJoined
import GoSem.ClaimMapViews
import Derived.JoinedTies
import Derived.KernelRfl
namespace Go.Proofs.Ytalcgleepobccaa
/- THE CELL 'sum', in the pinned program and in every row, IS THE sha256 OF THE DUMP (.gsa) THAT YtalcgleepobccaaProg.lean LOADS. Nothing in Lean hashes anything: it is a label: what it is worth is what the hold of that sum in a sandbox is worth. -/
noncomputable def Try.pinned : Pinned := { name := "ytalcgleepobccaa", sum := "045aa087c15c420a3e838cf9f567dcc257a1fb1af5a0d5fe0494741033854a56", checked := Try.checked }
namespace Rows
def none {H : Type} : Left H := { results := [], args := [] }

/-- 'metronomelaw08.FtaWithin': WHATEVER THE INPUT: true; the input reads as it did. -/
def ftaWithinSpec : ChangeSpec := { name := "ftaWithin", fn := fun _ => fun
  | [d1, d2, d3] => { results := [.lit (.bool true)], args := [d1, d2, d3] }
  | _ => none }
def ftaWithinRow : OpenClaim := { program := "ytalcgleepobccaa", sum := "045aa087c15c420a3e838cf9f567dcc257a1fb1af5a0d5fe0494741033854a56", func := "metronome/metronomelaw08.FtaWithin", spec := "ftaWithin", unfollowed := true, recurses := true, apart := false }
def FtaWithinSaid : Prop := ftaWithinRow.holds Try.pinned (OpenSpec.ofChange ftaWithinSpec)

/-- ITS FALSE NEIGHBOUR: 'it returns false'. Refute it at one input. -/
def ftaWithinWrong : ChangeSpec := { name := "ftaWithin", fn := fun _ => fun
  | [d1, d2, d3] => { results := [.lit (.bool false)], args := [d1, d2, d3] }
  | _ => none }
def FtaWithinWrongFalsely : Prop := ftaWithinRow.holds Try.pinned (OpenSpec.ofChange ftaWithinWrong)

/-- 'metronomelaw08.FtaRises': WHATEVER THE INPUT: true; the input reads as it did. -/
def ftaRisesSpec : ChangeSpec := { name := "ftaRises", fn := fun _ => fun
  | [d1, d2, d3] => { results := [.lit (.bool true)], args := [d1, d2, d3] }
  | _ => none }
def ftaRisesRow : OpenClaim := { program := "ytalcgleepobccaa", sum := "045aa087c15c420a3e838cf9f567dcc257a1fb1af5a0d5fe0494741033854a56", func := "metronome/metronomelaw08.FtaRises", spec := "ftaRises", unfollowed := true, recurses := true, apart := false }
def FtaRisesSaid : Prop := ftaRisesRow.holds Try.pinned (OpenSpec.ofChange ftaRisesSpec)

/-- ITS FALSE NEIGHBOUR: 'it returns false'. Refute it at one input. -/
def ftaRisesWrong : ChangeSpec := { name := "ftaRises", fn := fun _ => fun
  | [d1, d2, d3] => { results := [.lit (.bool false)], args := [d1, d2, d3] }
  | _ => none }
def FtaRisesWrongFalsely : Prop := ftaRisesRow.holds Try.pinned (OpenSpec.ofChange ftaRisesWrong)

/-- 'metronomelaw08.FtaFault': WHATEVER THE INPUT: true; the input reads as it did. -/
def ftaFaultSpec : ChangeSpec := { name := "ftaFault", fn := fun _ => fun
  | [d1, d2, d3, d4, d5] => { results := [.lit (.bool true)], args := [d1, d2, d3, d4, d5] }
  | _ => none }
def ftaFaultRow : OpenClaim := { program := "ytalcgleepobccaa", sum := "045aa087c15c420a3e838cf9f567dcc257a1fb1af5a0d5fe0494741033854a56", func := "metronome/metronomelaw08.FtaFault", spec := "ftaFault", unfollowed := true, recurses := true, apart := false }
def FtaFaultSaid : Prop := ftaFaultRow.holds Try.pinned (OpenSpec.ofChange ftaFaultSpec)

/-- ITS FALSE NEIGHBOUR: 'it returns false'. Refute it at one input. -/
def ftaFaultWrong : ChangeSpec := { name := "ftaFault", fn := fun _ => fun
  | [d1, d2, d3, d4, d5] => { results := [.lit (.bool false)], args := [d1, d2, d3, d4, d5] }
  | _ => none }
def FtaFaultWrongFalsely : Prop := ftaFaultRow.holds Try.pinned (OpenSpec.ofChange ftaFaultWrong)

/-- 'metronomelaw08.FtaMeans': WHATEVER THE INPUT: true; the input reads as it did. -/
def ftaMeansSpec : ChangeSpec := { name := "ftaMeans", fn := fun _ => fun
  | [d] => { results := [.lit (.bool true)], args := [d] }
  | _ => none }
def ftaMeansRow : OpenClaim := { program := "ytalcgleepobccaa", sum := "045aa087c15c420a3e838cf9f567dcc257a1fb1af5a0d5fe0494741033854a56", func := "metronome/metronomelaw08.FtaMeans", spec := "ftaMeans", unfollowed := true, recurses := true, apart := false }
def FtaMeansSaid : Prop := ftaMeansRow.holds Try.pinned (OpenSpec.ofChange ftaMeansSpec)

/-- ITS FALSE NEIGHBOUR: 'it returns false'. Refute it at one input. -/
def ftaMeansWrong : ChangeSpec := { name := "ftaMeans", fn := fun _ => fun
  | [d] => { results := [.lit (.bool false)], args := [d] }
  | _ => none }
def FtaMeansWrongFalsely : Prop := ftaMeansRow.holds Try.pinned (OpenSpec.ofChange ftaMeansWrong)

/-- 'metronomelaw08.FtaRounds': WHATEVER THE INPUT: true; the input reads as it did. -/
def ftaRoundsSpec : ChangeSpec := { name := "ftaRounds", fn := fun _ => fun
  | [d1, d2, d3] => { results := [.lit (.bool true)], args := [d1, d2, d3] }
  | _ => none }
def ftaRoundsRow : OpenClaim := { program := "ytalcgleepobccaa", sum := "045aa087c15c420a3e838cf9f567dcc257a1fb1af5a0d5fe0494741033854a56", func := "metronome/metronomelaw08.FtaRounds", spec := "ftaRounds", unfollowed := true, recurses := true, apart := false }
def FtaRoundsSaid : Prop := ftaRoundsRow.holds Try.pinned (OpenSpec.ofChange ftaRoundsSpec)

/-- ITS FALSE NEIGHBOUR: 'it returns false'. Refute it at one input. -/
def ftaRoundsWrong : ChangeSpec := { name := "ftaRounds", fn := fun _ => fun
  | [d1, d2, d3] => { results := [.lit (.bool false)], args := [d1, d2, d3] }
  | _ => none }
def FtaRoundsWrongFalsely : Prop := ftaRoundsRow.holds Try.pinned (OpenSpec.ofChange ftaRoundsWrong)

/-- 'metronomelaw08.FtaTogether': WHATEVER THE INPUT: true; the input reads as it did. -/
def ftaTogetherSpec : ChangeSpec := { name := "ftaTogether", fn := fun _ => fun
  | [d1, d2] => { results := [.lit (.bool true)], args := [d1, d2] }
  | _ => none }
def ftaTogetherRow : OpenClaim := { program := "ytalcgleepobccaa", sum := "045aa087c15c420a3e838cf9f567dcc257a1fb1af5a0d5fe0494741033854a56", func := "metronome/metronomelaw08.FtaTogether", spec := "ftaTogether", unfollowed := true, recurses := true, apart := false }
def FtaTogetherSaid : Prop := ftaTogetherRow.holds Try.pinned (OpenSpec.ofChange ftaTogetherSpec)

/-- ITS FALSE NEIGHBOUR: 'it returns false'. Refute it at one input. -/
def ftaTogetherWrong : ChangeSpec := { name := "ftaTogether", fn := fun _ => fun
  | [d1, d2] => { results := [.lit (.bool false)], args := [d1, d2] }
  | _ => none }
def FtaTogetherWrongFalsely : Prop := ftaTogetherRow.holds Try.pinned (OpenSpec.ofChange ftaTogetherWrong)

/- THE SECOND FORM. 'bulk': how many values and letters a reading holds, each counted each time it is reached (what is shared counts as often as it is met; a slice's spare places count too). A statement '..UptoSaid' is the law's where the arguments, and the package variables that the reading takes, are together of bulk at most 1048576: NARROWER than '..Said'. Prove '..Said' where nothing that the law and all that it calls make is longer than what came in: it says more and counts as full. Else prove '..UptoSaid'. A law counts once. -/
mutual
def uptoBulk {H : Type} : DataW H → Nat
  | .lit (.string bytes) => bytes.length + 1
  | .lit _ => 1
  | .nil => 1
  | .ptr d => uptoBulk d + 1
  | .slice elems spare => uptoBulkAll elems + uptoBulkAll spare + 1
  | .agg parts => uptoBulkAll parts + 1
  | .iface _ d => uptoBulk d + 1
  | .map entries => uptoBulkEntries entries + 1
  | .held _ => 1
def uptoBulkAll {H : Type} : List (DataW H) → Nat
  | [] => 0
  | d :: r => uptoBulk d + uptoBulkAll r
def uptoBulkEntries {H : Type} : List (Lit × DataW H) → Nat
  | [] => 0
  | x :: r => uptoBulkEntry x + uptoBulkEntries r
def uptoBulkEntry {H : Type} : Lit × DataW H → Nat
  | (.string bytes, d) => bytes.length + uptoBulk d + 1
  | (_, d) => uptoBulk d + 1
 end
def uptoSmall : (H : Type) → List (DataW H) → Bool := fun _ ds => decide (uptoBulkAll ds ≤ 1048576)
def OpenSpec.upto (s : _root_.Go.ChangeSpec) : _root_.Go.OpenSpec := { _root_.Go.OpenSpec.ofChange s with cond := some uptoSmall }

/-- 'metronomelaw08.FtaWithin', WHERE WHAT IT READS IS OF BULK AT MOST 1048576: true; the input reads as it did. -/
def ftaWithinUptoRow : OpenClaim := { program := "ytalcgleepobccaa", sum := "045aa087c15c420a3e838cf9f567dcc257a1fb1af5a0d5fe0494741033854a56", func := "metronome/metronomelaw08.FtaWithin", spec := "ftaWithin", unfollowed := true, recurses := true, apart := false, narrowed := true }
def FtaWithinUptoSaid : Prop := ftaWithinUptoRow.holds Try.pinned (OpenSpec.upto ftaWithinSpec)

/-- 'metronomelaw08.FtaRises', WHERE WHAT IT READS IS OF BULK AT MOST 1048576: true; the input reads as it did. -/
def ftaRisesUptoRow : OpenClaim := { program := "ytalcgleepobccaa", sum := "045aa087c15c420a3e838cf9f567dcc257a1fb1af5a0d5fe0494741033854a56", func := "metronome/metronomelaw08.FtaRises", spec := "ftaRises", unfollowed := true, recurses := true, apart := false, narrowed := true }
def FtaRisesUptoSaid : Prop := ftaRisesUptoRow.holds Try.pinned (OpenSpec.upto ftaRisesSpec)

/-- 'metronomelaw08.FtaFault', WHERE WHAT IT READS IS OF BULK AT MOST 1048576: true; the input reads as it did. -/
def ftaFaultUptoRow : OpenClaim := { program := "ytalcgleepobccaa", sum := "045aa087c15c420a3e838cf9f567dcc257a1fb1af5a0d5fe0494741033854a56", func := "metronome/metronomelaw08.FtaFault", spec := "ftaFault", unfollowed := true, recurses := true, apart := false, narrowed := true }
def FtaFaultUptoSaid : Prop := ftaFaultUptoRow.holds Try.pinned (OpenSpec.upto ftaFaultSpec)

/-- 'metronomelaw08.FtaMeans', WHERE WHAT IT READS IS OF BULK AT MOST 1048576: true; the input reads as it did. -/
def ftaMeansUptoRow : OpenClaim := { program := "ytalcgleepobccaa", sum := "045aa087c15c420a3e838cf9f567dcc257a1fb1af5a0d5fe0494741033854a56", func := "metronome/metronomelaw08.FtaMeans", spec := "ftaMeans", unfollowed := true, recurses := true, apart := false, narrowed := true }
def FtaMeansUptoSaid : Prop := ftaMeansUptoRow.holds Try.pinned (OpenSpec.upto ftaMeansSpec)

/-- 'metronomelaw08.FtaRounds', WHERE WHAT IT READS IS OF BULK AT MOST 1048576: true; the input reads as it did. -/
def ftaRoundsUptoRow : OpenClaim := { program := "ytalcgleepobccaa", sum := "045aa087c15c420a3e838cf9f567dcc257a1fb1af5a0d5fe0494741033854a56", func := "metronome/metronomelaw08.FtaRounds", spec := "ftaRounds", unfollowed := true, recurses := true, apart := false, narrowed := true }
def FtaRoundsUptoSaid : Prop := ftaRoundsUptoRow.holds Try.pinned (OpenSpec.upto ftaRoundsSpec)

/-- 'metronomelaw08.FtaTogether', WHERE WHAT IT READS IS OF BULK AT MOST 1048576: true; the input reads as it did. -/
def ftaTogetherUptoRow : OpenClaim := { program := "ytalcgleepobccaa", sum := "045aa087c15c420a3e838cf9f567dcc257a1fb1af5a0d5fe0494741033854a56", func := "metronome/metronomelaw08.FtaTogether", spec := "ftaTogether", unfollowed := true, recurses := true, apart := false, narrowed := true }
def FtaTogetherUptoSaid : Prop := ftaTogetherUptoRow.holds Try.pinned (OpenSpec.upto ftaTogetherSpec)

end Rows
end Go.Proofs.Ytalcgleepobccaa
