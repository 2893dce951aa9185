/-
  No cell of these rows narrows 'for every input' (looked for: loops, veiled, ifaces, maps, wideKeys, modest, calm, conditions, laid).
  DERIVED. THE GIVEN ROWS OF THIS SEAT. 6 by the template 'for every input the law returns true; each argument reads behind the call as it read before'; 0 by the template 'total and deterministic' (their statements: YtimcljlbjnhpnaaTotals.lean).
  GIVEN WITH THE SEED: the statements are not yours to turn. If you find one false, say at which input.
  Laid BY PROGRAM, IN A SANDBOX (cutbox-rows.mjs): the forced cells as the released guide's own fill.sh prints them over the translation 2878a740189bcfbd… (all of the seat's roots in one cut). By AI agents, Wed Nov 11 2026. No macro, syntax, notation, axiom, sorry.
-/
import Derived.Test.YtimcljlbjnhpnaaChecked
import GoSem.Claim
import GoSem.ClaimJoined
import GoSem.ClaimMapViews
import Derived.JoinedTies
import Derived.KernelRfl
namespace Go.Proofs.Ytimcljlbjnhpnaa
/- THE CELL 'sum', in the pinned program and in every row, IS THE sha256 OF THE DUMP (.gsa) THAT YtimcljlbjnhpnaaProg.lean LOADS. Nothing in Lean hashes anything: it is a label: what it is worth is what the hold of that sum in a sandbox is worth. -/
noncomputable def Try.pinned : Pinned := { name := "ytimcljlbjnhpnaa", sum := "2878a740189bcfbddff040274370af80bf8b303e9ef2ab4d3e51a0d40e150bba", checked := Try.checked }
namespace Rows
def none {H : Type} : Left H := { results := [], args := [] }

/-- 'metronomelaw13.ClockWithin': WHATEVER THE INPUT: true; the input reads as it did. -/
def clockWithinSpec : ChangeSpec := { name := "clockWithin", fn := fun _ => fun
  | [d1, d2] => { results := [.lit (.bool true)], args := [d1, d2] }
  | _ => none }
def clockWithinRow : OpenClaim := { program := "ytimcljlbjnhpnaa", sum := "2878a740189bcfbddff040274370af80bf8b303e9ef2ab4d3e51a0d40e150bba", func := "metronome/metronomelaw13.ClockWithin", spec := "clockWithin", unfollowed := true, recurses := true, apart := false }
def ClockWithinSaid : Prop := clockWithinRow.holds Try.pinned (OpenSpec.ofChange clockWithinSpec)

/-- ITS FALSE NEIGHBOUR: 'it returns false'. Refute it at one input. -/
def clockWithinWrong : ChangeSpec := { name := "clockWithin", fn := fun _ => fun
  | [d1, d2] => { results := [.lit (.bool false)], args := [d1, d2] }
  | _ => none }
def ClockWithinWrongFalsely : Prop := clockWithinRow.holds Try.pinned (OpenSpec.ofChange clockWithinWrong)

/-- 'metronomelaw13.ClockHears': WHATEVER THE INPUT: true; the input reads as it did. -/
def clockHearsSpec : ChangeSpec := { name := "clockHears", fn := fun _ => fun
  | [d1, d2, d3] => { results := [.lit (.bool true)], args := [d1, d2, d3] }
  | _ => none }
def clockHearsRow : OpenClaim := { program := "ytimcljlbjnhpnaa", sum := "2878a740189bcfbddff040274370af80bf8b303e9ef2ab4d3e51a0d40e150bba", func := "metronome/metronomelaw13.ClockHears", spec := "clockHears", unfollowed := true, recurses := true, apart := false }
def ClockHearsSaid : Prop := clockHearsRow.holds Try.pinned (OpenSpec.ofChange clockHearsSpec)

/-- ITS FALSE NEIGHBOUR: 'it returns false'. Refute it at one input. -/
def clockHearsWrong : ChangeSpec := { name := "clockHears", fn := fun _ => fun
  | [d1, d2, d3] => { results := [.lit (.bool false)], args := [d1, d2, d3] }
  | _ => none }
def ClockHearsWrongFalsely : Prop := clockHearsRow.holds Try.pinned (OpenSpec.ofChange clockHearsWrong)

/-- 'metronomelaw13.ClockApart': WHATEVER THE INPUT: true; the input reads as it did. -/
def clockApartSpec : ChangeSpec := { name := "clockApart", fn := fun _ => fun
  | [d1, d2, d3, d4, d5] => { results := [.lit (.bool true)], args := [d1, d2, d3, d4, d5] }
  | _ => none }
def clockApartRow : OpenClaim := { program := "ytimcljlbjnhpnaa", sum := "2878a740189bcfbddff040274370af80bf8b303e9ef2ab4d3e51a0d40e150bba", func := "metronome/metronomelaw13.ClockApart", spec := "clockApart", unfollowed := true, recurses := true, apart := false }
def ClockApartSaid : Prop := clockApartRow.holds Try.pinned (OpenSpec.ofChange clockApartSpec)

/-- ITS FALSE NEIGHBOUR: 'it returns false'. Refute it at one input. -/
def clockApartWrong : ChangeSpec := { name := "clockApart", fn := fun _ => fun
  | [d1, d2, d3, d4, d5] => { results := [.lit (.bool false)], args := [d1, d2, d3, d4, d5] }
  | _ => none }
def ClockApartWrongFalsely : Prop := clockApartRow.holds Try.pinned (OpenSpec.ofChange clockApartWrong)

/-- 'metronomelaw13.ClockTells': WHATEVER THE INPUT: true; the input reads as it did. -/
def clockTellsSpec : ChangeSpec := { name := "clockTells", fn := fun _ => fun
  | [d1, d2, d3] => { results := [.lit (.bool true)], args := [d1, d2, d3] }
  | _ => none }
def clockTellsRow : OpenClaim := { program := "ytimcljlbjnhpnaa", sum := "2878a740189bcfbddff040274370af80bf8b303e9ef2ab4d3e51a0d40e150bba", func := "metronome/metronomelaw13.ClockTells", spec := "clockTells", unfollowed := true, recurses := true, apart := false }
def ClockTellsSaid : Prop := clockTellsRow.holds Try.pinned (OpenSpec.ofChange clockTellsSpec)

/-- ITS FALSE NEIGHBOUR: 'it returns false'. Refute it at one input. -/
def clockTellsWrong : ChangeSpec := { name := "clockTells", fn := fun _ => fun
  | [d1, d2, d3] => { results := [.lit (.bool false)], args := [d1, d2, d3] }
  | _ => none }
def ClockTellsWrongFalsely : Prop := clockTellsRow.holds Try.pinned (OpenSpec.ofChange clockTellsWrong)

/-- 'metronomelaw13.ClockTogether': WHATEVER THE INPUT: true; the input reads as it did. -/
def clockTogetherSpec : ChangeSpec := { name := "clockTogether", fn := fun _ => fun
  | [d1, d2, d3, d4] => { results := [.lit (.bool true)], args := [d1, d2, d3, d4] }
  | _ => none }
def clockTogetherRow : OpenClaim := { program := "ytimcljlbjnhpnaa", sum := "2878a740189bcfbddff040274370af80bf8b303e9ef2ab4d3e51a0d40e150bba", func := "metronome/metronomelaw13.ClockTogether", spec := "clockTogether", unfollowed := true, recurses := true, apart := false }
def ClockTogetherSaid : Prop := clockTogetherRow.holds Try.pinned (OpenSpec.ofChange clockTogetherSpec)

/-- ITS FALSE NEIGHBOUR: 'it returns false'. Refute it at one input. -/
def clockTogetherWrong : ChangeSpec := { name := "clockTogether", fn := fun _ => fun
  | [d1, d2, d3, d4] => { results := [.lit (.bool false)], args := [d1, d2, d3, d4] }
  | _ => none }
def ClockTogetherWrongFalsely : Prop := clockTogetherRow.holds Try.pinned (OpenSpec.ofChange clockTogetherWrong)

/-- 'metronomelaw13.ClockGoes': WHATEVER THE INPUT: true; the input reads as it did. -/
def clockGoesSpec : ChangeSpec := { name := "clockGoes", fn := fun _ => fun
  | [d1, d2, d3, d4, d5] => { results := [.lit (.bool true)], args := [d1, d2, d3, d4, d5] }
  | _ => none }
def clockGoesRow : OpenClaim := { program := "ytimcljlbjnhpnaa", sum := "2878a740189bcfbddff040274370af80bf8b303e9ef2ab4d3e51a0d40e150bba", func := "metronome/metronomelaw13.ClockGoes", spec := "clockGoes", unfollowed := true, recurses := true, apart := false }
def ClockGoesSaid : Prop := clockGoesRow.holds Try.pinned (OpenSpec.ofChange clockGoesSpec)

/-- ITS FALSE NEIGHBOUR: 'it returns false'. Refute it at one input. -/
def clockGoesWrong : ChangeSpec := { name := "clockGoes", fn := fun _ => fun
  | [d1, d2, d3, d4, d5] => { results := [.lit (.bool false)], args := [d1, d2, d3, d4, d5] }
  | _ => none }
def ClockGoesWrongFalsely : Prop := clockGoesRow.holds Try.pinned (OpenSpec.ofChange clockGoesWrong)

/- THE SECOND FORM. 'bulk': how many values and letters a reading holds, each counted each time it is reached (what is shared counts as often as it is met; a slice's spare places count too). A statement '..UptoSaid' is the law's where the arguments, and the package variables that the reading takes, are together of bulk at most 1048576: NARROWER than '..Said'. Prove '..Said' where nothing that the law and all that it calls make is longer than what came in: it says more and counts as full. Else prove '..UptoSaid'. A law counts once. -/
mutual
def uptoBulk {H : Type} : DataW H → Nat
  | .lit (.string bytes) => bytes.length + 1
  | .lit _ => 1
  | .nil => 1
  | .ptr d => uptoBulk d + 1
  | .slice elems spare => uptoBulkAll elems + uptoBulkAll spare + 1
  | .agg parts => uptoBulkAll parts + 1
  | .iface _ d => uptoBulk d + 1
  | .map entries => uptoBulkEntries entries + 1
  | .held _ => 1
def uptoBulkAll {H : Type} : List (DataW H) → Nat
  | [] => 0
  | d :: r => uptoBulk d + uptoBulkAll r
def uptoBulkEntries {H : Type} : List (Lit × DataW H) → Nat
  | [] => 0
  | x :: r => uptoBulkEntry x + uptoBulkEntries r
def uptoBulkEntry {H : Type} : Lit × DataW H → Nat
  | (.string bytes, d) => bytes.length + uptoBulk d + 1
  | (_, d) => uptoBulk d + 1
 end
def uptoSmall : (H : Type) → List (DataW H) → Bool := fun _ ds => decide (uptoBulkAll ds ≤ 1048576)
def OpenSpec.upto (s : _root_.Go.ChangeSpec) : _root_.Go.OpenSpec := { _root_.Go.OpenSpec.ofChange s with cond := some uptoSmall }

/-- 'metronomelaw13.ClockWithin', WHERE WHAT IT READS IS OF BULK AT MOST 1048576: true; the input reads as it did. -/
def clockWithinUptoRow : OpenClaim := { program := "ytimcljlbjnhpnaa", sum := "2878a740189bcfbddff040274370af80bf8b303e9ef2ab4d3e51a0d40e150bba", func := "metronome/metronomelaw13.ClockWithin", spec := "clockWithin", unfollowed := true, recurses := true, apart := false, narrowed := true }
def ClockWithinUptoSaid : Prop := clockWithinUptoRow.holds Try.pinned (OpenSpec.upto clockWithinSpec)

/-- 'metronomelaw13.ClockHears', WHERE WHAT IT READS IS OF BULK AT MOST 1048576: true; the input reads as it did. -/
def clockHearsUptoRow : OpenClaim := { program := "ytimcljlbjnhpnaa", sum := "2878a740189bcfbddff040274370af80bf8b303e9ef2ab4d3e51a0d40e150bba", func := "metronome/metronomelaw13.ClockHears", spec := "clockHears", unfollowed := true, recurses := true, apart := false, narrowed := true }
def ClockHearsUptoSaid : Prop := clockHearsUptoRow.holds Try.pinned (OpenSpec.upto clockHearsSpec)

/-- 'metronomelaw13.ClockApart', WHERE WHAT IT READS IS OF BULK AT MOST 1048576: true; the input reads as it did. -/
def clockApartUptoRow : OpenClaim := { program := "ytimcljlbjnhpnaa", sum := "2878a740189bcfbddff040274370af80bf8b303e9ef2ab4d3e51a0d40e150bba", func := "metronome/metronomelaw13.ClockApart", spec := "clockApart", unfollowed := true, recurses := true, apart := false, narrowed := true }
def ClockApartUptoSaid : Prop := clockApartUptoRow.holds Try.pinned (OpenSpec.upto clockApartSpec)

/-- 'metronomelaw13.ClockTells', WHERE WHAT IT READS IS OF BULK AT MOST 1048576: true; the input reads as it did. -/
def clockTellsUptoRow : OpenClaim := { program := "ytimcljlbjnhpnaa", sum := "2878a740189bcfbddff040274370af80bf8b303e9ef2ab4d3e51a0d40e150bba", func := "metronome/metronomelaw13.ClockTells", spec := "clockTells", unfollowed := true, recurses := true, apart := false, narrowed := true }
def ClockTellsUptoSaid : Prop := clockTellsUptoRow.holds Try.pinned (OpenSpec.upto clockTellsSpec)

/-- 'metronomelaw13.ClockTogether', WHERE WHAT IT READS IS OF BULK AT MOST 1048576: true; the input reads as it did. -/
def clockTogetherUptoRow : OpenClaim := { program := "ytimcljlbjnhpnaa", sum := "2878a740189bcfbddff040274370af80bf8b303e9ef2ab4d3e51a0d40e150bba", func := "metronome/metronomelaw13.ClockTogether", spec := "clockTogether", unfollowed := true, recurses := true, apart := false, narrowed := true }
def ClockTogetherUptoSaid : Prop := clockTogetherUptoRow.holds Try.pinned (OpenSpec.upto clockTogetherSpec)

/-- 'metronomelaw13.ClockGoes', WHERE WHAT IT READS IS OF BULK AT MOST 1048576: true; the input reads as it did. -/
def clockGoesUptoRow : OpenClaim := { program := "ytimcljlbjnhpnaa", sum := "2878a740189bcfbddff040274370af80bf8b303e9ef2ab4d3e51a0d40e150bba", func := "metronome/metronomelaw13.ClockGoes", spec := "clockGoes", unfollowed := true, recurses := true, apart := false, narrowed := true }
def ClockGoesUptoSaid : Prop := clockGoesUptoRow.holds Try.pinned (OpenSpec.upto clockGoesSpec)

end Rows
end Go.Proofs.Ytimcljlbjnhpnaa
