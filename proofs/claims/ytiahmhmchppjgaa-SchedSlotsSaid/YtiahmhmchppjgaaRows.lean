/-
  No cell of these rows narrows 'for every input' (looked for: loops, veiled, ifaces, maps, wideKeys, modest, calm, conditions, laid).
  DERIVED. THE GIVEN ROWS OF THIS SEAT. 6 by the template 'for every input the law returns true; each argument reads behind the call as it read before'; 0 by the template 'total and deterministic' (their statements: YtiahmhmchppjgaaTotals.lean).
  GIVEN WITH THE SEED: the statements are not yours to turn. If you find one false, say at which input.
  Laid BY PROGRAM, IN A SANDBOX (cutbox-rows.mjs): the forced cells as the released guide's own fill.sh prints them over the translation fa27087c233da047… (all of the seat's roots in one cut). By AI agents, Wed Nov 11 2026. No macro, syntax, notation, axiom, sorry.
-/
import Derived.Test.YtiahmhmchppjgaaChecked
import GoSem.Claim
import GoSem.ClaimJoined
import GoSem.ClaimMapViews
import Derived.JoinedTies
import Derived.KernelRfl
namespace Go.Proofs.Ytiahmhmchppjgaa
/- THE CELL 'sum', in the pinned program and in every row, IS THE sha256 OF THE DUMP (.gsa) THAT YtiahmhmchppjgaaProg.lean LOADS. Nothing in Lean hashes anything: it is a label: what it is worth is what the hold of that sum in a sandbox is worth. -/
noncomputable def Try.pinned : Pinned := { name := "ytiahmhmchppjgaa", sum := "fa27087c233da047f78dc078e15f7371979e93459a94df76e0f8699b7b460aad", checked := Try.checked }
namespace Rows
def none {H : Type} : Left H := { results := [], args := [] }

/-- 'metronomelaw06.SchedTogether': WHATEVER THE INPUT: true; the input reads as it did. -/
def schedTogetherSpec : ChangeSpec := { name := "schedTogether", fn := fun _ => fun
  | [d1, d2, d3] => { results := [.lit (.bool true)], args := [d1, d2, d3] }
  | _ => none }
def schedTogetherRow : OpenClaim := { program := "ytiahmhmchppjgaa", sum := "fa27087c233da047f78dc078e15f7371979e93459a94df76e0f8699b7b460aad", func := "metronome/metronomelaw06.SchedTogether", spec := "schedTogether", unfollowed := true, recurses := true, apart := false }
def SchedTogetherSaid : Prop := schedTogetherRow.holds Try.pinned (OpenSpec.ofChange schedTogetherSpec)

/-- ITS FALSE NEIGHBOUR: 'it returns false'. Refute it at one input. -/
def schedTogetherWrong : ChangeSpec := { name := "schedTogether", fn := fun _ => fun
  | [d1, d2, d3] => { results := [.lit (.bool false)], args := [d1, d2, d3] }
  | _ => none }
def SchedTogetherWrongFalsely : Prop := schedTogetherRow.holds Try.pinned (OpenSpec.ofChange schedTogetherWrong)

/-- 'metronomelaw06.SchedOnce': WHATEVER THE INPUT: true; the input reads as it did. -/
def schedOnceSpec : ChangeSpec := { name := "schedOnce", fn := fun _ => fun
  | [d1, d2, d3] => { results := [.lit (.bool true)], args := [d1, d2, d3] }
  | _ => none }
def schedOnceRow : OpenClaim := { program := "ytiahmhmchppjgaa", sum := "fa27087c233da047f78dc078e15f7371979e93459a94df76e0f8699b7b460aad", func := "metronome/metronomelaw06.SchedOnce", spec := "schedOnce", unfollowed := true, recurses := true, apart := false }
def SchedOnceSaid : Prop := schedOnceRow.holds Try.pinned (OpenSpec.ofChange schedOnceSpec)

/-- ITS FALSE NEIGHBOUR: 'it returns false'. Refute it at one input. -/
def schedOnceWrong : ChangeSpec := { name := "schedOnce", fn := fun _ => fun
  | [d1, d2, d3] => { results := [.lit (.bool false)], args := [d1, d2, d3] }
  | _ => none }
def SchedOnceWrongFalsely : Prop := schedOnceRow.holds Try.pinned (OpenSpec.ofChange schedOnceWrong)

/-- 'metronomelaw06.SchedSpans': WHATEVER THE INPUT: true; the input reads as it did. -/
def schedSpansSpec : ChangeSpec := { name := "schedSpans", fn := fun _ => fun
  | [d1, d2, d3] => { results := [.lit (.bool true)], args := [d1, d2, d3] }
  | _ => none }
def schedSpansRow : OpenClaim := { program := "ytiahmhmchppjgaa", sum := "fa27087c233da047f78dc078e15f7371979e93459a94df76e0f8699b7b460aad", func := "metronome/metronomelaw06.SchedSpans", spec := "schedSpans", unfollowed := true, recurses := true, apart := false }
def SchedSpansSaid : Prop := schedSpansRow.holds Try.pinned (OpenSpec.ofChange schedSpansSpec)

/-- ITS FALSE NEIGHBOUR: 'it returns false'. Refute it at one input. -/
def schedSpansWrong : ChangeSpec := { name := "schedSpans", fn := fun _ => fun
  | [d1, d2, d3] => { results := [.lit (.bool false)], args := [d1, d2, d3] }
  | _ => none }
def SchedSpansWrongFalsely : Prop := schedSpansRow.holds Try.pinned (OpenSpec.ofChange schedSpansWrong)

/-- 'metronomelaw06.SchedGrid': WHATEVER THE INPUT: true; the input reads as it did. -/
def schedGridSpec : ChangeSpec := { name := "schedGrid", fn := fun _ => fun
  | [d1, d2, d3, d4, d5] => { results := [.lit (.bool true)], args := [d1, d2, d3, d4, d5] }
  | _ => none }
def schedGridRow : OpenClaim := { program := "ytiahmhmchppjgaa", sum := "fa27087c233da047f78dc078e15f7371979e93459a94df76e0f8699b7b460aad", func := "metronome/metronomelaw06.SchedGrid", spec := "schedGrid", unfollowed := true, recurses := true, apart := false }
def SchedGridSaid : Prop := schedGridRow.holds Try.pinned (OpenSpec.ofChange schedGridSpec)

/-- ITS FALSE NEIGHBOUR: 'it returns false'. Refute it at one input. -/
def schedGridWrong : ChangeSpec := { name := "schedGrid", fn := fun _ => fun
  | [d1, d2, d3, d4, d5] => { results := [.lit (.bool false)], args := [d1, d2, d3, d4, d5] }
  | _ => none }
def SchedGridWrongFalsely : Prop := schedGridRow.holds Try.pinned (OpenSpec.ofChange schedGridWrong)

/-- 'metronomelaw06.SchedSlots': WHATEVER THE INPUT: true; the input reads as it did. -/
def schedSlotsSpec : ChangeSpec := { name := "schedSlots", fn := fun _ => fun
  | [d1, d2, d3, d4, d5, d6] => { results := [.lit (.bool true)], args := [d1, d2, d3, d4, d5, d6] }
  | _ => none }
def schedSlotsRow : OpenClaim := { program := "ytiahmhmchppjgaa", sum := "fa27087c233da047f78dc078e15f7371979e93459a94df76e0f8699b7b460aad", func := "metronome/metronomelaw06.SchedSlots", spec := "schedSlots", unfollowed := true, recurses := true, apart := false }
def SchedSlotsSaid : Prop := schedSlotsRow.holds Try.pinned (OpenSpec.ofChange schedSlotsSpec)

/-- ITS FALSE NEIGHBOUR: 'it returns false'. Refute it at one input. -/
def schedSlotsWrong : ChangeSpec := { name := "schedSlots", fn := fun _ => fun
  | [d1, d2, d3, d4, d5, d6] => { results := [.lit (.bool false)], args := [d1, d2, d3, d4, d5, d6] }
  | _ => none }
def SchedSlotsWrongFalsely : Prop := schedSlotsRow.holds Try.pinned (OpenSpec.ofChange schedSlotsWrong)

/-- 'metronomelaw06.SchedNorms': WHATEVER THE INPUT: true; the input reads as it did. -/
def schedNormsSpec : ChangeSpec := { name := "schedNorms", fn := fun _ => fun
  | [d1, d2] => { results := [.lit (.bool true)], args := [d1, d2] }
  | _ => none }
def schedNormsRow : OpenClaim := { program := "ytiahmhmchppjgaa", sum := "fa27087c233da047f78dc078e15f7371979e93459a94df76e0f8699b7b460aad", func := "metronome/metronomelaw06.SchedNorms", spec := "schedNorms", unfollowed := true, recurses := true, apart := false }
def SchedNormsSaid : Prop := schedNormsRow.holds Try.pinned (OpenSpec.ofChange schedNormsSpec)

/-- ITS FALSE NEIGHBOUR: 'it returns false'. Refute it at one input. -/
def schedNormsWrong : ChangeSpec := { name := "schedNorms", fn := fun _ => fun
  | [d1, d2] => { results := [.lit (.bool false)], args := [d1, d2] }
  | _ => none }
def SchedNormsWrongFalsely : Prop := schedNormsRow.holds Try.pinned (OpenSpec.ofChange schedNormsWrong)

/- THE SECOND FORM. 'bulk': how many values and letters a reading holds, each counted each time it is reached (what is shared counts as often as it is met; a slice's spare places count too). A statement '..UptoSaid' is the law's where the arguments, and the package variables that the reading takes, are together of bulk at most 1048576: NARROWER than '..Said'. Prove '..Said' where nothing that the law and all that it calls make is longer than what came in: it says more and counts as full. Else prove '..UptoSaid'. A law counts once. -/
mutual
def uptoBulk {H : Type} : DataW H → Nat
  | .lit (.string bytes) => bytes.length + 1
  | .lit _ => 1
  | .nil => 1
  | .ptr d => uptoBulk d + 1
  | .slice elems spare => uptoBulkAll elems + uptoBulkAll spare + 1
  | .agg parts => uptoBulkAll parts + 1
  | .iface _ d => uptoBulk d + 1
  | .map entries => uptoBulkEntries entries + 1
  | .held _ => 1
def uptoBulkAll {H : Type} : List (DataW H) → Nat
  | [] => 0
  | d :: r => uptoBulk d + uptoBulkAll r
def uptoBulkEntries {H : Type} : List (Lit × DataW H) → Nat
  | [] => 0
  | x :: r => uptoBulkEntry x + uptoBulkEntries r
def uptoBulkEntry {H : Type} : Lit × DataW H → Nat
  | (.string bytes, d) => bytes.length + uptoBulk d + 1
  | (_, d) => uptoBulk d + 1
 end
def uptoSmall : (H : Type) → List (DataW H) → Bool := fun _ ds => decide (uptoBulkAll ds ≤ 1048576)
def OpenSpec.upto (s : _root_.Go.ChangeSpec) : _root_.Go.OpenSpec := { _root_.Go.OpenSpec.ofChange s with cond := some uptoSmall }

/-- 'metronomelaw06.SchedTogether', WHERE WHAT IT READS IS OF BULK AT MOST 1048576: true; the input reads as it did. -/
def schedTogetherUptoRow : OpenClaim := { program := "ytiahmhmchppjgaa", sum := "fa27087c233da047f78dc078e15f7371979e93459a94df76e0f8699b7b460aad", func := "metronome/metronomelaw06.SchedTogether", spec := "schedTogether", unfollowed := true, recurses := true, apart := false, narrowed := true }
def SchedTogetherUptoSaid : Prop := schedTogetherUptoRow.holds Try.pinned (OpenSpec.upto schedTogetherSpec)

/-- 'metronomelaw06.SchedOnce', WHERE WHAT IT READS IS OF BULK AT MOST 1048576: true; the input reads as it did. -/
def schedOnceUptoRow : OpenClaim := { program := "ytiahmhmchppjgaa", sum := "fa27087c233da047f78dc078e15f7371979e93459a94df76e0f8699b7b460aad", func := "metronome/metronomelaw06.SchedOnce", spec := "schedOnce", unfollowed := true, recurses := true, apart := false, narrowed := true }
def SchedOnceUptoSaid : Prop := schedOnceUptoRow.holds Try.pinned (OpenSpec.upto schedOnceSpec)

/-- 'metronomelaw06.SchedSpans', WHERE WHAT IT READS IS OF BULK AT MOST 1048576: true; the input reads as it did. -/
def schedSpansUptoRow : OpenClaim := { program := "ytiahmhmchppjgaa", sum := "fa27087c233da047f78dc078e15f7371979e93459a94df76e0f8699b7b460aad", func := "metronome/metronomelaw06.SchedSpans", spec := "schedSpans", unfollowed := true, recurses := true, apart := false, narrowed := true }
def SchedSpansUptoSaid : Prop := schedSpansUptoRow.holds Try.pinned (OpenSpec.upto schedSpansSpec)

/-- 'metronomelaw06.SchedGrid', WHERE WHAT IT READS IS OF BULK AT MOST 1048576: true; the input reads as it did. -/
def schedGridUptoRow : OpenClaim := { program := "ytiahmhmchppjgaa", sum := "fa27087c233da047f78dc078e15f7371979e93459a94df76e0f8699b7b460aad", func := "metronome/metronomelaw06.SchedGrid", spec := "schedGrid", unfollowed := true, recurses := true, apart := false, narrowed := true }
def SchedGridUptoSaid : Prop := schedGridUptoRow.holds Try.pinned (OpenSpec.upto schedGridSpec)

/-- 'metronomelaw06.SchedSlots', WHERE WHAT IT READS IS OF BULK AT MOST 1048576: true; the input reads as it did. -/
def schedSlotsUptoRow : OpenClaim := { program := "ytiahmhmchppjgaa", sum := "fa27087c233da047f78dc078e15f7371979e93459a94df76e0f8699b7b460aad", func := "metronome/metronomelaw06.SchedSlots", spec := "schedSlots", unfollowed := true, recurses := true, apart := false, narrowed := true }
def SchedSlotsUptoSaid : Prop := schedSlotsUptoRow.holds Try.pinned (OpenSpec.upto schedSlotsSpec)

/-- 'metronomelaw06.SchedNorms', WHERE WHAT IT READS IS OF BULK AT MOST 1048576: true; the input reads as it did. -/
def schedNormsUptoRow : OpenClaim := { program := "ytiahmhmchppjgaa", sum := "fa27087c233da047f78dc078e15f7371979e93459a94df76e0f8699b7b460aad", func := "metronome/metronomelaw06.SchedNorms", spec := "schedNorms", unfollowed := true, recurses := true, apart := false, narrowed := true }
def SchedNormsUptoSaid : Prop := schedNormsUptoRow.holds Try.pinned (OpenSpec.upto schedNormsSpec)

end Rows
end Go.Proofs.Ytiahmhmchppjgaa
