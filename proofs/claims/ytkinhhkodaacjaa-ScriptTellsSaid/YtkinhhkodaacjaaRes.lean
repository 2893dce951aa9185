/- Results that lie in memory: structs of many cells. (Text of no seat: Ytkinhhkodaacjaa stands for the seat's name.) -/
import Derived.Test.YtkinhhkodaacjaaAgg
namespace Go.Proofs.Ytkinhhkodaacjaa
open Go.RowKit

section
variable {P : Program} {w : World} {fn : Func} {tmps : Array Value} {ty : TypeId} {n : Nat} {a t : Tmp}
theorem results_cell1 (h : fn.results = #[.cell a ty]) (hw : Wide P ty n) {b : Nat} (hp : tmps.getD a undef = .pointer (some ⟨b, 0, none⟩)) {cs : List Value} (hl : cs.length = n)
    (hc : ∀ j u, cs[j]? = some u → w.cell? ⟨b, 0 + j, none⟩ = some u) : (results fn tmps).run P w = .ok (.agg cs.toArray) w := by
  have hld := run_loadW (P := P) hw hl hc
  have hp' : tmps[a]?.getD undef = .pointer (some ⟨b, 0, none⟩) := by simpa using hp
  unfold results
  simp [h, hp', asAddr, hld]
theorem results_cell2 (h : fn.results = #[.cell a ty, .tmp t]) (hw : Wide P ty n) {b : Nat} (hp : tmps.getD a undef = .pointer (some ⟨b, 0, none⟩)) {cs : List Value} (hl : cs.length = n)
    (hc : ∀ j u, cs[j]? = some u → w.cell? ⟨b, 0 + j, none⟩ = some u) : (results fn tmps).run P w = .ok (.tuple #[.agg cs.toArray, tmps.getD t undef]) w := by
  have hld := run_loadW (P := P) hw hl hc
  have hp' : tmps[a]?.getD undef = .pointer (some ⟨b, 0, none⟩) := by simpa using hp
  unfold results
  simp [h, hp', asAddr, hld]
end
end Go.Proofs.Ytkinhhkodaacjaa
