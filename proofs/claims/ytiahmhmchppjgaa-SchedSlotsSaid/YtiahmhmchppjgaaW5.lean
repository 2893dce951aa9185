/- The law's own beginning. -/
import Derived.Test.YtiahmhmchppjgaaW4
namespace Go.Proofs.Ytiahmhmchppjgaa
open Go.RowKit Go.Shelf
open Sched (Sp bad)

theorem begun_nrm : nrmE [(5, 8), (1, 3), (3, 4)] = [(1, 4), (5, 8)] := by decide
theorem begun_err : errE [(5, 8), (1, 3), (3, 4)] = 0 := by decide
theorem begun_slotOf : slotOf 100 10 4 137 = (3, 0) := by decide
theorem begun_next : next 100 10 4 101 0 = (4, 0) := by decide

set_option maxHeartbeats 1600000 in
theorem begun_any (w : World) : Calls Try.prog 9 #[] w fun e w' => e = .returned (.bool true) ∧ Below w.heap.size w w' := by
  have h1 := fun W : World => norm_any [(5, 8), (1, 3), (3, 4)] _ _ (Spans.new (w := W) (t := 23) [(5, 8), (1, 3), (3, 4)] (by decide) (by unfold I64; decide))
  have h2 := slotOf_any 100 10 4 137
  have h3 := next_any 100 10 4 101 0
  have h4 := fun (W : World) (v : Value) (h : Spans W v [(1, 4), (5, 8)]) => equal_any [(1, 4), (5, 8)] [(1, 4), (5, 8)] v _ _ (h.below (below1 W _)) (Spans.new (w := W) (t := 23) [(1, 4), (5, 8)] (by decide) (by unfold I64; decide))
  rw [show decide ([((1 : Int), (4 : Int)), (5, 8)] = [(1, 4), (5, 8)]) = true from rfl] at h4
  simp only [begun_slotOf, begun_next] at h2 h3
  unfold NormPost at h1
  simp only [begun_nrm, begun_err] at h1
  unfold grv at *
  go_enter Try.func9, Try.ntmps9
  go_wp2_with fail
  refine (h1 w).mono ?_
  rintro e w1 ⟨⟨v, rfl, hv⟩, hb1⟩
  have hv1 := Spans.of_owns hv (by decide) (by unfold I64; decide)
  have b1 := bt (below1 w _) hb1
  clear hv hb1 h1
  go_wp2_with fail
  refine (h2 _).mono ?_
  rintro e w2 ⟨rfl, hb2⟩
  have hc2 := bcell hb2
  have b2 := bt (bt b1 (below1 w1 _)) hb2
  have hv2 := hv1.below (bt (below1 w1 _) hb2)
  go_wp2_with fail
  refine (h3 _).mono ?_
  rintro e w3 ⟨rfl, hb3⟩
  have b3 := bt b2 hb3
  have hv3 := hv2.below hb3
  go_wp2_with fail
  refine (h4 w3 v hv3).mono ?_
  rintro e w4 ⟨rfl, hb4⟩
  go_wp2
  go_ret
  exact ⟨rfl, bt (bt b3 (below1 w3 _)) hb4⟩
end Go.Proofs.Ytiahmhmchppjgaa
