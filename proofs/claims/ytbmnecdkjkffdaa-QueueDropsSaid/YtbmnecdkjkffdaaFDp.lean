/- QueueDrops returns true whatever it is given, and changes nothing that was there. No condition. -/
import Derived.Test.YtbmnecdkjkffdaaH5
import Derived.Test.YtbmnecdkjkffdaaAr
namespace Go.Proofs.Ytbmnecdkjkffdaa
open Go.ChangeShapes Go.WideShapes Go.ChangeAt Go.RowKit

theorem drops_law (l : List Ev) (v : Value) (node : Int) (W : World) (h : Rd encE 4 W v l) : Calls Try.prog 7 #[v, .int .i64 node] W fun e w' => e = .returned (.bool true) ∧ Below W.heap.size W w' := by
  by_cases hl : l.length ≤ 200
  · exact drops_any v node l W h hl
  · exact drops_long v node l W h (by omega)
set_option maxRecDepth 100000 in
theorem queueDrops_lifted (os : Os) (started : os.Started) (H : Type) (enc : TypeId × Value → H) :
    ReturnsInHanded {} Try.checked os 7 .any (Rows.queueDropsSpec.pre6 enc Try.prog Try.f7 Rows.queueDropsRow.domain false) (Rows.queueDropsSpec.post enc Try.prog Try.f7 false true false false) := by
  refine law_lifted (C := Try.checked) own started (by kernel_rfl) Try.func7
    (ChangeSpec.witness6 (enc := enc) (C := Try.checked) false ⟨#[], #[.slice none 0 0, .int .i64 0], []⟩ 8 (by kernel_rfl) (by kernel_rfl) (by kernel_rfl) (by kernel_rfl))
    rfl (fun ds h => by match ds, h with | [d0, d1], _ => rfl) rfl Try.underlying4 laidOut (by rw [Try.params7]; decide +kernel) ?_
  intro W base args ds p hval hA hlt hsz
  have hval : ∀ (j : Nat) t v, Try.f7.params[j]? = some t → args[j]? = some v → Value.okWide Try.prog W .any base t v := hval
  rw [Try.params7] at hA hval hsz
  obtain ⟨v0, vs0, d0, ds0, p0, q0, hargs, rfl, rfl, h0, r0⟩ := trodAll_cons hA
  obtain ⟨v1, vs1, d1, ds1, p1, q1, rfl, rfl, rfl, h1, r1⟩ := trodAll_cons r0
  obtain ⟨rfl, rfl, rfl⟩ := trodAll_nil r1
  obtain rfl : args = #[v0, v1] := by cases args; simp_all
  obtain ⟨l0, g0⟩ := evs_of_trod (hval 0 22 v0 rfl rfl) h0 (fun x hx => hlt x (by simp [hx])) hsz (j := 0) rfl rfl
  obtain ⟨x1, rfl, hd1, rfl, w1⟩ := open_int Try.underlying3 (hval 1 3 v1 rfl rfl) h1
  have b1 : -9223372036854775808 ≤ x1 ∧ x1 ≤ 9223372036854775807 := by simp [Lit.wf, IntKind.min, IntKind.max, IntKind.bits, IntKind.signed] at w1; omega
  exact drops_law l0 v0 x1 W g0.1

theorem queueDrops_holds : Rows.QueueDropsSaid :=
  OpenClaim.holds_of_wide 7 Try.f7 rfl rfl rfl rfl rfl rfl rfl ⟨rfl, rfl, rfl, rfl, rfl⟩ rfl rfl rfl rfl rfl (by kernel_rfl) Try.func7 (by kernel_rfl)
    (of_decide_eq_true (by kernel_rfl)) (by unfold Func.isWrapper; first | (rw [if_pos (by decide +kernel)]; kernel_rfl) | (rw [if_neg (by decide +kernel)]; exact ⟨rfl, rfl⟩))
    (fun os started H enc _ => queueDrops_lifted os started H enc)
#print axioms queueDrops_holds
end Go.Proofs.Ytbmnecdkjkffdaa
