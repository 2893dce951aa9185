/- QueueAny returns true whatever it is given, and changes nothing that was there. No condition. -/
import Derived.Test.YtbmnecdkjkffdaaG4
import Derived.Test.YtbmnecdkjkffdaaAr
namespace Go.Proofs.Ytbmnecdkjkffdaa
open Go.ChangeShapes Go.WideShapes Go.ChangeAt Go.RowKit

theorem any_law (l : List Ev) (v : Value) (j : Int) (W : World) (h : Rd encE 4 W v l) (hj : 0 ≤ j ∧ j ≤ 255) : Calls Try.prog 4 #[v, .int .u8 j] W fun e w' => e = .returned (.bool true) ∧ Below W.heap.size W w' := by
  by_cases hl : l.length ≤ 200
  · exact any_any v j l W h hl hj.1 hj.2
  · exact any_long v j l W h (by omega)
set_option maxRecDepth 100000 in
theorem queueAny_lifted (os : Os) (started : os.Started) (H : Type) (enc : TypeId × Value → H) :
    ReturnsInHanded {} Try.checked os 4 .any (Rows.queueAnySpec.pre6 enc Try.prog Try.f4 Rows.queueAnyRow.domain false) (Rows.queueAnySpec.post enc Try.prog Try.f4 false true false false) := by
  refine law_lifted (C := Try.checked) own started (by kernel_rfl) Try.func4
    (ChangeSpec.witness6 (enc := enc) (C := Try.checked) false ⟨#[], #[.slice none 0 0, .int .u8 0], []⟩ 8 (by kernel_rfl) (by kernel_rfl) (by kernel_rfl) (by kernel_rfl))
    rfl (fun ds h => by match ds, h with | [d0, d1], _ => rfl) rfl Try.underlying4 laidOut (by rw [Try.params4]; decide +kernel) ?_
  intro W base args ds p hval hA hlt hsz
  have hval : ∀ (j : Nat) t v, Try.f4.params[j]? = some t → args[j]? = some v → Value.okWide Try.prog W .any base t v := hval
  rw [Try.params4] at hA hval hsz
  obtain ⟨v0, vs0, d0, ds0, p0, q0, hargs, rfl, rfl, h0, r0⟩ := trodAll_cons hA
  obtain ⟨v1, vs1, d1, ds1, p1, q1, rfl, rfl, rfl, h1, r1⟩ := trodAll_cons r0
  obtain ⟨rfl, rfl, rfl⟩ := trodAll_nil r1
  obtain rfl : args = #[v0, v1] := by cases args; simp_all
  obtain ⟨l0, g0⟩ := evs_of_trod (hval 0 22 v0 rfl rfl) h0 (fun x hx => hlt x (by simp [hx])) hsz (j := 0) rfl rfl
  obtain ⟨x1, rfl, hd1, rfl, w1⟩ := open_int Try.underlying5 (hval 1 5 v1 rfl rfl) h1
  have b1 : 0 ≤ x1 ∧ x1 ≤ 255 := by simp [Lit.wf, IntKind.min, IntKind.max, IntKind.bits, IntKind.signed] at w1; omega
  exact any_law l0 v0 x1 W g0.1 b1

theorem queueAny_holds : Rows.QueueAnySaid :=
  OpenClaim.holds_of_wide 4 Try.f4 rfl rfl rfl rfl rfl rfl rfl ⟨rfl, rfl, rfl, rfl, rfl⟩ rfl rfl rfl rfl rfl (by kernel_rfl) Try.func4 (by kernel_rfl)
    (of_decide_eq_true (by kernel_rfl)) (by unfold Func.isWrapper; first | (rw [if_pos (by decide +kernel)]; kernel_rfl) | (rw [if_neg (by decide +kernel)]; exact ⟨rfl, rfl⟩))
    (fun os started H enc _ => queueAny_lifted os started H enc)
#print axioms queueAny_holds
end Go.Proofs.Ytbmnecdkjkffdaa
