/- TraceParts returns true whatever it is given, and changes nothing that was there. No condition. -/
import Derived.Test.YtjaaldeaknmmbaaS14
import Derived.Test.YtjaaldeaknmmbaaAg
namespace Go.Proofs.Ytjaaldeaknmmbaa
open Go.ChangeShapes Go.WideShapes Go.ChangeAt Go.RowKit

theorem parts_law (l : List Sx) (v : Value) (W : World) (h : Rd (fun y : Sx => encS y.s) 23 W v l) (hg : ∀ y ∈ l, GoodX W y) :
    Calls Try.prog 4 #[v] W fun e w' => e = .returned (.bool true) ∧ Below W.heap.size W w' := parts_walk (l.map Sx.few) v W (goodL_of h hg)

set_option maxRecDepth 100000 in
theorem traceParts_lifted (os : Os) (started : os.Started) (H : Type) (enc : TypeId × Value → H) :
    ReturnsInHanded {} Try.checked os 4 .any (Rows.tracePartsSpec.pre6 enc Try.prog Try.f4 Rows.tracePartsRow.domain false) (Rows.tracePartsSpec.post enc Try.prog Try.f4 false true false false) := by
  refine law_lifted (C := Try.checked) own started (by kernel_rfl) Try.func4
    (ChangeSpec.witness6 (enc := enc) (C := Try.checked) false ⟨#[], #[.slice none 0 0], []⟩ 8 (by kernel_rfl) (by kernel_rfl) (by kernel_rfl) (by kernel_rfl))
    rfl (fun ds h => by match ds, h with | [d0], _ => rfl) rfl Try.underlying4 laidOut (by rw [Try.params4]; decide +kernel) ?_
  intro W base args ds p hval hA hlt hsz
  have hval : ∀ (j : Nat) t v, Try.f4.params[j]? = some t → args[j]? = some v → Value.okWide Try.prog W .any base t v := hval
  rw [Try.params4] at hA hval hsz
  obtain ⟨v0, vs0, d0, ds0, p0, q0, hargs, rfl, rfl, h0, r0⟩ := trodAll_cons hA
  obtain ⟨rfl, rfl, rfl⟩ := trodAll_nil r0
  obtain rfl : args = #[v0] := by cases args; simp_all
  obtain ⟨l0, g0⟩ := snaps_of_trod (hval 0 22 v0 rfl rfl) h0 (fun x hx => hlt x (by simp [hx])) hsz (j := 0) rfl rfl
  exact parts_law l0 v0 W g0.1 g0.2

theorem traceParts_holds : Rows.TracePartsSaid :=
  OpenClaim.holds_of_wide 4 Try.f4 rfl rfl rfl rfl rfl rfl rfl ⟨rfl, rfl, rfl, rfl, rfl⟩ rfl rfl rfl rfl rfl (by kernel_rfl) Try.func4 (by kernel_rfl)
    (of_decide_eq_true (by kernel_rfl)) (by unfold Func.isWrapper; first | (rw [if_pos (by decide +kernel)]; kernel_rfl) | (rw [if_neg (by decide +kernel)]; exact ⟨rfl, rfl⟩))
    (fun os started H enc _ => traceParts_lifted os started H enc)
#print axioms traceParts_holds
end Go.Proofs.Ytjaaldeaknmmbaa
