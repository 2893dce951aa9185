/- QueueDoes returns true whatever it is given, and changes nothing that was there. No condition. -/
import Derived.Test.YtbmnecdkjkffdaaI5
import Derived.Test.YtbmnecdkjkffdaaAr2
namespace Go.Proofs.Ytbmnecdkjkffdaa
open Go.ChangeShapes Go.WideShapes Go.ChangeAt Go.RowKit

theorem does_law (l : List Ev) (v : Value) (s : List DoV) (vs : Value) (x y : Ev) (W : World) (h : Rd encE 4 W v l) (hs : Rd encD 5 W vs s) : Calls Try.prog 6 #[v, vs, .agg (encE x).toArray, .agg (encE y).toArray] W fun e w' => e = .returned (.bool true) ∧ Below W.heap.size W w' := by
  by_cases hl : l.length ≤ 200
  · exact does_any v vs l s x y W h hs hl
  · exact does_long v vs l x y W h (by omega)
set_option maxRecDepth 100000 in
theorem queueDoes_lifted (os : Os) (started : os.Started) (H : Type) (enc : TypeId × Value → H) :
    ReturnsInHanded {} Try.checked os 6 .any (Rows.queueDoesSpec.pre6 enc Try.prog Try.f6 Rows.queueDoesRow.domain false) (Rows.queueDoesSpec.post enc Try.prog Try.f6 false true false false) := by
  refine law_lifted (C := Try.checked) own started (by kernel_rfl) Try.func6
    (ChangeSpec.witness6 (enc := enc) (C := Try.checked) false ⟨#[], #[.slice none 0 0, .slice none 0 0, .agg #[.int .i64 0, .int .i64 0, .int .i64 0, .int .i64 0], .agg #[.int .i64 0, .int .i64 0, .int .i64 0, .int .i64 0]], []⟩ 8 (by kernel_rfl) (by kernel_rfl) (by kernel_rfl) (by kernel_rfl))
    rfl (fun ds h => by match ds, h with | [d0, d1, d2, d3], _ => rfl) rfl Try.underlying4 laidOut (by rw [Try.params6]; decide +kernel) ?_
  intro W base args ds p hval hA hlt hsz
  have hval : ∀ (j : Nat) t v, Try.f6.params[j]? = some t → args[j]? = some v → Value.okWide Try.prog W .any base t v := hval
  rw [Try.params6] at hA hval hsz
  obtain ⟨v0, vs0, d0, ds0, p0, q0, hargs, rfl, rfl, h0, r0⟩ := trodAll_cons hA
  obtain ⟨v1, vs1, d1, ds1, p1, q1, rfl, rfl, rfl, h1, r1⟩ := trodAll_cons r0
  obtain ⟨v2, vs2, d2, ds2, p2, q2, rfl, rfl, rfl, h2, r2⟩ := trodAll_cons r1
  obtain ⟨v3, vs3, d3, ds3, p3, q3, rfl, rfl, rfl, h3, r3⟩ := trodAll_cons r2
  obtain ⟨rfl, rfl, rfl⟩ := trodAll_nil r3
  obtain rfl : args = #[v0, v1, v2, v3] := by cases args; simp_all
  obtain ⟨l0, g0⟩ := evs_of_trod (hval 0 22 v0 rfl rfl) h0 (fun x hx => hlt x (by simp [hx])) hsz (j := 0) rfl rfl
  obtain ⟨l1, g1⟩ := dos_of_trod (hval 1 23 v1 rfl rfl) h1 (fun x hx => hlt x (by simp [hx])) hsz (j := 1) rfl rfl
  obtain ⟨l2, rfl, g2⟩ := ev_of_trod (hval 2 31 v2 rfl rfl) h2 (fun x hx => hlt x (by simp [hx])) hsz (j := 2) rfl rfl
  obtain ⟨l3, rfl, g3⟩ := ev_of_trod (hval 3 31 v3 rfl rfl) h3 (fun x hx => hlt x (by simp [hx])) hsz (j := 3) rfl rfl
  exact does_law l0 v0 l1 v1 l2 l3 W g0.1 g1.1

theorem queueDoes_holds : Rows.QueueDoesSaid :=
  OpenClaim.holds_of_wide 6 Try.f6 rfl rfl rfl rfl rfl rfl rfl ⟨rfl, rfl, rfl, rfl, rfl⟩ rfl rfl rfl rfl rfl (by kernel_rfl) Try.func6 (by kernel_rfl)
    (of_decide_eq_true (by kernel_rfl)) (by unfold Func.isWrapper; first | (rw [if_pos (by decide +kernel)]; kernel_rfl) | (rw [if_neg (by decide +kernel)]; exact ⟨rfl, rfl⟩))
    (fun os started H enc _ => queueDoes_lifted os started H enc)
#print axioms queueDoes_holds
end Go.Proofs.Ytbmnecdkjkffdaa
