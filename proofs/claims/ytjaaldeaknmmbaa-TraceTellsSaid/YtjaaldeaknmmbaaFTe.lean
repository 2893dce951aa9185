/- TraceTells returns true whatever it is given, and changes nothing that was there. No condition. -/
import Derived.Test.YtjaaldeaknmmbaaS20
namespace Go.Proofs.Ytjaaldeaknmmbaa
open Go.ChangeShapes Go.WideShapes Go.ChangeAt Go.RowKit

theorem tells_law (l : List Sx) (v : Value) (round : Int) (but : List Int) (bv : Value) (most : Int) (W : World) (h : Sxs W v l) (hb : Ns W bv but) (h0 : 0 ≤ most) (h1 : most ≤ 255) :
    Calls Try.prog 5 #[v, .int .i64 round, bv, .int .u8 most] W fun e w' => e = .returned (.bool true) ∧ Below W.heap.size W w' := tells_walk l v round but bv most W h hb h0 h1

set_option maxRecDepth 100000 in
theorem traceTells_lifted (os : Os) (started : os.Started) (H : Type) (enc : TypeId × Value → H) :
    ReturnsInHanded {} Try.checked os 5 .any (Rows.traceTellsSpec.pre6 enc Try.prog Try.f5 Rows.traceTellsRow.domain false) (Rows.traceTellsSpec.post enc Try.prog Try.f5 false true false false) := by
  refine law_lifted (C := Try.checked) own started (by kernel_rfl) Try.func5
    (ChangeSpec.witness6 (enc := enc) (C := Try.checked) false ⟨#[], #[.slice none 0 0, .int .i64 0, .slice none 0 0, .int .u8 0], []⟩ 8 (by kernel_rfl) (by kernel_rfl) (by kernel_rfl) (by kernel_rfl))
    rfl (fun ds h => by match ds, h with | [d0, d1, d2, d3], _ => rfl) rfl Try.underlying4 laidOut (by rw [Try.params5]; decide +kernel) ?_
  intro W base args ds p hval hA hlt hsz
  have hval : ∀ (j : Nat) t v, Try.f5.params[j]? = some t → args[j]? = some v → Value.okWide Try.prog W .any base t v := hval
  rw [Try.params5] at hA hval hsz
  obtain ⟨v0, vs0, d0, ds0, p0, q0, hargs, rfl, rfl, h0, r0⟩ := trodAll_cons hA
  obtain ⟨v1, vs1, d1, ds1, p1, q1, rfl, rfl, rfl, h1, r1⟩ := trodAll_cons r0
  obtain ⟨v2, vs2, d2, ds2, p2, q2, rfl, rfl, rfl, h2, r2⟩ := trodAll_cons r1
  obtain ⟨v3, vs3, d3, ds3, p3, q3, rfl, rfl, rfl, h3, r3⟩ := trodAll_cons r2
  obtain ⟨rfl, rfl, rfl⟩ := trodAll_nil r3
  obtain rfl : args = #[v0, v1, v2, v3] := by cases args; simp_all
  obtain ⟨l0, g0⟩ := snaps_of_trod (hval 0 22 v0 rfl rfl) h0 (fun x hx => hlt x (by simp [hx])) hsz (j := 0) rfl rfl
  obtain ⟨x1, rfl, hd1, rfl, w1⟩ := open_int Try.underlying3 (hval 1 3 v1 rfl rfl) h1
  have b1 : -9223372036854775808 ≤ x1 ∧ x1 ≤ 9223372036854775807 := by simp [Lit.wf, IntKind.min, IntKind.max, IntKind.bits, IntKind.signed] at w1; omega
  obtain ⟨l2, g2⟩ := ints_of_trod (hval 2 23 v2 rfl rfl) h2 (fun x hx => hlt x (by simp [hx])) hsz (j := 2) rfl rfl
  obtain ⟨x3, rfl, hd3, rfl, w3⟩ := open_int Try.underlying5 (hval 3 5 v3 rfl rfl) h3
  have b3 : 0 ≤ x3 ∧ x3 ≤ 255 := by simp [Lit.wf, IntKind.min, IntKind.max, IntKind.bits, IntKind.signed] at w3; omega
  exact tells_law l0 v0 x1 l2 v2 x3 W ⟨g0.1, g0.2⟩ g2.1 b3.1 b3.2

theorem traceTells_holds : Rows.TraceTellsSaid :=
  OpenClaim.holds_of_wide 5 Try.f5 rfl rfl rfl rfl rfl rfl rfl ⟨rfl, rfl, rfl, rfl, rfl⟩ rfl rfl rfl rfl rfl (by kernel_rfl) Try.func5 (by kernel_rfl)
    (of_decide_eq_true (by kernel_rfl)) (by unfold Func.isWrapper; first | (rw [if_pos (by decide +kernel)]; kernel_rfl) | (rw [if_neg (by decide +kernel)]; exact ⟨rfl, rfl⟩))
    (fun os started H enc _ => traceTells_lifted os started H enc)
#print axioms traceTells_holds
end Go.Proofs.Ytjaaldeaknmmbaa
