/- TraceLess returns true whatever it is given, and changes nothing that was there. No condition. -/
import Derived.Test.YtjaaldeaknmmbaaS13
import Derived.Test.YtjaaldeaknmmbaaAr
namespace Go.Proofs.Ytjaaldeaknmmbaa
open Go.ChangeShapes Go.WideShapes Go.ChangeAt Go.RowKit

theorem goodL_of {W : World} {v : Value} {l : List Sx} (h : Rd (fun y : Sx => encS y.s) 23 W v l) (hg : ∀ y ∈ l, GoodX W y) : GoodL W v (l.map Sx.few) := by
  refine ⟨?_, fun x hx => ?_, fun x hx => ?_⟩
  · have := Rd.mapped (enc := encS) (f := Sx.s) h
    rw [List.map_map]
    exact this
  · obtain ⟨y, hy, rfl⟩ := List.mem_map.1 hx
    exact (hg y hy).few
  · obtain ⟨y, hy, rfl⟩ := List.mem_map.1 hx
    exact (hg y hy).ints _ (by simp [Sn.ints, Sx.few])
theorem less_law (l : List Sx) (v : Value) (but : List Int) (bv : Value) (more round : Int) (W : World) (h : Rd (fun y : Sx => encS y.s) 23 W v l) (hg : ∀ y ∈ l, GoodX W y) (hb : Ns W bv but) :
    Calls Try.prog 3 #[v, bv, .int .i64 more, .int .i64 round] W fun e w' => e = .returned (.bool true) ∧ Below W.heap.size W w' := less_walk (l.map Sx.few) v but bv more round W (goodL_of h hg) hb

set_option maxRecDepth 100000 in
theorem traceLess_lifted (os : Os) (started : os.Started) (H : Type) (enc : TypeId × Value → H) :
    ReturnsInHanded {} Try.checked os 3 .any (Rows.traceLessSpec.pre6 enc Try.prog Try.f3 Rows.traceLessRow.domain false) (Rows.traceLessSpec.post enc Try.prog Try.f3 false true false false) := by
  refine law_lifted (C := Try.checked) own started (by kernel_rfl) Try.func3
    (ChangeSpec.witness6 (enc := enc) (C := Try.checked) false ⟨#[], #[.slice none 0 0, .slice none 0 0, .int .i64 0, .int .i64 0], []⟩ 8 (by kernel_rfl) (by kernel_rfl) (by kernel_rfl) (by kernel_rfl))
    rfl (fun ds h => by match ds, h with | [d0, d1, d2, d3], _ => rfl) rfl Try.underlying4 laidOut (by rw [Try.params3]; decide +kernel) ?_
  intro W base args ds p hval hA hlt hsz
  have hval : ∀ (j : Nat) t v, Try.f3.params[j]? = some t → args[j]? = some v → Value.okWide Try.prog W .any base t v := hval
  rw [Try.params3] at hA hval hsz
  obtain ⟨v0, vs0, d0, ds0, p0, q0, hargs, rfl, rfl, h0, r0⟩ := trodAll_cons hA
  obtain ⟨v1, vs1, d1, ds1, p1, q1, rfl, rfl, rfl, h1, r1⟩ := trodAll_cons r0
  obtain ⟨v2, vs2, d2, ds2, p2, q2, rfl, rfl, rfl, h2, r2⟩ := trodAll_cons r1
  obtain ⟨v3, vs3, d3, ds3, p3, q3, rfl, rfl, rfl, h3, r3⟩ := trodAll_cons r2
  obtain ⟨rfl, rfl, rfl⟩ := trodAll_nil r3
  obtain rfl : args = #[v0, v1, v2, v3] := by cases args; simp_all
  obtain ⟨l0, g0⟩ := snaps_of_trod (hval 0 22 v0 rfl rfl) h0 (fun x hx => hlt x (by simp [hx])) hsz (j := 0) rfl rfl
  obtain ⟨l1, g1⟩ := ints_of_trod (hval 1 23 v1 rfl rfl) h1 (fun x hx => hlt x (by simp [hx])) hsz (j := 1) rfl rfl
  obtain ⟨x2, rfl, hd2, rfl, w2⟩ := open_int Try.underlying3 (hval 2 3 v2 rfl rfl) h2
  have b2 : -9223372036854775808 ≤ x2 ∧ x2 ≤ 9223372036854775807 := by simp [Lit.wf, IntKind.min, IntKind.max, IntKind.bits, IntKind.signed] at w2; omega
  obtain ⟨x3, rfl, hd3, rfl, w3⟩ := open_int Try.underlying3 (hval 3 3 v3 rfl rfl) h3
  have b3 : -9223372036854775808 ≤ x3 ∧ x3 ≤ 9223372036854775807 := by simp [Lit.wf, IntKind.min, IntKind.max, IntKind.bits, IntKind.signed] at w3; omega
  exact less_law l0 v0 l1 v1 x2 x3 W g0.1 g0.2 g1.1

theorem traceLess_holds : Rows.TraceLessSaid :=
  OpenClaim.holds_of_wide 3 Try.f3 rfl rfl rfl rfl rfl rfl rfl ⟨rfl, rfl, rfl, rfl, rfl⟩ rfl rfl rfl rfl rfl (by kernel_rfl) Try.func3 (by kernel_rfl)
    (of_decide_eq_true (by kernel_rfl)) (by unfold Func.isWrapper; first | (rw [if_pos (by decide +kernel)]; kernel_rfl) | (rw [if_neg (by decide +kernel)]; exact ⟨rfl, rfl⟩))
    (fun os started H enc _ => traceLess_lifted os started H enc)
#print axioms traceLess_holds
end Go.Proofs.Ytjaaldeaknmmbaa
