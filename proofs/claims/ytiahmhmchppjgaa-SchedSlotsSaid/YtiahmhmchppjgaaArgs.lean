/- What an argument of a law reads as: a span, a grid, a slice of spans. -/
import Derived.Test.YtiahmhmchppjgaaMem
import Derived.Test.YtiahmhmchppjgaaW3
import Derived.Test.YtiahmhmchppjgaaFrame
import Derived.Lib.SmallJoins
import Derived.Deep.SlicePairs
namespace Go.Proofs.Ytiahmhmchppjgaa
open Go.ChangeShapes Go.WideShapes Go.ChangeAt Go.RowKit Go.Deep
open Sched (Sp bad)

theorem own : ownKnob Try.prog.godebug = none := by kernel_rfl
theorem laidOut : laidOutB Try.prog = true := by kernel_rfl

/-- A span by value, its two numbers 64-bit integers. -/
def Span1 (_ : World) (v : Value) (s : Sp) : Prop := v = spv s ∧ I64 s.1 ∧ I64 s.2
def Grid1 (_ : World) (v : Value) (g : Int × Int × Int) : Prop := v = grv g.1 g.2.1 g.2.2 ∧ I64 g.1 ∧ I64 g.2.1 ∧ I64 g.2.2

theorem i64_of_wf {x : Int} (h : (Lit.int .i64 x).wf = true) : I64 x := by
  simp [Lit.wf, IntKind.min, IntKind.max, IntKind.bits, IntKind.signed] at h
  unfold I64
  omega

theorem span_of_trod {H : Type} {enc : TypeId × Value → H} {W : World} {base : Nat} {v : Value} {d : DataW H} {p : List MemPlace} {ts : List TypeId} {ds : List (DataW H)} {j : Nat}
    (hok : Value.okWide Try.prog W .any base 23 v) (h : DataW.Trod enc Try.prog W 0 (fun _ => true) true 23 v d p) (_hlt : ∀ x ∈ p, x.block < W.heap.size)
    (_hsz : (DataW.weightsEach Try.prog ts ds).all (· ≤ reachBytes) = true) (_ht : ts[j]? = some 23) (_hd : ds[j]? = some d) : ∃ l, Span1 W v l := by
  obtain ⟨v0, v1, y0, y1, n, rfl, _, _, h0, h1⟩ := Go.Joins.open_agg2 Try.underlying23 (by kernel_rfl) (by kernel_rfl) hok h
  obtain ⟨x0, e0, _, w0⟩ := DataW.trod_int Try.underlying2 h0
  obtain ⟨x1, e1, _, w1⟩ := DataW.trod_int Try.underlying2 h1
  simp at e0 e1
  subst e0 e1
  exact ⟨(x0, x1), rfl, i64_of_wf w0, i64_of_wf w1⟩

theorem grid_of_trod {H : Type} {enc : TypeId × Value → H} {W : World} {base : Nat} {v : Value} {d : DataW H} {p : List MemPlace} {ts : List TypeId} {ds : List (DataW H)} {j : Nat}
    (hok : Value.okWide Try.prog W .any base 40 v) (h : DataW.Trod enc Try.prog W 0 (fun _ => true) true 40 v d p) (_hlt : ∀ x ∈ p, x.block < W.heap.size)
    (_hsz : (DataW.weightsEach Try.prog ts ds).all (· ≤ reachBytes) = true) (_ht : ts[j]? = some 40) (_hd : ds[j]? = some d) : ∃ l, Grid1 W v l := by
  obtain ⟨v0, v1, v2, y0, y1, y2, n, rfl, _, _, h0, h1, h2⟩ := Go.Joins.open_agg3 Try.underlying40 (by kernel_rfl) (by kernel_rfl) hok h
  obtain ⟨x0, e0, _, w0⟩ := DataW.trod_int Try.underlying2 h0
  obtain ⟨x1, e1, _, w1⟩ := DataW.trod_int Try.underlying2 h1
  obtain ⟨x2, e2, _, w2⟩ := DataW.trod_int Try.underlying3 h2
  simp at e0 e1 e2
  subst e0 e1 e2
  exact ⟨(x0, x1, x2), rfl, i64_of_wf w0, i64_of_wf w1, i64_of_wf w2⟩

/-- A slice of spans that came in reads as some list. -/
theorem spans_of_trod {H : Type} {enc : TypeId × Value → H} {W : World} {base : Nat} {v : Value} {d : DataW H} {p : List MemPlace} {ts : List TypeId} {ds : List (DataW H)} {j : Nat}
    (hok : Value.okWide Try.prog W .any base 29 v) (h : DataW.Trod enc Try.prog W 0 (fun _ => true) true 29 v d p) (hlt : ∀ x ∈ p, x.block < W.heap.size)
    (hsz : (DataW.weightsEach Try.prog ts ds).all (· ≤ reachBytes) = true) (ht : ts[j]? = some 29) (hd : ds[j]? = some d) : ∃ l, Spans W v l := by
  obtain ⟨a, n, cap, rfl⟩ := okWide_slice Try.underlying29 hok
  obtain ⟨fuel, hf⟩ := h
  rcases open_slice_pairs Try.underlying29 Try.underlying23 (by kernel_rfl) rfl rfl (by kernel_rfl) (by kernel_rfl) hf with ⟨hcs, hx⟩ | ⟨ad, n', cap', m, k, V0, V1, D0, D1, P0, P1, hcs, _, hl, hm, hz, hx, hcell⟩
  · simp [Value.cells] at hcs
    obtain ⟨rfl, rfl, rfl⟩ := hcs
    exact ⟨[], none, 0, rfl, by simp, by simp, by simp, by simp, by simp, .inl rfl⟩
  · simp [Value.cells] at hcs
    obtain ⟨rfl, rfl, rfl⟩ := hcs
    simp only [Prod.mk.injEq] at hx
    obtain ⟨rfl, rfl⟩ := hx
    simp only [if_true] at hz
    subst hz
    have hreach : m * 16 ≤ 140737488351232 := by
      have := sized_slice hsz ht hd Try.underlying29 (e := 23)
      rw [show Try.prog.bytesOf 23 = 16 by kernel_rfl] at this
      simp only [List.length_map, List.length_range, reachBytes] at this
      omega
    have each : ∀ i, ∃ x : Sp, i < m → V0 i = .int .i64 x.1 ∧ V1 i = .int .i64 x.2 ∧ I64 x.1 ∧ I64 x.2 := by
      intro i
      by_cases hi : i < m
      · obtain ⟨_, _, h0, h1⟩ := hcell i hi
        obtain ⟨x0, e0, _, w0⟩ := DataW.trod_int Try.underlying2 h0
        obtain ⟨x1, e1, _, w1⟩ := DataW.trod_int Try.underlying2 h1
        simp at e0 e1
        exact ⟨(x0, x1), fun _ => ⟨e0, e1, i64_of_wf w0, i64_of_wf w1⟩⟩
      · exact ⟨(0, 0), fun h => absurd h hi⟩
    obtain ⟨X, hX⟩ : ∃ X : Nat → Sp, ∀ i, i < m → V0 i = .int .i64 (X i).1 ∧ V1 i = .int .i64 (X i).2 ∧ I64 (X i).1 ∧ I64 (X i).2 :=
      ⟨fun i => Classical.choose (each i), fun i => Classical.choose_spec (each i)⟩
    clear each
    have hlen : ((List.range n).map X).length = n := by simp
    refine ⟨(List.range n).map X, some ad, m, by rw [hlen], by omega, by unfold maxLen at hm; omega, by omega, fun x hx => ?_, by simp, ?_⟩
    · obtain ⟨i, hi, rfl⟩ := List.mem_map.1 hx
      have := hX i (by have := List.mem_range.1 hi; omega)
      exact this.2.2
    · by_cases h0 : n = 0
      · left; subst h0; simp
      · right
        obtain ⟨b, off, spot⟩ := ad
        have hspot : spot = none := by simpa [Addr.add] using World.cell?_spot (hcell 0 (by omega)).1
        subst hspot
        have hbW : b < W.heap.size := hlt (.cell b off) (by simp only [List.mem_append]; exact .inl (MemPlace.mem_row.2 ⟨0, by omega, by simp⟩))
        refine ⟨b, off, rfl, hbW, fun j hj => ?_⟩
        rw [hlen] at hj
        obtain ⟨h1, h2, _⟩ := hcell j (by omega)
        rw [Addr.add_lit] at h1 h2
        obtain ⟨e1, e2, _⟩ := hX j (by omega)
        rw [h1, ← Nat.add_assoc] at *
        rw [h2, e1, e2]
        simp [List.getD_eq_getElem?_getD, hj]

end Go.Proofs.Ytiahmhmchppjgaa
