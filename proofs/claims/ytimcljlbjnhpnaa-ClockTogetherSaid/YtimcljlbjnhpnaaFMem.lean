/- Slices of integers that are read: what a walk is told of them, and how that is carried from world to world. -/
import Derived.WalkKit
import Derived.Lib.Hide
import Derived.Test.YtimcljlbjnhpnaaBlk
namespace Go.Proofs.Ytimcljlbjnhpnaa
open Go.RowKit

/-- A slice value of 64-bit integers that reads as l: nil or some row, below the heap's end. -/
def Ints (w : World) (v : Value) (l : List Int) : Prop :=
  ∃ a cap, v = .slice a l.length cap ∧ l.length ≤ cap ∧ cap ≤ 9223372036854775807 ∧ l.length ≤ 17592186044416 ∧ (∀ x ∈ l, I64 x) ∧ (a = none → cap = 0) ∧
    (l = [] ∨ ∃ b off, a = some ⟨b, off, none⟩ ∧ b < w.heap.size ∧ ∀ j, j < l.length → w.cell? ⟨b, off + j, none⟩ = some (.int .i64 (l.getD j 0)))

theorem Ints.below {w w' : World} {v : Value} {l : List Int} (h : Ints w v l) (hb : Below w.heap.size w w') : Ints w' v l := by
  obtain ⟨a, cap, rfl, h1, h2, h3, h5, h6, h4⟩ := h
  refine ⟨a, cap, rfl, h1, h2, h3, h5, h6, ?_⟩
  rcases h4 with h4 | ⟨b, off, rfl, hlt, hc⟩
  · exact .inl h4
  · refine .inr ⟨b, off, rfl, Nat.lt_of_lt_of_le hlt hb.size, fun j hj => ?_⟩
    rw [hb.cell hlt]
    exact hc j hj

theorem Ints.len {w : World} {v : Value} {l : List Int} (h : Ints w v l) : l.length ≤ 17592186044416 := by
  obtain ⟨a, cap, rfl, h1, h2, h3, _⟩ := h
  exact h3
theorem Ints.bd {w : World} {v : Value} {l : List Int} (h : Ints w v l) : ∀ x ∈ l, I64 x := by
  obtain ⟨a, cap, rfl, h1, h2, h3, h5, _⟩ := h
  exact h5
theorem Ints.row {w : World} {a : Option Addr} {n cap : Nat} {l : List Int} (h : Ints w (.slice a n cap) l) (hl : l ≠ []) :
    ∃ b off, a = some ⟨b, off, none⟩ ∧ b < w.heap.size ∧ ∀ j, j < l.length → w.cell? ⟨b, off + j, none⟩ = some (.int .i64 (l.getD j 0)) := by
  obtain ⟨a', cap', e, h1, h2, h3, h5, h6, h4⟩ := h
  simp only [Value.slice.injEq] at e
  obtain ⟨rfl, rfl, rfl⟩ := e
  exact h4.resolve_left hl
theorem Ints.shape {w : World} {v : Value} {l : List Int} (h : Ints w v l) : ∃ a cap, v = .slice a l.length cap ∧ l.length ≤ cap ∧ cap ≤ 9223372036854775807 ∧ l.length ≤ 17592186044416 := by
  obtain ⟨a, cap, rfl, h1, h2, h3, _⟩ := h
  exact ⟨a, cap, rfl, h1, h2, h3⟩

theorem getD_mem {l : List Int} {k : Nat} (h : k < l.length) : l.getD k 0 ∈ l := by simp [List.getD_eq_getElem?_getD, h]

theorem Ints.take {w : World} {a : Option Addr} {n cap : Nat} {l : List Int} (h : Ints w (.slice a n cap) l) (k : Nat) (hk : k ≤ l.length) : Ints w (.slice a k cap) (l.take k) := by
  obtain ⟨a', cap', e, h1, h2, h3, h5, h6, h4⟩ := h
  simp only [Value.slice.injEq] at e
  obtain ⟨rfl, rfl, rfl⟩ := e
  have hl : (l.take k).length = k := by simp; omega
  refine ⟨a, cap, by rw [hl], by omega, h2, by omega, fun x hx => h5 x (List.mem_of_mem_take hx), h6, ?_⟩
  rcases h4 with rfl | ⟨b, off, rfl, hlt, hc⟩
  · left; simp
  · refine .inr ⟨b, off, rfl, hlt, fun j hj => ?_⟩
    rw [hc j (by omega)]
    simp [List.getD_eq_getElem?_getD, show j < k by omega]

/-- What the call owns reads as it lies. -/
theorem Ints.of_owns {w : World} {base : Nat} {v : Value} {l : List Int} (h : w.ownsRow base 2 1 v l.length (l.map (Value.int .i64))) (hl : l.length ≤ 17592186044416) (hb : ∀ x ∈ l, I64 x) : Ints w v l := by
  rcases h.2 with ⟨rfl, h0⟩ | ⟨g, cap, cur, rfl, hg, hh, h1, h2, h3, h4⟩
  · have : l = [] := List.eq_nil_of_length_eq_zero h0
    subst this
    exact ⟨none, 0, rfl, by simp, by simp, by simp, by simp, by simp, .inl rfl⟩
  · refine ⟨_, _, rfl, h1, by simpa [maxLen] using h2, hl, hb, by simp, .inr ⟨g, 0, rfl, (Array.getElem?_eq_some_iff.1 hh).1, fun j hj => ?_⟩⟩
    rw [h.cellAt (0 + j) (by simpa using hj)]
    simp [List.getD_eq_getElem?_getD, hj]

/-- A row of integers as the source of an append. -/
theorem Ints.src {w : World} {v : Value} {l : List Int} (h : Ints w v l) : Src w v l.length (l.map (Value.int .i64)) 1 := by
  obtain ⟨a, cap, rfl, h1, h2, h3, h5, h6, h4⟩ := h
  refine ⟨a, cap, rfl, by simp, ints_oneCell _ _, ?_⟩
  rcases h4 with rfl | ⟨b, off, rfl, hlt, hc⟩
  · exact .inl ⟨rfl, h6⟩
  · refine .inr ⟨_, rfl, fun j u hu => ?_⟩
    have hj : j < l.length := by have := (List.getElem?_eq_some_iff.1 hu).1; simpa using this
    rw [Addr.add_lit, hc j hj]
    rw [List.getElem?_map, List.getElem?_eq_getElem hj] at hu
    simpa [List.getD_eq_getElem?_getD, hj] using hu

end Go.Proofs.Ytimcljlbjnhpnaa
