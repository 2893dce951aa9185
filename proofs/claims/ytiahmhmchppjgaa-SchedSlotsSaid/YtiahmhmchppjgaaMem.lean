/- Slices of spans that are read; rows of spans of a call's own. -/
import Derived.Test.YtiahmhmchppjgaaW1
import Derived.Test.YtiahmhmchppjgaaSortK
namespace Go.Proofs.Ytiahmhmchppjgaa
open Go.RowKit Go.Shelf
open Sched (Sp bad)

/-- A span's two cells. -/
def encSp (s : Sp) : List Value := [.int .i64 s.1, .int .i64 s.2]
theorem encSp_len (s : Sp) : (encSp s).length = 2 := rfl
theorem encSp_one (s : Sp) : ∀ v ∈ encSp s, v.oneCell' = true := by
  intro v hv
  simp [encSp] at hv
  rcases hv with rfl | rfl <;> rfl
theorem E29 : Elem Try.prog 29 23 (.agg #[.int .i64 0, .int .i64 0]) 2 16 := ⟨Try.underlying29, by kernel_rfl, rfl, by decide, by decide⟩

/-- A slice value of spans that reads as l. -/
def Spans (w : World) (v : Value) (l : List Sp) : Prop :=
  ∃ a cap, v = .slice a l.length cap ∧ l.length ≤ cap ∧ cap ≤ 9223372036854775807 ∧ l.length ≤ 8796093022208 ∧ (∀ s ∈ l, I64 s.1 ∧ I64 s.2) ∧ (a = none → cap = 0) ∧
    (l = [] ∨ ∃ b off, a = some ⟨b, off, none⟩ ∧ b < w.heap.size ∧ ∀ j, j < l.length → w.cell? ⟨b, off + j * 2, none⟩ = some (.int .i64 (l.getD j (0, 0)).1) ∧ w.cell? ⟨b, off + j * 2 + 1, none⟩ = some (.int .i64 (l.getD j (0, 0)).2))

theorem Spans.below {w w' : World} {v : Value} {l : List Sp} (h : Spans w v l) (hb : Below w.heap.size w w') : Spans w' v l := by
  obtain ⟨a, cap, rfl, h1, h2, h3, h5, h6, h4⟩ := h
  refine ⟨a, cap, rfl, h1, h2, h3, h5, h6, ?_⟩
  rcases h4 with h4 | ⟨b, off, rfl, hlt, hc⟩
  · exact .inl h4
  · refine .inr ⟨b, off, rfl, Nat.lt_of_lt_of_le hlt hb.size, fun j hj => ?_⟩
    rw [hb.cell hlt, hb.cell hlt]
    exact hc j hj
theorem Spans.len {w : World} {v : Value} {l : List Sp} (h : Spans w v l) : l.length ≤ 8796093022208 := by
  obtain ⟨a, cap, rfl, h1, h2, h3, _⟩ := h
  exact h3
theorem Spans.bd {w : World} {v : Value} {l : List Sp} (h : Spans w v l) : ∀ s ∈ l, I64 s.1 ∧ I64 s.2 := by
  obtain ⟨a, cap, rfl, h1, h2, h3, h5, _⟩ := h
  exact h5
theorem Spans.row {w : World} {a : Option Addr} {n cap : Nat} {l : List Sp} (h : Spans w (.slice a n cap) l) (hl : l ≠ []) :
    ∃ b off, a = some ⟨b, off, none⟩ ∧ b < w.heap.size ∧ ∀ j, j < l.length → w.cell? ⟨b, off + j * 2, none⟩ = some (.int .i64 (l.getD j (0, 0)).1) ∧ w.cell? ⟨b, off + j * 2 + 1, none⟩ = some (.int .i64 (l.getD j (0, 0)).2) := by
  obtain ⟨a', cap', e, h1, h2, h3, h5, h6, h4⟩ := h
  simp only [Value.slice.injEq] at e
  obtain ⟨rfl, rfl, rfl⟩ := e
  exact h4.resolve_left hl
theorem Spans.shape {w : World} {v : Value} {l : List Sp} (h : Spans w v l) : ∃ a cap, v = .slice a l.length cap ∧ l.length ≤ cap ∧ cap ≤ 9223372036854775807 ∧ l.length ≤ 8796093022208 := by
  obtain ⟨a, cap, rfl, h1, h2, h3, _⟩ := h
  exact ⟨a, cap, rfl, h1, h2, h3⟩
theorem getD_mem {l : List Sp} {k : Nat} (h : k < l.length) : l.getD k (0, 0) ∈ l := by simp [List.getD_eq_getElem?_getD, h]
theorem take_getD (l : List Sp) (k : Nat) (h : k < l.length) : l.take (k + 1) = l.take k ++ [l.getD k (0, 0)] := by
  rw [List.take_succ_eq_append_getElem h]
  simp [List.getD_eq_getElem?_getD, h]

/-- The two cells of a span in a row. -/
theorem rowSp {l : List Sp} {j : Nat} (hj : j < l.length) : (l.flatMap encSp)[j * 2]? = some (.int .i64 (l.getD j (0, 0)).1) ∧ (l.flatMap encSp)[j * 2 + 1]? = some (.int .i64 (l.getD j (0, 0)).2) := by
  have h0 := rowGet encSp_len l j 0 hj (by omega)
  have h1 := rowGet encSp_len l j 1 hj (by omega)
  rw [Nat.add_zero] at h0
  rw [h0, h1]
  simp [encSp, List.getD_eq_getElem?_getD, hj]

theorem ownSp {w : World} {base g n cap : Nat} {l : List Sp} (h : w.ownsRow base 23 2 (.slice (some ⟨g, 0, none⟩) n cap) n (l.flatMap encSp)) {j : Nat} (hj : j < l.length) :
    w.cell? ⟨g, j * 2, none⟩ = some (.int .i64 (l.getD j (0, 0)).1) ∧ w.cell? ⟨g, j * 2 + 1, none⟩ = some (.int .i64 (l.getD j (0, 0)).2) := by
  have hl := h.1
  rw [rowLen encSp_len] at hl
  rw [h.cellAt (j * 2) (by omega), h.cellAt (j * 2 + 1) (by omega)]
  exact rowSp hj

theorem Spans.of_owns {w : World} {base : Nat} {v : Value} {l : List Sp} (h : w.ownsRow base 23 2 v l.length (l.flatMap encSp)) (hl : l.length ≤ 8796093022208) (hb : ∀ s ∈ l, I64 s.1 ∧ I64 s.2) : Spans w v l := by
  rcases h.2 with ⟨rfl, h0⟩ | ⟨g, cap, cur, rfl, hg, hh, h1, h2, h3, h4⟩
  · have : l = [] := List.eq_nil_of_length_eq_zero h0
    subst this
    exact ⟨none, 0, rfl, by simp, by simp, by simp, by simp, by simp, .inl rfl⟩
  · refine ⟨_, _, rfl, h1, by simpa [maxLen] using h2, hl, hb, by simp, .inr ⟨g, 0, rfl, (Array.getElem?_eq_some_iff.1 hh).1, fun j hj => ?_⟩⟩
    rw [Nat.zero_add]
    exact ownSp h hj

theorem Spans.src {w : World} {v : Value} {l : List Sp} (h : Spans w v l) : Src w v l.length (l.flatMap encSp) 2 := by
  obtain ⟨a, cap, rfl, h1, h2, h3, h5, h6, h4⟩ := h
  refine ⟨a, cap, rfl, rowLen encSp_len l, rowOne encSp_one l, ?_⟩
  rcases h4 with rfl | ⟨b, off, rfl, hlt, hc⟩
  · exact .inl ⟨rfl, h6⟩
  · refine .inr ⟨_, rfl, fun j u hu => ?_⟩
    have hj : j < (l.flatMap encSp).length := (List.getElem?_eq_some_iff.1 hu).1
    rw [rowLen encSp_len] at hj
    have hq : j / 2 < l.length := by omega
    obtain ⟨c1, c2⟩ := hc (j / 2) hq
    obtain ⟨r1, r2⟩ := rowSp hq
    rw [Addr.add_lit]
    rcases Nat.mod_two_eq_zero_or_one j with hm | hm
    · have e : j / 2 * 2 = j := by omega
      rw [e] at c1 r1
      rw [c1, ← r1]; exact hu
    · have e : j / 2 * 2 + 1 = j := by omega
      rw [Nat.add_assoc, e] at c2
      rw [e] at r2
      rw [c2, ← r2]; exact hu

/-- Spans that the walk has laid in a new block. -/
theorem Spans.new {w : World} {t : TypeId} (l : List Sp) (hl : l.length ≤ 8796093022208) (hb : ∀ s ∈ l, I64 s.1 ∧ I64 s.2) :
    Spans (w.alloc (.cells (l.flatMap encSp).toArray t)) (.slice (some ⟨w.heap.size, 0, none⟩) l.length l.length) l :=
  ⟨_, _, rfl, Nat.le_refl _, by omega, hl, hb, by simp, .inr ⟨w.heap.size, 0, rfl, by simp, fun j hj => by
    rw [World.cell?_alloc_at _ _ _ _ rfl, World.cell?_alloc_at _ _ _ _ rfl, Nat.zero_add]
    have := rowSp hj
    simpa using this⟩⟩

end Go.Proofs.Ytiahmhmchppjgaa
