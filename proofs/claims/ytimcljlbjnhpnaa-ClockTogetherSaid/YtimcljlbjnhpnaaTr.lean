/- A row of clocks that the call has made: what lies in it, and how that is carried on. -/
import Derived.Test.YtimcljlbjnhpnaaC9
import Derived.Test.YtimcljlbjnhpnaaTg
namespace Go.Proofs.Ytimcljlbjnhpnaa
open Go.RowKit Go.Shelf
open Md

theorem GoodCk.far {W : World} {c : Ck} {b : Nat} (h : GoodCk W c) (hne : ∀ p, c.da = some p → p.block ≠ b) (i : Nat) (x : Value) : GoodCk (W.setCell ⟨b, i, none⟩ x) c :=
  ⟨h.1.far hne i x, h.2⟩
/-- n clocks, of which the i-th is q i. -/
def At (W : World) (g n : Nat) (q : Nat → Int × Int × List Int) : Prop :=
  ∃ cs : Array Value, Blk W g 28 cs ∧ cs.size = n * 3 ∧ ∀ i, i < n → ∃ a c, cs[i * 3]? = some (.int .i64 (q i).1) ∧ cs[i * 3 + 1]? = some (.int .i64 (q i).2.1) ∧ cs[i * 3 + 2]? = some (.slice a (q i).2.2.length c) ∧
    GoodCk W ⟨(q i).1, (q i).2.1, a, c, (q i).2.2⟩ ∧ ∀ p, a = some p → p.block ≠ g
section
variable {W W' : World} {g n : Nat} {q : Nat → Int × Int × List Int}
theorem At.lt (h : At W g n q) : g < W.heap.size := by obtain ⟨cs, hb, _⟩ := h; exact hb.lt
theorem At.fz (h : At W g n q) (i : Nat) : W.frozen? ⟨g, i, none⟩ = false := by obtain ⟨cs, hb, _⟩ := h; exact hb.frozen i
theorem At.keep (h : At W g n q) (hb : Below W.heap.size W W') : At W' g n q := by
  obtain ⟨cs, h1, h2, h3⟩ := h
  refine ⟨cs, h1.keep hb, h2, fun i hi => ?_⟩
  obtain ⟨a, c, e0, e1, e2, hg, hp⟩ := h3 i hi
  exact ⟨a, c, e0, e1, e2, hg.below hb, hp⟩
theorem At.get (h : At W g n q) {i : Nat} (hi : i < n) : ∃ a c, W.cell? ⟨g, i * 3, none⟩ = some (.int .i64 (q i).1) ∧ W.cell? ⟨g, i * 3 + 1, none⟩ = some (.int .i64 (q i).2.1) ∧ W.cell? ⟨g, i * 3 + 2, none⟩ = some (.slice a (q i).2.2.length c) ∧
    GoodCk W ⟨(q i).1, (q i).2.1, a, c, (q i).2.2⟩ ∧ ∀ p, a = some p → p.block ≠ g := by
  obtain ⟨cs, h1, h2, h3⟩ := h
  obtain ⟨a, c, e0, e1, e2, hg, hp⟩ := h3 i hi
  exact ⟨a, c, (h1.cell _).trans e0, (h1.cell _).trans e1, (h1.cell _).trans e2, hg, hp⟩
theorem At.congr {q' : Nat → Int × Int × List Int} (h : At W g n q) (hq : ∀ i, i < n → q i = q' i) : At W g n q' := by
  obtain ⟨cs, h1, h2, h3⟩ := h
  refine ⟨cs, h1, h2, fun i hi => ?_⟩
  rw [← hq i hi]
  exact h3 i hi
theorem At.far (h : At W g n q) {b : Nat} (hb : g ≠ b) (hB : ∀ i a c, i < n → W.cell? ⟨g, i * 3 + 2, none⟩ = some (.slice a (q i).2.2.length c) → ∀ p, a = some p → p.block ≠ b) (j : Nat) (x : Value) : At (W.setCell ⟨b, j, none⟩ x) g n q := by
  obtain ⟨cs, h1, h2, h3⟩ := h
  refine ⟨cs, h1.far hb x, h2, fun i hi => ?_⟩
  obtain ⟨a, c, e0, e1, e2, hg, hp⟩ := h3 i hi
  exact ⟨a, c, e0, e1, e2, hg.far (hB i a c hi ((h1.cell _).trans e2)) j x, hp⟩
theorem set_ne {cs : Array Value} {i j : Nat} (h : i ≠ j) (v : Value) : (cs.setIfInBounds i v)[j]? = cs[j]? := by
  rw [Array.getElem?_setIfInBounds]; simp [h]
theorem set_eq {cs : Array Value} {i : Nat} (h : i < cs.size) (v : Value) : (cs.setIfInBounds i v)[i]? = some v := by
  rw [Array.getElem?_setIfInBounds]; simp [h]
theorem At.set1 (h : At W g n q) {i : Nat} (hi : i < n) (x : Int) (hx : I64 x) : At (W.setCell ⟨g, i * 3, none⟩ (.int .i64 x)) g n (fun t => if t = i then (x, (q i).2.1, (q i).2.2) else q t) := by
  obtain ⟨cs, h1, h2, h3⟩ := h
  refine ⟨cs.setIfInBounds (i * 3) (.int .i64 x), h1.set _ _, by simpa using h2, fun t ht => ?_⟩
  obtain ⟨a, c, e0, e1, e2, hg, hp⟩ := h3 t ht
  by_cases e : t = i
  · subst e
    simp only [if_true]
    refine ⟨a, c, set_eq (by omega) _, by rw [set_ne (by omega)]; exact e1, by rw [set_ne (by omega)]; exact e2, ⟨(hg.1.far hp _ _), hx, hg.2.2⟩, hp⟩
  · simp only [if_neg e]
    refine ⟨a, c, by rw [set_ne (by omega)]; exact e0, by rw [set_ne (by omega)]; exact e1, by rw [set_ne (by omega)]; exact e2, hg.far hp _ _, hp⟩
theorem At.set3 (h : At W g n q) {i : Nat} (hi : i < n) {c : Ck} (hc : GoodCk W c) (hp' : ∀ p, c.da = some p → p.block ≠ g) :
    At (((W.setCell ⟨g, i * 3, none⟩ (.int .i64 c.st)).setCell ⟨g, i * 3 + 1, none⟩ (.int .i64 c.sl)).setCell ⟨g, i * 3 + 2, none⟩ (.slice c.da c.dl.length c.dc)) g n (fun t => if t = i then (c.st, c.sl, c.dl) else q t) := by
  obtain ⟨cs, h1, h2, h3⟩ := h
  refine ⟨_, ((h1.set _ _).set _ _).set _ _, by simpa using h2, fun t ht => ?_⟩
  obtain ⟨a, k, e0, e1, e2, hg, hp⟩ := h3 t ht
  by_cases e : t = i
  · subst e
    simp only [if_true]
    refine ⟨c.da, c.dc, ?_, ?_, set_eq (by simp; omega) _, ((hc.far hp' _ _).far hp' _ _).far hp' _ _, hp'⟩
    · rw [set_ne (by omega), set_ne (by omega), set_eq (by omega)]
    · rw [set_ne (by omega), set_eq (by simp; omega)]
  · simp only [if_neg e]
    refine ⟨a, k, ?_, ?_, ?_, ((hg.far hp _ _).far hp _ _).far hp _ _, hp⟩
    · rw [set_ne (by omega), set_ne (by omega), set_ne (by omega)]; exact e0
    · rw [set_ne (by omega), set_ne (by omega), set_ne (by omega)]; exact e1
    · rw [set_ne (by omega), set_ne (by omega), set_ne (by omega)]; exact e2
end
theorem E28 : Elem Try.prog 50 28 (.agg #[.int .i64 0, .int .i64 0, .slice none 0 0]) 3 40 := ⟨Try.underlying50, by kernel_rfl, by kernel_rfl, by decide, by decide⟩
theorem At.made {w : World} {n : Nat} (W : World) (h : W.heap[w.heap.size]? = some (.cells (madeCells #[.int .i64 0, .int .i64 0, .slice none 0 0] (n * 3)) 28 (0, 0))) : At W w.heap.size n (fun _ => (0, 0, [])) := by
  refine ⟨_, h, size_madeCells _ _, fun i hi => ?_⟩
  refine ⟨none, 0, ?_, ?_, ?_, ⟨ints_nil W, (show I64 0 by unfold I64; omega), (show I64 0 by unfold I64; omega)⟩, by simp⟩
  · simp [madeCells, show i * 3 < n * 3 by omega]
  · simp [madeCells, show i * 3 + 1 < n * 3 by omega, show (i * 3 + 1) % 3 = 1 by omega]
  · simp [madeCells, show i * 3 + 2 < n * 3 by omega, show (i * 3 + 2) % 3 = 2 by omega]
end Go.Proofs.Ytimcljlbjnhpnaa
