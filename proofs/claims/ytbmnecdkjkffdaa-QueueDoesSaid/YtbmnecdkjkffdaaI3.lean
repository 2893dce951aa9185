/- The queue and the document's, side by side. -/
import Derived.Test.YtbmnecdkjkffdaaI2
import Derived.Test.YtbmnecdkjkffdaaE13
namespace Go.Proofs.Ytbmnecdkjkffdaa
open Go.RowKit Go.Shelf

theorem rd_small {W : World} {b : Nat} {t : TypeId} {cs : Array Value} {o n c : Nat} {L : List Ev} (h : Rd encE 4 W (.slice (some ⟨b, o, none⟩) n c) L) (hb : Blk W b t cs) (hs : cs.size ≤ 3) : L = [] := by
  cases L with
  | nil => rfl
  | cons x L =>
    obtain ⟨b', o', e, -, hc⟩ := h.row (by simp)
    simp only [Option.some.injEq, Addr.mk.injEq, and_true] at e
    obtain ⟨rfl, rfl⟩ := e
    have h3 := hc 0 x rfl 3 _ rfl
    rw [hb.cell] at h3
    have := (Array.getElem?_eq_some_iff.1 h3).1
    omega
theorem rd_lt {W : World} {b o n c : Nat} {L : List Ev} (h : Rd encE 4 W (.slice (some ⟨b, o, none⟩) n c) L) (hl : L ≠ []) : b < W.heap.size := by
  obtain ⟨b', o', e, hlt, -⟩ := h.row hl
  simp only [Option.some.injEq, Addr.mk.injEq, and_true] at e
  obtain ⟨rfl, rfl⟩ := e
  exact hlt
/-- The queue at q holds h; the document's at r holds it in order; all below B is as in w. -/
structure JQ (w : World) (q r : Nat) (h : List Ev) (now : Int) (W : World) : Prop where
  st : ∃ sv v, Qu W q sv h now ∧ RQ W r v (sortE h) now ∧ ∀ b o n c, v = .slice (some ⟨b, o, none⟩) n c → sortE h = [] ∨ sv.ownBlock ≠ some b
  heap : Heap h
  bel : Below w.heap.size w W
  hq : w.heap.size ≤ q
  hr : w.heap.size ≤ r
/-- .. where the queue alone has gone on. -/
structure JM (w : World) (q r : Nat) (h' : List Ev) (now' : Int) (h : List Ev) (now : Int) (W : World) : Prop where
  st : ∃ sv v, Qu W q sv h' now' ∧ RQ W r v (sortE h) now ∧ ∀ b o n c, v = .slice (some ⟨b, o, none⟩) n c → sortE h = [] ∨ sv.ownBlock ≠ some b
  bel : Below w.heap.size w W
  hq : w.heap.size ≤ q
  hr : w.heap.size ≤ r
section
variable {w W W' : World} {q r : Nat} {h h' : List Ev} {now now' : Int}
theorem JQ.keep (j : JQ w q r h now W) (hb : Below W.heap.size W W') : JQ w q r h now W' := by
  obtain ⟨sv, v, h1, h2, h3⟩ := j.st
  exact ⟨⟨sv, v, h1.below hb, h2.keep hb, h3⟩, j.heap, j.bel.trans (hb.mono j.bel.size), j.hq, j.hr⟩
theorem JM.keep (j : JM w q r h' now' h now W) (hb : Below W.heap.size W W') : JM w q r h' now' h now W' := by
  obtain ⟨sv, v, h1, h2, h3⟩ := j.st
  exact ⟨⟨sv, v, h1.below hb, h2.keep hb, h3⟩, j.bel.trans (hb.mono j.bel.size), j.hq, j.hr⟩
theorem JQ.mid (j : JQ w q r h now W) : JM w q r h now h now W := ⟨j.st, j.bel, j.hq, j.hr⟩
/-- The queue goes on. -/
theorem JQ.turn (j : JQ w q r h now W) {sv sv' v : Value} (hQ : Qu W q sv h now) (hR : RQ W r v (sortE h) now) (hs : ∀ b o n c, v = .slice (some ⟨b, o, none⟩) n c → sortE h = [] ∨ sv.ownBlock ≠ some b)
    (hk : QK W W' q sv) (hn : ∀ g, sv'.ownBlock = some g → sv.ownBlock = some g ∨ W.heap.size ≤ g) (hQ' : Qu W' q sv' h' now') : JM w q r h' now' h now W' := by
  have hrq : r ≠ q := fun e => by
    have h1 := hQ.1
    have h2 := hR.1
    subst e
    rw [Blk, show W.heap[r]? = _ from h2] at h1
    cases h1
  have hrs : sv.ownBlock ≠ some r := own_blk_ne hQ.2 hR.1 (by decide)
  refine ⟨⟨sv', v, hQ', ⟨blk_qk hk hR.1 hrq hrs, ?_⟩, fun b o n c e => ?_⟩, ?_, j.hq, j.hr⟩
  · obtain ⟨a, cap, rfl, q1, q2, q3, q5, q4⟩ := hR.2
    refine ⟨a, cap, rfl, q1, q2, q3, q5, ?_⟩
    rcases q4 with q4 | ⟨b, off, rfl, hlt, hc⟩
    · exact .inl q4
    · by_cases hl : sortE h = []
      · exact .inl hl
      · have hbq : b ≠ q := fun e => by
          subst e
          exact hl (rd_small ⟨_, cap, rfl, q1, q2, q3, by simp, .inr ⟨b, off, rfl, hlt, hc⟩⟩ hQ.1 (by simp))
        have hbs : sv.ownBlock ≠ some b := (hs _ _ _ _ rfl).resolve_left hl
        refine .inr ⟨b, off, rfl, Nat.lt_of_lt_of_le hlt hk.size, fun i x hi k u hu => ?_⟩
        rw [World.cell?_of_block (hk.block b hlt hbq hbs)]
        exact hc i x hi k u hu
  · by_cases hl : sortE h = []
    · exact .inl hl
    · refine .inr fun e' => ?_
      rcases hn b e' with e2 | e2
      · exact ((hs _ _ _ _ e).resolve_left hl) e2
      · subst e
        have := rd_lt hR.2 hl
        omega
  · exact j.bel.trans ((⟨hk, .inl rfl⟩ : QS W W' q sv sv).below j.bel.size j.hq (fun g e => by have := (hQ.2.lt g e).1; have := j.hq; omega))
/-- The document's queue follows. -/
theorem JM.turn (j : JM w q r h' now' h now W) {sv v v' : Value} (hQ : Qu W q sv h' now') (hR : RQ W r v (sortE h) now) (hs : ∀ b o n c, v = .slice (some ⟨b, o, none⟩) n c → sortE h = [] ∨ sv.ownBlock ≠ some b)
    (hg : W.grownBy W' (some r)) (hR' : RQ W' r v' (sortE h') now') (hh : Heap h') (hf : ∀ b o n c, v' = .slice (some ⟨b, o, none⟩) n c → sortE h' = [] ∨ (sortE h ≠ [] ∧ ∃ o n c, v = .slice (some ⟨b, o, none⟩) n c) ∨ W.heap.size ≤ b) : JQ w q r h' now' W' := by
  have hqr : q ≠ r := fun e => by
    have h1 := hQ.1
    have h2 := hR.1
    subst e
    rw [Blk, show W.heap[q]? = _ from h2] at h1
    cases h1
  have hrs : sv.ownBlock ≠ some r := own_blk_ne hQ.2 hR.1 (by decide)
  have hQ' : Qu W' q sv h' now' := by
    refine ⟨hQ.1.kept hg (fun e => hqr (by cases e; rfl)), hQ.2.kept hg ?_⟩
    exact .inr hrs
  refine ⟨⟨sv, v', hQ', hR', fun b o n c e => ?_⟩, hh, j.bel.grown hg j.bel.size (fun k e => by cases e; exact j.hr), j.hq, j.hr⟩
  rcases hf b o n c e with e1 | ⟨hl, o', n', c', e1⟩ | e1
  · exact .inl e1
  · exact .inr ((hs _ _ _ _ e1).resolve_left hl)
  · refine .inr fun e2 => ?_
    have := (hQ.2.lt b e2).2
    omega
end
/-- What Push leaves, in order. -/
theorem push_sort (h : List Ev) (now : Int) (x : Ev) : pushE (sortE h) now x = pushE h now x ∧ rpushL (sortE h) now x = sortE (pushL h now x) := by
  have he : pushE (sortE h) now x = pushE h now x := by unfold pushE; rw [sortE_len]
  refine ⟨he, ?_⟩
  unfold rpushL
  rw [he]
  by_cases h0 : pushE h now x = 0
  · rw [if_pos h0, ← sortE_cons]
    exact sortE_of_perm (pushL_yes h0).symm
  · rw [if_neg h0, pushL_no h0]
/-- .. Pop .. -/
theorem pop_sort {h : List Ev} (hh : Heap h) {x : Ev} (hx : h[0]? = some x) : sortE h = x :: sortE (popL h) := by
  have hp := popL_perm hx
  symm
  refine sortE_of_rise (List.pairwise_cons.2 ⟨fun y hy => ?_, sortE_rise _⟩) (((sortE_perm _).cons x).trans hp.symm)
  exact head_min hh hx y (hp.mem_iff.2 (List.mem_cons_of_mem _ ((sortE_perm _).mem_iff.1 hy)))
end Go.Proofs.Ytbmnecdkjkffdaa
