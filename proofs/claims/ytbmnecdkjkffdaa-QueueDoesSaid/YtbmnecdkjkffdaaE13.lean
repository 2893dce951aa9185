/- The state between two steps of QueueOrder: the queue, and the map that counts its events. -/
import Derived.Test.YtbmnecdkjkffdaaE12
namespace Go.Proofs.Ytbmnecdkjkffdaa
open Go.RowKit

/-- What is done: kind, event. -/
structure DoV where
  k : Int
  e : Ev
def encD (d : DoV) : List Value := .int .i64 d.k :: encE d.e
theorem encD_len (d : DoV) : (encD d).length = 5 := rfl
theorem encD_one (d : DoV) : ∀ u ∈ encD d, u.oneCell' = true := by
  intro u hu
  rcases List.mem_cons.1 hu with rfl | hu
  · rfl
  · exact encE_one _ u hu
theorem W33 : Wide Try.prog 33 5 := ⟨⟨_, Try.underlying33, rfl⟩, by kernel_rfl⟩
theorem encD_tail (d : DoV) {W : World} {b off : Nat} (h : ∀ j u, (encD d)[j]? = some u → W.cell? ⟨b, off + j, none⟩ = some u) : ∀ j u, (encE d.e)[j]? = some u → W.cell? ⟨b, off + 1 + j, none⟩ = some u := fun j u hu => by
  have := h (j + 1) u (by simpa [encD] using hu)
  rwa [show off + 1 + j = off + (j + 1) by omega]

/-- How often each event is there. -/
def CT (g : List Ev) : Ev → Int := fun x => (g.count x : Nat)
theorem CT_perm {g g' : List Ev} (h : g.Perm g') : CT g = CT g' := by
  funext x
  unfold CT
  rw [h.count_eq]
theorem CT_add (g : List Ev) (x : Ev) : upd (CT g) x (CT g x + 1) = CT (x :: g) := by
  funext y
  unfold upd CT
  by_cases h : y = x
  · subst h; simp
  · rw [if_neg h, List.count_cons]
    have : ¬ x = y := fun e => h e.symm
    simp [this]
theorem CT_sub (g : List Ev) (x : Ev) : upd (CT (x :: g)) x (CT (x :: g) x - 1) = CT g := by
  funext y
  unfold upd CT
  by_cases h : y = x
  · subst h; simp
  · rw [if_neg h, List.count_cons]
    have : ¬ x = y := fun e => h e.symm
    simp [this]
theorem CT_bd (g : List Ev) (x : Ev) : 0 ≤ CT g x ∧ CT g x ≤ g.length := by
  unfold CT
  have := List.count_le_length (a := x) (l := g)
  omega
/-- The queue at q holds h, its moment is last; the map at mb counts g. -/
structure OJ (w : World) (q mb : Nat) (h : List Ev) (last : Int) (g : List Ev) (W : World) : Prop where
  qu : ∃ sv, Qu W q sv h last
  heap : Heap h
  cm : ∃ n, Cm W mb n (CT g)
  low : ∀ x ∈ h, last ≤ x.a
  len : h.length ≤ 16384
  bel : Below w.heap.size w W
  hq : w.heap.size ≤ q
  hm : w.heap.size ≤ mb
section
variable {w W W' : World} {q mb : Nat} {h g g' : List Ev} {last : Int}
theorem OJ.keep (j : OJ w q mb h last g W) (hb : Below W.heap.size W W') : OJ w q mb h last g W' := by
  obtain ⟨sv, hq⟩ := j.qu
  obtain ⟨n, hc⟩ := j.cm
  exact ⟨⟨sv, hq.below hb⟩, j.heap, ⟨n, hc.keep hb⟩, j.low, j.len, j.bel.trans (hb.mono j.bel.size), j.hq, j.hm⟩
theorem OJ.map (j : OJ w q mb h last g W) {n : Nat} (hc : Cm W' mb n (CT g')) (hg : W.grownBy W' (some mb)) : OJ w q mb h last g' W' := by
  obtain ⟨sv, hq⟩ := j.qu
  obtain ⟨n0, hc0⟩ := j.cm
  have hne : q ≠ mb := fun e => hc0.ne_cells hq.1 rfl e.symm
  refine ⟨⟨sv, hq.1.kept hg (by simpa using hne), hq.2.kept hg ?_⟩, j.heap, ⟨n, hc⟩, j.low, j.len, j.bel.grown hg (by have := j.bel.size; omega) (fun k e => by cases e; exact j.hm), j.hq, j.hm⟩
  by_cases hs : sv.ownBlock = some mb
  · exfalso
    obtain ⟨es, c, he⟩ := hc0
    have := own_cells hq.2 hs he.blk
    cases this
  · exact .inr hs
theorem OJ.count (j : OJ w q mb h last g W) (hp : g.Perm g') : OJ w q mb h last g' W := ⟨j.qu, j.heap, by rw [← CT_perm hp]; exact j.cm, j.low, j.len, j.bel, j.hq, j.hm⟩
theorem OJ.apart (j : OJ w q mb h last g W) {sv : Value} (hq : Qu W q sv h last) : mb ≠ q ∧ sv.ownBlock ≠ some mb := by
  obtain ⟨n0, es, c, he⟩ := j.cm
  refine ⟨fun e => ?_, fun hs => ?_⟩
  · have hb := hq.1
    subst e
    rw [Blk, he.blk] at hb
    cases hb
  · have := own_cells hq.2 hs he.blk
    cases this
theorem OJ.turn (j : OJ w q mb h last g W) {sv sv' : Value} (hq : Qu W q sv h last) (hs : QS W W' q sv sv') {h' : List Ev} {last' : Int} (hq' : Qu W' q sv' h' last') (hh : Heap h') (hl : ∀ x ∈ h', last' ≤ x.a) (hn : h'.length ≤ 16384) : OJ w q mb h' last' g W' := by
  obtain ⟨h1, h2⟩ := j.apart hq
  obtain ⟨n, hc⟩ := j.cm
  exact ⟨⟨sv', hq'⟩, hh, ⟨n, hc.block (hs.k.block mb hc.lt h1 h2)⟩, hl, hn, j.bel.trans (hs.below j.bel.size j.hq (fun g e => by have := (hq.2.lt g e).1; have := j.hq; omega)), j.hq, j.hm⟩
theorem OJ.push (j : OJ w q mb h last g W) {sv sv' : Value} {x : Ev} (hq : Qu W q sv h last) (hq' : Qu W' q sv' (pushL h last x) last) (hs : QS W W' q sv sv') : OJ w q mb (pushL h last x) last g W' := by
  refine j.turn hq hs hq' (pushL_heap j.heap) (fun y hy => ?_) (pushL_len j.len).1
  by_cases he : pushE h last x = 0
  · rcases List.mem_cons.1 ((pushL_yes he).mem_iff.1 hy) with rfl | hy
    · unfold pushE at he
      split at he
      · simp at he
      · omega
    · exact j.low y hy
  · rw [pushL_no he] at hy
    exact j.low y hy
theorem OJ.pop (j : OJ w q mb h last g W) {sv sv' : Value} {x : Ev} (hq : Qu W q sv h last) (hx : h[0]? = some x) (hq' : Qu W' q sv' (popL h) x.a) (hs : QS W W' q sv sv') : OJ w q mb (popL h) x.a g W' := by
  have hp := popL_perm hx
  refine j.turn hq hs hq' (popL_heap j.heap) (fun y hy => nlt_at (head_min j.heap hx y (hp.mem_iff.2 (List.mem_cons_of_mem _ hy)))) (by have := hp.length_eq; have := j.len; simp at *; omega)
end
section
variable {w : World} {o : Oper} {a : Act} {m x : Operand} {b n : Nat} {f : Ev → Int} {e : Ev}
theorem exec_cmlook (h : Cm w b n f) (ho : o.op = .lookup 29 m x false) (hm : a.eval m = .map (some b)) (hx : a.eval x = .agg (encE e).toArray) : (execOp a.eval o).run Try.prog w = .ok (.value (.int .i64 (f e))) w := by
  simp [execOp, ho, hm, hx, cm_look h, Result.andThen]
theorem exec_cmentry {w' : World} {v : Value} (h : (Instr.mapEntry 29 (.map (some b)) (.agg (encE e).toArray)).run Try.prog w = .ok v w') (ho : o.op = .mapEntry 29 m x) (hm : a.eval m = .map (some b)) (hx : a.eval x = .agg (encE e).toArray) : (execOp a.eval o).run Try.prog w = .ok (.value v) w' := by
  simp [execOp, ho, hm, hx, h, Result.andThen]
theorem exec_cmstore {w' : World} {s : Nat} {v : Int} {y : Operand} (h : (Instr.entryStore 29 (.map (some b)) (goInt s) (.int .i64 v)).run Try.prog w = .ok () w') (ho : o.op = .entryStore 29 m x y) (hm : a.eval m = .map (some b)) (hx : a.eval x = goInt s) (hy : a.eval y = .int .i64 v) :
    (execOp a.eval o).run Try.prog w = .ok .skip w' ∨ (execOp a.eval o).run Try.prog w = .ok (.value undef) w' := by
  first
  | exact .inl (by simp [execOp, ho, hm, hx, hy, h, Result.andThen])
  | exact .inr (by simp [execOp, ho, hm, hx, hy, h, Result.andThen])
end
end Go.Proofs.Ytbmnecdkjkffdaa
