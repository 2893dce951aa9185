/- Events in order: the one row that is sorted. -/
import Derived.Test.YtbmnecdkjkffdaaP4
namespace Go.Proofs.Ytbmnecdkjkffdaa
open Go.RowKit

/-- An event at its place. -/
def putE : List Ev → Ev → List Ev
  | [], e => [e]
  | x :: l, e => if ltE e x = true then e :: x :: l else x :: putE l e
def sortE (l : List Ev) : List Ev := l.foldl putE []
def Rise (l : List Ev) : Prop := l.Pairwise (fun a b => ¬ Lt b a)
theorem putE_perm : ∀ (l : List Ev) (e : Ev), (putE l e).Perm (e :: l)
  | [], _ => List.Perm.refl _
  | x :: l, e => by
    unfold putE
    split
    · exact List.Perm.refl _
    · exact ((putE_perm l e).cons x).trans (List.Perm.swap e x l)
theorem putE_len (l : List Ev) (e : Ev) : (putE l e).length = l.length + 1 := by rw [(putE_perm l e).length_eq]; rfl
theorem putE_rise : ∀ {l : List Ev} (_ : Rise l) (e : Ev), Rise (putE l e)
  | [], _, _ => by simp [putE, Rise]
  | x :: l, h, e => by
    obtain ⟨h1, h2⟩ := List.pairwise_cons.1 h
    unfold putE
    split
    · rename_i hlt
      rw [ltE_iff] at hlt
      refine List.pairwise_cons.2 ⟨fun y hy => ?_, h⟩
      rcases List.mem_cons.1 hy with rfl | hy
      · exact hlt.nlt
      · exact nlt_trans hlt.nlt (h1 y hy)
    · rename_i hlt
      rw [ltE_iff] at hlt
      refine List.pairwise_cons.2 ⟨fun y hy => ?_, putE_rise h2 e⟩
      rcases List.mem_cons.1 ((putE_perm l e).mem_iff.1 hy) with rfl | hy
      · exact hlt
      · exact h1 y hy
theorem foldE_rise : ∀ (l : List Ev) {m : List Ev}, Rise m → Rise (l.foldl putE m)
  | [], _, h => h
  | x :: l, _, h => foldE_rise l (putE_rise h x)
theorem foldE_perm : ∀ (l m : List Ev), (l.foldl putE m).Perm (l ++ m)
  | [], _ => List.Perm.refl _
  | x :: l, m => (foldE_perm l (putE m x)).trans (((putE_perm m x).append_left l).trans List.perm_middle)
theorem sortE_rise (l : List Ev) : Rise (sortE l) := foldE_rise l List.Pairwise.nil
theorem sortE_perm (l : List Ev) : (sortE l).Perm l := by
  have := foldE_perm l []
  rwa [List.append_nil] at this
theorem sortE_len (l : List Ev) : (sortE l).length = l.length := (sortE_perm l).length_eq
/-- Two rows in order with the same events are the same. -/
theorem rise_unique : ∀ {l m : List Ev}, Rise l → Rise m → l.Perm m → l = m
  | [], m, _, _, h => (List.nil_perm.1 h).symm
  | x :: l, [], _, _, h => by have := h.length_eq; simp at this
  | x :: l, y :: m, hl, hm, h => by
    obtain ⟨h1, h2⟩ := List.pairwise_cons.1 hl
    obtain ⟨h3, h4⟩ := List.pairwise_cons.1 hm
    have e : x = y := by
      rcases List.mem_cons.1 (h.mem_iff.1 (List.mem_cons_self (a := x) (l := l))) with e | hx
      · exact e
      · rcases List.mem_cons.1 (h.mem_iff.2 (List.mem_cons_self (a := y) (l := m))) with e | hy
        · exact e.symm
        · exact nlt_anti (h1 y hy) (h3 x hx)
    subst e
    rw [rise_unique h2 h4 (List.Perm.cons_inv h)]
theorem sortE_of_perm {l m : List Ev} (h : l.Perm m) : sortE l = sortE m := rise_unique (sortE_rise l) (sortE_rise m) ((sortE_perm l).trans (h.trans (sortE_perm m).symm))
theorem sortE_of_rise {l m : List Ev} (h : Rise m) (hp : m.Perm l) : m = sortE l := rise_unique h (sortE_rise l) (hp.trans (sortE_perm l).symm)
theorem sortE_snoc (l : List Ev) (x : Ev) : sortE (l ++ [x]) = putE (sortE l) x := by unfold sortE; rw [List.foldl_append]; rfl
theorem sortE_cons (l : List Ev) (x : Ev) : sortE (x :: l) = putE (sortE l) x := by
  rw [← sortE_snoc]
  exact sortE_of_perm (List.perm_append_comm (l₁ := [x]) (l₂ := l))
end Go.Proofs.Ytbmnecdkjkffdaa
