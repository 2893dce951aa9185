/- The document's Bus and the program's are one. The faults of begun. Laws of cleaning and of what is borne. []Fault of two and of three. -/
import Derived.Test.YtmflnbdajaiahaaF18
namespace Go.Proofs.Ytmflnbdajaiahaa
open Md

def Rel (t : St) (u : Rt) : Prop :=
  u.wl = t.well ∧ ((t.node < 0 ∧ u.o = -1 ∧ u.lo = -1) ∨ (0 ≤ t.node ∧ t.off = true ∧ u.o = t.node ∧ u.lo = -1 ∧ u.si = t.since) ∨ (0 ≤ t.node ∧ t.off = false ∧ u.o = -1 ∧ u.lo = t.node ∧ u.si = t.since))
theorem step_rel {t : St} {u : Rt} {f : Fa} (h : Rel t u) (hn : 0 ≤ f.n) (hk : ¬ 6 < f.k) :
    (nextR u f = none ∧ nextS t f = none) ∨ ∃ u' t', nextR u f = some u' ∧ nextS t f = some t' ∧ Rel t' u' := by
  obtain ⟨node, off, since, well⟩ := t
  obtain ⟨wl, o, lo, si⟩ := u
  obtain ⟨h0, h | h | h⟩ := h
  · obtain ⟨h1, h2, h3⟩ := h
    simp only at h0 h1 h2 h3
    subst h0 h2 h3
    unfold nextR nextS
    simp only
    have hneg : ¬ (0 : Int) ≤ -1 := by decide
    have hnode : ¬ 0 ≤ node := by omega
    simp only [if_neg hk, if_neg hneg, if_neg hnode]
    by_cases a1 : f.k = 2
    · rw [if_pos a1, if_pos a1]; exact .inl ⟨rfl, rfl⟩
    rw [if_neg a1, if_neg a1]
    by_cases a2 : f.r < wl
    · rw [if_pos a2, if_pos a2]; exact .inl ⟨rfl, rfl⟩
    rw [if_neg a2, if_neg a2]
    by_cases a3 : f.k = 1
    · rw [if_pos a3, if_pos a3]; exact .inr ⟨_, _, rfl, rfl, rfl, .inr (.inl ⟨hn, rfl, rfl, rfl, rfl⟩)⟩
    rw [if_neg a3, if_neg a3]
    by_cases a4 : f.k = 6
    · rw [if_pos a4, if_pos a4]; exact .inr ⟨_, _, rfl, rfl, rfl, .inr (.inr ⟨hn, rfl, rfl, rfl, rfl⟩)⟩
    rw [if_neg a4, if_neg a4]
    exact .inr ⟨_, _, rfl, rfl, rfl, .inl ⟨h1, rfl, rfl⟩⟩
  · obtain ⟨h1, h2, h3, h4, h5⟩ := h
    simp only at h0 h1 h2 h3 h4 h5
    subst h0 h2 h3 h4 h5
    unfold nextR nextS
    simp only
    simp only [if_neg hk, if_pos h1]
    simp only [if_true]
    by_cases a1 : f.n = o
    · rw [if_pos a1]
      by_cases a2 : f.k = 2
      · rw [if_pos a2, if_pos a2, if_pos a1]
        by_cases a3 : f.r ≤ si
        · rw [if_pos a3, if_pos a3]; exact .inl ⟨rfl, rfl⟩
        · rw [if_neg a3, if_neg a3]; exact .inr ⟨_, _, rfl, rfl, rfl, .inl ⟨by show (-1 : Int) < 0; decide, rfl, rfl⟩⟩
      · rw [if_neg a2, if_neg a2]; exact .inl ⟨by simp, by simp⟩
    · rw [if_neg a1, if_neg a1]
      split <;> exact .inl ⟨rfl, rfl⟩
  · obtain ⟨h1, h2, h3, h4, h5⟩ := h
    simp only at h0 h1 h2 h3 h4 h5
    subst h0 h2 h3 h4 h5
    unfold nextR nextS
    simp only
    have hneg : ¬ (0 : Int) ≤ -1 := by decide
    simp only [if_neg hk, if_neg hneg, if_pos h1]
    simp only [Bool.false_eq_true, if_false]
    by_cases a1 : f.n = lo
    · rw [if_pos a1]
      by_cases a2 : f.k = 1
      · rw [if_pos a2, if_pos a2, if_pos a1]
        by_cases a3 : f.r < si + 2
        · rw [if_pos a3, if_pos (by omega)]; exact .inl ⟨rfl, rfl⟩
        · rw [if_neg a3, if_neg (by omega)]; exact .inr ⟨_, _, rfl, rfl, rfl, .inr (.inl ⟨h1, rfl, rfl, rfl, rfl⟩)⟩
      · rw [if_neg a2, if_neg a2]; exact .inl ⟨by simp, by simp⟩
    · rw [if_neg a1, if_neg a1]
      split <;> exact .inl ⟨rfl, rfl⟩
theorem run_rel : ∀ (L : List Fa) (t : St) (u : Rt), Rel t u → (∀ x ∈ L, 0 ≤ x.n) → runR u L = runS t L
  | [], _, _, _, _ => rfl
  | f :: L, t, u, h, hn => by
    unfold runR runS
    by_cases hk : 6 < f.k
    · rw [if_pos hk, show nextR u f = none from if_pos hk]
    · rw [if_neg hk]
      rcases step_rel h (hn f (by simp)) hk with ⟨h1, h2⟩ | ⟨u', t', h1, h2, h3⟩
      · rw [h1, h2]
      · rw [h1, h2]
        exact run_rel L t' u' h3 fun x hx => hn x (by simp [hx])
/-- Bus answers as the document does. -/
theorem bus_law (m : Me) (l : List Fa) : busF m l = rbusF m l := by
  unfold busF rbusF
  split
  · exact (run_rel _ _ _ ⟨rfl, .inl ⟨by show (-1 : Int) < 0; decide, rfl, rfl⟩⟩ fun x hx => (mayF_bd (clean_may hx)).2.2).symm
  · rfl
end Go.Proofs.Ytmflnbdajaiahaa
namespace Go.Proofs.Ytmflnbdajaiahaa
open Md

def fA : Fa := ⟨3, 1, 0, 1, 0, 0, 0⟩
def fB : Fa := ⟨3, 2, 0, 3, 0, 0, 0⟩
def fC : Fa := ⟨3, 2, 0, 4, 0, 0, 0⟩
theorem may_a {m : Me} (h : m.nodes = 4) : mayF m fA = true := by simp [mayF, limOk, limP, inAll, fA, h]
theorem may_b {m : Me} (h : m.nodes = 4) : mayF m fB = true := by simp [mayF, limOk, limP, inAll, fB, h]
theorem may_c {m : Me} (h : m.nodes = 4) : mayF m fC = true := by simp [mayF, limOk, limP, inAll, fC, h]
theorem clean_ab {m : Me} (ho : okM m = true) (h : m.nodes = 4) : cleanF m [fA, fB] = [fA, fB] := by
  unfold cleanF cleanB
  rw [if_pos ho]
  simp only [List.filter, may_a h, may_b h]
  decide
theorem clean_ca {m : Me} (ho : okM m = true) (h : m.nodes = 4) : cleanF m [fC, fA] = [fA, fC] := by
  unfold cleanF cleanB
  rw [if_pos ho]
  simp only [List.filter, may_a h, may_c h]
  decide
theorem clean_cac {m : Me} (ho : okM m = true) (h : m.nodes = 4) : cleanF m [fC, fA, fC] = [fA, fC] := by
  unfold cleanF cleanB
  rw [if_pos ho]
  simp only [List.filter, may_a h, may_c h]
  decide
theorem bus_ab {m : Me} (ho : okM m = true) (h : m.nodes = 4) : busF m [fA, fB] = false := by
  unfold busF
  rw [if_pos ho, clean_ab ho h]
  decide
theorem bus_ca {m : Me} (ho : okM m = true) (h : m.nodes = 4) : busF m [fC, fA] = true := by
  unfold busF
  rw [if_pos ho, clean_ca ho h]
  decide
end Go.Proofs.Ytmflnbdajaiahaa
namespace Go.Proofs.Ytmflnbdajaiahaa
open Md

theorem cleanF_up (m : Me) (l : List Fa) : Up (cleanF m l) := by
  unfold cleanF
  split
  · exact cleanB_up _ _
  · exact List.Pairwise.nil
theorem cleanF_mem {m : Me} (h : okM m = true) (l : List Fa) (x : Fa) : x ∈ cleanF m l ↔ x ∈ l ∧ mayF m x = true := by
  unfold cleanF
  rw [if_pos h]
  exact cleanB_mem _ _ _
theorem cleanF_no {m : Me} (h : ¬ okM m = true) (l : List Fa) : cleanF m l = [] := if_neg h
/-- Of a list with the same members. -/
theorem cleanF_same (m : Me) {l l' : List Fa} (h : ∀ x, x ∈ l ↔ x ∈ l') : cleanF m l = cleanF m l' := by
  by_cases ho : okM m = true
  · exact up_unique (cleanF_up m l) (cleanF_up m l') fun x => by rw [cleanF_mem ho, cleanF_mem ho, h]
  · rw [cleanF_no ho, cleanF_no ho]
theorem cleanF_perm (m : Me) {l l' : List Fa} (h : l.Perm l') : cleanF m l = cleanF m l' := cleanF_same m fun _ => h.mem_iff
/-- A part of a list that is cleaned is clean. -/
theorem cleanF_part (m : Me) {l p : List Fa} (h : p.Sublist (cleanF m l)) : cleanF m p = p := by
  by_cases ho : okM m = true
  · refine up_unique (cleanF_up m p) ((cleanF_up m l).sublist h) fun x => ?_
    rw [cleanF_mem ho]
    exact ⟨fun hx => hx.1, fun hx => ⟨hx, clean_may (h.subset hx)⟩⟩
  · rw [cleanF_no ho] at h ⊢
    exact (List.sublist_nil.1 h).symm
theorem cleanF_again (m : Me) (l : List Fa) : cleanF m (cleanF m l) = cleanF m l := cleanF_part m (List.Sublist.refl _)
theorem busF_again (m : Me) (l : List Fa) : busF m (cleanF m l) = busF m l := by unfold busF; rw [cleanF_again]
theorem oneF_again (m : Me) (a b : Int) (l : List Fa) : oneF m a b (cleanF m l) = oneF m a b l := by unfold oneF; rw [cleanF_again]
theorem runS_prefix : ∀ (l : List Fa) (t : St) (r : List Fa), runS t (l ++ r) = true → runS t l = true
  | [], _, _, _ => rfl
  | f :: l, t, r, h => by
    rw [List.cons_append] at h
    unfold runS at h ⊢
    by_cases hk : 6 < f.k
    · rw [if_pos hk] at h; cases h
    · rw [if_neg hk] at h ⊢
      cases hn : nextS t f with
      | none => rw [hn] at h; cases h
      | some t' => rw [hn] at h; exact runS_prefix l t' r h
/-- Without its last faults what is borne is borne. -/
theorem busF_prefix {m : Me} {l p r : List Fa} (h : cleanF m l = p ++ r) (hb : busF m (cleanF m l) = true) : busF m p = true := by
  have hp : cleanF m p = p := cleanF_part m (by rw [h]; exact List.sublist_append_left p r)
  unfold busF at hb ⊢
  split at hb
  · rw [if_pos (by assumption), hp]
    rw [cleanF_again, h] at hb
    exact runS_prefix p _ r hb
  · cases hb
theorem alikeL_sub {a b : Int} {L p : List Fa} (h : p.Sublist L) (hb : alikeL a b L = true) : alikeL a b p = true := by
  cases p with
  | nil => rfl
  | cons y p =>
    unfold alikeL at hb ⊢
    rw [List.all_eq_true] at hb ⊢
    have hy := hb y (h.subset (by simp))
    intro x hx
    have hx' := hb x (h.subset hx)
    simp [isOne] at hx' hy ⊢
    exact ⟨hx'.1, by rw [hx'.2, hy.2]⟩
/-- Any part of what is of two kinds and of one node is that, too. -/
theorem oneF_part {m : Me} {a b : Int} {l p : List Fa} (h : p.Sublist (cleanF m l)) (hb : oneF m a b (cleanF m l) = true) : oneF m a b p = true := by
  have hp := cleanF_part m h
  unfold oneF at hb ⊢
  split at hb
  · rw [if_pos (by assumption), hp]
    rw [cleanF_again] at hb
    exact alikeL_sub h hb
  · cases hb
end Go.Proofs.Ytmflnbdajaiahaa
namespace Go.Proofs.Ytmflnbdajaiahaa
open Go.RowKit Go.Shelf

theorem exec_two {w : World} {o : Oper} {ac : Act} {x y : Operand} {p q : Fa} (ho : o.op = .buildSlice 26 2 #[(0, x), (1, y)]) (hx : ac.eval x = .agg (encF p).toArray) (hy : ac.eval y = .agg (encF q).toArray) :
    (execOp ac.eval o).run Try.prog w = .ok (.value (.slice (some ⟨w.heap.size, 0, none⟩) 2 2)) (w.alloc (.cells (encF p ++ encF q).toArray 33)) := by
  have hrun : (Instr.buildSlice 26 2 #[(0, .agg (encF p).toArray), (1, .agg (encF q).toArray)]).run Try.prog w = .ok (.slice (some ⟨w.heap.size, 0, none⟩) 2 2) (w.alloc (.cells (encF p ++ encF q).toArray 33)) := by
    unfold Instr.buildSlice encF
    go_simp
    try rfl
  simp [execOp, ho, hx, hy, hrun, Result.andThen]
theorem exec_three {w : World} {o : Oper} {ac : Act} {x y z : Operand} {p q r : Fa} (ho : o.op = .buildSlice 26 3 #[(0, x), (1, y), (2, z)]) (hx : ac.eval x = .agg (encF p).toArray) (hy : ac.eval y = .agg (encF q).toArray) (hz : ac.eval z = .agg (encF r).toArray) :
    (execOp ac.eval o).run Try.prog w = .ok (.value (.slice (some ⟨w.heap.size, 0, none⟩) 3 3)) (w.alloc (.cells (encF p ++ (encF q ++ encF r)).toArray 33)) := by
  have hrun : (Instr.buildSlice 26 3 #[(0, .agg (encF p).toArray), (1, .agg (encF q).toArray), (2, .agg (encF r).toArray)]).run Try.prog w = .ok (.slice (some ⟨w.heap.size, 0, none⟩) 3 3) (w.alloc (.cells (encF p ++ (encF q ++ encF r)).toArray 33)) := by
    unfold Instr.buildSlice encF
    go_simp
    try rfl
  simp [execOp, ho, hx, hy, hz, hrun, Result.andThen]
theorem rd_two (w : World) (p q : Fa) : Rd encF 7 (w.alloc (.cells (encF p ++ encF q).toArray 33)) (.slice (some ⟨w.heap.size, 0, none⟩) 2 2) [p, q] := by
  exact Rd.of_owns (e := 33) (base := w.heap.size) encF_len ⟨by simp [encF], .inr ⟨w.heap.size, 2, (encF p ++ encF q).toArray, rfl, Nat.le_refl _, World.alloc_heap_new w _, Nat.le_refl _, by decide, by simp [encF], by simp [encF]⟩⟩ (by simp)
theorem rd_three (w : World) (p q r : Fa) : Rd encF 7 (w.alloc (.cells (encF p ++ (encF q ++ encF r)).toArray 33)) (.slice (some ⟨w.heap.size, 0, none⟩) 3 3) [p, q, r] :=
  Rd.of_owns (e := 33) (base := w.heap.size) encF_len ⟨by simp [encF], .inr ⟨w.heap.size, 3, (encF p ++ (encF q ++ encF r)).toArray, rfl, Nat.le_refl _, World.alloc_heap_new w _, Nat.le_refl _, by decide, by simp [encF], by simp [encF]⟩⟩ (by simp)
end Go.Proofs.Ytmflnbdajaiahaa
