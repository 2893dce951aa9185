/- Where a parse of a script stands: plain laws. -/
import Derived.Test.YtkinhhkodaacjaaGreatDoorOx
namespace Go.Proofs.YtkinhhkodaacjaaGreatDoor
open Go.RowKit Go.Shelf

theorem decZ_one (n : Int) : 1 ≤ (decZ n).length := by
  by_cases h : n < 0
  · rw [decZ_neg h]; simp
  · rw [decZ_pos h]
    have := decN_ne n.natAbs
    cases hh : decN n.natAbs with
    | nil => exact absurd hh this
    | cons a l => simp
theorem numT_ge : ∀ l : List Int, 2 * l.length ≤ (numT l).length
  | [] => by simp
  | n :: l => by
    have h1 := numT_ge l
    have h2 := decZ_one n
    have e : numT (n :: l) = (32 :: decZ n) ++ numT l := rfl
    rw [e]
    simp only [List.length_append, List.length_cons]
    omega
theorem headT_ge (x : Scr) (n : Nat) : 2 * (headN x n).length ≤ (headT x n).length := by
  unfold headT lineW
  rw [join_nums]
  have := numT_ge (headN x n)
  unfold lineT
  simp only [List.length_append]
  omega
theorem preT_ge (x : Scr) : ∀ {n k : Nat}, k < n → (headT x k).length ≤ (preT x n).length
  | 0, _, h => absurd h (Nat.not_lt_zero _)
  | n + 1, k, h => by
    have e : preT x (n + 1) = preT x n ++ headT x n := rfl
    rw [e, List.length_append]
    by_cases hk : k = n
    · subst hk; omega
    · have := preT_ge x (n := n) (k := k) (by omega)
      omega
theorem flat_ge {α : Type} (f : α → List UInt8) (hf : ∀ x, 1 ≤ (f x).length) : ∀ l : List α, l.length ≤ (l.flatMap f).length
  | [] => by simp
  | x :: l => by
    have h1 := flat_ge f hf l
    have h2 := hf x
    rw [List.flatMap_cons, List.length_append, List.length_cons]
    omega
theorem flat_mem {α : Type} (f : α → List UInt8) : ∀ {l : List α} {x : α}, x ∈ l → (f x).length ≤ (l.flatMap f).length
  | y :: l, x, h => by
    rw [List.flatMap_cons, List.length_append]
    rcases List.mem_cons.1 h with rfl | h
    · omega
    · have := flat_mem f h
      omega
theorem opT_one (o : Ok) : 1 ≤ (opT o).length := by unfold opT lineW; simp
theorem ftT_one (f : Fk) : 1 ≤ (ftT f).length := by unfold ftT lineW; simp
theorem opT_data (o : Ok) : o.d.length ≤ (opT o).length := by
  rw [opT_eq]
  simp only [List.length_append, hexL_len]
  omega
/-- A script's text is as long as what is in it. -/
theorem printS_ge (x : Scr) : 2 * x.ups.length ≤ (printS x).length ∧ 2 * x.offs.length ≤ (printS x).length ∧ 2 * x.gates.length ≤ (printS x).length ∧ 2 * x.guards.length ≤ (printS x).length ∧ 2 * x.drifts.length ≤ (printS x).length ∧ x.ops.length ≤ (printS x).length ∧ (∀ o ∈ x.ops, o.d.length ≤ (printS x).length) ∧ x.fts.length ≤ (printS x).length := by
  have e : (printS x).length = (preT x 6).length + ((x.ops.flatMap opT).length + (x.fts.flatMap ftT).length) := by unfold printS restT; simp
  have h : ∀ k < 6, 2 * (headN x k).length ≤ (printS x).length := fun k hk => by
    have := headT_ge x k
    have := preT_ge x hk
    omega
  have h1 := h 1 (by decide)
  have h2 := h 2 (by decide)
  have h3 := h 3 (by decide)
  have h4 := h 4 (by decide)
  have h5 := h 5 (by decide)
  simp only [headN, List.length_map] at h1 h2 h3 h4 h5
  have h6 := flat_ge opT opT_one x.ops
  have h7 := flat_ge ftT ftT_one x.fts
  refine ⟨h1, h2, h3, h4, h5, by omega, fun o ho => ?_, by omega⟩
  have := flat_mem opT ho
  have := opT_data o
  omega
theorem At.small {n : Nat} {x : Scr} {r t : List UInt8} (h : At n x) (hd : donT x n ++ r = t) : x.ups.length ≤ t.length ∧ x.ops.length ≤ t.length ∧ x.fts.length ≤ t.length := by
  have hl := congrArg List.length hd
  rw [List.length_append] at hl
  unfold donT at hl
  split at hl
  · next hn =>
    obtain ⟨e1, e2⟩ := h.low hn
    rw [e1, e2]
    refine ⟨?_, by simp, by simp⟩
    by_cases h1 : n ≤ 1
    · rw [h.ups h1]; simp
    · have a := headT_ge x 1
      have b := preT_ge x (n := n) (k := 1) (by omega)
      simp only [headN, List.length_map] at a
      omega
  · have := printS_ge x
    omega
/-- Where a parse stands: what it has read, at which line, what is left. -/
def PAt (t : List UInt8) (x : Scr) (n : Nat) (r : List UInt8) : Prop := At n x ∧ donT x n ++ r = t ∧ n + r.length ≤ t.length ∧ ∃ f, r.length < f ∧ parseS t = parseG f n x r
theorem PAt.start (t : List UInt8) : PAt t scr0 0 t := ⟨At.start, by simp [donT, preT], by simp, t.length + 1, Nat.lt_succ_self _, rfl⟩
section
variable {t r r' : List UInt8} {x y : Scr} {n : Nat} {ws : List (List UInt8)}
theorem PAt.done (h : PAt t x n r) (hr : r = []) (hn : 6 ≤ n) : parseS t = (some x, 0) := by
  obtain ⟨_, _, _, f, hf, e⟩ := h
  cases f with
  | zero => omega
  | succ f => rw [e, parseG, if_pos ⟨hn, hr⟩]
theorem PAt.cutNone (h : PAt t x n r) (hg : ¬ (6 ≤ n ∧ r = [])) (hx : nextW r = none) : parseS t = (none, n + 1) := by
  obtain ⟨_, _, _, f, hf, e⟩ := h
  cases f with
  | zero => omega
  | succ f => rw [e, parseG, if_neg hg, hx]
theorem PAt.lineNone (h : PAt t x n r) (hg : ¬ (6 ≤ n ∧ r = [])) (hx : nextW r = some (ws, r')) (hl : lineS x n ws = none) : parseS t = (none, n + 1) := by
  obtain ⟨_, _, _, f, hf, e⟩ := h
  cases f with
  | zero => omega
  | succ f => rw [e, parseG, if_neg hg, hx]; simp only [hl]
theorem PAt.step (h : PAt t x n r) (hg : ¬ (6 ≤ n ∧ r = [])) (hx : nextW r = some (ws, r')) (hl : lineS x n ws = some y) : PAt t y (n + 1) r' ∧ r'.length < r.length := by
  obtain ⟨ha, hd, hn, f, hf, e⟩ := h
  obtain ⟨a1, a2⟩ := ha.step hl
  have hw := next_line hx
  have hlt : r'.length < r.length := by
    have := congrArg List.length hw
    rw [List.length_append] at this
    have h1 : 1 ≤ (lineW ws).length := by unfold lineW; simp
    simp only at this
    omega
  refine ⟨⟨a1, ?_, by omega, ?_⟩, hlt⟩
  · rw [a2, List.append_assoc, ← hd, hw]
  · cases f with
    | zero => omega
    | succ f =>
      refine ⟨f, by omega, ?_⟩
      rw [e, parseG, if_neg hg, hx]
      simp only [hl]
theorem PAt.small (h : PAt t x n r) : x.ups.length ≤ t.length ∧ x.ops.length ≤ t.length ∧ x.fts.length ≤ t.length ∧ r.length ≤ t.length := by
  have := h.1.small h.2.1
  have hl := congrArg List.length h.2.1
  rw [List.length_append] at hl
  exact ⟨this.1, this.2.1, this.2.2, by omega⟩
end
theorem mem_len {c : UInt8} : ∀ {ws : List (List UInt8)} {w : List UInt8}, w ∈ ws → w.length ≤ (joinB c ws).length
  | [], _, h => by cases h
  | [y], w, h => by rw [List.mem_singleton.1 h]; exact Nat.le_refl _
  | x :: y :: r, w, h => by
    show _ ≤ (x ++ c :: joinB c (y :: r)).length
    rw [List.length_append, List.length_cons]
    rcases List.mem_cons.1 h with rfl | h
    · omega
    · have := mem_len (c := c) h; omega
theorem next_words {r r' : List UInt8} {ws : List (List UInt8)} (h : nextW r = some (ws, r')) : ws ≠ [] ∧ ws.length ≤ r.length + 1 ∧ (∀ w ∈ ws, w.length ≤ r.length) ∧ r'.length < r.length := by
  unfold nextW at h
  obtain ⟨p, hp, e⟩ := Option.map_eq_some_iff.1 h
  simp only [Prod.mk.injEq] at e
  obtain ⟨rfl, rfl⟩ := e
  obtain ⟨e, _⟩ := cutB_some hp
  have hl : r.length = p.1.length + p.2.length + 1 := by
    have := congrArg List.length e
    simp at this; omega
  refine ⟨?_, Nat.le_trans (splitB_len 32 p.1 (Nat.le_refl _)) (by omega), fun w hw => ?_, by omega⟩
  · intro e0
    have := joinB_splitB 32 p.1
    cases hp1 : p.1 with
    | nil => rw [hp1] at e0; simp [splitB] at e0
    | cons a l =>
      rw [e0, hp1] at this
      simp [joinB] at this
  · have := mem_len (c := 32) hw
    rw [joinB_splitB] at this
    omega
end Go.Proofs.YtkinhhkodaacjaaGreatDoor
