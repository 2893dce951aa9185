/- Plain mathematics of chapter 6 (spans put together); no program in sight. -/
namespace Go.Proofs.Ytiahmhmchppjgaa.Sched

abbrev Sp := Int × Int
def bad (s : Sp) : Bool := decide (s.1 < 0) || decide (s.2 < s.1) || decide (1099511627776 < s.2)
/-- A moment lies in one of the spans. -/
def In (t : Int) (l : List Sp) : Prop := ∃ s ∈ l, s.1 ≤ t ∧ t < s.2
/-- Spans put together: none empty, rising, with gaps between. -/
def Nrm (l : List Sp) : Prop := (∀ s ∈ l, s.1 < s.2) ∧ l.Pairwise (fun a b => a.2 < b.1)

theorem In_nil (t : Int) : ¬ In t [] := by simp [In]
theorem In_cons (t : Int) (s : Sp) (l : List Sp) : In t (s :: l) ↔ (s.1 ≤ t ∧ t < s.2) ∨ In t l := by simp [In]
theorem In_append (t : Int) (a b : List Sp) : In t (a ++ b) ↔ In t a ∨ In t b := by
  simp only [In, List.mem_append]
  constructor
  · rintro ⟨s, h | h, h'⟩
    · exact .inl ⟨s, h, h'⟩
    · exact .inr ⟨s, h, h'⟩
  · rintro (⟨s, h, h'⟩ | ⟨s, h, h'⟩)
    · exact ⟨s, .inl h, h'⟩
    · exact ⟨s, .inr h, h'⟩
theorem In_perm {t : Int} {a b : List Sp} (h : a.Perm b) : In t a ↔ In t b := by
  constructor
  · rintro ⟨s, hs, h'⟩; exact ⟨s, h.mem_iff.1 hs, h'⟩
  · rintro ⟨s, hs, h'⟩; exact ⟨s, h.mem_iff.2 hs, h'⟩

theorem Nrm_nil : Nrm [] := ⟨by simp, List.Pairwise.nil⟩
theorem Nrm.tail {s : Sp} {l : List Sp} (h : Nrm (s :: l)) : Nrm l := ⟨fun x hx => h.1 x (List.mem_cons_of_mem _ hx), List.Pairwise.of_cons h.2⟩
theorem Nrm.head {s : Sp} {l : List Sp} (h : Nrm (s :: l)) : s.1 < s.2 := h.1 s List.mem_cons_self
theorem Nrm.above {s : Sp} {l : List Sp} (h : Nrm (s :: l)) : ∀ x ∈ l, s.2 < x.1 := fun _ hx => List.rel_of_pairwise_cons h.2 hx
theorem Nrm.mk {s : Sp} {l : List Sp} (h : Nrm l) (hs : s.1 < s.2) (ha : ∀ x ∈ l, s.2 < x.1) : Nrm (s :: l) :=
  ⟨fun x hx => by rcases List.mem_cons.1 hx with rfl | hx; exact hs; exact h.1 x hx, List.Pairwise.cons ha h.2⟩
theorem Nrm.append {a b : List Sp} (ha : Nrm a) (hb : Nrm b) (h : ∀ x ∈ a, ∀ y ∈ b, x.2 < y.1) : Nrm (a ++ b) :=
  ⟨fun x hx => by rcases List.mem_append.1 hx with hx | hx; exact ha.1 x hx; exact hb.1 x hx, List.pairwise_append.2 ⟨ha.2, hb.2, h⟩⟩
theorem In_above {s : Sp} {l : List Sp} (h : Nrm (s :: l)) {t : Int} (ht : In t l) : s.2 < t := by
  obtain ⟨x, hx, h1, _⟩ := ht
  have := h.above x hx
  omega

/-- What is put together is told by its moments alone. -/
theorem Nrm_unique : ∀ {a b : List Sp}, Nrm a → Nrm b → (∀ t, In t a ↔ In t b) → a = b := by
  intro a
  induction a with
  | nil =>
    intro b _ hb h
    cases b with
    | nil => rfl
    | cons s b => exact absurd ((h s.1).2 ((In_cons _ _ _).2 (.inl ⟨Int.le_refl _, hb.head⟩))) (In_nil _)
  | cons s a ih =>
    intro b ha hb h
    cases b with
    | nil => exact absurd ((h s.1).1 ((In_cons _ _ _).2 (.inl ⟨Int.le_refl _, ha.head⟩))) (In_nil _)
    | cons z b =>
      have hs := ha.head
      have hz := hb.head
      have lo : ∀ {u v : Sp} {c d : List Sp}, Nrm (u :: c) → Nrm (v :: d) → (∀ t, In t (u :: c) → In t (v :: d)) → v.1 ≤ u.1 := by
        intro u v c d hu hv hi
        rcases (In_cons _ _ _).1 (hi u.1 ((In_cons _ _ _).2 (.inl ⟨Int.le_refl _, hu.head⟩))) with ⟨h1, _⟩ | h1
        · exact h1
        · have := In_above hv h1; have := hv.head; omega
      have h1 := lo ha hb (fun t => (h t).1)
      have h2 := lo hb ha (fun t => (h t).2)
      have hi : ∀ {u v : Sp} {c d : List Sp}, Nrm (u :: c) → u.1 = v.1 → v.1 < v.2 → (∀ t, In t (v :: d) → In t (u :: c)) → v.2 ≤ u.2 := by
        intro u v c d hu e hv hi
        rcases Int.lt_or_le u.2 v.2 with h3 | h3
        · have hu' := hu.head
          rcases (In_cons _ _ _).1 (hi u.2 ((In_cons _ _ _).2 (.inl ⟨by omega, h3⟩))) with ⟨_, h4⟩ | h4
          · omega
          · have := In_above hu h4; omega
        · exact h3
      have h3 := hi ha (by omega) hz (fun t => (h t).2)
      have h4 := hi hb (by omega) hs (fun t => (h t).1)
      have e : s = z := Prod.ext (by omega) (by omega)
      subst e
      congr 1
      refine ih ha.tail hb.tail fun t => ⟨fun ht => ?_, fun ht => ?_⟩
      · have := In_above ha ht
        rcases (In_cons _ _ _).1 ((h t).1 ((In_cons _ _ _).2 (.inr ht))) with ⟨_, h5⟩ | h5
        · omega
        · exact h5
      · have := In_above hb ht
        rcases (In_cons _ _ _).1 ((h t).2 ((In_cons _ _ _).2 (.inr ht))) with ⟨_, h5⟩ | h5
        · omega
        · exact h5

/-! ### the program's merge -/
/-- One span more, behind all that came: merged with the last one or laid behind. -/
def step (out : List Sp) (s : Sp) : List Sp :=
  if out ≠ [] ∧ s.1 ≤ (out.getLastD (0, 0)).2 then out.dropLast ++ [((out.getLastD (0, 0)).1, max (out.getLastD (0, 0)).2 s.2)] else out ++ [s]
def merge (l : List Sp) : List Sp := l.foldl step []

theorem nil_or_last (l : List Sp) : l = [] ∨ ∃ t z, l = t ++ [z] := by
  rcases List.eq_nil_or_concat l with h | ⟨t, z, h⟩
  · exact .inl h
  · exact .inr ⟨t, z, by rw [h, List.concat_eq_append]⟩

theorem step_nrm {out : List Sp} {s : Sp} (ho : Nrm out) (hs : s.1 < s.2) (hl : ∀ x ∈ out, x.1 ≤ s.1) :
    Nrm (step out s) ∧ (∀ t, In t (step out s) ↔ In t out ∨ (s.1 ≤ t ∧ t < s.2)) ∧ ∀ x ∈ step out s, x.1 ≤ s.1 := by
  rcases nil_or_last out with rfl | ⟨o, z, rfl⟩
  · have e : step [] s = [s] := by simp [step]
    rw [e]
    exact ⟨Nrm_nil.mk hs (by simp), fun t => by simp [In], by simp⟩
  · have hz : z.1 < z.2 := ho.1 z (by simp)
    have hzs : z.1 ≤ s.1 := hl z (by simp)
    have hoz : ∀ x ∈ o, x.2 < z.1 := fun x hx => (List.pairwise_append.1 ho.2).2.2 x hx z (by simp)
    have hon : Nrm o := ⟨fun x hx => ho.1 x (by simp [hx]), (List.pairwise_append.1 ho.2).1⟩
    by_cases hm : s.1 ≤ z.2
    · have e : step (o ++ [z]) s = o ++ [(z.1, max z.2 s.2)] := by simp [step, hm]
      rw [e]
      refine ⟨hon.append (Nrm_nil.mk (by show z.1 < max z.2 s.2; omega) (by simp)) (fun x hx y hy => by simp at hy; subst hy; exact hoz x hx), fun t => ?_, ?_⟩
      · simp only [In_append, In_cons]
        constructor
        · rintro (h | h | h)
          · exact .inl (.inl h)
          · by_cases ht : t < z.2
            · exact .inl (.inr (.inl ⟨h.1, ht⟩))
            · exact .inr ⟨by omega, by omega⟩
          · exact absurd h (In_nil _)
        · rintro ((h | h | h) | h)
          · exact .inl h
          · exact .inr (.inl ⟨h.1, by omega⟩)
          · exact absurd h (In_nil _)
          · exact .inr (.inl ⟨by omega, by omega⟩)
      · intro x hx
        simp only [List.mem_append, List.mem_singleton] at hx
        rcases hx with hx | rfl
        · exact hl x (by simp [hx])
        · exact hzs
    · have e : step (o ++ [z]) s = (o ++ [z]) ++ [s] := by simp [step, hm]
      rw [e]
      refine ⟨ho.append (Nrm_nil.mk hs (by simp)) (fun x hx y hy => ?_), fun t => ?_, ?_⟩
      · simp only [List.mem_singleton] at hy
        subst hy
        simp only [List.mem_append, List.mem_singleton] at hx
        rcases hx with hx | rfl
        · have := hoz x hx; omega
        · omega
      · rw [In_append (b := [s])]
        simp only [In_cons]
        have := In_nil t
        constructor
        · rintro (h | h | h)
          · exact .inl h
          · exact .inr h
          · exact absurd h this
        · rintro (h | h)
          · exact .inl h
          · exact .inr (.inl h)
      · intro x hx
        simp only [List.mem_append, List.mem_singleton] at hx
        rcases hx with hx | rfl
        · exact hl x (by simpa using hx)
        · exact Int.le_refl _

/-- The merge of spans that rise is put together, and has their moments. -/
theorem merge_go : ∀ (l out : List Sp), Nrm out → (∀ s ∈ l, s.1 < s.2) → l.Pairwise (fun a b => a.1 ≤ b.1) → (∀ s ∈ l, ∀ x ∈ out, x.1 ≤ s.1) →
    Nrm (l.foldl step out) ∧ ∀ t, In t (l.foldl step out) ↔ In t out ∨ In t l := by
  intro l
  induction l with
  | nil => intro out ho _ _ _; exact ⟨ho, fun t => ⟨.inl, fun h => h.resolve_right (In_nil _)⟩⟩
  | cons s l ih =>
    intro out ho hs hp hl
    obtain ⟨h1, h2, h3⟩ := step_nrm ho (hs s List.mem_cons_self) (hl s List.mem_cons_self)
    obtain ⟨r1, r2⟩ := ih (step out s) h1 (fun x hx => hs x (List.mem_cons_of_mem _ hx)) (List.Pairwise.of_cons hp) (fun x hx y hy => by
      have := h3 y hy; have := List.rel_of_pairwise_cons hp hx; omega)
    refine ⟨r1, fun t => ?_⟩
    rw [List.foldl_cons, r2, h2, In_cons]
    constructor
    · rintro ((h | h) | h)
      · exact .inl h
      · exact .inr (.inl h)
      · exact .inr (.inr h)
    · rintro (h | h | h)
      · exact .inl (.inl h)
      · exact .inl (.inr h)
      · exact .inr h
theorem merge_nrm {l : List Sp} (hs : ∀ s ∈ l, s.1 < s.2) (hp : l.Pairwise (fun a b => a.1 ≤ b.1)) : Nrm (merge l) ∧ ∀ t, In t (merge l) ↔ In t l := by
  obtain ⟨h1, h2⟩ := merge_go l [] Nrm_nil hs hp (by simp)
  exact ⟨h1, fun t => by rw [merge, h2]; exact ⟨fun h => h.resolve_left (In_nil _), .inr⟩⟩

/-! ### the document's insertion -/
def pstep (st : List Sp × Sp × Bool) (x : Sp) : List Sp × Sp × Bool :=
  if x.2 < st.2.1.1 then (st.1 ++ [x], st.2.1, st.2.2)
  else if st.2.1.2 < x.1 then ((if st.2.2 then st.1 else st.1 ++ [st.2.1]) ++ [x], st.2.1, true)
  else (st.1, (min st.2.1.1 x.1, max st.2.1.2 x.2), st.2.2)
def put (l : List Sp) (s : Sp) : List Sp :=
  if (l.foldl pstep ([], s, false)).2.2 then (l.foldl pstep ([], s, false)).1 else (l.foldl pstep ([], s, false)).1 ++ [(l.foldl pstep ([], s, false)).2.1]

theorem pstep_done : ∀ (l out : List Sp) (s : Sp), (∀ x ∈ l, s.2 < x.1) → l.foldl pstep (out, s, true) = (out ++ l, s, true) := by
  intro l
  induction l with
  | nil => intro out s _; simp
  | cons x l ih =>
    intro out s h
    have hx := h x List.mem_cons_self
    have e : pstep (out, s, true) x = (out ++ [x], s, true) := by
      unfold pstep
      by_cases h1 : x.2 < s.1
      · simp [h1]
      · simp [h1, hx]
    rw [List.foldl_cons, e, ih _ _ (fun y hy => h y (List.mem_cons_of_mem _ hy))]
    simp

theorem put_go : ∀ (l out : List Sp) (s : Sp), Nrm out → Nrm l → s.1 < s.2 → (∀ y ∈ out, y.2 < s.1) → (∀ y ∈ out, ∀ x ∈ l, y.2 < x.1) →
    ∃ R, R = (if (l.foldl pstep (out, s, false)).2.2 then (l.foldl pstep (out, s, false)).1 else (l.foldl pstep (out, s, false)).1 ++ [(l.foldl pstep (out, s, false)).2.1]) ∧
      Nrm R ∧ ∀ t, In t R ↔ In t out ∨ (s.1 ≤ t ∧ t < s.2) ∨ In t l := by
  intro l
  induction l with
  | nil =>
    intro out s ho _ hs hos _
    refine ⟨_, rfl, ?_⟩
    simp only [List.foldl_nil, Bool.false_eq_true, if_false]
    refine ⟨ho.append (Nrm_nil.mk hs (by simp)) (fun x hx y hy => by simp at hy; subst hy; exact hos x hx), fun t => ?_⟩
    rw [In_append, In_cons]
  | cons x l ih =>
    intro out s ho hl hs hos hol
    rw [List.foldl_cons]
    by_cases h1 : x.2 < s.1
    · have e : pstep (out, s, false) x = (out ++ [x], s, false) := by simp [pstep, h1]
      rw [e]
      obtain ⟨R, hR, hn, hi⟩ := ih (out ++ [x]) s (ho.append (Nrm_nil.mk hl.head (by simp)) (fun y hy z hz => by simp at hz; subst hz; exact hol y hy _ List.mem_cons_self)) hl.tail hs
        (fun y hy => by rcases List.mem_append.1 hy with hy | hy; exact hos y hy; simp at hy; subst hy; exact h1)
        (fun y hy z hz => by rcases List.mem_append.1 hy with hy | hy; exact hol y hy z (List.mem_cons_of_mem _ hz); simp at hy; subst hy; exact hl.above z hz)
      refine ⟨R, hR, hn, fun t => ?_⟩
      have hnil := In_nil t
      rw [hi, In_append, In_cons, In_cons]
      constructor
      · rintro ((h | h | h) | h | h)
        · exact .inl h
        · exact .inr (.inr (.inl h))
        · exact absurd h hnil
        · exact .inr (.inl h)
        · exact .inr (.inr (.inr h))
      · rintro (h | h | h | h)
        · exact .inl (.inl h)
        · exact .inr (.inl h)
        · exact .inl (.inr (.inl h))
        · exact .inr (.inr h)
    · by_cases h2 : s.2 < x.1
      · have e : pstep (out, s, false) x = ((out ++ [s]) ++ [x], s, true) := by simp [pstep, h1, h2]
        rw [e, pstep_done l _ s (fun y hy => by have := hl.above y hy; have := hl.head; omega)]
        refine ⟨_, rfl, ?_⟩
        simp only [if_true]
        have hx : Nrm (s :: x :: l) := hl.mk hs (fun y hy => by
          rcases List.mem_cons.1 hy with rfl | hy
          · exact h2
          · have := hl.above y hy; have := hl.head; omega)
        have ea : out ++ [s] ++ [x] ++ l = out ++ (s :: x :: l) := by simp
        rw [ea]
        refine ⟨ho.append hx (fun y hy z hz => ?_), fun t => ?_⟩
        · rcases List.mem_cons.1 hz with rfl | hz
          · exact hos y hy
          · exact hol y hy z hz
        · rw [In_append, In_cons]
      · have e : pstep (out, s, false) x = (out, (min s.1 x.1, max s.2 x.2), false) := by simp [pstep, h1, h2]
        rw [e]
        have hxh := hl.head
        obtain ⟨R, hR, hn, hi⟩ := ih out (min s.1 x.1, max s.2 x.2) ho hl.tail (by show min s.1 x.1 < max s.2 x.2; omega)
          (fun y hy => by have := hos y hy; have := hol y hy x List.mem_cons_self; show y.2 < min s.1 x.1; omega)
          (fun y hy z hz => hol y hy z (List.mem_cons_of_mem _ hz))
        refine ⟨R, hR, hn, fun t => ?_⟩
        rw [hi, In_cons]
        simp only
        constructor
        · rintro (h | h | h)
          · exact .inl h
          · by_cases ht : s.1 ≤ t ∧ t < s.2
            · exact .inr (.inl ht)
            · exact .inr (.inr (.inl (by omega)))
          · exact .inr (.inr (.inr h))
        · rintro (h | h | h | h)
          · exact .inl h
          · exact .inr (.inl (by omega))
          · exact .inr (.inl (by omega))
          · exact .inr (.inr h)
theorem put_nrm {l : List Sp} {s : Sp} (hl : Nrm l) (hs : s.1 < s.2) : Nrm (put l s) ∧ ∀ t, In t (put l s) ↔ (s.1 ≤ t ∧ t < s.2) ∨ In t l := by
  obtain ⟨R, hR, hn, hi⟩ := put_go l [] s Nrm_nil hl hs (by simp) (by simp)
  have e : put l s = R := hR.symm
  rw [e]
  exact ⟨hn, fun t => by rw [hi]; exact ⟨fun h => h.resolve_left (In_nil _), .inr⟩⟩

/-! ### spans put together -/
def solid (l : List Sp) : List Sp := l.filter fun s => decide (s.1 < s.2)
theorem mem_solid {l : List Sp} {s : Sp} : s ∈ solid l ↔ s ∈ l ∧ s.1 < s.2 := by simp [solid]
theorem In_solid (t : Int) (l : List Sp) : In t (solid l) ↔ In t l := by
  constructor
  · rintro ⟨s, hs, h⟩; exact ⟨s, (mem_solid.1 hs).1, h⟩
  · rintro ⟨s, hs, h⟩; exact ⟨s, mem_solid.2 ⟨hs, by omega⟩, h⟩
/-- The document's. -/
def nrm (l : List Sp) : List Sp := (solid l).foldl put []
theorem put_fold : ∀ (l out : List Sp), (∀ s ∈ l, s.1 < s.2) → Nrm out → Nrm (l.foldl put out) ∧ ∀ t, In t (l.foldl put out) ↔ In t out ∨ In t l := by
  intro l
  induction l with
  | nil => intro out _ ho; exact ⟨ho, fun t => ⟨.inl, fun h => h.resolve_right (In_nil _)⟩⟩
  | cons s l ih =>
    intro out hs ho
    obtain ⟨h1, h2⟩ := put_nrm ho (hs s List.mem_cons_self)
    obtain ⟨r1, r2⟩ := ih (put out s) (fun x hx => hs x (List.mem_cons_of_mem _ hx)) h1
    refine ⟨r1, fun t => ?_⟩
    rw [List.foldl_cons, r2, h2, In_cons]
    constructor
    · rintro ((h | h) | h)
      · exact .inr (.inl h)
      · exact .inl h
      · exact .inr (.inr h)
    · rintro (h | h | h)
      · exact .inl (.inr h)
      · exact .inl (.inl h)
      · exact .inr h
theorem nrm_nrm (l : List Sp) : Nrm (nrm l) ∧ ∀ t, In t (nrm l) ↔ In t l := by
  obtain ⟨h1, h2⟩ := put_fold (solid l) [] (fun s hs => (mem_solid.1 hs).2) Nrm_nil
  exact ⟨h1, fun t => by rw [nrm, h2, In_solid]; exact ⟨fun h => h.resolve_left (In_nil _), .inr⟩⟩
/-- The program's merge of any rising order of the spans is the document's. -/
theorem merge_eq {l m : List Sp} (hp : m.Perm (solid l)) (hs : m.Pairwise (fun a b => a.1 ≤ b.1)) : merge m = nrm l := by
  obtain ⟨h1, h2⟩ := merge_nrm (l := m) (fun s hm => (mem_solid.1 (hp.mem_iff.1 hm)).2) hs
  obtain ⟨h3, h4⟩ := nrm_nrm l
  exact Nrm_unique h1 h3 fun t => by rw [h2, h4, In_perm hp, In_solid]
theorem nrm_congr {l m : List Sp} (h : ∀ t, In t l ↔ In t m) : nrm l = nrm m :=
  Nrm_unique (nrm_nrm l).1 (nrm_nrm m).1 fun t => by rw [(nrm_nrm l).2, (nrm_nrm m).2, h]
theorem nrm_perm {l m : List Sp} (h : l.Perm m) : nrm l = nrm m := nrm_congr fun _ => In_perm h
theorem nrm_again (l : List Sp) : nrm (nrm l) = nrm l := nrm_congr (nrm_nrm l).2

/-- What is put together lies within the bounds of what it was put together of. -/
theorem nrm_bd {l : List Sp} {lo hi : Int} (h : ∀ s ∈ l, lo ≤ s.1 ∧ s.2 ≤ hi) : ∀ s ∈ nrm l, lo ≤ s.1 ∧ s.2 ≤ hi ∧ s.1 < s.2 := by
  intro s hs
  obtain ⟨h1, h2⟩ := nrm_nrm l
  have hlt := h1.1 s hs
  obtain ⟨a, ha, h3, _⟩ := (h2 s.1).1 ⟨s, hs, Int.le_refl _, hlt⟩
  obtain ⟨b, hb, _, h4⟩ := (h2 (s.2 - 1)).1 ⟨s, hs, by omega, by omega⟩
  have := h a ha
  have := h b hb
  omega

end Go.Proofs.Ytiahmhmchppjgaa.Sched
