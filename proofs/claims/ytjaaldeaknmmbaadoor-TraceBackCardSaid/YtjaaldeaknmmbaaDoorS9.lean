/- Cliques in memory: a row of cliques, each with a row of its own. -/
import Derived.Test.YtjaaldeaknmmbaaDoorS8
namespace Go.Proofs.YtjaaldeaknmmbaaDoor
open Go.RowKit Go.Shelf

theorem own_setIn {w : World} {base e size n m : Nat} {g cap : Nat} {xs : List Value} (h : w.ownsRow base e size (.slice (some ⟨g, 0, none⟩) m cap) n xs) {j : Nat} (u : Value) :
    (w.setCell ⟨g, j, none⟩ u).ownsRow base e size (.slice (some ⟨g, 0, none⟩) m cap) n (xs.set j u) := by
  refine ⟨by simpa using h.1, ?_⟩
  rcases h.2 with ⟨h1, _⟩ | ⟨g', cap', cur, e1, h2, h3, h4, h5, h6, h7⟩
  · simp at h1
  · simp only [Value.slice.injEq, Option.some.injEq, Addr.mk.injEq, and_true] at e1
    obtain ⟨rfl, rfl, rfl⟩ := e1
    refine .inr ⟨g, cap, cur.setIfInBounds j u, rfl, h2, ?_, h4, h5, by simpa using h6, ?_⟩
    · simp [World.setCell, Array.getElem?_modify, h3]
    · rw [Array.toList_setIfInBounds, List.take_set, h7]
theorem own_frozen {w : World} {base e size n m : Nat} {g cap : Nat} {xs : List Value} (h : w.ownsRow base e size (.slice (some ⟨g, 0, none⟩) m cap) n xs) (j : Nat) : w.frozen? ⟨g, j, none⟩ = false := by
  rcases h.2 with ⟨h1, _⟩ | ⟨g', cap', cur, e1, h2, h3, _⟩
  · simp at h1
  · simp only [Value.slice.injEq, Option.some.injEq, Addr.mk.injEq, and_true] at e1
    obtain ⟨rfl, rfl, rfl⟩ := e1
    simp [World.frozen?, h3]
theorem own_cell {w : World} {base e size n m : Nat} {g cap : Nat} {xs : List Value} (h : w.ownsRow base e size (.slice (some ⟨g, 0, none⟩) m cap) n xs) {j : Nat} {u : Value} (hj : xs[j]? = some u) : w.cell? ⟨g, j, none⟩ = some u := by
  have := h.cells (g := g) rfl j u hj
  rwa [Addr.add_lit, Nat.zero_add] at this
theorem own_kept' {w w' : World} {base e size n : Nat} {v : Value} {xs : List Value} {row : Option Nat} (h : w.ownsRow base e size v n xs) (hg : w.grownBy w' row) (hr : ∀ b, v.ownBlock = some b → row ≠ some b) : w'.ownsRow base e size v n xs := by
  refine h.kept hg ?_
  rcases h.2 with ⟨rfl, _⟩ | ⟨g, cap, cur, rfl, _⟩
  · exact .inl rfl
  · exact .inr (fun e' => hr g rfl e'.symm)

structure Grps (W : World) (base : Nat) (v : Value) (gs : List Gr) : Prop where
  row : W.ownsRow base 77 6 v gs.length (gs.flatMap encG)
  each : ∀ g ∈ gs, W.ownsRow base 3 1 g.v g.ids.length (g.ids.map (.int .i64))
  far : ∀ g ∈ gs, ∀ b, g.v.ownBlock = some b → v.ownBlock ≠ some b
  apart : ∀ (i j : Nat) (g h : Gr), i ≠ j → gs[i]? = some g → gs[j]? = some h → ∀ b, g.v.ownBlock = some b → h.v.ownBlock ≠ some b
theorem Grps.nil (W : World) (base : Nat) : Grps W base (.slice none 0 0) [] := ⟨World.ownsRow_nil _ _ _ _, by simp, by simp, by simp⟩
theorem Grps.keep {W W' : World} {base : Nat} {v : Value} {gs : List Gr} (h : Grps W base v gs) (hb : Below W.heap.size W W') : Grps W' base v gs :=
  ⟨ow_below h.row hb, fun g hg => ow_below (h.each g hg) hb, h.far, h.apart⟩
theorem Grps.kept {W W' : World} {base : Nat} {v : Value} {gs : List Gr} {row : Option Nat} (h : Grps W base v gs) (hg : W.grownBy W' row) (h1 : ∀ b, v.ownBlock = some b → row ≠ some b) (h2 : ∀ g ∈ gs, ∀ b, g.v.ownBlock = some b → row ≠ some b) : Grps W' base v gs :=
  ⟨own_kept' h.row hg h1, fun g hm => own_kept' (h.each g hm) hg (h2 g hm), h.far, h.apart⟩
theorem Grps.rd {W : World} {base : Nat} {v : Value} {gs : List Gr} (h : Grps W base v gs) (hl : gs.length ≤ 140737488351232) : Rd encG 6 W v gs := Rd.of_owns encG_len h.row hl
theorem encG_one {W : World} {base : Nat} {v : Value} {gs : List Gr} (h : Grps W base v gs) {g : Gr} (hg : g ∈ gs) : ∀ u ∈ encG g, u.oneCell' = true := fun u hu => by
  rcases List.mem_append.1 hu with hu | hu
  · exact encC_one _ u hu
  · obtain rfl := List.mem_singleton.1 hu
    obtain ⟨a, c, e, _⟩ := owns_shape (h.each g hg)
    rw [e]; rfl
/-- One more, behind an append (Wm: behind the one that the append lays first). -/
theorem Grps.push {W W' : World} {base : Nat} {v v' : Value} {gs : List Gr} {o : Obj} {c : Cs} (h : Grps W base v gs) (ho : W'.ownsRow base 77 6 v' (gs.length + 1) (gs.flatMap encG ++ encG ⟨c, .slice none 0 0, []⟩)) (hg : (W.alloc o).grownBy W' v.ownBlock)
    (hl : v'.ownBlock = v.ownBlock ∨ v'.ownBlock = some (W.alloc o).heap.size) : Grps W' base v' (gs ++ [⟨c, .slice none 0 0, []⟩]) := by
  have hA := h.keep (below1 W o)
  refine ⟨by simpa using ho, fun g hm => ?_, fun g hm b hb => ?_, fun i j g k hij hi hj b hb => ?_⟩
  · rcases List.mem_append.1 hm with hm | hm
    · exact own_kept' (hA.each g hm) hg (hA.far g hm)
    · obtain rfl := List.mem_singleton.1 hm
      exact World.ownsRow_nil _ _ _ _
  · rcases List.mem_append.1 hm with hm | hm
    · rcases hl with hl | hl
      · rw [hl]; exact h.far g hm b hb
      · rw [hl]
        have := ((h.each g hm).lt b hb).2
        simp; omega
    · obtain rfl := List.mem_singleton.1 hm
      simp [Value.ownBlock] at hb
  · rcases Nat.lt_or_ge i gs.length with hi' | hi'
    · rw [List.getElem?_append_left hi'] at hi
      rcases Nat.lt_or_ge j gs.length with hj' | hj'
      · rw [List.getElem?_append_left hj'] at hj
        exact h.apart i j g k hij hi hj b hb
      · rw [List.getElem?_append_right hj'] at hj
        have : k = ⟨c, .slice none 0 0, []⟩ := by
          cases hq : j - gs.length with
          | zero => rw [hq] at hj; simpa using hj.symm
          | succ m => rw [hq] at hj; simp at hj
        subst this
        simp [Value.ownBlock]
    · rw [List.getElem?_append_right hi'] at hi
      have : g = ⟨c, .slice none 0 0, []⟩ := by
        cases hq : i - gs.length with
        | zero => rw [hq] at hi; simpa using hi.symm
        | succ m => rw [hq] at hi; simp at hi
      subst this
      simp [Value.ownBlock] at hb
theorem flat_setG (u : Value) : ∀ (gs : List Gr) (k : Nat) (g : Gr) (ids : List Int), gs[k]? = some g → (gs.flatMap encG).set (k * 6 + 5) u = (gs.set k ⟨g.c, u, ids⟩).flatMap encG
  | [], _, _, _, h => by simp at h
  | x :: gs, 0, g, ids, h => by
    simp at h
    subst h
    simp [List.flatMap_cons, encG, encC]
  | x :: gs, k + 1, g, ids, h => by
    have := flat_setG u gs k g ids (by simpa using h)
    rw [List.flatMap_cons, List.set_cons_succ, List.flatMap_cons, ← this, List.set_append_right _ _ (by simp [encG_len]; omega)]
    congr 2
    simp only [encG_len]
    omega
/-- An id more in one of them. -/
theorem Grps.app {W W' : World} {base k m : Nat} {gb cap : Nat} {gs : List Gr} {g : Gr} {o : Obj} {u' : Value} {i : Int} (h : Grps W base (.slice (some ⟨gb, 0, none⟩) m cap) gs) (hk : gs[k]? = some g)
    (ho : W'.ownsRow base 3 1 u' (g.ids.length + 1) (g.ids.map (.int .i64) ++ [.int .i64 i])) (hg : (W.alloc o).grownBy W' g.v.ownBlock) (hl : u'.ownBlock = g.v.ownBlock ∨ u'.ownBlock = some (W.alloc o).heap.size) :
    Grps (W'.setCell ⟨gb, k * 6 + 5, none⟩ u') base (.slice (some ⟨gb, 0, none⟩) m cap) (gs.set k ⟨g.c, u', g.ids ++ [i]⟩) := by
  have hA := h.keep (below1 W o)
  have hm := List.mem_of_getElem? hk
  have hgb : gb < W.heap.size := (h.row.lt gb rfl).2
  have hfar := h.far g hm
  have hgv : ∀ b, (Value.slice (some ⟨gb, 0, none⟩) m cap).ownBlock = some b → g.v.ownBlock ≠ some b := fun b e e' => hfar b e' e
  have hu : ∀ b, u'.ownBlock = some b → gb ≠ b := fun b e e' => by
    subst e'
    rcases hl with hl | hl
    · rw [hl] at e; exact hfar gb e rfl
    · rw [hl] at e; simp at e; omega
  have hrow := own_setIn (j := k * 6 + 5) (own_kept' hA.row hg hgv) u'
  rw [flat_setG u' gs k g (g.ids ++ [i]) hk] at hrow
  have old : ∀ (j : Nat) (y : Gr), j ≠ k → gs[j]? = some y → (W'.setCell ⟨gb, k * 6 + 5, none⟩ u').ownsRow base 3 1 y.v y.ids.length (y.ids.map (.int .i64)) := fun j y hj hy => by
    have hym := List.mem_of_getElem? hy
    refine own_kept' (own_kept' (hA.each y hym) hg (fun b hb => ?_)) (grownBy_setCell _ _ _) (fun b hb e => ?_)
    · exact fun e => h.apart j k y g hj hy hk b hb e
    · exact h.far y hym b hb e
  have cases_ : ∀ (j : Nat) (y : Gr), (gs.set k ⟨g.c, u', g.ids ++ [i]⟩)[j]? = some y → (j = k ∧ y = ⟨g.c, u', g.ids ++ [i]⟩) ∨ (j ≠ k ∧ gs[j]? = some y) := fun j y hy => by
    by_cases e : k = j
    · subst e
      rw [List.getElem?_set_self (List.getElem?_eq_some_iff.1 hk).1] at hy
      exact .inl ⟨rfl, by simpa using hy.symm⟩
    · rw [List.getElem?_set_ne e] at hy
      exact .inr ⟨fun e' => e e'.symm, hy⟩
  refine ⟨by simpa using hrow, fun y hy => ?_, fun y hy b hb => ?_, fun a c y z hac hy hz b hb => ?_⟩
  · obtain ⟨j, hj⟩ := List.getElem?_of_mem hy
    rcases cases_ j y hj with ⟨-, rfl⟩ | ⟨h1, h2⟩
    · have := own_kept' ho (grownBy_setCell W' ⟨gb, k * 6 + 5, none⟩ u') (fun b hb e => hu b hb (by simpa using e))
      simpa using this
    · exact old j y h1 h2
  · obtain ⟨j, hj⟩ := List.getElem?_of_mem hy
    rcases cases_ j y hj with ⟨-, rfl⟩ | ⟨h1, h2⟩
    · intro e
      exact hu b hb (by simpa [Value.ownBlock] using e)
    · exact h.far y (List.mem_of_getElem? h2) b hb
  · rcases cases_ a y hy with ⟨rfl, rfl⟩ | ⟨h1, h2⟩ <;> rcases cases_ c z hz with ⟨rfl, rfl⟩ | ⟨h3, h4⟩
    · exact absurd rfl hac
    · intro e
      rcases hl with hl | hl
      · exact h.apart a c g z hac hk h4 b (by rw [← hl]; exact hb) e
      · simp only at hb
        rw [hl] at hb
        have hlt := ((h.each z (List.mem_of_getElem? h4)).lt b e).2
        simp at hb
        omega
    · intro e
      rcases hl with hl | hl
      · exact h.apart a c y g hac h2 hk b hb (by rw [← hl]; exact e)
      · simp only at e
        rw [hl] at e
        have hlt := ((h.each y (List.mem_of_getElem? h2)).lt b hb).2
        simp at e
        omega
    · exact h.apart a c y z hac h2 h4 b hb

/-! ### What is put together -/
abbrev PG := Cs × List Int
def addG : List PG → Cs → Int → List PG
  | [], c, i => [(c, [i])]
  | (d, l) :: gs, c, i => if d = c then (d, l ++ [i]) :: gs else (d, l) :: addG gs c i
def takes (but : List Int) (x : Sn) : Bool := x.s == 4 && !but.contains x.i
def clq (but : List Int) (l : List Sn) : List PG := l.foldl (fun gs x => if takes but x then addG gs x.c x.i else gs) []
theorem clq_snoc (but : List Int) (l : List Sn) (x : Sn) : clq but (l ++ [x]) = if takes but x then addG (clq but l) x.c x.i else clq but l := by
  unfold clq; rw [List.foldl_append]; rfl
def pg (g : Gr) : PG := (g.c, g.ids)
theorem posG_ge (c : Cs) : ∀ (gs : List Gr) (k : Nat), posG c gs k = -1 ∨ ∃ j g, posG c gs k = ((k + j : Nat) : Int) ∧ gs[j]? = some g ∧ g.c = c
  | [], _ => .inl rfl
  | g :: gs, k => by
    unfold posG
    by_cases h : g.c = c
    · rw [if_pos h]; exact .inr ⟨0, g, rfl, rfl, h⟩
    · rw [if_neg h]
      rcases posG_ge c gs (k + 1) with h1 | ⟨j, y, h1, h2, h3⟩
      · exact .inl h1
      · exact .inr ⟨j + 1, y, by rw [h1]; congr 1; omega, h2, h3⟩
theorem add_new (c : Cs) (i : Int) (v : Value) : ∀ (gs : List Gr) (k : Nat), posG c gs k = -1 → addG (gs.map pg) c i = (gs ++ [(⟨c, v, [i]⟩ : Gr)]).map pg
  | [], _, _ => rfl
  | g :: gs, k, h => by
    unfold posG at h
    by_cases hg : g.c = c
    · rw [if_pos hg] at h; omega
    · rw [if_neg hg] at h
      have := add_new c i v gs (k + 1) h
      simp only [List.map_cons, addG, pg, if_neg hg, List.cons_append]
      rw [show (List.map pg gs) = gs.map pg from rfl, this]
theorem add_old (c : Cs) (i : Int) (v : Value) : ∀ (gs : List Gr) (k j : Nat) (g : Gr), posG c gs k = ((k + j : Nat) : Int) → gs[j]? = some g → addG (gs.map pg) c i = (gs.set j ⟨g.c, v, g.ids ++ [i]⟩).map pg
  | [], _, _, _, _, h => by simp at h
  | g :: gs, k, j, y, h, hj => by
    unfold posG at h
    by_cases hg : g.c = c
    · rw [if_pos hg] at h
      obtain rfl : j = 0 := by omega
      simp at hj
      subst hj
      simp [addG, pg, hg]
    · match j, hj with
      | 0, hj =>
        rcases posG_ge c gs (k + 1) with h1 | ⟨m, z, h1, -, -⟩
        · rw [if_neg hg] at h; omega
        · rw [if_neg hg] at h; omega
      | j + 1, hj =>
        rw [if_neg hg] at h
        have := add_old c i v gs (k + 1) j y (by rw [h]; congr 1; omega) (by simpa using hj)
        simp only [List.map_cons, addG, pg, if_neg hg, List.set_cons_succ]
        rw [show (List.map pg gs) = gs.map pg from rfl, this]
theorem addG_len (c : Cs) (i : Int) : ∀ gs : List PG, (addG gs c i).length ≤ gs.length + 1
  | [] => by simp [addG]
  | (d, l) :: gs => by
    unfold addG
    split
    · simp
    · have := addG_len c i gs
      simp only [List.length_cons]; omega
theorem clq_len (but : List Int) (l : List Sn) : (clq but l).length ≤ l.length := by
  have : ∀ (l : List Sn) (gs : List PG), (l.foldl (fun gs x => if takes but x then addG gs x.c x.i else gs) gs).length ≤ gs.length + l.length := by
    intro l
    induction l with
    | nil => intro gs; simp
    | cons x l ih =>
      intro gs
      simp only [List.foldl_cons, List.length_cons]
      split
      · have := ih (addG gs x.c x.i); have := addG_len x.c x.i gs; omega
      · have := ih gs; omega
  have h := this l []
  simp only [List.length_nil, Nat.zero_add] at h
  exact h
def sumG (gs : List PG) : Nat := (gs.map (fun g => g.2.length)).sum
theorem ids_le {g : Gr} : ∀ {gs : List Gr}, g ∈ gs → g.ids.length ≤ sumG (gs.map pg)
  | [], h => by simp at h
  | x :: gs, h => by
    unfold sumG
    rcases List.mem_cons.1 h with rfl | h
    · simp [pg]
    · have := ids_le h
      unfold sumG at this
      simp only [List.map_cons, List.sum_cons]
      omega
theorem addG_sum (c : Cs) (i : Int) : ∀ gs : List PG, sumG (addG gs c i) = sumG gs + 1
  | [] => rfl
  | (d, l) :: gs => by
    have := addG_sum c i gs
    unfold sumG at *
    unfold addG
    split
    · simp; omega
    · simp; omega
theorem clq_sum (but : List Int) (l : List Sn) : sumG (clq but l) = l.countP (takes but) := by
  have : ∀ (l : List Sn) (gs : List PG), sumG (l.foldl (fun gs x => if takes but x then addG gs x.c x.i else gs) gs) = sumG gs + l.countP (takes but) := by
    intro l
    induction l with
    | nil => intro gs; simp
    | cons x l ih =>
      intro gs
      simp only [List.foldl_cons, List.countP_cons]
      rw [ih]
      by_cases hx : takes but x = true
      · rw [if_pos hx, if_pos hx, addG_sum]; omega
      · rw [if_neg hx, if_neg hx]; omega
  have h := this l []
  rw [show sumG [] = 0 from rfl, Nat.zero_add] at h
  exact h
end Go.Proofs.YtjaaldeaknmmbaaDoor
