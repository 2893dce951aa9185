/- The document's groups. -/
import Derived.Test.YtjaaldeaknmmbaaS16
import Derived.Test.YtjaaldeaknmmbaaS12
namespace Go.Proofs.Ytjaaldeaknmmbaa
open Go.RowKit Go.Shelf

theorem own_own_ne {W : World} {base base' : Nat} {e e' : TypeId} {size size' : Nat} {v v' : Value} {n n' : Nat} {xs xs' : List Value} (h : W.ownsRow base e size v n xs) (h' : W.ownsRow base' e' size' v' n' xs') (hne : e ≠ e') : ∀ b, v.ownBlock = some b → v'.ownBlock ≠ some b := fun b hb hb' => by
  rcases h.2 with ⟨rfl, _⟩ | ⟨g, cap, cur, rfl, _, hg, _⟩
  · simp [Value.ownBlock] at hb
  · rcases h'.2 with ⟨rfl, _⟩ | ⟨g', cap', cur', rfl, _, hg', _⟩
    · simp [Value.ownBlock] at hb'
    · simp only [Value.ownBlock, Option.some.injEq] at hb hb'
      subst hb hb'
      rw [hg] at hg'
      cases hg'
      exact hne rfl
/-- Kept behind an append to a row of other elements. -/
theorem own_keptT {W W' : World} {base base' : Nat} {e e' : TypeId} {size size' : Nat} {v v' : Value} {n n' : Nat} {xs xs' : List Value} (h : W.ownsRow base e size v n xs) (h' : W.ownsRow base' e' size' v' n' xs') (hne : e ≠ e') (hg : W.grownBy W' v'.ownBlock) : W'.ownsRow base e size v n xs :=
  own_kept' h hg (own_own_ne h h' hne)
structure G2 (W : World) (base : Nat) (sv ov : Value) (gs : List Gr) : Prop where
  st : W.ownsRow base 31 5 sv gs.length (gs.flatMap (fun g => encC g.c))
  row : W.ownsRow base 23 1 ov gs.length (gs.map (fun g => g.v))
  each : ∀ g ∈ gs, W.ownsRow base 3 1 g.v g.ids.length (g.ids.map (.int .i64))
  apart : ∀ (i j : Nat) (g h : Gr), i ≠ j → gs[i]? = some g → gs[j]? = some h → ∀ b, g.v.ownBlock = some b → h.v.ownBlock ≠ some b
theorem G2.nil (W : World) (base : Nat) : G2 W base (.slice none 0 0) (.slice none 0 0) [] := ⟨World.ownsRow_nil _ _ _ _, World.ownsRow_nil _ _ _ _, by simp, by simp⟩
theorem G2.keep {W W' : World} {base : Nat} {sv ov : Value} {gs : List Gr} (h : G2 W base sv ov gs) (hb : Below W.heap.size W W') : G2 W' base sv ov gs :=
  ⟨ow_below h.st hb, ow_below h.row hb, fun g hg => ow_below (h.each g hg) hb, h.apart⟩
theorem apart_push {gs : List Gr} {c : Cs} (h : ∀ (i j : Nat) (g h : Gr), i ≠ j → gs[i]? = some g → gs[j]? = some h → ∀ b, g.v.ownBlock = some b → h.v.ownBlock ≠ some b) :
    ∀ (i j : Nat) (g k : Gr), i ≠ j → (gs ++ [(⟨c, .slice none 0 0, []⟩ : Gr)])[i]? = some g → (gs ++ [(⟨c, .slice none 0 0, []⟩ : Gr)])[j]? = some k → ∀ b, g.v.ownBlock = some b → k.v.ownBlock ≠ some b := fun i j g k hij hi hj b hb => by
  have hlast : ∀ (i : Nat) (g : Gr), gs.length ≤ i → (gs ++ [(⟨c, .slice none 0 0, []⟩ : Gr)])[i]? = some g → g = ⟨c, .slice none 0 0, []⟩ := fun i g hi h => by
    rw [List.getElem?_append_right hi] at h
    cases hq : i - gs.length with
    | zero => rw [hq] at h; simpa using h.symm
    | succ m => rw [hq] at h; simp at h
  rcases Nat.lt_or_ge i gs.length with hi' | hi'
  · rcases Nat.lt_or_ge j gs.length with hj' | hj'
    · rw [List.getElem?_append_left hi'] at hi
      rw [List.getElem?_append_left hj'] at hj
      exact h i j g k hij hi hj b hb
    · rw [hlast j k hj' hj]; simp [Value.ownBlock]
  · rw [hlast i g hi' hi] at hb; simp [Value.ownBlock] at hb
theorem G2.push {W W1 W2 : World} {base : Nat} {sv sv' ov ov' : Value} {gs : List Gr} {o o2 : Obj} {c : Cs} (h : G2 W base sv ov gs) (ho1 : W1.ownsRow base 31 5 sv' (gs.length + 1) (gs.flatMap (fun g => encC g.c) ++ encC c)) (hg1 : (W.alloc o).grownBy W1 sv.ownBlock)
    (ho2 : W2.ownsRow base 23 1 ov' (gs.length + 1) (gs.map (fun g => g.v) ++ [.slice none 0 0])) (hg2 : (W1.alloc o2).grownBy W2 ov.ownBlock) : G2 W2 base sv' ov' (gs ++ [⟨c, .slice none 0 0, []⟩]) := by
  have hA := h.keep (below1 W o)
  have hr1 := own_keptT hA.row hA.st (by decide) hg1
  have he1 : ∀ g ∈ gs, W1.ownsRow base 3 1 g.v g.ids.length (g.ids.map (.int .i64)) := fun g hg => own_keptT (hA.each g hg) hA.st (by decide) hg1
  refine ⟨?_, ?_, fun g hg => ?_, apart_push h.apart⟩
  · have := own_keptT (ho1.alloc o2) (hr1.alloc o2) (by decide) hg2
    simpa using this
  · simpa using ho2
  · rcases List.mem_append.1 hg with hg | hg
    · exact own_keptT ((he1 g hg).alloc o2) (hr1.alloc o2) (by decide) hg2
    · obtain rfl := List.mem_singleton.1 hg
      exact World.ownsRow_nil _ _ _ _
theorem map_set (u : Value) : ∀ (gs : List Gr) (k : Nat) (g : Gr) (ids : List Int), gs[k]? = some g → (gs.map (fun g => g.v)).set k u = (gs.set k ⟨g.c, u, ids⟩).map (fun g => g.v) ∧ (gs.set k ⟨g.c, u, ids⟩).flatMap (fun g => encC g.c) = gs.flatMap (fun g => encC g.c)
  | [], _, _, _, h => by simp at h
  | x :: gs, 0, g, ids, h => by
    simp at h
    subst h
    simp
  | x :: gs, k + 1, g, ids, h => by
    obtain ⟨h1, h2⟩ := map_set u gs k g ids (by simpa using h)
    exact ⟨by simp only [List.map_cons, List.set_cons_succ, h1], by simp only [List.set_cons_succ, List.flatMap_cons, h2]⟩
/-- An id more in one of them. -/
theorem G2.app {W W' : World} {base k m : Nat} {gb cap : Nat} {sv : Value} {gs : List Gr} {g : Gr} {o : Obj} {u' : Value} {i : Int} (h : G2 W base sv (.slice (some ⟨gb, 0, none⟩) m cap) gs) (hk : gs[k]? = some g)
    (ho : W'.ownsRow base 3 1 u' (g.ids.length + 1) (g.ids.map (.int .i64) ++ [.int .i64 i])) (hg : (W.alloc o).grownBy W' g.v.ownBlock) (hl : u'.ownBlock = g.v.ownBlock ∨ u'.ownBlock = some (W.alloc o).heap.size) :
    G2 (W'.setCell ⟨gb, k, none⟩ u') base sv (.slice (some ⟨gb, 0, none⟩) m cap) (gs.set k ⟨g.c, u', g.ids ++ [i]⟩) := by
  have hA := h.keep (below1 W o)
  have hm := List.mem_of_getElem? hk
  have hrow := own_keptT hA.row (hA.each g hm) (by decide) hg
  have hst := own_keptT hA.st (hA.each g hm) (by decide) hg
  have hsb : ∀ b, sv.ownBlock = some b → gb ≠ b := fun b e e' => own_own_ne hst hrow (by decide) b e (by rw [e']; rfl)
  have hgb : gb < W.heap.size := (h.row.lt gb rfl).2
  have hu : ∀ b, u'.ownBlock = some b → gb ≠ b := fun b e e' => own_own_ne ho hrow (by decide) b e (by rw [e']; rfl)
  obtain ⟨e1, e2⟩ := map_set u' gs k g (g.ids ++ [i]) hk
  have old : ∀ (j : Nat) (y : Gr), j ≠ k → gs[j]? = some y → (W'.setCell ⟨gb, k, none⟩ u').ownsRow base 3 1 y.v y.ids.length (y.ids.map (.int .i64)) := fun j y hj hy => by
    have hym := List.mem_of_getElem? hy
    have h1 := own_kept' (hA.each y hym) hg (fun b hb e => h.apart j k y g hj hy hk b hb e)
    exact own_kept' h1 (grownBy_setCell _ _ _) (fun b hb e => own_own_ne h1 hrow (by decide) b hb e)
  have cases_ : ∀ (j : Nat) (y : Gr), (gs.set k ⟨g.c, u', g.ids ++ [i]⟩)[j]? = some y → (j = k ∧ y = ⟨g.c, u', g.ids ++ [i]⟩) ∨ (j ≠ k ∧ gs[j]? = some y) := fun j y hy => by
    by_cases e : k = j
    · subst e
      rw [List.getElem?_set_self (List.getElem?_eq_some_iff.1 hk).1] at hy
      exact .inl ⟨rfl, by simpa using hy.symm⟩
    · rw [List.getElem?_set_ne e] at hy
      exact .inr ⟨fun e' => e e'.symm, hy⟩
  refine ⟨?_, ?_, fun y hy => ?_, fun a c y z hac hy hz b hb => ?_⟩
  · rw [e2, List.length_set]
    exact own_kept' hst (grownBy_setCell _ _ _) (fun b hb e => hsb b hb (by simpa using e))
  · have := own_setIn (j := k) hrow u'
    rw [e1] at this
    simpa using this
  · obtain ⟨j, hj⟩ := List.getElem?_of_mem hy
    rcases cases_ j y hj with ⟨-, rfl⟩ | ⟨h1, h2⟩
    · have := own_kept' ho (grownBy_setCell W' ⟨gb, k, none⟩ u') (fun b hb e => hu b hb (by simpa using e))
      simpa using this
    · exact old j y h1 h2
  · rcases cases_ a y hy with ⟨rfl, rfl⟩ | ⟨h1, h2⟩ <;> rcases cases_ c z hz with ⟨rfl, rfl⟩ | ⟨h3, h4⟩
    · exact absurd rfl hac
    · intro e
      rcases hl with hl | hl
      · exact h.apart a c g z hac hk h4 b (by rw [← hl]; exact hb) e
      · simp only at hb
        rw [hl] at hb
        have hlt := ((h.each z (List.mem_of_getElem? h4)).lt b e).2
        simp at hb
        omega
    · intro e
      rcases hl with hl | hl
      · exact h.apart a c y g hac h2 hk b hb (by rw [← hl]; exact e)
      · simp only at e
        rw [hl] at e
        have hlt := ((h.each y (List.mem_of_getElem? h2)).lt b hb).2
        simp at e
        omega
    · exact h.apart a c y z hac h2 h4 b hb

set_option maxHeartbeats 800000 in
theorem rin_any (x : Int) (v : Value) (l : List Int) (w : World) (h : Ns w v l) : Calls Try.prog 48 #[.int .i64 x, v] w fun e w' => e = .returned (.bool (l.contains x)) ∧ w' = w := by
  obtain ⟨a, c, rfl, h1, h2, h3⟩ := h.shape
  have HR := Lib.hid h
  have HA := Lib.hid (fun (k : Nat) (y : Int) (hy : l[k]? = some y) => any_snoc (fun y => y == x) hy)
  have HC : Hid (l.contains x = l.any (fun y => y == x)) := by
    show _ = _
    rw [Bool.eq_iff_iff]
    simp
  have HG : Hid (∀ k, k < l.length → ∃ y, l[k]? = some y) := fun k hk => ⟨_, List.getElem?_eq_getElem hk⟩
  have HT : Hid (∀ k, l.length ≤ k → l.take k = l) := fun k hk => List.take_of_length_le hk
  clear h
  generalize l.contains x = r at *
  generalize l.length = n at *
  go_enter Try.func48, Try.ntmps48
  go_wp2
  go_loop [5] (fun i => ∃ k : Nat, k ≤ n ∧ i = .int .i64 k ∧ Hid ((l.take k).any (fun y => y == x) = false)) (fun i => n - (intOf i).toNat)
  case atStart => exact ⟨0, Nat.zero_le _, rfl, rfl⟩
  case round =>
    obtain ⟨k, hk, rfl, HI⟩ := hrel
    by_cases hlt : k < n
    · obtain ⟨y, hy⟩ := HG.out k hlt
      obtain ⟨b, off, rfl, hbl, hc⟩ := HR.out.row (by rintro rfl; simp at hy)
      have c0 : w.cell? ⟨b, off + k, none⟩ = some (.int .i64 y) := hc.one (f := fun x => .int .i64 x) hy
      have HS := Lib.hid (HA.out k y hy)
      have HY := Lib.hid (List.mem_of_getElem? hy)
      clear hy hc
      by_cases hxy : y = x
      · have e1 : (y == x) = true := by simpa using hxy
        have HF : Hid (r = true) := by
          show _ = _
          rw [HC.out, List.any_eq_true]
          exact ⟨y, HY.out, by simpa using hxy⟩
        clear hxy
        go_wp2
        go_ret
        exact ⟨ret_bool HF.out.symm, rfl⟩
      · have e1 : (y == x) = false := by simpa using hxy
        have HI2 : Hid ((l.take (k + 1)).any (fun y => y == x) = false) := by show _ = _; rw [HS.out, HI.out, e1]; rfl
        clear hxy
        go_wp2
        go_round
        case rel => exact ⟨k + 1, by omega, by go_num, HI2⟩
        case measure => simp [intOf]; omega
    · obtain rfl : n = k := by omega
      have HF : Hid (r = false) := by show _ = _; rw [HC.out, ← HI.out, HT.out _ (Nat.le_refl _)]
      go_wp2
      go_ret
      exact ⟨ret_bool HF.out.symm, rfl⟩
theorem E85 : Elem Try.prog 85 31 (.agg #[.int .i64 0, .int .i64 0, .int .i64 0, .int .i64 0, .int .i64 0]) 5 40 := ⟨Try.underlying85, by kernel_rfl, by kernel_rfl, by decide, by decide⟩
/-- The last clique of a state so far. -/
def lastG (c : Cs) (gs : List Gr) (k : Nat) : Int := ((gs.take k).zipIdx).foldl (fun m p => if p.1.c = c then (p.2 : Int) else m) (-1)
theorem lastG_succ {c : Cs} {gs : List Gr} {k : Nat} {g : Gr} (h : gs[k]? = some g) : lastG c gs (k + 1) = if g.c = c then (k : Int) else lastG c gs k := by
  unfold lastG
  have hk := (List.getElem?_eq_some_iff.1 h).1
  rw [take_snoc h, List.zipIdx_append, List.foldl_append]
  have : (gs.take k).length = k := by simp; omega
  simp [this]
/-- No two cliques have one state. -/
def Diff (gs : List PG) : Prop := gs.Pairwise (fun g h => g.1 ≠ h.1)
theorem addG_fst (c : Cs) (i : Int) : ∀ (gs : List PG) (g : PG), g ∈ addG gs c i → g.1 = c ∨ ∃ h ∈ gs, h.1 = g.1
  | [], g, h => by
    obtain rfl := List.mem_singleton.1 h
    exact .inl rfl
  | (e, l) :: gs, g, h => by
    unfold addG at h
    by_cases he : e = c
    · rw [if_pos he] at h
      rcases List.mem_cons.1 h with rfl | h
      · exact .inl he
      · exact .inr ⟨g, List.mem_cons_of_mem _ h, rfl⟩
    · rw [if_neg he] at h
      rcases List.mem_cons.1 h with rfl | h
      · exact .inr ⟨_, List.mem_cons_self, rfl⟩
      · rcases addG_fst c i gs g h with h | ⟨y, hy, hh⟩
        · exact .inl h
        · exact .inr ⟨y, List.mem_cons_of_mem _ hy, hh⟩
theorem addG_diff (c : Cs) (i : Int) : ∀ gs : List PG, Diff gs → Diff (addG gs c i)
  | [], _ => List.pairwise_singleton _ _
  | (e, l) :: gs, h => by
    obtain ⟨h1, h2⟩ := List.pairwise_cons.1 h
    unfold addG
    by_cases he : e = c
    · rw [if_pos he]
      exact List.pairwise_cons.2 ⟨h1, h2⟩
    · rw [if_neg he]
      refine List.pairwise_cons.2 ⟨fun g hg => ?_, addG_diff c i gs h2⟩
      rcases addG_fst c i gs g hg with h3 | ⟨y, hy, hyg⟩
      · rw [h3]; exact he
      · rw [← hyg]; exact h1 y hy
theorem clq_diff (but : List Int) (l : List Sn) : Diff (clq but l) := by
  have : ∀ (l : List Sn) (gs : List PG), Diff gs → Diff (l.foldl (fun gs x => if takes but x then addG gs x.c x.i else gs) gs) := by
    intro l
    induction l with
    | nil => exact fun gs h => h
    | cons y l ih =>
      intro gs h
      rw [List.foldl_cons]
      refine ih _ ?_
      split
      · exact addG_diff _ _ _ h
      · exact h
  exact this l [] List.Pairwise.nil
theorem lastG_pos {c : Cs} : ∀ (gs : List Gr), Diff (gs.map pg) → lastG c gs gs.length = posG c gs 0 := by
  have gen : ∀ (gs : List Gr) (n : Nat) (m : Int), Diff (gs.map pg) → (gs.zipIdx n).foldl (fun m p => if p.1.c = c then (p.2 : Int) else m) m = if posG c gs n = -1 then m else posG c gs n := by
    intro gs
    induction gs with
    | nil => intro n m _; rfl
    | cons g gs ih =>
      intro n m hd
      obtain ⟨h1, h2⟩ := List.pairwise_cons.1 hd
      rw [List.zipIdx_cons, List.foldl_cons, ih (n + 1) _ h2]
      by_cases hg : g.c = c
      · have hno : posG c gs (n + 1) = -1 := by
          rcases posG_ge c gs (n + 1) with h | ⟨j, y, _, hy, hyc⟩
          · exact h
          · exact absurd (hg.trans hyc.symm) (h1 (pg y) (List.mem_map.2 ⟨y, List.mem_of_getElem? hy, rfl⟩))
        rw [if_pos hno, show posG c (g :: gs) n = if g.c = c then (n : Int) else posG c gs (n + 1) from rfl, if_pos hg, if_pos hg, if_neg (by omega)]
      · rw [show posG c (g :: gs) n = if g.c = c then (n : Int) else posG c gs (n + 1) from rfl, if_neg hg, if_neg hg]
  intro gs hd
  unfold lastG
  rw [List.take_length, gen gs 0 (-1) hd]
  split
  · rename_i h; exact h.symm
  · rfl
end Go.Proofs.Ytjaaldeaknmmbaa
