/- Events held against each other; a map from events to numbers that a call makes. -/
import Derived.Test.YtbmnecdkjkffdaaE3
import Derived.Laws.StructEq
import Derived.MapKept
import Derived.ChangeMaps4
namespace Go.Proofs.Ytbmnecdkjkffdaa
open Go.RowKit

theorem equalE' (x y : Ev) (w : World) : (Op.equalIn 10000 31 (.agg (encE x).toArray) (.agg (encE y).toArray)).run Try.prog w = .ok (decide (x = y)) w := by
  have u2 := Try.underlying2
  have a2 := Try.isAgg2
  have z2 := Try.sizeOf2
  have u3 := Try.underlying3
  have a3 := Try.isAgg3
  have z3 := Try.sizeOf3
  have hS : Try.prog.underlying 31 = some (.struct (Try.prog.fieldsOf 31)) := by kernel_rfl
  have hp : Try.prog.stoodInHeld 31 = false := by kernel_rfl
  unfold encE
  rw [show (10000 : Nat) = 9999 + 1 from rfl, run_equalIn_agg w 9999 31 _ _ hS hp]
  simp only [Program.fieldsOf, Try.underlying31]
  go_simp
  obtain ⟨a, k, n, m⟩ := x
  obtain ⟨a', k', n', m'⟩ := y
  simp only [Ev.mk.injEq]
  by_cases h1 : a = a' <;> by_cases h2 : k = k' <;> by_cases h3 : n = n' <;> by_cases h4 : m = m' <;> simp [h1, h2, h3, h4]
theorem equalE (x y : Ev) (w : World) : (Op.equal 31 (.agg (encE x).toArray) (.agg (encE y).toArray)).run Try.prog w = .ok (decide (x = y)) w := equalE' x y w
theorem eqE (x y : Ev) (w : World) : (binOp .eql 31 (.agg (encE x).toArray) (.agg (encE y).toArray)).run Try.prog w = .ok (.bool (decide (x = y))) w := by
  rw [run_eql_struct, equalE']; rfl
theorem neE (x y : Ev) (w : World) : (binOp .neq 31 (.agg (encE x).toArray) (.agg (encE y).toArray)).run Try.prog w = .ok (.bool (!decide (x = y))) w := by
  rw [run_neq_struct, equalE']; rfl
theorem checkE (em : Bool) (x : Ev) (w : World) : (Instr.checkKey em 10000 31 (.agg (encE x).toArray)).run Try.prog w = .ok () w := by
  have u2 := Try.underlying2
  have a2 := Try.isAgg2
  have z2 := Try.sizeOf2
  have u3 := Try.underlying3
  have a3 := Try.isAgg3
  have z3 := Try.sizeOf3
  have u31 := Try.underlying31
  have hf : ∀ (d : Nat) (t : TypeId) (v : Int) (W : World), Try.prog.underlying t = some (.int .i64) → (Instr.checkKey em (d + 1) t (.int .i64 v)).run Try.prog W = .ok () W := fun d t v W h => by
    unfold Instr.checkKey
    rw [Sem.run_bind, run_underlying h]
    rfl
  rw [show (10000 : Nat) = 9998 + 1 + 1 from rfl]
  generalize 9998 = d
  unfold encE
  unfold Instr.checkKey
  rw [Sem.run_bind, run_underlying u31]
  have h2 := fun v W => hf d 2 v W u2
  have h3 := fun v W => hf d 3 v W u3
  clear hf
  go_simp

/-- An entry: the event, its number, its stamp. -/
def ent (p : Ev × Int × Nat) : MapEntry := ⟨.agg (encE p.1).toArray, .int .i64 p.2.1, p.2.2⟩
def cntOf (es : List (Ev × Int × Nat)) (x : Ev) : Int := match es.find? (fun p => decide (p.1 = x)) with | some p => p.2.1 | none => 0
theorem encE_inj {x y : Ev} (h : Value.agg (encE x).toArray = .agg (encE y).toArray) : x = y := by
  obtain ⟨a, k, n, m⟩ := x
  obtain ⟨a', k', n', m'⟩ := y
  simp [encE] at h
  simp only [Ev.mk.injEq]
  exact h
/-- Block b is a map of at most n entries; what is there of x is f x. -/
structure CmE (w : World) (b n : Nat) (f : Ev → Int) (es : List (Ev × Int × Nat)) (clock : Nat) : Prop where
  blk : w.heap[b]? = some (.map (es.map ent).toArray clock)
  keys : es.Pairwise (fun p q => p.1 ≠ q.1)
  born : es.Pairwise (fun p q => p.2.2 ≠ q.2.2)
  low : ∀ p ∈ es, p.2.2 < clock
  len : es.length ≤ n
  val : ∀ x, f x = cntOf es x
def Cm (w : World) (b n : Nat) (f : Ev → Int) : Prop := ∃ es clock, CmE w b n f es clock
theorem Cm.lt {w : World} {b n : Nat} {f : Ev → Int} (h : Cm w b n f) : b < w.heap.size := by
  obtain ⟨es, c, h⟩ := h
  exact (Array.getElem?_eq_some_iff.1 h.blk).1
theorem Cm.block {w w' : World} {b n : Nat} {f : Ev → Int} (h : Cm w b n f) (hb : w'.heap[b]? = w.heap[b]?) : Cm w' b n f := by
  obtain ⟨es, c, h⟩ := h
  exact ⟨es, c, hb.trans h.blk, h.keys, h.born, h.low, h.len, h.val⟩
theorem Cm.keep {w w' : World} {b n : Nat} {f : Ev → Int} (h : Cm w b n f) (hb : Below w.heap.size w w') : Cm w' b n f := h.block (hb.block _ h.lt)
theorem Cm.mono {w : World} {b n n' : Nat} {f : Ev → Int} (h : Cm w b n f) (hn : n ≤ n') : Cm w b n' f := by
  obtain ⟨es, c, h⟩ := h
  exact ⟨es, c, h.blk, h.keys, h.born, h.low, Nat.le_trans h.len hn, h.val⟩
theorem Cm.made (w : World) : Cm (w.alloc (.map #[] 0)) w.heap.size 0 (fun _ => 0) :=
  ⟨[], 0, World.alloc_heap_new w _, List.Pairwise.nil, List.Pairwise.nil, by simp, by simp, fun _ => rfl⟩
theorem Cm.ne_cells {w : World} {b n : Nat} {f : Ev → Int} (h : Cm w b n f) {k : Nat} {o : Obj} (hk : w.heap[k]? = some o) (ho : o.isCells = true) : b ≠ k := by
  rintro rfl
  obtain ⟨es, c, h⟩ := h
  rw [h.blk] at hk
  cases hk
  cases ho

theorem find_run (x : Ev) (w : World) : ∀ (es : List (Ev × Int × Nat)) (i : Nat), (Instr.findAsking 31 (.agg (encE x).toArray) (es.map ent) i).run Try.prog w = .ok (match es.findIdx? (fun p => decide (p.1 = x)) with | some j => some (i + j, .int .i64 (cntOf es x)) | none => none) w
  | [], i => by simp [Instr.findAsking]
  | e :: es, i => by
    have ih := find_run x w es (i + 1)
    simp only [List.map_cons, Instr.findAsking, Sem.run_bind]
    rw [show (ent e).key = .agg (encE e.1).toArray from rfl, equalE]
    by_cases h : x = e.1
    · subst h
      simp [Result.andThen, List.findIdx?_cons, cntOf, ent]
    · have h' : ¬ e.1 = x := fun h2 => h h2.symm
      simp only [h, decide_false, Result.andThen]
      simp only [List.findIdx?_cons, h', decide_false]
      simp only [Bool.false_eq_true, if_false]
      rw [ih]
      have hc : cntOf (e :: es) x = cntOf es x := by unfold cntOf; simp [h']
      rw [hc]
      cases es.findIdx? (fun p => decide (p.1 = x)) with
      | none => rfl
      | some j => simp; omega
theorem findKey_run (x : Ev) (w : World) (es : List (Ev × Int × Nat)) : (Instr.findKey 31 (.agg (encE x).toArray) (es.map ent)).run Try.prog w = .ok (match es.findIdx? (fun p => decide (p.1 = x)) with | some j => some (j, .int .i64 (cntOf es x)) | none => none) w := by
  unfold Instr.findKey
  rw [Sem.run_bind, run_underlying Try.underlying31]
  have h := find_run x w es 0
  simp only [Nat.zero_add] at h
  cases es with
  | nil => simp [Instr.findNow, Result.andThen]
  | cons e es =>
    simp only [List.map_cons, Instr.findNow, Instr.sameNow, Result.andThen]
    rw [← List.map_cons]
    exact h
theorem cnt_none {es : List (Ev × Int × Nat)} {x : Ev} (h : es.findIdx? (fun p => decide (p.1 = x)) = none) : cntOf es x = 0 := by
  unfold cntOf
  rw [show es.find? (fun p => decide (p.1 = x)) = none from by
    rw [List.find?_eq_none]
    rw [List.findIdx?_eq_none_iff] at h
    intro p hp
    simpa using h p hp]
/-- 'm[x]'. -/
theorem cm_look {w : World} {b n : Nat} {f : Ev → Int} (h : Cm w b n f) (x : Ev) : (Instr.lookup 29 (.map (some b)) (.agg (encE x).toArray) false).run Try.prog w = .ok (.int .i64 (f x)) w := by
  obtain ⟨es, c, h⟩ := h
  have hz : (zeroValue 3).run Try.prog w = .ok (.int .i64 0) w := by kernel_rfl
  unfold Instr.lookup
  simp only [Sem.run_bind, run_underlying Try.underlying29, Result.andThen, MapKept.run_getObj_map h.blk, Sem.run_pure, checkE, findKey_run]
  rw [h.val x]
  cases hi : es.findIdx? (fun p => decide (p.1 = x)) with
  | none => simp [hz, cnt_none hi]
  | some j => simp
def setBk (w : World) (b : Nat) (o : Obj) : World := { w with heap := w.heap.setIfInBounds b o }
theorem sb_at {w : World} {b : Nat} {o : Obj} (h : b < w.heap.size) : (setBk w b o).heap[b]? = some o := by
  unfold setBk
  simp [h]
theorem sb_grown (w : World) (b : Nat) (o : Obj) : w.grownBy (setBk w b o) (some b) :=
  ⟨rfl, rfl, rfl, by simp [setBk], fun k _ hk => by
    have : b ≠ k := fun e => hk (by rw [e])
    simp [setBk, this]⟩
theorem stays (x : Ev) (w : World) : (Instr.keyThatStays (.agg (encE x).toArray) (.agg (encE x).toArray)).run Try.prog w = .ok (.agg (encE x).toArray) w := by
  have h : Instr.sameBits 10000 (.agg (encE x).toArray) (.agg (encE x).toArray) = true := by
    rw [show (10000 : Nat) = 9998 + 1 + 1 from rfl]
    generalize 9998 = d
    simp [Instr.sameBits, encE]
  unfold Instr.keyThatStays
  rw [if_pos h]
  rfl
theorem idx_get {es : List (Ev × Int × Nat)} {x : Ev} {j : Nat} (h : es.findIdx? (fun p => decide (p.1 = x)) = some j) : ∃ s, es[j]? = some (x, cntOf es x, s) ∧ j < es.length := by
  induction es generalizing j with
  | nil => simp at h
  | cons e es ih =>
    by_cases hx : e.1 = x
    · simp [List.findIdx?_cons, hx] at h
      subst h
      exact ⟨e.2.2, by simp [cntOf, hx]; rw [← hx], by simp⟩
    · simp [List.findIdx?_cons, hx] at h
      obtain ⟨i, hi, rfl⟩ := h
      obtain ⟨s, h1, h2⟩ := ih hi
      have hc : cntOf (e :: es) x = cntOf es x := by unfold cntOf; simp [hx]
      exact ⟨s, by rw [hc]; simpa using h1, by simpa using h2⟩
theorem modify_same {es : Array MapEntry} {j : Nat} {g : MapEntry → MapEntry} {e : MapEntry} (h : es[j]? = some e) (hg : g e = e) : es.modify j g = es := by
  apply Array.ext_getElem?
  intro i
  rw [Array.getElem?_modify]
  by_cases hi : j = i
  · subst hi
    rw [if_pos rfl, h]
    simp [hg]
  · rw [if_neg hi]
/-- 'm[x] op= ..', its entry. -/
theorem cm_entry {w : World} {b n : Nat} {f : Ev → Int} (h : Cm w b n f) (x : Ev) :
    ∃ (w' : World) (s : Nat), (Instr.mapEntry 29 (.map (some b)) (.agg (encE x).toArray)).run Try.prog w = .ok (.tuple #[.int .i64 (f x), goInt s]) w' ∧ (∃ es clock, CmE w' b (n + 1) f es clock ∧ (x, f x, s) ∈ es) ∧ w.grownBy w' (some b) := by
  obtain ⟨es, c, h⟩ := h
  have hlt := (Array.getElem?_eq_some_iff.1 h.blk).1
  have hz : ∀ W, (zeroValue 3).run Try.prog W = .ok (.int .i64 0) W := fun W => by kernel_rfl
  cases hi : es.findIdx? (fun p => decide (p.1 = x)) with
  | some j =>
    obtain ⟨s, hs, hj⟩ := idx_get hi
    have he : (es.map ent).toArray[j]? = some (ent (x, cntOf es x, s)) := by simp [hs]
    refine ⟨setBk w b (.map (es.map ent).toArray c), s, ?_, ⟨es, c, ⟨sb_at hlt, h.keys, h.born, h.low, by have := h.len; omega, h.val⟩, ?_⟩, sb_grown _ _ _⟩
    · unfold Instr.mapEntry
      have hk : (((es.map ent).toArray[j]?).map (·.key)).getD (.agg (encE x).toArray) = .agg (encE x).toArray := by rw [he]; rfl
      have hm : (es.map ent).toArray.modify j (fun e => { e with key := .agg (encE x).toArray }) = (es.map ent).toArray := modify_same he rfl
      have hbn : (Option.map (fun e : MapEntry => (e.born : Int)) ((es.map ent).toArray[j]?)).getD 0 = (s : Int) := by rw [he]; rfl
      simp only [Sem.run_bind, run_underlying Try.underlying29, Result.andThen, MapKept.run_getObj_map h.blk, Sem.run_pure, checkE, findKey_run, hi, hk, stays, hm, hbn, MapKept.run_setObj_map _ h.blk, h.val x]
      rfl
    · rw [h.val x]
      exact List.mem_of_getElem? hs
  | none =>
    have hnk : ∀ p ∈ es, p.1 ≠ x := fun p hp => by
      rw [List.findIdx?_eq_none_iff] at hi
      simpa using hi p hp
    have h0 : f x = 0 := by rw [h.val x, cnt_none hi]
    refine ⟨setBk w b (.map ((es ++ [(x, 0, c)]).map ent).toArray (c + 1)), c, ?_, ⟨es ++ [(x, 0, c)], c + 1, ⟨sb_at hlt, ?_, ?_, ?_, by have := h.len; simp; omega, ?_⟩, by rw [h0]; simp⟩, sb_grown _ _ _⟩
    · unfold Instr.mapEntry
      have hpush : (es.map ent).toArray.push { key := .agg (encE x).toArray, val := .int .i64 0, born := c } = ((es ++ [(x, 0, c)]).map ent).toArray := by simp [ent]
      simp only [Sem.run_bind, run_underlying Try.underlying29, Result.andThen, MapKept.run_getObj_map h.blk, Sem.run_pure, checkE, findKey_run, hi, hz, hpush, MapKept.run_setObj_map _ h.blk, h0]
      rfl
    · exact List.pairwise_append.2 ⟨h.keys, by simp, fun p hp q hq => by simp at hq; subst hq; exact hnk p hp⟩
    · exact List.pairwise_append.2 ⟨h.born, by simp, fun p hp q hq => by simp at hq; subst hq; have := h.low p hp; simp; omega⟩
    · intro p hp
      rcases List.mem_append.1 hp with hp | hp
      · have := h.low p hp; omega
      · simp at hp; subst hp; simp
    · intro y
      rw [h.val y]
      unfold cntOf
      rw [List.find?_append]
      cases hf : es.find? (fun p => decide (p.1 = y)) with
      | some p => rfl
      | none => by_cases hy : x = y <;> simp [hy]
def upd (f : Ev → Int) (x : Ev) (v : Int) : Ev → Int := fun y => if y = x then v else f y
/-- .. and the store into it. -/
theorem cm_store {w : World} {b n : Nat} {f : Ev → Int} {es : List (Ev × Int × Nat)} {c s : Nat} {x : Ev} {u : Int} (h : CmE w b n f es c) (hx : (x, u, s) ∈ es) (v : Int) :
    ∃ w', (Instr.entryStore 29 (.map (some b)) (goInt s) (.int .i64 v)).run Try.prog w = .ok () w' ∧ Cm w' b n (upd f x v) ∧ w.grownBy w' (some b) := by
  have hlt := (Array.getElem?_eq_some_iff.1 h.blk).1
  obtain ⟨j, hj⟩ := List.getElem?_of_mem hx
  have hjl := (List.getElem?_eq_some_iff.1 hj).1
  have hfi : (es.map ent).toArray.findIdx? (fun e => (e.born : Int) == (s : Int)) = some j := by
    rw [List.findIdx?_toArray, List.findIdx?_map, List.findIdx?_eq_some_iff_getElem]
    have hg : es[j] = (x, u, s) := (List.getElem?_eq_some_iff.1 hj).2
    refine ⟨hjl, by simp [hg, ent], fun i hi => ?_⟩
    have := List.pairwise_iff_getElem.1 h.born i j (by omega) hjl hi
    rw [hg] at this
    simp [ent]
    simp at this
    omega
  have hm : (es.map ent).toArray.modify j (fun e => { e with val := .int .i64 v }) = ((es.set j (x, v, s)).map ent).toArray := by
    apply Array.ext_getElem?
    intro i
    rw [Array.getElem?_modify]
    by_cases hi : j = i
    · subst hi
      simp [hjl, ent, (List.getElem?_eq_some_iff.1 hj).2]
    · simp [hi]
  refine ⟨setBk w b (.map ((es.set j (x, v, s)).map ent).toArray c), ?_, ⟨es.set j (x, v, s), c, ⟨sb_at hlt, ?_, ?_, ?_, by rw [List.length_set]; exact h.len, ?_⟩⟩, sb_grown _ _ _⟩
  · have ha : (asInt (goInt (s : Int))).run Try.prog w = .ok (s : Int) w := rfl
    unfold Instr.entryStore
    simp only [Sem.run_bind, Result.andThen, MapKept.run_getObj_map h.blk, ha, hfi, hm, MapKept.run_setObj_map _ h.blk]
    rfl
  · rw [← List.pairwise_map (f := fun p : Ev × Int × Nat => p.1) (R := fun a b => a ≠ b), List.map_set, show (es.map fun p => p.1).set j x = es.map fun p => p.1 from by
      apply List.ext_getElem?; intro i; rw [List.getElem?_set]; split
      · rename_i e; subst e; simp [hjl, (List.getElem?_eq_some_iff.1 hj).2]
      · rfl]
    exact List.pairwise_map.2 h.keys
  · rw [← List.pairwise_map (f := fun p : Ev × Int × Nat => p.2.2) (R := fun a b => a ≠ b), List.map_set, show (es.map fun p => p.2.2).set j s = es.map fun p => p.2.2 from by
      apply List.ext_getElem?; intro i; rw [List.getElem?_set]; split
      · rename_i e; subst e; simp [hjl, (List.getElem?_eq_some_iff.1 hj).2]
      · rfl]
    exact List.pairwise_map.2 h.born
  · intro p hp
    rcases List.mem_or_eq_of_mem_set hp with hp | rfl
    · exact h.low p hp
    · exact (h.low _ hx : s < c)
  · intro y
    have key : ∀ (es : List (Ev × Int × Nat)) (j : Nat), es[j]? = some (x, u, s) → es.Pairwise (fun p q => p.1 ≠ q.1) → cntOf (es.set j (x, v, s)) y = if y = x then v else cntOf es y := by
      intro es
      induction es with
      | nil => intro j h; simp at h
      | cons e es ih =>
        intro j hj hp
        cases j with
        | zero =>
          simp at hj
          subst hj
          by_cases hy : y = x
          · subst hy; simp [cntOf]
          · have : ¬ x = y := fun e => hy e.symm
            simp [cntOf, hy, this]
        | succ j =>
          simp only [List.getElem?_cons_succ] at hj
          have hne : e.1 ≠ x := (List.pairwise_cons.1 hp).1 (x, u, s) (List.mem_of_getElem? hj)
          have ih' := ih j hj (List.pairwise_cons.1 hp).2
          simp only [List.set_cons_succ]
          by_cases hy : e.1 = y
          · have hyx : ¬ y = x := fun h => hne (hy.trans h)
            simp [cntOf, hy, hyx]
          · have c1 : cntOf (e :: es.set j (x, v, s)) y = cntOf (es.set j (x, v, s)) y := by unfold cntOf; simp [hy]
            have c2 : cntOf (e :: es) y = cntOf es y := by unfold cntOf; simp [hy]
            rw [c1, c2, ih']
    rw [key es j hj h.keys]
    unfold upd
    rw [h.val y]
end Go.Proofs.Ytbmnecdkjkffdaa
