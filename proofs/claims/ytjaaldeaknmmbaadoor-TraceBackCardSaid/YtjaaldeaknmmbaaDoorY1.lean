/- Bytes of a call's own, behind whose cells a mark may stand: append of bytes and of strings. -/
import Derived.Lib.FrozenHead2
import Derived.Laws.IdiomStrings
import Derived.Test.YtjaaldeaknmmbaaDoorZ10
namespace Go.Proofs.YtjaaldeaknmmbaaDoor
open Go.RowKit Go.Shelf

/-- The slice v owns the bytes l; of its row no cell is frozen. -/
def OwT (w : World) (base : Nat) (v : Value) (l : List UInt8) : Prop :=
  (v = .slice none 0 0 ∧ l = []) ∨
  ∃ g cap cur fz, v = .slice (some ⟨g, 0, none⟩) l.length cap ∧ base ≤ g ∧ w.heap[g]? = some (.cells cur 5 fz) ∧ (fz.2 = 0 ∨ cur.size ≤ fz.1) ∧ l.length ≤ cap ∧ cap ≤ maxLen ∧ cur.size = cap ∧ cur.toList.take l.length = l.map u8c
theorem OwT.nil (w : World) (base : Nat) : OwT w base (.slice none 0 0) [] := .inl ⟨rfl, rfl⟩
theorem OwT.lt {w : World} {base : Nat} {v : Value} {l : List UInt8} (h : OwT w base v l) : ∀ k, v.ownBlock = some k → base ≤ k ∧ k < w.heap.size := by
  intro k hk
  rcases h with ⟨rfl, _⟩ | ⟨g, cap, cur, fz, rfl, hb, hg, _⟩
  · cases hk
  · simp only [Value.ownBlock, Option.some.injEq] at hk
    subst hk
    exact ⟨hb, (Array.getElem?_eq_some_iff.1 hg).1⟩
theorem OwT.block {w w' : World} {base : Nat} {v : Value} {l : List UInt8} (h : OwT w base v l) (hb : ∀ k, k < w.heap.size → w'.heap[k]? = w.heap[k]?) : OwT w' base v l := by
  rcases h with h | ⟨g, cap, cur, fz, h1, h2, hg, h3⟩
  · exact .inl h
  · exact .inr ⟨g, cap, cur, fz, h1, h2, by rw [hb g (Array.getElem?_eq_some_iff.1 hg).1]; exact hg, h3⟩
theorem OwT.below {w w' : World} {base : Nat} {v : Value} {l : List UInt8} (h : OwT w base v l) (hb : Below w.heap.size w w') : OwT w' base v l := h.block fun k hk => hb.block k hk
theorem OwT.shape {w : World} {base : Nat} {v : Value} {l : List UInt8} (h : OwT w base v l) : ∃ a cap, v = .slice a l.length cap := by
  rcases h with ⟨rfl, rfl⟩ | ⟨g, cap, cur, fz, h1, h2⟩
  · exact ⟨none, 0, rfl⟩
  · exact ⟨_, _, h1⟩
theorem OwT.cells {w : World} {g : Nat} {cur : Array Value} {fz : Nat × Nat} {l : List UInt8} (hg : w.heap[g]? = some (.cells cur 5 fz)) (hc : cur.toList.take l.length = l.map u8c) : ∀ j u, (l.map u8c)[j]? = some u → w.cell? ((⟨g, 0, none⟩ : Addr).add j) = some u := by
  intro j u hu
  rw [← hc, List.getElem?_take] at hu
  rw [Addr.add_lit]
  split at hu
  · simp only [World.cell?, hg, Nat.zero_add]
    simpa using hu
  · cases hu
theorem run_storeCells_atT (P : Program) (g o : Nat) (t : TypeId) (fz : Nat × Nat) : ∀ (vs : List Value) (i : Nat) (cur : Array Value) (w : World), w.heap[g]? = some (.cells cur t fz) → (fz.2 = 0 ∨ cur.size ≤ fz.1) → o + i + vs.length ≤ cur.size → (∀ v ∈ vs, v.oneCell' = true) →
    (storeCells ⟨g, o, none⟩ vs i).run P w = .ok () (w.setRow g (cur.toList.take (o + i) ++ vs ++ cur.toList.drop (o + i + vs.length)).toArray)
  | [], i, cur, w, hg, _, _, _ => by
    simp only [storeCells, List.append_nil, List.length_nil, Nat.add_zero, List.take_append_drop, Array.toArray_toList]
    rw [setRow_self w g cur t fz hg]
    rfl
  | v :: rest, i, cur, w, hg, hfz, hl, h1 => by
    have hi : o + i < cur.size := by simp at hl; omega
    have hadd : (⟨g, o, none⟩ : Addr).add i = ⟨g, o + i, none⟩ := by unfold Addr.add; split <;> simp_all
    have hcell : w.cell? ⟨g, o + i, none⟩ = some cur[o + i] := by simp [World.cell?, hg, hi]
    have hfro : w.frozen? ⟨g, o + i, none⟩ = false := by
      obtain ⟨lo, hi'⟩ := fz
      simp only [World.frozen?, hg, Bool.and_eq_false_iff, decide_eq_false_iff_not]
      simp only at hfz
      rcases hfz with h | h
      · right; omega
      · left; omega
    have hst : (store ((⟨g, o, none⟩ : Addr).add i) v).run P w = .ok () (w.setRow g (cur.setIfInBounds (o + i) v)) := by
      rw [hadd, run_store P w _ v _ (h1 v (by simp)), hcell]
      simp [hfro, setCell_eq_setRow w g (o + i) cur t fz v hg]
    have ih := run_storeCells_atT P g o t fz rest (i + 1) (cur.setIfInBounds (o + i) v) (w.setRow g (cur.setIfInBounds (o + i) v)) (setRow_heap w g cur _ t _ hg) (by simpa using hfz) (by simp at hl ⊢; omega) (fun x hx => h1 x (by simp [hx]))
    simp only [storeCells, Sem.run_bind, hst, Result.andThen_ok, ih, setRow_setRow]
    congr 3
    have e := list_seg_step cur.toList (o + i) v rest (by simp at hl ⊢; omega)
    simpa [Array.toList_setIfInBounds, Nat.add_assoc] using e
theorem u8c_one (l : List UInt8) : ∀ u ∈ l.map u8c, u.oneCell' = true := by
  intro u hu
  obtain ⟨c, _, rfl⟩ := List.mem_map.1 hu
  rfl
/-- What an append leaves where it has room. -/
theorem OwT.room {w : World} {base g cap : Nat} {cur : Array Value} {fz : Nat × Nat} {l y : List UInt8} (hb : base ≤ g) (hg : w.heap[g]? = some (.cells cur 5 fz)) (hfz : fz.2 = 0 ∨ cur.size ≤ fz.1) (hcm : cap ≤ maxLen) (hcs : cur.size = cap) (ht : cur.toList.take l.length = l.map u8c) (hr : l.length + y.length ≤ cap) :
    OwT (w.setRow g (cur.toList.take l.length ++ y.map u8c ++ cur.toList.drop (l.length + y.length)).toArray) base (.slice (some ⟨g, 0, none⟩) (l.length + y.length) cap) (l ++ y) ∧ w.grownBy (w.setRow g (cur.toList.take l.length ++ y.map u8c ++ cur.toList.drop (l.length + y.length)).toArray) (some g) := by
  have hsz : (cur.toList.take l.length ++ y.map u8c ++ cur.toList.drop (l.length + y.length)).toArray.size = cap := by
    simp only [List.size_toArray, List.length_append, List.length_take, List.length_map, List.length_drop, Array.length_toList]
    omega
  refine ⟨.inr ⟨g, cap, _, fz, by rw [List.length_append], hb, setRow_heap w g cur _ 5 _ hg, ?_, by rw [List.length_append]; exact hr, hcm, hsz, ?_⟩, ⟨rfl, rfl, rfl, by simp, fun k _ hk => setRow_other w g k _ (fun e => hk (by rw [e]))⟩⟩
  · rw [hsz]; omega
  · rw [ht]
    have : (l ++ y).length = (l.map u8c ++ y.map u8c).length := by simp
    rw [this, List.map_append]
    exact List.take_left
/-- What an append leaves where it has none. -/
theorem OwT.fresh {w : World} {base cap : Nat} {l : List UInt8} (hbase : base ≤ w.heap.size) (hge : l.length ≤ cap) (hcm : cap ≤ maxLen) {C : Array Value} {fz : Nat × Nat} (hfz : fz.2 = 0 ∨ C.size ≤ fz.1) (hC : C.size = cap) (ht : C.toList.take l.length = l.map u8c) :
    OwT (w.drew.alloc (.cells C 5 fz)) base (.slice (some ⟨w.heap.size, 0, none⟩) l.length cap) l :=
  .inr ⟨w.heap.size, cap, C, fz, rfl, hbase, heap_alloc_new w.drew _, hfz, hge, hcm, hC, ht⟩
theorem info5 : ∃ i, Tryd.prog.info? 5 = some i ∧ i.zero = some (.int .u8 0) ∧ i.size = 1 ∧ i.bytes = 1 := info_parts (show (Tryd.prog.info? 5).map (fun i => (i.zero, i.size, i.bytes)) = some (some (.int .u8 0), 1, 1) by kernel_rfl)
theorem grow_size {l y : List UInt8} {cap : Nat} (h : l.length + y.length ≤ cap) : ((l.map u8c).toArray ++ (y.map u8c).toArray ++ Builtin.zeroCells (Value.int .u8 0).cells (cap - (l.length + y.length))).size = cap := by
  have hz1 : (Value.int IntKind.u8 0).cells.size = 1 := rfl
  simp only [Array.size_append, List.size_toArray, size_zeroCells, hz1, List.length_map]
  omega
theorem grow_take {l y : List UInt8} {Z : Array Value} : ((l.map u8c).toArray ++ (y.map u8c).toArray ++ Z).toList.take (l ++ y).length = (l ++ y).map u8c := by
  have : (l ++ y).length = (l.map u8c ++ y.map u8c).length := by simp
  rw [this, List.map_append]
  simp only [Array.toList_append]
  exact List.take_left
theorem grown_drew (w : World) (o : Obj) (r : Option Nat) : w.grownBy (w.drew.alloc o) r := ⟨rfl, rfl, rfl, by simp, fun k hk _ => heap_alloc_old w.drew _ (r := k) hk⟩
/-- append(l, y...), bytes behind bytes. -/
theorem run_appB (ty : TypeId) {w : World} {base : Nat} {v : Value} {l y : List UInt8} (h : OwT w base v l) {a : Addr} {c : Nat} (hy : ∀ j u, (y.map u8c)[j]? = some u → w.cell? (a.add j) = some u) (hl : l.length + y.length ≤ 140737488355328) (hbase : base ≤ w.heap.size) :
    ∃ v' w', (Builtin.append_ #[36, 36] ty #[v, .slice (some a) y.length c]).run Tryd.prog w = .ok v' w' ∧ OwT w' base v' (l ++ y) ∧ w.grownBy w' v.ownBlock := by
  obtain ⟨i, hi, hz, hs, hb⟩ := info5
  rcases h with ⟨rfl, rfl⟩ | ⟨g, cap, cur, fz, rfl, hbg, hg, hfz, hnc, hcm, hcs, ht⟩
  · obtain ⟨v', w', r1, r2, r3, r4⟩ := run_append_own (P := Tryd.prog) w base 36 ty 5 i (.int .u8 0) 1 1 Tryd.underlying36 hi hz hs hb rfl (by decide) (.slice none 0 0) 0 [] (World.ownsRow_nil _ _ _ _) a y.length c (y.map u8c) (by simp) hy (u8c_one y) (by unfold maxLen; simp at hl; omega) (by simp at hl; omega) hbase
    refine ⟨v', w', r1, ?_, r3⟩
    rcases r2.2 with ⟨e1, e2⟩ | ⟨g, cap, cur, e1, e2, e3, e4, e5, e6, e7⟩
    · have : y = [] := by cases y with | nil => rfl | cons _ _ => simp at e2
      subst this
      exact .inl ⟨e1, rfl⟩
    · exact .inr ⟨g, cap, cur, (0, 0), by rw [e1]; simp, e2, e3, .inl rfl, by simpa using e4, e5, by simpa using e6, by simpa using e7⟩
  · have hml : maxLen = 9223372036854775807 := rfl
    by_cases hr : l.length + y.length ≤ cap
    · have hf := run_firstCells_some (P := Tryd.prog) w 1 y.length a y.length c (y.map u8c) (by simp) hy
      have hst := run_storeCells_atT Tryd.prog g l.length 5 fz (y.map u8c) 0 cur w hg hfz (by simp; omega) (u8c_one y)
      simp only [Nat.add_zero, List.length_map] at hst
      obtain ⟨q1, q2⟩ := OwT.room (base := base) hbg hg hfz hcm hcs ht hr
      refine ⟨_, _, ?_, q1, q2⟩
      simp [Builtin.append_, run_underlying Tryd.underlying36, sizeOf, typeInfo, hi, hs, Builtin.lenOf, hr, hf, Addr.add_lit, hst]
    · have hcell : ∀ j u, (l.map u8c)[j]? = some u → w.cell? ((⟨g, 0, none⟩ : Addr).add j) = some u := OwT.cells hg ht
      have hr2 := run_append_grow (P := Tryd.prog) w 36 ty 5 i (.int .u8 0) Tryd.underlying36 hi hz ⟨g, 0, none⟩ l.length cap (l.map u8c) (by rw [hs]; simp) hcell a y.length c (y.map u8c) (by rw [hs]; simp) hy (by omega) (by omega) (by rw [hb]; exact growslice_fits (by omega) (by omega))
      have hge := grownCap_ge w (l.length + y.length) cap 5
      have hcm2 : grownCap w (l.length + y.length) cap 5 ≤ maxLen := grownCap_le_maxLen w (l.length + y.length) cap 5 (by omega)
      refine ⟨_, _, hr2, ?_, grown_drew _ _ _⟩
      have := OwT.fresh (w := w) (l := l ++ y) (base := base) hbase (by rw [List.length_append]; exact hge) hcm2 (C := (l.map u8c).toArray ++ (y.map u8c).toArray ++ Builtin.zeroCells (Value.int .u8 0).cells (grownCap w (l.length + y.length) cap 5 - (l.length + y.length))) (fz := (0, 0)) (.inl rfl) (grow_size hge) grow_take
      rwa [List.length_append] at this
theorem strCells_u8c (y : List UInt8) : Lib.strCells ⟨y.toArray⟩ = y.map u8c := by
  unfold Lib.strCells
  rfl
/-- append(l, y...), a string behind bytes. -/
theorem run_appT (ty : TypeId) {w : World} {base : Nat} {v : Value} {l y : List UInt8} (h : OwT w base v l) (hl : l.length + y.length ≤ 140737488355328) (hbase : base ≤ w.heap.size) :
    ∃ v' w', (Builtin.append_ #[36, 9] ty #[v, strV y]).run Tryd.prog w = .ok v' w' ∧ OwT w' base v' (l ++ y) ∧ w.grownBy w' v.ownBlock := by
  obtain ⟨i, hi, hz, hs, hb⟩ := info5
  unfold strV
  have hsz : (⟨y.toArray⟩ : ByteArray).size = y.length := by show y.toArray.size = _; simp
  have hsc := strCells_u8c y
  generalize (⟨y.toArray⟩ : ByteArray) = s at *
  have hml : maxLen = 9223372036854775807 := rfl
  rcases h with ⟨rfl, rfl⟩ | ⟨g, cap, cur, fz, rfl, hbg, hg, hfz, hnc, hcm, hcs, ht⟩
  · obtain ⟨v', w', r1, r2, r3, r4⟩ := Lib.run_append_own_string (P := Tryd.prog) w base 36 9 ty 5 i Tryd.underlying36 Tryd.underlying9 hi hz hs hb (.slice none 0 0) 0 [] (World.ownsRow_nil _ _ _ _) s (by simp at hl; omega) (by simp at hl; omega) hbase
    refine ⟨v', w', r1, ?_, r3⟩
    rw [hsz, hsc] at r2
    rcases r2.2 with ⟨e1, e2⟩ | ⟨g, cap, cur, e1, e2, e3, e4, e5, e6, e7⟩
    · have : y = [] := by cases y with | nil => rfl | cons _ _ => simp at e2
      subst this
      exact .inl ⟨e1, rfl⟩
    · exact .inr ⟨g, cap, cur, (0, 0), by rw [e1]; simp, e2, e3, .inl rfl, by simpa using e4, e5, by simpa using e6, by simpa using e7⟩
  · by_cases hr : l.length + y.length ≤ cap
    · have hf := Lib.run_firstCells_string (P := Tryd.prog) w 1 s
      rw [hsz, hsc] at hf
      have hst := run_storeCells_atT Tryd.prog g l.length 5 fz (y.map u8c) 0 cur w hg hfz (by simp; omega) (u8c_one y)
      simp only [Nat.add_zero, List.length_map] at hst
      obtain ⟨q1, q2⟩ := OwT.room (base := base) hbg hg hfz hcm hcs ht hr
      refine ⟨_, _, ?_, q1, q2⟩
      simp [Builtin.append_, run_underlying Tryd.underlying36, run_underlying Tryd.underlying9, sizeOf, typeInfo, hi, hs, Builtin.lenOf, hsz, hr, hf, Addr.add_lit, hst]
    · have hcell : ∀ j u, (l.map u8c)[j]? = some u → w.cell? ((⟨g, 0, none⟩ : Addr).add j) = some u := OwT.cells hg ht
      have hr2 := Lib.run_append_grow_string (P := Tryd.prog) w 36 9 ty 5 i (.int .u8 0) Tryd.underlying36 Tryd.underlying9 hi hz ⟨g, 0, none⟩ l.length cap (l.map u8c) (by rw [hs]; simp) hcell s (by omega) (by omega) (by rw [hb]; exact growslice_fits (by omega) (by omega))
      rw [hsz, hsc] at hr2
      have hge := grownCap_ge w (l.length + y.length) cap 5
      have hcm2 : grownCap w (l.length + y.length) cap 5 ≤ maxLen := grownCap_le_maxLen w (l.length + y.length) cap 5 (by omega)
      refine ⟨_, _, hr2, ?_, grown_drew _ _ _⟩
      have := OwT.fresh (w := w) (l := l ++ y) (base := base) hbase (by rw [List.length_append]; exact hge) hcm2 (C := (l.map u8c).toArray ++ (y.map u8c).toArray ++ Builtin.zeroCells (Value.int .u8 0).cells (grownCap w (l.length + y.length) cap 5 - (l.length + y.length))) (fz := (0, 0)) (.inl rfl) (grow_size hge) grow_take
      rwa [List.length_append] at this
theorem exec_appB {w : World} {o : Oper} {ac : Act} {s x : Operand} {base : Nat} {v : Value} {l y : List UInt8} (ho : o.op = .call { callee := .builtin .append, args := #[s, x], argTypes := #[36, 36] }) (hs : ac.eval s = v) {a : Addr} {m c : Nat} (hx : ac.eval x = .slice (some a) m c) (hm : m = y.length) (h : OwT w base v l) (hy : ∀ j u, (y.map u8c)[j]? = some u → w.cell? (a.add j) = some u) (hl : l.length + y.length ≤ 140737488355328) (hbase : base ≤ w.heap.size) :
    ∃ v' w', (execOp ac.eval o).run Tryd.prog w = .ok (.value v') w' ∧ OwT w' base v' (l ++ y) ∧ w.grownBy w' v.ownBlock := by
  subst hm
  obtain ⟨v', w', hr, h2, h3⟩ := run_appB o.type h (c := c) hy hl hbase
  refine ⟨v', w', ?_, h2, h3⟩
  unfold execOp
  simp only [ho, resolve, invoke, builtin, Sem.run_bind, Sem.run_pure, Result.andThen_ok, List.map_toArray, List.map_cons, List.map_nil, hs, hx, hr]
theorem exec_appT {w : World} {o : Oper} {ac : Act} {s x : Operand} {base : Nat} {v : Value} {l y : List UInt8} (ho : o.op = .call { callee := .builtin .append, args := #[s, x], argTypes := #[36, 9] }) (hs : ac.eval s = v) (hx : ac.eval x = strV y) (h : OwT w base v l) (hl : l.length + y.length ≤ 140737488355328) (hbase : base ≤ w.heap.size) :
    ∃ v' w', (execOp ac.eval o).run Tryd.prog w = .ok (.value v') w' ∧ OwT w' base v' (l ++ y) ∧ w.grownBy w' v.ownBlock := by
  obtain ⟨v', w', hr, h2, h3⟩ := run_appT o.type h hl hbase
  refine ⟨v', w', ?_, h2, h3⟩
  unfold execOp
  simp only [ho, resolve, invoke, builtin, Sem.run_bind, Sem.run_pure, Result.andThen_ok, List.map_toArray, List.map_cons, List.map_nil, hs, hx, hr]
/-- []byte(y). -/
theorem exec_toB {w : World} {o : Oper} {ac : Act} {x : Operand} {y : List UInt8} (ho : o.op = .convert 9 36 x) (hx : ac.eval x = strV y) (hl : y.length ≤ 1000000000) :
    ∃ v' w', (execOp ac.eval o).run Tryd.prog w = .ok (.value v') w' ∧ OwT w' w.heap.size v' y ∧ Below w.heap.size w w' := by
  unfold strV at hx
  have hsz : (⟨y.toArray⟩ : ByteArray).size = y.length := by show y.toArray.size = _; simp
  have hr := run_bytes_of_string (P := Tryd.prog) w 9 36 5 ⟨y.toArray⟩ Tryd.underlying9 Tryd.underlying36 Tryd.underlying5
  have hge := grownCap_ge w y.length 0 5
  have hcm2 : grownCap w y.length 0 5 ≤ maxLen := grownCap_le_maxLen w y.length 0 5 (by unfold maxLen; omega)
  rw [hsz] at hr
  have hC : (bytesRow ⟨y.toArray⟩ (grownCap w y.length 0 5)).size = grownCap w y.length 0 5 := by
    unfold bytesRow
    rw [hsz]
    simp
    omega
  refine ⟨_, _, by simp only [execOp, ho, hx, Sem.run_bind, hr, Result.andThen, Sem.run_pure], OwT.fresh (fz := ((bytesRow ⟨y.toArray⟩ (grownCap w y.length 0 5)).size, (bytesRow ⟨y.toArray⟩ (grownCap w y.length 0 5)).size + 1)) (Nat.le_refl _) hge hcm2 (.inr (Nat.le_refl _)) hC ?_, (Below.refl _ _).drew.alloc (Nat.le_refl _) _⟩
  unfold bytesRow
  rw [hsz]
  simp only [Array.toList_append, Array.toList_map]
  have : y.length = (List.map (fun b => Value.int .u8 (b.toNat : Int)) y).length := by simp
  rw [this]
  exact List.take_left
/-- string(l). -/
theorem exec_ofB {w : World} {o : Oper} {ac : Act} {x : Operand} {base : Nat} {v : Value} {l : List UInt8} (ho : o.op = .convert 36 9 x) (hx : ac.eval x = v) (h : OwT w base v l) : (execOp ac.eval o).run Tryd.prog w = .ok (.value (strV l)) w := by
  rcases h with ⟨rfl, rfl⟩ | ⟨g, cap, cur, fz, rfl, hbg, hg, hfz, hnc, hcm, hcs, ht⟩
  · have hr := run_convert_bytes_nil (P := Tryd.prog) w 36 5 Tryd.underlying36 Tryd.underlying5 0 0 9 Tryd.underlying9
    simp only [execOp, ho, hx, Sem.run_bind, hr, Result.andThen, Sem.run_pure]
    rfl
  · exact exec_str ho hx fun j hj => by
      have hcell := OwT.cells hg ht j (u8c l[j]) (by simp [hj])
      exact hcell
end Go.Proofs.YtjaaldeaknmmbaaDoor
