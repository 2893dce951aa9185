/- Bytes of a call's own, behind whose cells a mark may stand: append of bytes and of strings. The document's bytes as a word, a line of numbers. -/
import Derived.Lib.FrozenHead2
import Derived.Laws.IdiomStrings
import Derived.Test.YtkinhhkodaacjaaGreatDoorZ10
namespace Go.Proofs.YtkinhhkodaacjaaGreatDoor
open Go.RowKit Go.Shelf

/-- The slice v owns the bytes l; of its row no cell is frozen. -/
def OwT (w : World) (base : Nat) (v : Value) (l : List UInt8) : Prop :=
  (v = .slice none 0 0 ∧ l = []) ∨
  ∃ g cap cur fz, v = .slice (some ⟨g, 0, none⟩) l.length cap ∧ base ≤ g ∧ w.heap[g]? = some (.cells cur 5 fz) ∧ (fz.2 = 0 ∨ cur.size ≤ fz.1) ∧ l.length ≤ cap ∧ cap ≤ maxLen ∧ cur.size = cap ∧ cur.toList.take l.length = l.map u8c
theorem OwT.nil (w : World) (base : Nat) : OwT w base (.slice none 0 0) [] := .inl ⟨rfl, rfl⟩
theorem OwT.lt {w : World} {base : Nat} {v : Value} {l : List UInt8} (h : OwT w base v l) : ∀ k, v.ownBlock = some k → base ≤ k ∧ k < w.heap.size := by
  intro k hk
  rcases h with ⟨rfl, _⟩ | ⟨g, cap, cur, fz, rfl, hb, hg, _⟩
  · cases hk
  · simp only [Value.ownBlock, Option.some.injEq] at hk
    subst hk
    exact ⟨hb, (Array.getElem?_eq_some_iff.1 hg).1⟩
theorem OwT.block {w w' : World} {base : Nat} {v : Value} {l : List UInt8} (h : OwT w base v l) (hb : ∀ k, k < w.heap.size → w'.heap[k]? = w.heap[k]?) : OwT w' base v l := by
  rcases h with h | ⟨g, cap, cur, fz, h1, h2, hg, h3⟩
  · exact .inl h
  · exact .inr ⟨g, cap, cur, fz, h1, h2, by rw [hb g (Array.getElem?_eq_some_iff.1 hg).1]; exact hg, h3⟩
theorem OwT.below {w w' : World} {base : Nat} {v : Value} {l : List UInt8} (h : OwT w base v l) (hb : Below w.heap.size w w') : OwT w' base v l := h.block fun k hk => hb.block k hk
theorem OwT.shape {w : World} {base : Nat} {v : Value} {l : List UInt8} (h : OwT w base v l) : ∃ a cap, v = .slice a l.length cap := by
  rcases h with ⟨rfl, rfl⟩ | ⟨g, cap, cur, fz, h1, h2⟩
  · exact ⟨none, 0, rfl⟩
  · exact ⟨_, _, h1⟩
theorem OwT.cells {w : World} {g : Nat} {cur : Array Value} {fz : Nat × Nat} {l : List UInt8} (hg : w.heap[g]? = some (.cells cur 5 fz)) (hc : cur.toList.take l.length = l.map u8c) : ∀ j u, (l.map u8c)[j]? = some u → w.cell? ((⟨g, 0, none⟩ : Addr).add j) = some u := by
  intro j u hu
  rw [← hc, List.getElem?_take] at hu
  rw [Addr.add_lit]
  split at hu
  · simp only [World.cell?, hg, Nat.zero_add]
    simpa using hu
  · cases hu
theorem run_storeCells_atT (P : Program) (g o : Nat) (t : TypeId) (fz : Nat × Nat) : ∀ (vs : List Value) (i : Nat) (cur : Array Value) (w : World), w.heap[g]? = some (.cells cur t fz) → (fz.2 = 0 ∨ cur.size ≤ fz.1) → o + i + vs.length ≤ cur.size → (∀ v ∈ vs, v.oneCell' = true) →
    (storeCells ⟨g, o, none⟩ vs i).run P w = .ok () (w.setRow g (cur.toList.take (o + i) ++ vs ++ cur.toList.drop (o + i + vs.length)).toArray)
  | [], i, cur, w, hg, _, _, _ => by
    simp only [storeCells, List.append_nil, List.length_nil, Nat.add_zero, List.take_append_drop, Array.toArray_toList]
    rw [setRow_self w g cur t fz hg]
    rfl
  | v :: rest, i, cur, w, hg, hfz, hl, h1 => by
    have hi : o + i < cur.size := by simp at hl; omega
    have hadd : (⟨g, o, none⟩ : Addr).add i = ⟨g, o + i, none⟩ := by unfold Addr.add; split <;> simp_all
    have hcell : w.cell? ⟨g, o + i, none⟩ = some cur[o + i] := by simp [World.cell?, hg, hi]
    have hfro : w.frozen? ⟨g, o + i, none⟩ = false := by
      obtain ⟨lo, hi'⟩ := fz
      simp only [World.frozen?, hg, Bool.and_eq_false_iff, decide_eq_false_iff_not]
      simp only at hfz
      rcases hfz with h | h
      · right; omega
      · left; omega
    have hst : (store ((⟨g, o, none⟩ : Addr).add i) v).run P w = .ok () (w.setRow g (cur.setIfInBounds (o + i) v)) := by
      rw [hadd, run_store P w _ v _ (h1 v (by simp)), hcell]
      simp [hfro, setCell_eq_setRow w g (o + i) cur t fz v hg]
    have ih := run_storeCells_atT P g o t fz rest (i + 1) (cur.setIfInBounds (o + i) v) (w.setRow g (cur.setIfInBounds (o + i) v)) (setRow_heap w g cur _ t _ hg) (by simpa using hfz) (by simp at hl ⊢; omega) (fun x hx => h1 x (by simp [hx]))
    simp only [storeCells, Sem.run_bind, hst, Result.andThen_ok, ih, setRow_setRow]
    congr 3
    have e := list_seg_step cur.toList (o + i) v rest (by simp at hl ⊢; omega)
    simpa [Array.toList_setIfInBounds, Nat.add_assoc] using e
theorem u8c_one (l : List UInt8) : ∀ u ∈ l.map u8c, u.oneCell' = true := by
  intro u hu
  obtain ⟨c, _, rfl⟩ := List.mem_map.1 hu
  rfl
/-- What an append leaves where it has room. -/
theorem OwT.room {w : World} {base g cap : Nat} {cur : Array Value} {fz : Nat × Nat} {l y : List UInt8} (hb : base ≤ g) (hg : w.heap[g]? = some (.cells cur 5 fz)) (hfz : fz.2 = 0 ∨ cur.size ≤ fz.1) (hcm : cap ≤ maxLen) (hcs : cur.size = cap) (ht : cur.toList.take l.length = l.map u8c) (hr : l.length + y.length ≤ cap) :
    OwT (w.setRow g (cur.toList.take l.length ++ y.map u8c ++ cur.toList.drop (l.length + y.length)).toArray) base (.slice (some ⟨g, 0, none⟩) (l.length + y.length) cap) (l ++ y) ∧ w.grownBy (w.setRow g (cur.toList.take l.length ++ y.map u8c ++ cur.toList.drop (l.length + y.length)).toArray) (some g) := by
  have hsz : (cur.toList.take l.length ++ y.map u8c ++ cur.toList.drop (l.length + y.length)).toArray.size = cap := by
    simp only [List.size_toArray, List.length_append, List.length_take, List.length_map, List.length_drop, Array.length_toList]
    omega
  refine ⟨.inr ⟨g, cap, _, fz, by rw [List.length_append], hb, setRow_heap w g cur _ 5 _ hg, ?_, by rw [List.length_append]; exact hr, hcm, hsz, ?_⟩, ⟨rfl, rfl, rfl, by simp, fun k _ hk => setRow_other w g k _ (fun e => hk (by rw [e]))⟩⟩
  · rw [hsz]; omega
  · rw [ht]
    have : (l ++ y).length = (l.map u8c ++ y.map u8c).length := by simp
    rw [this, List.map_append]
    exact List.take_left
/-- What an append leaves where it has none. -/
theorem OwT.fresh {w : World} {base cap : Nat} {l : List UInt8} (hbase : base ≤ w.heap.size) (hge : l.length ≤ cap) (hcm : cap ≤ maxLen) {C : Array Value} {fz : Nat × Nat} (hfz : fz.2 = 0 ∨ C.size ≤ fz.1) (hC : C.size = cap) (ht : C.toList.take l.length = l.map u8c) :
    OwT (w.drew.alloc (.cells C 5 fz)) base (.slice (some ⟨w.heap.size, 0, none⟩) l.length cap) l :=
  .inr ⟨w.heap.size, cap, C, fz, rfl, hbase, heap_alloc_new w.drew _, hfz, hge, hcm, hC, ht⟩
theorem info5 : ∃ i, Tryz.prog.info? 5 = some i ∧ i.zero = some (.int .u8 0) ∧ i.size = 1 ∧ i.bytes = 1 := info_parts (show (Tryz.prog.info? 5).map (fun i => (i.zero, i.size, i.bytes)) = some (some (.int .u8 0), 1, 1) by kernel_rfl)
theorem grow_size {l y : List UInt8} {cap : Nat} (h : l.length + y.length ≤ cap) : ((l.map u8c).toArray ++ (y.map u8c).toArray ++ Builtin.zeroCells (Value.int .u8 0).cells (cap - (l.length + y.length))).size = cap := by
  have hz1 : (Value.int IntKind.u8 0).cells.size = 1 := rfl
  simp only [Array.size_append, List.size_toArray, size_zeroCells, hz1, List.length_map]
  omega
theorem grow_take {l y : List UInt8} {Z : Array Value} : ((l.map u8c).toArray ++ (y.map u8c).toArray ++ Z).toList.take (l ++ y).length = (l ++ y).map u8c := by
  have : (l ++ y).length = (l.map u8c ++ y.map u8c).length := by simp
  rw [this, List.map_append]
  simp only [Array.toList_append]
  exact List.take_left
theorem grown_drew (w : World) (o : Obj) (r : Option Nat) : w.grownBy (w.drew.alloc o) r := ⟨rfl, rfl, rfl, by simp, fun k hk _ => heap_alloc_old w.drew _ (r := k) hk⟩
/-- append(l, y...), bytes behind bytes. -/
theorem run_appB (ty : TypeId) {w : World} {base : Nat} {v : Value} {l y : List UInt8} (h : OwT w base v l) {a : Addr} {c : Nat} (hy : ∀ j u, (y.map u8c)[j]? = some u → w.cell? (a.add j) = some u) (hl : l.length + y.length ≤ 140737488355328) (hbase : base ≤ w.heap.size) :
    ∃ v' w', (Builtin.append_ #[44, 44] ty #[v, .slice (some a) y.length c]).run Tryz.prog w = .ok v' w' ∧ OwT w' base v' (l ++ y) ∧ w.grownBy w' v.ownBlock := by
  obtain ⟨i, hi, hz, hs, hb⟩ := info5
  rcases h with ⟨rfl, rfl⟩ | ⟨g, cap, cur, fz, rfl, hbg, hg, hfz, hnc, hcm, hcs, ht⟩
  · obtain ⟨v', w', r1, r2, r3, r4⟩ := run_append_own (P := Tryz.prog) w base 44 ty 5 i (.int .u8 0) 1 1 Tryz.underlying44 hi hz hs hb rfl (by decide) (.slice none 0 0) 0 [] (World.ownsRow_nil _ _ _ _) a y.length c (y.map u8c) (by simp) hy (u8c_one y) (by unfold maxLen; simp at hl; omega) (by simp at hl; omega) hbase
    refine ⟨v', w', r1, ?_, r3⟩
    rcases r2.2 with ⟨e1, e2⟩ | ⟨g, cap, cur, e1, e2, e3, e4, e5, e6, e7⟩
    · have : y = [] := by cases y with | nil => rfl | cons _ _ => simp at e2
      subst this
      exact .inl ⟨e1, rfl⟩
    · exact .inr ⟨g, cap, cur, (0, 0), by rw [e1]; simp, e2, e3, .inl rfl, by simpa using e4, e5, by simpa using e6, by simpa using e7⟩
  · have hml : maxLen = 9223372036854775807 := rfl
    by_cases hr : l.length + y.length ≤ cap
    · have hf := run_firstCells_some (P := Tryz.prog) w 1 y.length a y.length c (y.map u8c) (by simp) hy
      have hst := run_storeCells_atT Tryz.prog g l.length 5 fz (y.map u8c) 0 cur w hg hfz (by simp; omega) (u8c_one y)
      simp only [Nat.add_zero, List.length_map] at hst
      obtain ⟨q1, q2⟩ := OwT.room (base := base) hbg hg hfz hcm hcs ht hr
      refine ⟨_, _, ?_, q1, q2⟩
      simp [Builtin.append_, run_underlying Tryz.underlying44, sizeOf, typeInfo, hi, hs, Builtin.lenOf, hr, hf, Addr.add_lit, hst]
    · have hcell : ∀ j u, (l.map u8c)[j]? = some u → w.cell? ((⟨g, 0, none⟩ : Addr).add j) = some u := OwT.cells hg ht
      have hr2 := run_append_grow (P := Tryz.prog) w 44 ty 5 i (.int .u8 0) Tryz.underlying44 hi hz ⟨g, 0, none⟩ l.length cap (l.map u8c) (by rw [hs]; simp) hcell a y.length c (y.map u8c) (by rw [hs]; simp) hy (by omega) (by omega) (by rw [hb]; exact growslice_fits (by omega) (by omega))
      have hge := grownCap_ge w (l.length + y.length) cap 5
      have hcm2 : grownCap w (l.length + y.length) cap 5 ≤ maxLen := grownCap_le_maxLen w (l.length + y.length) cap 5 (by omega)
      refine ⟨_, _, hr2, ?_, grown_drew _ _ _⟩
      have := OwT.fresh (w := w) (l := l ++ y) (base := base) hbase (by rw [List.length_append]; exact hge) hcm2 (C := (l.map u8c).toArray ++ (y.map u8c).toArray ++ Builtin.zeroCells (Value.int .u8 0).cells (grownCap w (l.length + y.length) cap 5 - (l.length + y.length))) (fz := (0, 0)) (.inl rfl) (grow_size hge) grow_take
      rwa [List.length_append] at this
theorem strCells_u8c (y : List UInt8) : Lib.strCells ⟨y.toArray⟩ = y.map u8c := by
  unfold Lib.strCells
  rfl
/-- append(l, y...), a string behind bytes. -/
theorem run_appT (ty : TypeId) {w : World} {base : Nat} {v : Value} {l y : List UInt8} (h : OwT w base v l) (hl : l.length + y.length ≤ 140737488355328) (hbase : base ≤ w.heap.size) :
    ∃ v' w', (Builtin.append_ #[44, 9] ty #[v, strV y]).run Tryz.prog w = .ok v' w' ∧ OwT w' base v' (l ++ y) ∧ w.grownBy w' v.ownBlock := by
  obtain ⟨i, hi, hz, hs, hb⟩ := info5
  unfold strV
  have hsz : (⟨y.toArray⟩ : ByteArray).size = y.length := by show y.toArray.size = _; simp
  have hsc := strCells_u8c y
  generalize (⟨y.toArray⟩ : ByteArray) = s at *
  have hml : maxLen = 9223372036854775807 := rfl
  rcases h with ⟨rfl, rfl⟩ | ⟨g, cap, cur, fz, rfl, hbg, hg, hfz, hnc, hcm, hcs, ht⟩
  · obtain ⟨v', w', r1, r2, r3, r4⟩ := Lib.run_append_own_string (P := Tryz.prog) w base 44 9 ty 5 i Tryz.underlying44 Tryz.underlying9 hi hz hs hb (.slice none 0 0) 0 [] (World.ownsRow_nil _ _ _ _) s (by simp at hl; omega) (by simp at hl; omega) hbase
    refine ⟨v', w', r1, ?_, r3⟩
    rw [hsz, hsc] at r2
    rcases r2.2 with ⟨e1, e2⟩ | ⟨g, cap, cur, e1, e2, e3, e4, e5, e6, e7⟩
    · have : y = [] := by cases y with | nil => rfl | cons _ _ => simp at e2
      subst this
      exact .inl ⟨e1, rfl⟩
    · exact .inr ⟨g, cap, cur, (0, 0), by rw [e1]; simp, e2, e3, .inl rfl, by simpa using e4, e5, by simpa using e6, by simpa using e7⟩
  · by_cases hr : l.length + y.length ≤ cap
    · have hf := Lib.run_firstCells_string (P := Tryz.prog) w 1 s
      rw [hsz, hsc] at hf
      have hst := run_storeCells_atT Tryz.prog g l.length 5 fz (y.map u8c) 0 cur w hg hfz (by simp; omega) (u8c_one y)
      simp only [Nat.add_zero, List.length_map] at hst
      obtain ⟨q1, q2⟩ := OwT.room (base := base) hbg hg hfz hcm hcs ht hr
      refine ⟨_, _, ?_, q1, q2⟩
      simp [Builtin.append_, run_underlying Tryz.underlying44, run_underlying Tryz.underlying9, sizeOf, typeInfo, hi, hs, Builtin.lenOf, hsz, hr, hf, Addr.add_lit, hst]
    · have hcell : ∀ j u, (l.map u8c)[j]? = some u → w.cell? ((⟨g, 0, none⟩ : Addr).add j) = some u := OwT.cells hg ht
      have hr2 := Lib.run_append_grow_string (P := Tryz.prog) w 44 9 ty 5 i (.int .u8 0) Tryz.underlying44 Tryz.underlying9 hi hz ⟨g, 0, none⟩ l.length cap (l.map u8c) (by rw [hs]; simp) hcell s (by omega) (by omega) (by rw [hb]; exact growslice_fits (by omega) (by omega))
      rw [hsz, hsc] at hr2
      have hge := grownCap_ge w (l.length + y.length) cap 5
      have hcm2 : grownCap w (l.length + y.length) cap 5 ≤ maxLen := grownCap_le_maxLen w (l.length + y.length) cap 5 (by omega)
      refine ⟨_, _, hr2, ?_, grown_drew _ _ _⟩
      have := OwT.fresh (w := w) (l := l ++ y) (base := base) hbase (by rw [List.length_append]; exact hge) hcm2 (C := (l.map u8c).toArray ++ (y.map u8c).toArray ++ Builtin.zeroCells (Value.int .u8 0).cells (grownCap w (l.length + y.length) cap 5 - (l.length + y.length))) (fz := (0, 0)) (.inl rfl) (grow_size hge) grow_take
      rwa [List.length_append] at this
theorem exec_appB {w : World} {o : Oper} {ac : Act} {s x : Operand} {base : Nat} {v : Value} {l y : List UInt8} (ho : o.op = .call { callee := .builtin .append, args := #[s, x], argTypes := #[44, 44] }) (hs : ac.eval s = v) {a : Addr} {m c : Nat} (hx : ac.eval x = .slice (some a) m c) (hm : m = y.length) (h : OwT w base v l) (hy : ∀ j u, (y.map u8c)[j]? = some u → w.cell? (a.add j) = some u) (hl : l.length + y.length ≤ 140737488355328) (hbase : base ≤ w.heap.size) :
    ∃ v' w', (execOp ac.eval o).run Tryz.prog w = .ok (.value v') w' ∧ OwT w' base v' (l ++ y) ∧ w.grownBy w' v.ownBlock := by
  subst hm
  obtain ⟨v', w', hr, h2, h3⟩ := run_appB o.type h (c := c) hy hl hbase
  refine ⟨v', w', ?_, h2, h3⟩
  unfold execOp
  simp only [ho, resolve, invoke, builtin, Sem.run_bind, Sem.run_pure, Result.andThen_ok, List.map_toArray, List.map_cons, List.map_nil, hs, hx, hr]
theorem exec_appT {w : World} {o : Oper} {ac : Act} {s x : Operand} {base : Nat} {v : Value} {l y : List UInt8} (ho : o.op = .call { callee := .builtin .append, args := #[s, x], argTypes := #[44, 9] }) (hs : ac.eval s = v) (hx : ac.eval x = strV y) (h : OwT w base v l) (hl : l.length + y.length ≤ 140737488355328) (hbase : base ≤ w.heap.size) :
    ∃ v' w', (execOp ac.eval o).run Tryz.prog w = .ok (.value v') w' ∧ OwT w' base v' (l ++ y) ∧ w.grownBy w' v.ownBlock := by
  obtain ⟨v', w', hr, h2, h3⟩ := run_appT o.type h hl hbase
  refine ⟨v', w', ?_, h2, h3⟩
  unfold execOp
  simp only [ho, resolve, invoke, builtin, Sem.run_bind, Sem.run_pure, Result.andThen_ok, List.map_toArray, List.map_cons, List.map_nil, hs, hx, hr]
/-- []byte(y). -/
theorem exec_toB {w : World} {o : Oper} {ac : Act} {x : Operand} {y : List UInt8} (ho : o.op = .convert 9 44 x) (hx : ac.eval x = strV y) (hl : y.length ≤ 1000000000) :
    ∃ v' w', (execOp ac.eval o).run Tryz.prog w = .ok (.value v') w' ∧ OwT w' w.heap.size v' y ∧ Below w.heap.size w w' := by
  unfold strV at hx
  have hsz : (⟨y.toArray⟩ : ByteArray).size = y.length := by show y.toArray.size = _; simp
  have hr := run_bytes_of_string (P := Tryz.prog) w 9 44 5 ⟨y.toArray⟩ Tryz.underlying9 Tryz.underlying44 Tryz.underlying5
  have hge := grownCap_ge w y.length 0 5
  have hcm2 : grownCap w y.length 0 5 ≤ maxLen := grownCap_le_maxLen w y.length 0 5 (by unfold maxLen; omega)
  rw [hsz] at hr
  have hC : (bytesRow ⟨y.toArray⟩ (grownCap w y.length 0 5)).size = grownCap w y.length 0 5 := by
    unfold bytesRow
    rw [hsz]
    simp
    omega
  refine ⟨_, _, by simp only [execOp, ho, hx, Sem.run_bind, hr, Result.andThen, Sem.run_pure], OwT.fresh (fz := ((bytesRow ⟨y.toArray⟩ (grownCap w y.length 0 5)).size, (bytesRow ⟨y.toArray⟩ (grownCap w y.length 0 5)).size + 1)) (Nat.le_refl _) hge hcm2 (.inr (Nat.le_refl _)) hC ?_, (Below.refl _ _).drew.alloc (Nat.le_refl _) _⟩
  unfold bytesRow
  rw [hsz]
  simp only [Array.toList_append, Array.toList_map]
  have : y.length = (List.map (fun b => Value.int .u8 (b.toNat : Int)) y).length := by simp
  rw [this]
  exact List.take_left
/-- string(l). -/
theorem exec_ofB {w : World} {o : Oper} {ac : Act} {x : Operand} {base : Nat} {v : Value} {l : List UInt8} (ho : o.op = .convert 44 9 x) (hx : ac.eval x = v) (h : OwT w base v l) : (execOp ac.eval o).run Tryz.prog w = .ok (.value (strV l)) w := by
  rcases h with ⟨rfl, rfl⟩ | ⟨g, cap, cur, fz, rfl, hbg, hg, hfz, hnc, hcm, hcs, ht⟩
  · have hr := run_convert_bytes_nil (P := Tryz.prog) w 44 5 Tryz.underlying44 Tryz.underlying5 0 0 9 Tryz.underlying9
    simp only [execOp, ho, hx, Sem.run_bind, hr, Result.andThen, Sem.run_pure]
    rfl
  · exact exec_str ho hx fun j hj => by
      have hcell := OwT.cells hg ht j (u8c l[j]) (by simp [hj])
      exact hcell
end Go.Proofs.YtkinhhkodaacjaaGreatDoor
namespace Go.Proofs.YtkinhhkodaacjaaGreatDoor
open Go.RowKit Go.Shelf

section
variable {P : Program} {md : Region.Mode} {l : List Oper} {Q : Exit → Act → World → Prop} {S : World → Prop}
theorem takeE {i : Nat} {oi : Oper} {r : List Oper} {fuel : Nat} {listed : Array Bool} {a : Act} {w : World} {R : Value → World → Prop} (hi : l.drop i = oi :: r)
    (hr : Region.ready md l.toArray listed = [i]) (hw : Region.wanted oi (yielded l.toArray a.tmps) = true) (hx : ∃ v' w', (execOp a.eval oi).run P w = .ok (.value v') w' ∧ R v' w')
    (h : ∀ v' w', R v' w' → S w' ∧ wpAnyH P md l.toArray Q S fuel (listed.setIfInBounds i true) (a.put oi.dst v') w') : wpAnyH P md l.toArray Q S (fuel + 1) listed a w := by
  obtain ⟨v', w', hrun, q⟩ := hx
  obtain ⟨g1, g2⟩ := h v' w' q
  exact takeV hi hr hw hrun g1 g2
end
section
variable {P : Program} {ops : Array Oper} {rest : List Oper} {o : Oper} {a : Act} {w : World} {Q : Exit → Act → World → Prop}
theorem wpList_ex {R : Value → World → Prop} (hw : Region.wanted o (yielded ops a.tmps) = true) (hx : ∃ v' w', (execOp a.eval o).run P w = .ok (.value v') w' ∧ R v' w')
    (h : ∀ v' w', R v' w' → wpList P ops Q rest (a.put o.dst v') w') : wpList P ops Q (o :: rest) a w := by
  obtain ⟨v', w', hrun, q⟩ := hx
  exact wpList_val hw hrun (h v' w' q)
end
theorem FL5 : Flat Tryz.prog 5 := ⟨⟨_, Tryz.underlying5, rfl⟩, by kernel_rfl⟩
theorem exec_quo16 {w : World} {o : Oper} {ac : Act} {X : Operand} {ty : TypeId} {n : Nat} (ho : o.op = .binOp .quo 5 X (.const (.int .u8 16)) ty) (hx : ac.eval X = .int .u8 (n : Int)) (h : n < 256) : (execOp ac.eval o).run Tryz.prog w = .ok (.value (.int .u8 ((n / 16 : Nat) : Int))) w := by
  have e : (n : Int).tdiv 16 = ((n / 16 : Nat) : Int) := by rw [Int.tdiv_eq_ediv_of_nonneg (by omega)]; omega
  have e2 : IntKind.u8.wrap ((n / 16 : Nat) : Int) = ((n / 16 : Nat) : Int) := by simp [IntKind.wrap, IntKind.signed, IntKind.bits]; omega
  have hc : ac.eval (.const (.int .u8 16)) = .int .u8 16 := rfl
  generalize ((n / 16 : Nat) : Int) = r at *
  generalize ac.eval = ev at *
  unfold execOp
  simp only [ho, hx, hc]
  go_simp
  try rw [e]
  try rw [e2]
theorem exec_rem16 {w : World} {o : Oper} {ac : Act} {X : Operand} {ty : TypeId} {n : Nat} (ho : o.op = .binOp .rem 5 X (.const (.int .u8 16)) ty) (hx : ac.eval X = .int .u8 (n : Int)) : (execOp ac.eval o).run Tryz.prog w = .ok (.value (.int .u8 ((n % 16 : Nat) : Int))) w := by
  have e : (n : Int).tmod 16 = ((n % 16 : Nat) : Int) := by rw [Int.tmod_eq_emod_of_nonneg (by omega)]; omega
  have hc : ac.eval (.const (.int .u8 16)) = .int .u8 16 := rfl
  generalize ((n % 16 : Nat) : Int) = r at *
  generalize ac.eval = ev at *
  unfold execOp
  simp only [ho, hx, hc]
  go_simp
  try rw [e]
theorem own_oneT (w : World) (c : UInt8) : OwT (w.alloc (.cells #[u8c c] 5)) w.heap.size (.slice (some ⟨w.heap.size, 0, none⟩) 1 1) [c] :=
  .inr ⟨w.heap.size, 1, _, (0, 0), rfl, Nat.le_refl _, (Blk.new' rfl : Blk _ w.heap.size 5 #[u8c c]), .inl rfl, Nat.le_refl _, by unfold maxLen; omega, rfl, rfl⟩
set_option maxRecDepth 100000 in
set_option maxHeartbeats 1600000 in
theorem rhex_any (B : List UInt8) (bv : Value) (w : World) (hb : Bys w bv B) (hl : B.length ≤ 1000000000) : Calls Tryz.prog 57 #[bv] w fun e w' => e = .returned (strV (hexW B)) ∧ Below w.heap.size w w' := by
  have HPO : Hid (∀ (w' : World) (l : List UInt8), Below w.heap.size w w' → l = hexW B → (fun e w' => e = Ending.returned (strV (hexW B)) ∧ Below w.heap.size w w') (.returned (strV l)) w') := fun w' l h1 h2 => by subst h2; exact ⟨rfl, h1⟩
  generalize (fun e w' => e = Ending.returned (strV (hexW B)) ∧ Below w.heap.size w w') = POST at *
  obtain ⟨ba, bc, rfl, hbc, hbcm, -⟩ := hb.shape
  obtain ⟨q, hq⟩ : ∃ q, q = B.length := ⟨_, rfl⟩
  rw [← hq] at hbc ⊢
  have HB := Lib.hid hb
  rw [← hq] at HB
  have HQ := Lib.hid hq
  have hq6 : q ≤ 1000000000 := by omega
  have HO1 := Lib.hid (own_oneT w 120)
  have HW1 := Lib.hid (below1 w (.cells #[u8c 120] 5))
  clear hb hq
  go_enter Tryz.func57, Tryz.ntmps57
  go_wp2_with ((with_reducible show wpList _ _ _ (Oper.mk (some 5) _ _ _ _ _ :: _) _ _); refine wpList_val rfl (exec_oneS (c := 120) exec_one1 rfl rfl) ?_)
  generalize w.alloc (.cells #[u8c 120] 5) = W1 at *
  go_loopw [3, 4] (fun u i wr => ∃ (k : Nat) (acc : List UInt8), k ≤ q ∧ i = .int .i64 k ∧ Hid (acc = hexW (B.take k) ∧ acc.length ≤ 2 * k + 1) ∧ Hid (OwT wr w.heap.size u acc) ∧ Hid (Below w.heap.size w wr)) (fun _ i _ => q - (intOf i).toNat)
  case atStart => exact ⟨0, [120], Nat.zero_le _, rfl, ⟨rfl, by simp⟩, HO1.out, HW1.out⟩
  case round =>
    clear HO1 HW1
    obtain ⟨k, acc, hk, rfl, HA, HO, HW⟩ := hrel
    obtain ⟨wo, rfl⟩ : ∃ wo : World, wo = wr := ⟨_, rfl⟩
    obtain ⟨av, ac0, rfl⟩ := HO.out.shape
    by_cases hlt : k < q
    · obtain ⟨c, hs⟩ : ∃ c, B[k]? = some c := ⟨_, List.getElem?_eq_getElem (by rw [← HQ.out]; exact hlt)⟩
      obtain ⟨bb, off, hba, hbl, hc⟩ := HB.out.row (by rintro rfl; simp at hs)
      have HC : Hid (w.cell? ⟨bb, off + k, none⟩ = some (.int .u8 (c.toNat : Int))) := by
        have := hc k c hs 0 _ rfl
        show _ = _
        simpa [u8c] using this
      have hc8 := c.toNat_lt
      have HG0 := Lib.hid (digs_at (c.toNat / 16) (by omega))
      have HG1 := Lib.hid (digs_at (c.toNat % 16) (by omega))
      have HA2 : Hid (acc ++ [hexC (c.toNat / 16), hexC (c.toNat % 16)] = hexW (B.take (k + 1))) := by show _ = _; rw [hexW_snoc hs, HA.out.1]
      have hal : acc.length ≤ 2 * k + 1 := HA.out.2
      have HWA : Hid (∀ o : Obj, Below w.heap.size w (wo.drew.alloc o)) := fun o => HW.out.drew.alloc HW.out.size o
      have HOA : Hid (∀ o : Obj, OwT (wo.drew.alloc o) w.heap.size (.slice av acc.length ac0) acc) := fun o => HO.out.below ((Below.refl _ wo).drew.alloc (Nat.le_refl _) o)
      have HSZ : Hid (w.heap.size ≤ wo.drew.heap.size) := HW.out.size
      subst hba
      clear hc hs HA
      go_upto_region 5 with fail
      refine wp_region_held_drew (S := (fun X => X.cell? ⟨bb, off + k, none⟩ = some (.int .u8 (c.toNat : Int)))) (by kernel_rfl) (HW.out.drew.cell hbl |>.trans HC.out) (fun hHeld => ?_)
      (refine takeW (i := 0) (v := ?_) rfl (by kernel_rfl) (by kernel_rfl) (by kernel_rfl) (fun _ _ _ h => h) (by rfl) (by assumption) ?_ ?_; rotate_left; (intro W hW; (try dsimp only at hW); go_simp; try with_reducible rfl); (try simp only [Act.put, List.setIfInBounds_toArray, List.set_cons_zero, List.set_cons_succ]))
      (refine takeW (i := 1) (v := ?_) rfl (by kernel_rfl) (by kernel_rfl) (by kernel_rfl) (fun _ _ _ h => h) (by rfl) (by assumption) ?_ ?_; rotate_left; (intro W hW; (try dsimp only at hW); go_simp; try with_reducible rfl); (try simp only [Act.put, List.setIfInBounds_toArray, List.set_cons_zero, List.set_cons_succ]))
      (refine takeW (i := 2) (v := ?_) rfl (by kernel_rfl) (by kernel_rfl) (by kernel_rfl) (fun _ _ _ h => h) (by rfl) (by assumption) ?_ ?_; rotate_left; (intro W hW; (try dsimp only at hW); go_simp; try with_reducible rfl); (try simp only [Act.put, List.setIfInBounds_toArray, List.set_cons_zero, List.set_cons_succ]))
      (refine takeW (i := 3) (v := ?_) rfl (by kernel_rfl) (by kernel_rfl) (by kernel_rfl) (fun _ _ _ h => h) (by rfl) (by assumption) ?_ ?_; rotate_left; (intro W hW; (try dsimp only at hW); go_simp; try with_reducible rfl); (try simp only [Act.put, List.setIfInBounds_toArray, List.set_cons_zero, List.set_cons_succ]))
      (refine takeW (i := 4) rfl (by kernel_rfl) (by kernel_rfl) (by kernel_rfl) (fun _ _ _ h => h) (by rfl) (by assumption) (fun W hW => exec_load1 (v := .int .u8 (c.toNat : Int)) FL5 rfl rfl hW) ?_; (try simp only [Act.put, List.setIfInBounds_toArray, List.set_cons_zero, List.set_cons_succ]))
      (refine takeW (i := 5) rfl (by kernel_rfl) (by kernel_rfl) (by kernel_rfl) (fun _ _ _ h => h) (by rfl) (by assumption) (fun W hW => exec_quo16 rfl rfl hc8) ?_; (try simp only [Act.put, List.setIfInBounds_toArray, List.set_cons_zero, List.set_cons_succ]))
      (refine takeW (i := 6) rfl (by kernel_rfl) (by kernel_rfl) (by kernel_rfl) (fun _ _ _ h => h) (by rfl) (by assumption) (fun W hW => exec_ixu (l := digsL) (k := c.toNat / 16) rfl rfl rfl HG0.out) ?_; (try simp only [Act.put, List.setIfInBounds_toArray, List.set_cons_zero, List.set_cons_succ]))
      (refine takeW (i := 7) (v := ?_) rfl (by kernel_rfl) (by kernel_rfl) (by kernel_rfl) (fun _ _ _ h => h) (by rfl) (by assumption) ?_ ?_; rotate_left; (intro W hW; (try dsimp only at hW); go_simp; try with_reducible rfl); (try simp only [Act.put, List.setIfInBounds_toArray, List.set_cons_zero, List.set_cons_succ]))
      (refine takeW (i := 8) (v := ?_) rfl (by kernel_rfl) (by kernel_rfl) (by kernel_rfl) (fun _ _ _ h => h) (by rfl) (by assumption) ?_ ?_; rotate_left; (intro W hW; (try dsimp only at hW); go_simp; try with_reducible rfl); (try simp only [Act.put, List.setIfInBounds_toArray, List.set_cons_zero, List.set_cons_succ]))
      (refine takeW (i := 9) (v := ?_) rfl (by kernel_rfl) (by kernel_rfl) (by kernel_rfl) (fun _ _ _ h => h) (by rfl) (by assumption) ?_ ?_; rotate_left; (intro W hW; (try dsimp only at hW); go_simp; try with_reducible rfl); (try simp only [Act.put, List.setIfInBounds_toArray, List.set_cons_zero, List.set_cons_succ]))
      (refine takeW (i := 10) rfl (by kernel_rfl) (by kernel_rfl) (by kernel_rfl) (fun _ _ _ h => h) (by rfl) (by assumption) (fun W hW => exec_load1 (v := .int .u8 (c.toNat : Int)) FL5 rfl rfl hW) ?_; (try simp only [Act.put, List.setIfInBounds_toArray, List.set_cons_zero, List.set_cons_succ]))
      (refine takeW (i := 11) rfl (by kernel_rfl) (by kernel_rfl) (by kernel_rfl) (fun _ _ _ h => h) (by rfl) (by assumption) (fun W hW => exec_rem16 rfl rfl) ?_; (try simp only [Act.put, List.setIfInBounds_toArray, List.set_cons_zero, List.set_cons_succ]))
      (refine takeW (i := 12) rfl (by kernel_rfl) (by kernel_rfl) (by kernel_rfl) (fun _ _ _ h => h) (by rfl) (by assumption) (fun W hW => exec_ixu (l := digsL) (k := c.toNat % 16) rfl rfl rfl HG1.out) ?_; (try simp only [Act.put, List.setIfInBounds_toArray, List.set_cons_zero, List.set_cons_succ]))
      clear hHeld
      refine takeV (i := 13) rfl (by kernel_rfl) (by rfl) (exec_twoU rfl rfl rfl) ((HWA.out _).cell hbl |>.trans HC.out) ?_
      (try simp only [Act.put, List.setIfInBounds_toArray, List.set_cons_zero, List.set_cons_succ])
      refine takeE (i := 14) rfl (by kernel_rfl) (by rfl) (exec_appB (y := [hexC (c.toNat / 16), hexC (c.toNat % 16)]) rfl rfl rfl rfl (HOA.out _) (news_two _ _ _) (by simp; omega) (by have := HSZ.out; simp at this ⊢; omega)) ?_
      rintro v7 W5 ⟨ho5, hg5⟩
      have HO5 := Lib.hid ho5
      have HW5 := Lib.hid ((HWA.out _).grown hg5 (by have := HSZ.out; simp at this ⊢; omega) (fun k hk => ((HOA.out (.cells #[] 5)).lt k hk).1))
      clear ho5 hg5
      refine ⟨HW5.out.cell hbl |>.trans HC.out, ?_⟩
      (try simp only [Act.put, List.setIfInBounds_toArray, List.set_cons_zero, List.set_cons_succ])
      have hHeld : (fun X => X.cell? ⟨bb, off + k, none⟩ = some (.int .u8 (c.toNat : Int))) W5 := (HW5.out.cell hbl).trans HC.out
      (refine takeW (i := 15) (v := ?_) rfl (by kernel_rfl) (by kernel_rfl) (by kernel_rfl) (fun _ _ _ h => h) (by rfl) (by assumption) ?_ ?_; rotate_left; (intro W hW; (try dsimp only at hW); go_simp; try with_reducible rfl); (try simp only [Act.put, List.setIfInBounds_toArray, List.set_cons_zero, List.set_cons_succ]))
      refine wpAnyH_done (by kernel_rfl) ?_ _
      clear hHeld HWA HOA HSZ
      go_wp2
      go_roundw
      case rel => exact ⟨k + 1, acc ++ [hexC (c.toNat / 16), hexC (c.toNat % 16)], by omega, by go_num, ⟨HA2.out, by simp; omega⟩, HO5, HW5⟩
      case measure => simp [intOf]; omega
    · obtain rfl : k = q := by omega
      have HF : Hid (acc = hexW B) := by
        have := HA.out.1
        rwa [List.take_of_length_le (by rw [← HQ.out]; exact Nat.le_refl _)] at this
      clear HA
      go_wp2_with ((with_reducible show wpList _ _ _ (Oper.mk (some 28) _ _ _ _ _ :: _) _ _); refine wpList_val rfl (exec_ofB rfl rfl HO.out) ?_)
      exact HPO.out _ _ HW.out HF.out
theorem joinB_snoc (c : UInt8) : ∀ (x : List UInt8) (ws : List (List UInt8)) (y : List UInt8), joinB c (x :: (ws ++ [y])) = joinB c (x :: ws) ++ c :: y
  | x, [], y => rfl
  | x, z :: ws, y => by
    rw [List.cons_append, joinB_cons c x (List.cons_ne_nil z (ws ++ [y])), joinB_snoc c z ws y, joinB_cons c x (List.cons_ne_nil z ws)]
    simp
def lineN (first : List UInt8) (ns : List Int) : List UInt8 := joinB 32 (first :: ns.map decZ)
theorem lineN_snoc {first : List UInt8} {ns : List Int} {k : Nat} {n : Int} (h : ns[k]? = some n) : lineN first (ns.take (k + 1)) = lineN first (ns.take k) ++ ([32] ++ decZ n) := by
  unfold lineN
  obtain ⟨hk, e⟩ := List.getElem?_eq_some_iff.1 h
  rw [List.take_succ_eq_append_getElem hk, e, List.map_append, List.map_cons, List.map_nil, joinB_snoc]
  rfl
set_option maxRecDepth 100000 in
set_option maxHeartbeats 1600000 in
theorem rline_any (first : List UInt8) (ns : List Int) (nv : Value) (w : World) (hb : Rd (encI .i64) 1 w nv ns) (hn : ∀ n ∈ ns, inI n) (hf : first.length ≤ 10) (hl : ns.length ≤ 100000) : Calls Tryz.prog 56 #[strV first, nv] w fun e w' => e = .returned (strV (lineN first ns)) ∧ Below w.heap.size w w' := by
  have HPO : Hid (∀ (w' : World) (l : List UInt8), Below w.heap.size w w' → l = lineN first ns → (fun e w' => e = Ending.returned (strV (lineN first ns)) ∧ Below w.heap.size w w') (.returned (strV l)) w') := fun w' l h1 h2 => by subst h2; exact ⟨rfl, h1⟩
  generalize (fun e w' => e = Ending.returned (strV (lineN first ns)) ∧ Below w.heap.size w w') = POST at *
  obtain ⟨ba, bc, rfl, hbc, hbcm, -⟩ := hb.shape
  obtain ⟨q, hq⟩ : ∃ q, q = ns.length := ⟨_, rfl⟩
  rw [← hq] at hbc ⊢
  have HB := Lib.hid hb
  rw [← hq] at HB
  have HQ := Lib.hid hq
  have hq6 : q ≤ 100000 := by omega
  clear hb hq
  go_enter Tryz.func56, Tryz.ntmps56
  go_wp2_with ((with_reducible show wpList _ _ _ (Oper.mk (some 8) _ _ _ _ _ :: _) _ _); refine wpList_ex rfl (exec_toB rfl rfl (by omega)) ?_; rintro v1 W1 ⟨ho1, hb1⟩; have HO1 := Lib.hid ho1; have HW1 := Lib.hid hb1; clear ho1 hb1)
  go_loopw [5, 6] (fun u i wr => ∃ (k : Nat) (acc : List UInt8), k ≤ q ∧ i = .int .i64 k ∧ Hid (acc = lineN first (ns.take k) ∧ acc.length ≤ 22 * k + 10) ∧ Hid (OwT wr w.heap.size u acc) ∧ Hid (Below w.heap.size w wr)) (fun _ i _ => q - (intOf i).toNat)
  case atStart => exact ⟨0, first, Nat.zero_le _, rfl, ⟨rfl, by omega⟩, HO1.out, HW1.out⟩
  case round =>
    clear HO1 HW1
    obtain ⟨k, acc, hk, rfl, HA, HO, HW⟩ := hrel
    obtain ⟨wo, rfl⟩ : ∃ wo : World, wo = wr := ⟨_, rfl⟩
    obtain ⟨av, ac0, rfl⟩ := HO.out.shape
    by_cases hlt : k < q
    · obtain ⟨n, hs⟩ : ∃ n, ns[k]? = some n := ⟨_, List.getElem?_eq_getElem (by rw [← HQ.out]; exact hlt)⟩
      obtain ⟨bb, off, hba, hbl, hc⟩ := HB.out.row (by rintro rfl; simp at hs)
      have HC : Hid (w.cell? ⟨bb, off + k, none⟩ = some (.int .i64 n)) := by
        have := hc k n hs 0 _ rfl
        show _ = _
        simpa using this
      have HI : Hid (inI n) := hn n (List.mem_of_getElem? hs)
      have HDL := Lib.hid (decZ_len HI.out.1 HI.out.2)
      have HN : Hid (∀ w, Calls Tryz.prog 81 #[.int .i64 n] w fun e w' => e = .returned (strV (decZ n)) ∧ Below w.heap.size w w') := fun w => rnum_any _ n w rfl HI.out.1 HI.out.2
      have HA2 : Hid ((acc ++ [32]) ++ decZ n = lineN first (ns.take (k + 1))) := by show _ = _; rw [lineN_snoc hs, HA.out.1, List.append_assoc]
      have hal : acc.length ≤ 22 * k + 10 := HA.out.2
      have HWA : Hid (∀ o : Obj, Below w.heap.size w (wo.drew.alloc o)) := fun o => HW.out.drew.alloc HW.out.size o
      have HOA : Hid (∀ o : Obj, OwT (wo.drew.alloc o) w.heap.size (.slice av acc.length ac0) acc) := fun o => HO.out.below ((Below.refl _ wo).drew.alloc (Nat.le_refl _) o)
      have HSZ : Hid (w.heap.size ≤ wo.drew.heap.size) := HW.out.size
      subst hba
      clear hc hs HA HI
      go_upto_region 5 with fail
      refine wp_region_held_drew (S := (fun X => X.cell? ⟨bb, off + k, none⟩ = some (.int .i64 n))) (by kernel_rfl) (HW.out.drew.cell hbl |>.trans HC.out) (fun hHeld => ?_)
      (refine takeW (i := 0) (v := ?_) rfl (by kernel_rfl) (by kernel_rfl) (by kernel_rfl) (fun _ _ _ h => h) (by rfl) (by assumption) ?_ ?_; rotate_left; (intro W hW; (try dsimp only at hW); go_simp; try with_reducible rfl); (try simp only [Act.put, List.setIfInBounds_toArray, List.set_cons_zero, List.set_cons_succ]))
      (refine takeW (i := 3) (v := ?_) rfl (by kernel_rfl) (by kernel_rfl) (by kernel_rfl) (fun _ _ _ h => h) (by rfl) (by assumption) ?_ ?_; rotate_left; (intro W hW; (try dsimp only at hW); go_simp; try with_reducible rfl); (try simp only [Act.put, List.setIfInBounds_toArray, List.set_cons_zero, List.set_cons_succ]))
      (refine takeW (i := 4) (v := ?_) rfl (by kernel_rfl) (by kernel_rfl) (by kernel_rfl) (fun _ _ _ h => h) (by rfl) (by assumption) ?_ ?_; rotate_left; (intro W hW; (try dsimp only at hW); go_simp; try with_reducible rfl); (try simp only [Act.put, List.setIfInBounds_toArray, List.set_cons_zero, List.set_cons_succ]))
      (refine takeW (i := 5) (v := ?_) rfl (by kernel_rfl) (by kernel_rfl) (by kernel_rfl) (fun _ _ _ h => h) (by rfl) (by assumption) ?_ ?_; rotate_left; (intro W hW; (try dsimp only at hW); go_simp; try with_reducible rfl); (try simp only [Act.put, List.setIfInBounds_toArray, List.set_cons_zero, List.set_cons_succ]))
      (refine takeW (i := 6) rfl (by kernel_rfl) (by kernel_rfl) (by kernel_rfl) (fun _ _ _ h => h) (by rfl) (by assumption) (fun W hW => exec_load1 (v := .int .i64 n) FL3 rfl rfl hW) ?_; (try simp only [Act.put, List.setIfInBounds_toArray, List.set_cons_zero, List.set_cons_succ]))
      clear hHeld
      refine takeV (i := 1) rfl (by kernel_rfl) (by rfl) (exec_oneS (c := 32) exec_one1 rfl rfl) ((HWA.out _).cell hbl |>.trans HC.out) ?_
      (try simp only [Act.put, List.setIfInBounds_toArray, List.set_cons_zero, List.set_cons_succ])
      refine takeE (i := 2) rfl (by kernel_rfl) (by rfl) (exec_appB (y := [32]) rfl rfl rfl rfl (HOA.out _) (news_one _ _) (by simp; omega) (by have := HSZ.out; simp at this ⊢; omega)) ?_
      rintro v2 W2 ⟨ho2, hg2⟩
      have HO2 := Lib.hid ho2
      have HW2 := Lib.hid ((HWA.out _).grown hg2 (by have := HSZ.out; simp at this ⊢; omega) (fun k hk => ((HOA.out (.cells #[] 5)).lt k hk).1))
      clear ho2 hg2
      refine ⟨HW2.out.cell hbl |>.trans HC.out, ?_⟩
      (try simp only [Act.put, List.setIfInBounds_toArray, List.set_cons_zero, List.set_cons_succ])
      refine takeC (i := 7) rfl (by kernel_rfl) (by rfl) (fun K hK => ?_)
      go_simp
      refine (HN.out W2).mono ?_
      rintro e w3 ⟨rfl, hb3⟩
      have HO3 := Lib.hid (HO2.out.below hb3)
      have HW3 := Lib.hid (HW2.out.trans (hb3.mono HW2.out.size))
      clear hb3
      refine hK.out _ _ (HW3.out.cell hbl |>.trans HC.out) (fun hHeld => ?_)
      clear hK K
      (try simp only [Act.put, List.setIfInBounds_toArray, List.set_cons_zero, List.set_cons_succ])
      refine takeE (i := 8) rfl (by kernel_rfl) (by rfl) (exec_appT (y := decZ n) rfl rfl rfl HO3.out (by have := HDL.out; simp; omega) HW3.out.size) ?_
      rintro v8 W8 ⟨ho8, hg8⟩
      have HO8 := Lib.hid ho8
      have HW8 := Lib.hid (HW3.out.grown hg8 HW3.out.size (fun k hk => (HO3.out.lt k hk).1))
      clear ho8 hg8
      refine ⟨HW8.out.cell hbl |>.trans HC.out, ?_⟩
      (try simp only [Act.put, List.setIfInBounds_toArray, List.set_cons_zero, List.set_cons_succ])
      have hHeld : (fun X => X.cell? ⟨bb, off + k, none⟩ = some (.int .i64 n)) W8 := (HW8.out.cell hbl).trans HC.out
      (refine takeW (i := 9) (v := ?_) rfl (by kernel_rfl) (by kernel_rfl) (by kernel_rfl) (fun _ _ _ h => h) (by rfl) (by assumption) ?_ ?_; rotate_left; (intro W hW; (try dsimp only at hW); go_simp; try with_reducible rfl); (try simp only [Act.put, List.setIfInBounds_toArray, List.set_cons_zero, List.set_cons_succ]))
      refine wpAnyH_done (by kernel_rfl) ?_ _
      clear HO2 HO3 HW2 HW3
      clear hHeld HWA HOA HSZ
      go_wp2
      go_roundw
      case rel => exact ⟨k + 1, (acc ++ [32]) ++ decZ n, by omega, by go_num, ⟨HA2.out, by have := HDL.out; simp; omega⟩, HO8, HW8⟩
      case measure => simp [intOf]; omega
    · obtain rfl : k = q := by omega
      have HF : Hid (acc = lineN first ns) := by
        have := HA.out.1
        rwa [List.take_of_length_le (by rw [← HQ.out]; exact Nat.le_refl _)] at this
      clear HA
      go_wp2_with ((with_reducible show wpList _ _ _ (Oper.mk (some 25) _ _ _ _ _ :: _) _ _); refine wpList_val rfl (exec_ofB rfl rfl HO.out) ?_)
      exact HPO.out _ _ HW.out HF.out
end Go.Proofs.YtkinhhkodaacjaaGreatDoor
