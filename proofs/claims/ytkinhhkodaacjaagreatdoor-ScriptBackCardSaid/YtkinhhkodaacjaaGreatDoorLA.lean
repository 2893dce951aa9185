/- Rows that a call owns: append whatever source, make, copy; one law each, with few things to give. Slices that are read, of whatever elements: what a walk is told of them, and how that is carried from world to world. (Text of no seat: YtkinhhkodaacjaaGreatDoor stands for the seat's name.) Small lemmas of every walk. (Text of no seat: YtkinhhkodaacjaaGreatDoor stands for the seat's name.) Append to a row that a call owns, inside a fence (a round of a range over a function). (Text of no seat: YtkinhhkodaacjaaGreatDoor stands for the seat's name.) Blocks that are known whole; what a call owns, behind stores and calls; a function value against nil. (Text of no seat: YtkinhhkodaacjaaGreatDoor stands for the seat's name.) Structs of many cells, as one list: load, store behind an alloc, a slice of one; outside a fence and inside. (Text of no seat: YtkinhhkodaacjaaGreatDoor stands for the seat's name.) What a round of a range over a function keeps. (Text of no seat: YtkinhhkodaacjaaGreatDoor stands for the seat's name.) Numbers in decimal digits, bytes as words: plain laws. (Text of no seat: YtkinhhkodaacjaaGreatDoor stands for the seat's name.) A region that draws its order, step by step, one way alone: operations that only read are taken first, a guarded one that is not wanted too; a call that only makes memory comes up alone. Operations by their runs: a load and a store of one cell, a slice of one value, an append with its place; and the moves of a region by them. (Text of no seat: YtkinhhkodaacjaaGreatDoor stands for the seat's name.) Parts of a slice as values: x[:k], x[k:], x[a:b], whatever its capacity; an append of any readable source in a drawn region. (Text of no seat: YtkinhhkodaacjaaGreatDoor stands for the seat's name.) A store of a struct into a part of a block. (Text of no seat: YtkinhhkodaacjaaGreatDoor stands for the seat's name.) min and max of two integers, each under one name. (Text of no seat: YtkinhhkodaacjaaGreatDoor stands for the seat's name.) A region that draws its order, in a round of a range over a function: by the moves for a region outside (texts Reg). (Text of no seat: YtkinhhkodaacjaaGreatDoor stands for the seat's name.) Any number of boxes of a walk, as one predicate. (Text of no seat: YtkinhhkodaacjaaGreatDoor stands for the seat's name.) Results that lie in memory: structs of many cells. (Text of no seat: YtkinhhkodaacjaaGreatDoor stands for the seat's name.) Rows of structs that a call owns: a store at a place, the row without its end. (Text of no seat: YtkinhhkodaacjaaGreatDoor stands for the seat's name.) Words as numbers and as bytes, lines, words of a line: plain laws of reading. (Text of no seat: YtkinhhkodaacjaaGreatDoor stands for the seat's name.) -/
import Derived.WalkKit
import Derived.Lib.Hide
import Derived.Laws.CopyOwn
import Derived.Laws.BytesArg
import Derived.OwnWalkIn
import Derived.RangeFuncFrom
import Derived.Laws.Rows
import Derived.RangeFuncNested
import Derived.RangeFuncBound
import Derived.RangeFuncCalls
import Derived.RangeFuncLeaves
import Derived.Shelf.Abstract
import Derived.Shelf.RegionOpen
import Derived.TacticsInMore
import Derived.LoopNIn
import Derived.LoopIn
import Derived.Sort.CutIn
import Derived.Deep.RegionHeld3
import Derived.Maps.AppendAt
import Derived.Laws.CopyRow
import Derived.Laws.Tables
import Derived.OrdersIn
import Derived.ControlIn
namespace Go.Proofs.YtkinhhkodaacjaaGreatDoor
open Go.RowKit

/-- An element type's row of the table: t: the slice type, e: the element type. -/
structure Elem (P : Program) (t e : TypeId) (z : Value) (size bytes : Nat) : Prop where
  under : P.underlying t = some (.slice e)
  info : (P.info? e).map (fun i => (i.zero, i.size, i.bytes)) = some (some z, size, bytes)
  zs : z.cells.size = size
  pos : 0 < size
  byt : 0 < bytes

/-- A slice value whose elements' cells are news: nil, empty or not. -/
def Src (w : World) (x : Value) (m : Nat) (news : List Value) (size : Nat) : Prop :=
  ∃ a c, x = .slice a m c ∧ news.length = m * size ∧ (∀ u ∈ news, u.oneCell' = true) ∧
    ((m = 0 ∧ (a = none → c = 0)) ∨ ∃ ad, a = some ad ∧ ∀ j u, news[j]? = some u → w.cell? (ad.add j) = some u)

theorem Src.one {w : World} {v : Value} {b : Nat} (hv : v.oneCell' = true) (hc : w.cell? ⟨b, 0, none⟩ = some v) : Src w (.slice (some ⟨b, 0, none⟩) 1 1) 1 [v] 1 :=
  ⟨_, _, rfl, rfl, by simpa using hv, .inr ⟨_, rfl, fun j u hu => by
    cases j with
    | zero => simp at hu; subst hu; simpa [Addr.add] using hc
    | succ j => simp at hu⟩⟩

/-- The one element that 'append(xs, x)' lays first. -/
theorem Src.new {w : World} {v : Value} {t : TypeId} (hv : v.oneCell' = true) : Src (w.alloc (.cells #[v] t)) (.slice (some ⟨w.heap.size, 0, none⟩) 1 1) 1 [v] 1 :=
  Src.one hv (by rw [World.cell?_alloc_at _ _ _ _ rfl]; rfl)

/-- The cells of a row that lies at some place, as a list. -/
def RowAt (w : World) (b off : Nat) (xs : List Value) : Prop := ∀ j u, xs[j]? = some u → w.cell? ⟨b, off + j, none⟩ = some u

theorem Src.row {w : World} {b off c m size : Nat} {xs : List Value} (hl : xs.length = m * size) (h1 : ∀ u ∈ xs, u.oneCell' = true) (h : RowAt w b off xs) : Src w (.slice (some ⟨b, off, none⟩) m c) m xs size :=
  ⟨_, _, rfl, hl, h1, .inr ⟨_, rfl, fun j u hu => by rw [Addr.add_lit]; exact h j u hu⟩⟩

theorem run_app {P : Program} {w : World} {base : Nat} {t ty e : TypeId} {z : Value} {size bytes : Nat} (E : Elem P t e z size bytes) {v : Value} {n : Nat} {xs : List Value}
    (hown : w.ownsRow base e size v n xs) {x : Value} {m : Nat} {news : List Value} (hsrc : Src w x m news size) (hby : (n + m) * bytes ≤ 140737488355328) (hbase : base ≤ w.heap.size) :
    ∃ v' w', (Builtin.append_ #[t, t] ty #[v, x]).run P w = .ok v' w' ∧ w'.ownsRow base e size v' (n + m) (xs ++ news) ∧ w.grownBy w' v.ownBlock ∧ (v' = .slice none 0 0 ↔ v = .slice none 0 0 ∧ m = 0) := by
  obtain ⟨i, hi, hz, hs, hb⟩ := info_parts E.info
  obtain ⟨a, c, rfl, hl, h1, h⟩ := hsrc
  have hmax : n + m ≤ maxLen := by
    have : n + m ≤ (n + m) * bytes := Nat.le_mul_of_pos_right _ E.byt
    unfold maxLen; omega
  have go : ∀ ad, a = some ad → (∀ j u, news[j]? = some u → w.cell? (ad.add j) = some u) →
      ∃ v' w', (Builtin.append_ #[t, t] ty #[v, .slice a m c]).run P w = .ok v' w' ∧ w'.ownsRow base e size v' (n + m) (xs ++ news) ∧ w.grownBy w' v.ownBlock ∧ (v' = .slice none 0 0 ↔ v = .slice none 0 0 ∧ m = 0) := fun ad ha hc => by
    subst ha
    exact run_append_own (P := P) w base t ty e i z size bytes E.under hi hz hs hb E.zs E.pos v n xs hown ad m c news hl hc h1 hmax hby hbase
  rcases h with ⟨rfl, hc⟩ | ⟨ad, ha, hc⟩
  · have hn : news = [] := List.eq_nil_of_length_eq_zero (by simpa using hl)
    subst hn
    cases a with
    | some ad => exact go ad rfl (fun j u hu => by simp at hu)
    | none =>
      obtain rfl := hc rfl
      exact ⟨v, w, run_append_owned_none (P := P) w base t ty e i size E.under hi v n xs hown, by simpa using hown, World.grownBy.refl _ _, by simp⟩
  · exact go ad ha hc

theorem wpList_app {P : Program} {w : World} {ops : Array Oper} {rest : List Oper} {o : Oper} {a : Act} {Q : Exit → Act → World → Prop} {base : Nat} {t e : TypeId} {z : Value} {size bytes : Nat} (E : Elem P t e z size bytes)
    (hgd : o.guard = none) (s x : Operand) (ho : o.op = .call { callee := .builtin .append, args := #[s, x], argTypes := #[t, t] })
    {v : Value} {n : Nat} {xs : List Value} (hown : w.ownsRow base e size v n xs) {sv : Value} {m : Nat} {news : List Value} (hsrc : Src w sv m news size) (hs : a.eval s = v) (hx : a.eval x = sv) (hby : (n + m) * bytes ≤ 140737488355328) (hbase : base ≤ w.heap.size)
    (h : ∀ v' w', w'.ownsRow base e size v' (n + m) (xs ++ news) → w.grownBy w' v.ownBlock → (v' = .slice none 0 0 ↔ v = .slice none 0 0 ∧ m = 0) → wpList P ops Q rest (a.put o.dst v') w') : wpList P ops Q (o :: rest) a w := by
  refine wpList_plain hgd fun _ hK => ?_
  obtain ⟨v', w', hr, h2, h3, h4⟩ := run_app (ty := o.type) E hown hsrc hby hbase
  unfold Oper.wp execOp
  simp only [ho, resolve, invoke, builtin, Sem.run_bind, Sem.run_pure, Result.andThen_ok, List.map_toArray, List.map_cons, List.map_nil, hs, hx, hr]
  exact hK _ _ (h v' w' h2 h3 h4)

/-- 'append(xs, x)': x of size cells cs, which the walk has laid in a new block. -/
theorem wpList_app1 {P : Program} {w : World} {ops : Array Oper} {rest : List Oper} {o : Oper} {a : Act} {Q : Exit → Act → World → Prop} {base : Nat} {t e te : TypeId} {z : Value} {size bytes : Nat} (E : Elem P t e z size bytes)
    (hgd : o.guard = none) (s x : Operand) (ho : o.op = .call { callee := .builtin .append, args := #[s, x], argTypes := #[t, t] })
    {v : Value} {n : Nat} {xs : List Value} (hown : w.ownsRow base e size v n xs) (cs : List Value) (hcs : cs.length = size) (h1 : ∀ u ∈ cs, u.oneCell' = true)
    (hs : a.eval s = v) (hx : a.eval x = .slice (some ⟨w.heap.size, 0, none⟩) 1 1) (hby : (n + 1) * bytes ≤ 140737488355328) (hbase : base ≤ w.heap.size)
    (h : ∀ v' w', w'.ownsRow base e size v' (n + 1) (xs ++ cs) → w.grownBy w' v.ownBlock → wpList P ops Q rest (a.put o.dst v') w') : wpList P ops Q (o :: rest) a (w.alloc (.cells cs.toArray te)) := by
  have hsrc : Src (w.alloc (.cells cs.toArray te)) (.slice (some ⟨w.heap.size, 0, none⟩) 1 1) 1 cs size :=
    ⟨_, _, rfl, by omega, h1, .inr ⟨_, rfl, fun j u hu => by
      rw [Addr.add_lit, World.cell?_alloc_at _ _ _ _ rfl]
      simpa using hu⟩⟩
  refine wpList_app E hgd s x ho (hown.alloc _) hsrc hs hx hby (by simp; omega) fun v' w' ho' hg _ => h v' w' ho' ?_
  exact ⟨hg.os, hg.tape, hg.output, by have := hg.size; simp at this; omega, fun k hk hne => (hg.block k (by simp; omega) hne).trans (Below.heap_alloc _ _ _ hk)⟩

/-- 'copy(own, src)' of as many one-cell elements as both have. -/
theorem wpList_copy_full {P : Program} {w : World} {ops : Array Oper} {rest : List Oper} {o : Oper} {a : Act} {Q : Exit → Act → World → Prop} {base : Nat} {t e : TypeId} {z : Value} {bytes : Nat} (E : Elem P t e z 1 bytes)
    (hgd : o.guard = none) (d s : Operand) (ho : o.op = .call { callee := .builtin .copy, args := #[d, s], argTypes := #[t, t] })
    {v : Value} {n : Nat} {xs : List Value} (hown : w.ownsRow base e 1 v n xs) {sv : Value} {news : List Value} (hsrc : Src w sv n news 1) (hd : a.eval d = v) (hs : a.eval s = sv)
    (h : ∀ w', w'.ownsRow base e 1 v n news → w.grownBy w' v.ownBlock → wpList P ops Q rest (a.put o.dst (goInt n)) w') : wpList P ops Q (o :: rest) a w := by
  have hsz : (P.info? e).map (·.size) = some 1 := by
    obtain ⟨i, hi, _, hz, _⟩ := info_parts E.info
    rw [hi]; simp [hz]
  obtain ⟨sa, sc, rfl, hl, h1, hc⟩ := hsrc
  simp only [Nat.mul_one] at hl
  have key : n = 0 → wpList P ops Q (o :: rest) a w := by
    rintro rfl
    have hx : xs = [] := List.eq_nil_of_length_eq_zero (by simpa using hown.1)
    have hn : news = [] := List.eq_nil_of_length_eq_zero hl
    subst hx hn
    rcases hown.2 with ⟨rfl, _⟩ | ⟨g, cap, cur, rfl, _⟩
    · exact wpList_copy_nothing hgd d s t t ho e E.under hsz none sa 0 0 0 sc hd hs rfl (h w hown (World.grownBy.refl _ _))
    · exact wpList_copy_nothing hgd d s t t ho e E.under hsz _ sa 0 cap 0 sc hd hs rfl (h w hown (World.grownBy.refl _ _))
  rcases hown.2 with ⟨rfl, h0⟩ | ⟨g, cap, cur, rfl, hg, hh, hnc, hcm, hcs, ht⟩
  · exact key h0
  · rcases hc with ⟨h0, _⟩ | ⟨ad, rfl, hc⟩
    · exact key h0
    · refine wpList_copy_own hgd d s t t ho e E.under hsz g 0 n cap ad n sc hd hs cur e hh news (by rw [hl]; exact (Nat.min_self n).symm) hc (by omega) h1 ?_
      rw [hl]
      refine h _ ⟨by simpa using hl, .inr ⟨g, cap, _, rfl, hg, setRow_heap w g cur _ e _ hh, hnc, hcm, ?_, ?_⟩⟩ ⟨rfl, rfl, rfl, by simp [World.setRow], fun k _ hk => setRow_other w g k _ (fun e => hk (by simp [Value.ownBlock, e]))⟩
      · simp; omega
      · simp [hl]

/-- What is owned from base on, behind an append to another row or a new block. -/
theorem below_app {B base : Nat} {W w w' : World} {e : TypeId} {size : Nat} {v : Value} {n : Nat} {xs : List Value} (hb : Below B W w) (hB : B ≤ base) (hown : w.ownsRow base e size v n xs) (hg : w.grownBy w' v.ownBlock) (hsz : B ≤ w.heap.size) : Below B W w' :=
  hb.grown hg hsz (fun k hk => Nat.le_trans hB (hown.lt k hk).1)

end Go.Proofs.YtkinhhkodaacjaaGreatDoor
namespace Go.Proofs.YtkinhhkodaacjaaGreatDoor
open Go.RowKit

section
variable {α : Type} {enc : α → List Value} {size : Nat}

/-- The cells of l lie from off on in block b. -/
def CellsAt (enc : α → List Value) (size : Nat) (w : World) (b off : Nat) (l : List α) : Prop :=
  ∀ j x, l[j]? = some x → ∀ i u, (enc x)[i]? = some u → w.cell? ⟨b, off + j * size + i, none⟩ = some u

/-- A slice value that reads as l: nil or some row, below the heap's end. -/
def Rd (enc : α → List Value) (size : Nat) (w : World) (v : Value) (l : List α) : Prop :=
  ∃ a cap, v = .slice a l.length cap ∧ l.length ≤ cap ∧ cap ≤ 9223372036854775807 ∧ l.length ≤ 140737488351232 ∧ (a = none → cap = 0) ∧
    (l = [] ∨ ∃ b off, a = some ⟨b, off, none⟩ ∧ b < w.heap.size ∧ CellsAt enc size w b off l)

theorem Rd.below {w w' : World} {v : Value} {l : List α} (h : Rd enc size w v l) (hb : Below w.heap.size w w') : Rd enc size w' v l := by
  obtain ⟨a, cap, rfl, h1, h2, h3, h5, h4⟩ := h
  refine ⟨a, cap, rfl, h1, h2, h3, h5, ?_⟩
  rcases h4 with h4 | ⟨b, off, rfl, hlt, hc⟩
  · exact .inl h4
  · refine .inr ⟨b, off, rfl, Nat.lt_of_lt_of_le hlt hb.size, fun j x hj i u hu => ?_⟩
    rw [hb.cell hlt]
    exact hc j x hj i u hu
theorem Rd.shape {w : World} {v : Value} {l : List α} (h : Rd enc size w v l) : ∃ a cap, v = .slice a l.length cap ∧ l.length ≤ cap ∧ cap ≤ 9223372036854775807 ∧ l.length ≤ 140737488351232 := by
  obtain ⟨a, cap, rfl, h1, h2, h3, _⟩ := h
  exact ⟨a, cap, rfl, h1, h2, h3⟩
theorem Rd.len {w : World} {v : Value} {l : List α} (h : Rd enc size w v l) : l.length ≤ 140737488351232 := by
  obtain ⟨a, cap, rfl, h1, h2, h3, _⟩ := h
  exact h3
theorem Rd.row {w : World} {a : Option Addr} {n cap : Nat} {l : List α} (h : Rd enc size w (.slice a n cap) l) (hl : l ≠ []) :
    ∃ b off, a = some ⟨b, off, none⟩ ∧ b < w.heap.size ∧ CellsAt enc size w b off l := by
  obtain ⟨a', cap', e, h1, h2, h3, h5, h4⟩ := h
  simp only [Value.slice.injEq] at e
  obtain ⟨rfl, rfl, rfl⟩ := e
  exact h4.resolve_left hl
theorem Rd.nil (w : World) : Rd enc size w (.slice none 0 0) ([] : List α) := ⟨none, 0, rfl, by simp, by simp, by simp, by simp, .inl rfl⟩
/-- nil where there is no address. -/
theorem Rd.none_ {w : World} {n cap : Nat} {l : List α} (h : Rd enc size w (.slice none n cap) l) : l = [] ∧ n = 0 ∧ cap = 0 := by
  obtain ⟨a', cap', e, h1, h2, h3, h5, h4⟩ := h
  simp only [Value.slice.injEq] at e
  obtain ⟨rfl, rfl, rfl⟩ := e
  have h0 := h5 rfl
  have hl : l = [] := List.eq_nil_of_length_eq_zero (by omega)
  exact ⟨hl, by rw [hl]; rfl, h0⟩

theorem CellsAt.drop {w : World} {b off : Nat} {l : List α} (h : CellsAt enc size w b off l) (k : Nat) : CellsAt enc size w b (off + k * size) (l.drop k) := fun j x hj i u hu => by
  rw [List.getElem?_drop] at hj
  have := h (k + j) x hj i u hu
  rwa [Nat.add_mul, ← Nat.add_assoc] at this
theorem CellsAt.take {w : World} {b off : Nat} {l : List α} (h : CellsAt enc size w b off l) (k : Nat) : CellsAt enc size w b off (l.take k) := fun j x hj i u hu => by
  rw [List.getElem?_take] at hj
  split at hj
  · exact h j x hj i u hu
  · cases hj
theorem CellsAt.below {w w' : World} {b off : Nat} {l : List α} (h : CellsAt enc size w b off l) {B : Nat} (hb : Below B w w') (hlt : b < B) : CellsAt enc size w' b off l := fun j x hj i u hu => by
  rw [hb.cell hlt]; exact h j x hj i u hu

theorem Rd.take {w : World} {a : Option Addr} {n cap : Nat} {l : List α} (h : Rd enc size w (.slice a n cap) l) (k : Nat) (hk : k ≤ l.length) : Rd enc size w (.slice a k cap) (l.take k) := by
  obtain ⟨a', cap', e, h1, h2, h3, h5, h4⟩ := h
  simp only [Value.slice.injEq] at e
  obtain ⟨rfl, rfl, rfl⟩ := e
  have hl : (l.take k).length = k := by simp; omega
  refine ⟨a, cap, by rw [hl], by omega, h2, by omega, h5, ?_⟩
  rcases h4 with rfl | ⟨b, off, rfl, hlt, hc⟩
  · left; simp
  · exact .inr ⟨b, off, rfl, hlt, hc.take k⟩
theorem Rd.drop {w : World} {b off n cap : Nat} {l : List α} (h : Rd enc size w (.slice (some ⟨b, off, none⟩) n cap) l) (k : Nat) (hk : k ≤ l.length) : Rd enc size w (.slice (some ⟨b, off + k * size, none⟩) (n - k) (cap - k)) (l.drop k) := by
  obtain ⟨a', cap', e, h1, h2, h3, h5, h4⟩ := h
  simp only [Value.slice.injEq] at e
  obtain ⟨rfl, rfl, rfl⟩ := e
  refine ⟨_, _, by rw [List.length_drop], by simp; omega, by omega, by simp; omega, by simp, ?_⟩
  rcases h4 with rfl | ⟨b', off', e, hlt, hc⟩
  · left; simp
  · simp only [Option.some.injEq, Addr.mk.injEq, and_true] at e
    obtain ⟨rfl, rfl⟩ := e
    exact .inr ⟨b, off + k * size, rfl, hlt, hc.drop k⟩

theorem flat_len (hs : ∀ x, (enc x).length = size) (l : List α) : (l.flatMap enc).length = l.length * size := by
  induction l with
  | nil => simp
  | cons x l ih => simp [List.flatMap_cons, hs, ih, Nat.add_mul, Nat.add_comm]
theorem flat_get (hs : ∀ x, (enc x).length = size) : ∀ (l : List α) (j : Nat) (x : α), l[j]? = some x → ∀ i u, (enc x)[i]? = some u → (l.flatMap enc)[j * size + i]? = some u
  | [], _, _, hj, _, _, _ => by simp at hj
  | y :: l, 0, x, hj, i, u, hu => by
    simp at hj
    subst hj
    have hi := (List.getElem?_eq_some_iff.1 hu).1
    rw [List.flatMap_cons, Nat.zero_mul, Nat.zero_add, List.getElem?_append_left hi, hu]
  | y :: l, j + 1, x, hj, i, u, hu => by
    have h := flat_get hs l j x (by simpa using hj) i u hu
    rw [List.flatMap_cons, List.getElem?_append_right (by rw [hs, Nat.add_mul]; omega), hs, show (j + 1) * size + i - size = j * size + i by rw [Nat.add_mul]; omega, h]
theorem flat_one (h1 : ∀ x, ∀ u ∈ enc x, u.oneCell' = true) (l : List α) : ∀ u ∈ l.flatMap enc, u.oneCell' = true := fun u hu => by
  obtain ⟨x, _, hx⟩ := List.mem_flatMap.1 hu
  exact h1 x u hx
/-- What lies in a row that is flat lies element by element. -/
theorem CellsAt.of_flat (hs : ∀ x, (enc x).length = size) {w : World} {b off : Nat} {l : List α} (h : RowAt w b off (l.flatMap enc)) : CellsAt enc size w b off l := fun j x hj i u hu => by
  rw [Nat.add_assoc]
  exact h _ u (flat_get hs l j x hj i u hu)

/-- What the call owns reads as it lies. -/
theorem Rd.of_owns (hs : ∀ x, (enc x).length = size) {w : World} {base : Nat} {e : TypeId} {v : Value} {l : List α} (h : w.ownsRow base e size v l.length (l.flatMap enc)) (hl : l.length ≤ 140737488351232) : Rd enc size w v l := by
  rcases h.2 with ⟨rfl, h0⟩ | ⟨g, cap, cur, rfl, hg, hh, h1, h2, h3, h4⟩
  · have : l = [] := List.eq_nil_of_length_eq_zero h0
    subst this
    exact Rd.nil w
  · refine ⟨_, _, rfl, h1, by simpa [maxLen] using h2, hl, by simp, .inr ⟨g, 0, rfl, (Array.getElem?_eq_some_iff.1 hh).1, CellsAt.of_flat hs fun j u hu => ?_⟩⟩
    have hj := (List.getElem?_eq_some_iff.1 hu).1
    rw [flat_len hs] at hj
    rw [Nat.zero_add, h.cellAt j hj, hu]

/-- A row that reads as the source of an append. -/
theorem Rd.src (hs : ∀ x, (enc x).length = size) (h1 : ∀ x, ∀ u ∈ enc x, u.oneCell' = true) (hp : 0 < size) {w : World} {v : Value} {l : List α} (h : Rd enc size w v l) : Src w v l.length (l.flatMap enc) size := by
  obtain ⟨a, cap, rfl, _, _, _, h5, h4⟩ := h
  refine ⟨a, cap, rfl, flat_len hs l, flat_one h1 l, ?_⟩
  rcases h4 with rfl | ⟨b, off, rfl, hlt, hc⟩
  · exact .inl ⟨rfl, h5⟩
  · refine .inr ⟨_, rfl, fun j u hu => ?_⟩
    have hj := (List.getElem?_eq_some_iff.1 hu).1
    rw [flat_len hs] at hj
    have hq : j / size < l.length := Nat.div_lt_of_lt_mul (by rwa [Nat.mul_comm])
    have hr : j % size < (enc l[j / size]).length := by rw [hs]; exact Nat.mod_lt _ hp
    have he : j / size * size + j % size = j := by rw [Nat.mul_comm]; exact Nat.div_add_mod j size
    have g := flat_get hs l (j / size) _ (List.getElem?_eq_getElem hq) (j % size) _ (List.getElem?_eq_getElem hr)
    rw [he, hu] at g
    have c := hc (j / size) _ (List.getElem?_eq_getElem hq) (j % size) _ (List.getElem?_eq_getElem hr)
    rw [Nat.add_assoc, he, ← Option.some.inj g] at c
    rw [Addr.add_lit]
    exact c

/-- What the walk has laid in a new block. -/
theorem Rd.new (hs : ∀ x, (enc x).length = size) {w : World} {t : TypeId} (l : List α) (hl : l.length ≤ 140737488351232) :
    Rd enc size (w.alloc (.cells (l.flatMap enc).toArray t)) (.slice (some ⟨w.heap.size, 0, none⟩) l.length l.length) l :=
  ⟨_, _, rfl, Nat.le_refl _, by omega, hl, by simp, .inr ⟨w.heap.size, 0, rfl, by simp, CellsAt.of_flat hs fun j u hu => by
    rw [World.cell?_alloc_at _ _ _ _ rfl, Nat.zero_add]
    simpa using hu⟩⟩
end

/-- Elements of one cell each. -/
theorem CellsAt.one {α : Type} {f : α → Value} {w : World} {b off : Nat} {l : List α} (h : CellsAt (fun x => [f x]) 1 w b off l) {j : Nat} {x : α} (hj : l[j]? = some x) : w.cell? ⟨b, off + j, none⟩ = some (f x) := by
  have := h j x hj 0 (f x) rfl
  simpa using this

/-- Integers of one kind. -/
def encI (k : IntKind) (x : Int) : List Value := [.int k x]
theorem encI_len (k : IntKind) (x : Int) : (encI k x).length = 1 := rfl
theorem encI_one (k : IntKind) (x : Int) : ∀ u ∈ encI k x, u.oneCell' = true := by simp [encI, Value.oneCell']
theorem encI_flat (k : IntKind) (l : List Int) : l.flatMap (encI k) = l.map (.int k) := by
  induction l with
  | nil => rfl
  | cons x l ih => simp [List.flatMap_cons, encI, ih]
theorem CellsAt.int {k : IntKind} {w : World} {b off : Nat} {l : List Int} (h : CellsAt (encI k) 1 w b off l) {j : Nat} (hj : j < l.length) : w.cell? ⟨b, off + j, none⟩ = some (.int k (l.getD j 0)) := by
  have := h j _ (List.getElem?_eq_getElem hj) 0 _ rfl
  simpa [List.getD_eq_getElem?_getD, hj] using this

/-- A slice of bytes. -/
def Byts (w : World) (v : Value) (l : List Int) : Prop := Rd (encI .u8) 1 w v l ∧ ∀ x ∈ l, 0 ≤ x ∧ x ≤ 255
theorem Byts.below {w w' : World} {v : Value} {l : List Int} (h : Byts w v l) (hb : Below w.heap.size w w') : Byts w' v l := ⟨h.1.below hb, h.2⟩
/-- A slice of 64-bit integers. -/
def Nums (w : World) (v : Value) (l : List Int) : Prop := Rd (encI .i64) 1 w v l ∧ ∀ x ∈ l, -9223372036854775808 ≤ x ∧ x ≤ 9223372036854775807
theorem Nums.below {w w' : World} {v : Value} {l : List Int} (h : Nums w v l) (hb : Below w.heap.size w w') : Nums w' v l := ⟨h.1.below hb, h.2⟩

theorem getD_in {l : List Int} {k : Nat} (h : k < l.length) : l.getD k 0 ∈ l := by simp [List.getD_eq_getElem?_getD, h]
theorem take_snoc {α : Type} {l : List α} {k : Nat} {x : α} (h : l[k]? = some x) : l.take (k + 1) = l.take k ++ [x] := by
  obtain ⟨hk, rfl⟩ := List.getElem?_eq_some_iff.1 h
  rw [List.take_succ_eq_append_getElem hk]
theorem take_getD0 (l : List Int) (k : Nat) (h : k < l.length) : l.take (k + 1) = l.take k ++ [l.getD k 0] := by
  rw [List.take_succ_eq_append_getElem h]
  simp [List.getD_eq_getElem?_getD, h]

/-- string(b) of bytes. -/
theorem run_string_of {P : Program} {w : World} {src e dst : TypeId} (hs : P.underlying src = some (.slice e)) (he : P.underlying e = some (.int .u8)) (hd : P.underlying dst = some .string) {v : Value} {l : List Int} (h : Byts w v l) :
    (convert src dst v).run P w = .ok (.string (strOfNums l)) w := by
  obtain ⟨a, cap, rfl, h1, h2, h3, h5, h4⟩ := h.1
  cases a with
  | none =>
    have hl := (h.1.none_).1
    subst hl
    exact run_convert_bytes_nil w src e hs he _ _ dst hd
  | some ad =>
    rcases h4 with rfl | ⟨b, off, e', hlt, hc⟩
    · obtain ⟨b, off, spot⟩ := ad
      rw [run_convert_bytes_string w src dst e _ _ cap hs he hd, run_bytesToString w _ _ cap [] (by simp [loadCells]; rfl)]
      rfl
    · simp only [Option.some.injEq] at e'
      subst e'
      exact run_convert_bytes_arg w src e hs he b off l.length cap l rfl (fun i hi => hc.int hi) dst hd

theorem strOfNums_inj {l m : List Int} (hl : ∀ x ∈ l, 0 ≤ x ∧ x ≤ 255) (hm : ∀ x ∈ m, 0 ≤ x ∧ x ≤ 255) (h : strOfNums l = strOfNums m) : l = m := by
  have h' : l.map (fun n => UInt8.ofNat n.toNat) = m.map (fun n => UInt8.ofNat n.toNat) := by
    rw [← strOfNums_data, ← strOfNums_data, h]
  clear h
  induction l generalizing m with
  | nil => cases m with
    | nil => rfl
    | cons y m => simp at h'
  | cons x l ih => cases m with
    | nil => simp at h'
    | cons y m =>
      simp only [List.map_cons, List.cons.injEq] at h'
      have hx := hl x (by simp)
      have hy := hm y (by simp)
      have e : (UInt8.ofNat x.toNat).toNat = (UInt8.ofNat y.toNat).toNat := by rw [h'.1]
      simp [UInt8.toNat_ofNat'] at e
      have : x = y := by omega
      rw [this, ih (fun z hz => hl z (by simp [hz])) (fun z hz => hm z (by simp [hz])) h'.2]

end Go.Proofs.YtkinhhkodaacjaaGreatDoor
namespace Go.Proofs.YtkinhhkodaacjaaGreatDoor
open Go.RowKit

/-- One call behind the other. -/
theorem bt {w w1 w2 : World} (h : Below w.heap.size w w1) (h' : Below w1.heap.size w1 w2) : Below w.heap.size w w2 := h.trans (h'.mono h.size)
theorem below1 (w : World) (o : Obj) : Below w.heap.size w (w.alloc o) := (Below.refl _ _).alloc (Nat.le_refl _) o
theorem below2 (w : World) (o o' : Obj) : Below w.heap.size w ((w.alloc o).alloc o') := (below1 w o).alloc (by simp) o'
theorem below3 (w : World) (o o' o'' : Obj) : Below w.heap.size w (((w.alloc o).alloc o').alloc o'') := (below2 w o o').alloc (by simp; omega) o''
theorem bcell {W w1 : World} (hb : Below W.heap.size W w1) : ∀ b o, b < W.heap.size → w1.cell? ⟨b, o, none⟩ = W.cell? ⟨b, o, none⟩ :=
  fun b o h => hb.cell (p := ⟨b, o, none⟩) h
theorem ret_bool {a b : Bool} (h : a = b) : Ending.returned (.bool a) = .returned (.bool b) := by rw [h]
theorem ret_int {k : IntKind} {a b : Int} (h : a = b) : Ending.returned (.int k a) = .returned (.int k b) := by rw [h]
/-- A cell that is there stays behind a call that only makes memory. -/
theorem keepCell {W W' : World} (hb : Below W.heap.size W W') {p : Addr} {v : Value} (h : W.cell? p = some v) : W'.cell? p = some v := by
  rw [hb.cell (World.block_lt_of_cell? W p h), h]
theorem drewB {B : Nat} {w w' : World} (h : Below B w w') : Below B w w'.drew := h.drew
end Go.Proofs.YtkinhhkodaacjaaGreatDoor
namespace Go.Proofs.YtkinhhkodaacjaaGreatDoor
open Go.RowKit

theorem wpListIn_app {F : Fence} {nF : Nat} {P : Program} {w : World} {ops : Array Oper} {rest : List Oper} {o : Oper} {a : Act} {Q : Exit → Act → World → Prop} {base : Nat} {t e : TypeId} {z : Value} {size bytes : Nat} (E : Elem P t e z size bytes)
    (hgd : o.guard = none) (s x : Operand) (ho : o.op = .call { callee := .builtin .append, args := #[s, x], argTypes := #[t, t] })
    {v : Value} {n : Nat} {xs : List Value} (hown : w.ownsRow base e size v n xs) {sv : Value} {m : Nat} {news : List Value} (hsrc : Src w sv m news size) (hs : a.eval s = v) (hx : a.eval x = sv) (hby : (n + m) * bytes ≤ 140737488355328) (hbase : base ≤ w.heap.size)
    (h : ∀ v' w', w'.ownsRow base e size v' (n + m) (xs ++ news) → w.grownBy w' v.ownBlock → (v' = .slice none 0 0 ↔ v = .slice none 0 0 ∧ m = 0) → wpListIn F nF P ops Q rest (a.put o.dst v') w') : wpListIn F nF P ops Q (o :: rest) a w := by
  refine wpListIn_plain hgd fun _ hK => ?_
  obtain ⟨v', w', hr, h2, h3, h4⟩ := run_app (ty := o.type) E hown hsrc hby hbase
  unfold Oper.wpIn
  refine ⟨?_, ?_⟩
  · simp [Oper.about, ho, resolve, Target.leads, Sem.run_pure]
  · rw [Oper.semAt_plain F _ _ (by rw [ho]; intro c hc'; cases hc')]
    simp [execOp, ho, resolve, invoke, builtin, hs, hx, hr, Result.andThen]
    exact hK _ _ (h v' w' h2 h3 h4)

/-- 'append(xs, x)': x of size cells cs, which the walk has laid in a new block. -/
theorem wpListIn_app1 {F : Fence} {nF : Nat} {P : Program} {w : World} {ops : Array Oper} {rest : List Oper} {o : Oper} {a : Act} {Q : Exit → Act → World → Prop} {base : Nat} {t e te : TypeId} {z : Value} {size bytes : Nat} (E : Elem P t e z size bytes)
    (hgd : o.guard = none) (s x : Operand) (ho : o.op = .call { callee := .builtin .append, args := #[s, x], argTypes := #[t, t] })
    {v : Value} {n : Nat} {xs : List Value} (hown : w.ownsRow base e size v n xs) (cs : List Value) (hcs : cs.length = size) (h1 : ∀ u ∈ cs, u.oneCell' = true)
    (hs : a.eval s = v) (hx : a.eval x = .slice (some ⟨w.heap.size, 0, none⟩) 1 1) (hby : (n + 1) * bytes ≤ 140737488355328) (hbase : base ≤ w.heap.size)
    (h : ∀ v' w', w'.ownsRow base e size v' (n + 1) (xs ++ cs) → w.grownBy w' v.ownBlock → wpListIn F nF P ops Q rest (a.put o.dst v') w') : wpListIn F nF P ops Q (o :: rest) a (w.alloc (.cells cs.toArray te)) := by
  have hsrc : Src (w.alloc (.cells cs.toArray te)) (.slice (some ⟨w.heap.size, 0, none⟩) 1 1) 1 cs size :=
    ⟨_, _, rfl, by omega, h1, .inr ⟨_, rfl, fun j u hu => by
      rw [Addr.add_lit, World.cell?_alloc_at _ _ _ _ rfl]
      simpa using hu⟩⟩
  refine wpListIn_app E hgd s x ho (hown.alloc _) hsrc hs hx hby (by simp; omega) fun v' w' ho' hg _ => h v' w' ho' ?_
  exact ⟨hg.os, hg.tape, hg.output, by have := hg.size; simp at this; omega, fun k hk hne => (hg.block k (by simp; omega) hne).trans (Below.heap_alloc _ _ _ hk)⟩

theorem ownsRow_mono {w : World} {base base' : Nat} {e : TypeId} {size : Nat} {v : Value} {n : Nat} {xs : List Value} (h : w.ownsRow base e size v n xs) (hb : base' ≤ base) : w.ownsRow base' e size v n xs := by
  refine ⟨h.1, ?_⟩
  rcases h.2 with h2 | ⟨g, cap, cur, rfl, hg, h3⟩
  · exact .inl h2
  · exact .inr ⟨g, cap, cur, rfl, Nat.le_trans hb hg, h3⟩
theorem ownsRow_ne {w : World} {base : Nat} {e : TypeId} {size : Nat} {v : Value} {n : Nat} {xs : List Value} (h : w.ownsRow base e size v n xs) {j : Nat} (hj : j < base) : v.ownBlock ≠ some j := by
  rcases h.2 with ⟨rfl, _⟩ | ⟨g, cap, cur, rfl, hg, _⟩
  · simp [Value.ownBlock]
  · simp [Value.ownBlock]; omega
end Go.Proofs.YtkinhhkodaacjaaGreatDoor
namespace Go.Proofs.YtkinhhkodaacjaaGreatDoor
open Go.RowKit

def I64 (x : Int) : Prop := -9223372036854775808 ≤ x ∧ x ≤ 9223372036854775807
theorem I64.lo {x : Int} (h : I64 x) : -9223372036854775808 ≤ x := h.1
theorem I64.hi {x : Int} (h : I64 x) : x ≤ 9223372036854775807 := h.2

/-- A block that is known whole. -/
def Blk (w : World) (b : Nat) (t : TypeId) (cs : Array Value) : Prop := w.heap[b]? = some (.cells cs t (0, 0))
section
variable {w w' : World} {b : Nat} {t : TypeId} {cs : Array Value}
theorem Blk.lt (h : Blk w b t cs) : b < w.heap.size := (Array.getElem?_eq_some_iff.1 h).1
theorem Blk.cell (h : Blk w b t cs) (i : Nat) : w.cell? ⟨b, i, none⟩ = cs[i]? := cell_of_row w b i cs t (0, 0) h
theorem Blk.frozen (h : Blk w b t cs) (i : Nat) : w.frozen? ⟨b, i, none⟩ = false := by
  unfold Blk at h
  simp [World.frozen?, h]
theorem Blk.kept {row : Option Nat} (h : Blk w b t cs) (hg : w.grownBy w' row) (hne : some b ≠ row) : Blk w' b t cs := (hg.block b h.lt hne).trans h
theorem Blk.keep (h : Blk w b t cs) (hb : Below w.heap.size w w') : Blk w' b t cs := (hb.block _ h.lt).trans h
theorem Blk.set (h : Blk w b t cs) (i : Nat) (v : Value) : Blk (w.setCell ⟨b, i, none⟩ v) b t (cs.setIfInBounds i v) := by
  unfold Blk at h ⊢
  simp [World.setCell, Array.getElem?_modify, h]
theorem Blk.far (h : Blk w b t cs) {p : Addr} (hp : b ≠ p.block) (v : Value) : Blk (w.setCell p v) b t cs := (Below.heap_setCell w p v b hp).trans h
theorem Blk.new' (h : w.heap.size = b) : Blk (w.alloc (.cells cs t)) b t cs := by subst h; exact World.alloc_heap_new w _
theorem Blk.alloc (h : Blk w b t cs) (o : Obj) : Blk (w.alloc o) b t cs := h.kept (World.grownBy_alloc w o none) (by simp)
theorem Blk.own (b : Nat) (t : TypeId) (cs : Array Value) {β : Type} : ∀ (_ : β) W W' row, Blk W b t cs → W.grownBy W' row → (∀ r, row = some r → ∃ o : Obj, W.heap[r]? = some o ∧ o.isCells = false) → Blk W' b t cs := fun _ W W' row h hg hr => h.kept hg (fun e => by
  obtain ⟨o, ho, hc⟩ := hr b e.symm
  rw [show W.heap[b]? = _ from h] at ho; cases ho; cases hc)
theorem Blk.one {v0 : Value} (h : Blk w b t #[v0]) : w.cell? ⟨b, 0, none⟩ = some v0 := h.cell 0
theorem Blk.two {v0 v1 : Value} (h : Blk w b t #[v0, v1]) : w.cell? ⟨b, 0, none⟩ = some v0 ∧ w.cell? ⟨b, 1, none⟩ = some v1 := ⟨h.cell 0, h.cell 1⟩
theorem Blk.three {v0 v1 v2 : Value} (h : Blk w b t #[v0, v1, v2]) : w.cell? ⟨b, 0, none⟩ = some v0 ∧ w.cell? ⟨b, 1, none⟩ = some v1 ∧ w.cell? ⟨b, 2, none⟩ = some v2 := ⟨h.cell 0, h.cell 1, h.cell 2⟩
theorem Blk.four {v0 v1 v2 v3 : Value} (h : Blk w b t #[v0, v1, v2, v3]) : w.cell? ⟨b, 0, none⟩ = some v0 ∧ w.cell? ⟨b, 1, none⟩ = some v1 ∧ w.cell? ⟨b, 2, none⟩ = some v2 ∧ w.cell? ⟨b, 3, none⟩ = some v3 :=
  ⟨h.cell 0, h.cell 1, h.cell 2, h.cell 3⟩
theorem Blk.six {v0 v1 v2 v3 v4 v5 : Value} (h : Blk w b t #[v0, v1, v2, v3, v4, v5]) :
    w.cell? ⟨b, 0, none⟩ = some v0 ∧ w.cell? ⟨b, 1, none⟩ = some v1 ∧ w.cell? ⟨b, 2, none⟩ = some v2 ∧ w.cell? ⟨b, 3, none⟩ = some v3 ∧ w.cell? ⟨b, 4, none⟩ = some v4 ∧ w.cell? ⟨b, 5, none⟩ = some v5 :=
  ⟨h.cell 0, h.cell 1, h.cell 2, h.cell 3, h.cell 4, h.cell 5⟩
theorem Blk.eight {v0 v1 v2 v3 v4 v5 v6 v7 : Value} (h : Blk w b t #[v0, v1, v2, v3, v4, v5, v6, v7]) :
    w.cell? ⟨b, 0, none⟩ = some v0 ∧ w.cell? ⟨b, 1, none⟩ = some v1 ∧ w.cell? ⟨b, 2, none⟩ = some v2 ∧ w.cell? ⟨b, 3, none⟩ = some v3 ∧ w.cell? ⟨b, 4, none⟩ = some v4 ∧ w.cell? ⟨b, 5, none⟩ = some v5 ∧ w.cell? ⟨b, 6, none⟩ = some v6 ∧ w.cell? ⟨b, 7, none⟩ = some v7 :=
  ⟨h.cell 0, h.cell 1, h.cell 2, h.cell 3, h.cell 4, h.cell 5, h.cell 6, h.cell 7⟩
end

section
variable {w w' : World} {base : Nat} {e : TypeId} {size : Nat} {v : Value} {n : Nat} {xs : List Value}
theorem ow_below (h : w.ownsRow base e size v n xs) (hb : Below w.heap.size w w') : w'.ownsRow base e size v n xs :=
  ⟨h.1, h.2.imp id fun ⟨g, cap, cur, hv, hg, hh, r⟩ => ⟨g, cap, cur, hv, hg, (hb.block g (Array.getElem?_eq_some_iff.1 hh).1).trans hh, r⟩⟩
theorem owns_shape (h : w.ownsRow base e size v n xs) :
    ∃ a cap, v = .slice a n cap ∧ n ≤ cap ∧ cap ≤ 9223372036854775807 ∧ (n ≠ 0 → ∃ g, a = some ⟨g, 0, none⟩ ∧ base ≤ g ∧ g < w.heap.size) := by
  rcases h.2 with ⟨rfl, h0⟩ | ⟨g, cap, cur, rfl, hg, hh, h1, h2, h3, h4⟩
  · subst h0; exact ⟨none, 0, rfl, by omega, by omega, fun h => absurd rfl h⟩
  · exact ⟨_, _, rfl, h1, by simpa [maxLen] using h2, fun _ => ⟨g, rfl, hg, (Array.getElem?_eq_some_iff.1 hh).1⟩⟩
theorem own_ne (h : w.ownsRow base e size v n xs) : v.ownBlock ≠ some w.heap.size := fun e' => by
  have := (h.lt _ e').2
  omega
theorem own_cells (h : w.ownsRow base e size v n xs) {j : Nat} {o : Obj} (hj : v.ownBlock = some j) (ho : w.heap[j]? = some o) : o.isCells = true := by
  rcases h.2 with ⟨rfl, _⟩ | ⟨g, cap, cur, rfl, hg, hh, _⟩
  · simp [Value.ownBlock] at hj
  · have : g = j := by simpa [Value.ownBlock] using hj
    subst this; rw [hh] at ho; cases ho; rfl
end
theorem grownBy_setCell (W : World) (p : Addr) (v : Value) : W.grownBy (W.setCell p v) (some p.block) :=
  ⟨rfl, rfl, rfl, by simp, fun k _ hk => Below.heap_setCell _ _ _ k (fun e => hk (by rw [e]))⟩

/-- A row that reads is as it was, where but one block turned, in which it does not lie. -/
theorem Rd.far {α : Type} {enc : α → List Value} {size : Nat} {W W' : World} {v : Value} {l : List α} (h : Rd enc size W v l) {g : Nat} (hg : ∀ o n c, v = .slice (some ⟨g, o, none⟩) n c → l = [])
    (hW : ∀ b, b ≠ g → W'.heap[b]? = W.heap[b]?) (hsz : W.heap.size ≤ W'.heap.size) : Rd enc size W' v l := by
  obtain ⟨a, cap, rfl, h1, h2, h3, h5, h4⟩ := h
  refine ⟨a, cap, rfl, h1, h2, h3, h5, ?_⟩
  rcases h4 with h4 | ⟨b, off, rfl, hlt, hc⟩
  · exact .inl h4
  · by_cases hb : b = g
    · subst hb; exact .inl (hg _ _ _ rfl)
    · refine .inr ⟨b, off, rfl, Nat.lt_of_lt_of_le hlt hsz, fun j x hj i u hu => ?_⟩
      rw [World.cell?_of_block (hW b hb)]
      exact hc j x hj i u hu

theorem run_equalIn_func_nil {P : Program} (w : World) (d : Nat) (t : TypeId) (ps rs : Array TypeId) (v : Bool) (f : Fn) (fi ca : Array Value) (h : P.underlying t = some (.func ps rs v)) :
    (Op.equalIn (d + 1) t (.func f fi ca) .nilFunc).run P w = .ok false w := by
  simp [Op.equalIn, run_underlying h]
/-- 'f == nil', f a function that is there. -/
theorem run_eql_func_nil {P : Program} (w : World) (t : TypeId) (ps rs : Array TypeId) (v : Bool) (f : Fn) (fi ca : Array Value) (h : P.underlying t = some (.func ps rs v)) :
    (binOp .eql t (.func f fi ca) .nilFunc).run P w = .ok (.bool false) w := by
  simp only [binOp]
  simp [Op.equal, Op.maxDepth, run_equalIn_func_nil w 9999 t ps rs v f fi ca h]

theorem filter_snoc {α : Type} {l : List α} {k : Nat} {s : α} (p : α → Bool) (h : l[k]? = some s) : (l.take (k + 1)).filter p = if p s then (l.take k).filter p ++ [s] else (l.take k).filter p := by
  rw [take_snoc h, List.filter_append]
  cases hp : p s <;> simp [hp]
theorem any_snoc {α : Type} {l : List α} {k : Nat} {s : α} (p : α → Bool) (h : l[k]? = some s) : (l.take (k + 1)).any p = ((l.take k).any p || p s) := by
  rw [take_snoc h, List.any_append]; simp
theorem all_snoc {α : Type} {l : List α} {k : Nat} {s : α} (p : α → Bool) (h : l[k]? = some s) : (l.take (k + 1)).all p = ((l.take k).all p && p s) := by
  rw [take_snoc h, List.all_append]; simp
theorem map_snoc {α β : Type} {l : List α} {k : Nat} {s : α} (f : α → β) (h : l[k]? = some s) : (l.take (k + 1)).map f = (l.take k).map f ++ [f s] := by
  rw [take_snoc h, List.map_append]; rfl
theorem countP_snoc {α : Type} {l : List α} {k : Nat} {s : α} (p : α → Bool) (h : l[k]? = some s) : (l.take (k + 1)).countP p = (l.take k).countP p + (if p s then 1 else 0) := by
  rw [take_snoc h, List.countP_append]; cases hp : p s <;> simp [hp]
end Go.Proofs.YtkinhhkodaacjaaGreatDoor
namespace Go.Proofs.YtkinhhkodaacjaaGreatDoor
open Go.RowKit

/-- A struct's or an array's type, of n cells. -/
structure Wide (P : Program) (t : TypeId) (n : Nat) : Prop where
  under : ∃ d, P.underlying t = some d ∧ (match d with | .struct _ | .array _ _ => true | _ => false) = true
  info : (P.info? t).map (·.size) = some n

section
variable {P : Program} {t : TypeId} {n : Nat} {w : World}
theorem run_isAgg (h : Wide P t n) : (isAgg t).run P w = .ok true w := by
  obtain ⟨d, hu, hd⟩ := h.under
  unfold isAgg
  rw [Sem.run_bind, run_underlying hu w]
  cases d <;> simp_all
theorem Wide.size {i : TypeInfo} (h : Wide P t n) (hq : P.info? t = some i) : i.size = n := by
  have := h.info
  rw [hq] at this
  simpa using this
theorem Wide.some (h : Wide P t n) : ∃ i, P.info? t = some i := by
  have := h.info
  cases hq : P.info? t with
  | none => rw [hq] at this; simp at this
  | some i => exact ⟨i, rfl⟩

theorem run_loadW (h : Wide P t n) {b off : Nat} {cs : List Value} (hl : cs.length = n) (hc : ∀ j u, cs[j]? = some u → w.cell? ⟨b, off + j, none⟩ = some u) : (loadVar t ⟨b, off, none⟩).run P w = .ok (.agg cs.toArray) w := by
  obtain ⟨i, hq⟩ := h.some
  have hs : i.size = cs.length := by rw [h.size hq, hl]
  have hld : (loadCells ⟨b, off, none⟩ cs.length).run P w = .ok cs.toArray w := run_loadCells_list (P := P) w ⟨b, off, none⟩ cs (fun j v hv => by rw [Addr.add_lit]; exact hc j v hv)
  simp [loadVar, Sem.run_bind, run_isAgg h, sizeOf, typeInfo, hq, hs, hld]

/-- A load of a struct, by its cells: for a region. -/
theorem exec_loadW (h : Wide P t n) {o : Oper} {a : Act} {x : Operand} (ho : o.op = .load t x) {b off : Nat} (hx : a.eval x = .pointer (some ⟨b, off, none⟩)) {cs : List Value} (hl : cs.length = n)
    (hc : ∀ j u, cs[j]? = some u → w.cell? ⟨b, off + j, none⟩ = some u) : (execOp a.eval o).run P w = .ok (.value (.agg cs.toArray)) w := by
  simp [execOp, ho, hx, Instr.loadAt, Instr.sureAddr, run_loadW h hl hc, Result.andThen]

/-- A store of a struct over a block that is one. -/
theorem exec_storeW (h : Wide P t n) {o : Oper} {a : Act} {x y : Operand} (ho : o.op = .store t x y) {g : Nat} (hx : a.eval x = .pointer (some ⟨g, 0, none⟩)) {cs : List Value} (hy : a.eval y = .agg cs.toArray) (hl : cs.length = n)
    (h1 : ∀ u ∈ cs, u.oneCell' = true) {te : TypeId} {old : Array Value} (hg : w.heap[g]? = some (.cells old te (0, 0))) (ho' : old.size = n) : (execOp a.eval o).run P w = .ok .skip (w.setRow g cs.toArray) ∨ (execOp a.eval o).run P w = .ok (.value undef) (w.setRow g cs.toArray) := by
  have hst := run_storeVar_row (P := P) w g te t old cs.toArray hg (by rw [h.info]; simp [hl]) (by simp [hl, ho']) (by simpa using h1)
  first
  | exact .inl (by simp [execOp, ho, hx, hy, Instr.storeAt, Instr.sureAddr, hst, Result.andThen])
  | exact .inr (by simp [execOp, ho, hx, hy, Instr.storeAt, Instr.sureAddr, hst, Result.andThen])

theorem fold_fill : ∀ (l : List Value) (k : Nat) (cs : Array Value), k + l.length = cs.size → ((l.zipIdx k).foldl (fun (cs : Array Value) (p : Value × Nat) => cs.setIfInBounds p.2 p.1) cs).toList = cs.toList.take k ++ l
  | [], k, cs, h => by simp [List.take_of_length_le (by simp at h ⊢; omega : cs.toList.length ≤ k)]
  | v :: l, k, cs, h => by
    have hk : k < cs.size := by simp at h; omega
    rw [List.zipIdx_cons, List.foldl_cons, fold_fill l (k + 1) _ (by simp at h ⊢; omega)]
    have e : (cs.setIfInBounds k v).toList.take (k + 1) = cs.toList.take k ++ [v] := by
      have hl : (cs.toList.set k v).length = cs.size := by simp
      rw [Array.toList_setIfInBounds, List.take_succ_eq_append_getElem (by simpa using hk), List.take_set_of_le (Nat.le_refl _)]
      simp
    simp only
    rw [e]
    simp
theorem fill_one (size : Nat) (cs zs : Array Value) (h : cs.size = size) (hz : zs.size = size) : Instr.fill (fun i => some (i * size, size)) zs [(0, .agg cs)] = some cs := by
  have := fold_fill cs.toList 0 zs (by simp; omega)
  simp only [List.take_zero, List.nil_append] at this
  have e : Array.foldl (fun (cs : Array Value) (p : Value × Nat) => cs.setIfInBounds p.2 p.1) zs cs.zipIdx = cs := by
    apply Array.ext'
    rw [← this, ← Array.foldl_toList]
    simp
  subst h
  simp [Instr.fill, Value.cells, hz]
  simpa using e

theorem run_sliceW {z : Value} {bytes : Nat} {ts : TypeId} (E : Elem P ts t z n bytes) (hn : n ≤ 1000000) {cs : List Value} (hl : cs.length = n) :
    (Instr.buildSlice ts 1 #[(0, .agg cs.toArray)]).run P w = .ok (.slice (some ⟨w.heap.size, 0, none⟩) 1 1) (w.alloc (.cells cs.toArray t)) := by
  obtain ⟨i, hi, hz, hs, hb⟩ := info_parts E.info
  have hp := E.pos
  have hf := fill_one n cs.toArray ((Array.range n).map (fun j => z.cells[j % z.cells.size]!)) (by simp [hl]) (by simp)
  have hnew : ∀ w : World, (newRow t cs.toArray).run P w = .ok ⟨w.heap.size, 0, none⟩ (w.alloc (.cells cs.toArray t)) := fun w => rfl
  unfold Instr.buildSlice
  simp [run_underlying E.under, sizeOf, typeInfo, zeroValue, hi, hs, hz, hf, hnew, show ¬ (16777216 < n) by omega, show ¬ n = 0 by omega]
theorem exec_sliceW {z : Value} {bytes : Nat} {ts : TypeId} (E : Elem P ts t z n bytes) (hn : n ≤ 1000000) {o : Oper} {a : Act} {x : Operand} (ho : o.op = .buildSlice ts 1 #[(0, x)]) {cs : List Value} (hx : a.eval x = .agg cs.toArray) (hl : cs.length = n) :
    (execOp a.eval o).run P w = .ok (.value (.slice (some ⟨w.heap.size, 0, none⟩) 1 1)) (w.alloc (.cells cs.toArray t)) := by
  simp [execOp, ho, hx, run_sliceW E hn hl, Result.andThen]
theorem setRow_alloc (w : World) (old cs : Array Value) (t : TypeId) : (w.alloc (.cells old t)).setRow w.heap.size cs = w.alloc (.cells cs t) := by
  have e : (w.alloc (.cells old t)).heap.modify w.heap.size (fun | .cells _ elem frozen => .cells cs elem frozen | o => o) = (w.alloc (.cells cs t)).heap := by
    apply Array.ext_getElem?
    intro i
    rw [Array.getElem?_modify]
    by_cases h : w.heap.size = i
    · subst h
      rw [if_pos rfl, World.alloc_heap_new, World.alloc_heap_new]
      rfl
    · rw [if_neg h]
      show (w.heap.push _)[i]? = (w.heap.push _)[i]?
      rw [Array.getElem?_push, Array.getElem?_push, if_neg (by omega), if_neg (by omega)]
  exact congrArg (fun h => ({ w with heap := h } : World)) e

theorem Blk.list {W : World} {b : Nat} {t : TypeId} {cs : List Value} (h : Blk W b t cs.toArray) : ∀ j u, cs[j]? = some u → W.cell? ⟨b, 0 + j, none⟩ = some u := fun j u hj => by
  rw [Nat.zero_add, h.cell j]
  simpa using hj
theorem Blk.list0 {W : World} {b : Nat} {t : TypeId} {cs : List Value} (h : Blk W b t cs.toArray) {j : Nat} {u : Value} (hj : cs[j]? = some u) : W.cell? ⟨b, j, none⟩ = some u := by
  rw [h.cell j]
  simpa using hj

section
variable {ops : Array Oper} {rest : List Oper} {o : Oper} {a : Act} {Q : Exit → Act → World → Prop} {F : Fence} {nF : Nat}
theorem wpList_val {v : Value} {w' : World} (hw : Region.wanted o (yielded ops a.tmps) = true) (hr : (execOp a.eval o).run P w = .ok (.value v) w') (hK : wpList P ops Q rest (a.put o.dst v) w') : wpList P ops Q (o :: rest) a w := by
  refine wpList_step fun _ hk => ?_
  rw [if_pos hw]
  unfold Oper.wp
  rw [hr]
  exact hk _ _ hK
/-- A guarded operation that is not wanted. -/
theorem wpList_skipU (hw : Region.wanted o (yielded ops a.tmps) = false) (hK : wpList P ops Q rest (a.put o.dst undef) w) : wpList P ops Q (o :: rest) a w := by
  refine wpList_step fun _ hk => ?_
  rw [if_neg (by simp [hw])]
  exact hk _ _ hK
theorem wpList_skipped {w' : World} (hw : Region.wanted o (yielded ops a.tmps) = true) (hr : (execOp a.eval o).run P w = .ok .skip w' ∨ (execOp a.eval o).run P w = .ok (.value undef) w') (hK : wpList P ops Q rest (a.put o.dst undef) w') : wpList P ops Q (o :: rest) a w := by
  refine wpList_step fun _ hk => ?_
  rw [if_pos hw]
  unfold Oper.wp
  rcases hr with hr | hr <;> rw [hr] <;> exact hk _ _ hK
theorem wpListIn_val {v : Value} {w' : World} (hw : Region.wanted o (yielded ops a.tmps) = true) (hab : o.about P w a.eval = none) (hd : ∀ c, o.op ≠ .defer c) (hr : (execOp a.eval o).run P w = .ok (.value v) w') (hK : wpListIn F nF P ops Q rest (a.put o.dst v) w') : wpListIn F nF P ops Q (o :: rest) a w := by
  refine wpListIn_step fun _ hk => ?_
  rw [if_pos hw]
  refine ⟨fun f hf => (by rw [hab] at hf; cases hf), ?_⟩
  rw [Oper.semAt_plain F _ _ hd, hr]
  exact hk _ _ hK
theorem wpListIn_skipped {w' : World} (hw : Region.wanted o (yielded ops a.tmps) = true) (hab : o.about P w a.eval = none) (hd : ∀ c, o.op ≠ .defer c) (hr : (execOp a.eval o).run P w = .ok .skip w' ∨ (execOp a.eval o).run P w = .ok (.value undef) w') (hK : wpListIn F nF P ops Q rest (a.put o.dst undef) w') : wpListIn F nF P ops Q (o :: rest) a w := by
  refine wpListIn_step fun _ hk => ?_
  rw [if_pos hw]
  refine ⟨fun f hf => (by rw [hab] at hf; cases hf), ?_⟩
  rw [Oper.semAt_plain F _ _ hd]
  rcases hr with hr | hr <;> rw [hr] <;> exact hk _ _ hK

/-- 'x := l[i]', the load. -/
theorem wpList_loadW (h : Wide P t n) {x : Operand} (ho : o.op = .load t x) (hw : Region.wanted o (yielded ops a.tmps) = true) {b off : Nat} (hx : a.eval x = .pointer (some ⟨b, off, none⟩)) (cs : List Value) (hl : cs.length = n)
    (hc : ∀ j u, cs[j]? = some u → w.cell? ⟨b, off + j, none⟩ = some u) (hK : wpList P ops Q rest (a.put o.dst (.agg cs.toArray)) w) : wpList P ops Q (o :: rest) a w :=
  wpList_val hw (exec_loadW h ho hx hl hc) hK
theorem wpListIn_loadW (h : Wide P t n) {x : Operand} (ho : o.op = .load t x) (hw : Region.wanted o (yielded ops a.tmps) = true) {b off : Nat} (hx : a.eval x = .pointer (some ⟨b, off, none⟩)) (cs : List Value) (hl : cs.length = n)
    (hc : ∀ j u, cs[j]? = some u → w.cell? ⟨b, off + j, none⟩ = some u) (hK : wpListIn F nF P ops Q rest (a.put o.dst (.agg cs.toArray)) w) : wpListIn F nF P ops Q (o :: rest) a w :=
  wpListIn_val hw (by simp [Oper.about, ho]) (by rw [ho]; simp) (exec_loadW h ho hx hl hc) hK
/-- .. the store into the box that was laid just ahead. -/
theorem wpList_storeW (h : Wide P t n) {x y : Operand} (ho : o.op = .store t x y) (hw : Region.wanted o (yielded ops a.tmps) = true) {te : TypeId} {old : Array Value} (hx : a.eval x = .pointer (some ⟨w.heap.size, 0, none⟩)) (cs : List Value) (hy : a.eval y = .agg cs.toArray) (hl : cs.length = n)
    (h1 : ∀ u ∈ cs, u.oneCell' = true) (ho' : old.size = n) (hK : wpList P ops Q rest (a.put o.dst undef) (w.alloc (.cells cs.toArray te))) : wpList P ops Q (o :: rest) a (w.alloc (.cells old te)) :=
  wpList_skipped hw (exec_storeW h ho hx hy hl h1 (te := te) (old := old) (World.alloc_heap_new w _) ho') (by rw [setRow_alloc]; exact hK)
theorem wpListIn_storeW (h : Wide P t n) {x y : Operand} (ho : o.op = .store t x y) (hw : Region.wanted o (yielded ops a.tmps) = true) {te : TypeId} {old : Array Value} (hx : a.eval x = .pointer (some ⟨w.heap.size, 0, none⟩)) (cs : List Value) (hy : a.eval y = .agg cs.toArray) (hl : cs.length = n)
    (h1 : ∀ u ∈ cs, u.oneCell' = true) (ho' : old.size = n) (hK : wpListIn F nF P ops Q rest (a.put o.dst undef) (w.alloc (.cells cs.toArray te))) : wpListIn F nF P ops Q (o :: rest) a (w.alloc (.cells old te)) :=
  wpListIn_skipped hw (by simp [Oper.about, ho]) (by rw [ho]; simp) (exec_storeW h ho hx hy hl h1 (te := te) (old := old) (World.alloc_heap_new w _) ho') (by rw [setRow_alloc]; exact hK)
/-- .. and the world behind it has a name. -/
theorem wpList_boxW (h : Wide P t n) {x y : Operand} (ho : o.op = .store t x y) (hw : Region.wanted o (yielded ops a.tmps) = true) {te : TypeId} {old : Array Value} (hx : a.eval x = .pointer (some ⟨w.heap.size, 0, none⟩)) (cs : List Value) (hy : a.eval y = .agg cs.toArray) (hl : cs.length = n)
    (h1 : ∀ u ∈ cs, u.oneCell' = true) (ho' : old.size = n) (hK : ∀ W1, Blk W1 w.heap.size te cs.toArray → Below w.heap.size w W1 → W1.heap.size = w.heap.size + 1 → wpList P ops Q rest (a.put o.dst undef) W1) : wpList P ops Q (o :: rest) a (w.alloc (.cells old te)) :=
  wpList_storeW h ho hw hx cs hy hl h1 ho' (hK _ (Blk.new' rfl) ((Below.refl _ _).alloc (Nat.le_refl _) _) (by simp))
theorem wpListIn_boxW (h : Wide P t n) {x y : Operand} (ho : o.op = .store t x y) (hw : Region.wanted o (yielded ops a.tmps) = true) {te : TypeId} {old : Array Value} (hx : a.eval x = .pointer (some ⟨w.heap.size, 0, none⟩)) (cs : List Value) (hy : a.eval y = .agg cs.toArray) (hl : cs.length = n)
    (h1 : ∀ u ∈ cs, u.oneCell' = true) (ho' : old.size = n) (hK : ∀ W1, Blk W1 w.heap.size te cs.toArray → Below w.heap.size w W1 → W1.heap.size = w.heap.size + 1 → wpListIn F nF P ops Q rest (a.put o.dst undef) W1) : wpListIn F nF P ops Q (o :: rest) a (w.alloc (.cells old te)) :=
  wpListIn_storeW h ho hw hx cs hy hl h1 ho' (hK _ (Blk.new' rfl) ((Below.refl _ _).alloc (Nat.le_refl _) _) (by simp))
/-- '[]T{x}', as 'append(l, x)' lays it. -/
theorem wpList_sliceW {z : Value} {bytes : Nat} {ts : TypeId} (E : Elem P ts t z n bytes) (hn : n ≤ 1000000) {x : Operand} (ho : o.op = .buildSlice ts 1 #[(0, x)]) (hw : Region.wanted o (yielded ops a.tmps) = true) (cs : List Value) (hx : a.eval x = .agg cs.toArray) (hl : cs.length = n)
    (hK : wpList P ops Q rest (a.put o.dst (.slice (some ⟨w.heap.size, 0, none⟩) 1 1)) (w.alloc (.cells cs.toArray t))) : wpList P ops Q (o :: rest) a w :=
  wpList_val hw (exec_sliceW E hn ho hx hl) hK
theorem wpListIn_sliceW {z : Value} {bytes : Nat} {ts : TypeId} (E : Elem P ts t z n bytes) (hn : n ≤ 1000000) {x : Operand} (ho : o.op = .buildSlice ts 1 #[(0, x)]) (hw : Region.wanted o (yielded ops a.tmps) = true) (cs : List Value) (hx : a.eval x = .agg cs.toArray) (hl : cs.length = n)
    (hK : wpListIn F nF P ops Q rest (a.put o.dst (.slice (some ⟨w.heap.size, 0, none⟩) 1 1)) (w.alloc (.cells cs.toArray t))) : wpListIn F nF P ops Q (o :: rest) a w :=
  wpListIn_val hw (by simp [Oper.about, ho]) (by rw [ho]; simp) (exec_sliceW E hn ho hx hl) hK
end
end
end Go.Proofs.YtkinhhkodaacjaaGreatDoor
namespace Go.Proofs.YtkinhhkodaacjaaGreatDoor
open Go.RowKit Go.Shelf

theorem grown_of_below {w w' : World} (hb : Below w.heap.size w w') : w.grownBy w' none := ⟨hb.os, hb.tape, hb.output, hb.size, fun k hk _ => hb.block k hk⟩
/-- Whatever lay below n₀, and the blocks from lo to hi. -/
def KP (n₀ lo hi : Nat) (A B : World) : Prop := Below n₀ A B ∧ ∀ b, lo ≤ b → b < hi → b < A.heap.size → B.heap[b]? = A.heap[b]?
section
variable {n₀ lo hi : Nat} {A B C W : World}
theorem KP.refl (n₀ lo hi : Nat) (A : World) : KP n₀ lo hi A A := ⟨Below.refl _ _, fun _ _ _ _ => rfl⟩
theorem KP.trans (h : KP n₀ lo hi A B) (k : KP n₀ lo hi B C) : KP n₀ lo hi A C :=
  ⟨h.1.trans k.1, fun b h1 h2 h3 => (k.2 b h1 h2 (Nat.lt_of_lt_of_le h3 h.1.size)).trans (h.2 b h1 h2 h3)⟩
theorem KP.of_below (h : Below A.heap.size A B) (hn : n₀ ≤ A.heap.size) : KP n₀ lo hi A B := ⟨h.mono hn, fun b _ _ h3 => h.block b h3⟩
theorem KP.of_low (h : Below n₀ A B) (hn : hi ≤ n₀) : KP n₀ lo hi A B := ⟨h, fun b _ h2 _ => h.block b (Nat.lt_of_lt_of_le h2 hn)⟩
theorem KP.block (h : KP n₀ lo hi A B) {b : Nat} (h1 : lo ≤ b) (h2 : b < hi) (hlt : b < A.heap.size) : B.heap[b]? = A.heap[b]? := h.2 b h1 h2 hlt
theorem KP.cell {b o : Nat} {v : Value} (h : KP n₀ lo hi A B) (h1 : lo ≤ b) (h2 : b < hi) (hc : A.cell? ⟨b, o, none⟩ = some v) : B.cell? ⟨b, o, none⟩ = some v := by
  have hlt := World.block_lt_of_cell? _ _ hc
  rw [← hc]
  exact World.cell?_of_block (h.2 b h1 h2 hlt)
theorem KP.setCell {p : Addr} (h1 : n₀ ≤ p.block) (h2 : p.block < lo ∨ hi ≤ p.block) (v : Value) : KP n₀ lo hi W (W.setCell p v) :=
  ⟨(Below.refl _ _).setCell h1 v, fun b h3 h4 _ => Below.heap_setCell W p v b (by omega)⟩
theorem KP.put {w : World} (hn : n₀ ≤ w.heap.size) (hh : hi ≤ w.heap.size) (W : World) (l : Nat) (o o' : Obj) (hl : w.heap.size ≤ l) (h : W.heap[l]? = some o) (h1 : o.isCells = false) (h2 : o.isWalk = false) : KP n₀ lo hi W (W.putObj l o') :=
  ⟨belowK_b hn W l o o' hl h h1 h2, fun b _ h3 _ => World.putObj_heap_other (by omega)⟩
/-- A row that a call owns and that lies there. -/
theorem KP.owns (h : KP n₀ lo hi A B) {base : Nat} {e : TypeId} {size : Nat} {v : Value} {n : Nat} {xs : List Value} (ho : A.ownsRow base e size v n xs) (h1 : lo ≤ base) (h2 : A.heap.size ≤ hi) : B.ownsRow base e size v n xs := by
  refine ⟨ho.1, ho.2.imp id ?_⟩
  rintro ⟨g, cap, cur, hv, hg, hh, r⟩
  have hlt := (Array.getElem?_eq_some_iff.1 hh).1
  exact ⟨g, cap, cur, hv, hg, (h.2 g (by omega) (by omega) hlt).trans hh, r⟩
/-- .. and that reads as something. -/
theorem KP.reads {α : Type} {enc : α → List Value} {size : Nat} (h : KP n₀ lo hi A B) {v : Value} {l : List α} (ho : Rd enc size A v l) (h1 : ∀ b o n c, v = .slice (some ⟨b, o, none⟩) n c → lo ≤ b ∧ b < hi) : Rd enc size B v l := by
  obtain ⟨a, cap, rfl, q1, q2, q3, q5, q4⟩ := ho
  refine ⟨a, cap, rfl, q1, q2, q3, q5, q4.imp id ?_⟩
  rintro ⟨b, off, rfl, hlt, hc⟩
  obtain ⟨k1, k2⟩ := h1 _ _ _ _ rfl
  exact ⟨b, off, rfl, Nat.lt_of_lt_of_le hlt h.1.size, fun j x hj i u hu => by
    rw [World.cell?_of_block (h.2 b k1 k2 hlt)]
    exact hc j x hj i u hu⟩
end
theorem own_blk_ne {W : World} {base : Nat} {e : TypeId} {size : Nat} {v : Value} {n : Nat} {xs : List Value} (h : W.ownsRow base e size v n xs) {b : Nat} {t : TypeId} {cs : Array Value} (hb : Blk W b t cs) (hne : e ≠ t) : v.ownBlock ≠ some b := fun hv => by
  rcases h.2 with ⟨rfl, _⟩ | ⟨g, cap, cur, rfl, hg, hh, _⟩
  · simp [Value.ownBlock] at hv
  · have : g = b := by simpa [Value.ownBlock] using hv
    subst this
    rw [show W.heap[g]? = _ from hb] at hh
    cases hh
    exact hne rfl
/-- How far a round has come: what it keeps. -/
structure Rnd (n₀ lo hi : Nat) (w W X : World) : Prop where
  ko : KeepsOthers W X
  kp : KP n₀ lo hi W X
  bl : Below n₀ w X
  sz : hi ≤ X.heap.size
section
variable {n₀ lo hi : Nat} {w W X Y : World}
theorem Rnd.start (hb : Below n₀ w W) (hs : hi ≤ W.heap.size) : Rnd n₀ lo hi w W W := ⟨KeepsOthers.refl _, KP.refl _ _ _ _, hb, hs⟩
theorem Rnd.below (h : Rnd n₀ lo hi w W X) (hb : Below X.heap.size X Y) (hn : n₀ ≤ hi) : Rnd n₀ lo hi w W Y :=
  have h1 : n₀ ≤ X.heap.size := Nat.le_trans hn h.sz
  ⟨h.ko.trans (KeepsOthers.of_grownBy (grown_of_below hb) (by intro j o e; cases e)), h.kp.trans (KP.of_below hb h1), h.bl.trans (hb.mono h1), Nat.le_trans h.sz hb.size⟩
theorem Rnd.grown (h : Rnd n₀ lo hi w W X) {e : TypeId} {size : Nat} {v : Value} {n : Nat} {xs : List Value} (ho : X.ownsRow hi e size v n xs) (hg : X.grownBy Y v.ownBlock) (hn : n₀ ≤ hi) : Rnd n₀ lo hi w W Y := by
  have hB : Below n₀ X Y := (Below.refl _ _).grown hg (Nat.le_trans hn h.sz) (fun k e => Nat.le_trans hn (ho.lt k e).1)
  refine ⟨h.ko.trans (KeepsOthers.of_grownBy hg (fun j o e hj => own_cells ho e hj)), h.kp.trans ⟨hB, fun b h1 h2 h3 => hg.block b h3 (fun e => ?_)⟩, h.bl.trans hB, Nat.le_trans h.sz hg.size⟩
  have := (ho.lt b e.symm).1
  omega
theorem Rnd.set (h : Rnd n₀ lo hi w W X) {p : Addr} (h1 : n₀ ≤ p.block) (h2 : p.block < lo ∨ hi ≤ p.block) (v : Value) : Rnd n₀ lo hi w W (X.setCell p v) :=
  ⟨h.ko.trans (KeepsOthers.setCell _ _ _), h.kp.trans (KP.setCell h1 h2 v), h.bl.setCell h1 v, by simpa using h.sz⟩
theorem Rnd.alloc (h : Rnd n₀ lo hi w W X) (o : Obj) (hn : n₀ ≤ hi) : Rnd n₀ lo hi w W (X.alloc o) := h.below (below1 X o) hn
theorem Rnd.drew (h : Rnd n₀ lo hi w W X) (hn : n₀ ≤ hi) : Rnd n₀ lo hi w W X.drew := h.below (Below.refl _ _).drew hn
end
theorem filter_prefix {α : Type} (p : α → Bool) (l : List α) {k m : Nat} (h : k ≤ m) : (l.take k).filter p <+: (l.take m).filter p := by
  refine List.IsPrefix.filter p ?_
  rw [show l.take k = (l.take m).take k by rw [List.take_take]; congr 1; omega]
  exact List.take_prefix _ _
end Go.Proofs.YtkinhhkodaacjaaGreatDoor
namespace Go.Proofs.YtkinhhkodaacjaaGreatDoor

/-- A number's decimal digits. -/
def decN (u : Nat) : List UInt8 := if u < 10 then [UInt8.ofNat (48 + u)] else decN (u / 10) ++ [UInt8.ofNat (48 + u % 10)]
termination_by u
decreasing_by omega
theorem decN_small {u : Nat} (h : u < 10) : decN u = [UInt8.ofNat (48 + u)] := by rw [decN, if_pos h]
theorem decN_step {u : Nat} (h : ¬ u < 10) : decN u = decN (u / 10) ++ [UInt8.ofNat (48 + u % 10)] := by rw [decN, if_neg h]
/-- .. and of an integer. -/
def decZ (n : Int) : List UInt8 := if n < 0 then 45 :: decN n.natAbs else decN n.natAbs
theorem decZ_neg {n : Int} (h : n < 0) : decZ n = 45 :: decN n.natAbs := if_pos h
theorem decZ_pos {n : Int} (h : ¬ n < 0) : decZ n = decN n.natAbs := if_neg h
/-- A decimal digit's byte. -/
def isDig (c : UInt8) : Bool := decide (48 ≤ c.toNat) && decide (c.toNat ≤ 57)
theorem dig_toNat {u : Nat} (h : u < 10) : (UInt8.ofNat (48 + u)).toNat = 48 + u := by
  rw [UInt8.toNat_ofNat']; omega
theorem isDig_dig {u : Nat} (h : u < 10) : isDig (UInt8.ofNat (48 + u)) = true := by
  unfold isDig; rw [dig_toNat h]; simp; omega
theorem decN_digs : ∀ (u : Nat), ∀ c ∈ decN u, isDig c = true := by
  intro u
  induction u using Nat.strongRecOn with
  | _ u ih =>
    intro c hc
    by_cases h : u < 10
    · rw [decN_small h] at hc; rw [List.mem_singleton.1 hc]; exact isDig_dig h
    · rw [decN_step h] at hc
      rcases List.mem_append.1 hc with hc | hc
      · exact ih (u / 10) (by omega) c hc
      · rw [List.mem_singleton.1 hc]; exact isDig_dig (by omega)
theorem decN_ne (u : Nat) : decN u ≠ [] := by
  by_cases h : u < 10
  · rw [decN_small h]; simp
  · rw [decN_step h]; simp
theorem decN_len : ∀ (k u : Nat), 1 ≤ k → u < 10 ^ k → (decN u).length ≤ k
  | 0, u, h, _ => by omega
  | k + 1, u, _, hu => by
    by_cases h : u < 10
    · rw [decN_small h]; simp
    · rw [decN_step h]
      have hk : 1 ≤ k := by
        rcases k with _ | k
        · simp at hu; omega
        · omega
      have := decN_len k (u / 10) hk (by rw [Nat.pow_succ] at hu; omega)
      simp; omega
/-- What digits say. -/
def valN (l : List UInt8) : Nat := l.foldl (fun a c => 10 * a + (c.toNat - 48)) 0
theorem valN_snoc (l : List UInt8) (c : UInt8) : valN (l ++ [c]) = 10 * valN l + (c.toNat - 48) := by simp [valN]
theorem valN_decN : ∀ u, valN (decN u) = u := by
  intro u
  induction u using Nat.strongRecOn with
  | _ u ih =>
    by_cases h : u < 10
    · rw [decN_small h]; show 10 * 0 + ((UInt8.ofNat (48 + u)).toNat - 48) = u; rw [dig_toNat h]; omega
    · rw [decN_step h, valN_snoc, ih (u / 10) (by omega), dig_toNat (by omega)]; omega
theorem decN_inj {u v : Nat} (h : decN u = decN v) : u = v := by rw [← valN_decN u, h, valN_decN]
theorem decN_head (u : Nat) : (decN u).head? ≠ some 45 := by
  intro h
  have := decN_digs u 45 (List.mem_of_mem_head? (by rw [h]; rfl))
  simp [isDig] at this
theorem decZ_inj {m n : Int} (h : decZ m = decZ n) : m = n := by
  by_cases h1 : m < 0 <;> by_cases h2 : n < 0
  · rw [decZ_neg h1, decZ_neg h2] at h
    have := decN_inj (List.cons.inj h).2
    omega
  · rw [decZ_neg h1, decZ_pos h2] at h
    exact absurd (by rw [← h]; rfl) (decN_head n.natAbs)
  · rw [decZ_pos h1, decZ_neg h2] at h
    exact absurd (by rw [h]; rfl) (decN_head m.natAbs)
  · rw [decZ_pos h1, decZ_pos h2] at h
    have := decN_inj h
    omega
theorem decZ_len {n : Int} (h1 : -9223372036854775808 ≤ n) (h2 : n ≤ 9223372036854775807) : (decZ n).length ≤ 20 := by
  have := decN_len 19 n.natAbs (by omega) (by have : (10:Nat) ^ 19 = 10000000000000000000 := rfl; omega)
  by_cases h : n < 0
  · rw [decZ_neg h]; simp; omega
  · rw [decZ_pos h]; omega
theorem decZ_ne (n : Int) : decZ n ≠ [] := by
  by_cases h : n < 0
  · rw [decZ_neg h]; simp
  · rw [decZ_pos h]; exact decN_ne _
/-- No blank, no line's end in a number. -/
theorem decZ_chars (n : Int) : ∀ c ∈ decZ n, c = 45 ∨ isDig c = true := by
  intro c hc
  by_cases h : n < 0
  · rw [decZ_neg h] at hc
    rcases List.mem_cons.1 hc with h | h
    · exact .inl h
    · exact .inr (decN_digs _ c h)
  · rw [decZ_pos h] at hc
    exact .inr (decN_digs _ c hc)
theorem decZ_no (n : Int) (c : UInt8) (h1 : c ≠ 45) (h2 : isDig c = false) : c ∉ decZ n := fun h => by
  rcases decZ_chars n c h with h | h
  · exact h1 h
  · rw [h2] at h; simp at h
/-- the loop's round: a digit goes ahead of what is there. -/
theorem dec_round {u0 u : Nat} {acc : List UInt8} (h : decN u ++ acc = decN u0) : if u / 10 = 0 then UInt8.ofNat (48 + u % 10) :: acc = decN u0 else decN (u / 10) ++ (UInt8.ofNat (48 + u % 10) :: acc) = decN u0 := by
  by_cases h0 : u / 10 = 0
  · rw [if_pos h0, ← h, decN_small (by omega), Nat.mod_eq_of_lt (by omega)]; rfl
  · rw [if_neg h0, ← h, decN_step (u := u) (by omega)]; simp
/-- A hexadecimal digit's byte. -/
def hexC (k : Nat) : UInt8 := if k < 10 then UInt8.ofNat (48 + k) else UInt8.ofNat (87 + k)
/-- Bytes as a word. -/
def hexL : List UInt8 → List UInt8
  | [] => []
  | c :: l => hexC (c.toNat / 16) :: hexC (c.toNat % 16) :: hexL l
def hexW (l : List UInt8) : List UInt8 := 120 :: hexL l
theorem hexL_append : ∀ l m : List UInt8, hexL (l ++ m) = hexL l ++ hexL m
  | [], m => rfl
  | c :: l, m => by simp [hexL, hexL_append l m]
theorem hexL_len : ∀ l : List UInt8, (hexL l).length = 2 * l.length
  | [] => rfl
  | c :: l => by simp [hexL, hexL_len l]; omega
theorem hexC_inj : ∀ {a b : Nat}, a < 16 → b < 16 → hexC a = hexC b → a = b := by
  intro a b ha hb h
  have : ∀ a < 16, ∀ b < 16, hexC a = hexC b → a = b := by decide
  exact this a ha b hb h
theorem hexL_inj : ∀ {l m : List UInt8}, hexL l = hexL m → l = m
  | [], [], _ => rfl
  | [], c :: m, h => by simp [hexL] at h
  | c :: l, [], h => by simp [hexL] at h
  | c :: l, d :: m, h => by
    simp only [hexL, List.cons.injEq] at h
    obtain ⟨h1, h2, h3⟩ := h
    have hc := c.toNat_lt; have hd := d.toNat_lt
    have e1 := hexC_inj (by omega) (by omega) h1
    have e2 := hexC_inj (by omega) (by omega) h2
    rw [hexL_inj h3, show c = d from UInt8.toNat_inj.1 (by omega)]
theorem hexC_chars : ∀ k < 16, isDig (hexC k) = true ∨ (97 ≤ (hexC k).toNat ∧ (hexC k).toNat ≤ 102) := by decide
end Go.Proofs.YtkinhhkodaacjaaGreatDoor
namespace Go.Proofs.YtkinhhkodaacjaaGreatDoor
open Go.RowKit

variable {P : Program} {l : List Oper} {Q : Exit → Act → World → Prop} {md : Region.Mode} {S : World → Prop}

theorem at_drop {i : Nat} {oi : Oper} {r : List Oper} (h : l.drop i = oi :: r) : l.toArray[i]? = some oi := by
  have := congrArg (·[0]?) h
  simpa using this

/-- Wanted: it yields its value in every world that meets S. -/
theorem takeW {i : Nat} {oi : Oper} {r : List Oper} {v : Value} {fuel : Nat} {listed : Array Bool} {a : Act} {w : World} (hi : l.drop i = oi :: r)
    (hs : Region.noSelect l.toArray = true) (hf : Region.free md l.toArray listed i = true) (hr : (Region.ready md l.toArray listed).contains i = true)
    (hQ : ∀ c a w, Q (.panic c) (a.put oi.dst v) w → Q (.panic c) a w) (hw : Region.wanted oi (yielded l.toArray a.tmps) = true) (hS : S w)
    (hy : ∀ w, S w → (execOp a.eval oi).run P w = .ok (.value v) w)
    (h : wpAnyH P md l.toArray Q S fuel (listed.setIfInBounds i true) (a.put oi.dst v) w) : wpAnyH P md l.toArray Q S (fuel + 1) listed a w :=
  wpAnyH_take (at_drop hi) hs hf hr hQ (.inl ⟨hw, hy⟩) hS h
/-- Not wanted. -/
theorem takeU {i : Nat} {oi : Oper} {r : List Oper} {fuel : Nat} {listed : Array Bool} {a : Act} {w : World} (hi : l.drop i = oi :: r)
    (hs : Region.noSelect l.toArray = true) (hf : Region.free md l.toArray listed i = true) (hr : (Region.ready md l.toArray listed).contains i = true)
    (hQ : ∀ c a w, Q (.panic c) (a.put oi.dst undef) w → Q (.panic c) a w) (hw : Region.wanted oi (yielded l.toArray a.tmps) = false) (hS : S w)
    (h : wpAnyH P md l.toArray Q S fuel (listed.setIfInBounds i true) (a.put oi.dst undef) w) : wpAnyH P md l.toArray Q S (fuel + 1) listed a w :=
  wpAnyH_take (at_drop hi) hs hf hr hQ (.inr ⟨hw, rfl⟩) hS h
/-- A call, the only one that may come up. -/
theorem takeC {i : Nat} {oi : Oper} {r : List Oper} {fuel : Nat} {listed : Array Bool} {a : Act} {w : World} (hi : l.drop i = oi :: r)
    (hr : Region.ready md l.toArray listed = [i]) (hw : Region.wanted oi (yielded l.toArray a.tmps) = true)
    (h : ∀ K : Act → World → Prop, Shut (∀ a w, S w → (S w → wpAnyH P md l.toArray Q S fuel (listed.setIfInBounds i true) a w) → K a w) → Oper.wp P oi a w K Q) :
    wpAnyH P md l.toArray Q S (fuel + 1) listed a w :=
  wpAnyH_ready hr (by simp) (AllReadyH.cons (at_drop hi) (fun K hK => by rw [if_pos hw]; exact h K hK) AllReadyH.nil)
/-- A call and an allocation that waits for nothing: either may come up first. -/
theorem takeC2 {i j : Nat} {oi oj : Oper} {r r' : List Oper} {fuel : Nat} {listed : Array Bool} {a : Act} {w : World} (hi : l.drop i = oi :: r) (hj : l.drop j = oj :: r')
    (hr : Region.ready md l.toArray listed = [i, j]) (hw : Region.wanted oi (yielded l.toArray a.tmps) = true) (hw' : Region.wanted oj (yielded l.toArray a.tmps) = true)
    (h : ∀ K : Act → World → Prop, Shut (∀ a w, S w → (S w → wpAnyH P md l.toArray Q S fuel (listed.setIfInBounds i true) a w) → K a w) → Oper.wp P oi a w K Q)
    (h' : ∀ K : Act → World → Prop, Shut (∀ a w, S w → (S w → wpAnyH P md l.toArray Q S fuel (listed.setIfInBounds j true) a w) → K a w) → Oper.wp P oj a w K Q) :
    wpAnyH P md l.toArray Q S (fuel + 1) listed a w :=
  wpAnyH_ready hr (by simp) (AllReadyH.cons (at_drop hi) (fun K hK => by rw [if_pos hw]; exact h K hK) (AllReadyH.cons (at_drop hj) (fun K hK => by rw [if_pos hw']; exact h' K hK) AllReadyH.nil))

end Go.Proofs.YtkinhhkodaacjaaGreatDoor
namespace Go.Proofs.YtkinhhkodaacjaaGreatDoor
open Go.RowKit

/-- A type of one cell that is no struct and no array. -/
structure Flat (P : Program) (t : TypeId) : Prop where
  under : ∃ d, P.underlying t = some d ∧ (match d with | .struct _ | .array _ _ => true | _ => false) = false
  info : (P.info? t).map (·.size) = some 1

section
variable {P : Program} {w : World} {o : Oper} {a : Act} {t : TypeId}
theorem run_isAgg_flat (h : Flat P t) : (isAgg t).run P w = .ok false w := by
  obtain ⟨d, hu, hd⟩ := h.under
  unfold isAgg
  rw [Sem.run_bind, run_underlying hu w]
  cases d <;> simp_all
theorem exec_load1 (h : Flat P t) {x : Operand} (ho : o.op = .load t x) {p : Addr} (hx : a.eval x = .pointer (some p)) {v : Value} (hc : w.cell? p = some v) : (execOp a.eval o).run P w = .ok (.value v) w := by
  have hl : (loadVar t p).run P w = .ok v w := by
    unfold loadVar
    rw [Sem.run_bind, run_isAgg_flat h]
    simp [hc]
  simp [execOp, ho, hx, Instr.loadAt, Instr.sureAddr, hl, Result.andThen]
theorem exec_store1 (h : Flat P t) {x y : Operand} (ho : o.op = .store t x y) {p : Addr} (hx : a.eval x = .pointer (some p)) {v u : Value} (hy : a.eval y = v) (hv : v.cells = #[v]) (h1 : v.oneCell' = true) (hc : w.cell? p = some u) (hf : w.frozen? p = false) :
    (execOp a.eval o).run P w = .ok .skip (w.setCell p v) ∨ (execOp a.eval o).run P w = .ok (.value undef) (w.setCell p v) := by
  obtain ⟨i, hi⟩ : ∃ i, P.info? t = some i := by
    have := h.info
    cases hq : P.info? t with
    | none => rw [hq] at this; simp at this
    | some i => exact ⟨i, rfl⟩
  have hs : i.size = 1 := by have := h.info; rw [hi] at this; simpa using this
  have hst : (storeVar t p v).run P w = .ok () (w.setCell p v) := by
    unfold storeVar
    simp [sizeOf, typeInfo, hi, hs, hv, storeCells, Addr.add_zero', run_store P w p v _ h1, hc, hf]
  first
  | exact .inl (by simp [execOp, ho, hx, hy, Instr.storeAt, Instr.sureAddr, hst, Result.andThen])
  | exact .inr (by simp [execOp, ho, hx, hy, Instr.storeAt, Instr.sureAddr, hst, Result.andThen])
/-- '[]T{x}', x of one cell. -/
theorem exec_slice1 {e : TypeId} {z : Value} {bytes : Nat} (E : Elem P t e z 1 bytes) {x : Operand} (ho : o.op = .buildSlice t 1 #[(0, x)]) {v : Value} (hx : a.eval x = v) (hv : v.cells = #[v]) :
    (execOp a.eval o).run P w = .ok (.value (.slice (some ⟨w.heap.size, 0, none⟩) 1 1)) (w.alloc (.cells #[v] e)) := by
  obtain ⟨i, hi, hz, hs, hb⟩ := info_parts E.info
  have hzs := E.zs
  have hrun : (Instr.buildSlice t 1 #[(0, v)]).run P w = .ok (.slice (some ⟨w.heap.size, 0, none⟩) 1 1) (w.alloc (.cells #[v] e)) := by
    have hf : Instr.fill (fun i => some (i * 1, 1)) ((Array.range 1).map (fun j => z.cells[j % z.cells.size]!)) [(0, v)] = some #[v] := by
      have e0 : (Array.range 0 : Array Nat) = #[] := rfl
      simp [Instr.fill, hv, Array.range_succ, e0]
    have hnew : ∀ w : World, (newRow e #[v]).run P w = .ok ⟨w.heap.size, 0, none⟩ (w.alloc (.cells #[v] e)) := fun w => rfl
    unfold Instr.buildSlice
    simp only [Nat.mul_one] at hf
    simp [run_underlying E.under, sizeOf, typeInfo, zeroValue, hi, hs, hz, hf, hnew]
  simp [execOp, ho, hx, hrun, Result.andThen]

/-- .. append, and where the new row lies. -/
theorem exec_app_at {e : TypeId} {z : Value} {size bytes base : Nat} (E : Elem P t e z size bytes) {s x : Operand} (ho : o.op = .call { callee := .builtin .append, args := #[s, x], argTypes := #[t, t] })
    {v : Value} {n : Nat} {xs : List Value} (hown : w.ownsRow base e size v n xs) {ad : Addr} {m c : Nat} {news : List Value} (hl : news.length = m * size) (hnews : ∀ j u, news[j]? = some u → w.cell? (ad.add j) = some u)
    (h1 : ∀ u ∈ news, u.oneCell' = true) (hs : a.eval s = v) (hx : a.eval x = .slice (some ad) m c) (hby : (n + m) * bytes ≤ 140737488355328) (hbase : base ≤ w.heap.size) :
    ∃ v' w', (execOp a.eval o).run P w = .ok (.value v') w' ∧ w'.ownsRow base e size v' (n + m) (xs ++ news) ∧ w.grownBy w' v.ownBlock ∧ (v'.ownBlock = v.ownBlock ∨ v'.ownBlock = some w.heap.size) := by
  obtain ⟨i, hi, hz, hsz, hb⟩ := info_parts E.info
  have hmax : n + m ≤ maxLen := by
    have : n + m ≤ (n + m) * bytes := Nat.le_mul_of_pos_right _ E.byt
    unfold maxLen; omega
  obtain ⟨v', w', hr, q1, q2, _, q4⟩ := run_append_own_at (P := P) w base t o.type e i z size bytes E.under hi hz hsz hb E.zs E.pos v n xs hown ad m c news hl hnews h1 hmax hby hbase
  refine ⟨v', w', ?_, q1, q2, q4⟩
  unfold execOp
  simp only [ho, resolve, invoke, builtin, Sem.run_bind, Sem.run_pure, Result.andThen_ok, List.map_toArray, List.map_cons, List.map_nil, hs, hx, hr]
end

section
variable {P : Program} {w : World} {o : Oper} {a : Act} {t : TypeId} {ops : Array Oper} {rest : List Oper} {Q : Exit → Act → World → Prop} {F : Fence} {nF : Nat}
/-- 'append(s, x)' in a list of operations, and where the new row lies. -/
theorem wpListIn_app_at {e : TypeId} {z : Value} {size bytes base : Nat} (E : Elem P t e z size bytes) {s x : Operand} (ho : o.op = .call { callee := .builtin .append, args := #[s, x], argTypes := #[t, t] }) (hw : Region.wanted o (yielded ops a.tmps) = true)
    {v : Value} {n : Nat} {xs : List Value} (hown : w.ownsRow base e size v n xs) {ad : Addr} {m c : Nat} {news : List Value} (hl : news.length = m * size) (hnews : ∀ j u, news[j]? = some u → w.cell? (ad.add j) = some u)
    (h1 : ∀ u ∈ news, u.oneCell' = true) (hs : a.eval s = v) (hx : a.eval x = .slice (some ad) m c) (hby : (n + m) * bytes ≤ 140737488355328) (hbase : base ≤ w.heap.size)
    (h : ∀ v' w', w'.ownsRow base e size v' (n + m) (xs ++ news) → w.grownBy w' v.ownBlock → (v'.ownBlock = v.ownBlock ∨ v'.ownBlock = some w.heap.size) → wpListIn F nF P ops Q rest (a.put o.dst v') w') : wpListIn F nF P ops Q (o :: rest) a w := by
  obtain ⟨v', w', hrun, q1, q2, q3⟩ := exec_app_at (P := P) (w := w) (o := o) (a := a) E ho hown hl hnews h1 hs hx hby hbase
  exact wpListIn_val hw (by simp [Oper.about, ho, resolve, Target.leads, Sem.run_pure]) (by rw [ho]; simp) hrun (h v' w' q1 q2 q3)
theorem wpList_app_at {e : TypeId} {z : Value} {size bytes base : Nat} (E : Elem P t e z size bytes) {s x : Operand} (ho : o.op = .call { callee := .builtin .append, args := #[s, x], argTypes := #[t, t] }) (hw : Region.wanted o (yielded ops a.tmps) = true)
    {v : Value} {n : Nat} {xs : List Value} (hown : w.ownsRow base e size v n xs) {ad : Addr} {m c : Nat} {news : List Value} (hl : news.length = m * size) (hnews : ∀ j u, news[j]? = some u → w.cell? (ad.add j) = some u)
    (h1 : ∀ u ∈ news, u.oneCell' = true) (hs : a.eval s = v) (hx : a.eval x = .slice (some ad) m c) (hby : (n + m) * bytes ≤ 140737488355328) (hbase : base ≤ w.heap.size)
    (h : ∀ v' w', w'.ownsRow base e size v' (n + m) (xs ++ news) → w.grownBy w' v.ownBlock → (v'.ownBlock = v.ownBlock ∨ v'.ownBlock = some w.heap.size) → wpList P ops Q rest (a.put o.dst v') w') : wpList P ops Q (o :: rest) a w := by
  obtain ⟨v', w', hrun, q1, q2, q3⟩ := exec_app_at (P := P) (w := w) (o := o) (a := a) E ho hown hl hnews h1 hs hx hby hbase
  exact wpList_val hw hrun (h v' w' q1 q2 q3)
/-- The cells of what 'append(s, x)' lays first. -/
theorem cells_new (w : World) (cs : List Value) (t : TypeId) : ∀ j u, cs[j]? = some u → (w.alloc (.cells cs.toArray t)).cell? ((⟨w.heap.size, 0, none⟩ : Addr).add j) = some u := by
  intro j u hj
  rw [Addr.add_lit, World.cell?_alloc_at _ _ _ _ rfl]
  simpa using hj
end

section
variable {P : Program} {l : List Oper} {Q : Exit → Act → World → Prop} {md : Region.Mode} {S : World → Prop}
/-- An operation that comes up alone, by its run. -/
theorem takeV {i : Nat} {oi : Oper} {r : List Oper} {fuel : Nat} {listed : Array Bool} {a : Act} {w w' : World} {v : Value} (hi : l.drop i = oi :: r)
    (hr : Region.ready md l.toArray listed = [i]) (hw : Region.wanted oi (yielded l.toArray a.tmps) = true) (hx : (execOp a.eval oi).run P w = .ok (.value v) w') (hS : S w')
    (h : wpAnyH P md l.toArray Q S fuel (listed.setIfInBounds i true) (a.put oi.dst v) w') : wpAnyH P md l.toArray Q S (fuel + 1) listed a w :=
  takeC hi hr hw (fun K hK => by unfold Oper.wp; rw [hx]; exact hK.out _ _ hS (fun _ => h))
theorem takeVs {i : Nat} {oi : Oper} {r : List Oper} {fuel : Nat} {listed : Array Bool} {a : Act} {w w' : World} (hi : l.drop i = oi :: r)
    (hr : Region.ready md l.toArray listed = [i]) (hw : Region.wanted oi (yielded l.toArray a.tmps) = true) (hx : (execOp a.eval oi).run P w = .ok .skip w' ∨ (execOp a.eval oi).run P w = .ok (.value undef) w') (hS : S w')
    (h : wpAnyH P md l.toArray Q S fuel (listed.setIfInBounds i true) (a.put oi.dst undef) w') : wpAnyH P md l.toArray Q S (fuel + 1) listed a w :=
  takeC hi hr hw (fun K hK => by unfold Oper.wp; rcases hx with hx | hx <;> rw [hx] <;> exact hK.out _ _ hS (fun _ => h))
/-- An append. -/
theorem takeApp {i : Nat} {oi : Oper} {r : List Oper} {fuel : Nat} {listed : Array Bool} {a : Act} {w : World} {t e : TypeId} {z : Value} {size bytes base : Nat} (E : Elem P t e z size bytes) (hi : l.drop i = oi :: r)
    (hr : Region.ready md l.toArray listed = [i]) (hw : Region.wanted oi (yielded l.toArray a.tmps) = true) {s x : Operand} (ho : oi.op = .call { callee := .builtin .append, args := #[s, x], argTypes := #[t, t] })
    {v : Value} {n : Nat} {xs : List Value} (hown : w.ownsRow base e size v n xs) {ad : Addr} {m c : Nat} {news : List Value} (hl : news.length = m * size) (hnews : ∀ j u, news[j]? = some u → w.cell? (ad.add j) = some u)
    (h1 : ∀ u ∈ news, u.oneCell' = true) (hs : a.eval s = v) (hx : a.eval x = .slice (some ad) m c) (hby : (n + m) * bytes ≤ 140737488355328) (hbase : base ≤ w.heap.size)
    (h : ∀ v' w', w'.ownsRow base e size v' (n + m) (xs ++ news) → w.grownBy w' v.ownBlock → (v'.ownBlock = v.ownBlock ∨ v'.ownBlock = some w.heap.size) → S w' ∧ wpAnyH P md l.toArray Q S fuel (listed.setIfInBounds i true) (a.put oi.dst v') w') :
    wpAnyH P md l.toArray Q S (fuel + 1) listed a w := by
  obtain ⟨v', w', hrun, q1, q2, q3⟩ := exec_app_at (P := P) (w := w) (o := oi) (a := a) E ho hown hl hnews h1 hs hx hby hbase
  obtain ⟨g1, g2⟩ := h v' w' q1 q2 q3
  exact takeV hi hr hw hrun g1 g2
/-- Two of which either may come up first. -/
theorem takeV2 {i j : Nat} {oi oj : Oper} {r r' : List Oper} {fuel : Nat} {listed : Array Bool} {a : Act} {w wi wj : World} {vi vj : Value} (hi : l.drop i = oi :: r) (hj : l.drop j = oj :: r')
    (hr : Region.ready md l.toArray listed = [i, j]) (hw : Region.wanted oi (yielded l.toArray a.tmps) = true) (hw' : Region.wanted oj (yielded l.toArray a.tmps) = true)
    (hx : (execOp a.eval oi).run P w = .ok (.value vi) wi) (hS : S wi) (hx' : (execOp a.eval oj).run P w = .ok (.value vj) wj) (hS' : S wj)
    (h : wpAnyH P md l.toArray Q S fuel (listed.setIfInBounds i true) (a.put oi.dst vi) wi) (h' : wpAnyH P md l.toArray Q S fuel (listed.setIfInBounds j true) (a.put oj.dst vj) wj) : wpAnyH P md l.toArray Q S (fuel + 1) listed a w :=
  takeC2 hi hj hr hw hw' (fun K hK => by unfold Oper.wp; rw [hx]; exact hK.out _ _ hS (fun _ => h)) (fun K hK => by unfold Oper.wp; rw [hx']; exact hK.out _ _ hS' (fun _ => h'))
end
end Go.Proofs.YtkinhhkodaacjaaGreatDoor
namespace Go.Proofs.YtkinhhkodaacjaaGreatDoor
open Go.RowKit

section
variable {α : Type} {enc : α → List Value} {size : Nat} {P : Program} {t : TypeId}
/-- A part of what reads reads. -/
theorem Rd.part {w : World} {a : Option Addr} {n cap : Nat} {l : List α} (h : Rd enc size w (.slice a n cap) l) (i k : Nat) (hik : i ≤ k) (hk : k ≤ l.length) : Rd enc size w (sliced a i k cap size) ((l.take k).drop i) := by
  obtain ⟨a', cap', e, h1, h2, h3, h5, h4⟩ := h
  simp only [Value.slice.injEq] at e
  obtain ⟨rfl, rfl, rfl⟩ := e
  have hlen : ((l.take k).drop i).length = k - i := by simp; omega
  refine ⟨if cap = i then a else a.map (·.add (i * size)), cap - i, ?_, ?_, by omega, by omega, ?_, ?_⟩
  · unfold sliced; rw [hlen]
  · rw [hlen]; omega
  · intro hn
    split at hn
    · have := h5 hn; omega
    · cases a with
      | none => have := h5 rfl; omega
      | some ad => simp at hn
  · by_cases hz : k = i
    · exact .inl (List.eq_nil_of_length_eq_zero (by rw [hlen]; omega))
    · have hne : l ≠ [] := by rintro rfl; simp at hk; omega
      obtain ⟨b, off, rfl, hlt, hc⟩ := h4.resolve_left hne
      refine .inr ⟨b, off + i * size, ?_, hlt, (hc.take k).drop i⟩
      rw [if_neg (by omega), Option.map_some, Addr.add_lit]
theorem run_slice_from {w : World} {v : Value} {l : List α} (ht : P.underlying t = some (.slice (P.elem t))) (hs : ∀ W, (sizeOf (P.elem t)).run P W = .ok size W) (h : Rd enc size w v l) {k : Nat} (hk : k ≤ l.length) (kk : IntKind) :
    ∃ v2, (∀ W, (Instr.sliceAt t v (some (.int kk (k : Int))) none none).run P W = .ok v2 W) ∧ ∀ W, Rd enc size W v l → Rd enc size W v2 (l.drop k) := by
  obtain ⟨a, cap, rfl, h1, h2, h3⟩ := h.shape
  refine ⟨sliced a k l.length cap size, fun W => ?_, fun W h => by have := h.part k l.length hk (Nat.le_refl _); rwa [List.take_length] at this⟩
  rw [run_sliceAt_slice (P := P) (w := W) t _ _ _ _ ht, run_slice_l (P := P) (w := W) t a l.length cap ht kk k (by omega) (by omega), hs]
  rfl
theorem run_slice_upto {w : World} {v : Value} {l : List α} (ht : P.underlying t = some (.slice (P.elem t))) (hs : ∀ W, (sizeOf (P.elem t)).run P W = .ok size W) (h : Rd enc size w v l) {k : Nat} (hk : k ≤ l.length) (kk : IntKind) :
    ∃ v2, (∀ W, (Instr.sliceAt t v none (some (.int kk (k : Int))) none).run P W = .ok v2 W) ∧ ∀ W, Rd enc size W v l → Rd enc size W v2 (l.take k) := by
  obtain ⟨a, cap, rfl, h1, h2, h3⟩ := h.shape
  refine ⟨sliced a 0 k cap size, fun W => ?_, fun W h => by have := h.part 0 k (by omega) hk; rwa [List.drop_zero] at this⟩
  rw [run_sliceAt_slice (P := P) (w := W) t _ _ _ _ ht, run_slice_h (P := P) (w := W) t a l.length cap ht kk k (by omega) (by omega), hs]
  rfl
theorem run_slice_mid {w : World} {v : Value} {l : List α} (ht : P.underlying t = some (.slice (P.elem t))) (hs : ∀ W, (sizeOf (P.elem t)).run P W = .ok size W) (h : Rd enc size w v l) {i k : Nat} (hik : i ≤ k) (hk : k ≤ l.length) (ki kk : IntKind) :
    ∃ v2, (∀ W, (Instr.sliceAt t v (some (.int ki (i : Int))) (some (.int kk (k : Int))) none).run P W = .ok v2 W) ∧ ∀ W, Rd enc size W v l → Rd enc size W v2 ((l.take k).drop i) := by
  obtain ⟨a, cap, rfl, h1, h2, h3⟩ := h.shape
  refine ⟨sliced a i k cap size, fun W => ?_, fun W h => h.part i k hik hk⟩
  rw [run_sliceAt_slice (P := P) (w := W) t _ _ _ _ ht, run_slice_lh (P := P) (w := W) t a l.length cap ht ki kk i k (by omega) (by omega) (by omega), hs]
  rfl
theorem exec_slice {w : World} {o : Oper} {ac : Act} {x : Operand} {lo hi : Option Operand} {v v2 : Value} {l h : Option Value} (ho : o.op = .slice t x lo hi none) (hx : ac.eval x = v) (hl : lo.map ac.eval = l) (hh : hi.map ac.eval = h)
    (hr : (Instr.sliceAt t v l h none).run P w = .ok v2 w) : (execOp ac.eval o).run P w = .ok (.value v2) w := by
  simp [execOp, ho, hx, hl, hh, hr, Result.andThen]
end

section
variable {P : Program} {l : List Oper} {Q : Exit → Act → World → Prop} {md : Region.Mode} {S : World → Prop}
theorem exec_appS {w : World} {o : Oper} {ac : Act} {t e : TypeId} {z : Value} {size bytes base : Nat} (E : Elem P t e z size bytes) {s x : Operand} (ho : o.op = .call { callee := .builtin .append, args := #[s, x], argTypes := #[t, t] })
    {v xv : Value} {n m : Nat} {xs news : List Value} (hown : w.ownsRow base e size v n xs) (hsrc : Src w xv m news size) (hs : ac.eval s = v) (hx : ac.eval x = xv) (hby : (n + m) * bytes ≤ 140737488355328) (hbase : base ≤ w.heap.size) :
    ∃ v' w', (execOp ac.eval o).run P w = .ok (.value v') w' ∧ w'.ownsRow base e size v' (n + m) (xs ++ news) ∧ w.grownBy w' v.ownBlock := by
  obtain ⟨v', w', hr, h2, h3, h4⟩ := run_app (ty := o.type) E hown hsrc hby hbase
  refine ⟨v', w', ?_, h2, h3⟩
  unfold execOp
  simp only [ho, resolve, invoke, builtin, Sem.run_bind, Sem.run_pure, Result.andThen_ok, List.map_toArray, List.map_cons, List.map_nil, hs, hx, hr]
/-- An append of whatever reads. -/
theorem takeAppS {i : Nat} {oi : Oper} {r : List Oper} {fuel : Nat} {listed : Array Bool} {a : Act} {w : World} {t e : TypeId} {z : Value} {size bytes base : Nat} (E : Elem P t e z size bytes) (hi : l.drop i = oi :: r)
    (hr : Region.ready md l.toArray listed = [i]) (hw : Region.wanted oi (yielded l.toArray a.tmps) = true) {s x : Operand} (ho : oi.op = .call { callee := .builtin .append, args := #[s, x], argTypes := #[t, t] })
    {v xv : Value} {n m : Nat} {xs news : List Value} (hown : w.ownsRow base e size v n xs) (hsrc : Src w xv m news size) (hs : a.eval s = v) (hx : a.eval x = xv) (hby : (n + m) * bytes ≤ 140737488355328) (hbase : base ≤ w.heap.size)
    (h : ∀ v' w', w'.ownsRow base e size v' (n + m) (xs ++ news) → w.grownBy w' v.ownBlock → S w' ∧ wpAnyH P md l.toArray Q S fuel (listed.setIfInBounds i true) (a.put oi.dst v') w') :
    wpAnyH P md l.toArray Q S (fuel + 1) listed a w := by
  obtain ⟨v', w', hrun, q1, q2⟩ := exec_appS (P := P) (w := w) (o := oi) (ac := a) E ho hown hsrc hs hx hby hbase
  obtain ⟨g1, g2⟩ := h v' w' q1 q2
  exact takeV hi hr hw hrun g1 g2
end
end Go.Proofs.YtkinhhkodaacjaaGreatDoor
namespace Go.Proofs.YtkinhhkodaacjaaGreatDoor
open Go.RowKit

/-- Cells with some others in their place. -/
def putAt (old : List Value) (off : Nat) (cs : List Value) : List Value := old.take off ++ (cs ++ old.drop (off + cs.length))
theorem grownRow (w : World) (b : Nat) (cs : Array Value) : w.grownBy (w.setRow b cs) (some b) := ⟨rfl, rfl, rfl, by simp [World.setRow], fun k _ hk => setRow_other w b k _ (fun e => hk (by rw [e]))⟩
/-- Two blocks of two types are two. -/
theorem blk_ne {W : World} {a b : Nat} {s t : TypeId} {cs ds : Array Value} (h : Blk W a s cs) (g : Blk W b t ds) (hne : s ≠ t) : a ≠ b := fun e => by
  subst e
  rw [Blk, show W.heap[a]? = _ from h] at g
  cases g
  exact hne rfl
section
variable {P : Program} {w : World} {o : Oper} {a : Act} {t : TypeId} {n : Nat}
theorem exec_storePart (h : Wide P t n) {x y : Operand} (ho : o.op = .store t x y) {g off : Nat} (hx : a.eval x = .pointer (some ⟨g, off, none⟩)) {cs : List Value} (hy : a.eval y = .agg cs.toArray) (hl : cs.length = n)
    (h1 : ∀ u ∈ cs, u.oneCell' = true) {te : TypeId} {old : List Value} (hg : Blk w g te old.toArray) (ho' : off + n ≤ old.length) :
    (execOp a.eval o).run P w = .ok .skip (w.setRow g (putAt old off cs).toArray) ∨ (execOp a.eval o).run P w = .ok (.value undef) (w.setRow g (putAt old off cs).toArray) := by
  have hst := run_storeCells_at P g off te cs 0 old.toArray w hg (by simp; omega) h1
  simp only [Nat.add_zero, List.append_assoc] at hst
  obtain ⟨inf, hinf⟩ := h.some
  have hsz := h.size hinf
  have hsv : (storeVar t ⟨g, off, none⟩ (.agg cs.toArray)).run P w = .ok () (w.setRow g (putAt old off cs).toArray) := by
    simp [storeVar, sizeOf, typeInfo, hinf, Value.cells, hl, hsz]
    exact hst
  first
  | exact .inl (by simp [execOp, ho, hx, hy, Instr.storeAt, Instr.sureAddr, hsv, Result.andThen])
  | exact .inr (by simp [execOp, ho, hx, hy, Instr.storeAt, Instr.sureAddr, hsv, Result.andThen])
theorem Blk.part {g : Nat} {te : TypeId} {old cs : Array Value} (hg : Blk w g te old) : Blk (w.setRow g cs) g te cs := setRow_heap w g old cs te _ hg
theorem wpList_storePart {ops : Array Oper} {rest : List Oper} {Q : Exit → Act → World → Prop} (h : Wide P t n) {x y : Operand} (ho : o.op = .store t x y) (hw : Region.wanted o (yielded ops a.tmps) = true) {g off : Nat} (hx : a.eval x = .pointer (some ⟨g, off, none⟩)) {cs : List Value} (hy : a.eval y = .agg cs.toArray) (hl : cs.length = n)
    (h1 : ∀ u ∈ cs, u.oneCell' = true) {te : TypeId} {old : List Value} (hg : Blk w g te old.toArray) (ho' : off + n ≤ old.length)
    (hK : ∀ W1, Blk W1 g te (putAt old off cs).toArray → w.grownBy W1 (some g) → wpList P ops Q rest (a.put o.dst undef) W1) : wpList P ops Q (o :: rest) a w :=
  wpList_skipped hw (exec_storePart h ho hx hy hl h1 hg ho') (hK _ hg.part (grownRow w g _))
end
end Go.Proofs.YtkinhhkodaacjaaGreatDoor
namespace Go.Proofs.YtkinhhkodaacjaaGreatDoor
open Go.RowKit

def imin (x y : Int) : Int := if y < x then y else x
def imax (x y : Int) : Int := if x < y then y else x
theorem imin_eq (x y : Int) : imin x y = min x y := by unfold imin; split <;> omega
theorem imax_eq (x y : Int) : imax x y = max x y := by unfold imax; split <;> omega
theorem imin_le (x y : Int) : imin x y ≤ x ∧ imin x y ≤ y ∧ (imin x y = x ∨ imin x y = y) := by unfold imin; split <;> omega
theorem imax_le (x y : Int) : x ≤ imax x y ∧ y ≤ imax x y ∧ (imax x y = x ∨ imax x y = y) := by unfold imax; split <;> omega
section
variable {P : Program} {w : World} {o : Oper} {a : Act} {x y : Operand} {u v : Int} {ts : Array TypeId} {k : IntKind}
theorem exec_min (ho : o.op = .call { callee := .builtin .min, args := #[x, y], argTypes := ts }) (hx : a.eval x = .int k u) (hy : a.eval y = .int k v) : (execOp a.eval o).run P w = .ok (.value (.int k (imin u v))) w := by
  unfold execOp
  simp only [ho, resolve, invoke, builtin, Sem.run_bind, Sem.run_pure, Result.andThen_ok, List.map_toArray, List.map_cons, List.map_nil, hx, hy, run_min_int2]
  rfl
variable {ops : Array Oper} {rest : List Oper} {Q : Exit → Act → World → Prop} {F : Fence} {nF : Nat}
theorem wpList_min (ho : o.op = .call { callee := .builtin .min, args := #[x, y], argTypes := ts }) (hw : Region.wanted o (yielded ops a.tmps) = true) (hx : a.eval x = .int k u) (hy : a.eval y = .int k v) (hK : wpList P ops Q rest (a.put o.dst (.int k (imin u v))) w) : wpList P ops Q (o :: rest) a w :=
  wpList_val hw (exec_min ho hx hy) hK
theorem wpListIn_min (ho : o.op = .call { callee := .builtin .min, args := #[x, y], argTypes := ts }) (hw : Region.wanted o (yielded ops a.tmps) = true) (hx : a.eval x = .int k u) (hy : a.eval y = .int k v) (hK : wpListIn F nF P ops Q rest (a.put o.dst (.int k (imin u v))) w) : wpListIn F nF P ops Q (o :: rest) a w :=
  wpListIn_val hw (by simp [Oper.about, ho, resolve, Target.leads, Sem.run_pure]) (by rw [ho]; simp) (exec_min ho hx hy) hK
theorem exec_max (ho : o.op = .call { callee := .builtin .max, args := #[x, y], argTypes := ts }) (hx : a.eval x = .int k u) (hy : a.eval y = .int k v) : (execOp a.eval o).run P w = .ok (.value (.int k (imax u v))) w := by
  unfold execOp
  simp only [ho, resolve, invoke, builtin, Sem.run_bind, Sem.run_pure, Result.andThen_ok, List.map_toArray, List.map_cons, List.map_nil, hx, hy, run_max_int2]
  rfl
theorem wpList_max (ho : o.op = .call { callee := .builtin .max, args := #[x, y], argTypes := ts }) (hw : Region.wanted o (yielded ops a.tmps) = true) (hx : a.eval x = .int k u) (hy : a.eval y = .int k v) (hK : wpList P ops Q rest (a.put o.dst (.int k (imax u v))) w) : wpList P ops Q (o :: rest) a w :=
  wpList_val hw (exec_max ho hx hy) hK
end
end Go.Proofs.YtkinhhkodaacjaaGreatDoor
namespace Go.Proofs.YtkinhhkodaacjaaGreatDoor
open Go.RowKit

section
variable {P : Program} {l n : Nat} {Q : Exit → Act → World → Prop} {ops : Array Oper} {md : Region.Mode}
theorem oper_in {o : Oper} {a : Act} {w : World} {K : Act → World → Prop} (hd : ∀ c, o.op ≠ .defer c) (h : o.wp P a w K Q) : o.wpIn (Fence.wide.inRound l) n P a w K Q := by
  refine ⟨fun _ _ => trivial, ?_⟩
  rw [Oper.semAt_plain _ _ _ hd]
  unfold Oper.wp at h
  generalize (execOp a.eval o).run P w = r at *
  cases r with
  | ok x w' =>
    cases x <;> simp only [Oper.upon, Oper.uponIn] at h ⊢
    case value => exact h
    case skip => exact h
    case defer => exact h
    case enter => exact ⟨fun h0 => (by simp [Fence.wide] at h0), CallsIn.inRound l (callsIn_wide.2 (Calls.mono h (fun e w'' he => by cases e <;> exact he)))⟩
    case row => exact ⟨fun h0 => (by simp [Fence.wide] at h0), fun c cs _ => let ⟨v, w', r, s⟩ := h c cs; ⟨v, w', r, stepsIn_wide.2 s⟩⟩
  | halt x w' => cases x <;> simp only [Oper.upon, Oper.uponIn] at h ⊢ <;> first | exact h | exact (h : False).elim
theorem wpOp_in {i : Nat} {a : Act} {w : World} {K : Act → World → Prop} (hd : ∀ o ∈ ops, ∀ c, o.op ≠ .defer c) (hQ : ¬ LetsOut Q) (h : wpOp P ops Q i K a w) : wpOpIn (Fence.wide.inRound l) n P ops Q i K a w := by
  unfold wpOp at h
  unfold wpOpIn
  split
  · rename_i ho
    simpa [ho] using h
  · rename_i o ho
    simp only [ho] at h
    by_cases hw : Region.wanted o (yielded ops a.tmps) = true
    · rw [if_pos hw] at h ⊢
      rcases h with h | h
      · exact oper_in (hd o (Array.mem_of_getElem? ho)) h
      · exact absurd h.2 hQ
    · rw [if_neg hw] at h ⊢
      exact ⟨fun _ _ => trivial, h⟩
theorem wpAny_in (hd : ∀ o ∈ ops, ∀ c, o.op ≠ .defer c) (hQ : ¬ LetsOut Q) : ∀ (fuel : Nat) (listed : Array Bool) (a : Act) (w : World), wpAny P md ops Q fuel listed a w → wpAnyIn (Fence.wide.inRound l) n P md ops Q fuel listed a w
  | 0, _, _, _, h => h
  | fuel + 1, _, _, _, h => ⟨h.1, fun i hi => wpOp_in hd hQ (wpOp_mono (fun a' w' h' => wpAny_in hd hQ fuel _ a' w' h') (h.2 i hi))⟩
theorem wpIn_region_held_drew {id : Nat} {a : Act} {w : World} {S : World → Prop} (hm : P.follows .mixedOrders = true) (hd : (ops.toList.all fun o => match o.op with | .defer _ => false | _ => true) = true) (hQ : ¬ LetsOut Q) (hS : S w.drew)
    (h : S w.drew → wpAnyH P .any ops Q S ops.size (Array.replicate ops.size false) a w.drew) : (Code.region id ops true).wpIn (Fence.wide.inRound l) n P Q a w :=
  wpIn_region_any hm (wpAny_in (fun o ho c hc => by
    have := List.all_eq_true.1 hd o (by simpa using ho)
    rw [hc] at this
    cases this) hQ _ _ _ _ (wpAny_of_held _ _ _ _ (h hS)))
end
end Go.Proofs.YtkinhhkodaacjaaGreatDoor
namespace Go.Proofs.YtkinhhkodaacjaaGreatDoor
open Go.RowKit

/-- Blocks that are known whole, and that nothing below w's end has changed. -/
def Bx (w W : World) (l : List (Nat × TypeId × Array Value)) : Prop := (∀ x ∈ l, Blk W x.1 x.2.1 x.2.2) ∧ Below w.heap.size w W
section
variable {w W W' : World} {l : List (Nat × TypeId × Array Value)}
theorem Bx.nil (w : World) : Bx w w [] := ⟨by simp, Below.refl _ _⟩
theorem Bx.get (h : Bx w W l) (i : Nat) {b : Nat} {t : TypeId} {cs : Array Value} (hi : l[i]? = some (b, t, cs)) : Blk W b t cs := h.1 _ (List.mem_of_getElem? hi)
theorem Bx.at (h : Bx w W l) (i j : Nat) {b : Nat} {t : TypeId} {cs : Array Value} {v : Value} (hi : l[i]? = some (b, t, cs)) (hj : cs[j]? = some v) : W.cell? ⟨b, j, none⟩ = some v := ((h.get i hi).cell j).trans hj
theorem Bx.fz (h : Bx w W l) (i j : Nat) {b : Nat} {t : TypeId} {cs : Array Value} (hi : l[i]? = some (b, t, cs)) : W.frozen? ⟨b, j, none⟩ = false := (h.get i hi).frozen j
theorem Bx.keep (h : Bx w W l) (hb : Below W.heap.size W W') : Bx w W' l := ⟨fun x hx => (h.1 x hx).keep hb, h.2.trans (hb.mono h.2.size)⟩
theorem Bx.drew (h : Bx w W l) : Bx w W.drew l := h.keep (Below.refl _ _).drew
theorem Bx.skip (h : Bx w W l) (o : Obj) : Bx w (W.alloc o) l := h.keep (below1 W o)
theorem Bx.new (h : Bx w W l) {b : Nat} (cs : Array Value) (t : TypeId) (hb : W.heap.size = b) : Bx w (W.alloc (.cells cs t)) (l ++ [(b, t, cs)]) := by
  refine ⟨fun x hx => ?_, (h.skip _).2⟩
  rcases List.mem_append.1 hx with hx | hx
  · exact (h.1 x hx).alloc _
  · obtain rfl := List.mem_singleton.1 hx
    exact Blk.new' hb
theorem Bx.set (h : Bx w W l) (k : Nat) {b : Nat} {t : TypeId} {cs : Array Value} (hk : l[k]? = some (b, t, cs)) (hd : ∀ x ∈ l.eraseIdx k, x.1 ≠ b) (hb : w.heap.size ≤ b) (i : Nat) (v : Value) :
    Bx w (W.setCell ⟨b, i, none⟩ v) (l.set k (b, t, cs.setIfInBounds i v)) := by
  refine ⟨fun x hx => ?_, h.2.setCell (by simpa using hb) _⟩
  obtain ⟨j, hj⟩ := List.getElem?_of_mem hx
  by_cases hjk : k = j
  · subst hjk
    have hlt := (List.getElem?_eq_some_iff.1 hk).1
    rw [List.getElem?_set_self hlt] at hj
    cases hj
    exact (h.get k hk).set i v
  · rw [List.getElem?_set_ne hjk] at hj
    have hm : x ∈ l.eraseIdx k := List.mem_iff_getElem?.2 (by
      rcases Nat.lt_or_gt_of_ne hjk with hlt | hlt
      · exact ⟨j - 1, by rw [List.getElem?_eraseIdx, if_neg (by omega), show j - 1 + 1 = j by omega]; exact hj⟩
      · exact ⟨j, by rw [List.getElem?_eraseIdx, if_pos hlt]; exact hj⟩)
    exact (h.1 x (List.mem_of_getElem? hj)).far (fun e => hd x hm e) v
theorem Bx.far (h : Bx w W l) {p : Addr} (hd : ∀ x ∈ l, x.1 ≠ p.block) (hb : w.heap.size ≤ p.block) (v : Value) : Bx w (W.setCell p v) l :=
  ⟨fun x hx => (h.1 x hx).far (hd x hx) v, h.2.setCell hb _⟩
theorem Bx.lt (h : Bx w W l) (i : Nat) {b : Nat} {t : TypeId} {cs : Array Value} (hi : l[i]? = some (b, t, cs)) : b < W.heap.size := (h.get i hi).lt
/-- Behind a turn of one row that the call owns. -/
theorem Bx.kept (h : Bx w W l) {base : Nat} {e : TypeId} {size : Nat} {v : Value} {n : Nat} {xs : List Value} (hg : W.grownBy W' v.ownBlock) (ho : W.ownsRow base e size v n xs)
    (hd : ∀ x ∈ l, v.ownBlock ≠ some x.1) (hb : w.heap.size ≤ base) : Bx w W' l :=
  ⟨fun x hx => (h.1 x hx).kept hg (fun e => hd x hx e.symm), below_app h.2 hb ho hg h.2.size⟩
end
end Go.Proofs.YtkinhhkodaacjaaGreatDoor
namespace Go.Proofs.YtkinhhkodaacjaaGreatDoor
open Go.RowKit

section
variable {P : Program} {w : World} {fn : Func} {tmps : Array Value} {ty : TypeId} {n : Nat} {a t : Tmp}
theorem results_cell1 (h : fn.results = #[.cell a ty]) (hw : Wide P ty n) {b : Nat} (hp : tmps.getD a undef = .pointer (some ⟨b, 0, none⟩)) {cs : List Value} (hl : cs.length = n)
    (hc : ∀ j u, cs[j]? = some u → w.cell? ⟨b, 0 + j, none⟩ = some u) : (results fn tmps).run P w = .ok (.agg cs.toArray) w := by
  have hld := run_loadW (P := P) hw hl hc
  have hp' : tmps[a]?.getD undef = .pointer (some ⟨b, 0, none⟩) := by simpa using hp
  unfold results
  simp [h, hp', asAddr, hld]
theorem results_cell2 (h : fn.results = #[.cell a ty, .tmp t]) (hw : Wide P ty n) {b : Nat} (hp : tmps.getD a undef = .pointer (some ⟨b, 0, none⟩)) {cs : List Value} (hl : cs.length = n)
    (hc : ∀ j u, cs[j]? = some u → w.cell? ⟨b, 0 + j, none⟩ = some u) : (results fn tmps).run P w = .ok (.tuple #[.agg cs.toArray, tmps.getD t undef]) w := by
  have hld := run_loadW (P := P) hw hl hc
  have hp' : tmps[a]?.getD undef = .pointer (some ⟨b, 0, none⟩) := by simpa using hp
  unfold results
  simp [h, hp', asAddr, hld]
end
end Go.Proofs.YtkinhhkodaacjaaGreatDoor
namespace Go.Proofs.YtkinhhkodaacjaaGreatDoor
open Go.RowKit

section
variable {α : Type} {enc : α → List Value} {size : Nat}
theorem flat_set (hs : ∀ x, (enc x).length = size) : ∀ (l : List α) (i : Nat) (x : α), i < l.length → (l.set i x).flatMap enc = (l.flatMap enc).take (i * size) ++ enc x ++ (l.flatMap enc).drop (i * size + size)
  | [], i, x, h => absurd h (by simp)
  | y :: l, 0, x, _ => by
    simp only [List.set_cons_zero, List.flatMap_cons, Nat.zero_mul, List.take_zero, List.nil_append, Nat.zero_add]
    rw [List.drop_append_of_le_length (by rw [hs]; exact Nat.le_refl _), List.drop_eq_nil_of_le (by rw [hs]; exact Nat.le_refl _), List.nil_append]
  | y :: l, i + 1, x, h => by
    simp only [List.set_cons_succ, List.flatMap_cons]
    rw [flat_set hs l i x (by simpa using h)]
    have e1 : (i + 1) * size = (enc y).length + i * size := by rw [hs, Nat.succ_mul, Nat.add_comm]
    rw [e1, Nat.add_assoc, List.take_length_add_append, List.drop_length_add_append]
    simp [List.append_assoc]

/-- A store of a struct at a place of a row that a call owns. -/
theorem exec_storeOwn {P : Program} {w : World} {o : Oper} {a : Act} {t : TypeId} {base : Nat} (hw : Wide P t size) (hs : ∀ x, (enc x).length = size) (h1 : ∀ x, ∀ u ∈ enc x, u.oneCell' = true) {l : List α} {g n cap i : Nat} (hn : l.length = n)
    (h : w.ownsRow base t size (.slice (some ⟨g, 0, none⟩) n cap) n (l.flatMap enc)) {x y : Operand} (ho : o.op = .store t x y) (hx : a.eval x = .pointer (some ⟨g, i * size, none⟩)) {u : α} (hy : a.eval y = .agg (enc u).toArray) (hi : i < n) :
    ∃ w', ((execOp a.eval o).run P w = .ok .skip w' ∨ (execOp a.eval o).run P w = .ok (.value undef) w') ∧ w'.ownsRow base t size (.slice (some ⟨g, 0, none⟩) n cap) n ((l.set i u).flatMap enc) ∧ w.grownBy w' (some g) := by
  rcases h.2 with ⟨h0, -⟩ | ⟨g', cap', cur, hv, hg, hh, q1, q2, q3, q4⟩
  · cases h0
  cases hv
  have hc : (i + 1) * size ≤ n * size := Nat.mul_le_mul_right _ hi
  have hc2 : n * size ≤ cap * size := Nat.mul_le_mul_right _ q1
  rw [Nat.succ_mul] at hc
  have hst := run_storeCells_at P g (i * size) t (enc u) 0 cur w hh (by rw [hs, q3]; omega) (h1 u)
  obtain ⟨inf, hinf⟩ := hw.some
  have hsz := hw.size hinf
  have hsv : (storeVar t ⟨g, i * size, none⟩ (.agg (enc u).toArray)).run P w = .ok () (w.setRow g (cur.toList.take (i * size) ++ (enc u ++ cur.toList.drop (i * size + size))).toArray) := by
    simp only [Nat.add_zero, hs, List.append_assoc] at hst
    simp [storeVar, sizeOf, typeInfo, hinf, Value.cells, hs, hsz]
    exact hst
  obtain ⟨CS, hCS⟩ : ∃ C, C = (cur.toList.take (i * size) ++ (enc u ++ cur.toList.drop (i * size + size))).toArray := ⟨_, rfl⟩
  rw [← hCS] at hsv
  refine ⟨w.setRow g CS, ?_, ⟨?_, .inr ⟨g, cap, CS, rfl, hg, setRow_heap w g cur _ t _ hh, q1, q2, ?_, ?_⟩⟩, ⟨rfl, rfl, rfl, by simp, fun k hk hne => setRow_other w g k _ (fun e => hne (by rw [e]))⟩⟩
  · first
    | exact .inl (by simp [execOp, ho, hx, hy, Instr.storeAt, Instr.sureAddr, hsv, Result.andThen])
    | exact .inr (by simp [execOp, ho, hx, hy, Instr.storeAt, Instr.sureAddr, hsv, Result.andThen])
  · rw [flat_len hs, List.length_set, hn]
  · have : cur.toList.length = cap * size := by rw [Array.length_toList]; exact q3
    rw [hCS]
    simp [hs]
    omega
  · have hl : cur.toList.length = cap * size := by rw [Array.length_toList]; exact q3
    rw [flat_set hs l i u (by omega), ← q4]
    rw [hCS]
    show (cur.toList.take (i * size) ++ (enc u ++ cur.toList.drop (i * size + size))).take (n * size) = _
    have e1 : n * size = (cur.toList.take (i * size)).length + ((enc u).length + (n * size - (i * size + size))) := by rw [List.length_take, hs]; omega
    rw [List.take_take, Nat.min_eq_left (by omega), List.drop_take, List.append_assoc]
    conv => lhs; rw [e1]
    rw [List.take_length_add_append, List.take_length_add_append]
/-- The row without its end. -/
theorem owns_cut (hs : ∀ x, (enc x).length = size) {w : World} {base g n k cap : Nat} {t : TypeId} {l : List α} (hl : l.length = n) (hk : k ≤ n) (h : w.ownsRow base t size (.slice (some ⟨g, 0, none⟩) n cap) n (l.flatMap enc)) :
    w.ownsRow base t size (.slice (some ⟨g, 0, none⟩) k cap) k ((l.take k).flatMap enc) := by
  rcases h.2 with ⟨h0, -⟩ | ⟨g', cap', cur, hv, hg, hh, q1, q2, q3, q4⟩
  · cases h0
  cases hv
  refine ⟨by rw [flat_len hs]; simp; rw [Nat.min_eq_left (by omega)], .inr ⟨g, cap, cur, rfl, hg, hh, by omega, q2, q3, ?_⟩⟩
  have e : (l.take k).flatMap enc = (l.flatMap enc).take (k * size) := by
    have e1 : l.flatMap enc = (l.take k).flatMap enc ++ (l.drop k).flatMap enc := by rw [← List.flatMap_append, List.take_append_drop]
    have e2 : ((l.take k).flatMap enc).length = k * size := by rw [flat_len hs]; simp; rw [Nat.min_eq_left (by omega)]
    rw [e1, ← e2, List.take_left']
    rfl
  rw [e, ← q4, List.take_take, Nat.min_eq_left (Nat.mul_le_mul_right _ hk)]
end
theorem wpList_storeOwn {P : Program} {α : Type} {enc : α → List Value} {size : Nat} {w : World} {o : Oper} {ops : Array Oper} {rest : List Oper} {a : Act} {Q : Exit → Act → World → Prop} {t : TypeId} {base : Nat} (hw : Wide P t size) (hs : ∀ x, (enc x).length = size) (h1 : ∀ x, ∀ u ∈ enc x, u.oneCell' = true) {l : List α} {g n cap i : Nat} (hn : l.length = n)
    (h : w.ownsRow base t size (.slice (some ⟨g, 0, none⟩) n cap) n (l.flatMap enc)) {x y : Operand} (ho : o.op = .store t x y) (hwn : Region.wanted o (yielded ops a.tmps) = true) (hx : a.eval x = .pointer (some ⟨g, i * size, none⟩)) {u : α} (hy : a.eval y = .agg (enc u).toArray) (hi : i < n)
    (hK : ∀ w', w'.ownsRow base t size (.slice (some ⟨g, 0, none⟩) n cap) n ((l.set i u).flatMap enc) → w.grownBy w' (some g) → wpList P ops Q rest (a.put o.dst undef) w') : wpList P ops Q (o :: rest) a w := by
  obtain ⟨w', hr, q1, q2⟩ := exec_storeOwn (P := P) (w := w) (o := o) (a := a) hw hs h1 hn h ho hx hy hi
  exact wpList_skipped hwn hr (hK w' q1 q2)
theorem grow_none {w w' : World} {row : Option Nat} (h : Below w.heap.size w w') : w.grownBy w' row := ⟨h.os, h.tape, h.output, h.size, fun k hk _ => h.block k hk⟩
theorem grow_trans {w w' w'' : World} {row : Option Nat} (h : w.grownBy w' row) (h' : w'.grownBy w'' row) : w.grownBy w'' row := ⟨h'.os.trans h.os, h'.tape.trans h.tape, h'.output.trans h.output, Nat.le_trans h.size h'.size, fun k hk hne => (h'.block k (Nat.lt_of_lt_of_le hk h.size) hne).trans (h.block k hk hne)⟩
end Go.Proofs.YtkinhhkodaacjaaGreatDoor
namespace Go.Proofs.YtkinhhkodaacjaaGreatDoor
open Go.RowKit

/-- A word's value, if it were a number. -/
def valZ (s : List UInt8) : Int := if s.head? = some 45 then -(valN s.tail : Int) else (valN s : Int)
/-- A word as a number. -/
def numS (s : List UInt8) : Option Int := if -9223372036854775808 ≤ valZ s ∧ valZ s ≤ 9223372036854775807 ∧ decZ (valZ s) = s then some (valZ s) else none
theorem valZ_decZ (n : Int) : valZ (decZ n) = n := by
  unfold valZ
  by_cases h : n < 0
  · rw [decZ_neg h, if_pos (show (45 :: decN n.natAbs).head? = some 45 from rfl), List.tail_cons, valN_decN]; omega
  · rw [decZ_pos h, if_neg (decN_head _), valN_decN]; omega
theorem numS_iff {s : List UInt8} {n : Int} : numS s = some n ↔ (-9223372036854775808 ≤ n ∧ n ≤ 9223372036854775807) ∧ s = decZ n := by
  unfold numS
  constructor
  · intro h
    split at h
    · next h1 => simp only [Option.some.injEq] at h; subst h; exact ⟨⟨h1.1, h1.2.1⟩, h1.2.2.symm⟩
    · cases h
  · rintro ⟨⟨h1, h2⟩, rfl⟩
    rw [valZ_decZ, if_pos ⟨h1, h2, rfl⟩]
theorem numS_decZ {n : Int} (h : -9223372036854775808 ≤ n ∧ n ≤ 9223372036854775807) : numS (decZ n) = some n := numS_iff.2 ⟨h, rfl⟩
/-- What stands behind a sign. -/
def unsign (s : List UInt8) : List UInt8 := if s.head? = some 45 then s.tail else s
theorem unsign_decZ (n : Int) : unsign (decZ n) = decN n.natAbs := by
  unfold unsign
  by_cases h : n < 0
  · rw [decZ_neg h, if_pos (show (45 :: decN n.natAbs).head? = some 45 from rfl), List.tail_cons]
  · rw [decZ_pos h, if_neg (decN_head _)]
theorem valZ_unsign (s : List UInt8) : valZ s = if s.head? = some 45 then -(valN (unsign s) : Int) else (valN (unsign s) : Int) := by
  unfold valZ unsign
  split <;> rfl
theorem dig_bd {c : UInt8} (h : isDig c = true) : 48 ≤ c.toNat ∧ c.toNat ≤ 57 := by
  unfold isDig at h
  simpa only [Bool.and_eq_true, decide_eq_true_eq] using h
theorem take_snocB {α : Type} {l : List α} {k : Nat} {x : α} (h : l[k]? = some x) : l.take (k + 1) = l.take k ++ [x] := by
  obtain ⟨hk, rfl⟩ := List.getElem?_eq_some_iff.1 h
  rw [List.take_succ_eq_append_getElem hk]
theorem valN_take {l : List UInt8} {k : Nat} {c : UInt8} (h : l[k]? = some c) : valN (l.take (k + 1)) = 10 * valN (l.take k) + (c.toNat - 48) := by rw [take_snocB h, valN_snoc]
theorem valN_lt {l : List UInt8} : ∀ (k : Nat), (∀ c ∈ l.take k, isDig c = true) → valN (l.take k) < 10 ^ k
  | 0, _ => by simp [valN]
  | k + 1, h => by
    have h1 := valN_lt (l := l) k (fun x hx => h x (by rw [List.mem_take_iff_getElem] at hx ⊢; obtain ⟨j, hj, e⟩ := hx; exact ⟨j, by omega, e⟩))
    rw [Nat.pow_succ]
    cases hc : l[k]? with
    | none =>
      have hl := List.getElem?_eq_none_iff.1 hc
      rw [List.take_of_length_le (by omega)]
      rw [List.take_of_length_le hl] at h1
      omega
    | some c =>
      have h2 := dig_bd (h c (by rw [take_snocB hc]; simp))
      rw [valN_take hc]
      omega
/-- The word that a program of at most nineteen digits, and of wrapped numbers, reads is the number. -/
theorem num_prog {s : List UInt8} {n : Int} (hd : ∀ c ∈ unsign s, isDig c = true) (hl : (unsign s).length ≤ 19) (hn : n = if s.head? = some 45 then wrap64 (-(wrap64 (valN (unsign s)))) else wrap64 (valN (unsign s))) :
    numS s = if decZ n = s then some n else none := by
  have hw : ∀ x : Int, -9223372036854775808 ≤ wrap64 x ∧ wrap64 x ≤ 9223372036854775807 := fun x => by unfold wrap64; omega
  have hi : -9223372036854775808 ≤ n ∧ n ≤ 9223372036854775807 := by rw [hn]; split <;> exact hw _
  by_cases h : decZ n = s
  · rw [if_pos h]; exact numS_iff.2 ⟨hi, h.symm⟩
  · rw [if_neg h]
    cases hs : numS s with
    | none => rfl
    | some v =>
      obtain ⟨hv, rfl⟩ := numS_iff.1 hs
      refine absurd ?_ h
      congr 1
      rw [hn, unsign_decZ, valN_decN]
      by_cases h0 : v < 0
      · rw [if_pos (by rw [decZ_neg h0]; rfl)]
        unfold wrap64; omega
      · rw [if_neg (by rw [decZ_pos h0]; exact decN_head _)]
        unfold wrap64; omega
theorem num_bad {s : List UInt8} (h : (∃ c ∈ unsign s, isDig c = false) ∨ 19 < (unsign s).length) : numS s = none := by
  cases hs : numS s with
  | none => rfl
  | some v =>
    obtain ⟨hv, rfl⟩ := numS_iff.1 hs
    rw [unsign_decZ] at h
    rcases h with ⟨c, hc, h1⟩ | h
    · rw [decN_digs _ c hc] at h1; cases h1
    · have := decN_len 19 v.natAbs (by omega) (by have : (10:Nat) ^ 19 = 10000000000000000000 := rfl; omega)
      omega
/-- .. and of one that counts downwards, and looks at each digit whether the number is too great. -/
theorem num_ref {s : List UInt8} {n : Int} (hd : ∀ c ∈ unsign s, isDig c = true) (hb : valN (unsign s) ≤ 9223372036854775808) (hq : s.head? ≠ some 45 → valN (unsign s) ≠ 9223372036854775808) (hn : n = if s.head? = some 45 then -(valN (unsign s) : Int) else (valN (unsign s) : Int)) :
    numS s = if decZ n = s then some n else none := by
  have e : n = valZ s := by rw [hn, valZ_unsign]
  have hi : -9223372036854775808 ≤ n ∧ n ≤ 9223372036854775807 := by
    rw [hn]
    split
    · omega
    · next h => have := hq h; omega
  by_cases h : decZ n = s
  · rw [if_pos h]; exact numS_iff.2 ⟨hi, h.symm⟩
  · rw [if_neg h]
    cases hs : numS s with
    | none => rfl
    | some v =>
      obtain ⟨hv, rfl⟩ := numS_iff.1 hs
      rw [valZ_decZ] at e
      exact absurd (by rw [e]) h
theorem num_big {s : List UInt8} (h : 9223372036854775808 < valN (unsign s) ∨ (s.head? ≠ some 45 ∧ valN (unsign s) = 9223372036854775808)) : numS s = none := by
  cases hs : numS s with
  | none => rfl
  | some v =>
    obtain ⟨hv, rfl⟩ := numS_iff.1 hs
    rw [unsign_decZ, valN_decN] at h
    rcases h with h | ⟨h1, h2⟩
    · omega
    · by_cases h0 : v < 0
      · rw [decZ_neg h0] at h1; exact absurd rfl h1
      · omega
/-- A hexadecimal digit's value. -/
def hexV (c : UInt8) : Option Nat := if 48 ≤ c.toNat ∧ c.toNat ≤ 57 then some (c.toNat - 48) else if 97 ≤ c.toNat ∧ c.toNat ≤ 102 then some (c.toNat - 87) else none
theorem hexV_hexC {k : Nat} (h : k < 16) : hexV (hexC k) = some k := by
  have : ∀ k < 16, hexV (hexC k) = some k := by decide
  exact this k h
theorem hexC_hexV {c : UInt8} {k : Nat} (h : hexV c = some k) : hexC k = c ∧ k < 16 := by
  have : ∀ n < 256, ∀ k < 16, hexV (UInt8.ofNat n) = some k → hexC k = UInt8.ofNat n := by decide +kernel
  have hk : k < 16 := by
    unfold hexV at h
    split at h
    · simp at h; omega
    · split at h
      · simp at h; omega
      · cases h
  have := this c.toNat c.toNat_lt k hk (by simpa using h)
  exact ⟨by simpa using this, hk⟩
/-- Digits, two and two, as bytes. -/
def unhexL : List UInt8 → Option (List UInt8)
  | [] => some []
  | [_] => none
  | a :: b :: l => match hexV a, hexV b, unhexL l with
    | some x, some y, some r => some (UInt8.ofNat (16 * x + y) :: r)
    | _, _, _ => none
/-- A word as bytes. -/
def unhexW (s : List UInt8) : Option (List UInt8) := if s.head? = some 120 then unhexL s.tail else none
theorem unhexL_hexL : ∀ l : List UInt8, unhexL (hexL l) = some l
  | [] => rfl
  | c :: l => by
    have h := c.toNat_lt
    rw [hexL, unhexL, hexV_hexC (by omega), hexV_hexC (by omega), unhexL_hexL l]
    simp only
    rw [show 16 * (c.toNat / 16) + c.toNat % 16 = c.toNat by omega]
    simp
theorem hexL_unhexL : ∀ {l b : List UInt8}, unhexL l = some b → hexL b = l
  | [], b, h => by simp [unhexL] at h; subst h; rfl
  | [_], b, h => by simp [unhexL] at h
  | a :: c :: l, b, h => by
    rw [unhexL] at h
    cases h1 : hexV a with
    | none => rw [h1] at h; simp at h
    | some x =>
      cases h2 : hexV c with
      | none => rw [h1, h2] at h; simp at h
      | some y =>
        cases h3 : unhexL l with
        | none => rw [h1, h2, h3] at h; simp at h
        | some r =>
          rw [h1, h2, h3] at h
          simp only [Option.some.injEq] at h
          subst h
          obtain ⟨e1, q1⟩ := hexC_hexV h1
          obtain ⟨e2, q2⟩ := hexC_hexV h2
          have e : (UInt8.ofNat (16 * x + y)).toNat = 16 * x + y := by rw [UInt8.toNat_ofNat']; omega
          rw [hexL, e, show (16 * x + y) / 16 = x by omega, show (16 * x + y) % 16 = y by omega, e1, e2, hexL_unhexL h3]
theorem unhexW_iff {s b : List UInt8} : unhexW s = some b ↔ s = hexW b := by
  unfold unhexW
  constructor
  · intro h
    split at h
    · next hc =>
      cases s with
      | nil => cases hc
      | cons c l =>
        simp only [List.head?_cons, Option.some.injEq] at hc
        rw [hexW, hexL_unhexL h, hc]; rfl
    · cases h
  · rintro rfl
    rw [if_pos (show (hexW b).head? = some 120 from rfl)]
    exact unhexL_hexL b

/-- A text cut at the first of a byte. -/
def cutB (c : UInt8) : List UInt8 → Option (List UInt8 × List UInt8)
  | [] => none
  | a :: l => if a = c then some ([], l) else (cutB c l).map fun p => (a :: p.1, p.2)
theorem cutB_some {c : UInt8} : ∀ {l x y : List UInt8}, cutB c l = some (x, y) → l = x ++ c :: y ∧ c ∉ x
  | [], _, _, h => by cases h
  | a :: l, x, y, h => by
    unfold cutB at h
    split at h
    · next ha => simp only [Option.some.injEq, Prod.mk.injEq] at h; obtain ⟨rfl, rfl⟩ := h; subst ha; exact ⟨rfl, by simp⟩
    · next ha =>
      obtain ⟨p, hp, e⟩ := Option.map_eq_some_iff.1 h
      simp only [Prod.mk.injEq] at e
      obtain ⟨rfl, rfl⟩ := e
      obtain ⟨e, hn⟩ := cutB_some hp
      exact ⟨by rw [e]; rfl, by simp [hn, Ne.symm ha]⟩
theorem cutB_of {c : UInt8} : ∀ {x y : List UInt8}, c ∉ x → cutB c (x ++ c :: y) = some (x, y)
  | [], y, _ => by simp [cutB]
  | a :: x, y, h => by
    simp only [List.mem_cons, not_or] at h
    rw [List.cons_append, cutB, if_neg (Ne.symm h.1), cutB_of h.2]; rfl
theorem cutB_none {c : UInt8} : ∀ {l : List UInt8}, cutB c l = none ↔ c ∉ l
  | [] => by simp [cutB]
  | a :: l => by
    unfold cutB
    by_cases h : a = c
    · rw [if_pos h]; simp [h]
    · rw [if_neg h, Option.map_eq_none_iff, cutB_none]; simp [Ne.symm h]
/-- The parts between a byte's places. -/
def splitB (c : UInt8) : List UInt8 → List (List UInt8)
  | [] => [[]]
  | a :: l => if a = c then [] :: splitB c l else match splitB c l with
    | [] => [[a]]
    | x :: r => (a :: x) :: r
theorem splitB_ne (c : UInt8) : ∀ l, splitB c l ≠ []
  | [] => by simp [splitB]
  | a :: l => by
    unfold splitB
    split
    · simp
    · split <;> simp
/-- Words, one blank between two. -/
def joinB (c : UInt8) : List (List UInt8) → List UInt8
  | [] => []
  | [x] => x
  | x :: y :: r => x ++ c :: joinB c (y :: r)
theorem joinB_cons (c : UInt8) (x : List UInt8) {r : List (List UInt8)} (h : r ≠ []) : joinB c (x :: r) = x ++ c :: joinB c r := by
  cases r with
  | nil => exact absurd rfl h
  | cons y r => rfl
theorem joinB_splitB (c : UInt8) : ∀ l, joinB c (splitB c l) = l
  | [] => rfl
  | a :: l => by
    have ih := joinB_splitB c l
    unfold splitB
    by_cases h : a = c
    · rw [if_pos h, joinB_cons _ _ (splitB_ne c l), ih, h]; rfl
    · rw [if_neg h]
      cases hs : splitB c l with
      | nil => exact absurd hs (splitB_ne c l)
      | cons x r =>
        rw [hs] at ih
        simp only
        cases r with
        | nil => simp only [joinB] at ih ⊢; rw [ih]
        | cons y r => rw [joinB_cons _ _ (by simp)] at ih ⊢; rw [List.cons_append, ih]
theorem splitB_no {c : UInt8} : ∀ {l : List UInt8}, ∀ w ∈ splitB c l, c ∉ w
  | [], w, hw => by simp [splitB] at hw; subst hw; simp
  | a :: l, w, hw => by
    unfold splitB at hw
    by_cases h : a = c
    · rw [if_pos h] at hw
      rcases List.mem_cons.1 hw with rfl | hw
      · simp
      · exact splitB_no w hw
    · rw [if_neg h] at hw
      cases hs : splitB c l with
      | nil => exact absurd hs (splitB_ne c l)
      | cons x r =>
        rw [hs] at hw
        rcases List.mem_cons.1 hw with rfl | hw
        · have := splitB_no x (by rw [hs]; simp)
          simp [this, Ne.symm h]
        · exact splitB_no w (by rw [hs]; simp [hw])
theorem splitB_word {c : UInt8} : ∀ {x : List UInt8}, c ∉ x → splitB c x = [x]
  | [], _ => rfl
  | a :: x, h => by
    simp only [List.mem_cons, not_or] at h
    unfold splitB
    rw [if_neg (Ne.symm h.1), splitB_word h.2]
theorem splitB_app {c : UInt8} : ∀ {x : List UInt8} (l : List UInt8), c ∉ x → splitB c (x ++ c :: l) = x :: splitB c l
  | [], l, _ => by rw [List.nil_append, splitB, if_pos rfl]
  | a :: x, l, h => by
    simp only [List.mem_cons, not_or] at h
    rw [List.cons_append, splitB, if_neg (Ne.symm h.1), splitB_app l h.2]
theorem splitB_joinB {c : UInt8} : ∀ {ws : List (List UInt8)}, ws ≠ [] → (∀ w ∈ ws, c ∉ w) → splitB c (joinB c ws) = ws
  | [], h, _ => absurd rfl h
  | [x], _, h => splitB_word (h x (by simp))
  | x :: y :: r, _, h => by
    rw [joinB_cons _ _ (by simp), splitB_app _ (h x (by simp)), splitB_joinB (by simp) (fun w hw => h w (by simp [hw]))]
theorem mem_joinB {c x : UInt8} : ∀ {ws : List (List UInt8)} {w : List UInt8}, w ∈ ws → x ∈ w → x ∈ joinB c ws
  | [], _, h, _ => by cases h
  | [y], w, h, hx => by rw [List.mem_singleton.1 h] at hx; exact hx
  | y :: z :: r, w, h, hx => by
    rw [joinB_cons _ _ (by simp)]
    rcases List.mem_cons.1 h with rfl | h
    · exact List.mem_append.2 (.inl hx)
    · exact List.mem_append.2 (.inr (List.mem_cons.2 (.inr (mem_joinB h hx))))
theorem joinB_mem {c x : UInt8} : ∀ {ws : List (List UInt8)}, x ∈ joinB c ws → x = c ∨ ∃ w ∈ ws, x ∈ w
  | [], h => by cases h
  | [y], h => .inr ⟨y, by simp, h⟩
  | y :: z :: r, h => by
    rw [joinB_cons _ _ (by simp)] at h
    rcases List.mem_append.1 h with h | h
    · exact .inr ⟨y, by simp, h⟩
    · rcases List.mem_cons.1 h with h | h
      · exact .inl h
      · rcases joinB_mem h with h | ⟨w, hw, h⟩
        · exact .inl h
        · exact .inr ⟨w, by simp [hw], h⟩
end Go.Proofs.YtkinhhkodaacjaaGreatDoor
