/- Rows that a call owns: append whatever source, make, copy; one law each, with few things to give. -/
import Derived.WalkKit
import Derived.Lib.Hide
import Derived.Laws.CopyOwn
namespace Go.Proofs.Ytkinhhkodaacjaa
open Go.RowKit

/-- An element type's row of the table: t: the slice type, e: the element type. -/
structure Elem (P : Program) (t e : TypeId) (z : Value) (size bytes : Nat) : Prop where
  under : P.underlying t = some (.slice e)
  info : (P.info? e).map (fun i => (i.zero, i.size, i.bytes)) = some (some z, size, bytes)
  zs : z.cells.size = size
  pos : 0 < size
  byt : 0 < bytes

/-- A slice value whose elements' cells are news: nil, empty or not. -/
def Src (w : World) (x : Value) (m : Nat) (news : List Value) (size : Nat) : Prop :=
  ∃ a c, x = .slice a m c ∧ news.length = m * size ∧ (∀ u ∈ news, u.oneCell' = true) ∧
    ((m = 0 ∧ (a = none → c = 0)) ∨ ∃ ad, a = some ad ∧ ∀ j u, news[j]? = some u → w.cell? (ad.add j) = some u)

theorem Src.one {w : World} {v : Value} {b : Nat} (hv : v.oneCell' = true) (hc : w.cell? ⟨b, 0, none⟩ = some v) : Src w (.slice (some ⟨b, 0, none⟩) 1 1) 1 [v] 1 :=
  ⟨_, _, rfl, rfl, by simpa using hv, .inr ⟨_, rfl, fun j u hu => by
    cases j with
    | zero => simp at hu; subst hu; simpa [Addr.add] using hc
    | succ j => simp at hu⟩⟩

/-- The one element that 'append(xs, x)' lays first. -/
theorem Src.new {w : World} {v : Value} {t : TypeId} (hv : v.oneCell' = true) : Src (w.alloc (.cells #[v] t)) (.slice (some ⟨w.heap.size, 0, none⟩) 1 1) 1 [v] 1 :=
  Src.one hv (by rw [World.cell?_alloc_at _ _ _ _ rfl]; rfl)

/-- The cells of a row that lies at some place, as a list. -/
def RowAt (w : World) (b off : Nat) (xs : List Value) : Prop := ∀ j u, xs[j]? = some u → w.cell? ⟨b, off + j, none⟩ = some u

theorem Src.row {w : World} {b off c m size : Nat} {xs : List Value} (hl : xs.length = m * size) (h1 : ∀ u ∈ xs, u.oneCell' = true) (h : RowAt w b off xs) : Src w (.slice (some ⟨b, off, none⟩) m c) m xs size :=
  ⟨_, _, rfl, hl, h1, .inr ⟨_, rfl, fun j u hu => by rw [Addr.add_lit]; exact h j u hu⟩⟩

theorem run_app {P : Program} {w : World} {base : Nat} {t ty e : TypeId} {z : Value} {size bytes : Nat} (E : Elem P t e z size bytes) {v : Value} {n : Nat} {xs : List Value}
    (hown : w.ownsRow base e size v n xs) {x : Value} {m : Nat} {news : List Value} (hsrc : Src w x m news size) (hby : (n + m) * bytes ≤ 140737488355328) (hbase : base ≤ w.heap.size) :
    ∃ v' w', (Builtin.append_ #[t, t] ty #[v, x]).run P w = .ok v' w' ∧ w'.ownsRow base e size v' (n + m) (xs ++ news) ∧ w.grownBy w' v.ownBlock ∧ (v' = .slice none 0 0 ↔ v = .slice none 0 0 ∧ m = 0) := by
  obtain ⟨i, hi, hz, hs, hb⟩ := info_parts E.info
  obtain ⟨a, c, rfl, hl, h1, h⟩ := hsrc
  have hmax : n + m ≤ maxLen := by
    have : n + m ≤ (n + m) * bytes := Nat.le_mul_of_pos_right _ E.byt
    unfold maxLen; omega
  have go : ∀ ad, a = some ad → (∀ j u, news[j]? = some u → w.cell? (ad.add j) = some u) →
      ∃ v' w', (Builtin.append_ #[t, t] ty #[v, .slice a m c]).run P w = .ok v' w' ∧ w'.ownsRow base e size v' (n + m) (xs ++ news) ∧ w.grownBy w' v.ownBlock ∧ (v' = .slice none 0 0 ↔ v = .slice none 0 0 ∧ m = 0) := fun ad ha hc => by
    subst ha
    exact run_append_own (P := P) w base t ty e i z size bytes E.under hi hz hs hb E.zs E.pos v n xs hown ad m c news hl hc h1 hmax hby hbase
  rcases h with ⟨rfl, hc⟩ | ⟨ad, ha, hc⟩
  · have hn : news = [] := List.eq_nil_of_length_eq_zero (by simpa using hl)
    subst hn
    cases a with
    | some ad => exact go ad rfl (fun j u hu => by simp at hu)
    | none =>
      obtain rfl := hc rfl
      exact ⟨v, w, run_append_owned_none (P := P) w base t ty e i size E.under hi v n xs hown, by simpa using hown, World.grownBy.refl _ _, by simp⟩
  · exact go ad ha hc

theorem wpList_app {P : Program} {w : World} {ops : Array Oper} {rest : List Oper} {o : Oper} {a : Act} {Q : Exit → Act → World → Prop} {base : Nat} {t e : TypeId} {z : Value} {size bytes : Nat} (E : Elem P t e z size bytes)
    (hgd : o.guard = none) (s x : Operand) (ho : o.op = .call { callee := .builtin .append, args := #[s, x], argTypes := #[t, t] })
    {v : Value} {n : Nat} {xs : List Value} (hown : w.ownsRow base e size v n xs) {sv : Value} {m : Nat} {news : List Value} (hsrc : Src w sv m news size) (hs : a.eval s = v) (hx : a.eval x = sv) (hby : (n + m) * bytes ≤ 140737488355328) (hbase : base ≤ w.heap.size)
    (h : ∀ v' w', w'.ownsRow base e size v' (n + m) (xs ++ news) → w.grownBy w' v.ownBlock → (v' = .slice none 0 0 ↔ v = .slice none 0 0 ∧ m = 0) → wpList P ops Q rest (a.put o.dst v') w') : wpList P ops Q (o :: rest) a w := by
  refine wpList_plain hgd fun _ hK => ?_
  obtain ⟨v', w', hr, h2, h3, h4⟩ := run_app (ty := o.type) E hown hsrc hby hbase
  unfold Oper.wp execOp
  simp only [ho, resolve, invoke, builtin, Sem.run_bind, Sem.run_pure, Result.andThen_ok, List.map_toArray, List.map_cons, List.map_nil, hs, hx, hr]
  exact hK _ _ (h v' w' h2 h3 h4)

/-- 'append(xs, x)': x of size cells cs, which the walk has laid in a new block. -/
theorem wpList_app1 {P : Program} {w : World} {ops : Array Oper} {rest : List Oper} {o : Oper} {a : Act} {Q : Exit → Act → World → Prop} {base : Nat} {t e te : TypeId} {z : Value} {size bytes : Nat} (E : Elem P t e z size bytes)
    (hgd : o.guard = none) (s x : Operand) (ho : o.op = .call { callee := .builtin .append, args := #[s, x], argTypes := #[t, t] })
    {v : Value} {n : Nat} {xs : List Value} (hown : w.ownsRow base e size v n xs) (cs : List Value) (hcs : cs.length = size) (h1 : ∀ u ∈ cs, u.oneCell' = true)
    (hs : a.eval s = v) (hx : a.eval x = .slice (some ⟨w.heap.size, 0, none⟩) 1 1) (hby : (n + 1) * bytes ≤ 140737488355328) (hbase : base ≤ w.heap.size)
    (h : ∀ v' w', w'.ownsRow base e size v' (n + 1) (xs ++ cs) → w.grownBy w' v.ownBlock → wpList P ops Q rest (a.put o.dst v') w') : wpList P ops Q (o :: rest) a (w.alloc (.cells cs.toArray te)) := by
  have hsrc : Src (w.alloc (.cells cs.toArray te)) (.slice (some ⟨w.heap.size, 0, none⟩) 1 1) 1 cs size :=
    ⟨_, _, rfl, by omega, h1, .inr ⟨_, rfl, fun j u hu => by
      rw [Addr.add_lit, World.cell?_alloc_at _ _ _ _ rfl]
      simpa using hu⟩⟩
  refine wpList_app E hgd s x ho (hown.alloc _) hsrc hs hx hby (by simp; omega) fun v' w' ho' hg _ => h v' w' ho' ?_
  exact ⟨hg.os, hg.tape, hg.output, by have := hg.size; simp at this; omega, fun k hk hne => (hg.block k (by simp; omega) hne).trans (Below.heap_alloc _ _ _ hk)⟩

/-- 'copy(own, src)' of as many one-cell elements as both have. -/
theorem wpList_copy_full {P : Program} {w : World} {ops : Array Oper} {rest : List Oper} {o : Oper} {a : Act} {Q : Exit → Act → World → Prop} {base : Nat} {t e : TypeId} {z : Value} {bytes : Nat} (E : Elem P t e z 1 bytes)
    (hgd : o.guard = none) (d s : Operand) (ho : o.op = .call { callee := .builtin .copy, args := #[d, s], argTypes := #[t, t] })
    {v : Value} {n : Nat} {xs : List Value} (hown : w.ownsRow base e 1 v n xs) {sv : Value} {news : List Value} (hsrc : Src w sv n news 1) (hd : a.eval d = v) (hs : a.eval s = sv)
    (h : ∀ w', w'.ownsRow base e 1 v n news → w.grownBy w' v.ownBlock → wpList P ops Q rest (a.put o.dst (goInt n)) w') : wpList P ops Q (o :: rest) a w := by
  have hsz : (P.info? e).map (·.size) = some 1 := by
    obtain ⟨i, hi, _, hz, _⟩ := info_parts E.info
    rw [hi]; simp [hz]
  obtain ⟨sa, sc, rfl, hl, h1, hc⟩ := hsrc
  simp only [Nat.mul_one] at hl
  have key : n = 0 → wpList P ops Q (o :: rest) a w := by
    rintro rfl
    have hx : xs = [] := List.eq_nil_of_length_eq_zero (by simpa using hown.1)
    have hn : news = [] := List.eq_nil_of_length_eq_zero hl
    subst hx hn
    rcases hown.2 with ⟨rfl, _⟩ | ⟨g, cap, cur, rfl, _⟩
    · exact wpList_copy_nothing hgd d s t t ho e E.under hsz none sa 0 0 0 sc hd hs rfl (h w hown (World.grownBy.refl _ _))
    · exact wpList_copy_nothing hgd d s t t ho e E.under hsz _ sa 0 cap 0 sc hd hs rfl (h w hown (World.grownBy.refl _ _))
  rcases hown.2 with ⟨rfl, h0⟩ | ⟨g, cap, cur, rfl, hg, hh, hnc, hcm, hcs, ht⟩
  · exact key h0
  · rcases hc with ⟨h0, _⟩ | ⟨ad, rfl, hc⟩
    · exact key h0
    · refine wpList_copy_own hgd d s t t ho e E.under hsz g 0 n cap ad n sc hd hs cur e hh news (by rw [hl]; exact (Nat.min_self n).symm) hc (by omega) h1 ?_
      rw [hl]
      refine h _ ⟨by simpa using hl, .inr ⟨g, cap, _, rfl, hg, setRow_heap w g cur _ e _ hh, hnc, hcm, ?_, ?_⟩⟩ ⟨rfl, rfl, rfl, by simp [World.setRow], fun k _ hk => setRow_other w g k _ (fun e => hk (by simp [Value.ownBlock, e]))⟩
      · simp; omega
      · simp [hl]

/-- What is owned from base on, behind an append to another row or a new block. -/
theorem below_app {B base : Nat} {W w w' : World} {e : TypeId} {size : Nat} {v : Value} {n : Nat} {xs : List Value} (hb : Below B W w) (hB : B ≤ base) (hown : w.ownsRow base e size v n xs) (hg : w.grownBy w' v.ownBlock) (hsz : B ≤ w.heap.size) : Below B W w' :=
  hb.grown hg hsz (fun k hk => Nat.le_trans hB (hown.lt k hk).1)

end Go.Proofs.Ytkinhhkodaacjaa
