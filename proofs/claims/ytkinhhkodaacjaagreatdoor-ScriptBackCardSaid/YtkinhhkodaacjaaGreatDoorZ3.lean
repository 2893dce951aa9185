/- A text's cut and a line's words: the library's answers in plain words. The reader's words. The reader's number. -/
import Derived.Test.YtkinhhkodaacjaaGreatDoorShelf
import Derived.Test.YtkinhhkodaacjaaGreatDoorPt
import Derived.Lib.SplitLaws
import Derived.IntWalk
import Derived.WalkSpells
import Derived.WalkLawsBesides
import Derived.Deep.DeepMust
import Derived.Deep.QuietTactic
import Derived.BigQuiet
import Derived.Lib.SliceRun
import Derived.Test.YtkinhhkodaacjaaGreatDoorD2
namespace Go.Proofs.YtkinhhkodaacjaaGreatDoor
open Go.RowKit Go.Shelf

def strV (w : List UInt8) : Value := .string ⟨w.toArray⟩
def encT (w : List UInt8) : List Value := [strV w]
theorem encT_len (w : List UInt8) : (encT w).length = 1 := rfl
theorem encT_one (w : List UInt8) : ∀ u ∈ encT w, u.oneCell' = true := by simp [encT, strV, Value.oneCell']
theorem encT_flat (l : List (List UInt8)) : l.flatMap encT = l.map strV := by
  induction l with
  | nil => rfl
  | cons x l ih => simp [List.flatMap_cons, encT, ih]
/-- Words that are read. -/
abbrev Wds (W : World) (v : Value) (ws : List (List UInt8)) : Prop := Rd encT 1 W v ws
theorem index_cut (c : UInt8) : ∀ s : List UInt8, Lib.index s [c] = match cutB c s with | some p => (p.1.length : Int) | none => -1
  | [] => by simp [Lib.index, cutB]
  | a :: s => by
    have ih := index_cut c s
    unfold Lib.index cutB
    by_cases h : a = c
    · subst h
      simp [List.isPrefixOf]
    · have hp : ([c] : List UInt8).isPrefixOf (a :: s) = false := by simp [List.isPrefixOf, Ne.symm h]
      rw [hp, if_neg h]
      simp only [Bool.false_eq_true, if_false]
      rw [ih]
      cases cutB c s with
      | none => simp
      | some p =>
        simp only [Option.map_some, List.length_cons]
        rw [if_neg (by simp; try omega)]
        simp
theorem cut_eq (c : UInt8) (s : List UInt8) : Lib.cut s [c] = match cutB c s with | some p => (p.1, p.2, true) | none => (s, [], false) := by
  unfold Lib.cut
  rw [index_cut]
  cases h : cutB c s with
  | none => simp
  | some p =>
    obtain ⟨x, y⟩ := p
    obtain ⟨e, -⟩ := cutB_some h
    simp only
    rw [if_pos (by omega), e]
    simp
theorem splitK_words (c : UInt8) : ∀ (N : Nat) (s : List UInt8), s.length ≤ N → Lib.splitK [c] 0 (Lib.count s [c]) s = splitB c s := by
  intro N
  induction N with
  | zero =>
    intro s hs
    obtain rfl : s = [] := List.eq_nil_of_length_eq_zero (by omega)
    rw [Lib.count_miss (by simp [Lib.index])]; rfl
  | succ N ih =>
    intro s hs
    have hi := index_cut c s
    cases h : cutB c s with
    | none =>
      rw [h] at hi
      rw [Lib.count_miss hi, splitB_word (cutB_none.1 h)]; rfl
    | some p =>
      obtain ⟨x, y⟩ := p
      rw [h] at hi
      simp only at hi
      obtain ⟨e, hn⟩ := cutB_some h
      have hd : s.drop (x.length + 1) = y := by rw [e]; simp
      have ht : s.take (x.length + 0) = x := by rw [e]; simp
      have hc : Lib.count s [c] = Lib.count y [c] + 1 := by
        have := Lib.count_hit (s := s) (sub := [c]) (by simp) hi
        rw [this]
        simp only [List.length_singleton]
        rw [hd]; omega
      rw [hc, Lib.splitK, if_neg (by rw [hi]; simp), hi]
      simp only [Int.toNat_natCast, List.length_singleton]
      rw [hd, ht, ih y (by have := congrArg List.length e; simp at this; omega), e, splitB_app _ hn]
theorem str_back (b : ByteArray) : Value.string b = strV b.data.toList := by
  obtain ⟨⟨l⟩⟩ := b
  rfl
theorem below_drewN {B : Nat} {a w : World} (h : Below B a w) (q : Nat) : Below B a (w.drewN q) := ⟨h.os, h.tape, h.output, h.size, h.block⟩
/-- Lines. -/
def cutV (s : List UInt8) : Value := match cutB 10 s with
  | some p => .tuple #[strV p.1, strV p.2, .bool true]
  | none => .tuple #[strV s, strV [], .bool false]
def MaxLen (W : World) : Prop := ∃ m : Int, W.cell? ⟨0, 0, none⟩ = some (.int .i64 m)
theorem MaxLen.below {W X : World} (h : MaxLen W) (hb : Below W.heap.size W X) : MaxLen X := by
  obtain ⟨m, hm⟩ := h
  exact ⟨m, by rw [hb.cell (World.block_lt_of_cell? _ _ hm)]; exact hm⟩
theorem MaxLen.grown {W X : World} {b : Nat} (h : MaxLen W) (hg : W.grownBy X (some b)) (hb : b ≠ 0) : MaxLen X := by
  obtain ⟨m, hm⟩ := h
  exact ⟨m, hg.cell hm (by intro e; cases e; exact hb rfl)⟩
theorem cut_any (s : List UInt8) (w : World) (hm : MaxLen w) (hs : s.length ≤ 1000000000) : Calls Tryz.prog 16 #[strV s, .string ⟨#[10]⟩] w fun e w' => e = .returned (cutV s) ∧ Below w.heap.size w w' := by
  obtain ⟨m, hm⟩ := hm
  refine (Tryz.strings_Cut ⟨s.toArray⟩ ⟨#[10]⟩ m w (by show s.toArray.size < _; simp; omega) hm).mono ?_
  rintro e w' ⟨rfl, n, rfl⟩
  refine ⟨?_, below_drewN (Below.refl _ _) n⟩
  simp only [cut_eq, cutV]
  cases cutB 10 s <;> rfl
theorem split_any (s : List UInt8) (w : World) (hm : MaxLen w) (hs : s.length ≤ 1000000000) : Calls Tryz.prog 17 #[strV s, .string ⟨#[32]⟩] w fun e w' =>
    e = .returned (.slice (some ⟨w.heap.size, 0, none⟩) (splitB 32 s).length (splitB 32 s).length) ∧ w' = w.alloc (.cells ((splitB 32 s).map strV).toArray 9) := by
  obtain ⟨m, hm⟩ := hm
  refine (Tryz.strings_Split ⟨s.toArray⟩ ⟨#[32]⟩ m w (by show s.toArray.size < _; simp; omega) hm (by decide)).mono ?_
  have hw : (Lib.splitB ⟨#[32]⟩ 0 (Lib.countB ⟨s.toArray⟩ ⟨#[32]⟩) ⟨s.toArray⟩).map (·.data.toList) = splitB 32 s := by
    rw [Lib.splitB_data]
    exact splitK_words 32 _ s (Nat.le_refl _)
  have hv : (Lib.splitB ⟨#[32]⟩ 0 (Lib.countB ⟨s.toArray⟩ ⟨#[32]⟩) ⟨s.toArray⟩).map Value.string = (splitB 32 s).map strV := by
    rw [← hw, List.map_map]
    exact List.map_congr_left fun b _ => str_back b
  have hl : Lib.countB ⟨s.toArray⟩ ⟨#[32]⟩ + 1 = (splitB 32 s).length := by
    rw [← hw, List.length_map, Lib.splitB_all _ (by decide) 0 _ _ rfl]
  rintro e w' ⟨rfl, rfl⟩
  rw [hl, hv]
  exact ⟨rfl, rfl⟩
end Go.Proofs.YtkinhhkodaacjaaGreatDoor
namespace Go.Proofs.YtkinhhkodaacjaaGreatDoor
open Go.RowKit Go.Shelf

structure RdS where
  rest : List UInt8
  n : Nat
  bad : Bool
def rdC (s : RdS) : List Value := [strV s.rest, .int .i64 (s.n : Int), .bool s.bad]
def wordsS (first : List UInt8) (k : Nat) (s : RdS) : RdS × List (List UInt8) :=
  if s.bad = true then (s, List.replicate k []) else match nextW s.rest with
    | some p => if p.1.length = k + 1 ∧ p.1.head? = some first then (⟨p.2, s.n + 1, false⟩, p.1.tail) else (⟨s.rest, s.n + 1, true⟩, List.replicate k [])
    | none => (⟨s.rest, s.n + 1, true⟩, List.replicate k [])
theorem madeOne (z : Value) (n : Nat) : (madeCells #[z] n).toList = List.replicate n z := by
  apply List.ext_getElem?
  intro j
  by_cases h : j < n
  · simp [madeCells, h, Nat.mod_one]
  · simp [madeCells, h]
theorem exec_neS {w : World} {o : Oper} {ac : Act} {X Y : Operand} {ty : TypeId} {x y : List UInt8} (ho : o.op = .binOp .neq 9 X Y ty) (hx : ac.eval X = strV x) (hy : ac.eval Y = strV y) : (execOp ac.eval o).run Tryz.prog w = .ok (.value (.bool (!decide (x = y)))) w := by
  generalize ac.eval = ev at *
  unfold execOp
  simp only [ho, hx, hy, strV]
  by_cases h : x = y
  · subst h
    go_simp
    try simp
  · have h2 : ¬ (⟨x.toArray⟩ : ByteArray) = ⟨y.toArray⟩ := fun e => h (by have := congrArg (fun b : ByteArray => b.data.toList) e; simpa using this)
    go_simp
    try simp [h, h2]
theorem wds_made {w w0 : World} {k : Nat} (h : w.ownsRow w0.heap.size 9 1 (.slice (some ⟨w0.heap.size, 0, none⟩) k k) k (madeCells (strV []).cells (k * 1)).toList) (hk : k ≤ 7) : Wds w (.slice (some ⟨w0.heap.size, 0, none⟩) k k) (List.replicate k []) := by
  have e : (madeCells (strV []).cells (k * 1)).toList = (List.replicate k []).flatMap encT := by
    rw [encT_flat, List.map_replicate, Nat.mul_one]
    exact madeOne _ k
  rw [e] at h
  have := Rd.of_owns (enc := encT) (size := 1) (l := List.replicate k []) encT_len (by rw [List.length_replicate]; exact h) (by simp; omega)
  exact this
theorem wds_new {w : World} {ws : List (List UInt8)} (hl : ws.length ≤ 1000000001) : Wds (w.alloc (.cells (ws.map strV).toArray 9)) (.slice (some ⟨w.heap.size, 0, none⟩) ws.length ws.length) ws := by
  have h : (w.alloc (.cells (ws.map strV).toArray 9)).ownsRow w.heap.size 9 1 (.slice (some ⟨w.heap.size, 0, none⟩) ws.length ws.length) ws.length (ws.flatMap encT) := by
    refine ⟨by rw [encT_flat]; simp, .inr ⟨w.heap.size, ws.length, _, rfl, Nat.le_refl _, (Blk.new' rfl : Blk _ w.heap.size 9 (ws.map strV).toArray), Nat.le_refl _, by unfold maxLen; omega, by simp, by rw [encT_flat, List.toList_toArray, Nat.mul_one]; exact List.take_of_length_le (by simp)⟩⟩
  exact Rd.of_owns encT_len h (by omega)
theorem wds_grown {X Y : World} {b : Nat} {v : Value} {base n : Nat} {ws : List (List UInt8)} (h : X.ownsRow base 9 1 v n (ws.map strV)) (hg : X.grownBy Y (some b)) (hne : v.ownBlock ≠ some b) : Y.ownsRow base 9 1 v n (ws.map strV) := h.kept hg (.inr hne)
theorem rdC_set1 (r : List UInt8) (n : Nat) (b : Bool) (m : Int) : (rdC ⟨r, n, b⟩).toArray.setIfInBounds 1 (.int .i64 m) = ([strV r, .int .i64 m, .bool b] : List Value).toArray := by simp [rdC]
theorem splitB_len (c : UInt8) : ∀ (l : List UInt8) {n : Nat}, l.length ≤ n → (splitB c l).length ≤ n + 1
  | [], n, _ => by simp [splitB]
  | a :: l, 0, h => by simp at h
  | a :: l, n + 1, h => by
    have ih := splitB_len c l (n := n) (by simpa using h)
    unfold splitB
    split
    · simpa using ih
    · split
      · simp
      · next x r hx => rw [hx] at ih; simp at ih ⊢; omega
theorem Rd.grownFar {α : Type} {enc : α → List Value} {size : Nat} {X Y : World} {v : Value} {l : List α} {b : Nat} (h : Rd enc size X v l) (hg : X.grownBy Y (some b)) (hne : ∀ g o n c, v = .slice (some ⟨g, o, none⟩) n c → g ≠ b) : Rd enc size Y v l := by
  obtain ⟨a, cap, rfl, h1, h2, h3, h5, h4⟩ := h
  refine ⟨a, cap, rfl, h1, h2, h3, h5, ?_⟩
  rcases h4 with h4 | ⟨g, off, rfl, hlt, hc⟩
  · exact .inl h4
  · have hn : g ≠ b := hne g off _ _ rfl
    refine .inr ⟨g, off, rfl, Nat.lt_of_lt_of_le hlt hg.size, fun j x hx i u hu => ?_⟩
    exact hg.cell (hc j x hx i u hu) (fun e => by cases e; exact hn rfl)
theorem wds_far {X : World} {b b3 : Nat} {n c k : Nat} {ws : List (List UInt8)} (h : Wds X (sliced (some ⟨b3, 0, none⟩) 1 n c 1) ws) (hne : b3 ≠ b) (v : Value) : Wds (X.setCell ⟨b, k, none⟩ v) (sliced (some ⟨b3, 0, none⟩) 1 n c 1) ws :=
  Rd.grownFar h (grownBy_setCell X ⟨b, k, none⟩ v) (fun g o n' c' e => by
    unfold sliced at e
    split at e
    · cases e; exact hne
    · simp only [Value.slice.injEq, Addr.add, Option.map_some, Option.some.injEq] at e
      obtain ⟨⟨rfl, _⟩, _⟩ := e
      exact hne)
end Go.Proofs.YtkinhhkodaacjaaGreatDoor
namespace Go.Proofs.YtkinhhkodaacjaaGreatDoor
open Go.RowKit Go.Shelf

theorem trim_unsign (s : List UInt8) : Lib.trimPrefix s [45] = unsign s := by
  unfold Lib.trimPrefix Lib.hasPrefix unsign
  cases s with
  | nil => simp [List.isPrefixOf]
  | cons a l =>
    by_cases h : a = 45
    · subst h; simp [List.isPrefixOf]
    · simp [List.isPrefixOf, h, Ne.symm h]
theorem has_sign (s : List UInt8) : Lib.hasPrefix s [45] = decide (s.head? = some 45) := by
  unfold Lib.hasPrefix
  cases s with
  | nil => simp [List.isPrefixOf]
  | cons a l =>
    by_cases h : a = 45
    · subst h; simp [List.isPrefixOf]
    · simp [List.isPrefixOf, h, Ne.symm h]
theorem prefix_any (s : List UInt8) (w : World) : Calls Tryz.prog 76 #[strV s, .string ⟨#[45]⟩] w fun e w' => e = .returned (.tuple #[strV (unsign s), .bool (decide (s.head? = some 45))]) ∧ w' = w := by
  refine (Tryz.strings_CutPrefix ⟨s.toArray⟩ ⟨#[45]⟩ w).mono ?_
  rintro e w' ⟨rfl, rfl⟩
  refine ⟨?_, rfl⟩
  have e1 := trim_unsign s
  have e2 := has_sign s
  simp only [e1, e2, strV]
theorem str_size (l : List UInt8) : (⟨l.toArray⟩ : ByteArray).size = l.length := by show l.toArray.size = _; simp
theorem ix_at (l : List UInt8) {k : Nat} {c : UInt8} (h : l[k]? = some c) (w : World) : (Instr.index 9 (strV l) (.int .i64 (k : Int))).run Tryz.prog w = .ok (.int .u8 c.toNat) w := by
  obtain ⟨hk, e⟩ := List.getElem?_eq_some_iff.1 h
  have := run_index_string (P := Tryz.prog) (w := w) 9 ⟨l.toArray⟩ .i64 (k : Int) Tryz.underlying9
  unfold strV
  rw [this, dif_pos ⟨by omega, by rw [str_size]; omega⟩]
  have e2 : ((⟨l.toArray⟩ : ByteArray)[((k : Int)).toNat]'(by rw [str_size]; omega)) = c := by
    show l.toArray[((k : Int)).toNat]'(by simp; omega) = c
    simp [e]
  rw [e2]
theorem exec_ix {w : World} {o : Oper} {ac : Act} {X Y : Operand} {l : List UInt8} {k : Nat} {c : UInt8} (ho : o.op = .index 9 X Y) (hx : ac.eval X = strV l) (hy : ac.eval Y = .int .i64 (k : Int)) (h : l[k]? = some c) : (execOp ac.eval o).run Tryz.prog w = .ok (.value (.int .u8 c.toNat)) w := by
  simp [execOp, ho, hx, hy, ix_at l h, Result.andThen]
theorem exec_lenS {w : World} {o : Oper} {ac : Act} {X : Operand} {l : List UInt8} (ho : o.op = .call { callee := .builtin .len, args := #[X], argTypes := #[9] }) (hx : ac.eval X = strV l) : (execOp ac.eval o).run Tryz.prog w = .ok (.value (.int .i64 (l.length : Int))) w := by
  have h := run_len_string (P := Tryz.prog) w 9 o.type ⟨l.toArray⟩ Tryz.underlying9
  rw [str_size] at h
  simp [execOp, ho, hx, resolve, invoke, builtin, strV, h, Result.andThen, goInt]
end Go.Proofs.YtkinhhkodaacjaaGreatDoor
