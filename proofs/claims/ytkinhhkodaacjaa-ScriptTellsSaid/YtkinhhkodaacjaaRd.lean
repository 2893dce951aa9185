/- Slices that are read, of whatever elements: what a walk is told of them, and how that is carried from world to world. (Text of no seat: Ytkinhhkodaacjaa stands for the seat's name.) -/
import Derived.WalkKit
import Derived.Lib.Hide
import Derived.Laws.BytesArg
import Derived.Test.YtkinhhkodaacjaaOwn
namespace Go.Proofs.Ytkinhhkodaacjaa
open Go.RowKit

section
variable {α : Type} {enc : α → List Value} {size : Nat}

/-- The cells of l lie from off on in block b. -/
def CellsAt (enc : α → List Value) (size : Nat) (w : World) (b off : Nat) (l : List α) : Prop :=
  ∀ j x, l[j]? = some x → ∀ i u, (enc x)[i]? = some u → w.cell? ⟨b, off + j * size + i, none⟩ = some u

/-- A slice value that reads as l: nil or some row, below the heap's end. -/
def Rd (enc : α → List Value) (size : Nat) (w : World) (v : Value) (l : List α) : Prop :=
  ∃ a cap, v = .slice a l.length cap ∧ l.length ≤ cap ∧ cap ≤ 9223372036854775807 ∧ l.length ≤ 140737488351232 ∧ (a = none → cap = 0) ∧
    (l = [] ∨ ∃ b off, a = some ⟨b, off, none⟩ ∧ b < w.heap.size ∧ CellsAt enc size w b off l)

theorem Rd.below {w w' : World} {v : Value} {l : List α} (h : Rd enc size w v l) (hb : Below w.heap.size w w') : Rd enc size w' v l := by
  obtain ⟨a, cap, rfl, h1, h2, h3, h5, h4⟩ := h
  refine ⟨a, cap, rfl, h1, h2, h3, h5, ?_⟩
  rcases h4 with h4 | ⟨b, off, rfl, hlt, hc⟩
  · exact .inl h4
  · refine .inr ⟨b, off, rfl, Nat.lt_of_lt_of_le hlt hb.size, fun j x hj i u hu => ?_⟩
    rw [hb.cell hlt]
    exact hc j x hj i u hu
theorem Rd.shape {w : World} {v : Value} {l : List α} (h : Rd enc size w v l) : ∃ a cap, v = .slice a l.length cap ∧ l.length ≤ cap ∧ cap ≤ 9223372036854775807 ∧ l.length ≤ 140737488351232 := by
  obtain ⟨a, cap, rfl, h1, h2, h3, _⟩ := h
  exact ⟨a, cap, rfl, h1, h2, h3⟩
theorem Rd.len {w : World} {v : Value} {l : List α} (h : Rd enc size w v l) : l.length ≤ 140737488351232 := by
  obtain ⟨a, cap, rfl, h1, h2, h3, _⟩ := h
  exact h3
theorem Rd.row {w : World} {a : Option Addr} {n cap : Nat} {l : List α} (h : Rd enc size w (.slice a n cap) l) (hl : l ≠ []) :
    ∃ b off, a = some ⟨b, off, none⟩ ∧ b < w.heap.size ∧ CellsAt enc size w b off l := by
  obtain ⟨a', cap', e, h1, h2, h3, h5, h4⟩ := h
  simp only [Value.slice.injEq] at e
  obtain ⟨rfl, rfl, rfl⟩ := e
  exact h4.resolve_left hl
theorem Rd.nil (w : World) : Rd enc size w (.slice none 0 0) ([] : List α) := ⟨none, 0, rfl, by simp, by simp, by simp, by simp, .inl rfl⟩
/-- nil where there is no address. -/
theorem Rd.none_ {w : World} {n cap : Nat} {l : List α} (h : Rd enc size w (.slice none n cap) l) : l = [] ∧ n = 0 ∧ cap = 0 := by
  obtain ⟨a', cap', e, h1, h2, h3, h5, h4⟩ := h
  simp only [Value.slice.injEq] at e
  obtain ⟨rfl, rfl, rfl⟩ := e
  have h0 := h5 rfl
  have hl : l = [] := List.eq_nil_of_length_eq_zero (by omega)
  exact ⟨hl, by rw [hl]; rfl, h0⟩

theorem CellsAt.drop {w : World} {b off : Nat} {l : List α} (h : CellsAt enc size w b off l) (k : Nat) : CellsAt enc size w b (off + k * size) (l.drop k) := fun j x hj i u hu => by
  rw [List.getElem?_drop] at hj
  have := h (k + j) x hj i u hu
  rwa [Nat.add_mul, ← Nat.add_assoc] at this
theorem CellsAt.take {w : World} {b off : Nat} {l : List α} (h : CellsAt enc size w b off l) (k : Nat) : CellsAt enc size w b off (l.take k) := fun j x hj i u hu => by
  rw [List.getElem?_take] at hj
  split at hj
  · exact h j x hj i u hu
  · cases hj
theorem CellsAt.below {w w' : World} {b off : Nat} {l : List α} (h : CellsAt enc size w b off l) {B : Nat} (hb : Below B w w') (hlt : b < B) : CellsAt enc size w' b off l := fun j x hj i u hu => by
  rw [hb.cell hlt]; exact h j x hj i u hu

theorem Rd.take {w : World} {a : Option Addr} {n cap : Nat} {l : List α} (h : Rd enc size w (.slice a n cap) l) (k : Nat) (hk : k ≤ l.length) : Rd enc size w (.slice a k cap) (l.take k) := by
  obtain ⟨a', cap', e, h1, h2, h3, h5, h4⟩ := h
  simp only [Value.slice.injEq] at e
  obtain ⟨rfl, rfl, rfl⟩ := e
  have hl : (l.take k).length = k := by simp; omega
  refine ⟨a, cap, by rw [hl], by omega, h2, by omega, h5, ?_⟩
  rcases h4 with rfl | ⟨b, off, rfl, hlt, hc⟩
  · left; simp
  · exact .inr ⟨b, off, rfl, hlt, hc.take k⟩
theorem Rd.drop {w : World} {b off n cap : Nat} {l : List α} (h : Rd enc size w (.slice (some ⟨b, off, none⟩) n cap) l) (k : Nat) (hk : k ≤ l.length) : Rd enc size w (.slice (some ⟨b, off + k * size, none⟩) (n - k) (cap - k)) (l.drop k) := by
  obtain ⟨a', cap', e, h1, h2, h3, h5, h4⟩ := h
  simp only [Value.slice.injEq] at e
  obtain ⟨rfl, rfl, rfl⟩ := e
  refine ⟨_, _, by rw [List.length_drop], by simp; omega, by omega, by simp; omega, by simp, ?_⟩
  rcases h4 with rfl | ⟨b', off', e, hlt, hc⟩
  · left; simp
  · simp only [Option.some.injEq, Addr.mk.injEq, and_true] at e
    obtain ⟨rfl, rfl⟩ := e
    exact .inr ⟨b, off + k * size, rfl, hlt, hc.drop k⟩

theorem flat_len (hs : ∀ x, (enc x).length = size) (l : List α) : (l.flatMap enc).length = l.length * size := by
  induction l with
  | nil => simp
  | cons x l ih => simp [List.flatMap_cons, hs, ih, Nat.add_mul, Nat.add_comm]
theorem flat_get (hs : ∀ x, (enc x).length = size) : ∀ (l : List α) (j : Nat) (x : α), l[j]? = some x → ∀ i u, (enc x)[i]? = some u → (l.flatMap enc)[j * size + i]? = some u
  | [], _, _, hj, _, _, _ => by simp at hj
  | y :: l, 0, x, hj, i, u, hu => by
    simp at hj
    subst hj
    have hi := (List.getElem?_eq_some_iff.1 hu).1
    rw [List.flatMap_cons, Nat.zero_mul, Nat.zero_add, List.getElem?_append_left hi, hu]
  | y :: l, j + 1, x, hj, i, u, hu => by
    have h := flat_get hs l j x (by simpa using hj) i u hu
    rw [List.flatMap_cons, List.getElem?_append_right (by rw [hs, Nat.add_mul]; omega), hs, show (j + 1) * size + i - size = j * size + i by rw [Nat.add_mul]; omega, h]
theorem flat_one (h1 : ∀ x, ∀ u ∈ enc x, u.oneCell' = true) (l : List α) : ∀ u ∈ l.flatMap enc, u.oneCell' = true := fun u hu => by
  obtain ⟨x, _, hx⟩ := List.mem_flatMap.1 hu
  exact h1 x u hx
/-- What lies in a row that is flat lies element by element. -/
theorem CellsAt.of_flat (hs : ∀ x, (enc x).length = size) {w : World} {b off : Nat} {l : List α} (h : RowAt w b off (l.flatMap enc)) : CellsAt enc size w b off l := fun j x hj i u hu => by
  rw [Nat.add_assoc]
  exact h _ u (flat_get hs l j x hj i u hu)

/-- What the call owns reads as it lies. -/
theorem Rd.of_owns (hs : ∀ x, (enc x).length = size) {w : World} {base : Nat} {e : TypeId} {v : Value} {l : List α} (h : w.ownsRow base e size v l.length (l.flatMap enc)) (hl : l.length ≤ 140737488351232) : Rd enc size w v l := by
  rcases h.2 with ⟨rfl, h0⟩ | ⟨g, cap, cur, rfl, hg, hh, h1, h2, h3, h4⟩
  · have : l = [] := List.eq_nil_of_length_eq_zero h0
    subst this
    exact Rd.nil w
  · refine ⟨_, _, rfl, h1, by simpa [maxLen] using h2, hl, by simp, .inr ⟨g, 0, rfl, (Array.getElem?_eq_some_iff.1 hh).1, CellsAt.of_flat hs fun j u hu => ?_⟩⟩
    have hj := (List.getElem?_eq_some_iff.1 hu).1
    rw [flat_len hs] at hj
    rw [Nat.zero_add, h.cellAt j hj, hu]

/-- A row that reads as the source of an append. -/
theorem Rd.src (hs : ∀ x, (enc x).length = size) (h1 : ∀ x, ∀ u ∈ enc x, u.oneCell' = true) (hp : 0 < size) {w : World} {v : Value} {l : List α} (h : Rd enc size w v l) : Src w v l.length (l.flatMap enc) size := by
  obtain ⟨a, cap, rfl, _, _, _, h5, h4⟩ := h
  refine ⟨a, cap, rfl, flat_len hs l, flat_one h1 l, ?_⟩
  rcases h4 with rfl | ⟨b, off, rfl, hlt, hc⟩
  · exact .inl ⟨rfl, h5⟩
  · refine .inr ⟨_, rfl, fun j u hu => ?_⟩
    have hj := (List.getElem?_eq_some_iff.1 hu).1
    rw [flat_len hs] at hj
    have hq : j / size < l.length := Nat.div_lt_of_lt_mul (by rwa [Nat.mul_comm])
    have hr : j % size < (enc l[j / size]).length := by rw [hs]; exact Nat.mod_lt _ hp
    have he : j / size * size + j % size = j := by rw [Nat.mul_comm]; exact Nat.div_add_mod j size
    have g := flat_get hs l (j / size) _ (List.getElem?_eq_getElem hq) (j % size) _ (List.getElem?_eq_getElem hr)
    rw [he, hu] at g
    have c := hc (j / size) _ (List.getElem?_eq_getElem hq) (j % size) _ (List.getElem?_eq_getElem hr)
    rw [Nat.add_assoc, he, ← Option.some.inj g] at c
    rw [Addr.add_lit]
    exact c

/-- What the walk has laid in a new block. -/
theorem Rd.new (hs : ∀ x, (enc x).length = size) {w : World} {t : TypeId} (l : List α) (hl : l.length ≤ 140737488351232) :
    Rd enc size (w.alloc (.cells (l.flatMap enc).toArray t)) (.slice (some ⟨w.heap.size, 0, none⟩) l.length l.length) l :=
  ⟨_, _, rfl, Nat.le_refl _, by omega, hl, by simp, .inr ⟨w.heap.size, 0, rfl, by simp, CellsAt.of_flat hs fun j u hu => by
    rw [World.cell?_alloc_at _ _ _ _ rfl, Nat.zero_add]
    simpa using hu⟩⟩
end

/-- Elements of one cell each. -/
theorem CellsAt.one {α : Type} {f : α → Value} {w : World} {b off : Nat} {l : List α} (h : CellsAt (fun x => [f x]) 1 w b off l) {j : Nat} {x : α} (hj : l[j]? = some x) : w.cell? ⟨b, off + j, none⟩ = some (f x) := by
  have := h j x hj 0 (f x) rfl
  simpa using this

/-- Integers of one kind. -/
def encI (k : IntKind) (x : Int) : List Value := [.int k x]
theorem encI_len (k : IntKind) (x : Int) : (encI k x).length = 1 := rfl
theorem encI_one (k : IntKind) (x : Int) : ∀ u ∈ encI k x, u.oneCell' = true := by simp [encI, Value.oneCell']
theorem encI_flat (k : IntKind) (l : List Int) : l.flatMap (encI k) = l.map (.int k) := by
  induction l with
  | nil => rfl
  | cons x l ih => simp [List.flatMap_cons, encI, ih]
theorem CellsAt.int {k : IntKind} {w : World} {b off : Nat} {l : List Int} (h : CellsAt (encI k) 1 w b off l) {j : Nat} (hj : j < l.length) : w.cell? ⟨b, off + j, none⟩ = some (.int k (l.getD j 0)) := by
  have := h j _ (List.getElem?_eq_getElem hj) 0 _ rfl
  simpa [List.getD_eq_getElem?_getD, hj] using this

/-- A slice of bytes. -/
def Byts (w : World) (v : Value) (l : List Int) : Prop := Rd (encI .u8) 1 w v l ∧ ∀ x ∈ l, 0 ≤ x ∧ x ≤ 255
theorem Byts.below {w w' : World} {v : Value} {l : List Int} (h : Byts w v l) (hb : Below w.heap.size w w') : Byts w' v l := ⟨h.1.below hb, h.2⟩
/-- A slice of 64-bit integers. -/
def Nums (w : World) (v : Value) (l : List Int) : Prop := Rd (encI .i64) 1 w v l ∧ ∀ x ∈ l, -9223372036854775808 ≤ x ∧ x ≤ 9223372036854775807
theorem Nums.below {w w' : World} {v : Value} {l : List Int} (h : Nums w v l) (hb : Below w.heap.size w w') : Nums w' v l := ⟨h.1.below hb, h.2⟩

theorem getD_in {l : List Int} {k : Nat} (h : k < l.length) : l.getD k 0 ∈ l := by simp [List.getD_eq_getElem?_getD, h]
theorem take_snoc {α : Type} {l : List α} {k : Nat} {x : α} (h : l[k]? = some x) : l.take (k + 1) = l.take k ++ [x] := by
  obtain ⟨hk, rfl⟩ := List.getElem?_eq_some_iff.1 h
  rw [List.take_succ_eq_append_getElem hk]
theorem take_getD0 (l : List Int) (k : Nat) (h : k < l.length) : l.take (k + 1) = l.take k ++ [l.getD k 0] := by
  rw [List.take_succ_eq_append_getElem h]
  simp [List.getD_eq_getElem?_getD, h]

/-- string(b) of bytes. -/
theorem run_string_of {P : Program} {w : World} {src e dst : TypeId} (hs : P.underlying src = some (.slice e)) (he : P.underlying e = some (.int .u8)) (hd : P.underlying dst = some .string) {v : Value} {l : List Int} (h : Byts w v l) :
    (convert src dst v).run P w = .ok (.string (strOfNums l)) w := by
  obtain ⟨a, cap, rfl, h1, h2, h3, h5, h4⟩ := h.1
  cases a with
  | none =>
    have hl := (h.1.none_).1
    subst hl
    exact run_convert_bytes_nil w src e hs he _ _ dst hd
  | some ad =>
    rcases h4 with rfl | ⟨b, off, e', hlt, hc⟩
    · obtain ⟨b, off, spot⟩ := ad
      rw [run_convert_bytes_string w src dst e _ _ cap hs he hd, run_bytesToString w _ _ cap [] (by simp [loadCells]; rfl)]
      rfl
    · simp only [Option.some.injEq] at e'
      subst e'
      exact run_convert_bytes_arg w src e hs he b off l.length cap l rfl (fun i hi => hc.int hi) dst hd

theorem strOfNums_inj {l m : List Int} (hl : ∀ x ∈ l, 0 ≤ x ∧ x ≤ 255) (hm : ∀ x ∈ m, 0 ≤ x ∧ x ≤ 255) (h : strOfNums l = strOfNums m) : l = m := by
  have h' : l.map (fun n => UInt8.ofNat n.toNat) = m.map (fun n => UInt8.ofNat n.toNat) := by
    rw [← strOfNums_data, ← strOfNums_data, h]
  clear h
  induction l generalizing m with
  | nil => cases m with
    | nil => rfl
    | cons y m => simp at h'
  | cons x l ih => cases m with
    | nil => simp at h'
    | cons y m =>
      simp only [List.map_cons, List.cons.injEq] at h'
      have hx := hl x (by simp)
      have hy := hm y (by simp)
      have e : (UInt8.ofNat x.toNat).toNat = (UInt8.ofNat y.toNat).toNat := by rw [h'.1]
      simp [UInt8.toNat_ofNat'] at e
      have : x = y := by omega
      rw [this, ih (fun z hz => hl z (by simp [hz])) (fun z hz => hm z (by simp [hz])) h'.2]

end Go.Proofs.Ytkinhhkodaacjaa
