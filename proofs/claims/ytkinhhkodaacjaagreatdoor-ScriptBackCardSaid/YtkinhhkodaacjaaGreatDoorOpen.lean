/- What an argument reads as: integers, truths, strings, slices and structs of them, to any depth. (Text of no seat: YtkinhhkodaacjaaGreatDoor stands for the seat's name.) -/
import Derived.Test.YtkinhhkodaacjaaGreatDoorQ1
import Derived.Test.YtkinhhkodaacjaaGreatDoorLA
import Derived.ProofKit
import Derived.OpenShut
import Derived.ChangeArms
import Derived.SizedLaws
import Derived.Deep.Slices
namespace Go.Proofs.YtkinhhkodaacjaaGreatDoor
open Go.ChangeShapes Go.WideShapes Go.ChangeAt Go.RowKit Go.Deep

variable {P : Program}

/-- Whatever cells can be read at type t are those of some x, of which Good is true. -/
structure Reads (P : Program) (t : TypeId) {α : Type} (enc : α → List Value) (Good : World → α → Prop) : Prop where
  run : ∀ {H : Type} {en : TypeId × Value → H} {W : World} {fuel : Nat} {cs : List Value} {d : DataW H} {ps : List MemPlace},
    DataW.trod en P W 0 (fun _ => true) true fuel t cs = some (d, ps) → (∀ x ∈ ps, x.block < W.heap.size) → (∀ n ∈ d.weights P t, n ≤ reachBytes) → ∃ x, cs = enc x ∧ Good W x

theorem Reads.map {t : TypeId} {α β : Type} {enc : α → List Value} {Good : World → α → Prop} {encB : β → List Value} {GoodB : World → β → Prop} (h : Reads P t enc Good)
    (hg : ∀ W x, Good W x → ∃ y, enc x = encB y ∧ GoodB W y) : Reads P t encB GoodB := ⟨fun ht hp hw => by
  obtain ⟨x, rfl, hx⟩ := h.run ht hp hw
  exact hg _ _ hx⟩

def IntOf (k : IntKind) (x : Int) : Prop := (Lit.int k x).wf = true
theorem i64_bd {x : Int} (h : IntOf .i64 x) : -9223372036854775808 ≤ x ∧ x ≤ 9223372036854775807 := by
  simp [IntOf, Lit.wf, IntKind.min, IntKind.max, IntKind.bits, IntKind.signed] at h
  omega
theorem u8_bd {x : Int} (h : IntOf .u8 x) : 0 ≤ x ∧ x ≤ 255 := by
  simp [IntOf, Lit.wf, IntKind.min, IntKind.max, IntKind.bits, IntKind.signed] at h
  omega
theorem reads_int {t : TypeId} {k : IntKind} (ht : P.underlying t = some (.int k)) : Reads P t (encI k) (fun _ x => IntOf k x) := by
  constructor
  intro H en W fuel cs d ps h _ _
  cases fuel with
  | zero => simp [DataW.trod] at h
  | succ n =>
    unfold DataW.trod at h
    rw [ht] at h
    split at h <;> simp_all
    obtain ⟨⟨rfl, hw⟩, _⟩ := h
    exact ⟨_, rfl, hw⟩
def encB (b : Bool) : List Value := [.bool b]
theorem reads_bool {t : TypeId} (ht : P.underlying t = some .bool) : Reads P t encB (fun _ _ => True) := by
  constructor
  intro H en W fuel cs d ps h _ _
  cases fuel with
  | zero => simp [DataW.trod] at h
  | succ n =>
    unfold DataW.trod at h
    rw [ht] at h
    split at h <;> simp_all
    cases ‹Bool› <;> simp [encB]
def encStr (s : ByteArray) : List Value := [.string s]
theorem reads_str {t : TypeId} (ht : P.underlying t = some .string) : Reads P t encStr (fun _ s => s.size ≤ 140737488351232) := by
  constructor
  intro H en W fuel cs d ps h _ hw
  cases fuel with
  | zero => simp [DataW.trod] at h
  | succ n =>
    unfold DataW.trod at h
    rw [ht] at h
    split at h <;> simp_all
    obtain ⟨_, rfl, _⟩ := h
    refine ⟨_, rfl, ?_⟩
    simp only [DataW.weights, List.mem_singleton, forall_eq] at hw
    simpa [reachBytes] using hw

/-- A slice: its value and what it reads as. -/
def encL {α : Type} (x : Value × List α) : List Value := [x.1]
theorem reads_slice {t e : TypeId} {α : Type} {enc : α → List Value} {Good : World → α → Prop} {size : Nat} (ht : P.underlying t = some (.slice e)) (hc : P.cellsOf e = size) (hpos : 0 < size) (hby : 0 < P.bytesOf e)
    (h : Reads P e enc Good) : Reads P t encL (fun W (x : Value × List α) => Rd enc size W x.1 x.2 ∧ (∀ y ∈ x.2, Good W y) ∧ x.2.length * P.bytesOf e ≤ 140737488351232) := by
  constructor
  intro H en W fuel cs d ps hd hp hw
  subst hc
  rcases open_slice ht hd with ⟨rfl, hx⟩ | ⟨a, len, cap, m, n, D, Pl, rfl, hb, hl, hm, hmm, hx, hcell⟩
  · exact ⟨(.slice none 0 0, []), rfl, Rd.nil _, by simp, by simp⟩
  · simp only [Prod.mk.injEq] at hx
    obtain ⟨rfl, rfl⟩ := hx
    simp only [if_true] at hmm
    subst hmm
    have hwt : (m * P.bytesOf e ≤ reachBytes) ∧ ∀ i, i < m → ∀ q ∈ (D i).weights P e, q ≤ reachBytes := by
      have hA : ∀ l : List (DataW H), ∀ y ∈ l, ∀ q ∈ y.weights P e, q ∈ DataW.weightsAll P e l := by
        intro l
        induction l with
        | nil => intro y hy; cases hy
        | cons z l ih =>
          intro y hy q hq
          simp only [DataW.weightsAll, List.mem_append]
          rcases List.mem_cons.1 hy with rfl | hy
          · exact .inl hq
          · exact .inr (ih y hy q hq)
      simp only [DataW.weights, ht] at hw
      refine ⟨?_, fun i hi q hq => ?_⟩
      · have := hw _ List.mem_cons_self
        simp only [List.length_map, List.length_range] at this
        rwa [show len + (m - len) = m by omega] at this
      · refine hw q (List.mem_cons_of_mem _ (List.mem_append.2 ?_))
        by_cases hil : i < len
        · exact .inl (hA _ (D i) (List.mem_map.2 ⟨i, List.mem_range.2 hil, rfl⟩) q hq)
        · exact .inr (hA _ (D i) (List.mem_map.2 ⟨i - len, List.mem_range.2 (by omega), by rw [show len + (i - len) = i by omega]⟩) q hq)
    have each : ∀ i, i < m → ∃ x, W.cells? 0 (a.add (i * P.cellsOf e)) (P.cellsOf e) = some (enc x) ∧ Good W x := fun i hi => by
      obtain ⟨cs', h1, h2⟩ := hcell i hi
      obtain ⟨x, rfl, hx⟩ := h.run h2 (fun y hy => hp y (List.mem_append.2 (.inr (List.mem_flatMap.2 ⟨i, List.mem_range.2 hi, hy⟩)))) (hwt.2 i hi)
      exact ⟨x, h1, hx⟩
    have hcap : m * P.bytesOf e ≤ 140737488351232 := hwt.1
    have hm1 : m ≤ m * P.bytesOf e := Nat.le_mul_of_pos_right _ hby
    have hl1 : len * P.bytesOf e ≤ m * P.bytesOf e := Nat.mul_le_mul_right _ hl
    obtain ⟨X, hX⟩ : ∃ X : List (Nat × {x : α // True}), X.length = len ∧ ∀ i, (hi : i < len) → ∃ x, X[i]? = some (i, ⟨x, trivial⟩) ∧ W.cells? 0 (a.add (i * P.cellsOf e)) (P.cellsOf e) = some (enc x) ∧ Good W x := by
      have go : ∀ k, k ≤ len → ∃ X : List (Nat × {x : α // True}), X.length = k ∧ ∀ i, (hi : i < k) → ∃ x, X[i]? = some (i, ⟨x, trivial⟩) ∧ W.cells? 0 (a.add (i * P.cellsOf e)) (P.cellsOf e) = some (enc x) ∧ Good W x := by
        intro k
        induction k with
        | zero => intro _; exact ⟨[], rfl, fun i hi => absurd hi (by omega)⟩
        | succ k ih =>
          intro hk
          obtain ⟨X, hX1, hX2⟩ := ih (by omega)
          obtain ⟨x, hx1, hx2⟩ := each k (by omega)
          refine ⟨X ++ [(k, ⟨x, trivial⟩)], by simp [hX1], fun i hi => ?_⟩
          by_cases hik : i = k
          · subst hik
            exact ⟨x, by rw [List.getElem?_append_right (by omega), hX1]; simp, hx1, hx2⟩
          · obtain ⟨y, hy1, hy2⟩ := hX2 i (by omega)
            exact ⟨y, by rw [List.getElem?_append_left (by omega)]; exact hy1, hy2⟩
      exact go len (Nat.le_refl _)
    obtain ⟨hXl, hXe⟩ := hX
    have hget : ∀ j y, (X.map (fun p => p.2.1))[j]? = some y → j < len ∧ W.cells? 0 (a.add (j * P.cellsOf e)) (P.cellsOf e) = some (enc y) ∧ Good W y := by
      intro j y hj
      have hjl : j < len := by have := (List.getElem?_eq_some_iff.1 hj).1; simpa [hXl] using this
      obtain ⟨x, hx1, hx2, hx3⟩ := hXe j hjl
      rw [List.getElem?_map, hx1] at hj
      simp at hj
      subst hj
      exact ⟨hjl, hx2, hx3⟩
    refine ⟨(.slice (some a) len m, X.map fun p => p.2.1), rfl, ⟨some a, m, by simp [hXl], by simp [hXl]; exact hl, by unfold maxLen at hm; omega, by simp [hXl]; omega, by simp, ?_⟩, fun y hy => ?_, by simp [hXl]; omega⟩
    · by_cases h0 : len = 0
      · left
        have : X = [] := List.eq_nil_of_length_eq_zero (by omega)
        simp [this]
      · right
        obtain ⟨b, off, spot⟩ := a
        obtain ⟨x0, hx0, _⟩ := each 0 (by omega)
        have hspot : spot = none := by
          obtain ⟨_, hlen0, hc0⟩ := World.cells?_some hx0
          have := hc0 0 (by omega)
          have h' : W.cell? ⟨b, off, spot⟩ = (enc x0)[0]? := by simpa [Addr.add] using this
          obtain ⟨y, hy⟩ : ∃ y, (enc x0)[0]? = some y := ⟨_, List.getElem?_eq_getElem (by omega)⟩
          rw [hy] at h'
          exact World.cell?_spot h'
        subst hspot
        have hbW : b < W.heap.size := hp (.cell b off) (List.mem_append.2 (.inl (MemPlace.mem_row.2 ⟨0, Nat.mul_pos (by omega) hpos, by simp⟩)))
        refine ⟨b, off, rfl, hbW, fun j y hj i u hu => ?_⟩
        obtain ⟨hjl, hc1, _⟩ := hget j y hj
        obtain ⟨_, hlen0, hc0⟩ := World.cells?_some hc1
        have hi := (List.getElem?_eq_some_iff.1 hu).1
        have := hc0 i (by omega)
        rw [hu] at this
        rw [Addr.add_lit, Addr.add_lit] at this
        exact this
    · obtain ⟨j, hj⟩ := List.getElem?_of_mem hy
      exact (hget j y hj).2.2

/-- The fields of a struct from one on that begins at o. -/
structure ReadsFs (P : Program) (o : Nat) (fs : List Field) {α : Type} (enc : α → List Value) (Good : World → α → Prop) : Prop where
  run : ∀ {H : Type} {en : TypeId × Value → H} {W : World} {fuel : Nat} {cs : List Value} {xs : List (DataW H × List MemPlace)},
    cs.length = o + (fs.map fun f : Field => P.cellsOf f.type).sum → xs.length = fs.length →
    (∀ (i : Nat) (f : Field), fs[i]? = some f → DataW.trod en P W 0 (fun _ => true) true fuel f.type ((cs.drop f.offset).take (P.cellsOf f.type)) = xs[i]?) →
    (∀ y ∈ xs, ∀ x ∈ y.2, x.block < W.heap.size) → (∀ n ∈ DataW.weightsEach P (fs.map fun f : Field => f.type) (xs.map (·.1)), n ≤ reachBytes) → ∃ x, cs.drop o = enc x ∧ Good W x

theorem readsFs_nil {o : Nat} : ReadsFs P o [] (fun _ : Unit => []) (fun _ _ => True) := ⟨fun hl _ _ _ _ =>
  ⟨(), List.drop_of_length_le (by simp at hl; omega), trivial⟩⟩
theorem readsFs_cons {o c : Nat} {f : Field} {fs : List Field} {α β : Type} {enc : α → List Value} {Good : World → α → Prop} {encR : β → List Value} {GoodR : World → β → Prop} (ho : f.offset = o) (hc : P.cellsOf f.type = c)
    (h : Reads P f.type enc Good) (hr : ReadsFs P (o + c) fs encR GoodR) : ReadsFs P o (f :: fs) (fun x : α × β => enc x.1 ++ encR x.2) (fun W x => Good W x.1 ∧ GoodR W x.2) := by
  constructor
  intro H en W fuel cs xs hl hx hf hp hw
  subst ho
  match xs, hx with
  | y :: xs, hx =>
    have h0 := hf 0 f rfl
    simp only [List.getElem?_cons_zero, hc] at h0
    simp only [List.map_cons, DataW.weightsEach, List.mem_append] at hw
    obtain ⟨x, hx1, hx2⟩ := h.run h0 (fun z hz => hp y List.mem_cons_self z hz) (fun n hn => hw n (.inl hn))
    obtain ⟨r, hr1, hr2⟩ := hr.run (cs := cs) (xs := xs) (by simp only [List.map_cons, List.sum_cons, hc] at hl; omega) (by simpa using hx) (fun i g hg => hf (i + 1) g hg) (fun z hz => hp z (List.mem_cons_of_mem _ hz)) (fun n hn => hw n (.inr hn))
    refine ⟨(x, r), ?_, hx2, hr2⟩
    show List.drop f.offset cs = enc x ++ encR r
    rw [← hx1, ← hr1, ← List.drop_drop, List.take_append_drop]
theorem reads_struct {t : TypeId} {fs : Array Field} {α : Type} {enc : α → List Value} {Good : World → α → Prop} (ht : P.underlying t = some (.struct fs)) (hs : P.cellsOf t = (fs.toList.map fun f : Field => P.cellsOf f.type).sum)
    (h : ReadsFs P 0 fs.toList enc Good) : Reads P t enc Good := by
  constructor
  intro H en W fuel cs d ps hd hp hw
  obtain ⟨xs, n, hn, hx, hlen, hxl, hf⟩ := DataW.trod_struct ht hd
  simp only [Prod.mk.injEq] at hx
  obtain ⟨rfl, rfl⟩ := hx
  simp only [DataW.weights, ht] at hw
  obtain ⟨x, hx1, hx2⟩ := h.run (cs := _) (xs := xs) (by rw [hlen, hs]; omega) (by simpa using hxl) (fun i f hfi => hf i f (by simpa using hfi)) (fun y hy z hz => hp z (List.mem_flatMap.2 ⟨y, hy, hz⟩)) hw
  exact ⟨x, by simpa using hx1, hx2⟩

/-- An argument of a struct's type, by value. -/
theorem arg_struct {t : TypeId} {fs : Array Field} {α : Type} {enc : α → List Value} {Good : World → α → Prop} (ht : P.underlying t = some (.struct fs)) (h : Reads P t enc Good)
    {H : Type} {en : TypeId × Value → H} {W : World} {base : Nat} {v : Value} {d : DataW H} {p : List MemPlace} {ts : List TypeId} {ds : List (DataW H)} {j : Nat}
    (hok : Value.okWide P W .any base t v) (hd : DataW.Trod en P W 0 (fun _ => true) true t v d p) (hlt : ∀ x ∈ p, x.block < W.heap.size)
    (hsz : (DataW.weightsEach P ts ds).all (· ≤ reachBytes) = true) (htj : ts[j]? = some t) (hdj : ds[j]? = some d) : ∃ x, v = .agg (enc x).toArray ∧ Good W x := by
  unfold Value.okWide at hok
  rw [ht] at hok
  obtain ⟨cs, rfl, _, _⟩ := hok
  obtain ⟨fuel, hf⟩ := hd
  obtain ⟨x, hx1, hx2⟩ := h.run hf hlt (fun n hn => by
    have := List.all_eq_true.1 hsz n (DataW.weights_mem_each htj hdj n hn)
    simpa using this)
  refine ⟨x, ?_, hx2⟩
  simp only [Value.cells] at hx1
  rw [← hx1]
/-- An argument of one cell: an integer, a truth, a string, a slice. -/
theorem arg_one {t : TypeId} {α : Type} {f : α → Value} {Good : World → α → Prop} (h : Reads P t (fun x => [f x]) Good)
    {H : Type} {en : TypeId × Value → H} {W : World} {v : Value} {d : DataW H} {p : List MemPlace} {ts : List TypeId} {ds : List (DataW H)} {j : Nat}
    (hv : v.cells = #[v]) (hd : DataW.Trod en P W 0 (fun _ => true) true t v d p) (hlt : ∀ x ∈ p, x.block < W.heap.size)
    (hsz : (DataW.weightsEach P ts ds).all (· ≤ reachBytes) = true) (htj : ts[j]? = some t) (hdj : ds[j]? = some d) : ∃ x, v = f x ∧ Good W x := by
  obtain ⟨fuel, hf⟩ := hd
  obtain ⟨x, hx1, hx2⟩ := h.run hf hlt (fun n hn => by
    have := List.all_eq_true.1 hsz n (DataW.weights_mem_each htj hdj n hn)
    simpa using this)
  rw [hv] at hx1
  simp at hx1
  exact ⟨x, hx1, hx2⟩
theorem cells_slice {t e : TypeId} {W : World} {base : Nat} {v : Value} (ht : P.underlying t = some (.slice e)) (hok : Value.okWide P W .any base t v) : v.cells = #[v] := by
  obtain ⟨a, n, cap, rfl⟩ := okWide_slice ht hok
  rfl
end Go.Proofs.YtkinhhkodaacjaaGreatDoor
