/- Rows of elements of k cells of a call's own, and the library's sort by a function on them. -/
import Derived.Test.YtkinhhkodaacjaaLA
import Derived.Shelf.SlSortCmp.WholeK
import Derived.Shelf.SlSortCmp.NoneTotal
namespace Go.Proofs.Ytkinhhkodaacjaa
open Go.RowKit Go.Shelf Go.Sort

section
variable {α : Type} {enc : α → List Value} {k : Nat}

theorem rowLen (hk : ∀ x, (enc x).length = k) (l : List α) : (l.flatMap enc).length = l.length * k := by
  induction l with
  | nil => simp
  | cons a l ih => simp [ih, hk, Nat.add_mul]; omega

theorem rowGet (hk : ∀ x, (enc x).length = k) : ∀ (l : List α) (i j : Nat) (hi : i < l.length), j < k → (l.flatMap enc)[i * k + j]? = (enc l[i])[j]? := by
  intro l
  induction l with
  | nil => intro i j hi; simp at hi
  | cons a l ih =>
    intro i j hi hj
    rw [List.flatMap_cons]
    cases i with
    | zero =>
      rw [List.getElem?_append_left (by rw [hk]; omega)]
      simp
    | succ i =>
      rw [List.getElem?_append_right (by rw [hk, Nat.add_mul]; omega), hk, show (i + 1) * k + j - k = i * k + j by rw [Nat.add_mul]; omega, ih i j (by simpa using hi) hj]
      simp

theorem rowOne (h1 : ∀ x, ∀ v ∈ enc x, v.oneCell' = true) (l : List α) : ∀ v ∈ l.flatMap enc, v.oneCell' = true := by
  intro v hv
  obtain ⟨x, _, hx⟩ := List.mem_flatMap.1 hv
  exact h1 x v hx

/-- A row of whatever size whose cells are known, in the sort's words. -/
theorem holdsId_of_owns {w : World} {base : Nat} {e : TypeId} {size : Nat} {v : Value} {n : Nat} {xs : List Value} (h : w.ownsRow base e size v n xs) (hv : v ≠ .slice none 0 0) :
    ∃ g cap, v = .slice (some ⟨g, 0, none⟩) n cap ∧ base ≤ g ∧ g < w.heap.size ∧ n ≤ cap ∧ cap ≤ maxLen ∧ Holds id w g 0 xs.toArray := by
  rcases h.2 with ⟨e0, _⟩ | ⟨g, cap, cur, rfl, hb, hg, hn, hm, hs, ht⟩
  · exact absurd e0 hv
  · refine ⟨g, cap, rfl, hb, (Array.getElem?_eq_some_iff.1 hg).1, hn, hm, fun j hj => ?_⟩
    have hj' : j < n * size := by have := h.1; simpa [this] using hj
    rw [Nat.zero_add]
    refine ⟨?_, h.frozenAt j⟩
    rw [h.cellAt j hj']
    have hjx : j < xs.length := by simpa using hj
    simp [getElem!_pos, hjx]

theorem owns_putId {w : World} {base : Nat} {e : TypeId} {size g n cap q : Nat} {xs ys : List Value} (h : w.ownsRow base e size (.slice (some ⟨g, 0, none⟩) n cap) n xs) (hy : ys.length = xs.length) :
    (putRow id (Sort.ahead w q) g 0 ys.toArray).ownsRow base e size (.slice (some ⟨g, 0, none⟩) n cap) n ys := by
  rcases h.2 with ⟨e0, _⟩ | ⟨g', cap', cur, e0, hb, hg, hn, hm, hs, ht⟩
  · cases e0
  · injection e0 with e1 _ e3
    injection e1 with e1
    injection e1 with e1
    subst e1; subst e3
    have hxl := h.1
    refine ⟨by omega, .inr ⟨g, cap, putCells id 0 ys.toArray cur, rfl, hb, ?_, hn, hm, by simpa [putCells] using hs, ?_⟩⟩
    · simp [putRow, mapBlock, Sort.ahead, Array.getElem?_modify, hg, onCells]
    · apply List.ext_getElem?
      intro j
      rw [List.getElem?_take, Array.getElem?_toList]
      by_cases hj : j < n * size
      · have hjc : j < cur.size := by have := Nat.mul_le_mul_right size hn; omega
        simp only [if_pos hj, putCells, Array.getElem?_mapIdx, Array.getElem?_eq_getElem hjc, Option.map_some]
        have hjy : j < ys.length := by omega
        rw [if_pos (by simp; omega), List.getElem?_eq_getElem hjy]
        simp [getElem!_pos, hjy]
      · rw [if_neg hj, List.getElem?_eq_none (by omega)]

theorem below_grow {B : Nat} {w0 w : World} (h : Go.RowKit.Below B w0 w) (hB : B ≤ w.heap.size) (os : Array Obj) : Go.RowKit.Below B w0 (Sort.grow w os) :=
  h.trans ⟨rfl, rfl, rfl, by simp, fun k hk => Sort.heap_grow_old w os (by omega)⟩
theorem below_putId {B : Nat} {w0 w : World} {g q : Nat} {d : Array Value} (h : Go.RowKit.Below B w0 w) (hg : B ≤ g) : Go.RowKit.Below B w0 (putRow id (Sort.ahead w q) g 0 d) :=
  ⟨h.os, h.tape, h.output, by simpa [putRow, mapBlock, Sort.ahead] using h.size, fun k hk => by
    rw [← h.block k hk]
    simp [putRow, mapBlock, Sort.ahead, Array.getElem?_modify, show g ≠ k by omega]⟩

theorem flatK_eq [Inhabited α] (hk : ∀ x, (enc x).length = k) (hk0 : 0 < k) (l : List α) : flatK enc k l.toArray = (l.flatMap enc).toArray := by
  refine ext_get! (by simp [rowLen hk]) fun t ht => ?_
  have ht' : t < l.length * k := by simpa using ht
  rw [get_flatK enc k l.toArray t (by simpa using ht')]
  have hd : t / k < l.length := by rw [Nat.div_lt_iff_lt_mul hk0]; exact ht'
  have hm : t % k < k := Nat.mod_lt _ hk0
  have hr := rowGet hk l (t / k) (t % k) hd hm
  rw [Nat.mul_comm, Nat.div_add_mod] at hr
  have hlt : t < (l.flatMap enc).length := by rw [rowLen hk]; exact ht'
  have hme : t % k < (enc l[t / k]).length := by rw [hk]; exact hm
  rw [List.getElem?_eq_getElem hlt, List.getElem?_eq_getElem hme] at hr
  have hr := Option.some.inj hr
  have a1 : l.toArray[t / k]! = l[t / k] := by simp [hd]
  have a2 : (enc l[t / k])[t % k]! = (enc l[t / k])[t % k] := getElem!_pos (enc l[t / k]) (t % k) hme
  rw [a1, a2, getElem!_pos (l.flatMap enc).toArray t (by simpa using hlt)]
  simpa using hr.symm

/-- slices.SortFunc on what the call owns, at elements of k cells: a permutation, sorted. -/
theorem sort_ownK {P : Program} {ρ : Ren} [Inhabited α] (L : SlLaysF0.n6 P ρ) (aE : ∀ w, (isAgg (ρ.t 24)).run P w = .ok true w) (zE : ∀ w, (Go.sizeOf (ρ.t 24)).run P w = .ok k w) (hk : ∀ x, (enc x).length = k) (hk0 : 0 < k)
    (h1 : ∀ x, ∀ v ∈ enc x, v.oneCell' = true) (cf : α → α → Int) (hO : SWO (ltOf cf)) (g : Nat) (eg : ∀ args w, (callFunc g args).run P w = .ok (.enter g args) w)
    (hclos : ∀ x y W, Calls P g #[.agg (enc x).toArray, .agg (enc y).toArray] W fun e w' => e = .returned (.int .i64 (cf x y)) ∧ ∃ q os', w' = grow (W.drewN q) os')
    (l : List α) (e : TypeId) (v : Value) (B : Nat) (w0 w : World) (hb : Go.RowKit.Below B w0 w) (hB : B ≤ w.heap.size) (hl : l.length < 4611686018427387904)
    (h : w.ownsRow B e k v l.length (l.flatMap enc)) :
    Calls P (ρ.f 6) #[v, .func (.func g) #[] #[]] w fun r w' =>
      r = .returned (.tuple #[]) ∧ (∃ m : List α, m.Perm l ∧ m.Pairwise (fun a b => ltOf cf b a = false) ∧ w'.ownsRow B e k v l.length (m.flatMap enc)) ∧ Go.RowKit.Below B w0 w' := by
  by_cases hv : v = .slice none 0 0
  · subst hv
    have hl0 : l = [] := by
      rcases h.2 with ⟨_, h0⟩ | ⟨_, _, _, e0, _⟩
      · exact List.eq_nil_of_length_eq_zero h0
      · cases e0
    subst hl0
    refine (AnyF.slices_SortFunc_none L none 0 _ w).mono fun r w' ⟨he, hw⟩ => ?_
    subst hw
    exact ⟨he, ⟨[], List.Perm.refl _, List.Pairwise.nil, h⟩, hb⟩
  · obtain ⟨gb, cap, rfl, hg, hlt, _, _, hH⟩ := holdsId_of_owns h hv
    have hH' : HoldsK enc k w gb 0 l.toArray := by unfold HoldsK; rw [flatK_eq hk hk0]; exact hH
    have hc : CmpLays P g #[] enc k cf gb 0 l.toArray.size w := fun m os dk _ x y => hclos x y _
    have := AnyQ.slices_SortFunc L k aE zE enc hk h1 cf hO g #[] gb 0 cap l.toArray w eg hc hH' hlt (by simpa using hl)
    rw [List.size_toArray] at this
    refine this.mono fun r w' ⟨he, d', n, os, hp, hs, hw⟩ => ?_
    subst hw
    obtain ⟨hsz, _, hperm⟩ := hp
    have hd : d'.size = l.length := by simpa using hsz
    have e1 : d'.extract 0 l.length = d' := by rw [← hd]; simp
    have e2 : l.toArray.extract 0 l.length = l.toArray := by simp
    rw [e1, e2] at hperm
    have hperm : d'.toList.Perm l := by simpa using hperm
    refine ⟨he, ⟨d'.toList, hperm, ?_, ?_⟩, ?_⟩
    · rw [List.pairwise_iff_getElem]
      intro i j hi hj hij
      have := hs i j (Nat.zero_le _) hij (by simpa [hd] using hj)
      have hi' : i < d'.size := by simpa using hi
      have hj' : j < d'.size := by simpa using hj
      rw [getElem!_pos d' j hj', getElem!_pos d' i hi'] at this
      simpa using this
    · have hy : (d'.toList.flatMap enc).length = (l.flatMap enc).length := by rw [rowLen hk, rowLen hk, hperm.length_eq]
      have h2 := owns_putId (q := n) h hy
      have e3 : sortWorldK enc k w gb 0 n d' os = grow (putRow id (Sort.ahead w n) gb 0 (d'.toList.flatMap enc).toArray) os := by
        unfold sortWorldK putRowK
        rw [← flatK_eq hk hk0 d'.toList, Array.toArray_toList]
      rw [e3]
      exact h2.kept (row := none) ⟨rfl, rfl, rfl, by simp, fun k hk _ => Sort.heap_grow_old _ os hk⟩ (.inr (by simp [Value.ownBlock]))
    · unfold sortWorldK putRowK
      exact below_grow (below_putId hb hg) (by simpa using hB) os
end
end Go.Proofs.Ytkinhhkodaacjaa
