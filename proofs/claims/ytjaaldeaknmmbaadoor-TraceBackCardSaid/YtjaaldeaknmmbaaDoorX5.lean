/- The reader's steps: plain laws. A snap that is being read: its block, number by number. A reader at work on a snap: what stays, call by call. The host's lines, plain; a message that is being read. The reader's host: what its steps keep. -/
import Derived.Test.YtjaaldeaknmmbaaDoorY7
import Derived.Test.YtjaaldeaknmmbaaDoorZ10
namespace Go.Proofs.YtjaaldeaknmmbaaDoor
open Go.RowKit Go.Shelf

/-- How a reader stands behind a step: it found something; or it is bad, at that line. -/
def Go1 {α : Type} (o : Option (α × List UInt8) × Nat) (s : RdS) (P : α → Prop) : Prop := match o with
  | (some (a, r), m) => s = ⟨r, m, false⟩ ∧ P a
  | (none, m) => s.bad = true ∧ s.n = m
/-- A step of the reader: nothing happens where it is bad. -/
def Stp {α : Type} (f : List UInt8 → Nat → Option (α × List UInt8) × Nat) (s s' : RdS) (P : α → Prop) : Prop :=
  (s.bad = true → s'.bad = true ∧ s'.n = s.n) ∧ (s.bad = false → Go1 (f s.rest s.n) s' P)
def bnd {α β : Type} (f : List UInt8 → Nat → Option (α × List UInt8) × Nat) (g : List UInt8 → Nat → Option (β × List UInt8) × Nat) (r : List UInt8) (n : Nat) : Option ((α × β) × List UInt8) × Nat := match f r n with
  | (none, n) => (none, n)
  | (some (a, r), n) => match g r n with
    | (none, n) => (none, n)
    | (some (b, r), n) => (some ((a, b), r), n)
theorem Go1.mono {α : Type} {o : Option (α × List UInt8) × Nat} {s : RdS} {P Q : α → Prop} (h : Go1 o s P) (k : s.bad = false → ∀ a, P a → Q a) : Go1 o s Q := by
  obtain ⟨o, m⟩ := o
  cases o with
  | none => exact h
  | some p => exact ⟨h.1, k (by rw [h.1]) _ h.2⟩
theorem Stp.mono {α : Type} {f : List UInt8 → Nat → Option (α × List UInt8) × Nat} {s s' : RdS} {P Q : α → Prop} (h : Stp f s s' P) (k : s'.bad = false → ∀ a, P a → Q a) : Stp f s s' Q := ⟨h.1, fun hb => (h.2 hb).mono k⟩
theorem Stp.bnd {α β : Type} {f : List UInt8 → Nat → Option (α × List UInt8) × Nat} {g : List UInt8 → Nat → Option (β × List UInt8) × Nat} {s s1 s2 : RdS} {P : α → Prop} {Q : β → Prop} (h : Stp f s s1 P) (k : Stp g s1 s2 Q) : Stp (bnd f g) s s2 (fun p => P p.1 ∧ Q p.2) := by
  refine ⟨fun hb => ?_, fun hb => ?_⟩
  · obtain ⟨h1, h2⟩ := h.1 hb
    obtain ⟨k1, k2⟩ := k.1 h1
    exact ⟨k1, k2.trans h2⟩
  · have h1 := h.2 hb
    unfold YtjaaldeaknmmbaaDoor.bnd
    generalize f s.rest s.n = o at *
    obtain ⟨o, m⟩ := o
    cases o with
    | none =>
      obtain ⟨q1, q2⟩ := h1
      obtain ⟨k1, k2⟩ := k.1 q1
      exact ⟨k1, k2.trans q2⟩
    | some p =>
      obtain ⟨a, r⟩ := p
      obtain ⟨q1, q2⟩ := h1
      subst q1
      have k1 := k.2 rfl
      simp only at k1 ⊢
      generalize g r m = o2 at *
      obtain ⟨o2, m2⟩ := o2
      cases o2 with
      | none => exact k1
      | some p2 =>
        obtain ⟨b, r2⟩ := p2
        exact ⟨k1.1, q2, k1.2⟩
theorem Stp.bad_of {α : Type} {f : List UInt8 → Nat → Option (α × List UInt8) × Nat} {s s' : RdS} {P : α → Prop} (h : Stp f s s' P) (hb : s'.bad = false) : s.bad = false := by
  cases hs : s.bad with
  | false => rfl
  | true => have := (h.1 hs).1; rw [hb] at this; cases this
/-- Words, then numbers: a row. -/
theorem row_stp {first : List UInt8} {k : Nat} {s : RdS} {b : Bool} {vals : List Int} (h0 : b = false → (wordsS first k s).1.bad = false ∧ numsS ((wordsS first k s).2.take k) = some vals) (h1 : b = true → (wordsS first k s).1.bad = true ∨ numsS ((wordsS first k s).2.take k) = none) :
    Stp (lineP (rowS first k)) s ⟨(wordsS first k s).1.rest, (wordsS first k s).1.n, b⟩ (fun a => a = vals) := by
  obtain ⟨rest, n, bad⟩ := s
  refine ⟨fun hb => ?_, fun hb => ?_⟩
  · simp only at hb
    subst hb
    simp only [wordsS, if_pos] at h0 h1 ⊢
    cases b with
    | true => exact ⟨rfl, trivial⟩
    | false => cases (h0 rfl).1
  · simp only at hb
    subst hb
    unfold wordsS at *
    simp only [Bool.false_eq_true, if_false] at *
    unfold lineP
    cases hn : nextW rest with
    | none =>
      rw [hn] at h0 h1
      simp only at h0 h1 ⊢
      cases b with
      | true => exact ⟨rfl, rfl⟩
      | false => cases (h0 rfl).1
    | some p =>
      rw [hn] at h0 h1
      simp only at h0 h1 ⊢
      unfold rowS
      by_cases hc : p.1.length = k + 1 ∧ p.1.head? = some first
      · rw [if_pos hc] at h0 h1 ⊢
        rw [if_pos hc]
        have ht : p.1.tail.take k = p.1.tail := List.take_of_length_le (by rw [List.length_tail]; omega)
        simp only [ht] at h0 h1 ⊢
        cases b with
        | false => rw [(h0 rfl).2]; exact ⟨rfl, rfl⟩
        | true =>
          rcases h1 rfl with h | h
          · cases h
          · rw [h]; exact ⟨rfl, rfl⟩
      · rw [if_neg hc] at h0 h1 ⊢
        rw [if_neg hc]
        simp only at h0 h1 ⊢
        cases b with
        | false => cases (h0 rfl).1
        | true => exact ⟨rfl, rfl⟩
theorem words_len (first : List UInt8) (k : Nat) (s : RdS) : (wordsS first k s).2.length = k := by
  unfold wordsS
  split
  · simp
  · split
    · split
      · next h => rw [List.length_tail, h.1]; omega
      · simp
    · simp
theorem numsS_len : ∀ {ws : List (List UInt8)} {ns : List Int}, numsS ws = some ns → ns.length = ws.length := fun h => by rw [(numsS_iff.1 h).1, List.length_map]
/-- The first line's check. -/
theorem snap_stp {s : RdS} {s1 : RdS} {vals : List Int} {bg : Int} (h : Stp (lineP (rowS wSnap 6)) s s1 (fun a => a = vals)) (hv : s1.bad = false → vals[4]? = some bg) :
    Stp (lineP snapS) s (if bg ≠ 0 ∧ bg ≠ 1 then ⟨s1.rest, s1.n, true⟩ else s1) (fun a => a = vals ∧ (bg = 0 ∨ bg = 1)) := by
  by_cases hc : bg ≠ 0 ∧ bg ≠ 1
  · rw [if_pos hc]
    refine ⟨fun hb => ⟨rfl, (h.1 hb).2⟩, fun hb => ?_⟩
    have h2 := h.2 hb
    unfold lineP at h2 ⊢
    unfold snapS
    cases hn : nextW s.rest with
    | none =>
      rw [hn] at h2
      exact ⟨rfl, h2.2⟩
    | some p =>
      rw [hn] at h2
      simp only at h2 ⊢
      cases hr : rowS wSnap 6 p.1 with
      | none =>
        rw [hr] at h2
        exact ⟨rfl, h2.2⟩
      | some a =>
        rw [hr] at h2
        obtain ⟨e1, e2⟩ := h2
        subst e1
        subst e2
        have hv2 := hv rfl
        simp only [hv2, Option.some.injEq]
        rw [if_neg (by omega)]
        exact ⟨rfl, rfl⟩
  · rw [if_neg hc]
    refine ⟨h.1, fun hb => ?_⟩
    have h2 := h.2 hb
    unfold lineP at h2 ⊢
    unfold snapS
    cases hn : nextW s.rest with
    | none =>
      rw [hn] at h2
      exact h2
    | some p =>
      rw [hn] at h2
      simp only at h2 ⊢
      cases hr : rowS wSnap 6 p.1 with
      | none =>
        rw [hr] at h2
        exact h2
      | some a =>
        rw [hr] at h2
        obtain ⟨e1, e2⟩ := h2
        subst e1
        subst e2
        have hv2 := hv rfl
        simp only [hv2, Option.some.injEq]
        rw [if_pos (by omega)]
        exact ⟨rfl, rfl, by omega⟩
/-- The host's line and what follows it. -/
def hostP (r : List UInt8) (n : Nat) : Option ((List Int × List UInt8 × List (Int × List UInt8)) × List UInt8) × Nat := match lineP hostS r n with
  | (none, n) => (none, n)
  | (some ((h, o, k), r), n) => match insP k r n with
    | (none, n) => (none, n)
    | (some (ms, r), n) => (some ((h, o, ms), r), n)
theorem snapP_bnd (r : List UInt8) (n : Nat) : snapP r n = match bnd (lineP snapS) (bnd (lineP (rowS wState 5)) (bnd (lineP (rowS wView 7)) hostP)) r n with
  | (none, n) => (none, n)
  | (some ((a, c, v, h, o, ms), r), n) => ((mkS a c v h o ms).map fun x => (x, r), n) := by
  unfold snapP bnd hostP
  generalize lineP snapS r n = o1
  rcases o1 with ⟨_ | ⟨a, r1⟩, n1⟩
  · rfl
  simp only
  generalize lineP (rowS wState 5) r1 n1 = o2
  rcases o2 with ⟨_ | ⟨c, r2⟩, n2⟩
  · rfl
  simp only
  generalize lineP (rowS wView 7) r2 n2 = o3
  rcases o3 with ⟨_ | ⟨v, r3⟩, n3⟩
  · rfl
  simp only
  generalize lineP hostS r3 n3 = o4
  rcases o4 with ⟨_ | ⟨⟨h, o, k⟩, r4⟩, n4⟩
  · rfl
  simp only
  generalize insP k r4 n4 = o5
  rcases o5 with ⟨_ | ⟨ms, r5⟩, n5⟩
  · rfl
  rfl
theorem ins_step : ∀ {i : Nat} {r r1 : List UInt8} {n n1 : Nat} {ms : List (Int × List UInt8)}, insP i r n = (some (ms, r1), n1) →
    (∀ m r2 n2, lineP inS r1 n1 = (some (m, r2), n2) → insP (i + 1) r n = (some (ms ++ [m], r2), n2)) ∧ (∀ n2, lineP inS r1 n1 = (none, n2) → ∀ k, i < k → insP k r n = (none, n2))
  | 0, r, r1, n, n1, ms, h => by
    simp only [insP, Prod.mk.injEq, Option.some.injEq] at h
    obtain ⟨⟨rfl, rfl⟩, rfl⟩ := h
    refine ⟨fun m r2 n2 h => by simp [insP, h], fun n2 h k hk => ?_⟩
    obtain ⟨k, rfl⟩ : ∃ j, k = j + 1 := ⟨k - 1, by omega⟩
    simp [insP, h]
  | i + 1, r, r1, n, n1, ms, h => by
    rw [insP] at h
    cases hl : lineP inS r n with
    | mk o n' =>
      rw [hl] at h
      cases o with
      | none => simp at h
      | some p =>
        obtain ⟨m0, r'⟩ := p
        simp only at h
        cases hi : insP i r' n' with
        | mk o2 n'' =>
          rw [hi] at h
          cases o2 with
          | none => simp at h
          | some p2 =>
            obtain ⟨ms0, r''⟩ := p2
            simp only [Prod.mk.injEq, Option.some.injEq] at h
            obtain ⟨⟨rfl, rfl⟩, rfl⟩ := h
            obtain ⟨ih1, ih2⟩ := ins_step hi
            refine ⟨fun m r2 n2 h2 => ?_, fun n2 h2 k hk => ?_⟩
            · rw [insP, hl]
              simp only
              rw [ih1 m r2 n2 h2]
              rfl
            · obtain ⟨k, rfl⟩ : ∃ j, k = j + 1 := ⟨k - 1, by omega⟩
              rw [insP, hl]
              simp only
              rw [ih2 n2 h2 k (by omega)]
end Go.Proofs.YtjaaldeaknmmbaaDoor
namespace Go.Proofs.YtjaaldeaknmmbaaDoor
open Go.RowKit Go.Shelf

/-- All blocks but those of F stand. -/
structure Fr (F : Nat → Prop) (w W : World) : Prop where
  os : W.os = w.os
  tape : W.tape = w.tape
  output : W.output = w.output
  size : w.heap.size ≤ W.heap.size
  block : ∀ j, j < w.heap.size → ¬ F j → W.heap[j]? = w.heap[j]?
theorem Fr.refl (F : Nat → Prop) (w : World) : Fr F w w := ⟨rfl, rfl, rfl, Nat.le_refl _, fun _ _ _ => rfl⟩
theorem Fr.step {F G : Nat → Prop} {w W X : World} (h : Fr F w W) (k : Fr G W X) (hFG : ∀ j, j < w.heap.size → G j → F j) : Fr F w X :=
  ⟨k.os.trans h.os, k.tape.trans h.tape, k.output.trans h.output, Nat.le_trans h.size k.size, fun j hj hn => (k.block j (Nat.lt_of_lt_of_le hj h.size) (fun hg => hn (hFG j hj hg))).trans (h.block j hj hn)⟩
theorem Fr.grown {W X : World} {b : Nat} (h : W.grownBy X (some b)) : Fr (fun j => j = b) W X := ⟨h.os, h.tape, h.output, h.size, fun j hj hn => h.block j hj (by simpa using hn)⟩
theorem Fr.below {W X : World} (h : Below W.heap.size W X) : Fr (fun _ => False) W X := ⟨h.os, h.tape, h.output, h.size, fun j hj _ => h.block j hj⟩
theorem Fr.drew {F : Nat → Prop} {w W : World} (h : Fr F w W) : Fr F w W.drew := ⟨h.os, h.tape, h.output, h.size, h.block⟩
theorem Fr.nums {br : Nat} {s : RdS} {ws : List (List UInt8)} {A : List Addr} {w w' : World} {b : Bool} {vals : List Int} (h : NumsP br s ws A w b vals w') : Fr (fun j => j = br ∨ ∃ a ∈ A, a.block = j) w w' :=
  ⟨h.os, h.tape, h.output, h.size, fun j hj hn => by
    rw [h.block j hj (fun e => hn (.inl e))]
    exact setAll_other fun p hp e => hn (.inr ⟨p.1, (List.of_mem_zip hp).1, e⟩)⟩
theorem Fr.grownB {w W : World} {b : Nat} (h : Fr (fun j => j = b) w W) : w.grownBy W (some b) := ⟨h.os, h.tape, h.output, h.size, fun j hj hn => h.block j hj (by simpa using hn)⟩
theorem Fr.mono {F G : Nat → Prop} {w W : World} (h : Fr F w W) (k : ∀ j, F j → G j) : Fr G w W := ⟨h.os, h.tape, h.output, h.size, fun j hj hn => h.block j hj (fun e => hn (k j e))⟩
theorem Blk.fr {F : Nat → Prop} {W X : World} {b : Nat} {t : TypeId} {cs : Array Value} (h : Blk W b t cs) (k : Fr F W X) (hn : ¬ F b) : Blk X b t cs := (k.block b h.lt hn).trans h
theorem MaxLen.fr {F : Nat → Prop} {W X : World} (h : MaxLen W) (k : Fr F W X) (hn : ¬ F 0) : MaxLen X := by
  obtain ⟨m, hm⟩ := h
  exact ⟨m, by rw [World.cell?_of_block (k.block 0 (World.block_lt_of_cell? _ _ hm) hn)]; exact hm⟩
theorem own_fr {F : Nat → Prop} {W X : World} {B : Nat} {e : TypeId} {s : Nat} {v : Value} {n : Nat} {xs : List Value} (h : W.ownsRow B e s v n xs) (k : Fr F W X) (hn : ∀ g, v.ownBlock = some g → ¬ F g) : X.ownsRow B e s v n xs :=
  ⟨h.1, h.2.imp id fun ⟨g, cap, cur, hv, hg, hh, r⟩ => ⟨g, cap, cur, hv, hg, (k.block g (Array.getElem?_eq_some_iff.1 hh).1 (hn g (by rw [hv]; rfl))).trans hh, r⟩⟩
theorem own_apart {W : World} {base : Nat} {e : TypeId} {size : Nat} {v : Value} {n : Nat} {xs : List Value} (h : W.ownsRow base e size v n xs) {b : Nat} {t : TypeId} {cs : Array Value} (hb : Blk W b t cs) (hne : e ≠ t) : ∀ g, v.ownBlock = some g → g ≠ b := fun g hg e => own_blk_ne h hb hne (by rw [hg, e])
/-- A list of words lies in no block whose cells are no words. -/
theorem wds_apart {W : World} {v : Value} {ws : List (List UInt8)} {g o n c b : Nat} {t : TypeId} {cs : List Value} (h : Wds W v ws) (hv : v = .slice (some ⟨g, o, none⟩) n c) (hl : 2 ≤ ws.length) (hb : Blk W b t cs.toArray)
    (hcs : ∀ j x y, cs[j]? = some (strV x) → cs[j + 1]? = some (strV y) → False) : g ≠ b := by
  rintro rfl
  obtain ⟨g', o', e, _, hc⟩ := Rd.row (by rw [← hv]; exact h) (by rintro rfl; simp at hl)
  simp only [Option.some.injEq, Addr.mk.injEq, and_true] at e
  obtain ⟨rfl, rfl⟩ := e
  have k : ∀ j x, ws[j]? = some x → cs[o + j]? = some (strV x) := fun j x hj => by
    have h1 := hc j x hj 0 _ rfl
    rw [hb.cell] at h1
    simpa using h1
  exact hcs o _ _ (k 0 ws[0] (List.getElem?_eq_getElem (by omega))) (k 1 ws[1] (List.getElem?_eq_getElem (by omega)))
theorem rdC_apart (s : RdS) : ∀ j x y, (rdC s)[j]? = some (strV x) → (rdC s)[j + 1]? = some (strV y) → False := by
  intro j x y h1 h2
  match j with
  | 0 => simp [rdC, strV] at h2
  | 1 => simp [rdC, strV] at h1
  | 2 => simp [rdC, strV] at h1
  | j + 3 => simp [rdC] at h1
theorem encS_apart (z : Sn) : ∀ j x y, (encS z)[j]? = some (strV x) → (encS z)[j + 1]? = some (strV y) → False := by
  intro j x y h1 _
  have hm := List.mem_of_getElem? h1
  simp [encS, strV] at hm
theorem int_apart (z : Int) : ∀ j x y, ([.int .i64 z] : List Value)[j]? = some (strV x) → ([.int .i64 z] : List Value)[j + 1]? = some (strV y) → False := by
  intro j x y h1 _
  have hm := List.mem_of_getElem? h1
  simp [strV] at hm
/-- A snap with a number in one of its places. -/
def Sn.put (x : Sn) (j : Nat) (v : Int) : Sn := match j with
  | 0 => { x with r := v } | 1 => { x with i := v } | 2 => { x with s := v }
  | 3 => { x with t1 := v } | 4 => { x with t2 := v } | 5 => { x with t3 := v } | 6 => { x with t4 := v } | 7 => { x with t5 := v }
  | 8 => { x with m1 := v } | 9 => { x with m2 := v } | 10 => { x with m3 := v } | 11 => { x with m4 := v } | 12 => { x with m5 := v } | 13 => { x with m6 := v } | 14 => { x with m7 := v }
  | 15 => { x with tm := v } | 17 => { x with su := v } | 18 => { x with hi := v } | 21 => { x with lf := v } | 22 => { x with wt := v }
  | _ => x
def numAt (j : Nat) : Prop := j < 16 ∨ j = 17 ∨ j = 18 ∨ j = 21 ∨ j = 22
theorem encS_put {j : Nat} (h : numAt j) (x : Sn) (v : Int) : (encS x).set j (.int .i64 v) = encS (x.put j v) := by
  have hj : j = 0 ∨ j = 1 ∨ j = 2 ∨ j = 3 ∨ j = 4 ∨ j = 5 ∨ j = 6 ∨ j = 7 ∨ j = 8 ∨ j = 9 ∨ j = 10 ∨ j = 11 ∨ j = 12 ∨ j = 13 ∨ j = 14 ∨ j = 15 ∨ j = 17 ∨ j = 18 ∨ j = 21 ∨ j = 22 := by unfold numAt at h; omega
  rcases hj with rfl | rfl | rfl | rfl | rfl | rfl | rfl | rfl | rfl | rfl | rfl | rfl | rfl | rfl | rfl | rfl | rfl | rfl | rfl | rfl <;> rfl
theorem encS_int {j : Nat} (h : numAt j) (x : Sn) : ∃ v, (encS x)[j]? = some (.int .i64 v) := by
  have hj : j = 0 ∨ j = 1 ∨ j = 2 ∨ j = 3 ∨ j = 4 ∨ j = 5 ∨ j = 6 ∨ j = 7 ∨ j = 8 ∨ j = 9 ∨ j = 10 ∨ j = 11 ∨ j = 12 ∨ j = 13 ∨ j = 14 ∨ j = 15 ∨ j = 17 ∨ j = 18 ∨ j = 21 ∨ j = 22 := by unfold numAt at h; omega
  rcases hj with rfl | rfl | rfl | rfl | rfl | rfl | rfl | rfl | rfl | rfl | rfl | rfl | rfl | rfl | rfl | rfl | rfl | rfl | rfl | rfl <;> exact ⟨_, rfl⟩
theorem Blk.setL {W : World} {b : Nat} {t : TypeId} {cs : List Value} (h : Blk W b t cs.toArray) (j : Nat) (v : Value) : Blk (W.setCell ⟨b, j, none⟩ v) b t (cs.set j v).toArray := by
  have := h.set j v
  simpa using this
/-- Numbers in a snap's places, and in one cell beside it. -/
def putL (bs : Nat) (x : Sn) (l : List (Addr × Int)) : Sn := l.foldl (fun x p => if p.1.block = bs then x.put p.1.off p.2 else x) x
def oneL (b : Nat) (v : Int) (l : List (Addr × Int)) : Int := l.foldl (fun v p => if p.1.block = b then p.2 else v) v
theorem setAll_snap {bs : Nat} {t : TypeId} : ∀ {l : List (Addr × Int)} {W : World} {x : Sn}, Blk W bs t (encS x).toArray → (∀ p ∈ l, p.1.block = bs → ∃ j, p.1 = ⟨bs, j, none⟩ ∧ numAt j) → Blk (setAll W l) bs t (encS (putL bs x l)).toArray
  | [], W, x, h, _ => h
  | p :: l, W, x, h, hp => by
    show Blk (setAll (W.setCell p.1 _) l) bs t (encS (putL bs (if p.1.block = bs then x.put p.1.off p.2 else x) l)).toArray
    refine setAll_snap ?_ (fun q hq => hp q (by simp [hq]))
    by_cases hb : p.1.block = bs
    · obtain ⟨j, e, hj⟩ := hp p (by simp) hb
      rw [if_pos hb, e, ← encS_put hj]
      exact h.setL j _
    · rw [if_neg hb]
      exact h.far (Ne.symm hb) _
theorem setAll_one {b : Nat} {t : TypeId} : ∀ {l : List (Addr × Int)} {W : World} {v : Int}, Blk W b t #[.int .i64 v] → (∀ p ∈ l, p.1.block = b → p.1 = ⟨b, 0, none⟩) → Blk (setAll W l) b t #[.int .i64 (oneL b v l)]
  | [], W, v, h, _ => h
  | p :: l, W, v, h, hp => by
    show Blk (setAll (W.setCell p.1 _) l) b t #[.int .i64 (oneL b (if p.1.block = b then p.2 else v) l)]
    refine setAll_one ?_ (fun q hq => hp q (by simp [hq]))
    by_cases hb : p.1.block = b
    · rw [if_pos hb, hp p (by simp) hb]
      have := h.set 0 (.int .i64 p.2)
      simpa using this
    · rw [if_neg hb]
      exact h.far (Ne.symm hb) _
theorem nums_snap {br bs : Nat} {s : RdS} {ws : List (List UInt8)} {A : List Addr} {w w' : World} {b : Bool} {vals : List Int} {t : TypeId} {x : Sn} (h : NumsP br s ws A w b vals w') (hb : Blk w bs t (encS x).toArray) (hne : bs ≠ br)
    (hA : ∀ a ∈ A, a.block = bs → ∃ j, a = ⟨bs, j, none⟩ ∧ numAt j) : Blk w' bs t (encS (putL bs x (A.zip vals))).toArray :=
  (h.block bs hb.lt hne).trans (setAll_snap hb fun p hp => hA p.1 (List.of_mem_zip hp).1)
theorem nums_one {br b4 : Nat} {s : RdS} {ws : List (List UInt8)} {A : List Addr} {w w' : World} {b : Bool} {vals : List Int} {t : TypeId} {v : Int} (h : NumsP br s ws A w b vals w') (hb : Blk w b4 t #[.int .i64 v]) (hne : b4 ≠ br)
    (hA : ∀ a ∈ A, a.block = b4 → a = ⟨b4, 0, none⟩) : Blk w' b4 t #[.int .i64 (oneL b4 v (A.zip vals))] :=
  (h.block b4 hb.lt hne).trans (setAll_one hb fun p hp => hA p.1 (List.of_mem_zip hp).1)
theorem intc_snap {W : World} {bs : Nat} {t : TypeId} {x : Sn} (h : Blk W bs t (encS x).toArray) {j : Nat} (hj : numAt j) : IntCell W ⟨bs, j, none⟩ := by
  obtain ⟨v, hv⟩ := encS_int hj x
  exact ⟨⟨v, h.list0 hv⟩, h.frozen j⟩
theorem intc_one {W : World} {b : Nat} {t : TypeId} {v : Int} (h : Blk W b t #[.int .i64 v]) : IntCell W ⟨b, 0, none⟩ := ⟨⟨v, h.cell 0⟩, h.frozen 0⟩
theorem rd_ptr (w : World) (A : List Addr) (hl : A.length ≤ 1000) : Rd encA 1 (w.alloc (.cells (A.map fun a => Value.pointer (some a)).toArray 82)) (.slice (some ⟨w.heap.size, 0, none⟩) A.length A.length) A := by
  refine ⟨_, _, rfl, Nat.le_refl _, by omega, by omega, fun h => (by cases h), .inr ⟨w.heap.size, 0, rfl, by simp, fun j x hj i u hu => ?_⟩⟩
  have hi : i = 0 := by
    cases i with
    | zero => rfl
    | succ i => simp [encA] at hu
  subst hi
  simp only [encA, List.getElem?_cons_zero, Option.some.injEq] at hu
  subst hu
  rw [World.cell?_alloc_at _ _ _ _ rfl]
  simpa using hj
theorem exec_pS1 {w : World} {o : Oper} {ac : Act} {X0 : Operand} {a0 : Addr} (ho : o.op = .buildSlice 107 1 #[(0, X0)]) (h0 : ac.eval X0 = .pointer (some a0)) : ∃ v' w', (execOp ac.eval o).run Tryd.prog w = .ok (.value v') w' ∧ (v' = .slice (some ⟨w.heap.size, 0, none⟩) 1 1 ∧ Rd encA 1 w' v' [a0] ∧ Below w.heap.size w w' ∧ w.heap.size < w'.heap.size) := by
  have hrun : (Instr.buildSlice 107 1 #[(0, .pointer (some a0))]).run Tryd.prog w = .ok (.slice (some ⟨w.heap.size, 0, none⟩) 1 1) (w.alloc (.cells #[.pointer (some a0)] 82)) := by
    unfold Instr.buildSlice
    go_simp
    try rfl
  exact ⟨_, _, by simp [execOp, ho, h0, hrun, Result.andThen], rfl, rd_ptr w [a0] (by simp), below1 _ _, by simp⟩
theorem exec_pS3 {w : World} {o : Oper} {ac : Act} {X0 X1 X2 : Operand} {a0 a1 a2 : Addr} (ho : o.op = .buildSlice 107 3 #[(0, X0), (1, X1), (2, X2)]) (h0 : ac.eval X0 = .pointer (some a0)) (h1 : ac.eval X1 = .pointer (some a1)) (h2 : ac.eval X2 = .pointer (some a2)) : ∃ v' w', (execOp ac.eval o).run Tryd.prog w = .ok (.value v') w' ∧ (v' = .slice (some ⟨w.heap.size, 0, none⟩) 3 3 ∧ Rd encA 1 w' v' [a0, a1, a2] ∧ Below w.heap.size w w' ∧ w.heap.size < w'.heap.size) := by
  have hrun : (Instr.buildSlice 107 3 #[(0, .pointer (some a0)), (1, .pointer (some a1)), (2, .pointer (some a2))]).run Tryd.prog w = .ok (.slice (some ⟨w.heap.size, 0, none⟩) 3 3) (w.alloc (.cells #[.pointer (some a0), .pointer (some a1), .pointer (some a2)] 82)) := by
    unfold Instr.buildSlice
    go_simp
    try rfl
  exact ⟨_, _, by simp [execOp, ho, h0, h1, h2, hrun, Result.andThen], rfl, rd_ptr w [a0, a1, a2] (by simp), below1 _ _, by simp⟩
theorem exec_pS5 {w : World} {o : Oper} {ac : Act} {X0 X1 X2 X3 X4 : Operand} {a0 a1 a2 a3 a4 : Addr} (ho : o.op = .buildSlice 107 5 #[(0, X0), (1, X1), (2, X2), (3, X3), (4, X4)]) (h0 : ac.eval X0 = .pointer (some a0)) (h1 : ac.eval X1 = .pointer (some a1)) (h2 : ac.eval X2 = .pointer (some a2)) (h3 : ac.eval X3 = .pointer (some a3)) (h4 : ac.eval X4 = .pointer (some a4)) : ∃ v' w', (execOp ac.eval o).run Tryd.prog w = .ok (.value v') w' ∧ (v' = .slice (some ⟨w.heap.size, 0, none⟩) 5 5 ∧ Rd encA 1 w' v' [a0, a1, a2, a3, a4] ∧ Below w.heap.size w w' ∧ w.heap.size < w'.heap.size) := by
  have hrun : (Instr.buildSlice 107 5 #[(0, .pointer (some a0)), (1, .pointer (some a1)), (2, .pointer (some a2)), (3, .pointer (some a3)), (4, .pointer (some a4))]).run Tryd.prog w = .ok (.slice (some ⟨w.heap.size, 0, none⟩) 5 5) (w.alloc (.cells #[.pointer (some a0), .pointer (some a1), .pointer (some a2), .pointer (some a3), .pointer (some a4)] 82)) := by
    unfold Instr.buildSlice
    go_simp
    try rfl
  exact ⟨_, _, by simp [execOp, ho, h0, h1, h2, h3, h4, hrun, Result.andThen], rfl, rd_ptr w [a0, a1, a2, a3, a4] (by simp), below1 _ _, by simp⟩
theorem exec_pS6 {w : World} {o : Oper} {ac : Act} {X0 X1 X2 X3 X4 X5 : Operand} {a0 a1 a2 a3 a4 a5 : Addr} (ho : o.op = .buildSlice 107 6 #[(0, X0), (1, X1), (2, X2), (3, X3), (4, X4), (5, X5)]) (h0 : ac.eval X0 = .pointer (some a0)) (h1 : ac.eval X1 = .pointer (some a1)) (h2 : ac.eval X2 = .pointer (some a2)) (h3 : ac.eval X3 = .pointer (some a3)) (h4 : ac.eval X4 = .pointer (some a4)) (h5 : ac.eval X5 = .pointer (some a5)) : ∃ v' w', (execOp ac.eval o).run Tryd.prog w = .ok (.value v') w' ∧ (v' = .slice (some ⟨w.heap.size, 0, none⟩) 6 6 ∧ Rd encA 1 w' v' [a0, a1, a2, a3, a4, a5] ∧ Below w.heap.size w w' ∧ w.heap.size < w'.heap.size) := by
  have hrun : (Instr.buildSlice 107 6 #[(0, .pointer (some a0)), (1, .pointer (some a1)), (2, .pointer (some a2)), (3, .pointer (some a3)), (4, .pointer (some a4)), (5, .pointer (some a5))]).run Tryd.prog w = .ok (.slice (some ⟨w.heap.size, 0, none⟩) 6 6) (w.alloc (.cells #[.pointer (some a0), .pointer (some a1), .pointer (some a2), .pointer (some a3), .pointer (some a4), .pointer (some a5)] 82)) := by
    unfold Instr.buildSlice
    go_simp
    try rfl
  exact ⟨_, _, by simp [execOp, ho, h0, h1, h2, h3, h4, h5, hrun, Result.andThen], rfl, rd_ptr w [a0, a1, a2, a3, a4, a5] (by simp), below1 _ _, by simp⟩
theorem exec_pS7 {w : World} {o : Oper} {ac : Act} {X0 X1 X2 X3 X4 X5 X6 : Operand} {a0 a1 a2 a3 a4 a5 a6 : Addr} (ho : o.op = .buildSlice 107 7 #[(0, X0), (1, X1), (2, X2), (3, X3), (4, X4), (5, X5), (6, X6)]) (h0 : ac.eval X0 = .pointer (some a0)) (h1 : ac.eval X1 = .pointer (some a1)) (h2 : ac.eval X2 = .pointer (some a2)) (h3 : ac.eval X3 = .pointer (some a3)) (h4 : ac.eval X4 = .pointer (some a4)) (h5 : ac.eval X5 = .pointer (some a5)) (h6 : ac.eval X6 = .pointer (some a6)) : ∃ v' w', (execOp ac.eval o).run Tryd.prog w = .ok (.value v') w' ∧ (v' = .slice (some ⟨w.heap.size, 0, none⟩) 7 7 ∧ Rd encA 1 w' v' [a0, a1, a2, a3, a4, a5, a6] ∧ Below w.heap.size w w' ∧ w.heap.size < w'.heap.size) := by
  have hrun : (Instr.buildSlice 107 7 #[(0, .pointer (some a0)), (1, .pointer (some a1)), (2, .pointer (some a2)), (3, .pointer (some a3)), (4, .pointer (some a4)), (5, .pointer (some a5)), (6, .pointer (some a6))]).run Tryd.prog w = .ok (.slice (some ⟨w.heap.size, 0, none⟩) 7 7) (w.alloc (.cells #[.pointer (some a0), .pointer (some a1), .pointer (some a2), .pointer (some a3), .pointer (some a4), .pointer (some a5), .pointer (some a6)] 82)) := by
    unfold Instr.buildSlice
    go_simp
    try rfl
  exact ⟨_, _, by simp [execOp, ho, h0, h1, h2, h3, h4, h5, h6, hrun, Result.andThen], rfl, rd_ptr w [a0, a1, a2, a3, a4, a5, a6] (by simp), below1 _ _, by simp⟩
end Go.Proofs.YtjaaldeaknmmbaaDoor
namespace Go.Proofs.YtjaaldeaknmmbaaDoor
open Go.RowKit Go.Shelf

structure RdOk (s : RdS) : Prop where
  r : s.rest.length ≤ 1000000000
  n : s.n ≤ 1000000000
  l : s.bad = false → s.n + s.rest.length ≤ 999999999
theorem mem_len {c : UInt8} : ∀ {ws : List (List UInt8)} {w : List UInt8}, w ∈ ws → w.length ≤ (joinB c ws).length
  | [], _, h => by cases h
  | [y], w, h => by rw [List.mem_singleton.1 h]; exact Nat.le_refl _
  | x :: y :: r, w, h => by
    show _ ≤ (x ++ c :: joinB c (y :: r)).length
    rw [List.length_append, List.length_cons]
    rcases List.mem_cons.1 h with rfl | h
    · omega
    · have := mem_len (c := c) h; omega
theorem nextW_some {r : List UInt8} {p : List (List UInt8) × List UInt8} (h : nextW r = some p) : r.length = (joinB 32 p.1).length + 1 + p.2.length := by
  unfold nextW at h
  obtain ⟨q, hq, rfl⟩ := Option.map_eq_some_iff.1 h
  obtain ⟨e, _⟩ := cutB_some hq
  simp only [joinB_splitB]
  rw [e]
  simp
  omega
theorem RdOk.words {s : RdS} (h : RdOk s) (first : List UInt8) (k : Nat) : RdOk (wordsS first k s).1 ∧ ∀ w ∈ (wordsS first k s).2, w.length ≤ 1000000000 := by
  obtain ⟨rest, n, bad⟩ := s
  have hr := h.r
  have hn := h.n
  have hl := h.l
  have k0 : ∀ w ∈ List.replicate k ([] : List UInt8), w.length ≤ 1000000000 := fun w hw => by rw [(List.mem_replicate.1 hw).2]; simp
  unfold wordsS
  simp only at *
  split
  · exact ⟨h, k0⟩
  · next hb =>
    have hb' : bad = false := by simpa using hb
    have := hl hb'
    split
    · next p hp =>
      have e := nextW_some hp
      split
      · refine ⟨⟨?_, ?_, fun _ => ?_⟩, fun w hw => ?_⟩
        · simp only; omega
        · simp only; omega
        · simp only; omega
        · have := mem_len (c := 32) (List.mem_of_mem_tail hw); omega
      · exact ⟨⟨hr, by simp only; omega, fun h => by cases h⟩, k0⟩
    · exact ⟨⟨hr, by simp only; omega, fun h => by cases h⟩, k0⟩
theorem RdOk.set {s : RdS} (h : RdOk s) {b : Bool} (hb : b = false → s.bad = false) : RdOk ⟨s.rest, s.n, b⟩ := ⟨h.r, h.n, fun e => h.l (hb e)⟩
/-- A snap whose rows are the call's own. -/
structure OwnX (B : Nat) (W : World) (y : Sx) : Prop where
  out : W.ownsRow B 5 1 (.slice y.s.oa y.s.on y.s.oc) y.out.length (y.out.map (Value.int .u8))
  ob : ∀ c ∈ y.out, 0 ≤ c ∧ c ≤ 255
  inn : W.ownsRow B 49 2 (.slice y.s.ia y.s.nn y.s.ic) y.ms.length (y.ms.flatMap encMx)
  each : ∀ m ∈ y.ms, W.ownsRow B 5 1 m.d.v m.d.l.length (m.d.l.map (Value.int .u8)) ∧ (∀ c ∈ m.d.l, 0 ≤ c ∧ c ≤ 255)
theorem OwnX.fr {F : Nat → Prop} {B : Nat} {W X : World} {y : Sx} (h : OwnX B W y) (k : Fr F W X) (hF : ∀ j, F j → ∃ t cs, Blk W j t cs ∧ t ≠ 5 ∧ t ≠ 49) : OwnX B X y := by
  have k5 : ∀ {v n xs s}, W.ownsRow B 5 s v n xs → X.ownsRow B 5 s v n xs := fun h => own_fr h k fun g hg hf => by
    obtain ⟨t, cs, hb, h5, _⟩ := hF g hf
    exact own_apart h hb (Ne.symm h5) g hg rfl
  have k49 : ∀ {v n xs s}, W.ownsRow B 49 s v n xs → X.ownsRow B 49 s v n xs := fun h => own_fr h k fun g hg hf => by
    obtain ⟨t, cs, hb, _, h5⟩ := hF g hf
    exact own_apart h hb (Ne.symm h5) g hg rfl
  exact ⟨k5 h.out, h.ob, k49 h.inn, fun m hm => ⟨k5 (h.each m hm).1, (h.each m hm).2⟩⟩
theorem OwnX.below {B : Nat} {W X : World} {y : Sx} (h : OwnX B W y) (k : Below W.heap.size W X) : OwnX B X y := h.fr (Fr.below k) (fun _ h => h.elim)
/-- How a reader and a snap stand. -/
structure HS (br bs b5 : Nat) (F : Nat → Prop) (w W : World) (s : RdS) (z : Sn) (c : Int) : Prop where
  rd : Blk W br 52 (rdC s).toArray
  sn : Blk W bs 43 (encS z).toArray
  one : Blk W b5 3 #[.int .i64 c]
  fr : Fr F w W
  ok : RdOk s
  ml : MaxLen W
section
variable {br bs b5 : Nat} {F G : Nat → Prop} {w W X : World} {s s' : RdS} {z : Sn} {c : Int}
theorem blk_neq {X : World} {b b' : Nat} {t t' : TypeId} {cs cs' : Array Value} (h : Blk X b t cs) (h' : Blk X b' t' cs') (hne : t ≠ t') : b ≠ b' := fun e => by
  subst e
  unfold Blk at h h'
  rw [h] at h'
  cases h'
  exact hne rfl
theorem HS.fr' (h : HS br bs b5 F w W s z c) (k : Fr G W X) (hG : ∀ j, j < w.heap.size → G j → F j) (hb : ¬ G bs) (h5 : ¬ G b5) (h0 : ¬ G 0) (hr : Blk X br 52 (rdC s').toArray) (ok : RdOk s') : HS br bs b5 F w X s' z c :=
  ⟨hr, h.sn.fr k hb, h.one.fr k h5, h.fr.step k hG, ok, h.ml.fr k h0⟩
theorem HS.below (h : HS br bs b5 F w W s z c) (k : Below W.heap.size W X) : HS br bs b5 F w X s z c := h.fr' (Fr.below k) (fun _ _ e => e.elim) id id id (h.rd.keep k) h.ok
theorem HS.drew (h : HS br bs b5 F w W s z c) : HS br bs b5 F w W.drew s z c := ⟨h.rd, h.sn, h.one, h.fr.drew, h.ok, h.ml⟩
theorem HS.grown (h : HS br bs b5 F w W s z c) (hg : W.grownBy X (some br)) (hF : F br) (h0 : br ≠ 0) (hr : Blk X br 52 (rdC s').toArray) (ok : RdOk s') : HS br bs b5 F w X s' z c :=
  h.fr' (Fr.grown hg) (fun j _ e => e ▸ hF) (fun e => blk_neq h.sn h.rd (by decide) e) (fun e => blk_neq h.one h.rd (by decide) e) (fun e => h0 e.symm) hr ok
/-- Words that were just cut lie beside all this. -/
theorem HS.apart (h : HS br bs b5 F w W s z c) {lv : Value} {ws : List (List UInt8)} (hw : Wds W lv ws) (hl : 2 ≤ ws.length) : ∀ g o m c', lv = .slice (some ⟨g, o, none⟩) m c' → g ≠ br ∧ g ≠ bs ∧ g ≠ b5 := fun _ _ _ _ e =>
  ⟨wds_apart hw e hl h.rd (rdC_apart _), wds_apart hw e hl h.sn (encS_apart _), wds_apart hw e hl (cs := [.int .i64 c]) h.one (int_apart _)⟩
theorem HS.nums (h : HS br bs b5 F w W s z c) (hF : F br) (hs : bs < w.heap.size → F bs) (h5 : w.heap.size ≤ b5) (h0 : br ≠ 0) (hs0 : bs ≠ 0) (h50 : b5 ≠ 0) {ws : List (List UInt8)} {A : List Addr} {lv av : Value} (hw : Wds W lv ws)
    (hfw : ∀ g o m c', lv = .slice (some ⟨g, o, none⟩) m c' → g ≠ br ∧ g ≠ bs ∧ g ≠ b5) (ha : Rd encA 1 W av A) {ga : Nat} {na ca : Nat} (hav : av = .slice (some ⟨ga, 0, none⟩) na ca) (hga : ga ≠ br ∧ ga ≠ bs ∧ ga ≠ b5)
    (hA : ∀ a ∈ A, (∃ j, a = ⟨bs, j, none⟩ ∧ numAt j) ∨ a = ⟨b5, 0, none⟩) (hl : A.length ≤ ws.length) (hws : ∀ w ∈ ws, w.length ≤ 1000000000) :
    Calls Tryd.prog 25 #[.pointer (some ⟨br, 0, none⟩), lv, av] W fun e X => e = .returned (.tuple #[]) ∧ ∃ (b : Bool) (vals : List Int), HS br bs b5 F w X ⟨s.rest, s.n, b⟩ (putL bs z (A.zip vals)) (oneL b5 c (A.zip vals)) ∧
      (b = false → s.bad = false ∧ numsS (ws.take A.length) = some vals) ∧ (b = true → s.bad = true ∨ numsS (ws.take A.length) = none) ∧ Fr (fun j => j = br ∨ j = bs ∨ j = b5) W X := by
  have hbr : bs ≠ br := blk_neq h.sn h.rd (by decide)
  have h5r : b5 ≠ br := blk_neq h.one h.rd (by decide)
  have hb5 : bs ≠ b5 := blk_neq h.sn h.one (by decide)
  have hAb : ∀ a ∈ A, a.block = bs ∨ a.block = b5 := fun a ha => by
    rcases hA a ha with ⟨j, rfl, _⟩ | rfl
    · exact .inl rfl
    · exact .inr rfl
  refine (numbers_any br s.rest s.n s.bad ws A lv av W h.rd hw ha (fun a ha => ?_) (fun g o m c' e => ⟨(hfw g o m c' e).1, fun a ha e2 => ?_⟩) (fun g o m c' e => ?_) hl hws).mono ?_
  · rcases hA a ha with ⟨j, rfl, hj⟩ | rfl
    · exact ⟨hbr, h.sn.lt, intc_snap h.sn hj⟩
    · exact ⟨h5r, h.one.lt, intc_one h.one⟩
  · have := hfw g o m c' e
    rcases hAb a ha with e3 | e3
    · exact this.2.1 (e2.symm.trans e3)
    · exact this.2.2 (e2.symm.trans e3)
  · rw [hav] at e
    simp only [Value.slice.injEq, Option.some.injEq, Addr.mk.injEq, and_true] at e
    obtain ⟨⟨rfl, rfl⟩, _⟩ := e
    refine ⟨hga.1, fun a ha e2 => ?_⟩
    rcases hAb a ha with e3 | e3
    · exact hga.2.1 (e2.symm.trans e3)
    · exact hga.2.2 (e2.symm.trans e3)
  · rintro e X ⟨rfl, b, vals, hN, hb0, hb1⟩
    have hk := Fr.nums hN
    have hk2 : Fr (fun j => j = br ∨ j = bs ∨ j = b5) W X := hk.mono fun j hj => by
      rcases hj with rfl | ⟨a, ha, rfl⟩
      · exact .inl rfl
      · rcases hAb a ha with e | e
        · exact .inr (.inl e)
        · exact .inr (.inr e)
    refine ⟨rfl, b, vals, ⟨hN.rd, nums_snap hN h.sn hbr (fun a ha e => ?_), nums_one hN h.one h5r (fun a ha e => ?_), h.fr.step hk2 (fun j hj e => ?_), h.ok.set (fun e => (hb0 e).1), h.ml.fr hk2 (fun e => ?_)⟩, hb0, hb1, hk2⟩
    · rcases hA a ha with ⟨j, rfl, hj⟩ | rfl
      · exact ⟨j, rfl, hj⟩
      · exact absurd e.symm hb5
    · rcases hA a ha with ⟨j, rfl, hj⟩ | rfl
      · exact absurd e hb5
      · rfl
    · rcases e with rfl | rfl | rfl
      · exact hF
      · exact hs hj
      · omega
    · rcases e with e | e | e
      · exact h0 e.symm
      · exact hs0 e.symm
      · exact h50 e.symm
end
noncomputable def z49 : Value := ((Tryd.prog.info? 49).bind (fun i => i.zero)).getD (.bool false)
theorem E37 : Elem Tryd.prog 37 49 z49 2 32 := ⟨Tryd.underlying37, by kernel_rfl, by kernel_rfl, by decide, by decide⟩
/-- A part of some words, from k on. -/
theorem exec_tail {w : World} {o : Oper} {ac : Act} {x : Operand} {a : Option Addr} {n c : Nat} (k : Nat) (hk : k ≤ n) (_hnc : n ≤ c) (ho : o.op = .slice 80 x (some (.const (.int .i64 (k : Int)))) none none) (hx : ac.eval x = .slice a n c) :
    (execOp ac.eval o).run Tryd.prog w = .ok (.value (sliced a k n c 1)) w := by
  have := run_sliceAt_slice (P := Tryd.prog) (w := w) 80 (.slice a n c) (some (.int .i64 (k : Int))) none none (by kernel_rfl)
  have h2 : (Instr.sliceAt 80 (.slice a n c) (some (.int .i64 (k : Int))) none none).run Tryd.prog w = .ok (sliced a k n c 1) w := by
    rw [this, run_slice_l (P := Tryd.prog) (w := w) 80 _ n c (by kernel_rfl) .i64 k (by omega) (by omega), show Tryd.prog.elem 80 = 9 by kernel_rfl, Tryd.sizeOf9]
    simp [Result.andThen]
  exact exec_slice ho hx rfl rfl h2
end Go.Proofs.YtjaaldeaknmmbaaDoor
namespace Go.Proofs.YtjaaldeaknmmbaaDoor
open Go.RowKit Go.Shelf

theorem list6 {α : Type} {l : List α} (h : l.length = 6) : ∃ a b c d e f, l = [a, b, c, d, e, f] := by
  match l, h with
  | [a, b, c, d, e, f], _ => exact ⟨a, b, c, d, e, f, rfl⟩
theorem list3 {α : Type} {l : List α} (h : l.length = 3) : ∃ a b c, l = [a, b, c] := by
  match l, h with
  | [a, b, c], _ => exact ⟨a, b, c, rfl⟩
theorem numsS_one {x : List UInt8} {v : Int} : numsS [x] = some [v] ↔ numS x = some v := by
  unfold numsS numsS
  cases numS x <;> simp
theorem numsS_one_none {x : List UInt8} : numsS [x] = none ↔ numS x = none := by
  unfold numsS numsS
  cases numS x <;> simp
theorem numsS_three {a b c : List UInt8} {l : List Int} (h : numsS [a, b, c] = some l) : ∃ x y z, l = [x, y, z] ∧ numS a = some x ∧ numS b = some y ∧ numS c = some z := by
  unfold numsS numsS numsS numsS at h
  cases ha : numS a with
  | none => rw [ha] at h; simp at h
  | some x =>
    cases hb : numS b with
    | none => rw [ha, hb] at h; simp at h
    | some y =>
      cases hc : numS c with
      | none => rw [ha, hb, hc] at h; simp at h
      | some z => rw [ha, hb, hc] at h; simp at h; exact ⟨x, y, z, h.symm, rfl, rfl, rfl⟩
theorem numsS_three_none {a b c : List UInt8} (h : numsS [a, b, c] = none) : numS a = none ∨ numS b = none ∨ numS c = none := by
  unfold numsS numsS numsS numsS at h
  cases ha : numS a with
  | none => exact .inl rfl
  | some x =>
    cases hb : numS b with
    | none => exact .inr (.inl rfl)
    | some y =>
      cases hc : numS c with
      | none => exact .inr (.inr rfl)
      | some z => rw [ha, hb, hc] at h; simp at h
theorem host_stp {s : RdS} {bad : Bool} {v3 : List Int} {c : Int} {x3 o : List UInt8} (hx : (wordsS wHost 5 s).2[3]? = some x3)
    (h0 : bad = false → (wordsS wHost 5 s).1.bad = false ∧ numsS ((wordsS wHost 5 s).2.take 3) = some v3 ∧ numsS ((wordsS wHost 5 s).2.drop 4) = some [c] ∧ unhexW x3 = some o ∧ 0 ≤ c)
    (h1 : bad = true → (wordsS wHost 5 s).1.bad = true ∨ numsS ((wordsS wHost 5 s).2.take 3) = none ∨ numsS ((wordsS wHost 5 s).2.drop 4) = none ∨ unhexW x3 = none ∨ (numsS ((wordsS wHost 5 s).2.drop 4) = some [c] ∧ c < 0)) :
    Stp (lineP hostS) s ⟨(wordsS wHost 5 s).1.rest, (wordsS wHost 5 s).1.n, bad⟩ (fun q => q = (v3, o, c.toNat)) := by
  obtain ⟨rest, n, b⟩ := s
  refine ⟨fun hb => ?_, fun hb => ?_⟩
  · simp only at hb
    subst hb
    simp only [wordsS, if_pos] at h0 h1 ⊢
    cases bad with
    | true => exact ⟨rfl, trivial⟩
    | false => cases (h0 rfl).1
  · simp only at hb
    subst hb
    unfold wordsS at *
    simp only [Bool.false_eq_true, if_false] at *
    unfold lineP
    cases hn : nextW rest with
    | none =>
      rw [hn] at h0 h1
      simp only at h0 h1 ⊢
      cases bad with
      | true => exact ⟨rfl, rfl⟩
      | false => cases (h0 rfl).1
    | some p =>
      rw [hn] at h0 h1 hx
      simp only at h0 h1 hx ⊢
      by_cases hc : p.1.length = 5 + 1 ∧ p.1.head? = some wHost
      · rw [if_pos hc] at h0 h1 hx ⊢
        obtain ⟨w, a, b, c', o', k, e⟩ := list6 hc.1
        rw [e] at h0 h1 hx hc ⊢
        have hw : w = wHost := by simpa using hc.2
        subst hw
        simp only [List.tail_cons, List.take_succ_cons, List.take_zero, List.drop_succ_cons, List.drop_zero, List.getElem?_cons_succ, List.getElem?_cons_zero, Option.some.injEq] at h0 h1 hx ⊢
        subst hx
        cases bad with
        | false =>
          obtain ⟨-, q1, q2, q3, q4⟩ := h0 rfl
          obtain ⟨x, y, z, rfl, r1, r2, r3⟩ := numsS_three q1
          unfold hostS
          simp only [if_pos]
          rw [r1, r2, r3, q3, numsS_one.1 q2]
          simp only [if_pos q4]
          exact ⟨rfl, rfl⟩
        | true =>
          have hnone : hostS [wHost, a, b, c', o', k] = none := by
            unfold hostS
            simp only [if_pos]
            rcases h1 rfl with h | h | h | h | ⟨h, h'⟩
            · cases h
            · rcases numsS_three_none h with h | h | h
              · rw [h]
              · rw [h]; cases numS a <;> rfl
              · rw [h]; cases numS a <;> cases numS b <;> rfl
            · rw [numsS_one_none.1 h]; cases numS a <;> cases numS b <;> cases numS c' <;> cases unhexW o' <;> rfl
            · rw [h]; cases numS a <;> cases numS b <;> cases numS c' <;> rfl
            · rw [numsS_one.1 h]
              have h2 : ¬ (0 : Int) ≤ c := by omega
              cases numS a <;> cases numS b <;> cases numS c' <;> cases unhexW o' <;> first | rfl | exact if_neg h2
          rw [hnone]
          exact ⟨rfl, rfl⟩
      · rw [if_neg hc] at h0 h1 ⊢
        have hnone : hostS p.1 = none := by
          cases hh : hostS p.1 with
          | none => rfl
          | some q =>
            obtain ⟨a, b, c⟩ := q
            obtain ⟨_, _, _, _, e, _⟩ := hostS_some hh
            exact absurd ⟨by rw [e]; rfl, by rw [e]; rfl⟩ hc
        rw [hnone]
        cases bad with
        | false => cases (h0 rfl).1
        | true => exact ⟨rfl, rfl⟩
theorem in_stp {s : RdS} {bad : Bool} {age : Int} {x1 d : List UInt8} (hx : (wordsS wIn 2 s).2[1]? = some x1)
    (h0 : bad = false → (wordsS wIn 2 s).1.bad = false ∧ numsS ((wordsS wIn 2 s).2.take 1) = some [age] ∧ unhexW x1 = some d)
    (h1 : bad = true → (wordsS wIn 2 s).1.bad = true ∨ numsS ((wordsS wIn 2 s).2.take 1) = none ∨ unhexW x1 = none) :
    Stp (lineP inS) s ⟨(wordsS wIn 2 s).1.rest, (wordsS wIn 2 s).1.n, bad⟩ (fun q => q = (age, d)) := by
  obtain ⟨rest, n, b⟩ := s
  refine ⟨fun hb => ?_, fun hb => ?_⟩
  · simp only at hb
    subst hb
    simp only [wordsS, if_pos] at h0 h1 ⊢
    cases bad with
    | true => exact ⟨rfl, trivial⟩
    | false => cases (h0 rfl).1
  · simp only at hb
    subst hb
    unfold wordsS at *
    simp only [Bool.false_eq_true, if_false] at *
    unfold lineP
    cases hn : nextW rest with
    | none =>
      rw [hn] at h0 h1
      simp only at h0 h1 ⊢
      cases bad with
      | true => exact ⟨rfl, rfl⟩
      | false => cases (h0 rfl).1
    | some p =>
      rw [hn] at h0 h1 hx
      simp only at h0 h1 hx ⊢
      by_cases hc : p.1.length = 2 + 1 ∧ p.1.head? = some wIn
      · rw [if_pos hc] at h0 h1 hx ⊢
        obtain ⟨w, a, o', e⟩ := list3 hc.1
        rw [e] at h0 h1 hx hc ⊢
        have hw : w = wIn := by simpa using hc.2
        subst hw
        simp only [List.tail_cons, List.take_succ_cons, List.take_zero, List.getElem?_cons_succ, List.getElem?_cons_zero, Option.some.injEq] at h0 h1 hx ⊢
        subst hx
        cases bad with
        | false =>
          obtain ⟨-, q1, q2⟩ := h0 rfl
          unfold inS
          simp only [if_pos]
          rw [numsS_one.1 q1, q2]
          exact ⟨rfl, rfl⟩
        | true =>
          have hnone : inS [wIn, a, o'] = none := by
            unfold inS
            simp only [if_pos]
            rcases h1 rfl with h | h | h
            · cases h
            · rw [numsS_one_none.1 h]
            · rw [h]; cases numS a <;> rfl
          rw [hnone]
          exact ⟨rfl, rfl⟩
      · rw [if_neg hc] at h0 h1 ⊢
        have hnone : inS p.1 = none := by
          cases hh : inS p.1 with
          | none => rfl
          | some q =>
            obtain ⟨e, _⟩ := inS_iff.1 hh
            exact absurd ⟨by rw [e]; rfl, by rw [e]; rfl⟩ hc
        rw [hnone]
        cases bad with
        | false => cases (h0 rfl).1
        | true => exact ⟨rfl, rfl⟩
/-- What the loop over messages keeps. -/
structure LpS (br bs b5 : Nat) (F : Nat → Prop) (w W : World) (sh : RdS) (z0 : Sn) (c : Int) (out : List Int) (i : Nat) (s : RdS) (y : Sx) : Prop where
  hs : HS br bs b5 F w W s y.s c
  same : ∃ ia nn ic, y.s = { z0 with ia := ia, nn := nn, ic := ic }
  outE : y.out = out
  own : OwnX w.heap.size W y
  good : s.bad = false → sh.bad = false ∧ insP i sh.rest sh.n = (some (y.ms.map Mx.k, s.rest), s.n)
  bad : s.bad = true → (sh.bad = true ∧ s.n = sh.n) ∨ (sh.bad = false ∧ insP c.toNat sh.rest sh.n = (none, s.n))
theorem LpS.round {br bs b5 : Nat} {F : Nat → Prop} {w W X : World} {sh : RdS} {z0 : Sn} {c : Int} {out : List Int} {i : Nat} {s s' : RdS} {y : Sx} {m : Mx} {ia : Option Addr} {nn ic : Nat} (h : LpS br bs b5 F w W sh z0 c out i s y) (hb : s.bad = false) (hi : (i : Int) < c)
    (hs : HS br bs b5 F w X s' { y.s with ia := ia, nn := nn, ic := ic } c) (hst : Stp (lineP inS) s s' (fun q => q = m.k)) (ho : OwnX w.heap.size X ⟨{ y.s with ia := ia, nn := nn, ic := ic }, y.out, y.ms ++ [m]⟩) :
    LpS br bs b5 F w X sh z0 c out (i + 1) s' ⟨{ y.s with ia := ia, nn := nn, ic := ic }, y.out, y.ms ++ [m]⟩ := by
  obtain ⟨ia0, nn0, ic0, e0⟩ := h.same
  obtain ⟨g1, g2⟩ := h.good hb
  obtain ⟨st1, st2⟩ := ins_step g2
  have hg := hst.2 hb
  generalize hl : lineP inS s.rest s.n = o at hg
  obtain ⟨o, m2⟩ := o
  refine ⟨hs, ⟨ia, nn, ic, by rw [e0]⟩, h.outE, ho, fun hb2 => ?_, fun hb2 => ?_⟩
  · cases o with
    | none => rw [hg.1] at hb2; cases hb2
    | some p =>
      obtain ⟨a, r⟩ := p
      obtain ⟨rfl, q2⟩ := hg
      have q3 : a = m.k := q2
      subst q3
      refine ⟨g1, ?_⟩
      rw [st1 _ _ _ hl]
      simp
  · cases o with
    | none => exact .inr ⟨g1, by rw [st2 m2 hl c.toNat (by omega), hg.2]⟩
    | some p => obtain ⟨rfl, _⟩ := hg; cases hb2
theorem LpS.stp {br bs b5 : Nat} {F : Nat → Prop} {w W : World} {s0 sh : RdS} {z0 : Sn} {c : Int} {out : List Int} {i : Nat} {s : RdS} {y : Sx} {v3 : List Int} {o : List UInt8} (h : LpS br bs b5 F w W sh z0 c out i s y) (hi : s.bad = false → (i : Int) = c)
    (hh : Stp (lineP hostS) s0 sh (fun q => q = (v3, o, c.toNat))) : Stp hostP s0 s (fun q => q = (v3, o, y.ms.map Mx.k)) := by
  have hbad : sh.bad = true → s.bad = true ∧ s.n = sh.n := fun e => by
    cases hs : s.bad with
    | false => rw [(h.good hs).1] at e; cases e
    | true =>
      rcases h.bad hs with ⟨_, q⟩ | ⟨q, _⟩
      · exact ⟨rfl, q⟩
      · rw [q] at e; cases e
  refine ⟨fun e => ?_, fun e => ?_⟩
  · obtain ⟨q1, q2⟩ := hh.1 e
    obtain ⟨r1, r2⟩ := hbad q1
    exact ⟨r1, r2.trans q2⟩
  · have hg := hh.2 e
    unfold hostP
    generalize lineP hostS s0.rest s0.n = ol at hg
    obtain ⟨ol, m⟩ := ol
    cases ol with
    | none =>
      obtain ⟨q1, q2⟩ := hg
      obtain ⟨r1, r2⟩ := hbad q1
      exact ⟨r1, r2.trans q2⟩
    | some p =>
      obtain ⟨q, r⟩ := p
      obtain ⟨rfl, q2⟩ := hg
      have q3 : q = (v3, o, c.toNat) := q2
      subst q3
      simp only
      cases hs : s.bad with
      | false =>
        have := (h.good hs).2
        rw [show i = c.toNat by have := hi hs; omega] at this
        simp only at this
        rw [this]
        refine ⟨?_, rfl⟩
        obtain ⟨a1, a2, a3⟩ := s
        simp only at hs
        subst hs
        rfl
      | true =>
        rcases h.bad hs with ⟨q, _⟩ | ⟨_, q⟩
        · cases q
        · simp only at q
          rw [q]
          exact ⟨hs, rfl⟩
/-- A message's box. -/
theorem HS.nums7 {br bs b5 b7 : Nat} {F : Nat → Prop} {w W : World} {s : RdS} {z : Sn} {c : Int} (h : HS br bs b5 F w W s z c) (hF : F br) (h7 : w.heap.size ≤ b7) (h0 : br ≠ 0) (h70 : b7 ≠ 0) (hb : Blk W b7 49 #[.slice none 0 0, .int .i64 0]) {ws : List (List UInt8)} {lv av : Value} (hw : Wds W lv ws)
    (hfw : ∀ g o m c', lv = .slice (some ⟨g, o, none⟩) m c' → g ≠ br ∧ g ≠ b7) (ha : Rd encA 1 W av [⟨b7, 1, none⟩]) {ga : Nat} {na ca : Nat} (hav : av = .slice (some ⟨ga, 0, none⟩) na ca) (hga : ga ≠ br ∧ ga ≠ b7) (hl : 1 ≤ ws.length) (hws : ∀ w ∈ ws, w.length ≤ 1000000000) :
    Calls Tryd.prog 25 #[.pointer (some ⟨br, 0, none⟩), lv, av] W fun e X => e = .returned (.tuple #[]) ∧ ∃ (b : Bool) (age : Int), HS br bs b5 F w X ⟨s.rest, s.n, b⟩ z c ∧ Blk X b7 49 #[.slice none 0 0, .int .i64 age] ∧
      (b = false → s.bad = false ∧ numsS (ws.take 1) = some [age]) ∧ (b = true → s.bad = true ∨ numsS (ws.take 1) = none) ∧ Fr (fun j => j = br ∨ j = b7) W X := by
  have h7r : b7 ≠ br := blk_neq hb h.rd (by decide)
  refine (numbers_any br s.rest s.n s.bad ws [⟨b7, 1, none⟩] lv av W h.rd hw ha (fun a ha => ?_) (fun g o m c' e => ⟨(hfw g o m c' e).1, fun a ha e2 => ?_⟩) (fun g o m c' e => ?_) hl hws).mono ?_
  · rw [List.mem_singleton.1 ha]
    exact ⟨h7r, hb.lt, ⟨0, hb.cell 1⟩, hb.frozen 1⟩
  · rw [List.mem_singleton.1 ha] at e2
    exact (hfw g o m c' e).2 e2.symm
  · rw [hav] at e
    simp only [Value.slice.injEq, Option.some.injEq, Addr.mk.injEq, and_true] at e
    obtain ⟨⟨rfl, rfl⟩, _⟩ := e
    refine ⟨hga.1, fun a ha e2 => ?_⟩
    rw [List.mem_singleton.1 ha] at e2
    exact hga.2 e2.symm
  · rintro e X ⟨rfl, b, vals, hN, hb0, hb1⟩
    have hk : Fr (fun j => j = br ∨ j = b7) W X := (Fr.nums hN).mono fun j hj => by
      rcases hj with rfl | ⟨a, ha, rfl⟩
      · exact .inl rfl
      · rw [List.mem_singleton.1 ha]; exact .inr rfl
    have hlen := hN.len
    have hs7 : bs ≠ b7 := blk_neq h.sn hb (by decide)
    have h57 : b5 ≠ b7 := blk_neq h.one hb (by decide)
    have hsr : bs ≠ br := blk_neq h.sn h.rd (by decide)
    have h5r : b5 ≠ br := blk_neq h.one h.rd (by decide)
    have hHS : HS br bs b5 F w X ⟨s.rest, s.n, b⟩ z c := h.fr' hk (fun j hj e => by
        rcases e with rfl | rfl
        · exact hF
        · omega) (by rintro (e | e) <;> contradiction) (by rintro (e | e) <;> contradiction) (by rintro (e | e); exact h0 e.symm; exact h70 e.symm) hN.rd (h.ok.set fun e => (hb0 e).1)
    have hblk := hN.block b7 hb.lt h7r
    cases vals with
    | nil =>
      refine ⟨rfl, b, 0, hHS, hblk.trans hb, fun e => ?_, hb1, hk⟩
      have := numsS_len (hb0 e).2
      simp at this
      omega
    | cons v vs =>
      have hvs : vs = [] := by cases vs with
        | nil => rfl
        | cons u us => simp at hlen
      subst hvs
      refine ⟨rfl, b, v, hHS, hblk.trans ?_, hb0, hb1, hk⟩
      have := hb.set 1 (.int .i64 v)
      exact this
end Go.Proofs.YtjaaldeaknmmbaaDoor
namespace Go.Proofs.YtjaaldeaknmmbaaDoor
open Go.RowKit Go.Shelf

theorem own_le {W : World} {B B' : Nat} {e : TypeId} {s : Nat} {v : Value} {n : Nat} {xs : List Value} (h : W.ownsRow B e s v n xs) (hB : B' ≤ B) : W.ownsRow B' e s v n xs :=
  ⟨h.1, h.2.imp id fun ⟨g, cap, cur, hv, hg, r⟩ => ⟨g, cap, cur, hv, Nat.le_trans hB hg, r⟩⟩
theorem list5 {α : Type} {l : List α} (h : l.length = 5) : ∃ a b c d e, l = [a, b, c, d, e] := by
  match l, h with
  | [a, b, c, d, e], _ => exact ⟨a, b, c, d, e, rfl⟩
theorem list2 {α : Type} {l : List α} (h : l.length = 2) : ∃ a b, l = [a, b] := by
  match l, h with
  | [a, b], _ => exact ⟨a, b, rfl⟩
theorem putL_far {bs : Nat} : ∀ {l : List (Addr × Int)} {x : Sn}, (∀ p ∈ l, p.1.block ≠ bs) → putL bs x l = x
  | [], x, _ => rfl
  | p :: l, x, h => by
    show putL bs (if p.1.block = bs then x.put p.1.off p.2 else x) l = x
    rw [if_neg (h p (by simp))]
    exact putL_far (fun q hq => h q (by simp [hq]))
theorem oneL_far {b : Nat} : ∀ {l : List (Addr × Int)} {v : Int}, (∀ p ∈ l, p.1.block ≠ b) → oneL b v l = v
  | [], v, _ => rfl
  | p :: l, v, h => by
    show oneL b (if p.1.block = b then p.2 else v) l = v
    rw [if_neg (h p (by simp))]
    exact oneL_far (fun q hq => h q (by simp [hq]))
theorem put3 (bs : Nat) (z : Sn) (vals : List Int) : ∃ hi lf wt, putL bs z ([⟨bs, 18, none⟩, ⟨bs, 21, none⟩, ⟨bs, 22, none⟩].zip vals) = { z with hi := hi, lf := lf, wt := wt } ∧ (∀ a b c, vals = [a, b, c] → hi = a ∧ lf = b ∧ wt = c) := by
  match vals with
  | [] => exact ⟨z.hi, z.lf, z.wt, rfl, fun a b c h => by cases h⟩
  | [x] => exact ⟨x, z.lf, z.wt, by simp [putL, Sn.put], fun a b c h => by cases h⟩
  | [x, y] => exact ⟨x, y, z.wt, by simp [putL, Sn.put], fun a b c h => by cases h⟩
  | x :: y :: u :: r => exact ⟨x, y, u, by simp [putL, Sn.put], fun a b c h => by cases h; exact ⟨rfl, rfl, rfl⟩⟩
theorem one1 (b : Nat) (v : Int) (vals : List Int) : ∃ c, oneL b v ([⟨b, 0, none⟩].zip vals) = c ∧ (∀ a, vals = [a] → c = a) := by
  match vals with
  | [] => exact ⟨v, rfl, fun a h => by cases h⟩
  | x :: r => exact ⟨x, by simp [oneL], fun a h => by cases h; rfl⟩
/-- The bytes that a word says, as the caller's own. -/
theorem bytes_out {B B' : Nat} {X : World} {v : Value} {x : List UInt8} (hB : B' ≤ B) (h1 : ∀ b, unhexW x = some b → X.ownsRow B 5 1 v b.length (b.map u8c)) (h2 : unhexW x = none → v = .slice none 0 0) :
    ∃ (a : Option Addr) (c : Nat) (l : List Int), v = .slice a l.length c ∧ X.ownsRow B' 5 1 (.slice a l.length c) l.length (l.map (Value.int .u8)) ∧ (∀ k ∈ l, 0 ≤ k ∧ k ≤ 255) ∧ (∀ b, unhexW x = some b → bytesOf l = b) := by
  cases hx : unhexW x with
  | none =>
    refine ⟨none, 0, [], by rw [h2 hx]; rfl, ⟨by simp, .inl ⟨rfl, rfl⟩⟩, by simp, fun b h => by cases h⟩
  | some b =>
    have ho := h1 b hx
    obtain ⟨a, c, rfl, _⟩ := owns_shape ho
    have e : (b.map fun k : UInt8 => (k.toNat : Int)).map (Value.int .u8) = b.map u8c := by rw [List.map_map]; rfl
    refine ⟨a, c, b.map fun k => (k.toNat : Int), by simp, ?_, fun k hk => ?_, fun b' h => ?_⟩
    · rw [e, List.length_map]
      exact own_le ho hB
    · obtain ⟨u, _, rfl⟩ := List.mem_map.1 hk
      have := u.toNat_lt
      omega
    · cases h
      unfold bytesOf
      rw [List.map_map]
      conv => rhs; rw [← List.map_id b]
      refine List.map_congr_left fun u _ => ?_
      simp
theorem Fr.grownO {W X : World} {row : Option Nat} (h : W.grownBy X row) : Fr (fun j => row = some j) W X := ⟨h.os, h.tape, h.output, h.size, fun j hj hn => h.block j hj (fun e => hn e.symm)⟩
theorem Fr.setCell (W : World) (p : Addr) (v : Value) : Fr (fun j => j = p.block) W (W.setCell p v) := Fr.mono (Fr.grownO (grownBy_setCell W p v)) (fun j h => by cases h; rfl)
theorem news_wide (X : World) (cs : List Value) (t : TypeId) : ∀ j u, cs[j]? = some u → (X.alloc (.cells cs.toArray t)).cell? ((⟨X.heap.size, 0, none⟩ : Addr).add j) = some u := fun j u hj => by
  rw [show (⟨X.heap.size, 0, none⟩ : Addr).add j = ⟨X.heap.size, j, none⟩ by simp [Addr.add]; omega, World.cell?_alloc_at _ _ _ _ rfl]
  simpa using hj
section
variable {br bs b5 : Nat} {F : Nat → Prop} {w W X : World} {s s' : RdS} {z : Sn} {c : Int}
theorem HS.setIn (h : HS br bs b5 F w W s z c) (hs : bs < w.heap.size → F bs) (hs0 : bs ≠ 0) (a : Option Addr) (n k : Nat) : HS br bs b5 F w (W.setCell ⟨bs, 20, none⟩ (.slice a n k)) s { z with ia := a, nn := n, ic := k } c :=
  ⟨h.rd.far (Ne.symm (blk_neq h.sn h.rd (by decide))) _, h.sn.setL 20 _, h.one.far (Ne.symm (blk_neq h.sn h.one (by decide))) _, h.fr.step (Fr.setCell _ _ _) (fun j hj e => by subst e; exact hs hj), h.ok, h.ml.fr (Fr.setCell _ _ _) (fun e => hs0 e.symm)⟩
theorem HS.setOut (h : HS br bs b5 F w W s z c) (hs : bs < w.heap.size → F bs) (hs0 : bs ≠ 0) (a : Option Addr) (n k : Nat) : HS br bs b5 F w (W.setCell ⟨bs, 19, none⟩ (.slice a n k)) s { z with oa := a, on := n, oc := k } c :=
  ⟨h.rd.far (Ne.symm (blk_neq h.sn h.rd (by decide))) _, h.sn.setL 19 _, h.one.far (Ne.symm (blk_neq h.sn h.one (by decide))) _, h.fr.step (Fr.setCell _ _ _) (fun j hj e => by subst e; exact hs hj), h.ok, h.ml.fr (Fr.setCell _ _ _) (fun e => hs0 e.symm)⟩
theorem HS.setBad (h : HS br bs b5 F w W s z c) (hF : F br) (h0 : br ≠ 0) : HS br bs b5 F w (W.setCell ⟨br, 2, none⟩ (.bool true)) ⟨s.rest, s.n, true⟩ z c :=
  ⟨by have := h.rd.set 2 (.bool true); simpa [rdC] using this, h.sn.far (blk_neq h.sn h.rd (by decide)) _, h.one.far (blk_neq h.one h.rd (by decide)) _, h.fr.step (Fr.setCell _ _ _) (fun j hj e => by subst e; exact hF), h.ok.set (fun e => by cases e), h.ml.fr (Fr.setCell _ _ _) (fun e => h0 e.symm)⟩
/-- An append to a row of the call's own. -/
theorem HS.app (h : HS br bs b5 F w W s z c) {v : Value} {n : Nat} {xs : List Value} (ho : W.ownsRow w.heap.size 49 2 v n xs) (hg : W.grownBy X v.ownBlock) (hw0 : 0 < w.heap.size) : HS br bs b5 F w X s z c := by
  have k := Fr.grownO hg
  refine h.fr' k (fun j hj e => ?_) (fun e => own_blk_ne ho h.sn (by decide) e) (fun e => own_blk_ne ho h.one (by decide) e) (fun e => ?_) (h.rd.fr k (fun e => own_blk_ne ho h.rd (by decide) e)) h.ok
  · have := (ho.lt j e).1; omega
  · have := (ho.lt 0 e).1; omega
end
theorem own_far5 {B B' : Nat} {W X : World} {v v' : Value} {n n' s s' : Nat} {xs xs' : List Value} (h : W.ownsRow B 5 s v n xs) (ho : W.ownsRow B' 49 s' v' n' xs') (hg : W.grownBy X v'.ownBlock) : X.ownsRow B 5 s v n xs := by
  refine own_fr h (Fr.grownO hg) fun g hv e => ?_
  rcases h.2 with ⟨rfl, _⟩ | ⟨g1, cap, cur, rfl, _, hh, _⟩
  · simp [Value.ownBlock] at hv
  · rcases ho.2 with ⟨rfl, _⟩ | ⟨g2, cap', cur', rfl, _, hh', _⟩
    · simp [Value.ownBlock] at e
    · simp only [Value.ownBlock, Option.some.injEq] at hv e
      subst hv
      subst e
      rw [hh] at hh'
      cases hh'
/-- One more message. -/
theorem OwnX.add {B : Nat} {W X : World} {y : Sx} {m : Mx} {a : Option Addr} {n k : Nat} (h : OwnX B W y) (hg : W.grownBy X (Value.slice y.s.ia y.s.nn y.s.ic).ownBlock) (ho : X.ownsRow B 49 2 (.slice a n k) (y.ms.length + 1) (y.ms.flatMap encMx ++ encMx m))
    (hm : W.ownsRow B 5 1 m.d.v m.d.l.length (m.d.l.map (Value.int .u8)) ∧ (∀ c ∈ m.d.l, 0 ≤ c ∧ c ≤ 255)) : OwnX B X ⟨{ y.s with ia := a, nn := n, ic := k }, y.out, y.ms ++ [m]⟩ :=
  ⟨own_far5 h.out h.inn hg, h.ob, by simpa using ho, fun q hq => by
    rcases List.mem_append.1 hq with hq | hq
    · exact ⟨own_far5 (h.each q hq).1 h.inn hg, (h.each q hq).2⟩
    · rw [List.mem_singleton.1 hq]; exact ⟨own_far5 hm.1 h.inn hg, hm.2⟩⟩
end Go.Proofs.YtjaaldeaknmmbaaDoor
