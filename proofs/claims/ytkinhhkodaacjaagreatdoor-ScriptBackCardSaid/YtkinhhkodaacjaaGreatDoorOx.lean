/- A script whose rows are the call's own; what its changes keep. -/
import Derived.Test.YtkinhhkodaacjaaGreatDoorSc0
import Derived.Test.YtkinhhkodaacjaaGreatDoorV3
namespace Go.Proofs.YtkinhhkodaacjaaGreatDoor
open Go.RowKit Go.Shelf
open Md

/-- All blocks but those of F stand. -/
structure Fr (F : Nat → Prop) (w W : World) : Prop where
  os : W.os = w.os
  tape : W.tape = w.tape
  output : W.output = w.output
  size : w.heap.size ≤ W.heap.size
  block : ∀ j, j < w.heap.size → ¬ F j → W.heap[j]? = w.heap[j]?
theorem Fr.refl (F : Nat → Prop) (w : World) : Fr F w w := ⟨rfl, rfl, rfl, Nat.le_refl _, fun _ _ _ => rfl⟩
theorem Fr.step {F G : Nat → Prop} {w W X : World} (h : Fr F w W) (k : Fr G W X) (hFG : ∀ j, j < w.heap.size → G j → F j) : Fr F w X :=
  ⟨k.os.trans h.os, k.tape.trans h.tape, k.output.trans h.output, Nat.le_trans h.size k.size, fun j hj hn => (k.block j (Nat.lt_of_lt_of_le hj h.size) (fun hg => hn (hFG j hj hg))).trans (h.block j hj hn)⟩
theorem Fr.below {W X : World} (h : Below W.heap.size W X) : Fr (fun _ => False) W X := ⟨h.os, h.tape, h.output, h.size, fun j hj _ => h.block j hj⟩
theorem Fr.drew {F : Nat → Prop} {w W : World} (h : Fr F w W) : Fr F w W.drew := ⟨h.os, h.tape, h.output, h.size, h.block⟩
theorem Fr.mono {F G : Nat → Prop} {w W : World} (h : Fr F w W) (k : ∀ j, F j → G j) : Fr G w W := ⟨h.os, h.tape, h.output, h.size, fun j hj hn => h.block j hj (fun e => hn (k j e))⟩
theorem Fr.grownO {W X : World} {row : Option Nat} (h : W.grownBy X row) : Fr (fun j => row = some j) W X := ⟨h.os, h.tape, h.output, h.size, fun j hj hn => h.block j hj (fun e => hn e.symm)⟩
theorem Fr.setCell (W : World) (p : Addr) (v : Value) : Fr (fun j => j = p.block) W (W.setCell p v) := Fr.mono (Fr.grownO (grownBy_setCell W p v)) (fun j h => by cases h; rfl)
theorem fr_setRow {W : World} {b : Nat} {t : TypeId} {old cs : Array Value} (_h : Blk W b t old) : Fr (fun j => j = b) W (W.setRow b cs) :=
  ⟨rfl, rfl, rfl, by simp [World.setRow], fun j hj hn => by
    simp only [World.setRow, Array.getElem?_modify, if_neg (fun e : b = j => hn e.symm)]⟩
theorem Fr.belowB {F : Nat → Prop} {B : Nat} {w W : World} (h : Fr F w W) (hF : ∀ j, F j → B ≤ j) (hB : B ≤ w.heap.size) : Below B w W := ⟨h.os, h.tape, h.output, h.size, fun j hj => h.block j (Nat.lt_of_lt_of_le hj hB) (fun e => by have := hF j e; omega)⟩
theorem Blk.fr {F : Nat → Prop} {W X : World} {b : Nat} {t : TypeId} {cs : Array Value} (h : Blk W b t cs) (k : Fr F W X) (hn : ¬ F b) : Blk X b t cs := (k.block b h.lt hn).trans h
theorem own_fr {F : Nat → Prop} {W X : World} {B : Nat} {e : TypeId} {s : Nat} {v : Value} {n : Nat} {xs : List Value} (h : W.ownsRow B e s v n xs) (k : Fr F W X) (hn : ∀ g, v.ownBlock = some g → ¬ F g) : X.ownsRow B e s v n xs :=
  ⟨h.1, h.2.imp id fun ⟨g, cap, cur, hv, hg, hh, r⟩ => ⟨g, cap, cur, hv, hg, (k.block g (Array.getElem?_eq_some_iff.1 hh).1 (hn g (by rw [hv]; rfl))).trans hh, r⟩⟩
theorem own_apart {W : World} {base : Nat} {e : TypeId} {size : Nat} {v : Value} {n : Nat} {xs : List Value} (h : W.ownsRow base e size v n xs) {b : Nat} {t : TypeId} {cs : Array Value} (hb : Blk W b t cs) (hne : e ≠ t) : ∀ g, v.ownBlock = some g → g ≠ b := fun g hg e => own_blk_ne h hb hne (by rw [hg, e])
theorem own_own {X : World} {B B' : Nat} {e e' : TypeId} {s s' n n' : Nat} {v v' : Value} {xs xs' : List Value} (h : X.ownsRow B e s v n xs) (h' : X.ownsRow B' e' s' v' n' xs') (hne : e ≠ e') : ∀ g, v.ownBlock = some g → v'.ownBlock = some g → False := by
  intro g hg hg'
  rcases h.2 with ⟨rfl, _⟩ | ⟨g1, cap, cur, rfl, _, hh, _⟩
  · simp [Value.ownBlock] at hg
  · rcases h'.2 with ⟨rfl, _⟩ | ⟨g2, cap', cur', rfl, _, hh', _⟩
    · simp [Value.ownBlock] at hg'
    · simp only [Value.ownBlock, Option.some.injEq] at hg hg'
      subst hg
      subst hg'
      rw [hh] at hh'
      cases hh'
      exact hne rfl
theorem own_le {W : World} {B B' : Nat} {e : TypeId} {s : Nat} {v : Value} {n : Nat} {xs : List Value} (h : W.ownsRow B e s v n xs) (hB : B' ≤ B) : W.ownsRow B' e s v n xs :=
  ⟨h.1, h.2.imp id fun ⟨g, cap, cur, hv, hg, r⟩ => ⟨g, cap, cur, hv, Nat.le_trans hB hg, r⟩⟩
theorem blk_neq {X : World} {b b' : Nat} {t t' : TypeId} {cs cs' : Array Value} (h : Blk X b t cs) (h' : Blk X b' t' cs') (hne : t ≠ t') : b ≠ b' := fun e => by
  subst e
  unfold Blk at h h'
  rw [h] at h'
  cases h'
  exact hne rfl
theorem Blk.setL {W : World} {b : Nat} {t : TypeId} {cs : List Value} (h : Blk W b t cs.toArray) (j : Nat) (v : Value) : Blk (W.setCell ⟨b, j, none⟩ v) b t (cs.set j v).toArray := by
  have := h.set j v
  rwa [List.setIfInBounds_toArray] at this
theorem news_wide (X : World) (cs : List Value) (t : TypeId) : ∀ j u, cs[j]? = some u → (X.alloc (.cells cs.toArray t)).cell? ((⟨X.heap.size, 0, none⟩ : Addr).add j) = some u := fun j u hj => by
  rw [show (⟨X.heap.size, 0, none⟩ : Addr).add j = ⟨X.heap.size, j, none⟩ by simp [Addr.add]; omega, World.cell?_alloc_at _ _ _ _ rfl]
  simpa using hj
theorem own_cellsV {W : World} {B : Nat} {e : TypeId} {v : Value} {n : Nat} {xs : List Value} (h : W.ownsRow B e 1 v n xs) (hn : n ≠ 0) : ∃ g c, v = .slice (some ⟨g, 0, none⟩) n c ∧ n ≤ c ∧ c ≤ 9223372036854775807 ∧ g < W.heap.size ∧ B ≤ g ∧ ∀ j u, xs[j]? = some u → W.cell? ⟨g, j, none⟩ = some u := by
  rcases h.2 with ⟨e0, h0⟩ | ⟨g', cap', cur', e0, hb, hh, h1, h2, h3, h4⟩
  · exact absurd h0 hn
  · refine ⟨g', cap', e0, h1, by simpa [maxLen] using h2, (Array.getElem?_eq_some_iff.1 hh).1, hb, fun j u hj => ?_⟩
    rw [Lib.cell_of_heap hh]
    have e2 : (cur'.toList.take (n * 1))[j]? = some u := by rw [h4]; exact hj
    rw [List.getElem?_take] at e2
    split at e2
    · simpa using e2
    · cases e2
/-- The bytes that a word says, as the caller's own. -/
theorem bytes_out {B B' : Nat} {X : World} {v : Value} {b : List UInt8} (hB : B' ≤ B) (h1 : X.ownsRow B 5 1 v b.length (b.map u8c)) :
    ∃ (a : Option Addr) (c : Nat) (l : List Int), v = .slice a l.length c ∧ X.ownsRow B' 5 1 (.slice a l.length c) l.length (l.map (Value.int .u8)) ∧ (∀ k ∈ l, 0 ≤ k ∧ k ≤ 255) ∧ bytesOf l = b := by
  obtain ⟨a, c, rfl, _⟩ := owns_shape h1
  have e : (b.map fun k : UInt8 => (k.toNat : Int)).map (Value.int .u8) = b.map u8c := by rw [List.map_map]; rfl
  refine ⟨a, c, b.map fun k => (k.toNat : Int), by simp, ?_, fun k hk => ?_, ?_⟩
  · rw [e, List.length_map]
    exact own_le h1 hB
  · obtain ⟨u, _, rfl⟩ := List.mem_map.1 hk
    have := u.toNat_lt
    omega
  · unfold bytesOf
    rw [List.map_map]
    conv => rhs; rw [← List.map_id b]
    refine List.map_congr_left fun u _ => ?_
    simp
/-- A script whose rows are the call's own. -/
structure OwnS (B : Nat) (W : World) (x : Sc) : Prop where
  ups : W.ownsRow B 4 1 (.slice x.ups.a x.ups.l.length x.ups.c) x.ups.l.length (x.ups.l.map Value.bool)
  offs : W.ownsRow B 3 1 (.slice x.offs.a x.offs.l.length x.offs.c) x.offs.l.length (x.offs.l.map (Value.int .i64))
  gates : W.ownsRow B 3 1 (.slice x.gates.a x.gates.l.length x.gates.c) x.gates.l.length (x.gates.l.map (Value.int .i64))
  guards : W.ownsRow B 3 1 (.slice x.guards.a x.guards.l.length x.guards.c) x.guards.l.length (x.guards.l.map (Value.int .i64))
  drifts : W.ownsRow B 3 1 (.slice x.drifts.a x.drifts.l.length x.drifts.c) x.drifts.l.length (x.drifts.l.map (Value.int .i64))
  ops : W.ownsRow B 46 6 (.slice x.oa x.ops.length x.oc) x.ops.length (x.ops.flatMap encH)
  each : ∀ o ∈ x.ops, W.ownsRow B 5 1 (.slice o.a o.d.length o.c) o.d.length (o.d.map (Value.int .u8)) ∧ ∀ c ∈ o.d, 0 ≤ c ∧ c ≤ 255
  fts : W.ownsRow B 81 7 (.slice x.fa x.faults.length x.fc) x.faults.length (x.faults.flatMap encF)
/-- A row of none of these types. -/
def offT (W : World) (F : Nat → Prop) : Prop := ∀ j, F j → ∃ t cs, Blk W j t cs ∧ t = 27
theorem OwnS.fr {F : Nat → Prop} {B : Nat} {W X : World} {x : Sc} (h : OwnS B W x) (k : Fr F W X) (hF : ∀ j, F j → ∃ cs, Blk W j 27 cs) : OwnS B X x := by
  have key : ∀ {e v n xs s}, e ≠ 27 → W.ownsRow B e s v n xs → X.ownsRow B e s v n xs := fun he h => own_fr h k fun g hg hf => by
    obtain ⟨cs, hb⟩ := hF g hf
    exact own_apart h hb he g hg rfl
  exact ⟨key (by decide) h.ups, key (by decide) h.offs, key (by decide) h.gates, key (by decide) h.guards, key (by decide) h.drifts, key (by decide) h.ops, fun o ho => ⟨key (by decide) (h.each o ho).1, (h.each o ho).2⟩, key (by decide) h.fts⟩
theorem OwnS.below {B : Nat} {W X : World} {x : Sc} (h : OwnS B W x) (k : Below W.heap.size W X) : OwnS B X x := h.fr (Fr.below k) (fun _ h => h.elim)
theorem OwnS.drew {B : Nat} {W : World} {x : Sc} (h : OwnS B W x) : OwnS B W.drew x := h.below (Below.refl _ _).drew
theorem OwnS.le {B B' : Nat} {W : World} {x : Sc} (h : OwnS B W x) (hB : B' ≤ B) : OwnS B' W x :=
  ⟨own_le h.ups hB, own_le h.offs hB, own_le h.gates hB, own_le h.guards hB, own_le h.drifts hB, own_le h.ops hB, fun o ho => ⟨own_le (h.each o ho).1 hB, (h.each o ho).2⟩, own_le h.fts hB⟩
theorem OwnS.set {B b j : Nat} {W : World} {x : Sc} {v : Value} {cs : Array Value} (h : OwnS B W x) (hb : Blk W b 27 cs) : OwnS B (W.setCell ⟨b, j, none⟩ v) x := h.fr (Fr.setCell _ _ _) (fun j e => by subst e; exact ⟨_, hb⟩)
theorem OwnS.setRow {B b : Nat} {W : World} {x : Sc} {cs cs' : Array Value} (h : OwnS B W x) (hb : Blk W b 27 cs) : OwnS B (W.setRow b cs') x := h.fr (fr_setRow hb) (fun j e => by subst e; exact ⟨_, hb⟩)
def sc0 : Sc := ⟨0, ⟨none, 0, []⟩, ⟨none, 0, []⟩, ⟨none, 0, []⟩, ⟨none, 0, []⟩, ⟨none, 0, []⟩, none, 0, [], none, 0, []⟩
theorem sc0_k : sc0.k = scr0 := rfl
theorem OwnS.zero (B : Nat) (W : World) : OwnS B W sc0 :=
  ⟨World.ownsRow_nil _ _ _ _, World.ownsRow_nil _ _ _ _, World.ownsRow_nil _ _ _ _, World.ownsRow_nil _ _ _ _, World.ownsRow_nil _ _ _ _, World.ownsRow_nil _ _ _ _, fun o ho => (by cases ho), World.ownsRow_nil _ _ _ _⟩
section
variable {B : Nat} {W X : World} {x : Sc} {a : Option Addr} {c : Nat}
/-- One more up. -/
theorem OwnS.addUp {b : Bool} (h : OwnS B W x) (hg : W.grownBy X (Value.slice x.ups.a x.ups.l.length x.ups.c).ownBlock) (ho : X.ownsRow B 4 1 (.slice a (x.ups.l.length + 1) c) (x.ups.l.length + 1) (x.ups.l.map Value.bool ++ [Value.bool b])) : OwnS B X { x with ups := ⟨a, c, x.ups.l ++ [b]⟩ } := by
  have far : ∀ {e : TypeId} {st n : Nat} {v : Value} {xs : List Value}, e ≠ 4 → W.ownsRow B e st v n xs → X.ownsRow B e st v n xs := fun he h' => own_fr h' (Fr.grownO hg) (fun g hg e2 => own_own h' h.ups he g hg e2)
  exact ⟨by simpa using ho, far (by decide) h.offs, far (by decide) h.gates, far (by decide) h.guards, far (by decide) h.drifts, far (by decide) h.ops, fun o ho => ⟨far (by decide) (h.each o ho).1, (h.each o ho).2⟩, far (by decide) h.fts⟩
/-- One more op. -/
theorem OwnS.addOp {o : Ho} (h : OwnS B W x) (hg : W.grownBy X (Value.slice x.oa x.ops.length x.oc).ownBlock) (ho : X.ownsRow B 46 6 (.slice a (x.ops.length + 1) c) (x.ops.length + 1) (x.ops.flatMap encH ++ encH o))
    (hd : W.ownsRow B 5 1 (.slice o.a o.d.length o.c) o.d.length (o.d.map (Value.int .u8)) ∧ ∀ c ∈ o.d, 0 ≤ c ∧ c ≤ 255) : OwnS B X { x with oa := a, oc := c, ops := x.ops ++ [o] } := by
  have far : ∀ {e : TypeId} {st n : Nat} {v : Value} {xs : List Value}, e ≠ 46 → W.ownsRow B e st v n xs → X.ownsRow B e st v n xs := fun he h' => own_fr h' (Fr.grownO hg) (fun g hg e2 => own_own h' h.ops he g hg e2)
  refine ⟨far (by decide) h.ups, far (by decide) h.offs, far (by decide) h.gates, far (by decide) h.guards, far (by decide) h.drifts, by simpa using ho, fun q hq => ?_, far (by decide) h.fts⟩
  rcases List.mem_append.1 hq with hq | hq
  · exact ⟨far (by decide) (h.each q hq).1, (h.each q hq).2⟩
  · rw [List.mem_singleton.1 hq]; exact ⟨far (by decide) hd.1, hd.2⟩
/-- One more fault. -/
theorem OwnS.addFt {f : Fa} (h : OwnS B W x) (hg : W.grownBy X (Value.slice x.fa x.faults.length x.fc).ownBlock) (ho : X.ownsRow B 81 7 (.slice a (x.faults.length + 1) c) (x.faults.length + 1) (x.faults.flatMap encF ++ encF f)) : OwnS B X { x with fa := a, fc := c, faults := x.faults ++ [f] } := by
  have far : ∀ {e : TypeId} {st n : Nat} {v : Value} {xs : List Value}, e ≠ 81 → W.ownsRow B e st v n xs → X.ownsRow B e st v n xs := fun he h' => own_fr h' (Fr.grownO hg) (fun g hg e2 => own_own h' h.fts he g hg e2)
  exact ⟨far (by decide) h.ups, far (by decide) h.offs, far (by decide) h.gates, far (by decide) h.guards, far (by decide) h.drifts, far (by decide) h.ops, fun o ho => ⟨far (by decide) (h.each o ho).1, (h.each o ho).2⟩, by simpa using ho⟩
end
/-- A script that was read whole. -/
theorem OwnS.good {B : Nat} {W : World} {x : Sc} (h : OwnS B W x) (hf : x.k.Fits) (hl : x.ups.l.length ≤ 1000000000 ∧ x.offs.l.length ≤ 1000000000 ∧ x.gates.l.length ≤ 1000000000 ∧ x.guards.l.length ≤ 1000000000 ∧ x.drifts.l.length ≤ 1000000000 ∧ x.ops.length ≤ 100000000 ∧ (∀ o ∈ x.ops, o.d.length ≤ 1000000000) ∧ x.faults.length ≤ 100000000) : GoodSc W x := by
  obtain ⟨l1, l2, l3, l4, l5, l6, l7, l8⟩ := hl
  have ii : ∀ {d : Il}, W.ownsRow B 3 1 (.slice d.a d.l.length d.c) d.l.length (d.l.map (Value.int .i64)) → d.l.length ≤ 1000000000 → (∀ n ∈ d.l, inI n) → Ils W d := fun ho hl hi =>
    ⟨Rd.of_owns (encI_len .i64) (by rw [encI_flat]; exact ho) (by omega), hi⟩
  refine ⟨hf.heads 0 (by decide) _ (by simp [headN, Sc.k]), ?_, ii h.offs l2 (hf.heads 2 (by decide)), ii h.gates l3 (hf.heads 3 (by decide)), ii h.guards l4 (hf.heads 4 (by decide)), ii h.drifts l5 (hf.heads 5 (by decide)), ?_, fun o ho => ?_, ?_⟩
  · have e : ∀ l : List Bool, l.flatMap encB = l.map Value.bool := fun l => by
      induction l with
      | nil => rfl
      | cons b l ih => rw [List.flatMap_cons, ih]; rfl
    exact Rd.of_owns (enc := encB) (size := 1) (e := 4) (base := B) (l := x.ups.l) (fun _ => rfl) (by rw [e]; exact h.ups) (by omega)
  · exact Rd.of_owns encH_len h.ops (by omega)
  · have hk : ∀ n ∈ o.ok.ints, inI n := hf.ops o.ok (List.mem_map_of_mem ho)
    have hk' : ∀ n, n = o.n ∨ n = o.r ∨ n = o.s ∨ n = o.k ∨ n = o.v → inI n := fun n hn => hk n (by simp [Ok.ints, Ho.ok]; exact hn)
    have hd := h.each o ho
    exact ⟨⟨Rd.of_owns (enc := encI .u8) (encI_len .u8) (by rw [encI_flat]; exact hd.1) (by have := l7 o ho; omega), hd.2⟩, hk' _ (by simp), hk' _ (by simp), hk' _ (by simp), hk' _ (by simp), hk' _ (by simp)⟩
  · exact Rd.of_owns encF_len h.fts (by omega)
end Go.Proofs.YtkinhhkodaacjaaGreatDoor
