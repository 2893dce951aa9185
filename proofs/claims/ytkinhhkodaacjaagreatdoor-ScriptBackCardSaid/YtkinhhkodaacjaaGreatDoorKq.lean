/- strings.Builder: copyCheck, WriteByte, WriteString. What a round keeps that writes into a builder. -/
import Derived.Shelf.Strings.BuilderK
import Derived.Test.YtkinhhkodaacjaaGreatDoorLA
import Derived.Test.YtkinhhkodaacjaaGreatDoorProg
import Derived.WalkKit
import Derived.IntWalk
import Derived.OwnWalkIn
import Derived.Deep.DeepCutAuto
import Derived.Deep.DeepMust
import Derived.Deep.QuietTactic
import Derived.WalkSpells
import Derived.WalkLawsBesides
import Derived.BigQuiet
import Derived.Lib.Hide
import Derived.Lib.SliceRun
import Derived.Lib.OthersKept
namespace Go.Proofs.YtkinhhkodaacjaaGreatDoor
open Go.RowKit Go.Shelf

theorem bd_info : ∃ j, Tryz.prog.info? 62 = some j ∧ j.size = 2 := Option.map_eq_some_iff.1 (show (Tryz.prog.info? 62).map (·.size) = some 2 by kernel_rfl)
set_option maxRecDepth 100000 in
theorem cc_used (b : Nat) (w : World) (h0 : w.cell? ⟨b, 0, none⟩ = some (.pointer (some ⟨b, 0, none⟩))) :
    Calls Tryz.prog 54 #[.pointer (some ⟨b, 0, none⟩)] w fun e w' => e = .returned (.tuple #[]) ∧ w = w' := by
  obtain ⟨j, hj, _⟩ := bd_info
  go_enter Tryz.func54, Tryz.ntmps54
  go_wp2
  rw [Lib.run_neq_ptr_same (P := Tryz.prog) w _ Tryz.underlying60 hj]
  go_wp2
  go_end0
  exact ⟨rfl, rfl⟩
set_option maxRecDepth 100000 in
theorem cc_fresh (b : Nat) (w : World) (h0 : w.cell? ⟨b, 0, none⟩ = some (.pointer none)) (hsh : w.shape? b = some (64, 2)) (hfz : w.frozen? ⟨b, 0, none⟩ = false) :
    Calls Tryz.prog 54 #[.pointer (some ⟨b, 0, none⟩)] w fun e w' => e = .returned (.tuple #[]) ∧ w.setCell ⟨b, 0, none⟩ (.pointer (some ⟨b, 0, none⟩)) = w' := by
  obtain ⟨j, hj, hjs⟩ := bd_info
  go_enter Tryz.func54, Tryz.ntmps54
  go_wp2
  rw [Lib.run_to_unsafe w ⟨b, 0, none⟩ Tryz.underlying60 Tryz.underlying135 hj (by rw [hjs]; decide) hsh (Nat.zero_lt_succ 1)]
  simp only [Result.andThen]
  rw [Oper.upon_value]
  go_wp2
  rw [run_callFunc_extern Tryz.func80 (by kernel_rfl) (by kernel_rfl) (by kernel_rfl) (e := Extern.AbiNoEscape.same) (by kernel_rfl)]
  rw [Lib.run_noEscape]
  simp only [Result.andThen]
  rw [Oper.upon_value]
  go_wp2
  rw [Lib.run_from_unsafe w ⟨b, 0, none⟩ Tryz.underlying135 Tryz.underlying60 hj hsh (by kernel_rfl)]
  simp only [Result.andThen]
  rw [Oper.upon_value]
  go_wp2
  go_end0
  exact ⟨rfl, rfl⟩
/-- The builder in block b (its rows from B on) holds these bytes. -/
def Bld (B b : Nat) (l : List UInt8) (w : World) : Prop := Lib.IsBuilderF 64 5 B b (Lib.byteCells l) w
/-- What a builder's call keeps. -/
def BPost (B b : Nat) (l : List UInt8) (w w' : World) : Prop := Bld B b l w' ∧ Below B w w' ∧ Lib.OthersKept 5 (some b) w w' ∧ w.heap.size ≤ w'.heap.size
theorem cc_any (B b : Nat) (bs : List Value) (w : World) (h : Lib.IsBuilderF 64 5 B b bs w) :
    Calls Tryz.prog 54 #[.pointer (some ⟨b, 0, none⟩)] w fun e w' => e = .returned (.tuple #[]) ∧ (Lib.BuilderAtF 64 5 B b (.pointer (some ⟨b, 0, none⟩)) bs w' ∧ Below B w w' ∧ Lib.OthersKept 5 (some b) w w' ∧ w.heap.size = w'.heap.size) := by
  rcases h with h | h
  · refine (cc_fresh b w h.cell0 h.shape h.frozen0).mono ?_
    rintro e w' ⟨rfl, rfl⟩
    exact ⟨rfl, h.used _, (Below.refl B w).setCell (p := ⟨b, 0, none⟩) h.1 _, (Lib.OthersKept.refl _ _ w).setCell ⟨b, 0, none⟩ rfl _, by simp⟩
  · refine (cc_used b w h.cell0).mono ?_
    rintro e w' ⟨rfl, rfl⟩
    exact ⟨rfl, h, Below.refl B _, Lib.OthersKept.refl _ _ _, rfl⟩

set_option maxHeartbeats 1600000 in
set_option maxRecDepth 100000 in
theorem wbyte_any (B b : Nat) (l : List UInt8) (c : UInt8) (w : World) (h : Bld B b l w) (hlen : l.length + 1 ≤ 140737488355328) (hBw : B ≤ w.heap.size) :
    Calls Tryz.prog 28 #[.pointer (some ⟨b, 0, none⟩), .int .u8 c.toNat] w fun e w' => e = .returned .nilIface ∧ BPost B b (l ++ [c]) w w' := by
  obtain ⟨i0, hi, hz0, hz1, hz2⟩ := info_parts (show (Tryz.prog.info? 5).map (fun i => (i.zero, i.size, i.bytes)) = some (some (.int .u8 0), 1, 1) by kernel_rfl)
  have hq : Lib.byteCells l ++ [.int .u8 (c.toNat : Int)] = Lib.byteCells (l ++ [c]) := by rw [Lib.byteCells_append]; rfl
  have HL : Hid ((Lib.byteCells l).length = l.length) := Lib.byteCells_length l
  unfold Bld at h
  have HPO : Hid (∀ w', Lib.IsBuilderF 64 5 B b (Lib.byteCells l ++ [.int .u8 (c.toNat : Int)]) w' → Below B w w' → Lib.OthersKept 5 (some b) w w' → w.heap.size ≤ w'.heap.size → BPost B b (l ++ [c]) w w') := fun w' h1 h2 h3 h4 => by
    rw [hq] at h1
    exact ⟨h1, h2, h3, h4⟩
  have HLN := Lib.hid hlen
  clear hq hlen
  generalize Lib.byteCells l = bs at *
  generalize (c.toNat : Int) = cv at *
  go_enter Tryz.func28, Tryz.ntmps28
  go_wp2_with (go_at_call 54; refine (cc_any B b bs _ h).mono ?_)
  rintro e w1 ⟨rfl, h1, hb1, hk1, hs1⟩
  obtain ⟨hB, v, hbk, hown, hne⟩ := h1
  have c0 : w1.cell? ⟨b, 0, none⟩ = some (.pointer (some ⟨b, 0, none⟩)) := by rw [Lib.cell_of_heap hbk]; rfl
  have c1 : w1.cell? ⟨b, 1, none⟩ = some v := by rw [Lib.cell_of_heap hbk]; rfl
  go_wp2_with (at_builtin; refine wpList_append_ownF _ rfl _ _ 44 rfl B 5 i0 (.int .u8 0) 1 1 Tryz.underlying44 hi hz0 hz1 hz2 rfl (by decide) _ _ _ rfl (hown.alloc _) ⟨w1.heap.size, 0, none⟩ 1 1 [.int .u8 cv] rfl rfl ?c1 ?c2 ?c3 ?c4 ?c5 ?_)
  case c1 =>
    intro j u hj
    match j, hj with
    | 0, hj => simp at hj; subst hj; simp [Addr.add]
  case c2 => intro u hu; simp at hu; subst hu; rfl
  case c3 => unfold maxLen; have := HL.out; have := HLN.out; omega
  case c4 => have := HL.out; have := HLN.out; omega
  case c5 => have := hb1.size; simp; omega
  intro v' w2 hown' hgrow _
  have hlt : b < w1.heap.size := by
    rcases Nat.lt_or_ge b w1.heap.size with h' | h'
    · exact h'
    · simp [Array.getElem?_eq_none h'] at hbk
  have hb2 : w2.heap[b]? = some (.cells #[.pointer (some ⟨b, 0, none⟩), v] 64 (0, 0)) := by
    rw [hgrow.block b (by simp; omega) (fun e => hne e.symm), Lib.alloc_old w1 _ b hlt]
    exact hbk
  have d0 : w2.cell? ⟨b, 0, none⟩ = some (.pointer (some ⟨b, 0, none⟩)) := by rw [Lib.cell_of_heap hb2]; rfl
  have d1 : w2.cell? ⟨b, 1, none⟩ = some v := by rw [Lib.cell_of_heap hb2]; rfl
  have f1 : w2.frozen? ⟨b, 1, none⟩ = false := Lib.frozen_of_heap hb2 1
  obtain ⟨g, cap, rfl⟩ : ∃ g cap, v' = .slice (some ⟨g, 0, none⟩) (bs.length + 1) cap := by
    rcases hown'.2 with ⟨_, h0⟩ | ⟨g, cap, cur, fz, hv, _⟩
    · omega
    · exact ⟨g, cap, hv⟩
  have HZ : Hid (w1.heap.size ≤ w2.heap.size) := by have := hgrow.size; show _ ≤ _; simp at this; omega
  go_wp2
  go_ret
  refine ⟨rfl, HPO.out _ ?_ ?_ (((hk1.alloc _).grown hgrow (Lib.ownsRowF_kind (hown.alloc _))).setCell ⟨b, 1, none⟩ rfl _) (by have := HZ.out; simp; omega)⟩
  · exact Or.inr (Lib.BuilderAtF.put (T := 64) (e := 5) hB hb2 (bs' := bs ++ [.int .u8 cv]) (by simpa using hown') (by decide))
  · exact ((hb1.alloc (by have := hb1.size; omega) _).grown hgrow (by have := hb1.size; simp; omega) (fun k hk => (hown.lt k hk).1)).setCell (p := ⟨b, 1, none⟩) hB _

set_option maxHeartbeats 1600000 in
set_option maxRecDepth 100000 in
theorem wstr_any (B b : Nat) (l s : List UInt8) (w : World) (h : Bld B b l w) (hlen : l.length + s.length ≤ 140737488355328) (hBw : B ≤ w.heap.size) :
    Calls Tryz.prog 27 #[.pointer (some ⟨b, 0, none⟩), .string ⟨s.toArray⟩] w fun e w' => e = .returned (.tuple #[.int .i64 s.length, .nilIface]) ∧ BPost B b (l ++ s) w w' := by
  obtain ⟨i0, hi, hz0, hz1, hz2⟩ := info_parts (show (Tryz.prog.info? 5).map (fun i => (i.zero, i.size, i.bytes)) = some (some (.int .u8 0), 1, 1) by kernel_rfl)
  have hsz : (⟨s.toArray⟩ : ByteArray).size = s.length := by show s.toArray.size = _; simp
  have hq : Lib.byteCells l ++ Lib.strCells ⟨s.toArray⟩ = Lib.byteCells (l ++ s) := by rw [Lib.byteCells_append]; rfl
  have HL : Hid ((Lib.byteCells l).length = l.length) := Lib.byteCells_length l
  unfold Bld at h
  have HPO : Hid (∀ w', Lib.IsBuilderF 64 5 B b (Lib.byteCells l ++ Lib.strCells ⟨s.toArray⟩) w' → Below B w w' → Lib.OthersKept 5 (some b) w w' → w.heap.size ≤ w'.heap.size → BPost B b (l ++ s) w w') := fun w' h1 h2 h3 h4 => by
    rw [hq] at h1
    exact ⟨h1, h2, h3, h4⟩
  rw [← hsz]
  have HLN : Hid (l.length + (⟨s.toArray⟩ : ByteArray).size ≤ 140737488355328) := by show _ ≤ _; rw [hsz]; exact hlen
  clear hq hlen hsz
  generalize Lib.byteCells l = bs at *
  generalize (⟨s.toArray⟩ : ByteArray) = sv at *
  go_enter Tryz.func27, Tryz.ntmps27
  go_wp2_with (go_at_call 54; refine (cc_any B b bs _ h).mono ?_)
  rintro e w1 ⟨rfl, h1, hb1, hk1, hs1⟩
  obtain ⟨hB, v, hbk, hown, hne⟩ := h1
  have c0 : w1.cell? ⟨b, 0, none⟩ = some (.pointer (some ⟨b, 0, none⟩)) := by rw [Lib.cell_of_heap hbk]; rfl
  have c1 : w1.cell? ⟨b, 1, none⟩ = some v := by rw [Lib.cell_of_heap hbk]; rfl
  go_wp2_with (at_builtin; refine Lib.wpList_append_own_stringF _ rfl _ _ 44 9 rfl B 5 i0 Tryz.underlying44 Tryz.underlying9 hi hz0 hz1 hz2 _ _ _ rfl hown sv rfl ?c3 ?c4 ?c5 ?_)
  case c3 => unfold maxLen; have := HL.out; have := HLN.out; omega
  case c4 => have := HL.out; have := HLN.out; omega
  case c5 => have := hb1.size; omega
  intro v' w2 hown' hgrow _
  have hlt : b < w1.heap.size := by
    rcases Nat.lt_or_ge b w1.heap.size with h' | h'
    · exact h'
    · simp [Array.getElem?_eq_none h'] at hbk
  have hb2 : w2.heap[b]? = some (.cells #[.pointer (some ⟨b, 0, none⟩), v] 64 (0, 0)) := by
    rw [hgrow.block b hlt (fun e => hne e.symm)]
    exact hbk
  have d0 : w2.cell? ⟨b, 0, none⟩ = some (.pointer (some ⟨b, 0, none⟩)) := by rw [Lib.cell_of_heap hb2]; rfl
  have d1 : w2.cell? ⟨b, 1, none⟩ = some v := by rw [Lib.cell_of_heap hb2]; rfl
  have f1 : w2.frozen? ⟨b, 1, none⟩ = false := Lib.frozen_of_heap hb2 1
  obtain ⟨ao, n', cap, rfl⟩ : ∃ ao n' cap, v' = .slice ao n' cap := by
    rcases hown'.2 with ⟨hv, _⟩ | ⟨g, cap, cur, fz, hv, _⟩
    · exact ⟨_, _, _, hv⟩
    · exact ⟨_, _, _, hv⟩
  have HZ : Hid (w1.heap.size ≤ w2.heap.size) := by have := hgrow.size; show _ ≤ _; omega
  go_wp2
  go_ret2
  refine ⟨rfl, HPO.out _ ?_ ?_ ((hk1.grown hgrow (Lib.ownsRowF_kind hown)).setCell ⟨b, 1, none⟩ rfl _) (by have := HZ.out; simp; omega)⟩
  · exact Or.inr (Lib.BuilderAtF.put (T := 64) (e := 5) hB hb2 (bs' := bs ++ Lib.strCells sv) (by simpa [Lib.strCells_length] using hown') (by decide))
  · exact (hb1.grown hgrow (by have := hb1.size; omega) (fun k hk => (hown.lt k hk).1)).setCell (p := ⟨b, 1, none⟩) hB _
end Go.Proofs.YtkinhhkodaacjaaGreatDoor
namespace Go.Proofs.YtkinhhkodaacjaaGreatDoor
open Go.RowKit Go.Shelf

/-- Whatever lay below n₀, and some blocks. -/
def KQ (n₀ : Nat) (p : Nat → Prop) (A B : World) : Prop := Below n₀ A B ∧ ∀ b, p b → b < A.heap.size → B.heap[b]? = A.heap[b]?
section
variable {n₀ : Nat} {p : Nat → Prop} {A B C W X : World}
theorem KQ.refl (n₀ : Nat) (p : Nat → Prop) (A : World) : KQ n₀ p A A := ⟨Below.refl _ _, fun _ _ _ => rfl⟩
theorem KQ.trans (h : KQ n₀ p A B) (k : KQ n₀ p B C) : KQ n₀ p A C := ⟨h.1.trans k.1, fun b h1 h3 => (k.2 b h1 (Nat.lt_of_lt_of_le h3 h.1.size)).trans (h.2 b h1 h3)⟩
theorem KQ.of_below (h : Below A.heap.size A B) (hn : n₀ ≤ A.heap.size) : KQ n₀ p A B := ⟨h.mono hn, fun b _ h3 => h.block b h3⟩
theorem KQ.cell {b o : Nat} {v : Value} (h : KQ n₀ p A B) (h1 : p b) (hc : A.cell? ⟨b, o, none⟩ = some v) : B.cell? ⟨b, o, none⟩ = some v := by
  have hlt := World.block_lt_of_cell? _ _ hc
  rw [← hc]
  exact World.cell?_of_block (h.2 b h1 hlt)
theorem KQ.put {w : World} (hn : n₀ ≤ w.heap.size) (hh : ∀ k, p k → k < w.heap.size) (W : World) (l : Nat) (o o' : Obj) (hl : w.heap.size ≤ l) (h : W.heap[l]? = some o) (h1 : o.isCells = false) (h2 : o.isWalk = false) : KQ n₀ p W (W.putObj l o') :=
  ⟨belowK_b hn W l o o' hl h h1 h2, fun b h3 _ => World.putObj_heap_other (by have := hh b h3; omega)⟩
/-- .. and that reads as something. -/
theorem KQ.reads {α : Type} {enc : α → List Value} {size : Nat} (h : KQ n₀ p A B) {v : Value} {l : List α} (ho : Rd enc size A v l) (h1 : ∀ b o n c, v = .slice (some ⟨b, o, none⟩) n c → p b) : Rd enc size B v l := by
  obtain ⟨a, cap, rfl, q1, q2, q3, q5, q4⟩ := ho
  refine ⟨a, cap, rfl, q1, q2, q3, q5, q4.imp id ?_⟩
  rintro ⟨b, off, rfl, hlt, hc⟩
  have k1 := h1 _ _ _ _ rfl
  exact ⟨b, off, rfl, Nat.lt_of_lt_of_le hlt h.1.size, fun j x hj i u hu => by
    rw [World.cell?_of_block (h.2 b k1 hlt)]
    exact hc j x hj i u hu⟩
theorem othersOfBelow {e : TypeId} {b : Option Nat} (h : Below A.heap.size A B) : Lib.OthersKept e b A B := fun k _ hk _ _ => (h.block k (Array.getElem?_eq_some_iff.1 hk).1).trans hk
theorem isB_kept {T e : TypeId} {B b : Nat} {bs : List Value} {row : Option Nat} (h : Lib.IsBuilderF T e B b bs W) (hg : W.grownBy X row) (h1 : row ≠ some b) (h2 : ∀ r, row = some r → ∃ o : Obj, W.heap[r]? = some o ∧ o.isCells = false) : Lib.IsBuilderF T e B b bs X := by
  have go : ∀ p, Lib.BuilderAtF T e B b p bs W → Lib.BuilderAtF T e B b p bs X := fun p h => by
    obtain ⟨hB, v, hbk, hown, hne⟩ := h
    have hlt : b < W.heap.size := (Array.getElem?_eq_some_iff.1 hbk).1
    refine ⟨hB, v, (hg.block b hlt (fun e => h1 e.symm)).trans hbk, hown.kept hg ?_, hne⟩
    rcases hv : v.ownBlock with _ | g
    · exact .inl rfl
    · refine .inr fun e => ?_
      obtain ⟨o, ho, hc⟩ := h2 g e.symm
      obtain ⟨c, fz, hcell⟩ := Lib.ownsRowF_kind hown g hv
      rw [ho] at hcell
      cases hcell; cases hc
  rcases h with h | h
  · exact .inl (go _ h)
  · exact .inr (go _ h)
end
/-- The builder holds l; what else there was in w1 stands. -/
structure BI (w : World) (n₀ b : Nat) (w1 : World) (l : List UInt8) (W : World) : Prop where
  bld : Bld n₀ b l W
  ok : Lib.OthersKept 5 (some b) w1 W
  bel : Below n₀ w W
  sz : w1.heap.size ≤ W.heap.size
section
variable {w w1 W X : World} {n₀ b : Nat} {l l' : List UInt8}
theorem Bld.blk (h : Bld n₀ b l W) : ∃ cs fz, W.heap[b]? = some (.cells cs 64 fz) := by
  rcases h with h | h <;> obtain ⟨_, v, hb, _⟩ := h <;> exact ⟨_, _, hb⟩
theorem Bld.lt (h : Bld n₀ b l W) : n₀ ≤ b ∧ b < W.heap.size := by
  obtain ⟨cs, fz, hb⟩ := h.blk
  refine ⟨?_, (Array.getElem?_eq_some_iff.1 hb).1⟩
  rcases h with h | h <;> exact h.1
theorem Bld.keep (h : Bld n₀ b l W) (hb : Below W.heap.size W X) : Bld n₀ b l X := isB_kept h (grown_of_below hb) (by simp) (by simp)
theorem BI.start (h : Bld n₀ b l W) (hb : Below n₀ w W) : BI w n₀ b W l W := ⟨h, Lib.OthersKept.refl _ _ _, hb, Nat.le_refl _⟩
theorem BI.post (h : BI w n₀ b w1 l W) (k : BPost n₀ b l' W X) : BI w n₀ b w1 l' X := ⟨k.1, h.ok.trans k.2.2.1, h.bel.trans k.2.1, Nat.le_trans h.sz k.2.2.2⟩
theorem BI.below (h : BI w n₀ b w1 l W) (k : Below W.heap.size W X) : BI w n₀ b w1 l X :=
  ⟨h.bld.keep k, h.ok.trans (othersOfBelow k), h.bel.trans (k.mono (by have := h.bld.lt; omega)), Nat.le_trans h.sz k.size⟩
theorem BI.le (h : BI w n₀ b w1 l W) : n₀ ≤ W.heap.size := by have := h.bld.lt; omega
theorem BI.own {β : Type} {f : β → List UInt8} {H : Nat} (hH : w1.heap.size ≤ H) (hn : n₀ ≤ H) : OwnFrom H (fun s W => BI w n₀ b w1 (f s) W) := fun s A A' row hs hg hr => by
  have hrb : row ≠ some b := fun e => by
    obtain ⟨_, o, ho, hc⟩ := hr b e
    obtain ⟨cs, fz, hb⟩ := hs.bld.blk
    rw [hb] at ho; cases ho; cases hc
  exact ⟨isB_kept hs.bld hg hrb (fun r e => (hr r e).2), fun k o hk hkb ho => by
    have := hs.ok k o hk hkb ho
    refine (hg.block k (Array.getElem?_eq_some_iff.1 this).1 (fun e => ?_)).trans this
    have h1 := (hr k e.symm).1
    have h2 := (Array.getElem?_eq_some_iff.1 hk).1
    omega, hs.bel.grown hg hs.le (fun r e => Nat.le_trans hn (hr r e).1), Nat.le_trans hs.sz hg.size⟩
/-- The body's word: what is no cells lies as it lay. -/
theorem BI.others (h : BI w n₀ b W l' X) (h0 : Bld n₀ b l W) : KeepsOthers W X := ⟨h.sz, fun k o hk ho => h.ok k o hk (fun e => by
    cases e
    obtain ⟨cs, fz, hb⟩ := h0.blk
    rw [hb] at hk; cases hk; cases ho) (fun c fz e => by subst e; cases ho)⟩
theorem BI.kq {p : Nat → Prop} (h1 : BI w n₀ b w1 l W) (h2 : BI w n₀ b W l' X) (hp : ∀ k, p k → k < w1.heap.size ∧ k ≠ b ∧ ∀ c fz, w1.heap[k]? ≠ some (.cells c 5 fz)) : KQ n₀ p W X := by
  refine ⟨⟨?_, ?_, ?_, h2.sz, fun k hk => ?_⟩, fun k hk hlt => ?_⟩
  · rw [h2.bel.os, h1.bel.os]
  · rw [h2.bel.tape, h1.bel.tape]
  · rw [h2.bel.output, h1.bel.output]
  · rw [h2.bel.block k hk, h1.bel.block k hk]
  · obtain ⟨q1, q2, q3⟩ := hp k hk
    have e1 := h1.ok k _ (Array.getElem?_eq_getElem q1) (by simpa using q2) (fun c fz e => q3 c fz (by rw [Array.getElem?_eq_getElem q1, e]))
    have e2 := h2.ok k _ e1 (by simpa using q2) (fun c fz e => q3 c fz (by rw [Array.getElem?_eq_getElem q1, e]))
    rw [e1, e2]
theorem BI.join (h1 : BI w n₀ b w1 l W) (h2 : BI w n₀ b W l' X) : BI w n₀ b w1 l' X := ⟨h2.bld, h1.ok.trans h2.ok, h2.bel, Nat.le_trans h1.sz h2.sz⟩
end
end Go.Proofs.YtkinhhkodaacjaaGreatDoor
