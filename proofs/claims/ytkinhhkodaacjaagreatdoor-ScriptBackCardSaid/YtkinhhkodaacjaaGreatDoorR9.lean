/- The marks that loops over iterators leave behind; how a function leaves through them. (Text of no seat: YtkinhhkodaacjaaGreatDoor stands for the seat's name.) Print at the empty script. SortStableFunc of nothing. -/
import Derived.Test.YtkinhhkodaacjaaGreatDoorQ1
import Derived.RangeFuncNested
import Derived.Test.YtkinhhkodaacjaaGreatDoorLA
import Derived.Test.YtkinhhkodaacjaaGreatDoorProg
import Derived.Test.YtkinhhkodaacjaaGreatDoorR7
namespace Go.Proofs.YtkinhhkodaacjaaGreatDoor
open Go.RowKit Go.Shelf

/-- The marks that loops over iterators leave behind: each a block that is open still. -/
def Marks (n₀ : Nat) (W : World) (ds : List Deferred) : Prop := ∃ Ds : List Nat, Ds.Nodup ∧ ds = Ds.map (fun D => { target := .collected D, args := #[] }) ∧ ∀ D ∈ Ds, n₀ ≤ D ∧ W.heap[D]? = some (Obj.deferred (some []))
theorem Marks.nil (n₀ : Nat) (W : World) : Marks n₀ W [] := ⟨[], List.nodup_nil, rfl, by simp⟩
theorem Marks.keep {n₀ : Nat} {W X : World} {ds : List Deferred} (h : Marks n₀ W ds) (hk : ∀ D : Nat, W.heap[D]? = some (Obj.deferred (some [])) → X.heap[D]? = some (Obj.deferred (some []))) : Marks n₀ X ds := by
  obtain ⟨Ds, h1, h2, h3⟩ := h
  exact ⟨Ds, h1, h2, fun D hD => ⟨(h3 D hD).1, hk D (h3 D hD).2⟩⟩
theorem Marks.add {n₀ D : Nat} {W X : World} {ds : List Deferred} (h : Marks n₀ W ds) (hk : ∀ D : Nat, W.heap[D]? = some (Obj.deferred (some [])) → X.heap[D]? = some (Obj.deferred (some []))) (hD : W.heap.size ≤ D) (hn : n₀ ≤ D) (hX : X.heap[D]? = some (Obj.deferred (some []))) :
    Marks n₀ X ({ target := .collected D, args := #[] } :: ds) := by
  obtain ⟨Ds, h1, h2, h3⟩ := h
  refine ⟨D :: Ds, List.nodup_cons.2 ⟨fun hm => ?_, h1⟩, by rw [h2]; rfl, fun E hE => ?_⟩
  · have := (Array.getElem?_eq_some_iff.1 (h3 D hm).2).1
    omega
  · rcases List.mem_cons.1 hE with e | e
    · rw [e]; exact ⟨hn, hX⟩
    · exact ⟨(h3 E e).1, hk E (h3 E e).2⟩
theorem leave_marks {fn : Func} {tmps : Array Value} {R : Ending → World → Prop} {v : Value} {n₀ : Nat} : ∀ (Ds : List Nat) (W : World), Ds.Nodup → (∀ D ∈ Ds, n₀ ≤ D ∧ W.heap[D]? = some (Obj.deferred (some []))) →
    (∀ X, Below n₀ W X → (results fn tmps).run Tryz.prog X = .ok v X ∧ R (.returned v) X) → LeavesInM Fence.wide 3 Tryz.prog fn tmps R (Ds.map (fun D => { target := .collected D, args := #[] })) .returning W
  | [], W, _, _, h => by
    obtain ⟨h1, h2⟩ := h W (Below.refl _ _)
    exact ⟨v, h1, h2⟩
  | D :: Ds, W, hd, hm, h => by
    obtain ⟨h1, h2⟩ := hm D (by simp)
    refine ⟨by simp, .inl ⟨D, _, rfl, run_takeDeferred h2, ?_⟩⟩
    rw [List.nodup_cons] at hd
    refine leave_marks Ds _ hd.2 (fun E hE => ⟨(hm E (by simp [hE])).1, ?_⟩) (fun X hX => h X ?_)
    · rw [World.putObj_heap_other (fun e : E = D => hd.1 (e ▸ hE))]
      exact (hm E (by simp [hE])).2
    · exact ((Below.refl n₀ W).grown (grownBy_putObj' W D _) (by have := (Array.getElem?_eq_some_iff.1 h2).1; omega) (fun k e => by cases e; exact h1)).trans hX
end Go.Proofs.YtkinhhkodaacjaaGreatDoor
namespace Go.Proofs.YtkinhhkodaacjaaGreatDoor
open Go.RowKit Go.Shelf
open Md
attribute [local go_sem] Oper.semAt_some

theorem FL83 : Flat Tryz.prog 59 := ⟨⟨_, Tryz.underlying59, rfl⟩, by kernel_rfl⟩
theorem FL22 : Flat Tryz.prog 22 := ⟨⟨_, Tryz.underlying22, rfl⟩, by kernel_rfl⟩
theorem FL26 : Flat Tryz.prog 23 := ⟨⟨_, Tryz.underlying23, rfl⟩, by kernel_rfl⟩
theorem blk_post {B b bx : Nat} {l : List UInt8} {cs : Array Value} {t : TypeId} {W X : World} (h : Blk W bx t cs) (k : BPost B b l W X) (hne : bx ≠ b) (ht : t ≠ 5 := by decide) : Blk X bx t cs := k.2.2.1 bx _ h (by simpa using hne) (fun c fz e => by cases e; exact ht rfl)
def zScr : List Value := [.int .i64 0, .slice none 0 0, .slice none 0 0, .slice none 0 0, .slice none 0 0, .slice none 0 0, .slice none 0 0, .slice none 0 0]
def emptyT : List UInt8 := [114, 111, 117, 110, 100, 115, 32, 48, 10, 117, 112, 115, 10, 111, 102, 102, 115, 10, 103, 97, 116, 101, 115, 10, 103, 117, 97, 114, 100, 115, 10, 100, 114, 105, 102, 116, 115, 10]
theorem emptyT_eq : rowsT headsL [[0], [], [], [], [], []] = emptyT := by
  have h0 : decZ 0 = [48] := by rw [decZ_pos (by omega), show (0 : Int).natAbs = 0 from rfl, decN_small (by omega)]; rfl
  simp [rowsT, headsL, lineT, numT, h0, emptyT]
structure PS (w X : World) : Prop where
  bel : Below w.heap.size w X
  s : Blk X w.heap.size 27 zScr.toArray
  bld : Bld w.heap.size (w.heap.size + 1) [] X
  t : Blk X (w.heap.size + 2) 59 #[.pointer (some ⟨w.heap.size + 1, 0, none⟩)]
theorem PS.keep {w X Y : World} (h : PS w X) (hb : Below X.heap.size X Y) : PS w Y := ⟨h.bel.trans (hb.mono h.bel.size), h.s.keep hb, h.bld.keep hb, h.t.keep hb⟩
theorem heads_any' (w : World) : Calls Tryz.prog 15 #[] w fun e w' => (∃ g, e = .returned (.slice (some ⟨g, 0, none⟩) 6 6) ∧ Blk w' g 9 (headsL.map strV).toArray) ∧ Below w.heap.size w w' :=
  (heads_any w).mono (by rintro e w' ⟨rfl, rfl⟩; exact ⟨⟨_, rfl, Blk.new' rfl⟩, below1 _ _⟩)
theorem truths_none (B : Nat) (w : World) : Calls Tryz.prog 25 #[.slice none 0 0] w fun e w' => (∃ a c, e = .returned (.slice a 0 c) ∧ NumsK B w' (.slice a 0 c) []) ∧ Below w.heap.size w w' :=
  (truths_any (.slice none 0 0) [] w (Rd.nil w) (by simp)).mono (by
    rintro e w' ⟨⟨v', rfl, ho⟩, hb⟩
    obtain ⟨a, c, rfl, -⟩ := owns_shape ho
    exact ⟨⟨_, _, rfl, ⟨⟨Rd.of_owns (e := 3) (base := w.heap.size) (encI_len .i64) (by rw [encI_flat]; exact ho) (by simp), by simp⟩, fun g o n c e h => absurd rfl h⟩⟩, hb⟩)
def SB (w X : World) : Prop := Blk X w.heap.size 27 zScr.toArray ∧ Blk X (w.heap.size + 2) 59 #[.pointer (some ⟨w.heap.size + 1, 0, none⟩)]
theorem PS.sb {w X : World} (h : PS w X) : Hid (SB w X) := ⟨h.s, h.t⟩
theorem numsK_new (B : Nat) (W : World) (x : Int) (h1 : -9223372036854775808 ≤ x) (h2 : x ≤ 9223372036854775807) : NumsK B (W.alloc (.cells #[.int .i64 x] 3)) (.slice (some ⟨W.heap.size, 0, none⟩) 1 1) [x] :=
  ⟨⟨Rd.new (enc := encI .i64) (encI_len .i64) [x] (by simp), by simpa using ⟨h1, h2⟩⟩, fun g o n c e _ => by
    simp only [Value.slice.injEq, Option.some.injEq, Addr.mk.injEq] at e
    obtain ⟨⟨rfl, _⟩, _⟩ := e
    exact .inr ⟨_, Blk.new' rfl⟩⟩
theorem run_one3 (w : World) (x : Int) : (Instr.buildSlice 23 1 #[(0, .int .i64 x)]).run Tryz.prog w = .ok (.slice (some ⟨w.heap.size, 0, none⟩) 1 1) (w.alloc (.cells #[.int .i64 x] 3)) := by
  unfold Instr.buildSlice
  go_simp
  try rfl
theorem exec_run1 {w w' : World} {u v : Value} {o : Oper} {ac : Act} {x : Operand} {t : TypeId} (hr : (Instr.buildSlice t 1 #[(0, u)]).run Tryz.prog w = .ok v w') (ho : o.op = .buildSlice t 1 #[(0, x)]) (hx : ac.eval x = u) : (execOp ac.eval o).run Tryz.prog w = .ok (.value v) w' := by
  simp [execOp, ho, hx, hr, Result.andThen]
theorem run_six26 (w : World) (a b c d e f : Option Addr) (n0 m0 n1 m1 n2 m2 n3 m3 n4 m4 n5 m5 : Nat) : (Instr.buildSlice 106 6 #[(0, .slice a n0 m0), (1, .slice b n1 m1), (2, .slice c n2 m2), (3, .slice d n3 m3), (4, .slice e n4 m4), (5, .slice f n5 m5)]).run Tryz.prog w = .ok (.slice (some ⟨w.heap.size, 0, none⟩) 6 6) (w.alloc (.cells #[.slice a n0 m0, .slice b n1 m1, .slice c n2 m2, .slice d n3 m3, .slice e n4 m4, .slice f n5 m5] 23)) := by
  unfold Instr.buildSlice
  go_simp
  try rfl
theorem exec_run6 {w w' : World} {u0 u1 u2 u3 u4 u5 v : Value} {o : Oper} {ac : Act} {x0 x1 x2 x3 x4 x5 : Operand} {t : TypeId} (hr : (Instr.buildSlice t 6 #[(0, u0), (1, u1), (2, u2), (3, u3), (4, u4), (5, u5)]).run Tryz.prog w = .ok v w') (ho : o.op = .buildSlice t 6 #[(0, x0), (1, x1), (2, x2), (3, x3), (4, x4), (5, x5)])
    (h0 : ac.eval x0 = u0) (h1 : ac.eval x1 = u1) (h2 : ac.eval x2 = u2) (h3 : ac.eval x3 = u3) (h4 : ac.eval x4 = u4) (h5 : ac.eval x5 = u5) : (execOp ac.eval o).run Tryz.prog w = .ok (.value v) w' := by
  simp [execOp, ho, h0, h1, h2, h3, h4, h5, hr, Result.andThen]
theorem bld_mono {B B' b : Nat} {l : List UInt8} {W : World} (h : Bld B b l W) (hb : B' ≤ B) : Bld B' b l W := by
  have go : ∀ p, Lib.BuilderAtF 64 5 B b p (Lib.byteCells l) W → Lib.BuilderAtF 64 5 B' b p (Lib.byteCells l) W := fun p ⟨h1, v, h2, h3, h4⟩ => ⟨by omega, v, h2, ⟨h3.1, h3.2.imp id fun ⟨g, cap, cur, fz, e, hg, r⟩ => ⟨g, cap, cur, fz, e, by omega, r⟩⟩, h4⟩
  rcases h with h | h
  · exact .inl (go _ h)
  · exact .inr (go _ h)
theorem NumsK.below {B : Nat} {W X : World} {v : Value} {l : List Int} (h : NumsK B W v l) (hb : Below W.heap.size W X) : NumsK B X v l := ⟨h.1.below hb, fun g o n c e hne => (h.2 g o n c e hne).imp id fun ⟨cs, hc⟩ => ⟨cs, hc.keep hb⟩⟩
def C6 : Type := { cs : List Value // cs.length = 6 ∧ ∀ u ∈ cs, u.oneCell' = true }
def C7 : Type := { cs : List Value // cs.length = 7 ∧ ∀ u ∈ cs, u.oneCell' = true }
theorem numsK_nil (B : Nat) (W : World) : NumsK B W (.slice none 0 0) [] := ⟨⟨Rd.nil W, by simp⟩, fun g o n c e h => absurd rfl h⟩
theorem zeroRows {B : Nat} {W : World} {u v : Value} (h0 : NumsK B W u [0]) (h1 : NumsK B W v []) : ∀ (k : Nat) x l, [u, v, .slice none 0 0, .slice none 0 0, .slice none 0 0, .slice none 0 0][k]? = some x → ([[0], [], [], [], [], []] : List (List Int))[k]? = some l → NumsK B W x l ∧ l.length ≤ 16384 := by
  intro k x l hx hl
  have hn := numsK_nil B W
  match k with
  | 0 => cases hx; cases hl; exact ⟨h0, by simp⟩
  | 1 => cases hx; cases hl; exact ⟨h1, by simp⟩
  | 2 => cases hx; cases hl; exact ⟨hn, by simp⟩
  | 3 => cases hx; cases hl; exact ⟨hn, by simp⟩
  | 4 => cases hx; cases hl; exact ⟨hn, by simp⟩
  | 5 => cases hx; cases hl; exact ⟨hn, by simp⟩
  | k + 6 => cases hx
end Go.Proofs.YtkinhhkodaacjaaGreatDoor
namespace Go.Proofs.YtkinhhkodaacjaaGreatDoor
open Go.RowKit Go.Shelf

theorem ins0_any (f : Value) (w : World) : Calls Tryz.prog 94 #[.slice none 0 0, .int .i64 0, .int .i64 0, f] w fun e w' => e = .returned (.tuple #[]) ∧ w = w' := by
  go_enter Tryz.func94, Tryz.ntmps94
  go_wp2_with fail
  go_loopw [8] (fun i wr => i = .int .i64 1 ∧ wr = w) (fun _ _ => 0)
  case atStart => exact ⟨rfl, rfl⟩
  case round =>
    obtain ⟨rfl, rfl⟩ := hrel
    go_wp2
    go_end0
    exact ⟨rfl, rfl⟩
theorem stab0_any (f : Fn) (a b : Array Value) (w : World) : Calls Tryz.prog 69 #[.slice none 0 0, .int .i64 0, .func f a b] w fun e w' => e = .returned (.tuple #[]) ∧ w = w' := by
  have HI := Lib.hid (ins0_any (.func f a b) w)
  go_enter Tryz.func69, Tryz.ntmps69
  go_wp2_with fail
  go_loopw [7, 8] (fun i j wr => i = .int .i64 0 ∧ j = .int .i64 20 ∧ wr = w) (fun _ _ _ => 0)
  case atStart => exact ⟨rfl, rfl, rfl⟩
  case round =>
    obtain ⟨rfl, rfl, rfl⟩ := hrel
    go_wp2_with fail
    refine HI.out.mono ?_
    rintro e w2 ⟨rfl, hw⟩
    subst hw
    go_wp2_with fail
    go_loopw [6] (fun i wz => i = .int .i64 20 ∧ wz = wr) (fun _ _ => 0)
    case atStart => exact ⟨rfl, rfl⟩
    case round =>
      obtain ⟨rfl, rfl⟩ := hrel
      go_wp2
      go_end0
      exact ⟨rfl, rfl⟩
theorem sort0_any (f : Fn) (a b : Array Value) (w : World) : Calls Tryz.prog 42 #[.slice none 0 0, .func f a b] w fun e w' => e = .returned (.tuple #[]) ∧ w = w' := by
  have HI := Lib.hid (stab0_any f a b w)
  go_enter Tryz.func42, Tryz.ntmps42
  go_wp2_with fail
  refine HI.out.mono ?_
  rintro e w2 ⟨rfl, hw⟩
  subst hw
  go_wp2
  go_end0
  exact ⟨rfl, rfl⟩
end Go.Proofs.YtkinhhkodaacjaaGreatDoor
