/- The marks that loops over iterators leave behind; how a function leaves through them. (Text of no seat: Ytkinhhkodaacjaa stands for the seat's name.) Print at the empty script. SortStableFunc of nothing. -/
import Derived.RangeFuncNested
import Derived.Test.YtkinhhkodaacjaaLA
import Derived.Test.YtkinhhkodaacjaaProg
import Derived.Test.YtkinhhkodaacjaaR7
namespace Go.Proofs.Ytkinhhkodaacjaa
open Go.RowKit Go.Shelf

/-- The marks that loops over iterators leave behind: each a block that is open still. -/
def Marks (n₀ : Nat) (W : World) (ds : List Deferred) : Prop := ∃ Ds : List Nat, Ds.Nodup ∧ ds = Ds.map (fun D => { target := .collected D, args := #[] }) ∧ ∀ D ∈ Ds, n₀ ≤ D ∧ W.heap[D]? = some (Obj.deferred (some []))
theorem Marks.nil (n₀ : Nat) (W : World) : Marks n₀ W [] := ⟨[], List.nodup_nil, rfl, by simp⟩
theorem Marks.keep {n₀ : Nat} {W X : World} {ds : List Deferred} (h : Marks n₀ W ds) (hk : ∀ D : Nat, W.heap[D]? = some (Obj.deferred (some [])) → X.heap[D]? = some (Obj.deferred (some []))) : Marks n₀ X ds := by
  obtain ⟨Ds, h1, h2, h3⟩ := h
  exact ⟨Ds, h1, h2, fun D hD => ⟨(h3 D hD).1, hk D (h3 D hD).2⟩⟩
theorem Marks.add {n₀ D : Nat} {W X : World} {ds : List Deferred} (h : Marks n₀ W ds) (hk : ∀ D : Nat, W.heap[D]? = some (Obj.deferred (some [])) → X.heap[D]? = some (Obj.deferred (some []))) (hD : W.heap.size ≤ D) (hn : n₀ ≤ D) (hX : X.heap[D]? = some (Obj.deferred (some []))) :
    Marks n₀ X ({ target := .collected D, args := #[] } :: ds) := by
  obtain ⟨Ds, h1, h2, h3⟩ := h
  refine ⟨D :: Ds, List.nodup_cons.2 ⟨fun hm => ?_, h1⟩, by rw [h2]; rfl, fun E hE => ?_⟩
  · have := (Array.getElem?_eq_some_iff.1 (h3 D hm).2).1
    omega
  · rcases List.mem_cons.1 hE with e | e
    · rw [e]; exact ⟨hn, hX⟩
    · exact ⟨(h3 E e).1, hk E (h3 E e).2⟩
theorem leave_marks {fn : Func} {tmps : Array Value} {R : Ending → World → Prop} {v : Value} {n₀ : Nat} : ∀ (Ds : List Nat) (W : World), Ds.Nodup → (∀ D ∈ Ds, n₀ ≤ D ∧ W.heap[D]? = some (Obj.deferred (some []))) →
    (∀ X, Below n₀ W X → (results fn tmps).run Try.prog X = .ok v X ∧ R (.returned v) X) → LeavesInM Fence.wide 3 Try.prog fn tmps R (Ds.map (fun D => { target := .collected D, args := #[] })) .returning W
  | [], W, _, _, h => by
    obtain ⟨h1, h2⟩ := h W (Below.refl _ _)
    exact ⟨v, h1, h2⟩
  | D :: Ds, W, hd, hm, h => by
    obtain ⟨h1, h2⟩ := hm D (by simp)
    refine ⟨by simp, .inl ⟨D, _, rfl, run_takeDeferred h2, ?_⟩⟩
    rw [List.nodup_cons] at hd
    refine leave_marks Ds _ hd.2 (fun E hE => ⟨(hm E (by simp [hE])).1, ?_⟩) (fun X hX => h X ?_)
    · rw [World.putObj_heap_other (fun e : E = D => hd.1 (e ▸ hE))]
      exact (hm E (by simp [hE])).2
    · exact ((Below.refl n₀ W).grown (grownBy_putObj' W D _) (by have := (Array.getElem?_eq_some_iff.1 h2).1; omega) (fun k e => by cases e; exact h1)).trans hX
end Go.Proofs.Ytkinhhkodaacjaa
namespace Go.Proofs.Ytkinhhkodaacjaa
open Go.RowKit Go.Shelf
open Md
attribute [local go_sem] Oper.semAt_some

theorem FL83 : Flat Try.prog 83 := ⟨⟨_, Try.underlying83, rfl⟩, by kernel_rfl⟩
theorem FL3 : Flat Try.prog 3 := ⟨⟨_, Try.underlying3, rfl⟩, by kernel_rfl⟩
theorem FL22 : Flat Try.prog 22 := ⟨⟨_, Try.underlying22, rfl⟩, by kernel_rfl⟩
theorem FL26 : Flat Try.prog 26 := ⟨⟨_, Try.underlying26, rfl⟩, by kernel_rfl⟩
theorem blk_post {B b bx : Nat} {l : List UInt8} {cs : Array Value} {t : TypeId} {W X : World} (h : Blk W bx t cs) (k : BPost B b l W X) (hne : bx ≠ b) (ht : t ≠ 5 := by decide) : Blk X bx t cs := k.2.2.1 bx _ h (by simpa using hne) (fun c fz e => by cases e; exact ht rfl)
def zScr : List Value := [.int .i64 0, .slice none 0 0, .slice none 0 0, .slice none 0 0, .slice none 0 0, .slice none 0 0, .slice none 0 0, .slice none 0 0]
def emptyT : List UInt8 := [114, 111, 117, 110, 100, 115, 32, 48, 10, 117, 112, 115, 10, 111, 102, 102, 115, 10, 103, 97, 116, 101, 115, 10, 103, 117, 97, 114, 100, 115, 10, 100, 114, 105, 102, 116, 115, 10]
theorem emptyT_eq : rowsT headsL [[0], [], [], [], [], []] = emptyT := by
  have h0 : decZ 0 = [48] := by rw [decZ_pos (by omega), show (0 : Int).natAbs = 0 from rfl, decN_small (by omega)]; rfl
  simp [rowsT, headsL, lineT, numT, h0, emptyT]
structure PS (w X : World) : Prop where
  bel : Below w.heap.size w X
  s : Blk X w.heap.size 30 zScr.toArray
  bld : Bld w.heap.size (w.heap.size + 1) [] X
  t : Blk X (w.heap.size + 2) 83 #[.pointer (some ⟨w.heap.size + 1, 0, none⟩)]
theorem PS.keep {w X Y : World} (h : PS w X) (hb : Below X.heap.size X Y) : PS w Y := ⟨h.bel.trans (hb.mono h.bel.size), h.s.keep hb, h.bld.keep hb, h.t.keep hb⟩
theorem heads_any' (w : World) : Calls Try.prog 48 #[] w fun e w' => (∃ g, e = .returned (.slice (some ⟨g, 0, none⟩) 6 6) ∧ Blk w' g 9 (headsL.map strV).toArray) ∧ Below w.heap.size w w' :=
  (heads_any w).mono (by rintro e w' ⟨rfl, rfl⟩; exact ⟨⟨_, rfl, Blk.new' rfl⟩, below1 _ _⟩)
theorem truths_none (B : Nat) (w : World) : Calls Try.prog 49 #[.slice none 0 0] w fun e w' => (∃ a c, e = .returned (.slice a 0 c) ∧ NumsK B w' (.slice a 0 c) []) ∧ Below w.heap.size w w' :=
  (truths_any (.slice none 0 0) [] w (Rd.nil w) (by simp)).mono (by
    rintro e w' ⟨⟨v', rfl, ho⟩, hb⟩
    obtain ⟨a, c, rfl, -⟩ := owns_shape ho
    exact ⟨⟨_, _, rfl, ⟨⟨Rd.of_owns (e := 3) (base := w.heap.size) (encI_len .i64) (by rw [encI_flat]; exact ho) (by simp), by simp⟩, fun g o n c e h => absurd rfl h⟩⟩, hb⟩)
def SB (w X : World) : Prop := Blk X w.heap.size 30 zScr.toArray ∧ Blk X (w.heap.size + 2) 83 #[.pointer (some ⟨w.heap.size + 1, 0, none⟩)]
theorem PS.sb {w X : World} (h : PS w X) : Hid (SB w X) := ⟨h.s, h.t⟩
theorem numsK_new (B : Nat) (W : World) (x : Int) (h1 : -9223372036854775808 ≤ x) (h2 : x ≤ 9223372036854775807) : NumsK B (W.alloc (.cells #[.int .i64 x] 3)) (.slice (some ⟨W.heap.size, 0, none⟩) 1 1) [x] :=
  ⟨⟨Rd.new (enc := encI .i64) (encI_len .i64) [x] (by simp), by simpa using ⟨h1, h2⟩⟩, fun g o n c e _ => by
    simp only [Value.slice.injEq, Option.some.injEq, Addr.mk.injEq] at e
    obtain ⟨⟨rfl, _⟩, _⟩ := e
    exact .inr ⟨_, Blk.new' rfl⟩⟩
theorem run_one3 (w : World) (x : Int) : (Instr.buildSlice 26 1 #[(0, .int .i64 x)]).run Try.prog w = .ok (.slice (some ⟨w.heap.size, 0, none⟩) 1 1) (w.alloc (.cells #[.int .i64 x] 3)) := by
  unfold Instr.buildSlice
  go_simp
  try rfl
theorem exec_run1 {w w' : World} {u v : Value} {o : Oper} {ac : Act} {x : Operand} {t : TypeId} (hr : (Instr.buildSlice t 1 #[(0, u)]).run Try.prog w = .ok v w') (ho : o.op = .buildSlice t 1 #[(0, x)]) (hx : ac.eval x = u) : (execOp ac.eval o).run Try.prog w = .ok (.value v) w' := by
  simp [execOp, ho, hx, hr, Result.andThen]
theorem run_six26 (w : World) (a b c d e f : Option Addr) (n0 m0 n1 m1 n2 m2 n3 m3 n4 m4 n5 m5 : Nat) : (Instr.buildSlice 116 6 #[(0, .slice a n0 m0), (1, .slice b n1 m1), (2, .slice c n2 m2), (3, .slice d n3 m3), (4, .slice e n4 m4), (5, .slice f n5 m5)]).run Try.prog w = .ok (.slice (some ⟨w.heap.size, 0, none⟩) 6 6) (w.alloc (.cells #[.slice a n0 m0, .slice b n1 m1, .slice c n2 m2, .slice d n3 m3, .slice e n4 m4, .slice f n5 m5] 26)) := by
  unfold Instr.buildSlice
  go_simp
  try rfl
theorem exec_run6 {w w' : World} {u0 u1 u2 u3 u4 u5 v : Value} {o : Oper} {ac : Act} {x0 x1 x2 x3 x4 x5 : Operand} {t : TypeId} (hr : (Instr.buildSlice t 6 #[(0, u0), (1, u1), (2, u2), (3, u3), (4, u4), (5, u5)]).run Try.prog w = .ok v w') (ho : o.op = .buildSlice t 6 #[(0, x0), (1, x1), (2, x2), (3, x3), (4, x4), (5, x5)])
    (h0 : ac.eval x0 = u0) (h1 : ac.eval x1 = u1) (h2 : ac.eval x2 = u2) (h3 : ac.eval x3 = u3) (h4 : ac.eval x4 = u4) (h5 : ac.eval x5 = u5) : (execOp ac.eval o).run Try.prog w = .ok (.value v) w' := by
  simp [execOp, ho, h0, h1, h2, h3, h4, h5, hr, Result.andThen]
theorem bld_mono {B B' b : Nat} {l : List UInt8} {W : World} (h : Bld B b l W) (hb : B' ≤ B) : Bld B' b l W := by
  have go : ∀ p, Lib.BuilderAtF 88 5 B b p (Lib.byteCells l) W → Lib.BuilderAtF 88 5 B' b p (Lib.byteCells l) W := fun p ⟨h1, v, h2, h3, h4⟩ => ⟨by omega, v, h2, ⟨h3.1, h3.2.imp id fun ⟨g, cap, cur, fz, e, hg, r⟩ => ⟨g, cap, cur, fz, e, by omega, r⟩⟩, h4⟩
  rcases h with h | h
  · exact .inl (go _ h)
  · exact .inr (go _ h)
theorem NumsK.below {B : Nat} {W X : World} {v : Value} {l : List Int} (h : NumsK B W v l) (hb : Below W.heap.size W X) : NumsK B X v l := ⟨h.1.below hb, fun g o n c e hne => (h.2 g o n c e hne).imp id fun ⟨cs, hc⟩ => ⟨cs, hc.keep hb⟩⟩
def C6 : Type := { cs : List Value // cs.length = 6 ∧ ∀ u ∈ cs, u.oneCell' = true }
def C7 : Type := { cs : List Value // cs.length = 7 ∧ ∀ u ∈ cs, u.oneCell' = true }
theorem numsK_nil (B : Nat) (W : World) : NumsK B W (.slice none 0 0) [] := ⟨⟨Rd.nil W, by simp⟩, fun g o n c e h => absurd rfl h⟩
theorem zeroRows {B : Nat} {W : World} {u v : Value} (h0 : NumsK B W u [0]) (h1 : NumsK B W v []) : ∀ (k : Nat) x l, [u, v, .slice none 0 0, .slice none 0 0, .slice none 0 0, .slice none 0 0][k]? = some x → ([[0], [], [], [], [], []] : List (List Int))[k]? = some l → NumsK B W x l ∧ l.length ≤ 2048 := by
  intro k x l hx hl
  have hn := numsK_nil B W
  match k with
  | 0 => cases hx; cases hl; exact ⟨h0, by simp⟩
  | 1 => cases hx; cases hl; exact ⟨h1, by simp⟩
  | 2 => cases hx; cases hl; exact ⟨hn, by simp⟩
  | 3 => cases hx; cases hl; exact ⟨hn, by simp⟩
  | 4 => cases hx; cases hl; exact ⟨hn, by simp⟩
  | 5 => cases hx; cases hl; exact ⟨hn, by simp⟩
  | k + 6 => cases hx
set_option maxRecDepth 100000 in
set_option maxHeartbeats 1600000 in
theorem print0_any (w : World) : Calls Try.prog 22 #[.agg zScr.toArray] w fun e w' => e = .returned (.string ⟨emptyT.toArray⟩) ∧ Below w.heap.size w w' := by
  have HPO : Hid (∀ w', Below w.heap.size w w' → (fun e w' => e = Ending.returned (.string ⟨emptyT.toArray⟩) ∧ Below w.heap.size w w') (.returned (.string ⟨emptyT.toArray⟩)) w') := fun w' h => ⟨rfl, h⟩
  generalize (fun e w' => e = Ending.returned (.string ⟨emptyT.toArray⟩) ∧ Below w.heap.size w w') = POST at *
  have HPS : Hid (PS w (((w.alloc (.cells zScr.toArray 30)).alloc (.cells #[.pointer none, .slice none 0 0] 88)).alloc (.cells #[.pointer (some ⟨w.heap.size + 1, 0, none⟩)] 83))) := Lib.hid
    ⟨below3 w _ _ _, ((Blk.new' rfl : Blk _ _ _ _).alloc _).alloc _, Bld.keep (by
      have h := Lib.IsBuilderF.of (Lib.fresh_isBuilder 88 5 (w.alloc (.cells zScr.toArray 30)))
      have hs : (w.alloc (.cells zScr.toArray 30)).heap.size = w.heap.size + 1 := by simp
      rw [hs] at h
      exact bld_mono h (by omega)) (below1 _ _), Blk.new' (by simp)⟩
  refine (callsIn_wide (n := 3)).1 ?_
  refine callsIn_of_wp_marks Try.func22 rfl trivial ?_ rfl
  refine wpIn_wide.2 ?_
  simp only [Try.ntmps22, List.size_toArray, List.length_cons, List.length_nil, Nat.reduceAdd, Nat.reduceSub, Array.replicate_succ, Array.replicate_zero, List.push_toArray, List.append_toArray, List.nil_append, List.cons_append]
  go_upto_region 2 with fail
  change Code.wp _ _ _ _ (((w.alloc (.cells zScr.toArray 30)).alloc (.cells #[.pointer none, .slice none 0 0] 88)).alloc (.cells #[.pointer (some ⟨w.heap.size + 1, 0, none⟩)] 83))
  generalize (((w.alloc (.cells zScr.toArray 30)).alloc (.cells #[.pointer none, .slice none 0 0] 88)).alloc (.cells #[.pointer (some ⟨w.heap.size + 1, 0, none⟩)] 83)) = W1 at *
  replace HPS := Lib.hid (HPS.out.keep (Below.refl _ _).drew)
  have hS := HPS.out.sb
  refine wp_region_noPanic ?_
  refine wp_region_held_drew (S := fun X => Hid (SB w X)) (by kernel_rfl) hS (fun hHeld => ?_)
  (refine takeW (i := 0) rfl (by kernel_rfl) (by kernel_rfl) (by kernel_rfl) (fun _ _ _ h => h) (by rfl) (by assumption) (fun W hW => exec_load1 FL83 rfl rfl (hW.out.2.cell 0)) ?_; (try simp only [Act.put, List.setIfInBounds_toArray, List.set_cons_zero, List.set_cons_succ]))
  (refine takeW (i := 1) rfl (by kernel_rfl) (by kernel_rfl) (by kernel_rfl) (fun _ _ _ h => h) (by rfl) (by assumption) (fun W hW => exec_load1 FL83 rfl rfl (hW.out.2.cell 0)) ?_; (try simp only [Act.put, List.setIfInBounds_toArray, List.set_cons_zero, List.set_cons_succ]))
  (refine takeW (i := 2) (v := ?_) rfl (by kernel_rfl) (by kernel_rfl) (by kernel_rfl) (fun _ _ _ h => h) (by rfl) (by assumption) ?_ ?_; rotate_left; (intro W hW; (try dsimp only at hW); go_simp; try with_reducible rfl); (try simp only [Act.put, List.setIfInBounds_toArray, List.set_cons_zero, List.set_cons_succ]))
  (refine takeW (i := 4) (v := ?_) rfl (by kernel_rfl) (by kernel_rfl) (by kernel_rfl) (fun _ _ _ h => h) (by rfl) (by assumption) ?_ ?_; rotate_left; (intro W hW; (try dsimp only at hW); go_simp; try with_reducible rfl); (try simp only [Act.put, List.setIfInBounds_toArray, List.set_cons_zero, List.set_cons_succ]))
  (refine takeW (i := 5) rfl (by kernel_rfl) (by kernel_rfl) (by kernel_rfl) (fun _ _ _ h => h) (by rfl) (by assumption) (fun W hW => exec_load1 FL3 rfl rfl (hW.out.1.cell 0)) ?_; (try simp only [Act.put, List.setIfInBounds_toArray, List.set_cons_zero, List.set_cons_succ]))
  (refine takeW (i := 7) (v := ?_) rfl (by kernel_rfl) (by kernel_rfl) (by kernel_rfl) (fun _ _ _ h => h) (by rfl) (by assumption) ?_ ?_; rotate_left; (intro W hW; (try dsimp only at hW); go_simp; try with_reducible rfl); (try simp only [Act.put, List.setIfInBounds_toArray, List.set_cons_zero, List.set_cons_succ]))
  (refine takeW (i := 8) rfl (by kernel_rfl) (by kernel_rfl) (by kernel_rfl) (fun _ _ _ h => h) (by rfl) (by assumption) (fun W hW => exec_load1 FL22 rfl rfl (hW.out.1.cell 1)) ?_; (try simp only [Act.put, List.setIfInBounds_toArray, List.set_cons_zero, List.set_cons_succ]))
  (refine takeW (i := 10) (v := ?_) rfl (by kernel_rfl) (by kernel_rfl) (by kernel_rfl) (fun _ _ _ h => h) (by rfl) (by assumption) ?_ ?_; rotate_left; (intro W hW; (try dsimp only at hW); go_simp; try with_reducible rfl); (try simp only [Act.put, List.setIfInBounds_toArray, List.set_cons_zero, List.set_cons_succ]))
  (refine takeW (i := 11) rfl (by kernel_rfl) (by kernel_rfl) (by kernel_rfl) (fun _ _ _ h => h) (by rfl) (by assumption) (fun W hW => exec_load1 FL26 rfl rfl (hW.out.1.cell 2)) ?_; (try simp only [Act.put, List.setIfInBounds_toArray, List.set_cons_zero, List.set_cons_succ]))
  (refine takeW (i := 12) (v := ?_) rfl (by kernel_rfl) (by kernel_rfl) (by kernel_rfl) (fun _ _ _ h => h) (by rfl) (by assumption) ?_ ?_; rotate_left; (intro W hW; (try dsimp only at hW); go_simp; try with_reducible rfl); (try simp only [Act.put, List.setIfInBounds_toArray, List.set_cons_zero, List.set_cons_succ]))
  (refine takeW (i := 13) rfl (by kernel_rfl) (by kernel_rfl) (by kernel_rfl) (fun _ _ _ h => h) (by rfl) (by assumption) (fun W hW => exec_load1 FL26 rfl rfl (hW.out.1.cell 3)) ?_; (try simp only [Act.put, List.setIfInBounds_toArray, List.set_cons_zero, List.set_cons_succ]))
  (refine takeW (i := 14) (v := ?_) rfl (by kernel_rfl) (by kernel_rfl) (by kernel_rfl) (fun _ _ _ h => h) (by rfl) (by assumption) ?_ ?_; rotate_left; (intro W hW; (try dsimp only at hW); go_simp; try with_reducible rfl); (try simp only [Act.put, List.setIfInBounds_toArray, List.set_cons_zero, List.set_cons_succ]))
  (refine takeW (i := 15) rfl (by kernel_rfl) (by kernel_rfl) (by kernel_rfl) (fun _ _ _ h => h) (by rfl) (by assumption) (fun W hW => exec_load1 FL26 rfl rfl (hW.out.1.cell 4)) ?_; (try simp only [Act.put, List.setIfInBounds_toArray, List.set_cons_zero, List.set_cons_succ]))
  (refine takeW (i := 16) (v := ?_) rfl (by kernel_rfl) (by kernel_rfl) (by kernel_rfl) (fun _ _ _ h => h) (by rfl) (by assumption) ?_ ?_; rotate_left; (intro W hW; (try dsimp only at hW); go_simp; try with_reducible rfl); (try simp only [Act.put, List.setIfInBounds_toArray, List.set_cons_zero, List.set_cons_succ]))
  (refine takeW (i := 17) rfl (by kernel_rfl) (by kernel_rfl) (by kernel_rfl) (fun _ _ _ h => h) (by rfl) (by assumption) (fun W hW => exec_load1 FL26 rfl rfl (hW.out.1.cell 5)) ?_; (try simp only [Act.put, List.setIfInBounds_toArray, List.set_cons_zero, List.set_cons_succ]))
  refine takeC2 (i := 3) (j := 6) rfl rfl (by kernel_rfl) (by rfl) (by rfl) (fun K hK => ?_) (fun K hK => ?_)
  · go_simp
    refine (heads_any' _).mono ?_
    rintro e W3 ⟨⟨gw, rfl, hgw⟩, hb⟩
    have HPS := Lib.hid (HPS.out.keep hb)
    (try have HHD := Lib.hid (HHD.out.keep hb))
    (try have HBL := Lib.hid (HBL.out.keep hb))
    (try have HNR := Lib.hid (HNR.out.below hb))
    (try have HTR := Lib.hid (HTR.out.below hb))
    have HHD := Lib.hid hgw
    clear hgw
    clear hb hHeld
    refine hK.out _ _ HPS.out.sb (fun hHeld => ?_)
    clear hK K
    try simp only [Act.put, List.setIfInBounds_toArray, List.set_cons_zero, List.set_cons_succ]
    refine takeC2 (i := 6) (j := 9) rfl rfl (by kernel_rfl) (by rfl) (by rfl) (fun K hK => ?_) (fun K hK => ?_)
    · obtain ⟨W6, hW6⟩ : ∃ W6, W3.alloc (.cells #[.int .i64 0] 3) = W6 := ⟨_, rfl⟩
      obtain ⟨g6, hg6⟩ : ∃ g6, W3.heap.size = g6 := ⟨_, rfl⟩
      have HNR : Hid (NumsK w.heap.size W6 (.slice (some ⟨g6, 0, none⟩) 1 1) [0]) := Lib.hid (by rw [← hW6, ← hg6]; exact numsK_new _ _ 0 (by omega) (by omega))
      have HB6 : Hid (Below W3.heap.size W3 W6) := Lib.hid (by rw [← hW6]; exact below1 _ _)
      have HX6 := Lib.hid (run_one3 W3 0)
      rw [hW6, hg6] at HX6
      clear hW6 hg6
      unfold Oper.wp
      rw [exec_run1 HX6.out rfl rfl]
      refine hK.out _ _ ((HPS.out.keep HB6.out).sb) (fun hHeld => ?_)
      clear hK K
      (try simp only [Act.put, List.setIfInBounds_toArray, List.set_cons_zero, List.set_cons_succ])
      have HPS := Lib.hid (HPS.out.keep HB6.out)
      (try have HHD := Lib.hid (HHD.out.keep HB6.out))
      (try have HBL := Lib.hid (HBL.out.keep HB6.out))
      (try have HTR := Lib.hid (HTR.out.below HB6.out))
      clear HB6 HX6
      refine takeC (i := 9) rfl (by kernel_rfl) (by rfl) (fun K hK => ?_)
      go_simp
      refine (truths_none w.heap.size _).mono ?_
      rintro e W9 ⟨⟨at', ct, rfl, hvt⟩, hb⟩
      have HPS := Lib.hid (HPS.out.keep hb)
      (try have HHD := Lib.hid (HHD.out.keep hb))
      (try have HBL := Lib.hid (HBL.out.keep hb))
      (try have HNR := Lib.hid (HNR.out.below hb))
      (try have HTR := Lib.hid (HTR.out.below hb))
      have HTR : Hid (NumsK w.heap.size W9 (.slice at' 0 ct) []) := Lib.hid hvt
      clear hvt
      clear hb hHeld
      refine hK.out _ _ HPS.out.sb (fun hHeld => ?_)
      clear hK K
      try simp only [Act.put, List.setIfInBounds_toArray, List.set_cons_zero, List.set_cons_succ]
      obtain ⟨W18, hW18⟩ : ∃ W18, W9.alloc (.cells #[.slice (some ⟨g6, 0, none⟩) 1 1, .slice at' 0 ct, .slice none 0 0, .slice none 0 0, .slice none 0 0, .slice none 0 0] 26) = W18 := ⟨_, rfl⟩
      obtain ⟨g18, hg18⟩ : ∃ g18, W9.heap.size = g18 := ⟨_, rfl⟩
      have HBL : Hid (Blk W18 g18 26 #[.slice (some ⟨g6, 0, none⟩) 1 1, .slice at' 0 ct, .slice none 0 0, .slice none 0 0, .slice none 0 0, .slice none 0 0]) := Lib.hid (by rw [← hW18]; exact Blk.new' hg18)
      have HB18 : Hid (Below W9.heap.size W9 W18) := Lib.hid (by rw [← hW18]; exact below1 _ _)
      have HX18 := Lib.hid (run_six26 W9 (some ⟨g6, 0, none⟩) at' none none none none 1 1 0 ct 0 0 0 0 0 0 0 0)
      rw [hW18, hg18] at HX18
      clear hW18 hg18
      refine takeV (i := 18) rfl (by kernel_rfl) (by rfl) (exec_run6 HX18.out rfl rfl rfl rfl rfl rfl rfl) ((HPS.out.keep HB18.out).sb) ?_
      (try simp only [Act.put, List.setIfInBounds_toArray, List.set_cons_zero, List.set_cons_succ])
      have hHeld : Hid (SB w W18) := (HPS.out.keep HB18.out).sb
      have HPS := Lib.hid (HPS.out.keep HB18.out)
      (try have HHD := Lib.hid (HHD.out.keep HB18.out))
      (try have HNR := Lib.hid (HNR.out.below HB18.out))
      (try have HTR := Lib.hid (HTR.out.below HB18.out))
      clear HB18 HX18
      refine takeC (i := 19) rfl (by kernel_rfl) (by rfl) (fun K hK => ?_)
      go_simp
      refine (rows_any w.heap.size (w.heap.size + 1) gw g18 [] headsL _ [[0], [], [], [], [], []] W18 HPS.out.bld HHD.out HBL.out rfl rfl (by decide) (zeroRows HNR.out HTR.out) (by decide) (by simp)).mono ?_
      rintro e W19 ⟨rfl, hp⟩
      have HBP := Lib.hid (BI.post (BI.start HPS.out.bld HPS.out.bel) hp)
      have HS19 : Hid (SB w W19) := Lib.hid ⟨blk_post HPS.out.s hp (by omega), blk_post HPS.out.t hp (by omega)⟩
      clear hp hHeld HHD HBL HTR HNR HPS
      refine hK.out _ _ HS19 (fun hHeld => ?_)
      clear hK K
      try simp only [Act.put, List.setIfInBounds_toArray, List.set_cons_zero, List.set_cons_succ]
      refine wpAnyH_done (by kernel_rfl) ?_ _
      refine NoPanic.normal ?_
      clear HS19
      rw [List.nil_append, emptyT_eq] at HBP
      obtain ⟨Wa, rfl⟩ : ∃ Wa : World, Wa = W19 := ⟨_, rfl⟩
      have HBJ : Hid (BI w w.heap.size (w.heap.size + 1) Wa emptyT Wa) := Lib.hid (BI.start HBP.out.bld HBP.out.bel)
      clear HBP
      have HSB := Lib.hid hHeld.out
      clear hHeld
      have c6 : Wa.cell? ⟨w.heap.size, 6, none⟩ = some (.slice none 0 0) := HSB.out.1.cell 6
      go_wp2_with fail
      refine (makeO_any none 0 0 Wa).mono ?_
      rintro e Wb ⟨rfl, hwb⟩
      have HB1 : Hid (BI w w.heap.size (w.heap.size + 1) Wa emptyT Wb) := Lib.hid (by rw [← hwb]; exact HBJ.out.below (below1 _ _))
      have hg1 : Wb.cell? ⟨Wa.heap.size, 0, none⟩ = some (.slice none 0 0) := by rw [← hwb, World.cell?_alloc_at _ _ _ _ rfl]; rfl
      clear hwb c6
      have HB1' : Hid (BI w w.heap.size (w.heap.size + 1) Wb emptyT Wb) := Lib.hid (BI.start HB1.out.bld HB1.out.bel)
      have hseq := eachO_stops (enc := fun x : C6 => x.val) (fun x => x.2.1) (fun x => x.2.2) 2 (by omega) Wa.heap.size w.heap.size (fun _ => False) (.slice none 0 0) [] Wb HB1.out.le hg1 (fun W' _ => Rd.nil W')
      clear hg1
      have hbz : w.heap.size ≤ Wb.heap.size := HB1.out.le
      go_wp2_with fail
      refine (wpIn_wide (n := 3)).1 ?_
      refine wpIn_rangeFunc_ownH rfl (by omega) (gf := 70) (lb := #[.pointer (some ⟨Wa.heap.size, 0, none⟩)]) rfl trivial (enters_of Try.func70 (by kernel_rfl) rfl) hseq (fun h k => KQ.trans h k) (KQ.put hbz (fun k hk => hk.elim)) (Below.refl _ _) (fun _ => rfl)
        (fun _ W => BI w w.heap.size (w.heap.size + 1) Wb emptyT W) (fun _ _ _ => False) (BI.own (f := fun _ : List C6 => emptyT) (Nat.le_refl _) hbz) (fun _ _ _ _ _ h _ _ => h) HB1'.out
        (fun _ _ _ => True) (fun _ _ _ _ _ _ _ _ _ => trivial) ?assign ?body ?done ?stop
      case assign =>
        rintro y pre x W K hI hK
        unfold encV
        gi_wp2_with (refine wpListIn_storeW W43 rfl rfl rfl x.val rfl x.2.1 x.2.2 rfl ?_)
        exact hK _ _ ((KeepsOthers.alloc _ _).from _) (KQ.of_below (below1 _ _) hI.le) (hI.below (below1 _ _)) trivial
      case body =>
        rintro y pre x a' W hl0 hr0 hI hA hlt
        exact absurd hlt (Nat.not_lt_zero _)
      case stop =>
        rintro DD c pre W hDD hp h hK
        exact h.elim
      case done =>
        rintro D1 ys W hD1 hys hI hK1
        have HI1 : Hid (BI w w.heap.size (w.heap.size + 1) Wb emptyT W) := hI
        have HS1 : Hid (SB w W) := Lib.hid (by
          have hk := HB1.out.ok.trans HI1.out.ok
          exact ⟨hk _ _ HSB.out.1 (by simp) (fun c fz e => by cases e), hk _ _ HSB.out.2 (by simp) (fun c fz e => by cases e)⟩)
        have HM1 : Hid (Marks w.heap.size W [{ target := .collected D1, args := #[] }]) := Lib.hid ((Marks.nil w.heap.size Wb).add (fun D hD => by
          refine HI1.out.ok D _ hD (fun e => ?_) (fun c fz e => by cases e)
          cases e
          obtain ⟨cs, fz, hb⟩ := HB1.out.bld.blk
          rw [hb] at hD; cases hD) hD1 (by omega) hK1)
        clear hseq hys hI hK1 HB1 HB1' HSB HBJ
        have HBJ : Hid (BI w w.heap.size (w.heap.size + 1) W emptyT W) := Lib.hid (BI.start HI1.out.bld HI1.out.bel)
        clear HI1
        have c7 : W.cell? ⟨w.heap.size, 7, none⟩ = some (.slice none 0 0) := HS1.out.1.cell 7
        go_wp2_with fail
        refine (makeF_any none 0 0 W).mono ?_
        rintro e Wc ⟨rfl, hwb⟩
        have HB1 : Hid (BI w w.heap.size (w.heap.size + 1) W emptyT Wc) := Lib.hid (by rw [← hwb]; exact HBJ.out.below (below1 _ _))
        have hg1 : Wc.cell? ⟨W.heap.size, 0, none⟩ = some (.slice none 0 0) := by rw [← hwb, World.cell?_alloc_at _ _ _ _ rfl]; rfl
        clear hwb c7
        have HB1' : Hid (BI w w.heap.size (w.heap.size + 1) Wc emptyT Wc) := Lib.hid (BI.start HB1.out.bld HB1.out.bel)
        have hseq := eachF_stops (enc := fun x : C7 => x.val) (fun x => x.2.1) (fun x => x.2.2) 2 (by omega) W.heap.size w.heap.size (fun _ => False) (.slice none 0 0) [] Wc HB1.out.le hg1 (fun W' _ => Rd.nil W')
        clear hg1
        have hbz2 : w.heap.size ≤ Wc.heap.size := HB1.out.le
        have HMC : Hid (Marks w.heap.size Wc [{ target := .collected D1, args := #[] }]) := Lib.hid (HM1.out.keep (fun D hD => by
          refine HB1.out.ok D _ hD (fun e => ?_) (fun c fz e => by cases e)
          cases e
          obtain ⟨cs, fz, hb⟩ := HBJ.out.bld.blk
          rw [hb] at hD; cases hD))
        go_wp2_with fail
        refine (wpIn_wide (n := 3)).1 ?_
        refine wpIn_rangeFunc_ownH rfl (by omega) (gf := 72) (lb := #[.pointer (some ⟨W.heap.size, 0, none⟩)]) rfl trivial (enters_of Try.func72 (by kernel_rfl) rfl) hseq (fun h k => KQ.trans h k) (KQ.put hbz2 (fun k hk => hk.elim)) (Below.refl _ _) (fun _ => rfl)
          (fun _ W => BI w w.heap.size (w.heap.size + 1) Wc emptyT W) (fun _ _ _ => False) (BI.own (f := fun _ : List C7 => emptyT) (Nat.le_refl _) hbz2) (fun _ _ _ _ _ h _ _ => h) HB1'.out
          (fun _ _ _ => True) (fun _ _ _ _ _ _ _ _ _ => trivial) ?assign ?body ?done ?stop
        case assign =>
          rintro y pre x W K hI hK
          unfold encV
          gi_wp2_with (refine wpListIn_storeW W39 rfl rfl rfl x.val rfl x.2.1 x.2.2 rfl ?_)
          exact hK _ _ ((KeepsOthers.alloc _ _).from _) (KQ.of_below (below1 _ _) hI.le) (hI.below (below1 _ _)) trivial
        case body =>
          rintro y pre x a' W hl0 hr0 hI hA hlt
          exact absurd hlt (Nat.not_lt_zero _)
        case stop =>
          rintro DD c pre W hDD hp h hK
          exact h.elim
        case done =>
          rintro D2 ys2 W2 hD2 hys2 hI2 hK2
          have HI2 : Hid (BI w w.heap.size (w.heap.size + 1) Wc emptyT W2) := hI2
          have HS2 : Hid (SB w W2) := Lib.hid (by
            have hk := HB1.out.ok.trans HI2.out.ok
            exact ⟨hk _ _ HS1.out.1 (by simp) (fun c fz e => by cases e), hk _ _ HS1.out.2 (by simp) (fun c fz e => by cases e)⟩)
          have HM2 : Hid (Marks w.heap.size W2 [{ target := .collected D2, args := #[] }, { target := .collected D1, args := #[] }]) := Lib.hid (HMC.out.add (fun D hD => by
            refine HI2.out.ok D _ hD (fun e => ?_) (fun c fz e => by cases e)
            cases e
            obtain ⟨cs, fz, hb⟩ := HB1.out.bld.blk
            rw [hb] at hD; cases hD) hD2 (by omega) hK2)
          clear hseq hys2 hI2 hK2 HB1 HB1' HS1 HMC HM1 HBJ
          have ct : W2.cell? ⟨w.heap.size + 2, 0, none⟩ = some (.pointer (some ⟨w.heap.size + 1, 0, none⟩)) := HS2.out.2.cell 0
          have HST := Lib.hid (string_any w.heap.size (w.heap.size + 1) emptyT W2 HI2.out.bld (by simp [emptyT]))
          have HBD := Lib.hid HI2.out.bld
          have HBE := Lib.hid HI2.out.bel
          clear HI2 HS2
          generalize emptyT = tx at *
          go_wp2_with fail
          refine HST.out.mono ?_
          rintro e W5 ⟨rfl, hb5, hk5⟩
          have HB5 := Lib.hid (HBE.out.trans hb5)
          have HMK5 := Lib.hid (HM2.out.keep (fun E hE => by
            refine hk5 E _ hE (fun e => ?_) (fun c fz e => by cases e)
            cases e
            obtain ⟨cs, fz, hb⟩ := HBD.out.blk
            rw [hb] at hE; cases hE))
          clear hb5 hk5 HST ct
          go_wp2
          obtain ⟨Ds, hd1, hd2, hd3⟩ := HMK5.out
          show LeavesInM _ _ _ _ _ _ [{ target := .collected D2, args := #[] }, { target := .collected D1, args := #[] }] _ _
          rw [hd2]
          exact leave_marks Ds _ hd1 hd3 (fun X hX => ⟨by simp [results, Try.f22, go_sem], HPO.out X (HB5.out.trans hX)⟩)
    · go_simp
      refine (truths_none w.heap.size _).mono ?_
      rintro e W9 ⟨⟨at', ct, rfl, hvt⟩, hb⟩
      have HPS := Lib.hid (HPS.out.keep hb)
      (try have HHD := Lib.hid (HHD.out.keep hb))
      (try have HBL := Lib.hid (HBL.out.keep hb))
      (try have HNR := Lib.hid (HNR.out.below hb))
      (try have HTR := Lib.hid (HTR.out.below hb))
      have HTR : Hid (NumsK w.heap.size W9 (.slice at' 0 ct) []) := Lib.hid hvt
      clear hvt
      clear hb hHeld
      refine hK.out _ _ HPS.out.sb (fun hHeld => ?_)
      clear hK K
      try simp only [Act.put, List.setIfInBounds_toArray, List.set_cons_zero, List.set_cons_succ]
      obtain ⟨W6, hW6⟩ : ∃ W6, W9.alloc (.cells #[.int .i64 0] 3) = W6 := ⟨_, rfl⟩
      obtain ⟨g6, hg6⟩ : ∃ g6, W9.heap.size = g6 := ⟨_, rfl⟩
      have HNR : Hid (NumsK w.heap.size W6 (.slice (some ⟨g6, 0, none⟩) 1 1) [0]) := Lib.hid (by rw [← hW6, ← hg6]; exact numsK_new _ _ 0 (by omega) (by omega))
      have HB6 : Hid (Below W9.heap.size W9 W6) := Lib.hid (by rw [← hW6]; exact below1 _ _)
      have HX6 := Lib.hid (run_one3 W9 0)
      rw [hW6, hg6] at HX6
      clear hW6 hg6
      refine takeV (i := 6) rfl (by kernel_rfl) (by rfl) (exec_run1 HX6.out rfl rfl) ((HPS.out.keep HB6.out).sb) ?_
      (try simp only [Act.put, List.setIfInBounds_toArray, List.set_cons_zero, List.set_cons_succ])
      have hHeld : Hid (SB w W6) := (HPS.out.keep HB6.out).sb
      have HPS := Lib.hid (HPS.out.keep HB6.out)
      (try have HHD := Lib.hid (HHD.out.keep HB6.out))
      (try have HBL := Lib.hid (HBL.out.keep HB6.out))
      (try have HTR := Lib.hid (HTR.out.below HB6.out))
      clear HB6 HX6
      obtain ⟨W18, hW18⟩ : ∃ W18, W6.alloc (.cells #[.slice (some ⟨g6, 0, none⟩) 1 1, .slice at' 0 ct, .slice none 0 0, .slice none 0 0, .slice none 0 0, .slice none 0 0] 26) = W18 := ⟨_, rfl⟩
      obtain ⟨g18, hg18⟩ : ∃ g18, W6.heap.size = g18 := ⟨_, rfl⟩
      have HBL : Hid (Blk W18 g18 26 #[.slice (some ⟨g6, 0, none⟩) 1 1, .slice at' 0 ct, .slice none 0 0, .slice none 0 0, .slice none 0 0, .slice none 0 0]) := Lib.hid (by rw [← hW18]; exact Blk.new' hg18)
      have HB18 : Hid (Below W6.heap.size W6 W18) := Lib.hid (by rw [← hW18]; exact below1 _ _)
      have HX18 := Lib.hid (run_six26 W6 (some ⟨g6, 0, none⟩) at' none none none none 1 1 0 ct 0 0 0 0 0 0 0 0)
      rw [hW18, hg18] at HX18
      clear hW18 hg18
      refine takeV (i := 18) rfl (by kernel_rfl) (by rfl) (exec_run6 HX18.out rfl rfl rfl rfl rfl rfl rfl) ((HPS.out.keep HB18.out).sb) ?_
      (try simp only [Act.put, List.setIfInBounds_toArray, List.set_cons_zero, List.set_cons_succ])
      have hHeld : Hid (SB w W18) := (HPS.out.keep HB18.out).sb
      have HPS := Lib.hid (HPS.out.keep HB18.out)
      (try have HHD := Lib.hid (HHD.out.keep HB18.out))
      (try have HNR := Lib.hid (HNR.out.below HB18.out))
      (try have HTR := Lib.hid (HTR.out.below HB18.out))
      clear HB18 HX18
      refine takeC (i := 19) rfl (by kernel_rfl) (by rfl) (fun K hK => ?_)
      go_simp
      refine (rows_any w.heap.size (w.heap.size + 1) gw g18 [] headsL _ [[0], [], [], [], [], []] W18 HPS.out.bld HHD.out HBL.out rfl rfl (by decide) (zeroRows HNR.out HTR.out) (by decide) (by simp)).mono ?_
      rintro e W19 ⟨rfl, hp⟩
      have HBP := Lib.hid (BI.post (BI.start HPS.out.bld HPS.out.bel) hp)
      have HS19 : Hid (SB w W19) := Lib.hid ⟨blk_post HPS.out.s hp (by omega), blk_post HPS.out.t hp (by omega)⟩
      clear hp hHeld HHD HBL HTR HNR HPS
      refine hK.out _ _ HS19 (fun hHeld => ?_)
      clear hK K
      try simp only [Act.put, List.setIfInBounds_toArray, List.set_cons_zero, List.set_cons_succ]
      refine wpAnyH_done (by kernel_rfl) ?_ _
      refine NoPanic.normal ?_
      clear HS19
      rw [List.nil_append, emptyT_eq] at HBP
      obtain ⟨Wa, rfl⟩ : ∃ Wa : World, Wa = W19 := ⟨_, rfl⟩
      have HBJ : Hid (BI w w.heap.size (w.heap.size + 1) Wa emptyT Wa) := Lib.hid (BI.start HBP.out.bld HBP.out.bel)
      clear HBP
      have HSB := Lib.hid hHeld.out
      clear hHeld
      have c6 : Wa.cell? ⟨w.heap.size, 6, none⟩ = some (.slice none 0 0) := HSB.out.1.cell 6
      go_wp2_with fail
      refine (makeO_any none 0 0 Wa).mono ?_
      rintro e Wb ⟨rfl, hwb⟩
      have HB1 : Hid (BI w w.heap.size (w.heap.size + 1) Wa emptyT Wb) := Lib.hid (by rw [← hwb]; exact HBJ.out.below (below1 _ _))
      have hg1 : Wb.cell? ⟨Wa.heap.size, 0, none⟩ = some (.slice none 0 0) := by rw [← hwb, World.cell?_alloc_at _ _ _ _ rfl]; rfl
      clear hwb c6
      have HB1' : Hid (BI w w.heap.size (w.heap.size + 1) Wb emptyT Wb) := Lib.hid (BI.start HB1.out.bld HB1.out.bel)
      have hseq := eachO_stops (enc := fun x : C6 => x.val) (fun x => x.2.1) (fun x => x.2.2) 2 (by omega) Wa.heap.size w.heap.size (fun _ => False) (.slice none 0 0) [] Wb HB1.out.le hg1 (fun W' _ => Rd.nil W')
      clear hg1
      have hbz : w.heap.size ≤ Wb.heap.size := HB1.out.le
      go_wp2_with fail
      refine (wpIn_wide (n := 3)).1 ?_
      refine wpIn_rangeFunc_ownH rfl (by omega) (gf := 70) (lb := #[.pointer (some ⟨Wa.heap.size, 0, none⟩)]) rfl trivial (enters_of Try.func70 (by kernel_rfl) rfl) hseq (fun h k => KQ.trans h k) (KQ.put hbz (fun k hk => hk.elim)) (Below.refl _ _) (fun _ => rfl)
        (fun _ W => BI w w.heap.size (w.heap.size + 1) Wb emptyT W) (fun _ _ _ => False) (BI.own (f := fun _ : List C6 => emptyT) (Nat.le_refl _) hbz) (fun _ _ _ _ _ h _ _ => h) HB1'.out
        (fun _ _ _ => True) (fun _ _ _ _ _ _ _ _ _ => trivial) ?assign ?body ?done ?stop
      case assign =>
        rintro y pre x W K hI hK
        unfold encV
        gi_wp2_with (refine wpListIn_storeW W43 rfl rfl rfl x.val rfl x.2.1 x.2.2 rfl ?_)
        exact hK _ _ ((KeepsOthers.alloc _ _).from _) (KQ.of_below (below1 _ _) hI.le) (hI.below (below1 _ _)) trivial
      case body =>
        rintro y pre x a' W hl0 hr0 hI hA hlt
        exact absurd hlt (Nat.not_lt_zero _)
      case stop =>
        rintro DD c pre W hDD hp h hK
        exact h.elim
      case done =>
        rintro D1 ys W hD1 hys hI hK1
        have HI1 : Hid (BI w w.heap.size (w.heap.size + 1) Wb emptyT W) := hI
        have HS1 : Hid (SB w W) := Lib.hid (by
          have hk := HB1.out.ok.trans HI1.out.ok
          exact ⟨hk _ _ HSB.out.1 (by simp) (fun c fz e => by cases e), hk _ _ HSB.out.2 (by simp) (fun c fz e => by cases e)⟩)
        have HM1 : Hid (Marks w.heap.size W [{ target := .collected D1, args := #[] }]) := Lib.hid ((Marks.nil w.heap.size Wb).add (fun D hD => by
          refine HI1.out.ok D _ hD (fun e => ?_) (fun c fz e => by cases e)
          cases e
          obtain ⟨cs, fz, hb⟩ := HB1.out.bld.blk
          rw [hb] at hD; cases hD) hD1 (by omega) hK1)
        clear hseq hys hI hK1 HB1 HB1' HSB HBJ
        have HBJ : Hid (BI w w.heap.size (w.heap.size + 1) W emptyT W) := Lib.hid (BI.start HI1.out.bld HI1.out.bel)
        clear HI1
        have c7 : W.cell? ⟨w.heap.size, 7, none⟩ = some (.slice none 0 0) := HS1.out.1.cell 7
        go_wp2_with fail
        refine (makeF_any none 0 0 W).mono ?_
        rintro e Wc ⟨rfl, hwb⟩
        have HB1 : Hid (BI w w.heap.size (w.heap.size + 1) W emptyT Wc) := Lib.hid (by rw [← hwb]; exact HBJ.out.below (below1 _ _))
        have hg1 : Wc.cell? ⟨W.heap.size, 0, none⟩ = some (.slice none 0 0) := by rw [← hwb, World.cell?_alloc_at _ _ _ _ rfl]; rfl
        clear hwb c7
        have HB1' : Hid (BI w w.heap.size (w.heap.size + 1) Wc emptyT Wc) := Lib.hid (BI.start HB1.out.bld HB1.out.bel)
        have hseq := eachF_stops (enc := fun x : C7 => x.val) (fun x => x.2.1) (fun x => x.2.2) 2 (by omega) W.heap.size w.heap.size (fun _ => False) (.slice none 0 0) [] Wc HB1.out.le hg1 (fun W' _ => Rd.nil W')
        clear hg1
        have hbz2 : w.heap.size ≤ Wc.heap.size := HB1.out.le
        have HMC : Hid (Marks w.heap.size Wc [{ target := .collected D1, args := #[] }]) := Lib.hid (HM1.out.keep (fun D hD => by
          refine HB1.out.ok D _ hD (fun e => ?_) (fun c fz e => by cases e)
          cases e
          obtain ⟨cs, fz, hb⟩ := HBJ.out.bld.blk
          rw [hb] at hD; cases hD))
        go_wp2_with fail
        refine (wpIn_wide (n := 3)).1 ?_
        refine wpIn_rangeFunc_ownH rfl (by omega) (gf := 72) (lb := #[.pointer (some ⟨W.heap.size, 0, none⟩)]) rfl trivial (enters_of Try.func72 (by kernel_rfl) rfl) hseq (fun h k => KQ.trans h k) (KQ.put hbz2 (fun k hk => hk.elim)) (Below.refl _ _) (fun _ => rfl)
          (fun _ W => BI w w.heap.size (w.heap.size + 1) Wc emptyT W) (fun _ _ _ => False) (BI.own (f := fun _ : List C7 => emptyT) (Nat.le_refl _) hbz2) (fun _ _ _ _ _ h _ _ => h) HB1'.out
          (fun _ _ _ => True) (fun _ _ _ _ _ _ _ _ _ => trivial) ?assign ?body ?done ?stop
        case assign =>
          rintro y pre x W K hI hK
          unfold encV
          gi_wp2_with (refine wpListIn_storeW W39 rfl rfl rfl x.val rfl x.2.1 x.2.2 rfl ?_)
          exact hK _ _ ((KeepsOthers.alloc _ _).from _) (KQ.of_below (below1 _ _) hI.le) (hI.below (below1 _ _)) trivial
        case body =>
          rintro y pre x a' W hl0 hr0 hI hA hlt
          exact absurd hlt (Nat.not_lt_zero _)
        case stop =>
          rintro DD c pre W hDD hp h hK
          exact h.elim
        case done =>
          rintro D2 ys2 W2 hD2 hys2 hI2 hK2
          have HI2 : Hid (BI w w.heap.size (w.heap.size + 1) Wc emptyT W2) := hI2
          have HS2 : Hid (SB w W2) := Lib.hid (by
            have hk := HB1.out.ok.trans HI2.out.ok
            exact ⟨hk _ _ HS1.out.1 (by simp) (fun c fz e => by cases e), hk _ _ HS1.out.2 (by simp) (fun c fz e => by cases e)⟩)
          have HM2 : Hid (Marks w.heap.size W2 [{ target := .collected D2, args := #[] }, { target := .collected D1, args := #[] }]) := Lib.hid (HMC.out.add (fun D hD => by
            refine HI2.out.ok D _ hD (fun e => ?_) (fun c fz e => by cases e)
            cases e
            obtain ⟨cs, fz, hb⟩ := HB1.out.bld.blk
            rw [hb] at hD; cases hD) hD2 (by omega) hK2)
          clear hseq hys2 hI2 hK2 HB1 HB1' HS1 HMC HM1 HBJ
          have ct : W2.cell? ⟨w.heap.size + 2, 0, none⟩ = some (.pointer (some ⟨w.heap.size + 1, 0, none⟩)) := HS2.out.2.cell 0
          have HST := Lib.hid (string_any w.heap.size (w.heap.size + 1) emptyT W2 HI2.out.bld (by simp [emptyT]))
          have HBD := Lib.hid HI2.out.bld
          have HBE := Lib.hid HI2.out.bel
          clear HI2 HS2
          generalize emptyT = tx at *
          go_wp2_with fail
          refine HST.out.mono ?_
          rintro e W5 ⟨rfl, hb5, hk5⟩
          have HB5 := Lib.hid (HBE.out.trans hb5)
          have HMK5 := Lib.hid (HM2.out.keep (fun E hE => by
            refine hk5 E _ hE (fun e => ?_) (fun c fz e => by cases e)
            cases e
            obtain ⟨cs, fz, hb⟩ := HBD.out.blk
            rw [hb] at hE; cases hE))
          clear hb5 hk5 HST ct
          go_wp2
          obtain ⟨Ds, hd1, hd2, hd3⟩ := HMK5.out
          show LeavesInM _ _ _ _ _ _ [{ target := .collected D2, args := #[] }, { target := .collected D1, args := #[] }] _ _
          rw [hd2]
          exact leave_marks Ds _ hd1 hd3 (fun X hX => ⟨by simp [results, Try.f22, go_sem], HPO.out X (HB5.out.trans hX)⟩)
  · obtain ⟨W6, hW6⟩ : ∃ W6, W1.drew.alloc (.cells #[.int .i64 0] 3) = W6 := ⟨_, rfl⟩
    obtain ⟨g6, hg6⟩ : ∃ g6, W1.drew.heap.size = g6 := ⟨_, rfl⟩
    have HNR : Hid (NumsK w.heap.size W6 (.slice (some ⟨g6, 0, none⟩) 1 1) [0]) := Lib.hid (by rw [← hW6, ← hg6]; exact numsK_new _ _ 0 (by omega) (by omega))
    have HB6 : Hid (Below W1.drew.heap.size W1.drew W6) := Lib.hid (by rw [← hW6]; exact below1 _ _)
    have HX6 := Lib.hid (run_one3 W1.drew 0)
    rw [hW6, hg6] at HX6
    clear hW6 hg6
    unfold Oper.wp
    rw [exec_run1 HX6.out rfl rfl]
    refine hK.out _ _ ((HPS.out.keep HB6.out).sb) (fun hHeld => ?_)
    clear hK K
    (try simp only [Act.put, List.setIfInBounds_toArray, List.set_cons_zero, List.set_cons_succ])
    have HPS := Lib.hid (HPS.out.keep HB6.out)
    (try have HHD := Lib.hid (HHD.out.keep HB6.out))
    (try have HBL := Lib.hid (HBL.out.keep HB6.out))
    (try have HTR := Lib.hid (HTR.out.below HB6.out))
    clear HB6 HX6
    refine takeC (i := 3) rfl (by kernel_rfl) (by rfl) (fun K hK => ?_)
    go_simp
    refine (heads_any' _).mono ?_
    rintro e W3 ⟨⟨gw, rfl, hgw⟩, hb⟩
    have HPS := Lib.hid (HPS.out.keep hb)
    (try have HHD := Lib.hid (HHD.out.keep hb))
    (try have HBL := Lib.hid (HBL.out.keep hb))
    (try have HNR := Lib.hid (HNR.out.below hb))
    (try have HTR := Lib.hid (HTR.out.below hb))
    have HHD := Lib.hid hgw
    clear hgw
    clear hb hHeld
    refine hK.out _ _ HPS.out.sb (fun hHeld => ?_)
    clear hK K
    try simp only [Act.put, List.setIfInBounds_toArray, List.set_cons_zero, List.set_cons_succ]
    refine takeC (i := 9) rfl (by kernel_rfl) (by rfl) (fun K hK => ?_)
    go_simp
    refine (truths_none w.heap.size _).mono ?_
    rintro e W9 ⟨⟨at', ct, rfl, hvt⟩, hb⟩
    have HPS := Lib.hid (HPS.out.keep hb)
    (try have HHD := Lib.hid (HHD.out.keep hb))
    (try have HBL := Lib.hid (HBL.out.keep hb))
    (try have HNR := Lib.hid (HNR.out.below hb))
    (try have HTR := Lib.hid (HTR.out.below hb))
    have HTR : Hid (NumsK w.heap.size W9 (.slice at' 0 ct) []) := Lib.hid hvt
    clear hvt
    clear hb hHeld
    refine hK.out _ _ HPS.out.sb (fun hHeld => ?_)
    clear hK K
    try simp only [Act.put, List.setIfInBounds_toArray, List.set_cons_zero, List.set_cons_succ]
    obtain ⟨W18, hW18⟩ : ∃ W18, W9.alloc (.cells #[.slice (some ⟨g6, 0, none⟩) 1 1, .slice at' 0 ct, .slice none 0 0, .slice none 0 0, .slice none 0 0, .slice none 0 0] 26) = W18 := ⟨_, rfl⟩
    obtain ⟨g18, hg18⟩ : ∃ g18, W9.heap.size = g18 := ⟨_, rfl⟩
    have HBL : Hid (Blk W18 g18 26 #[.slice (some ⟨g6, 0, none⟩) 1 1, .slice at' 0 ct, .slice none 0 0, .slice none 0 0, .slice none 0 0, .slice none 0 0]) := Lib.hid (by rw [← hW18]; exact Blk.new' hg18)
    have HB18 : Hid (Below W9.heap.size W9 W18) := Lib.hid (by rw [← hW18]; exact below1 _ _)
    have HX18 := Lib.hid (run_six26 W9 (some ⟨g6, 0, none⟩) at' none none none none 1 1 0 ct 0 0 0 0 0 0 0 0)
    rw [hW18, hg18] at HX18
    clear hW18 hg18
    refine takeV (i := 18) rfl (by kernel_rfl) (by rfl) (exec_run6 HX18.out rfl rfl rfl rfl rfl rfl rfl) ((HPS.out.keep HB18.out).sb) ?_
    (try simp only [Act.put, List.setIfInBounds_toArray, List.set_cons_zero, List.set_cons_succ])
    have hHeld : Hid (SB w W18) := (HPS.out.keep HB18.out).sb
    have HPS := Lib.hid (HPS.out.keep HB18.out)
    (try have HHD := Lib.hid (HHD.out.keep HB18.out))
    (try have HNR := Lib.hid (HNR.out.below HB18.out))
    (try have HTR := Lib.hid (HTR.out.below HB18.out))
    clear HB18 HX18
    refine takeC (i := 19) rfl (by kernel_rfl) (by rfl) (fun K hK => ?_)
    go_simp
    refine (rows_any w.heap.size (w.heap.size + 1) gw g18 [] headsL _ [[0], [], [], [], [], []] W18 HPS.out.bld HHD.out HBL.out rfl rfl (by decide) (zeroRows HNR.out HTR.out) (by decide) (by simp)).mono ?_
    rintro e W19 ⟨rfl, hp⟩
    have HBP := Lib.hid (BI.post (BI.start HPS.out.bld HPS.out.bel) hp)
    have HS19 : Hid (SB w W19) := Lib.hid ⟨blk_post HPS.out.s hp (by omega), blk_post HPS.out.t hp (by omega)⟩
    clear hp hHeld HHD HBL HTR HNR HPS
    refine hK.out _ _ HS19 (fun hHeld => ?_)
    clear hK K
    try simp only [Act.put, List.setIfInBounds_toArray, List.set_cons_zero, List.set_cons_succ]
    refine wpAnyH_done (by kernel_rfl) ?_ _
    refine NoPanic.normal ?_
    clear HS19
    rw [List.nil_append, emptyT_eq] at HBP
    obtain ⟨Wa, rfl⟩ : ∃ Wa : World, Wa = W19 := ⟨_, rfl⟩
    have HBJ : Hid (BI w w.heap.size (w.heap.size + 1) Wa emptyT Wa) := Lib.hid (BI.start HBP.out.bld HBP.out.bel)
    clear HBP
    have HSB := Lib.hid hHeld.out
    clear hHeld
    have c6 : Wa.cell? ⟨w.heap.size, 6, none⟩ = some (.slice none 0 0) := HSB.out.1.cell 6
    go_wp2_with fail
    refine (makeO_any none 0 0 Wa).mono ?_
    rintro e Wb ⟨rfl, hwb⟩
    have HB1 : Hid (BI w w.heap.size (w.heap.size + 1) Wa emptyT Wb) := Lib.hid (by rw [← hwb]; exact HBJ.out.below (below1 _ _))
    have hg1 : Wb.cell? ⟨Wa.heap.size, 0, none⟩ = some (.slice none 0 0) := by rw [← hwb, World.cell?_alloc_at _ _ _ _ rfl]; rfl
    clear hwb c6
    have HB1' : Hid (BI w w.heap.size (w.heap.size + 1) Wb emptyT Wb) := Lib.hid (BI.start HB1.out.bld HB1.out.bel)
    have hseq := eachO_stops (enc := fun x : C6 => x.val) (fun x => x.2.1) (fun x => x.2.2) 2 (by omega) Wa.heap.size w.heap.size (fun _ => False) (.slice none 0 0) [] Wb HB1.out.le hg1 (fun W' _ => Rd.nil W')
    clear hg1
    have hbz : w.heap.size ≤ Wb.heap.size := HB1.out.le
    go_wp2_with fail
    refine (wpIn_wide (n := 3)).1 ?_
    refine wpIn_rangeFunc_ownH rfl (by omega) (gf := 70) (lb := #[.pointer (some ⟨Wa.heap.size, 0, none⟩)]) rfl trivial (enters_of Try.func70 (by kernel_rfl) rfl) hseq (fun h k => KQ.trans h k) (KQ.put hbz (fun k hk => hk.elim)) (Below.refl _ _) (fun _ => rfl)
      (fun _ W => BI w w.heap.size (w.heap.size + 1) Wb emptyT W) (fun _ _ _ => False) (BI.own (f := fun _ : List C6 => emptyT) (Nat.le_refl _) hbz) (fun _ _ _ _ _ h _ _ => h) HB1'.out
      (fun _ _ _ => True) (fun _ _ _ _ _ _ _ _ _ => trivial) ?assign ?body ?done ?stop
    case assign =>
      rintro y pre x W K hI hK
      unfold encV
      gi_wp2_with (refine wpListIn_storeW W43 rfl rfl rfl x.val rfl x.2.1 x.2.2 rfl ?_)
      exact hK _ _ ((KeepsOthers.alloc _ _).from _) (KQ.of_below (below1 _ _) hI.le) (hI.below (below1 _ _)) trivial
    case body =>
      rintro y pre x a' W hl0 hr0 hI hA hlt
      exact absurd hlt (Nat.not_lt_zero _)
    case stop =>
      rintro DD c pre W hDD hp h hK
      exact h.elim
    case done =>
      rintro D1 ys W hD1 hys hI hK1
      have HI1 : Hid (BI w w.heap.size (w.heap.size + 1) Wb emptyT W) := hI
      have HS1 : Hid (SB w W) := Lib.hid (by
        have hk := HB1.out.ok.trans HI1.out.ok
        exact ⟨hk _ _ HSB.out.1 (by simp) (fun c fz e => by cases e), hk _ _ HSB.out.2 (by simp) (fun c fz e => by cases e)⟩)
      have HM1 : Hid (Marks w.heap.size W [{ target := .collected D1, args := #[] }]) := Lib.hid ((Marks.nil w.heap.size Wb).add (fun D hD => by
        refine HI1.out.ok D _ hD (fun e => ?_) (fun c fz e => by cases e)
        cases e
        obtain ⟨cs, fz, hb⟩ := HB1.out.bld.blk
        rw [hb] at hD; cases hD) hD1 (by omega) hK1)
      clear hseq hys hI hK1 HB1 HB1' HSB HBJ
      have HBJ : Hid (BI w w.heap.size (w.heap.size + 1) W emptyT W) := Lib.hid (BI.start HI1.out.bld HI1.out.bel)
      clear HI1
      have c7 : W.cell? ⟨w.heap.size, 7, none⟩ = some (.slice none 0 0) := HS1.out.1.cell 7
      go_wp2_with fail
      refine (makeF_any none 0 0 W).mono ?_
      rintro e Wc ⟨rfl, hwb⟩
      have HB1 : Hid (BI w w.heap.size (w.heap.size + 1) W emptyT Wc) := Lib.hid (by rw [← hwb]; exact HBJ.out.below (below1 _ _))
      have hg1 : Wc.cell? ⟨W.heap.size, 0, none⟩ = some (.slice none 0 0) := by rw [← hwb, World.cell?_alloc_at _ _ _ _ rfl]; rfl
      clear hwb c7
      have HB1' : Hid (BI w w.heap.size (w.heap.size + 1) Wc emptyT Wc) := Lib.hid (BI.start HB1.out.bld HB1.out.bel)
      have hseq := eachF_stops (enc := fun x : C7 => x.val) (fun x => x.2.1) (fun x => x.2.2) 2 (by omega) W.heap.size w.heap.size (fun _ => False) (.slice none 0 0) [] Wc HB1.out.le hg1 (fun W' _ => Rd.nil W')
      clear hg1
      have hbz2 : w.heap.size ≤ Wc.heap.size := HB1.out.le
      have HMC : Hid (Marks w.heap.size Wc [{ target := .collected D1, args := #[] }]) := Lib.hid (HM1.out.keep (fun D hD => by
        refine HB1.out.ok D _ hD (fun e => ?_) (fun c fz e => by cases e)
        cases e
        obtain ⟨cs, fz, hb⟩ := HBJ.out.bld.blk
        rw [hb] at hD; cases hD))
      go_wp2_with fail
      refine (wpIn_wide (n := 3)).1 ?_
      refine wpIn_rangeFunc_ownH rfl (by omega) (gf := 72) (lb := #[.pointer (some ⟨W.heap.size, 0, none⟩)]) rfl trivial (enters_of Try.func72 (by kernel_rfl) rfl) hseq (fun h k => KQ.trans h k) (KQ.put hbz2 (fun k hk => hk.elim)) (Below.refl _ _) (fun _ => rfl)
        (fun _ W => BI w w.heap.size (w.heap.size + 1) Wc emptyT W) (fun _ _ _ => False) (BI.own (f := fun _ : List C7 => emptyT) (Nat.le_refl _) hbz2) (fun _ _ _ _ _ h _ _ => h) HB1'.out
        (fun _ _ _ => True) (fun _ _ _ _ _ _ _ _ _ => trivial) ?assign ?body ?done ?stop
      case assign =>
        rintro y pre x W K hI hK
        unfold encV
        gi_wp2_with (refine wpListIn_storeW W39 rfl rfl rfl x.val rfl x.2.1 x.2.2 rfl ?_)
        exact hK _ _ ((KeepsOthers.alloc _ _).from _) (KQ.of_below (below1 _ _) hI.le) (hI.below (below1 _ _)) trivial
      case body =>
        rintro y pre x a' W hl0 hr0 hI hA hlt
        exact absurd hlt (Nat.not_lt_zero _)
      case stop =>
        rintro DD c pre W hDD hp h hK
        exact h.elim
      case done =>
        rintro D2 ys2 W2 hD2 hys2 hI2 hK2
        have HI2 : Hid (BI w w.heap.size (w.heap.size + 1) Wc emptyT W2) := hI2
        have HS2 : Hid (SB w W2) := Lib.hid (by
          have hk := HB1.out.ok.trans HI2.out.ok
          exact ⟨hk _ _ HS1.out.1 (by simp) (fun c fz e => by cases e), hk _ _ HS1.out.2 (by simp) (fun c fz e => by cases e)⟩)
        have HM2 : Hid (Marks w.heap.size W2 [{ target := .collected D2, args := #[] }, { target := .collected D1, args := #[] }]) := Lib.hid (HMC.out.add (fun D hD => by
          refine HI2.out.ok D _ hD (fun e => ?_) (fun c fz e => by cases e)
          cases e
          obtain ⟨cs, fz, hb⟩ := HB1.out.bld.blk
          rw [hb] at hD; cases hD) hD2 (by omega) hK2)
        clear hseq hys2 hI2 hK2 HB1 HB1' HS1 HMC HM1 HBJ
        have ct : W2.cell? ⟨w.heap.size + 2, 0, none⟩ = some (.pointer (some ⟨w.heap.size + 1, 0, none⟩)) := HS2.out.2.cell 0
        have HST := Lib.hid (string_any w.heap.size (w.heap.size + 1) emptyT W2 HI2.out.bld (by simp [emptyT]))
        have HBD := Lib.hid HI2.out.bld
        have HBE := Lib.hid HI2.out.bel
        clear HI2 HS2
        generalize emptyT = tx at *
        go_wp2_with fail
        refine HST.out.mono ?_
        rintro e W5 ⟨rfl, hb5, hk5⟩
        have HB5 := Lib.hid (HBE.out.trans hb5)
        have HMK5 := Lib.hid (HM2.out.keep (fun E hE => by
          refine hk5 E _ hE (fun e => ?_) (fun c fz e => by cases e)
          cases e
          obtain ⟨cs, fz, hb⟩ := HBD.out.blk
          rw [hb] at hE; cases hE))
        clear hb5 hk5 HST ct
        go_wp2
        obtain ⟨Ds, hd1, hd2, hd3⟩ := HMK5.out
        show LeavesInM _ _ _ _ _ _ [{ target := .collected D2, args := #[] }, { target := .collected D1, args := #[] }] _ _
        rw [hd2]
        exact leave_marks Ds _ hd1 hd3 (fun X hX => ⟨by simp [results, Try.f22, go_sem], HPO.out X (HB5.out.trans hX)⟩)
end Go.Proofs.Ytkinhhkodaacjaa
namespace Go.Proofs.Ytkinhhkodaacjaa
open Go.RowKit Go.Shelf

theorem ins0_any (f : Value) (w : World) : Calls Try.prog 85 #[.slice none 0 0, .int .i64 0, .int .i64 0, f] w fun e w' => e = .returned (.tuple #[]) ∧ w = w' := by
  go_enter Try.func85, Try.ntmps85
  go_wp2_with fail
  go_loopw [8] (fun i wr => i = .int .i64 1 ∧ wr = w) (fun _ _ => 0)
  case atStart => exact ⟨rfl, rfl⟩
  case round =>
    obtain ⟨rfl, rfl⟩ := hrel
    go_wp2
    go_end0
    exact ⟨rfl, rfl⟩
theorem stab0_any (f : Fn) (a b : Array Value) (w : World) : Calls Try.prog 63 #[.slice none 0 0, .int .i64 0, .func f a b] w fun e w' => e = .returned (.tuple #[]) ∧ w = w' := by
  have HI := Lib.hid (ins0_any (.func f a b) w)
  go_enter Try.func63, Try.ntmps63
  go_wp2_with fail
  go_loopw [7, 8] (fun i j wr => i = .int .i64 0 ∧ j = .int .i64 20 ∧ wr = w) (fun _ _ _ => 0)
  case atStart => exact ⟨rfl, rfl, rfl⟩
  case round =>
    obtain ⟨rfl, rfl, rfl⟩ := hrel
    go_wp2_with fail
    refine HI.out.mono ?_
    rintro e w2 ⟨rfl, hw⟩
    subst hw
    go_wp2_with fail
    go_loopw [6] (fun i wz => i = .int .i64 20 ∧ wz = wr) (fun _ _ => 0)
    case atStart => exact ⟨rfl, rfl⟩
    case round =>
      obtain ⟨rfl, rfl⟩ := hrel
      go_wp2
      go_end0
      exact ⟨rfl, rfl⟩
theorem sort0_any (f : Fn) (a b : Array Value) (w : World) : Calls Try.prog 29 #[.slice none 0 0, .func f a b] w fun e w' => e = .returned (.tuple #[]) ∧ w = w' := by
  have HI := Lib.hid (stab0_any f a b w)
  go_enter Try.func29, Try.ntmps29
  go_wp2_with fail
  refine HI.out.mono ?_
  rintro e w2 ⟨rfl, hw⟩
  subst hw
  go_wp2
  go_end0
  exact ⟨rfl, rfl⟩
end Go.Proofs.Ytkinhhkodaacjaa
