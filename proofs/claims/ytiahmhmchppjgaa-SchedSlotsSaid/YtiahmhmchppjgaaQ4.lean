/- Contract: Total of the program (a range over a function). -/
import Derived.RangeFuncNested
import Derived.RangeFuncBound
import Derived.RangeFuncCalls
import Derived.RangeFuncLeaves
import Derived.Shelf.Abstract
import Derived.Shelf.RegionOpen
import Derived.OwnWalkIn
import Derived.TacticsInMore
import Derived.LoopNIn
import Derived.LoopIn
import Derived.Test.YtiahmhmchppjgaaQ3
namespace Go.Proofs.Ytiahmhmchppjgaa
open Go.RowKit Go.Shelf
open Sched (Sp bad)
attribute [local go_sem] Oper.semAt_some

theorem grown_of_below {w w' : World} (hb : Below w.heap.size w w') : w.grownBy w' none := ⟨hb.os, hb.tape, hb.output, hb.size, fun k hk _ => hb.block k hk⟩
/-- What a round keeps: whatever lay below n₀, and all blocks of cells but those of E. -/
def KQ (n₀ : Nat) (E : Nat → Prop) (A B : World) : Prop := Below n₀ A B ∧ ∀ b o, A.heap[b]? = some o → o.isCells = true → ¬ E b → B.heap[b]? = some o
section
variable {n₀ : Nat} {E : Nat → Prop} {A B C W : World}
theorem KQ.refl (A : World) : KQ n₀ E A A := ⟨Below.refl _ _, fun _ _ h _ _ => h⟩
theorem KQ.trans (h : KQ n₀ E A B) (k : KQ n₀ E B C) : KQ n₀ E A C := ⟨h.1.trans k.1, fun b o h1 h2 h3 => k.2 b o (h.2 b o h1 h2 h3) h2 h3⟩
theorem KQ.of_below (h : Below A.heap.size A B) (hn : n₀ ≤ A.heap.size) : KQ n₀ E A B :=
  ⟨h.mono hn, fun b o h1 _ _ => by rw [h.block b (Array.getElem?_eq_some_iff.1 h1).1]; exact h1⟩
theorem KQ.setCell {p : Addr} (h1 : n₀ ≤ p.block) (h2 : E p.block) (v : Value) : KQ n₀ E W (W.setCell p v) :=
  ⟨(Below.refl _ _).setCell h1 v, fun b o h3 _ h5 => by rw [Below.heap_setCell W p v b (fun e => h5 (e ▸ h2))]; exact h3⟩
theorem KQ.put {w : World} (hn : n₀ ≤ w.heap.size) (W : World) (l : Nat) (o o' : Obj) (hl : w.heap.size ≤ l) (h : W.heap[l]? = some o) (h1 : o.isCells = false) (h2 : o.isWalk = false) : KQ n₀ E W (W.putObj l o') :=
  ⟨belowK_b hn W l o o' hl h h1 h2, fun b p h3 h4 _ => by
    rw [World.putObj_heap_other (fun e => by subst e; rw [h] at h3; cases h3; rw [h1] at h4; cases h4)]; exact h3⟩
theorem KQ.own {base : Nat} {e : TypeId} {size : Nat} {v : Value} {n : Nat} {xs : List Value} (h : A.ownsRow base e size v n xs) (k : KQ n₀ E A B) (hE : ∀ b, base ≤ b → ¬ E b) : B.ownsRow base e size v n xs := by
  refine ⟨h.1, h.2.imp id ?_⟩
  rintro ⟨g, cap, cur, rfl, hg, hh, r⟩
  exact ⟨g, cap, cur, rfl, hg, k.2 g _ hh rfl (hE g hg), r⟩
end
def encY (x : Sp) : Array Value := #[.agg #[.int .i64 x.1, .int .i64 x.2]]

set_option maxRecDepth 100000 in
set_option maxHeartbeats 3200000 in
theorem together1_in (n : Nat) (hn : 1 ≤ n) (y g1 n₀ : Nat) (E : Nat → Prop) (v : Value) (l : List Sp) (J Jx : List Sp → World → Prop) (W : World) (hJ : AbidesFrom W.heap.size J)
    (hY : ∀ pre x W1, J pre W1 → pre.length < (nrmE l).length → YieldAt Fence.wide (n - 1) Try.prog y (encY x) W1 fun e W' =>
      (e = .returned (.bool true) ∧ J (pre ++ [x]) W' ∧ KQ n₀ E W1 W') ∨ (e = .returned (.bool false) ∧ Jx (pre ++ [x]) W'))
    (hn₀ : n₀ ≤ W.heap.size) (hE : ∀ b, W.heap.size ≤ b → ¬ E b) (h1 : W.cell? ⟨g1, 0, none⟩ = some v) (hL : Spans W v l) (h0 : J [] W) :
    CallsIn Fence.wide n Try.prog 49 #[.func (.yield y) #[] #[], .pointer (some ⟨g1, 0, none⟩)] W fun e W' => (∃ v, e = .returned v) ∧
      ((∃ xs, xs = nrmE l ∧ J xs W') ∨ (∃ pre, pre <+: nrmE l ∧ Jx pre W')) := by
  have hnm := norm_any l v W hL
  obtain ⟨a, cap, rfl, q1, q2, q3⟩ := hL.shape
  clear hL
  unfold NormPost at hnm
  generalize errE l = er at *
  generalize nrmE l = N at *
  have hg1 := World.block_lt_of_cell? _ _ h1
  refine callsIn_of_wp Try.func49 rfl trivial ?_ rfl
  simp only [Try.ntmps49, List.size_toArray, List.length_cons, List.length_nil, Nat.reduceAdd, Nat.reduceSub, Array.replicate_succ, Array.replicate_zero, List.push_toArray, List.append_toArray, List.nil_append, List.cons_append]
  gi_wp2_with (refine ⟨trivial, ?_⟩; gi_at_call 14; refine (callsIn_wide.2 hnm).mono ?_; rintro e w1 ⟨⟨v1, rfl, ho⟩, hb1⟩; obtain ⟨ao, co, rfl, hs1, hs2, hs3⟩ := owns_shape ho; have HO := Lib.hid ho; clear ho)
  have hJ1 : J [] w1 := hJ _ _ _ none h0 (grown_of_below hb1) (by simp)
  have hsz1 := hb1.size
  clear h0 hnm
  gi_loopw [14] (fun i wr => ∃ k : Nat, k ≤ N.length ∧ i = .int .i64 k ∧ J (N.take k) wr ∧ KQ n₀ E w1 wr ∧ w1.heap.size ≤ wr.heap.size)
    (fun i _ => N.length - (intOf i).toNat)
  case atStart => exact ⟨0, Nat.zero_le _, rfl, by simpa using hJ1, KQ.refl _, Nat.le_refl _⟩
  case round =>
    obtain ⟨k, hk, rfl, hJs, hnx, hsz⟩ := hrel
    by_cases hlt : k < N.length
    · obtain ⟨x, hx⟩ : ∃ x, N[k]? = some x := ⟨_, List.getElem?_eq_getElem hlt⟩
      obtain ⟨g, rfl, hg1, hg2⟩ := hs3 (by omega)
      obtain ⟨c1, c2⟩ := ownSp (KQ.own HO.out hnx hE) hlt
      have hgd : N.getD k (0, 0) = x := by simp [List.getD_eq_getElem?_getD, hx]
      rw [hgd] at c1 c2
      have HT : Hid (N.take (k + 1) = N.take k ++ [x]) := by
        show _ = _
        rw [List.take_succ_eq_append_getElem hlt, (List.getElem?_eq_some_iff.1 hx).2]
      have HP : Hid (N.take (k + 1) <+: N) := List.take_prefix _ _
      have htl : (N.take k).length < N.length := by rw [List.length_take]; omega
      obtain ⟨f, t⟩ := x
      simp only at c1 c2
      clear hgd hx
      have hal : Below wr.heap.size wr (wr.alloc (.cells #[.int .i64 f, .int .i64 t] 23)) := below1 wr _
      obtain ⟨fn, tmps, assign, body, hy, hR⟩ := hY _ (f, t) (wr.alloc (.cells #[.int .i64 f, .int .i64 t] 23)) (hJ _ _ _ none hJs (grown_of_below hal) (by simp)) htl
      unfold encY at hy
      clear htl
      generalize N.length = L at *
      gi_wp2
      refine hR.mono ?_
      rintro e W3 (⟨rfl, hJ3, hk3⟩ | ⟨rfl, hJx3⟩)
      · gi_wp2
        go_roundw
        case rel => exact ⟨k + 1, by omega, by go_num, by rw [HT.out]; exact hJ3, (hnx.trans (KQ.of_below hal (Nat.le_trans hn₀ (Nat.le_trans hsz1 hsz)))).trans hk3, Nat.le_trans hsz (Nat.le_trans hal.size hk3.1.size)⟩
        case measure => simp [intOf]; omega
      · gi_wp2
        refine bodyPost_ret (results_none rfl _ _ _) rfl ?_
        refine ⟨⟨_, rfl⟩, .inr ⟨_, ?_, hJx3⟩⟩
        have := HP.out
        rw [HT.out] at this
        exact this
    · obtain rfl : k = N.length := by omega
      rw [List.take_length] at hJs
      gi_wp2
      go_end0
      exact ⟨⟨_, rfl⟩, .inl ⟨_, rfl, hJs⟩⟩

theorem together_any (a : Option Addr) (L c : Nat) (w : World) :
    Calls Try.prog 45 #[.slice a L c] w fun e w' => e = .returned (.func (.func 49) #[] #[.pointer (some ⟨w.heap.size, 0, none⟩)]) ∧ w.alloc (.cells #[.slice a L c] 29) = w' := by
  go_enter Try.func45, Try.ntmps45
  go_wp2
  go_ret
  exact ⟨rfl, rfl⟩
theorem together_stops (n : Nat) (hn : 1 ≤ n) (g1 n₀ : Nat) (E : Nat → Prop) (v : Value) (l : List Sp) (w : World) (hn₀ : n₀ ≤ w.heap.size) (hE : ∀ b, w.heap.size ≤ b → ¬ E b) (h1 : w.cell? ⟨g1, 0, none⟩ = some v) (hL : Spans w v l) :
    SeqStopsK Fence.wide n Try.prog 49 #[.pointer (some ⟨g1, 0, none⟩)] encY (KQ n₀ E) (fun xs => xs = nrmE l) (fun pre => pre <+: nrmE l) (nrmE l).length w :=
  fun y J Jx W hW hJ _ hY h0 => together1_in n hn y g1 n₀ E v l J Jx W hJ hY (Nat.le_trans hn₀ hW.size) (fun b hb => hE b (Nat.le_trans hW.size hb)) (keepCell hW h1) (hL.below hW) h0

/-- The sum as the program reckons it. -/
def wts (l : List Sp) : Int := l.foldl (fun n s => wrap64 (n + wrap64 (s.2 - s.1))) 0
theorem wts_snoc (l : List Sp) (x : Sp) : wts (l ++ [x]) = wrap64 (wts l + wrap64 (x.2 - x.1)) := by
  unfold wts; rw [List.foldl_append]; rfl
theorem wts_tot {l : List Sp} (hl : l.length ≤ 1000) (h : ∀ s ∈ l, 0 ≤ s.1 ∧ s.2 ≤ 1099511627776 ∧ s.1 < s.2) : ∀ k, k ≤ l.length → wts (l.take k) = totTo l k
  | 0, _ => by simp [wts, totTo]
  | k + 1, hk => by
    have ih := wts_tot hl h k (by omega)
    obtain ⟨x, hx⟩ : ∃ x, l[k]? = some x := ⟨_, List.getElem?_eq_getElem (by omega)⟩
    have hb := h x (List.mem_of_getElem? hx)
    have h1 := totTo_bd h k (by omega)
    rw [totTo_step hx, List.take_succ_eq_append_getElem (by omega), (List.getElem?_eq_some_iff.1 hx).2, wts_snoc, ih, IntWalk.wrap64_in (x.2 - x.1) (by omega), IntWalk.wrap64_in _ (by omega)]

theorem total_end {w W : World} {D : Nat} {T : Int} {a0 : Act} (hD : w.heap.size ≤ D) (hK : W.heap[D]? = some (.deferred (some []))) (hB : Below w.heap.size w W)
    (ht : a0.tmps[2]? = some (.int .i64 T)) (hd : a0.defers = [{ target := .collected D, args := #[] }]) :
    bodyPostM Fence.wide 3 Try.prog Try.f34 (fun e w' => e = .returned (.int .i64 T) ∧ Below w.heap.size w w') Exit.ret a0 W := by
  obtain ⟨tmps, df⟩ := a0
  simp only at ht hd
  subst hd
  refine ⟨by simp, .inl ⟨_, _, rfl, run_takeDeferred hK, ?_⟩⟩
  exact ⟨.int .i64 T, by simp [results, Try.f34, go_sem, ht], rfl, hB.trans (belowK_b (w := w) (Nat.le_refl _) W D _ _ hD hK rfl rfl)⟩

set_option maxRecDepth 100000 in
set_option maxHeartbeats 1600000 in
theorem total_any (l : List Sp) (v : Value) (w : World) (h : Spans w v l) (hl : l.length ≤ 1000) : Calls Try.prog 34 #[v] w fun e w' => e = .returned (.int .i64 (tot l)) ∧ Below w.heap.size w w' := by
  have hlen := nrmE_len h.bd
  have HT : Hid (wts (nrmE l) = tot l) := by have := wts_tot (l := nrmE l) (by omega) nrmE_bd _ (Nat.le_refl _); rwa [List.take_length] at this
  have HS := Lib.hid h
  obtain ⟨a, c, rfl, q1, q2, q3⟩ := h.shape
  clear h
  refine (callsIn_wide (n := 3)).1 ?_
  refine callsIn_of_wp_marks Try.func34 rfl trivial ?_ rfl
  refine wpIn_wide.2 ?_
  simp only [Try.ntmps34, List.size_toArray, List.length_cons, List.length_nil, Nat.reduceAdd, Nat.reduceSub, Array.replicate_succ, Array.replicate_zero, List.push_toArray, List.append_toArray, List.nil_append, List.cons_append]
  go_wp2_with (go_at_call 45; refine (together_any _ _ _ _).mono ?_; rintro e w' ⟨rfl, rfl⟩)
  have hB0 := below2 w (.cells #[.int .i64 0] 2) (.cells #[.slice a l.length c] 29)
  have hN : Blk ((w.alloc (.cells #[.int .i64 0] 2)).alloc (.cells #[.slice a l.length c] 29)) w.heap.size 2 #[.int .i64 0] := (Blk.new' rfl).alloc _
  have hG : Blk ((w.alloc (.cells #[.int .i64 0] 2)).alloc (.cells #[.slice a l.length c] 29)) (w.heap.size + 1) 29 #[.slice a l.length c] := Blk.new' (by simp)
  have hsz : ((w.alloc (.cells #[.int .i64 0] 2)).alloc (.cells #[.slice a l.length c] 29)).heap.size = w.heap.size + 1 + 1 := by simp
  generalize (w.alloc (.cells #[.int .i64 0] 2)).alloc (.cells #[.slice a l.length c] 29) = W0 at *
  refine (wpIn_wide (n := 3)).1 ?_
  refine wpIn_rangeFunc_ownH rfl (by omega) (gf := 49) (lb := #[.pointer (some ⟨w.heap.size + 1, 0, none⟩)]) rfl trivial (enters_of Try.func49 (by kernel_rfl) rfl)
    (together_stops (3 - 1) (by omega) _ w.heap.size (fun b => b = w.heap.size) _ l W0 (by omega) (fun b hb => by omega) hG.one (HS.out.below hB0)) (fun h k => KQ.trans h k) (KQ.put (by omega)) (Below.refl _ _) (fun _ => rfl)
    (fun pre W => Blk W w.heap.size 2 #[.int .i64 (wts pre)] ∧ Below w.heap.size w W ∧ w.heap.size + 2 ≤ W.heap.size)
    (fun _ _ _ => False)
    (OwnFrom.and (Own.from (I := fun pre W => Blk W w.heap.size 2 #[.int .i64 (wts pre)]) (fun s A B row hs hg hr => Blk.own _ _ _ s A B row hs hg hr) _) (OwnFrom.and (ownFrom_below (Nat.le_refl _) (by omega)) (fun _ _ _ _ hs hg _ => Nat.le_trans hs hg.size)))
    (fun _ _ _ _ _ hs _ _ => hs)
    ⟨hN, hB0, by omega⟩
    (fun x a' W => ∃ bx, a' = { tmps := #[.slice a l.length c, undef, .int .i64 0, .pointer (some ⟨w.heap.size, 0, none⟩), .pointer (some ⟨bx, 0, none⟩), .slice a l.length c, .func (.func 49) #[] #[.pointer (some ⟨w.heap.size + 1, 0, none⟩)], .agg #[.int .i64 x.1, .int .i64 x.2], undef, undef, undef, undef, undef, undef, undef, undef], defers := [] } ∧ Blk W bx 23 #[.int .i64 x.1, .int .i64 x.2] ∧ w.heap.size + 2 ≤ bx)
    (fun x a' s A B row hs hg hr => by obtain ⟨bx, h1, h2, h3⟩ := hs; exact ⟨bx, h1, Blk.own _ _ _ s A B row h2 hg (fun r e => (hr r e).2), h3⟩)
    ?assign ?body ?done ?stop
  case assign =>
    rintro y pre x W K ⟨D0, hB, hs2⟩ hK
    unfold encY
    gi_wp2
    exact hK _ _ ((KeepsOthers.alloc _ _).from _) (KQ.of_below (below1 _ _) (by omega)) ⟨D0.alloc _, hB.trans ((below1 _ _).mono hB.size), by simp; omega⟩ ⟨W.heap.size, rfl, Blk.new' rfl, hs2⟩
  case body =>
    rintro y pre x a' W hl hr ⟨D0, hB, hs2⟩ ⟨bx, rfl, DX, hbx⟩ hlt
    have f0 := D0.frozen 0
    have c0 := D0.one
    have hlt0 := D0.lt
    have HD0 := Lib.hid D0
    have HWS := Lib.hid (wts_snoc pre x)
    obtain ⟨x0, x1⟩ := DX.two
    clear D0 DX hr hl
    obtain ⟨f, t⟩ := x
    simp only at x0 x1 HWS
    generalize wts pre = T at *
    gi_wp2
    refine ⟨(KeepsOthers.setCell _ _ _).from _, KQ.setCell (n₀ := w.heap.size) (E := fun b => b = w.heap.size) (p := ⟨w.heap.size, 0, none⟩) (Nat.le_refl _) rfl _, ?_, hB.setCell (p := ⟨w.heap.size, 0, none⟩) (Nat.le_refl _) _, by simpa using hs2⟩
    rw [HWS.out]
    simpa using HD0.out.set 0 (.int .i64 (wrap64 (T + wrap64 (t - f))))
  case done =>
    rintro D ys W hD rfl ⟨D0, hB, hs2⟩ hK
    have c0 := D0.one
    clear D0
    go_wp2
    rw [HT.out]
    exact total_end (by omega) hK hB rfl rfl
  case stop =>
    rintro D c pre W hD hp hx hK
    exact hx.elim
end Go.Proofs.Ytiahmhmchppjgaa
