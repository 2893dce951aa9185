/- Pop: the first event is taken. -/
import Derived.Test.YtbmnecdkjkffdaaE8
import Derived.Test.YtbmnecdkjkffdaaRes
namespace Go.Proofs.Ytbmnecdkjkffdaa
open Go.RowKit

def E0 : Ev := ⟨0, 0, 0, 0⟩
def PopNone (w : World) (e : Ending) (w' : World) : Prop := e = .returned (.tuple #[.agg (encE E0).toArray, .int .i64 4]) ∧ Below w.heap.size w w'
/-- What is there behind Pop. -/
def popL (l : List Ev) : List Ev := sinkL ((l.set 0 (ev l (l.length - 1))).take (l.length - 1)) 0
def PopSome (q : Nat) (sv : Value) (l : List Ev) (x : Ev) (w : World) (e : Ending) (w' : World) : Prop :=
  e = .returned (.tuple #[.agg (encE x).toArray, .int .i64 0]) ∧ ∃ sv', Qu w' q sv' (popL l) x.a ∧ QS w w' q sv sv'
/-- The row without its last place. -/
theorem owns_shrink {w : World} {base g n cap : Nat} {l : List Ev} (hl : l.length = n + 1) (h : w.ownsRow base 31 4 (.slice (some ⟨g, 0, none⟩) (n + 1) cap) (n + 1) (l.flatMap encE)) :
    w.ownsRow base 31 4 (.slice (some ⟨g, 0, none⟩) n cap) n ((l.take n).flatMap encE) := by
  rcases h.2 with ⟨h0, -⟩ | ⟨g', cap', cur, hv, hg, hh, q1, q2, q3, q4⟩
  · cases h0
  cases hv
  refine ⟨by rw [flat_len encE_len]; simp; omega, .inr ⟨g, cap, cur, rfl, hg, hh, by omega, q2, q3, ?_⟩⟩
  have e : (l.take n).flatMap encE = (l.flatMap encE).take (n * 4) := by
    have e1 : l.flatMap encE = (l.take n).flatMap encE ++ (l.drop n).flatMap encE := by rw [← List.flatMap_append, List.take_append_drop]
    have e2 : ((l.take n).flatMap encE).length = n * 4 := by rw [flat_len encE_len]; simp; omega
    rw [e1, ← e2, List.take_left']
    rfl
  rw [e, ← q4, List.take_take]
  congr 1
  omega
theorem qs_set {W0 W : World} {q i : Nat} {sv sv' v : Value} (h : QS W0 W q sv sv') : QS W0 (W.setCell ⟨q, i, none⟩ v) q sv sv' :=
  ⟨⟨h.k.os, h.k.tape, h.k.output, by simpa using h.k.size, fun k hk h1 h2 => (Below.heap_setCell _ _ _ k h1).trans (h.k.block k hk h1 h2)⟩, h.own⟩
theorem qs_row {W0 W W' : World} {q g b : Nat} {sv sv' : Value} (h : QS W0 W q sv sv') (hg : W.grownBy W' (some g)) (hb : sv.ownBlock = some b) (hgb : g = b ∨ W0.heap.size ≤ g) : QS W0 W' q sv sv' := by
  refine ⟨⟨hg.os.trans h.k.os, hg.tape.trans h.k.tape, hg.output.trans h.k.output, Nat.le_trans h.k.size hg.size, fun k hk h1 h2 => (hg.block k (Nat.lt_of_lt_of_le hk h.k.size) (fun e => ?_)).trans (h.k.block k hk h1 h2)⟩, h.own⟩
  cases e
  rcases hgb with e | e
  · subst e; exact h2 hb
  · omega
theorem own_setq {w : World} {q i : Nat} {v sv : Value} {n : Nat} {xs : List Value} (h : w.ownsRow (q + 1) 31 4 sv n xs) : (w.setCell ⟨q, i, none⟩ v).ownsRow (q + 1) 31 4 sv n xs :=
  h.kept (grownBy_setCell w ⟨q, i, none⟩ v) (.inr (ownsRow_ne h (Nat.lt_succ_self q)))
/-- All but one block is as it was. -/
theorem QS.far {W0 W W' : World} {q b : Nat} {sv sv' : Value} (h : QS W0 W q sv sv') (hg : W.grownBy W' (some b)) (hb : W0.heap.size ≤ b) : QS W0 W' q sv sv' :=
  ⟨⟨hg.os.trans h.k.os, hg.tape.trans h.k.tape, hg.output.trans h.k.output, Nat.le_trans h.k.size hg.size, fun k hk h1 h2 => (hg.block k (Nat.lt_of_lt_of_le hk h.k.size) (fun e => by cases e; omega)).trans (h.k.block k hk h1 h2)⟩, h.own⟩
theorem grown_setRow (w : World) (b : Nat) (cs : Array Value) : w.grownBy (w.setRow b cs) (some b) := ⟨rfl, rfl, rfl, by simp [World.setRow], fun k _ hk => setRow_other w b k _ (fun e => hk (by rw [e]))⟩
theorem wpList_storeW' {P : Program} {t : TypeId} {n : Nat} {w : World} {ops : Array Oper} {rest : List Oper} {o : Oper} {a : Act} {Q : Exit → Act → World → Prop} (h : Wide P t n) {x y : Operand} (ho : o.op = .store t x y) (hw : Region.wanted o (yielded ops a.tmps) = true) {g : Nat} {old : Array Value} {te : TypeId} (hg : Blk w g te old) (hx : a.eval x = .pointer (some ⟨g, 0, none⟩)) (cs : List Value) (hy : a.eval y = .agg cs.toArray) (hl : cs.length = n)
    (h1 : ∀ u ∈ cs, u.oneCell' = true) (ho' : old.size = n) (hK : ∀ W1, Blk W1 g te cs.toArray → w.grownBy W1 (some g) → wpList P ops Q rest (a.put o.dst undef) W1) : wpList P ops Q (o :: rest) a w :=
  wpList_skipped hw (exec_storeW h ho hx hy hl h1 hg ho') (hK _ (setRow_heap w g old cs.toArray te _ hg) (grown_setRow w g _))

theorem Qu.below {w w' : World} {q : Nat} {sv : Value} {l : List Ev} {now : Int} (h : Qu w q sv l now) (h' : Below w.heap.size w w') : Qu w' q sv l now := ⟨h.1.keep h', ow_below h.2 h'⟩
theorem QS.of_below {w w' : World} {q : Nat} {sv : Value} (h : Below w.heap.size w w') : QS w w' q sv sv := ⟨⟨h.os, h.tape, h.output, h.size, fun _ hk _ _ => h.block _ hk⟩, .inl rfl⟩
set_option maxRecDepth 100000 in
set_option maxHeartbeats 1600000 in
theorem pop_none (q : Nat) (sv : Value) (now : Int) (w : World) (h : Qu w q sv [] now) : Calls Try.prog 11 #[.pointer (some ⟨q, 0, none⟩)] w (PopNone w) := by
  have HP : Hid (∀ w', Below w.heap.size w w' → PopNone w (.returned (.tuple #[.agg (encE E0).toArray, .int .i64 4])) w') := fun w' hg => ⟨rfl, hg⟩
  have HG := Lib.hid ((Gw.refl w).alloc (.cells (encE E0).toArray 31))
  have HB : Hid (Blk (w.alloc (.cells (encE E0).toArray 31)) w.heap.size 31 (encE E0).toArray) := Blk.new' rfl
  have hq := h.gw HG.out
  obtain ⟨a, cap, rfl, hcap, hcm, -⟩ := owns_shape h.2
  have HM := Lib.hid (made_any q true _ now _ hq.1)
  have c1 : (w.alloc (.cells (encE E0).toArray 31)).cell? ⟨q, 1, none⟩ = some (.slice a ([] : List Ev).length cap) := hq.1.cell 1
  have HBW : Hid (∀ W1, (w.alloc (.cells (encE E0).toArray 31)).grownBy W1 (some w.heap.size) → Below w.heap.size w W1) := fun W1 hg => (below1 w _).grown hg (by simp) (fun k e => by cases e; exact Nat.le_refl _)
  clear h hq hcap
  go_enter Try.func11, Try.ntmps11
  go_upto_region 1 with fail
  change Code.wp _ _ _ _ (w.alloc (.cells (encE E0).toArray 31))
  generalize w.alloc (.cells (encE E0).toArray 31) = W0 at *
  go_wp2_with (first | (go_at_call 27; refine HM.out.mono ?_; go_must (rintro e w' ⟨rfl, rfl⟩)) | (refine wpList_storeW' W31 rfl rfl HB.out rfl (encE E0) rfl rfl (encE_one _) rfl ?_; intro W1 hb1 hg1; have HB1 := Lib.hid hb1; have HG1 := Lib.hid hg1; clear hb1 hg1 c1))
  refine bodyPost_ret (results_cell2 rfl W31 rfl (cs := encE E0) rfl HB1.out.list) rfl ?_
  exact HP.out _ (HBW.out _ HG1.out)
theorem blk_qk {w w' : World} {q b : Nat} {sv : Value} {t : TypeId} {cs : Array Value} (hk : QK w w' q sv) (h : Blk w b t cs) (h1 : b ≠ q) (h2 : sv.ownBlock ≠ some b) : Blk w' b t cs := (hk.block b h.lt h1 h2).trans h

set_option maxRecDepth 100000 in
set_option maxHeartbeats 1600000 in
theorem pop_some (q : Nat) (sv : Value) (l : List Ev) (now : Int) (x : Ev) (w : World) (h : Qu w q sv l now) (hl : l.length ≤ 16384) (hx : l[0]? = some x) :
    Calls Try.prog 11 #[.pointer (some ⟨q, 0, none⟩)] w (PopSome q sv l x w) := by
  have h0 : 0 < l.length := by
    cases l with
    | nil => simp at hx
    | cons _ _ => simp
  obtain ⟨m, hm⟩ : ∃ m, l.length = m + 1 := ⟨l.length - 1, by omega⟩
  have HP : Hid (∀ w' sv', Qu w' q sv' (sinkL ((l.set 0 (ev l m)).take m) 0) x.a → QS w w' q sv sv' → PopSome q sv l x w (.returned (.tuple #[.agg (encE x).toArray, .int .i64 0])) w') := fun w' sv' h1 h2 => by
    refine ⟨rfl, sv', ?_, h2⟩
    unfold popL
    rw [hm]
    exact h1
  have hy : l[m]? = some (ev l m) := ev_some (by omega)
  obtain ⟨y, hye⟩ : ∃ y, y = ev l m := ⟨_, rfl⟩
  rw [← hye] at HP hy
  clear hye
  obtain ⟨g, cap, n, rfl, hcap, hcm, hn⟩ := qu_shape h h0
  obtain rfl : n = m + 1 := by omega
  have HN : Hid (l.length = m + 1) := hm
  have hml : m ≤ 16383 := by omega
  have hgq : q + 1 ≤ g := (h.2.lt g rfl).1
  have hl2 := hl
  have HQ := Lib.hid h
  have hq0 : q < w.heap.size := h.1.lt
  have hgs : g < w.heap.size := (h.2.lt g rfl).2
  have HG0 := Lib.hid ((Gw.refl w).alloc (.cells (encE E0).toArray 31))
  have HB0 : Hid (Blk (w.alloc (.cells (encE E0).toArray 31)) w.heap.size 31 (encE E0).toArray) := Blk.new' rfl
  have HQ0 := Lib.hid (h.gw HG0.out)
  clear h hn hm hl hl2
  have hs0 : (w.alloc (.cells (encE E0).toArray 31)).heap.size = w.heap.size + 1 := by simp
  go_enter Try.func11, Try.ntmps11
  go_upto_region 1 with fail
  change Code.wp _ _ _ _ (w.alloc (.cells (encE E0).toArray 31))
  generalize w.alloc (.cells (encE E0).toArray 31) = W0 at *
  obtain ⟨b, hb⟩ : ∃ b, w.heap.size = b := ⟨_, rfl⟩
  rw [hb]
  rw [hb] at HB0 hq0 hgs hs0
  have HBS := Lib.hid hb
  have HS0 := Lib.hid hs0
  clear hb hs0
  have HM := Lib.hid (made_any q true _ now W0 HQ0.out.1)
  have cq1 : W0.cell? ⟨q, 1, none⟩ = some (.slice (some ⟨g, 0, none⟩) (m + 1) cap) := HQ0.out.1.cell 1
  have HX := Lib.hid (qu_at (by have := HN.out; omega) HQ0.out hx)
  simp only [Nat.zero_mul, Nat.zero_add] at HX
  have HX' : Hid (∀ j u, (encE x)[j]? = some u → W0.cell? ⟨g, 0 + j, none⟩ = some u) := fun j u hu => by rw [Nat.zero_add]; exact HX.out j u hu
  clear HX
  have HZ : Hid (W0.heap.size = b + 1) := HS0.out
  have hbz : b < W0.heap.size := by have := HZ.out; omega
  go_wp2_with (first | (go_at_call 27; refine HM.out.mono ?_; go_must (rintro e w' ⟨rfl, rfl⟩)) | (refine wpList_loadW W31 rfl rfl rfl (encE x) rfl HX'.out ?_) | (refine wpList_boxW W31 rfl rfl rfl (encE x) rfl rfl (encE_one x) rfl ?_; intro W1 hb1 hbel hsz1; have HB1 := Lib.hid hb1; have HE1 := Lib.hid hbel; have HZ1 := Lib.hid hsz1; clear hb1 hbel hsz1 cq1))
  obtain ⟨c, hc⟩ : ∃ c, W0.heap.size = c := ⟨_, rfl⟩
  rw [hc]
  rw [hc] at HB1 HZ1 HZ hbz
  have HC := Lib.hid hc
  clear hc
  have HQ1 := Lib.hid (HQ0.out.below HE1.out)
  have HS1 : Hid (QS w W1 q (.slice (some ⟨g, 0, none⟩) (m + 1) cap) (.slice (some ⟨g, 0, none⟩) (m + 1) cap)) := ((QS.refl _ _ _).gw HG0.out).trans (QS.of_below HE1.out)
  have HB2 := Lib.hid (HB0.out.keep HE1.out)
  have HM2 : Hid (w.heap.size ≤ b ∧ w.heap.size ≤ c) := by show _ ∧ _; have := HBS.out; have := HZ.out; omega
  have hcz : c < W1.heap.size := by have := HZ1.out; omega
  clear HE1 HM HX' HQ0 HG0 HB0 HC
  have hS : Hid (Blk W1.drew q 47 #[.bool true, (.slice (some ⟨g, 0, none⟩) (m + 1) cap), .int .i64 now]) := HQ1.out.1.keep (Below.refl _ _).drew
  have hQd : Qu W1.drew q (.slice (some ⟨g, 0, none⟩) (m + 1) cap) l now := HQ1.out.gw (Gw.refl _).drew
  have HYW := Lib.hid (qu_at (by have := HN.out; omega) hQd hy)
  have HO : Hid (W1.drew.ownsRow (q + 1) 31 4 (.slice (some ⟨g, 0, none⟩) (m + 1) cap) (m + 1) (l.flatMap encE)) := by have := hQd.2; rw [HN.out] at this; exact this
  have HB3 : Hid (Blk W1.drew b 31 (encE E0).toArray ∧ Blk W1.drew c 31 (encE x).toArray) := ⟨HB2.out.keep (Below.refl _ _).drew, HB1.out.keep (Below.refl _ _).drew⟩
  have HS2 := Lib.hid (HS1.out.gw (Gw.refl _).drew)
  clear hQd HB2 HB1 HQ1 HS1
  have hm1 : (m : Int) < (m : Int) + 1 := by omega
  go_upto_region 7 with fail
  refine wp_region_held_drew (S := fun X => Hid (Blk X q 47 #[.bool true, (.slice (some ⟨g, 0, none⟩) (m + 1) cap), .int .i64 now])) (by kernel_rfl) hS (fun hHeld => ?_)
  (refine takeW (i := 0) (v := ?_) rfl (by kernel_rfl) (by kernel_rfl) (by kernel_rfl) (fun _ _ _ h => h) (by rfl) (by assumption) ?_ ?_; rotate_left; (intro W hW; (try dsimp only at hW); go_simp; try with_reducible rfl); (try simp only [Act.put, List.setIfInBounds_toArray, List.set_cons_zero, List.set_cons_succ]))
  (refine takeW (i := 1) (v := ?_) rfl (by kernel_rfl) (by kernel_rfl) (by kernel_rfl) (fun _ _ _ h => h) (by rfl) (by assumption) ?_ ?_; rotate_left; (intro W hW; (try dsimp only at hW); go_simp; try with_reducible rfl); (try simp only [Act.put, List.setIfInBounds_toArray, List.set_cons_zero, List.set_cons_succ]))
  (refine takeW (i := 2) (v := ?_) rfl (by kernel_rfl) (by kernel_rfl) (by kernel_rfl) (fun _ _ _ h => h) (by rfl) (by assumption) ?_ ?_; rotate_left; (intro W hW; (try dsimp only at hW); go_simp; try with_reducible rfl); (try simp only [Act.put, List.setIfInBounds_toArray, List.set_cons_zero, List.set_cons_succ]))
  (refine takeW (i := 3) rfl (by kernel_rfl) (by kernel_rfl) (by kernel_rfl) (fun _ _ _ h => h) (by rfl) (by assumption) (fun W hW => exec_load1 (v := (.slice (some ⟨g, 0, none⟩) (m + 1) cap)) F22 rfl rfl (hW.out.cell 1)) ?_; (try simp only [Act.put, List.setIfInBounds_toArray, List.set_cons_zero, List.set_cons_succ]))
  (refine takeW (i := 4) (v := ?_) rfl (by kernel_rfl) (by kernel_rfl) (by kernel_rfl) (fun _ _ _ h => h) (by rfl) (by assumption) ?_ ?_; rotate_left; (intro W hW; (try dsimp only at hW); go_simp; try with_reducible rfl); (try simp only [Act.put, List.setIfInBounds_toArray, List.set_cons_zero, List.set_cons_succ]))
  (refine takeW (i := 5) (v := ?_) rfl (by kernel_rfl) (by kernel_rfl) (by kernel_rfl) (fun _ _ _ h => h) (by rfl) (by assumption) ?_ ?_; rotate_left; (intro W hW; (try dsimp only at hW); go_simp; try with_reducible rfl); (try simp only [Act.put, List.setIfInBounds_toArray, List.set_cons_zero, List.set_cons_succ]))
  (refine takeW (i := 6) (v := ?_) rfl (by kernel_rfl) (by kernel_rfl) (by kernel_rfl) (fun _ _ _ h => h) (by rfl) (by assumption) ?_ ?_; rotate_left; (intro W hW; (try dsimp only at hW); go_simp; try with_reducible rfl); (try simp only [Act.put, List.setIfInBounds_toArray, List.set_cons_zero, List.set_cons_succ]))
  (refine takeW (i := 7) rfl (by kernel_rfl) (by kernel_rfl) (by kernel_rfl) (fun _ _ _ h => h) (by rfl) (by assumption) (fun W hW => exec_load1 (v := (.slice (some ⟨g, 0, none⟩) (m + 1) cap)) F22 rfl rfl (hW.out.cell 1)) ?_; (try simp only [Act.put, List.setIfInBounds_toArray, List.set_cons_zero, List.set_cons_succ]))
  (refine takeW (i := 8) (v := ?_) rfl (by kernel_rfl) (by kernel_rfl) (by kernel_rfl) (fun _ _ _ h => h) (by rfl) (by assumption) ?_ ?_; rotate_left; (intro W hW; (try dsimp only at hW); go_simp; try with_reducible rfl); (try simp only [Act.put, List.setIfInBounds_toArray, List.set_cons_zero, List.set_cons_succ]))
  (refine takeW (i := 9) (v := ?_) rfl (by kernel_rfl) (by kernel_rfl) (by kernel_rfl) (fun _ _ _ h => h) (by rfl) (by assumption) ?_ ?_; rotate_left; (intro W hW; (try dsimp only at hW); go_simp; try with_reducible rfl); (try simp only [Act.put, List.setIfInBounds_toArray, List.set_cons_zero, List.set_cons_succ]))
  refine takeV (i := 10) rfl (by kernel_rfl) (by rfl) (exec_loadW W31 rfl rfl (cs := encE y) rfl HYW.out) (hHeld) ?_
  (try simp only [Act.put, List.setIfInBounds_toArray, List.set_cons_zero, List.set_cons_succ])
  have hHeld : Hid (Blk W1.drew q 47 #[.bool true, (.slice (some ⟨g, 0, none⟩) (m + 1) cap), .int .i64 now]) := hHeld
  (refine takeW (i := 11) (v := ?_) rfl (by kernel_rfl) (by kernel_rfl) (by kernel_rfl) (fun _ _ _ h => h) (by rfl) (by assumption) ?_ ?_; rotate_left; (intro W hW; (try dsimp only at hW); go_simp; try with_reducible rfl); (try simp only [Act.put, List.setIfInBounds_toArray, List.set_cons_zero, List.set_cons_succ]))
  refine takeStoreOwn (i := 12) W31 encE_len encE_one rfl (by kernel_rfl) (by rfl) rfl (L := l) HN.out HO.out (k := 0) (by rfl) rfl (by omega) ?_
  intro W4 ho hg4
  have hb := Lib.hid (hHeld.out.kept hg4 (by simp; omega))
  refine ⟨hb, ?_⟩
  clear hHeld
  have hHeld := hb
  clear hb
  have HO4 := Lib.hid ho
  clear ho
  try simp only [Act.put]
  refine wpAnyH_done (by kernel_rfl) ?_ _
  have HS4 := Lib.hid (qs_row HS2.out hg4 rfl (.inl rfl))
  have HB4 : Hid (Blk W4 b 31 (encE E0).toArray ∧ Blk W4 c 31 (encE x).toArray) := ⟨HB3.out.1.kept hg4 (by simp; omega), HB3.out.2.kept hg4 (by simp; omega)⟩
  have HQ5 : Hid (Qu (W4.setCell ⟨q, 1, none⟩ (.slice (some ⟨g, 0, none⟩) m cap)) q (.slice (some ⟨g, 0, none⟩) m cap) ((l.set 0 y).take m) now) := by
    have e : ((l.set 0 y).take m).length = m := by rw [List.length_take, List.length_set, HN.out]; omega
    refine ⟨hHeld.out.set 1 _, ?_⟩
    rw [e]
    exact own_setq (owns_shrink (by rw [List.length_set]; exact HN.out) HO4.out)
  have HS5 : Hid (QS w (W4.setCell ⟨q, 1, none⟩ (.slice (some ⟨g, 0, none⟩) m cap)) q (.slice (some ⟨g, 0, none⟩) (m + 1) cap) (.slice (some ⟨g, 0, none⟩) m cap)) := ⟨(qs_set HS4.out).k, .inl rfl⟩
  have HB5 : Hid (Blk (W4.setCell ⟨q, 1, none⟩ (.slice (some ⟨g, 0, none⟩) m cap)) b 31 (encE E0).toArray ∧ Blk (W4.setCell ⟨q, 1, none⟩ (.slice (some ⟨g, 0, none⟩) m cap)) c 31 (encE x).toArray) := ⟨HB4.out.1.far (by simp; omega) _, HB4.out.2.far (by simp; omega) _⟩
  have cq4 : W4.cell? ⟨q, 1, none⟩ = some (.slice (some ⟨g, 0, none⟩) (m + 1) cap) := hHeld.out.cell 1
  have fq4 : W4.frozen? ⟨q, 1, none⟩ = false := hHeld.out.frozen 1
  go_upto_region 9 with fail
  clear cq4 fq4 HB4 HS4 hg4 HB3 HS2 HO4
  generalize (W4.setCell ⟨q, 1, none⟩ (.slice (some ⟨g, 0, none⟩) m cap)) = W5 at *
  go_upto_region 11 with (first | (go_at_call 28; refine (sink_any q _ _ now 0 W5 HQ5.out (by omega) (by rw [List.length_take, List.length_set]; omega)).mono ?_; go_must (rintro e w6 ⟨rfl, hq6, hk6⟩; have HQ6 := Lib.hid hq6; have HK6 := Lib.hid hk6; clear hq6 hk6; have HB6 : Hid (Blk w6 b 31 (encE E0).toArray ∧ Blk w6 c 31 (encE x).toArray) := ⟨blk_qk HK6.out HB5.out.1 (by omega) (by simp [Value.ownBlock]; omega), blk_qk HK6.out HB5.out.2 (by omega) (by simp [Value.ownBlock]; omega)⟩; have HS6 : Hid (QS w w6 q (.slice (some ⟨g, 0, none⟩) (m + 1) cap) (.slice (some ⟨g, 0, none⟩) m cap)) := HS5.out.trans ⟨HK6.out, .inl rfl⟩; have ce : w6.cell? ⟨c, 0, none⟩ = some (.int .i64 x.a) := HB6.out.2.list0 rfl; have cq6 : w6.cell? ⟨q, 2, none⟩ = some (.int .i64 now) := HQ6.out.1.cell 2; have fq6 : w6.frozen? ⟨q, 2, none⟩ = false := HQ6.out.1.frozen 2; clear HQ5 HS5 HB5 HK6)))
  clear ce cq6 fq6
  have HQ7 : Hid (Qu (w6.setCell ⟨q, 2, none⟩ (.int .i64 x.a)) q (.slice (some ⟨g, 0, none⟩) m cap) (sinkL ((l.set 0 y).take m) 0) x.a) := ⟨HQ6.out.1.set 2 _, own_setq HQ6.out.2⟩
  have HS7 : Hid (QS w (w6.setCell ⟨q, 2, none⟩ (.int .i64 x.a)) q (.slice (some ⟨g, 0, none⟩) (m + 1) cap) (.slice (some ⟨g, 0, none⟩) m cap)) := qs_set HS6.out
  have HB7 : Hid (Blk (w6.setCell ⟨q, 2, none⟩ (.int .i64 x.a)) b 31 (encE E0).toArray ∧ Blk (w6.setCell ⟨q, 2, none⟩ (.int .i64 x.a)) c 31 (encE x).toArray) := ⟨HB6.out.1.far (by simp; omega) _, HB6.out.2.far (by simp; omega) _⟩
  clear HQ6 HS6 HB6
  generalize w6.setCell ⟨q, 2, none⟩ (.int .i64 x.a) = W7 at *
  go_wp2_with (first | (refine wpList_loadW W31 rfl rfl rfl (encE x) rfl HB7.out.2.list ?_) | (refine wpList_storeW' W31 rfl rfl HB7.out.1 rfl (encE x) rfl rfl (encE_one _) rfl ?_; intro W8 hb8 hg8; have HB8 := Lib.hid hb8; have HG8 := Lib.hid hg8; clear hb8 hg8))
  refine bodyPost_ret (results_cell2 rfl W31 rfl (cs := encE x) rfl HB8.out.list) rfl ?_
  refine HP.out _ _ ?_ (HS7.out.far HG8.out HM2.out.1)
  exact ⟨HQ7.out.1.kept HG8.out (by simp; omega), HQ7.out.2.kept HG8.out (.inr (by simp [Value.ownBlock]; omega))⟩
end Go.Proofs.Ytbmnecdkjkffdaa
