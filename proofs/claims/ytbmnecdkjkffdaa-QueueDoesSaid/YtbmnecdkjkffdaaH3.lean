/- Drop: all of a node are taken. -/
import Derived.Test.YtbmnecdkjkffdaaH1
import Derived.OwnWalkIn
import Derived.Deep.DeepMust
namespace Go.Proofs.Ytbmnecdkjkffdaa
open Go.RowKit Go.Shelf
attribute [local go_sem] Oper.semAt_some

/-- What is there behind Drop. -/
def keepL (S : List Ev) (node : Int) : List Ev := S.filter (fun e => !(e.n == node))
def dropL (h : List Ev) (node : Int) : List Ev := newL (keepL (sortE h) node)
def DropPost (q : Nat) (sv : Value) (h : List Ev) (now node : Int) (w : World) (e : Ending) (w' : World) : Prop :=
  e = .returned (.int .i64 ((h.length : Int) - (dropL h node).length)) ∧ ∃ sv', Qu w' q sv' (dropL h node) now ∧ QK w w' q sv ∧ ∀ g, sv'.ownBlock = some g → w.heap.size ≤ g
/-- Between two rounds: the box bx with the row of what came so far. -/
def DropI (w : World) (bx : Nat) (pre : List Ev) (W : World) : Prop :=
  Below w.heap.size w W ∧ ∃ v, Blk W bx 22 #[v] ∧ W.ownsRow (w.heap.size + 1) 31 4 v pre.length (pre.flatMap encE) ∧ v.ownBlock ≠ some bx
theorem DropI.own (w : World) (bx B : Nat) (hB : w.heap.size ≤ B) : OwnFrom B (DropI w bx) := fun s A A' row hs hg hr => by
  obtain ⟨h2, v, h4, h5, h6⟩ := hs
  refine ⟨h2.grown hg h2.size (fun k e => Nat.le_trans hB (hr k e).1), v, h4.kept hg (fun e => ?_), h5.kept hg ?_, h6⟩
  · obtain ⟨_, o, ho, hc⟩ := hr bx e.symm
    rw [show A.heap[bx]? = _ from h4] at ho; cases ho; cases hc
  · rcases h5.2 with ⟨rfl, _⟩ | ⟨g, cap, cur, rfl, _, hgb, _⟩
    · exact .inl rfl
    · refine .inr fun e' => ?_
      obtain ⟨_, o, ho, hw⟩ := hr g (by simpa [Value.ownBlock] using e'.symm)
      rw [hgb] at ho; cases ho; cases hw
theorem drop_end {w W : World} {D q : Nat} {sv sv' : Value} {h : List Ev} {now node : Int} {r : Int} {a0 : Act} (hD : w.heap.size ≤ D) (hK : W.heap[D]? = some (.deferred (some []))) (hq : Qu W q sv' (dropL h node) now) (hk : QK w W q sv) (hsv : ∀ g, sv'.ownBlock = some g → w.heap.size ≤ g)
    (hr : r = (h.length : Int) - (dropL h node).length) (ht : a0.tmps[4]? = some (.int .i64 r)) (hd : a0.defers = [{ target := .collected D, args := #[] }]) :
    bodyPostM Fence.wide 3 Try.prog Try.f18 (DropPost q sv h now node w) Exit.ret a0 W := by
  obtain ⟨tmps, df⟩ := a0
  simp only at ht hd
  subst hd hr
  refine ⟨by simp, .inl ⟨_, _, rfl, run_takeDeferred hK, ?_⟩⟩
  have hB := belowK_b (w := w) (Nat.le_refl _) W D _ (.deferred none) hD hK rfl rfl
  have hgr := grownBy_putObj' W D (.deferred none)
  have hqD : q ≠ D := fun e => by
    subst e
    rw [show W.heap[q]? = _ from hq.1] at hK
    cases hK
  refine ⟨_, by simp [results, Try.f18, go_sem, ht], rfl, sv', ⟨hq.1.kept hgr (by simpa using hqD), hq.2.kept hgr ?_⟩, ?_⟩
  · rcases hq.2.2 with ⟨rfl, _⟩ | ⟨g, cap, cur, rfl, _, hgb, _⟩
    · exact .inl rfl
    · refine .inr fun e' => ?_
      have : g = D := by simpa [Value.ownBlock] using e'
      subst this; rw [hgb] at hK; cases hK
  · refine ⟨?_, hsv⟩
    exact ⟨hB.os.trans hk.os, hB.tape.trans hk.tape, hB.output.trans hk.output, Nat.le_trans hk.size hB.size, fun k hk1 h1 h2 => (hB.block k hk1).trans (hk.block k hk1 h1 h2)⟩
theorem rd_qs {W W' : World} {q : Nat} {sv sv' v : Value} {l : List Ev} (h : Rd encE 4 W v l) (hs : QS W W' q sv sv') (hne : ∀ b o n c, v = .slice (some ⟨b, o, none⟩) n c → b ≠ q ∧ sv.ownBlock ≠ some b) : Rd encE 4 W' v l := by
  obtain ⟨a, cap, rfl, q1, q2, q3, q5, q4⟩ := h
  refine ⟨a, cap, rfl, q1, q2, q3, q5, q4.imp id ?_⟩
  rintro ⟨b, off, rfl, hlt, hc⟩
  obtain ⟨k1, k2⟩ := hne _ _ _ _ rfl
  exact ⟨b, off, rfl, Nat.lt_of_lt_of_le hlt hs.k.size, fun j x hj i u hu => by
    rw [World.cell?_of_block (hs.k.block b hlt k1 k2)]
    exact hc j x hj i u hu⟩
/-- How far the second loop has come. -/
def DropJ (q : Nat) (now node : Int) (S : List Ev) (Wd : World) (k : Nat) (W : World) : Prop := ∃ sv, Qu W q sv (newL (keepL (S.take k) node)) now ∧ QS Wd W q (.slice none 0 0) sv
set_option maxRecDepth 100000 in
set_option maxHeartbeats 3200000 in
theorem drop_any (q : Nat) (sv : Value) (h : List Ev) (now node : Int) (w : World) (hq : Qu w q sv h now) (hl : h.length ≤ 16384) :
    Calls Try.prog 18 #[.pointer (some ⟨q, 0, none⟩), .int .i64 node] w (DropPost q sv h now node w) := by
  have HQ := Lib.hid hq
  have HLH := Lib.hid hl
  obtain ⟨oa, oc, rfl, hoc, hocm, -⟩ := owns_shape hq.2
  have hm := made_any q true _ now w hq.1
  have cq : w.cell? ⟨q, 1, none⟩ = some (.slice oa h.length oc) := hq.1.cell 1
  have hq0 : q < w.heap.size := hq.1.lt
  clear hq
  refine (callsIn_wide (n := 3)).1 ?_
  refine callsIn_of_wp_marks Try.func18 rfl trivial ?_ rfl
  refine wpIn_wide.2 ?_
  simp only [Try.ntmps18, List.size_toArray, List.length_cons, List.length_nil, Nat.reduceAdd, Nat.reduceSub, Array.replicate_succ, Array.replicate_zero, List.push_toArray, List.append_toArray, List.nil_append, List.cons_append]
  obtain ⟨n, hn⟩ : ∃ n, n = h.length := ⟨_, rfl⟩
  rw [← hn] at hl hoc cq
  have HN := Lib.hid hn
  rw [← hn] at HQ
  clear hn
  go_wp2_with (go_at_call 27; refine hm.mono ?_; rintro e w' ⟨rfl, rfl⟩)
  refine (all_any (some ⟨q, 0, none⟩) w).mono ?_
  rintro e w1 ⟨rfl, hw1⟩
  have B1 : Hid (Below w.heap.size w w1) := by rw [← hw1]; exact below1 _ _
  have X1 : Hid (Blk w1 w.heap.size 25 #[.pointer (some ⟨q, 0, none⟩)]) := by rw [← hw1]; exact Blk.new' rfl
  have hz1 : w1.heap.size = w.heap.size + 1 := by rw [← hw1]; simp
  have Z1 := Lib.hid hz1
  clear hm hw1 cq hz1
  obtain ⟨inf, hi1, hi2, hi3, hi4⟩ := info_parts E22.info
  have HI := Lib.hid (And.intro hi1 (And.intro hi2 (And.intro hi3 hi4)))
  clear hi1 hi2 hi3 hi4
  go_upto_region 6 with ((with_reducible show wpList _ _ _ (Oper.mk (some 22) _ _ _ _ _ :: _) _ _); refine wpList_make_own _ rfl _ _ 22 rfl (w.heap.size + 1) 31 inf zE 4 Try.underlying22 HI.out.1 HI.out.2.1 HI.out.2.2.1 .i64 .i64 _ n rfl rfl rfl (by rw [HI.out.2.2.2]; omega) (by unfold maxLen; omega) (by have := Z1.out; omega) ?_; intro w2 ho2 hg2; have HO2 := Lib.hid ho2; have HG2 := Lib.hid hg2; clear ho2 hg2)
  have HB2 : Hid (Below w.heap.size w w2) := B1.out.grown HG2.out (by have := Z1.out; omega) (fun k e => by cases e)
  have X2 := Lib.hid (X1.out.kept HG2.out (by simp))
  have hzz : w1.heap.size < w2.heap.size := (HO2.out.lt w1.heap.size rfl).2
  obtain ⟨b1, hb1⟩ : ∃ b1, w1.heap.size = b1 := ⟨_, rfl⟩
  rw [hb1] at HO2 hzz ⊢
  have hb1z : b1 = w.heap.size + 1 := by rw [← hb1]; exact Z1.out
  have HB1Z := Lib.hid hb1z
  clear hb1 hb1z HG2 HI X1 B1 Z1
  have HB3 : Hid (Below w.heap.size w (w2.alloc (.cells #[.slice (some ⟨b1, 0, none⟩) 0 n] 22))) := HB2.out.alloc HB2.out.size _
  have HX3 : Hid (Blk (w2.alloc (.cells #[.slice (some ⟨b1, 0, none⟩) 0 n] 22)) w2.heap.size 22 #[.slice (some ⟨b1, 0, none⟩) 0 n]) := Blk.new' rfl
  have X3 := Lib.hid (X2.out.alloc (.cells #[.slice (some ⟨b1, 0, none⟩) 0 n] 22))
  have HO3 := Lib.hid (HO2.out.alloc (.cells #[.slice (some ⟨b1, 0, none⟩) 0 n] 22))
  go_wp2
  generalize w2.alloc (.cells #[.slice (some ⟨b1, 0, none⟩) 0 n] 22) = W0 at *
  obtain ⟨bx, hbx⟩ : ∃ bx, w2.heap.size = bx := ⟨_, rfl⟩
  rw [hbx] at HX3 hzz ⊢
  have HBX := Lib.hid hbx
  have hbxw : w.heap.size < bx := by have := HB1Z.out; omega
  have hbx0 : bx < W0.heap.size := HX3.out.lt
  clear hbx HB2 X2 HO2
  have h0 : DropI w bx [] W0 := ⟨HB3.out, _, HX3.out, HO3.out, by simp [Value.ownBlock]; omega⟩
  refine (wpIn_wide (n := 3)).1 ?_
  refine wpIn_rangeFunc_ownH rfl (by omega) (gf := 29) (lb := #[.pointer (some ⟨w.heap.size, 0, none⟩)]) rfl trivial (enters_of Try.func29 (by kernel_rfl) rfl) (encs := encQ) (S := fun xs => xs = sortE h) (Sp := fun pre => pre <+: sortE h) (N := h.length) (w0 := W0)
    (fun y J Jx W1 hW hJ _ hY h0 => all1_in 2 (by omega) y w.heap.size w.heap.size bx q _ h now J Jx W1 hJ hY (Nat.le_trans HB3.out.size hW.size) (keepCell hW (X3.out.cell 0)) ((HQ.out.below HB3.out).below hW) HLH.out
      ⟨_, keepCell hW (HX3.out.cell 0), fun g e => by have := hW.size; simp [Value.ownBlock] at e; omega⟩ h0)
    (fun h k => KT.trans h k) (KT.put (by have := HB3.out.size; omega)) (Below.refl _ _) (fun _ => rfl)
    (DropI w bx) (fun _ _ _ => False) (DropI.own w bx _ HB3.out.size) (fun _ _ _ _ _ hs _ _ => hs) h0
    (fun x a' W => ∃ be, a' = { tmps := #[.pointer (some ⟨q, 0, none⟩), .int .i64 node, undef, undef, .int .i64 0, .int .i64 n, .func (.func 29) #[] #[.pointer (some ⟨w.heap.size, 0, none⟩)], .pointer (some ⟨bx, 0, none⟩), .pointer (some ⟨be, 0, none⟩), undef, undef, .pointer (some ⟨q, 0, none⟩), .bool true, .bool false, .pointer (some ⟨q, 0, none⟩), .pointer (some ⟨q, 0, none⟩), .pointer (some ⟨q, 1, none⟩), .slice oa n oc, .int .i64 n, .pointer (some ⟨q, 0, none⟩), .func (.func 29) #[] #[.pointer (some ⟨w.heap.size, 0, none⟩)], .int .i64 n, .slice (some ⟨b1, 0, none⟩) 0 n, .func (.func 29) #[] #[.pointer (some ⟨w.heap.size, 0, none⟩)], .agg (encE x).toArray, undef, undef, undef, undef, undef, undef, undef, undef, undef, undef, undef, undef, undef, undef, undef, undef, undef, undef, undef, undef, undef, undef, undef, undef, undef, undef, undef, undef, undef, undef, undef, undef, undef, undef, undef, undef, undef, undef, undef, undef, undef, undef, undef], defers := [] } ∧ Blk W be 31 (encE x).toArray)
    (fun x a' s A B row hs hg hr => by obtain ⟨be, h1, h2⟩ := hs; exact ⟨be, h1, Blk.own _ _ _ s A B row h2 hg (fun r e => (hr r e).2)⟩)
    ?assign ?body ?done ?stop
  case assign =>
    rintro y pre x W K hI hK
    unfold encQ
    gi_wp2_with (refine wpListIn_storeW W31 rfl rfl rfl (encE x) rfl rfl (encE_one x) rfl ?_)
    exact hK _ _ ((KeepsOthers.alloc _ _).from _) (KT.of_below (below1 _ _) hI.1.size) (DropI.own w bx W0.heap.size HB3.out.size _ _ _ none hI (World.grownBy_alloc _ _ _) (by intro r h; cases h)) ⟨W.heap.size, rfl, Blk.new' rfl⟩
  case body =>
    rintro y pre x a' W hl hr ⟨h2, v, h4, h5, h6⟩ ⟨be, rfl, DX⟩ hlt
    clear hl hr
    have hpre : pre.length ≤ 16384 := by have := HLH.out; omega
    clear hlt
    obtain ⟨a, cap, rfl, q1, q2, _⟩ := owns_shape h5
    have HK := Lib.hid DX.list
    have c2 : W.cell? ⟨bx, 0, none⟩ = some (.slice a pre.length cap) := h4.cell 0
    have f2 : W.frozen? ⟨bx, 0, none⟩ = false := h4.frozen 0
    have hz : bx < W.heap.size := h4.lt
    have H2 := Lib.hid h2
    have H4 := Lib.hid h4
    have H5 := Lib.hid h5
    have H6 := Lib.hid h6
    clear h2 h4 h5 h6 DX
    gi_wp2_with (first
      | (refine wpListIn_loadW W31 rfl rfl rfl (encE x) rfl HK.out ?_)
      | (refine wpListIn_sliceW E22 (by decide) rfl rfl (encE x) rfl rfl ?_)
      | (gi_at_builtin; refine wpListIn_app_at E22 rfl rfl (H5.out.alloc _) (m := 1) (news := encE x) rfl (cells_new _ _ _) (encE_one x) rfl rfl (by omega) (by simp; omega) ?_; intro v' w3 ho hg hown; obtain ⟨a', cap', rfl, r1, r2, _⟩ := owns_shape ho; have HO := Lib.hid ho; have HG := Lib.hid hg; have HW := Lib.hid hown; have B4 := Lib.hid ((H4.out.alloc _).kept hg (fun e => H6.out e.symm)); have c2' : w3.cell? ⟨bx, 0, none⟩ = some (.slice a pre.length cap) := B4.out.cell 0; have f2' : w3.frozen? ⟨bx, 0, none⟩ = false := B4.out.frozen 0; clear ho hg hown c2 f2))
    have hgo : W.grownBy w3 (Value.slice a pre.length cap).ownBlock := ⟨HG.out.os, HG.out.tape, HG.out.output, by have := HG.out.size; simp at this; omega, fun k hk hne => (HG.out.block k (by simp; omega) hne).trans (Below.heap_alloc _ _ _ hk)⟩
    have hne' : (Value.slice a' (pre.length + 1) cap').ownBlock ≠ some bx := by
      rcases HW.out with e | e
      · rw [e]; exact H6.out
      · rw [e]; simp; omega
    refine ⟨((KeepsOthers.of_grownBy hgo ?_).trans (KeepsOthers.setCell _ _ _)).from _, kt_app H4.out H5.out (below1 _ _) HG.out HW.out (by omega) (by omega) H6.out, ?_⟩
    · intro j o e ho
      exact own_cells H5.out e ho
    · refine ⟨(below_app H2.out (by omega) H5.out hgo H2.out.size).setCell (by simp; omega) _, _, B4.out.set 0 _, ?_, hne'⟩
      have := HO.out.kept (grownBy_setCell w3 ⟨bx, 0, none⟩ (.slice a' (pre.length + 1) cap')) (.inr (by simpa using hne'))
      simpa using this
  case stop => exact fun _ _ _ _ _ _ h => h.elim
  case done =>
    rintro D ys W hD hys ⟨h2, v, h4, h5, h6⟩ hK
    have hQW := HQ.out.below h2
    have HKQ : Hid (QK w W q (.slice oa n oc)) := (QS.of_below h2).k
    obtain ⟨a, cap, rfl, q1, q2, _⟩ := owns_shape h5
    have hyl : ys.length = n := by rw [hys, sortE_len, HN.out]
    have HRW := Lib.hid (Rd.of_owns encE_len h5 (by omega))
    rw [hyl] at q1 HRW
    have c9 : W.cell? ⟨q, 1, none⟩ = some (.slice oa n oc) := hQW.1.cell 1
    have f9 : W.frozen? ⟨q, 1, none⟩ = false := hQW.1.frozen 1
    have HYS := Lib.hid hys
    have HYL := Lib.hid hyl
    have hqD : q ≠ D := by omega
    have hqb : q ≠ bx := by omega
    have HVQ : Hid (∀ b o n' c', Value.slice a n cap = .slice (some ⟨b, o, none⟩) n' c' → b ≠ q ∧ (Value.slice none 0 0).ownBlock ≠ some b) := fun b o n' c' e => by
      simp only [Value.slice.injEq] at e
      obtain ⟨rfl, -, -⟩ := e
      have := (h5.lt b rfl).1
      exact ⟨by omega, by simp [Value.ownBlock]⟩
    have HXW : Hid (Blk W bx 22 #[.slice a n cap]) := by have := h4; rw [hyl] at this; exact this
    have HQd : Hid (Qu (W.setCell ⟨q, 1, none⟩ (.slice none 0 0)) q (.slice none 0 0) [] now) := ⟨hQW.1.set 1 _, World.ownsRow_nil _ _ _ _⟩
    have HXd : Hid (Blk (W.setCell ⟨q, 1, none⟩ (.slice none 0 0)) bx 22 #[.slice a n cap]) := HXW.out.far (fun e => hqb e.symm) _
    have HRd : Hid (Rd encE 4 (W.setCell ⟨q, 1, none⟩ (.slice none 0 0)) (.slice a n cap) ys) := rd_qs HRW.out (qs_set (QS.refl W q (.slice none 0 0))) HVQ.out
    have HKd : Hid ((W.setCell ⟨q, 1, none⟩ (.slice none 0 0)).heap[D]? = some (.deferred (some []))) := (Below.heap_setCell W ⟨q, 1, none⟩ _ D (fun e => hqD e.symm)).trans hK
    have HQKd : Hid (QK w (W.setCell ⟨q, 1, none⟩ (.slice none 0 0)) q (.slice oa n oc)) := ⟨HKQ.out.os, HKQ.out.tape, HKQ.out.output, by simpa using HKQ.out.size, fun k hk h1 h2 => (Below.heap_setCell _ _ _ k h1).trans (HKQ.out.block k hk h1 h2)⟩
    have hDW : D < W.heap.size := (Array.getElem?_eq_some_iff.1 hK).1
    have HDz : Hid (D < (W.setCell ⟨q, 1, none⟩ (.slice none 0 0)).heap.size) := by show _ < _; simpa using hDW
    have HDQ : Hid (D ≠ q) := fun e => hqD e.symm
    have HDD : Hid (w.heap.size ≤ D) := by show _ ≤ _; have := HB3.out.size; omega
    clear h2 h4 h5 h6 hK hQW hys hyl HKQ HRW HXW hD hqD hDW
    go_upto_region 10 with fail
    clear c9 f9
    generalize W.setCell ⟨q, 1, none⟩ (.slice none 0 0) = Wd at *
    have c10 : Wd.cell? ⟨bx, 0, none⟩ = some (.slice a n cap) := HXd.out.cell 0
    have HJ0 : Hid (DropJ q now node ys Wd 0 Wd) := ⟨_, HQd.out, QS.refl _ _ _⟩
    clear HXd HQd
    go_wp2_with fail
    clear c10
    go_loopw [34] (fun i wr => ∃ k : Nat, k ≤ n ∧ i = .int .i64 k ∧ Hid (DropJ q now node ys Wd k wr)) (fun i _ => n - (intOf i).toNat)
    case atStart => exact ⟨0, by omega, rfl, HJ0⟩
    case round =>
      clear HJ0
      obtain ⟨k, hk, rfl, HJ⟩ := hrel
      obtain ⟨W1, rfl⟩ : ∃ W1 : World, W1 = wr := ⟨_, rfl⟩
      obtain ⟨sv, hQ, hS1⟩ := HJ.out
      by_cases hlt : k < n
      · obtain ⟨x, hx⟩ : ∃ x, ys[k]? = some x := ⟨_, List.getElem?_eq_getElem (by have := HYL.out; omega)⟩
        have HKL : Hid (keepL (ys.take (k + 1)) node = if (!(x.n == node)) = true then keepL (ys.take k) node ++ [x] else keepL (ys.take k) node) := by
          show _ = _
          unfold keepL
          rw [take_snoc hx, List.filter_append]
          cases hq : (!(x.n == node)) <;> simp [hq]
        obtain ⟨bl, off, rfl, hbl, hc⟩ := (rd_qs HRd.out hS1 HVQ.out).row (by rintro rfl; simp at hx)
        have HC := Lib.hid (hc k x hx)
        have hml : (newL (keepL (ys.take k) node)).length ≤ k := by
          rw [newL_len]
          unfold keepL
          exact Nat.le_trans (List.length_filter_le _ _) (by simp; omega)
        clear hx hc
        by_cases hxn : x.n = node
        · have e1 : (x.n == node) = true := by simpa using hxn
          have e2 : (x.n != node) = false := by simpa using hxn
          have HJ2 : Hid (∀ W', Below W1.heap.size W1 W' → DropJ q now node ys Wd (k + 1) W') := fun W' hb => by
            refine ⟨sv, ?_, hS1.trans (QS.of_below hb)⟩
            rw [HKL.out, e1]
            exact hQ.below hb
          clear hxn hQ hS1 HJ hml HKL e1
          go_wp2_with (first | ((with_reducible show wpList _ _ _ (Oper.mk (some 37) _ _ _ _ _ :: _) _ _); refine wpList_loadW W31 rfl rfl rfl (encE x) rfl HC.out ?_) | ((with_reducible show wpList _ _ _ (Oper.mk none (Op.store 31 _ _) _ _ _ _ :: _) _ _); refine wpList_boxW W31 rfl rfl rfl (encE x) rfl rfl (encE_one x) rfl ?_; intro W2 hbx hbel hsz; have HBX := Lib.hid hbx; have HE := Lib.hid hbel; clear hbx hbel hsz; have cn : W2.cell? ⟨W1.heap.size, 2, none⟩ = some (.int .i64 x.n) := HBX.out.list0 rfl))
          go_roundw
          case rel => exact ⟨k + 1, by omega, by go_num, HJ2.out _ HE.out⟩
          case measure => simp [intOf]; omega
        · have e1 : (x.n == node) = false := by simpa using hxn
          have e2 : (x.n != node) = true := by simpa using hxn
          have HSN : Hid (newL (keepL (ys.take (k + 1)) node) = addL (newL (keepL (ys.take k) node)) x) := by show _ = _; rw [HKL.out, e1]; simp only [Bool.not_false, if_true]; rw [newL_snoc]
          obtain ⟨m, hm⟩ : ∃ m, m = newL (keepL (ys.take k) node) := ⟨_, rfl⟩
          rw [← hm] at hQ HSN hml
          have HR : Hid (∀ W' sv', Qu W' q sv' (riseL (m ++ [x]) m.length) now → QS W1 W' q sv sv' → DropJ q now node ys Wd (k + 1) W') := fun W' sv' g1 g2 => ⟨sv', by rw [HSN.out]; exact g1, hS1.trans g2⟩
          obtain ⟨sa, sc, rfl, hsc, hscm, -⟩ := owns_shape hQ.2
          have HSB : Hid (∀ g, (Value.slice sa m.length sc).ownBlock = some g → g < W1.heap.size) := fun g e => (hQ.2.lt g e).2
          have hqz : q < W1.heap.size := hQ.1.lt
          have HQ1 := Lib.hid hQ
          clear hQ hS1 HSN hm HJ HKL hxn e1
          go_upto_region 14 with (first | ((with_reducible show wpList _ _ _ (Oper.mk (some 37) _ _ _ _ _ :: _) _ _); refine wpList_loadW W31 rfl rfl rfl (encE x) rfl HC.out ?_) | ((with_reducible show wpList _ _ _ (Oper.mk none (Op.store 31 _ _) _ _ _ _ :: _) _ _); refine wpList_boxW W31 rfl rfl rfl (encE x) rfl rfl (encE_one x) rfl ?_; intro W2 hbx hbel hsz; have HBX := Lib.hid hbx; have HE := Lib.hid hbel; clear hbx hbel hsz; have cn : W2.cell? ⟨W1.heap.size, 2, none⟩ = some (.int .i64 x.n) := HBX.out.list0 rfl))
          clear cn e2
          have HE2 : Hid (Below W1.heap.size W1 W2.drew) := HE.out.drew
          have hqq : Qu W2.drew q (.slice sa m.length sc) m now := HQ1.out.below HE2.out
          have HQS2 : Hid (QS W1 W2.drew q (.slice sa m.length sc) (.slice sa m.length sc)) := QS.of_below HE2.out
          have hS : Hid (Blk W2.drew W1.heap.size 31 (encE x).toArray) := HBX.out.keep (Below.refl _ _).drew
          have HNE0 : Hid (some W1.heap.size ≠ (Value.slice sa m.length sc).ownBlock) := by
            show some W1.heap.size ≠ _
            intro e
            have := HSB.out _ e.symm
            omega
          obtain ⟨b, hb⟩ : ∃ b, W1.heap.size = b := ⟨_, rfl⟩
          rw [hb] at hS HNE0 hqz
          rw [hb]
          have HNE := HNE0
          have HBQ : Hid (b ≠ q) := by show _ ≠ _; omega
          have HB : Hid (Blk W2.drew q 47 #[.bool true, (.slice sa m.length sc), .int .i64 now]) := hqq.1
          have HO : Hid (W2.drew.ownsRow (q + 1) 31 4 (.slice sa m.length sc) m.length (m.flatMap encE)) := hqq.2
          have hqs : q + 1 ≤ W2.drew.heap.size := hqq.1.lt
          clear hqq hb HNE0 HBX HE HE2 HC HSB
          refine wp_region_noPanic ?_
          refine wp_region_held_drew (S := fun X => Hid (Blk X b 31 (encE x).toArray)) (by kernel_rfl) hS (fun hHeld => ?_)
          (refine takeW (i := 0) (v := ?_) rfl (by kernel_rfl) (by kernel_rfl) (by kernel_rfl) (fun _ _ _ h => h) (by rfl) (by assumption) ?_ ?_; rotate_left; (intro W hW; (try dsimp only at hW); go_simp; try with_reducible rfl); (try simp only [Act.put, List.setIfInBounds_toArray, List.set_cons_zero, List.set_cons_succ]))
          (refine takeW (i := 1) (v := ?_) rfl (by kernel_rfl) (by kernel_rfl) (by kernel_rfl) (fun _ _ _ h => h) (by rfl) (by assumption) ?_ ?_; rotate_left; (intro W hW; (try dsimp only at hW); go_simp; try with_reducible rfl); (try simp only [Act.put, List.setIfInBounds_toArray, List.set_cons_zero, List.set_cons_succ]))
          (refine takeW (i := 2) (v := ?_) rfl (by kernel_rfl) (by kernel_rfl) (by kernel_rfl) (fun _ _ _ h => h) (by rfl) (by assumption) ?_ ?_; rotate_left; (intro W hW; (try dsimp only at hW); go_simp; try with_reducible rfl); (try simp only [Act.put, List.setIfInBounds_toArray, List.set_cons_zero, List.set_cons_succ]))
          (refine takeW (i := 3) (v := ?_) rfl (by kernel_rfl) (by kernel_rfl) (by kernel_rfl) (fun _ _ _ h => h) (by rfl) (by assumption) ?_ ?_; rotate_left; (intro W hW; (try dsimp only at hW); go_simp; try with_reducible rfl); (try simp only [Act.put, List.setIfInBounds_toArray, List.set_cons_zero, List.set_cons_succ]))
          (refine takeW (i := 5) rfl (by kernel_rfl) (by kernel_rfl) (by kernel_rfl) (fun _ _ _ h => h) (by rfl) (by assumption) (fun W hW => exec_loadW W31 rfl rfl (cs := encE x) rfl hW.out.list) ?_; (try simp only [Act.put, List.setIfInBounds_toArray, List.set_cons_zero, List.set_cons_succ]))
          refine takeV2 (i := 4) (j := 6) rfl rfl (by kernel_rfl) (by rfl) (by rfl) (exec_load1 (v := (.slice sa m.length sc)) F22 rfl rfl (by first | exact HB.out.cell 1 | exact (HB.out.alloc _).cell 1)) (hHeld) (exec_sliceW E22 (by decide) rfl rfl rfl) (Lib.hid (hHeld.out.alloc _)) ?_ ?_
          · (try simp only [Act.put, List.setIfInBounds_toArray, List.set_cons_zero, List.set_cons_succ])
            have hHeld : Hid (Blk W2.drew b 31 (encE x).toArray) := hHeld
            refine takeV (i := 6) rfl (by kernel_rfl) (by rfl) (exec_sliceW E22 (by decide) rfl rfl rfl) (Lib.hid (hHeld.out.alloc _)) ?_
            (try simp only [Act.put, List.setIfInBounds_toArray, List.set_cons_zero, List.set_cons_succ])
            have hHeld : Hid (Blk (W2.drew.alloc (.cells (encE x).toArray 31)) b 31 (encE x).toArray) := Lib.hid (hHeld.out.alloc _)
            refine takeApp (i := 7) E22 rfl (by kernel_rfl) (by rfl) rfl (HO.out.alloc _) (m := 1) (news := encE x) rfl (cells_new _ _ _) (encE_one x) rfl rfl (by omega) (by have := hqs; simp at this ⊢; omega) ?_
            intro v1 W4 ho hg hown
            have hb := Lib.hid (hHeld.out.kept hg HNE.out)
            refine ⟨hb, ?_⟩
            clear hHeld
            have hHeld := hb
            clear hb
            have hQ4 := Lib.hid (qu_app HB.out HO.out ho hg hown)
            have hc4 : W4.cell? ⟨q, 1, none⟩ = some (.slice sa m.length sc) := hQ4.out.1.cell 1
            have hf4 : W4.frozen? ⟨q, 1, none⟩ = false := hQ4.out.1.frozen 1
            clear ho hg hown
            obtain ⟨a1, cap1, rfl, hcap1, hcm1, -⟩ := owns_shape hQ4.out.2.1
            try simp only [Act.put, List.setIfInBounds_toArray, List.set_cons_zero, List.set_cons_succ]
            (refine takeW (i := 8) (v := ?_) rfl (by kernel_rfl) (by kernel_rfl) (by kernel_rfl) (fun _ _ _ h => h) (by rfl) (by assumption) ?_ ?_; rotate_left; (intro W hW; (try dsimp only at hW); go_simp; try with_reducible rfl); (try simp only [Act.put, List.setIfInBounds_toArray, List.set_cons_zero, List.set_cons_succ]))
            (refine takeW (i := 9) (v := ?_) rfl (by kernel_rfl) (by kernel_rfl) (by kernel_rfl) (fun _ _ _ h => h) (by rfl) (by assumption) ?_ ?_; rotate_left; (intro W hW; (try dsimp only at hW); go_simp; try with_reducible rfl); (try simp only [Act.put, List.setIfInBounds_toArray, List.set_cons_zero, List.set_cons_succ]))
            refine takeVs (i := 10) rfl (by kernel_rfl) (by rfl) (exec_store1 (p := ⟨q, 1, none⟩) (v := .slice a1 (m.length + 1) cap1) F22 rfl rfl rfl rfl rfl hc4 hf4) (Lib.hid (hHeld.out.far (by simpa using HBQ.out) _)) ?_
            have hHeld : Hid (Blk (W4.setCell ⟨q, 1, none⟩ (.slice a1 (m.length + 1) cap1)) b 31 (encE x).toArray) := Lib.hid (hHeld.out.far (by simpa using HBQ.out) _)
            refine wpAnyH_done (by kernel_rfl) ?_ _
            refine NoPanic.normal ?_
            have hQ5 := Lib.hid (qu_app_set hQ4.out)
            clear hQ4 hc4 hf4
            generalize W4.setCell ⟨q, 1, none⟩ (.slice a1 (m.length + 1) cap1) = W5 at *
            have c51 : W5.cell? ⟨q, 1, none⟩ = some (.slice a1 (m.length + 1) cap1) := hQ5.out.1.1.cell 1
            go_wp2_with (go_at_call 26; refine (rise_any q _ (m ++ [x]) now m.length W5 hQ5.out.1 (by simp) (by simp; omega)).mono ?_; go_must (rintro e w6 ⟨rfl, hq6, hk6⟩; have HQ6 := Lib.hid hq6; have HK6 := Lib.hid hk6; clear hq6 hk6 c51))
            go_roundw
            case rel => exact ⟨k + 1, by omega, by go_num, HR.out _ _ HQ6.out (HQS2.out.trans (qs_push (Gw.refl _) hQ5.out HK6.out))⟩
            case measure => simp [intOf]; omega
          · (try simp only [Act.put, List.setIfInBounds_toArray, List.set_cons_zero, List.set_cons_succ])
            have hHeld : Hid (Blk (W2.drew.alloc (.cells (encE x).toArray 31)) b 31 (encE x).toArray) := Lib.hid (hHeld.out.alloc _)
            refine takeV (i := 4) rfl (by kernel_rfl) (by rfl) (exec_load1 (v := (.slice sa m.length sc)) F22 rfl rfl (by first | exact HB.out.cell 1 | exact (HB.out.alloc _).cell 1)) (hHeld) ?_
            (try simp only [Act.put, List.setIfInBounds_toArray, List.set_cons_zero, List.set_cons_succ])
            have hHeld : Hid (Blk (W2.drew.alloc (.cells (encE x).toArray 31)) b 31 (encE x).toArray) := hHeld
            refine takeApp (i := 7) E22 rfl (by kernel_rfl) (by rfl) rfl (HO.out.alloc _) (m := 1) (news := encE x) rfl (cells_new _ _ _) (encE_one x) rfl rfl (by omega) (by have := hqs; simp at this ⊢; omega) ?_
            intro v1 W4 ho hg hown
            have hb := Lib.hid (hHeld.out.kept hg HNE.out)
            refine ⟨hb, ?_⟩
            clear hHeld
            have hHeld := hb
            clear hb
            have hQ4 := Lib.hid (qu_app HB.out HO.out ho hg hown)
            have hc4 : W4.cell? ⟨q, 1, none⟩ = some (.slice sa m.length sc) := hQ4.out.1.cell 1
            have hf4 : W4.frozen? ⟨q, 1, none⟩ = false := hQ4.out.1.frozen 1
            clear ho hg hown
            obtain ⟨a1, cap1, rfl, hcap1, hcm1, -⟩ := owns_shape hQ4.out.2.1
            try simp only [Act.put, List.setIfInBounds_toArray, List.set_cons_zero, List.set_cons_succ]
            (refine takeW (i := 8) (v := ?_) rfl (by kernel_rfl) (by kernel_rfl) (by kernel_rfl) (fun _ _ _ h => h) (by rfl) (by assumption) ?_ ?_; rotate_left; (intro W hW; (try dsimp only at hW); go_simp; try with_reducible rfl); (try simp only [Act.put, List.setIfInBounds_toArray, List.set_cons_zero, List.set_cons_succ]))
            (refine takeW (i := 9) (v := ?_) rfl (by kernel_rfl) (by kernel_rfl) (by kernel_rfl) (fun _ _ _ h => h) (by rfl) (by assumption) ?_ ?_; rotate_left; (intro W hW; (try dsimp only at hW); go_simp; try with_reducible rfl); (try simp only [Act.put, List.setIfInBounds_toArray, List.set_cons_zero, List.set_cons_succ]))
            refine takeVs (i := 10) rfl (by kernel_rfl) (by rfl) (exec_store1 (p := ⟨q, 1, none⟩) (v := .slice a1 (m.length + 1) cap1) F22 rfl rfl rfl rfl rfl hc4 hf4) (Lib.hid (hHeld.out.far (by simpa using HBQ.out) _)) ?_
            have hHeld : Hid (Blk (W4.setCell ⟨q, 1, none⟩ (.slice a1 (m.length + 1) cap1)) b 31 (encE x).toArray) := Lib.hid (hHeld.out.far (by simpa using HBQ.out) _)
            refine wpAnyH_done (by kernel_rfl) ?_ _
            refine NoPanic.normal ?_
            have hQ5 := Lib.hid (qu_app_set hQ4.out)
            clear hQ4 hc4 hf4
            generalize W4.setCell ⟨q, 1, none⟩ (.slice a1 (m.length + 1) cap1) = W5 at *
            have c51 : W5.cell? ⟨q, 1, none⟩ = some (.slice a1 (m.length + 1) cap1) := hQ5.out.1.1.cell 1
            go_wp2_with (go_at_call 26; refine (rise_any q _ (m ++ [x]) now m.length W5 hQ5.out.1 (by simp) (by simp; omega)).mono ?_; go_must (rintro e w6 ⟨rfl, hq6, hk6⟩; have HQ6 := Lib.hid hq6; have HK6 := Lib.hid hk6; clear hq6 hk6 c51))
            go_roundw
            case rel => exact ⟨k + 1, by omega, by go_num, HR.out _ _ HQ6.out (HQS2.out.trans (qs_push (Gw.refl _) hQ5.out HK6.out))⟩
            case measure => simp [intOf]; omega
      · obtain rfl : n = k := by omega
        have hdl : newL (keepL (ys.take n) node) = dropL h node := by
          unfold dropL
          rw [List.take_of_length_le (by have := HYL.out; omega), HYS.out]
        rw [hdl] at hQ
        obtain ⟨fa, fc, rfl, hfc, hfcm, -⟩ := owns_shape hQ.2
        have c17 : W1.cell? ⟨q, 1, none⟩ = some (.slice fa (dropL h node).length fc) := hQ.1.cell 1
        have hfl : (dropL h node).length ≤ n := by
          unfold dropL
          rw [newL_len]
          unfold keepL
          have := List.length_filter_le (fun e => !(e.n == node)) (sortE h)
          rw [sortE_len] at this
          have := HN.out
          omega
        have HKF : Hid (W1.heap[D]? = some (.deferred (some []))) := (hS1.k.block D HDz.out HDQ.out (by simp [Value.ownBlock])).trans HKd.out
        have HQF : Hid (QK w W1 q (.slice oa n oc)) := ⟨hS1.k.os.trans HQKd.out.os, hS1.k.tape.trans HQKd.out.tape, hS1.k.output.trans HQKd.out.output, Nat.le_trans HQKd.out.size hS1.k.size, fun j hj h1 h2 => (hS1.k.block j (Nat.lt_of_lt_of_le hj HQKd.out.size) h1 (by simp [Value.ownBlock])).trans (HQKd.out.block j hj h1 h2)⟩
        have HSV : Hid (∀ g, (Value.slice fa (dropL h node).length fc).ownBlock = some g → w.heap.size ≤ g) := fun g e => by
          rcases hS1.own with e' | ⟨g', e', hg'⟩
          · rw [e] at e'; simp [Value.ownBlock] at e'
          · rw [e] at e'; cases e'; exact Nat.le_trans HQKd.out.size hg'
        have HEND := Lib.hid (fun a0 r hr => drop_end (a0 := a0) (r := r) (node := node) (h := h) HDD.out HKF.out hQ HQF.out HSV.out hr)
        clear hlt hk hQ hS1 HJ hdl
        have HN2 := Lib.hid HN.out
        generalize (dropL h node).length = fl at *
        go_wp2
        rw [← HN.out]
        exact HEND.out _ ((n : Int) - (fl : Int)) (by rw [HN2.out]) rfl rfl
end Go.Proofs.Ytbmnecdkjkffdaa
