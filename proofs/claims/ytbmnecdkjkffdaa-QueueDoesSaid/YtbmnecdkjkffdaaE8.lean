/- Push: an event is put. -/
import Derived.Test.YtbmnecdkjkffdaaE6
import Derived.Test.YtbmnecdkjkffdaaE7
import Derived.BigQuiet
namespace Go.Proofs.Ytbmnecdkjkffdaa
open Go.RowKit

theorem Gw.drewN {w w' : World} (h : Gw w w') (n : Nat) : Gw w (w'.drewN n) := h.trans ⟨n, #[], by simp [Sort.grow]; rfl⟩
/-- The queue at q is as it says; its row is the old one, or a new one; all else is as it was. -/
structure QS (w w' : World) (q : Nat) (sv sv' : Value) : Prop where
  k : QK w w' q sv
  own : sv'.ownBlock = sv.ownBlock ∨ ∃ g, sv'.ownBlock = some g ∧ w.heap.size ≤ g
theorem QS.refl (w : World) (q : Nat) (sv : Value) : QS w w q sv sv := ⟨QK.refl _ _ _, .inl rfl⟩
theorem QS.gw {w w' w'' : World} {q : Nat} {sv sv' : Value} (h : QS w w' q sv sv') (h' : Gw w' w'') : QS w w'' q sv sv' := ⟨h.k.gw h', h.own⟩
theorem QS.trans {w w' w'' : World} {q : Nat} {sv sv' sv'' : Value} (h : QS w w' q sv sv') (h' : QS w' w'' q sv' sv'') : QS w w'' q sv sv'' := by
  refine ⟨⟨h'.k.os.trans h.k.os, h'.k.tape.trans h.k.tape, h'.k.output.trans h.k.output, Nat.le_trans h.k.size h'.k.size, fun k hk h1 h2 => ?_⟩, ?_⟩
  · refine (h'.k.block k (Nat.lt_of_lt_of_le hk h.k.size) h1 ?_).trans (h.k.block k hk h1 h2)
    rcases h.own with e | ⟨g, e, hg⟩
    · rw [e]; exact h2
    · rw [e]; intro e'; cases e'; omega
  · rcases h'.own with e | ⟨g, e, hg⟩
    · rw [e]; exact h.own
    · exact .inr ⟨g, e, Nat.le_trans h.k.size hg⟩
theorem QS.below {w w' : World} {q : Nat} {sv sv' : Value} (h : QS w w' q sv sv') {B : Nat} (hB : B ≤ w.heap.size) (hq : B ≤ q) (hs : ∀ g, sv.ownBlock = some g → B ≤ g) : Below B w w' :=
  ⟨h.k.os, h.k.tape, h.k.output, h.k.size, fun k hk => h.k.block k (by omega) (by omega) (fun e => by have := hs k e; omega)⟩
/-- What Push answers. -/
def pushE (l : List Ev) (now : Int) (x : Ev) : Int := if x.a < now ∨ 1099511627776 < x.a then 140 else if 16384 ≤ l.length then 3 else 0
/-- .. and what is there behind it. -/
def pushL (l : List Ev) (now : Int) (x : Ev) : List Ev := if pushE l now x = 0 then riseL (l ++ [x]) l.length else l
def PushPost (q : Nat) (sv : Value) (l : List Ev) (now : Int) (x : Ev) (w : World) (e : Ending) (w' : World) : Prop :=
  e = .returned (.int .i64 (pushE l now x)) ∧ ∃ sv', Qu w' q sv' (pushL l now x) now ∧ QS w w' q sv sv'
/-- Behind the append: the new row, and the old value still in the queue's cell. -/
theorem qu_app {W0 W4 : World} {q : Nat} {sv v1 : Value} {l : List Ev} {x : Ev} {now : Int} (hb : Blk W0 q 47 #[.bool true, sv, .int .i64 now]) (ho : W0.ownsRow (q + 1) 31 4 sv l.length (l.flatMap encE))
    (h1 : W4.ownsRow (q + 1) 31 4 v1 (l.length + 1) (l.flatMap encE ++ encE x)) (hg : (W0.alloc (.cells (encE x).toArray 31)).grownBy W4 sv.ownBlock) (hown : v1.ownBlock = sv.ownBlock ∨ v1.ownBlock = some (W0.alloc (.cells (encE x).toArray 31)).heap.size) :
    Blk W4 q 47 #[.bool true, sv, .int .i64 now] ∧ W4.ownsRow (q + 1) 31 4 v1 (l.length + 1) ((l ++ [x]).flatMap encE) ∧ QS W0 W4 q sv v1 := by
  have hne : sv.ownBlock ≠ some q := ownsRow_ne ho (Nat.lt_succ_self q)
  refine ⟨(hb.alloc _).kept hg (fun e => hne e.symm), by simpa using h1, ?_, ?_⟩
  · exact ⟨hg.os, hg.tape, hg.output, by have := hg.size; simp at this; omega, fun k hk h1 h2 => (hg.block k (by simp; omega) (fun e => h2 e.symm)).trans (Below.heap_alloc _ _ _ hk)⟩
  · rcases hown with e | e
    · exact .inl e
    · exact .inr ⟨_, e, by simp⟩
theorem qu_app_set {W0 W4 : World} {q : Nat} {sv v1 : Value} {l : List Ev} {x : Ev} {now : Int} (h : Blk W4 q 47 #[.bool true, sv, .int .i64 now] ∧ W4.ownsRow (q + 1) 31 4 v1 (l.length + 1) ((l ++ [x]).flatMap encE) ∧ QS W0 W4 q sv v1) :
    Qu (W4.setCell ⟨q, 1, none⟩ v1) q v1 (l ++ [x]) now ∧ QS W0 (W4.setCell ⟨q, 1, none⟩ v1) q sv v1 := by
  refine ⟨⟨h.1.set 1 v1, ?_⟩, ?_⟩
  · have := h.2.1.kept (grownBy_setCell W4 ⟨q, 1, none⟩ v1) (.inr (ownsRow_ne h.2.1 (Nat.lt_succ_self q)))
    simpa using this
  · refine ⟨⟨h.2.2.k.os, h.2.2.k.tape, h.2.2.k.output, by simpa using h.2.2.k.size, fun k hk h1 h2 => ?_⟩, h.2.2.own⟩
    exact (Below.heap_setCell _ _ _ k h1).trans (h.2.2.k.block k hk h1 h2)
theorem qs_push {w W0 W5 w6 : World} {q : Nat} {sv v1 : Value} {l : List Ev} {x : Ev} {now : Int} (hg : Gw w W0) (h : Qu W5 q v1 (l ++ [x]) now ∧ QS W0 W5 q sv v1) (hk : QK W5 w6 q v1) : QS w w6 q sv v1 :=
  (((QS.refl w q sv).gw hg).trans h.2).trans ⟨hk, .inl rfl⟩

set_option maxRecDepth 100000 in
set_option maxHeartbeats 1600000 in
theorem push_any (q : Nat) (sv : Value) (l : List Ev) (now : Int) (x : Ev) (w : World) (h : Qu w q sv l now) (hl : l.length ≤ 16384) :
    Calls Try.prog 10 #[.pointer (some ⟨q, 0, none⟩), .agg (encE x).toArray] w (PushPost q sv l now x w) := by
  have HQ := Lib.hid h
  have HP0 : Hid (∀ w', Gw w w' → ∀ r, pushE l now x = r → r ≠ 0 → PushPost q sv l now x w (.returned (.int .i64 r)) w') := fun w' hg r hr h0 => by
    refine ⟨by rw [hr], sv, ?_, (QS.refl _ _ _).gw hg⟩
    unfold pushL
    rw [hr, if_neg h0]
    exact HQ.out.gw hg
  obtain ⟨a, cap, rfl, hcap, hcm, -⟩ := owns_shape h.2
  have hq0 : q < w.heap.size := h.1.lt
  clear h
  have HG1 : Hid (Gw w (w.alloc (.cells (encE x).toArray 31))) := (Gw.refl w).alloc _
  have HBX : Hid (Blk (w.alloc (.cells (encE x).toArray 31)) w.heap.size 31 (encE x).toArray) := Blk.new' rfl
  have HQ1 := Lib.hid (HQ.out.gw HG1.out)
  have HBQ : Hid (w.heap.size ≠ q) := by show _ ≠ _; omega
  go_enter Try.func10, Try.ntmps10
  go_upto_region 1 with fail
  change Code.wp _ _ _ _ (w.alloc (.cells (encE x).toArray 31))
  generalize w.alloc (.cells (encE x).toArray 31) = W0 at *
  obtain ⟨b, hb⟩ : ∃ b, w.heap.size = b := ⟨_, rfl⟩
  rw [hb]
  rw [hb] at HBX HBQ hq0
  have HBS := Lib.hid hb
  clear hb
  have cb : W0.cell? ⟨b, 0, none⟩ = some (.int .i64 x.a) := HBX.out.list0 rfl
  have cq1 : W0.cell? ⟨q, 1, none⟩ = some (.slice a l.length cap) := HQ1.out.1.cell 1
  have cq2 : W0.cell? ⟨q, 2, none⟩ = some (.int .i64 now) := HQ1.out.1.cell 2
  have HM := Lib.hid (made_any q true _ now W0 HQ1.out.1)
  by_cases h1 : x.a < now
  · have HE : Hid (pushE l now x = 140) := by show _ = _; unfold pushE; rw [if_pos (.inl h1)]
    have hd1 : decide (x.a < now) = true := decide_eq_true h1
    go_wp2_with (go_at_call 27; refine HM.out.mono ?_; go_must (rintro e w' ⟨rfl, rfl⟩))
    go_quiet (fail)
    go_wp2
    go_ret
    exact HP0.out _ (HG1.out.drewN _) _ HE.out (by decide)
  · have hd1 : decide (x.a < now) = false := decide_eq_false h1
    by_cases h2 : 1099511627776 < x.a
    · have HE : Hid (pushE l now x = 140) := by show _ = _; unfold pushE; rw [if_pos (.inr h2)]
      have hd2 : decide (1099511627776 < x.a) = true := decide_eq_true h2
      go_wp2_with (go_at_call 27; refine HM.out.mono ?_; go_must (rintro e w' ⟨rfl, rfl⟩))
      go_quiet (fail)
      go_wp2
      go_ret
      exact HP0.out _ (HG1.out.drewN _) _ HE.out (by decide)
    · have hd2 : decide (1099511627776 < x.a) = false := decide_eq_false h2
      go_wp2_with (go_at_call 27; refine HM.out.mono ?_; go_must (rintro e w' ⟨rfl, rfl⟩))
      go_quiet (fail)
      by_cases h3 : 16384 ≤ l.length
      · have HE : Hid (pushE l now x = 3) := by show _ = _; unfold pushE; rw [if_neg (by omega), if_pos h3]
        have hd3 : decide (16384 ≤ l.length) = true := decide_eq_true h3
        go_wp2
        go_ret
        exact HP0.out _ (HG1.out.drewN _) _ HE.out (by decide)
      · have hd3 : decide (16384 ≤ l.length) = false := decide_eq_false h3
        have HP : Hid (∀ sv' w', Qu w' q sv' (riseL (l ++ [x]) l.length) now → QS w w' q (.slice a l.length cap) sv' → PushPost q (.slice a l.length cap) l now x w (.returned (.int .i64 0)) w') := fun sv' w' g1 g2 => by
          have hE : pushE l now x = 0 := by unfold pushE; rw [if_neg (by omega), if_neg h3]
          refine ⟨by rw [hE], sv', ?_, g2⟩
          unfold pushL
          rw [if_pos hE]
          exact g1
        go_upto_region 7 with fail
        have hg2 : Gw w (W0.drewN nq).drew := (HG1.out.drewN nq).drew
        have HG2 : Hid (Hid (Gw w (W0.drewN nq).drew)) := hg2
        have hS : Hid (Blk (W0.drewN nq).drew b 31 (encE x).toArray) := HBX.out.keep (((Gw.refl W0).drewN nq).drew.below _ (Nat.le_refl _))
        have hqq : Qu (W0.drewN nq).drew q (.slice a l.length cap) l now := HQ.out.gw hg2
        have HB : Hid (Blk (W0.drewN nq).drew q 47 #[.bool true, .slice a l.length cap, .int .i64 now]) := hqq.1
        have HO : Hid ((W0.drewN nq).drew.ownsRow (q + 1) 31 4 (.slice a l.length cap) l.length (l.flatMap encE)) := hqq.2
        have hqs : q + 1 ≤ (W0.drewN nq).drew.heap.size := hqq.1.lt
        have HNE : Hid (some b ≠ (Value.slice a l.length cap).ownBlock) := by
          show some b ≠ _
          intro e
          have := (HQ.out.2.lt b e.symm).2
          rw [HBS.out] at this
          omega
        clear hg2 hqq HM cb cq1 cq2 HG1 HBX HQ1
        generalize W0.drewN nq = W1 at *
        refine wp_region_held_drew (S := fun X => Hid (Blk X b 31 (encE x).toArray)) (by kernel_rfl) hS (fun hHeld => ?_)
        (refine takeW (i := 0) (v := ?_) rfl (by kernel_rfl) (by kernel_rfl) (by kernel_rfl) (fun _ _ _ h => h) (by rfl) (by assumption) ?_ ?_; rotate_left; (intro W hW; (try dsimp only at hW); go_simp; try with_reducible rfl); (try simp only [Act.put, List.setIfInBounds_toArray, List.set_cons_zero, List.set_cons_succ]))
        (refine takeW (i := 1) (v := ?_) rfl (by kernel_rfl) (by kernel_rfl) (by kernel_rfl) (fun _ _ _ h => h) (by rfl) (by assumption) ?_ ?_; rotate_left; (intro W hW; (try dsimp only at hW); go_simp; try with_reducible rfl); (try simp only [Act.put, List.setIfInBounds_toArray, List.set_cons_zero, List.set_cons_succ]))
        (refine takeW (i := 2) (v := ?_) rfl (by kernel_rfl) (by kernel_rfl) (by kernel_rfl) (fun _ _ _ h => h) (by rfl) (by assumption) ?_ ?_; rotate_left; (intro W hW; (try dsimp only at hW); go_simp; try with_reducible rfl); (try simp only [Act.put, List.setIfInBounds_toArray, List.set_cons_zero, List.set_cons_succ]))
        (refine takeW (i := 3) (v := ?_) rfl (by kernel_rfl) (by kernel_rfl) (by kernel_rfl) (fun _ _ _ h => h) (by rfl) (by assumption) ?_ ?_; rotate_left; (intro W hW; (try dsimp only at hW); go_simp; try with_reducible rfl); (try simp only [Act.put, List.setIfInBounds_toArray, List.set_cons_zero, List.set_cons_succ]))
        (refine takeW (i := 5) rfl (by kernel_rfl) (by kernel_rfl) (by kernel_rfl) (fun _ _ _ h => h) (by rfl) (by assumption) (fun W hW => exec_loadW W31 rfl rfl (cs := encE x) rfl hW.out.list) ?_; (try simp only [Act.put, List.setIfInBounds_toArray, List.set_cons_zero, List.set_cons_succ]))
        refine takeV2 (i := 4) (j := 6) rfl rfl (by kernel_rfl) (by rfl) (by rfl) (exec_load1 (v := (.slice a l.length cap)) F22 rfl rfl (by first | exact HB.out.cell 1 | exact (HB.out.alloc _).cell 1)) (hHeld) (exec_sliceW E22 (by decide) rfl rfl rfl) (Lib.hid (hHeld.out.alloc _)) ?_ ?_
        · (try simp only [Act.put, List.setIfInBounds_toArray, List.set_cons_zero, List.set_cons_succ])
          have hHeld : Hid (Blk W1.drew b 31 (encE x).toArray) := hHeld
          refine takeV (i := 6) rfl (by kernel_rfl) (by rfl) (exec_sliceW E22 (by decide) rfl rfl rfl) (Lib.hid (hHeld.out.alloc _)) ?_
          (try simp only [Act.put, List.setIfInBounds_toArray, List.set_cons_zero, List.set_cons_succ])
          have hHeld : Hid (Blk (W1.drew.alloc (.cells (encE x).toArray 31)) b 31 (encE x).toArray) := Lib.hid (hHeld.out.alloc _)
          refine takeApp (i := 7) E22 rfl (by kernel_rfl) (by rfl) rfl (HO.out.alloc _) (m := 1) (news := encE x) rfl (cells_new _ _ _) (encE_one x) rfl rfl (by omega) (by have := hqs; simp at this ⊢; omega) ?_
          intro v1 W4 ho hg hown
          have hb := Lib.hid (hHeld.out.kept hg HNE.out)
          refine ⟨hb, ?_⟩
          clear hHeld
          have hHeld := hb
          clear hb
          have hQ4 := Lib.hid (qu_app HB.out HO.out ho hg hown)
          have hc4 : W4.cell? ⟨q, 1, none⟩ = some (.slice a l.length cap) := hQ4.out.1.cell 1
          have hf4 : W4.frozen? ⟨q, 1, none⟩ = false := hQ4.out.1.frozen 1
          clear ho hg hown
          obtain ⟨a1, cap1, rfl, hcap1, hcm1, -⟩ := owns_shape hQ4.out.2.1
          try simp only [Act.put, List.setIfInBounds_toArray, List.set_cons_zero, List.set_cons_succ]
          (refine takeW (i := 8) (v := ?_) rfl (by kernel_rfl) (by kernel_rfl) (by kernel_rfl) (fun _ _ _ h => h) (by rfl) (by assumption) ?_ ?_; rotate_left; (intro W hW; (try dsimp only at hW); go_simp; try with_reducible rfl); (try simp only [Act.put, List.setIfInBounds_toArray, List.set_cons_zero, List.set_cons_succ]))
          (refine takeW (i := 9) (v := ?_) rfl (by kernel_rfl) (by kernel_rfl) (by kernel_rfl) (fun _ _ _ h => h) (by rfl) (by assumption) ?_ ?_; rotate_left; (intro W hW; (try dsimp only at hW); go_simp; try with_reducible rfl); (try simp only [Act.put, List.setIfInBounds_toArray, List.set_cons_zero, List.set_cons_succ]))
          refine takeVs (i := 10) rfl (by kernel_rfl) (by rfl) (exec_store1 (p := ⟨q, 1, none⟩) (v := .slice a1 (l.length + 1) cap1) F22 rfl rfl rfl rfl rfl hc4 hf4) (Lib.hid (hHeld.out.far (by simpa using HBQ.out) _)) ?_
          have hHeld : Hid (Blk (W4.setCell ⟨q, 1, none⟩ (.slice a1 (l.length + 1) cap1)) b 31 (encE x).toArray) := Lib.hid (hHeld.out.far (by simpa using HBQ.out) _)
          refine wpAnyH_done (by kernel_rfl) ?_ _
          have hQ5 := Lib.hid (qu_app_set hQ4.out)
          clear hQ4 hc4 hf4
          generalize W4.setCell ⟨q, 1, none⟩ (.slice a1 (l.length + 1) cap1) = W5 at *
          have c51 : W5.cell? ⟨q, 1, none⟩ = some (.slice a1 (l.length + 1) cap1) := hQ5.out.1.1.cell 1
          go_wp2_with (go_at_call 26; refine (rise_any q _ (l ++ [x]) now l.length W5 hQ5.out.1 (by simp) (by simp; omega)).mono ?_; go_must (rintro e w' ⟨rfl, hq6, hk6⟩; have HQ6 := Lib.hid hq6; have HK6 := Lib.hid hk6; clear hq6 hk6 c51))
          go_ret
          exact HP.out _ _ HQ6.out (qs_push HG2.out.out hQ5.out HK6.out)
        · (try simp only [Act.put, List.setIfInBounds_toArray, List.set_cons_zero, List.set_cons_succ])
          have hHeld : Hid (Blk (W1.drew.alloc (.cells (encE x).toArray 31)) b 31 (encE x).toArray) := Lib.hid (hHeld.out.alloc _)
          refine takeV (i := 4) rfl (by kernel_rfl) (by rfl) (exec_load1 (v := (.slice a l.length cap)) F22 rfl rfl (by first | exact HB.out.cell 1 | exact (HB.out.alloc _).cell 1)) (hHeld) ?_
          (try simp only [Act.put, List.setIfInBounds_toArray, List.set_cons_zero, List.set_cons_succ])
          have hHeld : Hid (Blk (W1.drew.alloc (.cells (encE x).toArray 31)) b 31 (encE x).toArray) := hHeld
          refine takeApp (i := 7) E22 rfl (by kernel_rfl) (by rfl) rfl (HO.out.alloc _) (m := 1) (news := encE x) rfl (cells_new _ _ _) (encE_one x) rfl rfl (by omega) (by have := hqs; simp at this ⊢; omega) ?_
          intro v1 W4 ho hg hown
          have hb := Lib.hid (hHeld.out.kept hg HNE.out)
          refine ⟨hb, ?_⟩
          clear hHeld
          have hHeld := hb
          clear hb
          have hQ4 := Lib.hid (qu_app HB.out HO.out ho hg hown)
          have hc4 : W4.cell? ⟨q, 1, none⟩ = some (.slice a l.length cap) := hQ4.out.1.cell 1
          have hf4 : W4.frozen? ⟨q, 1, none⟩ = false := hQ4.out.1.frozen 1
          clear ho hg hown
          obtain ⟨a1, cap1, rfl, hcap1, hcm1, -⟩ := owns_shape hQ4.out.2.1
          try simp only [Act.put, List.setIfInBounds_toArray, List.set_cons_zero, List.set_cons_succ]
          (refine takeW (i := 8) (v := ?_) rfl (by kernel_rfl) (by kernel_rfl) (by kernel_rfl) (fun _ _ _ h => h) (by rfl) (by assumption) ?_ ?_; rotate_left; (intro W hW; (try dsimp only at hW); go_simp; try with_reducible rfl); (try simp only [Act.put, List.setIfInBounds_toArray, List.set_cons_zero, List.set_cons_succ]))
          (refine takeW (i := 9) (v := ?_) rfl (by kernel_rfl) (by kernel_rfl) (by kernel_rfl) (fun _ _ _ h => h) (by rfl) (by assumption) ?_ ?_; rotate_left; (intro W hW; (try dsimp only at hW); go_simp; try with_reducible rfl); (try simp only [Act.put, List.setIfInBounds_toArray, List.set_cons_zero, List.set_cons_succ]))
          refine takeVs (i := 10) rfl (by kernel_rfl) (by rfl) (exec_store1 (p := ⟨q, 1, none⟩) (v := .slice a1 (l.length + 1) cap1) F22 rfl rfl rfl rfl rfl hc4 hf4) (Lib.hid (hHeld.out.far (by simpa using HBQ.out) _)) ?_
          have hHeld : Hid (Blk (W4.setCell ⟨q, 1, none⟩ (.slice a1 (l.length + 1) cap1)) b 31 (encE x).toArray) := Lib.hid (hHeld.out.far (by simpa using HBQ.out) _)
          refine wpAnyH_done (by kernel_rfl) ?_ _
          have hQ5 := Lib.hid (qu_app_set hQ4.out)
          clear hQ4 hc4 hf4
          generalize W4.setCell ⟨q, 1, none⟩ (.slice a1 (l.length + 1) cap1) = W5 at *
          have c51 : W5.cell? ⟨q, 1, none⟩ = some (.slice a1 (l.length + 1) cap1) := hQ5.out.1.1.cell 1
          go_wp2_with (go_at_call 26; refine (rise_any q _ (l ++ [x]) now l.length W5 hQ5.out.1 (by simp) (by simp; omega)).mono ?_; go_must (rintro e w' ⟨rfl, hq6, hk6⟩; have HQ6 := Lib.hid hq6; have HK6 := Lib.hid hk6; clear hq6 hk6 c51))
          go_ret
          exact HP.out _ _ HQ6.out (qs_push HG2.out.out hQ5.out HK6.out)
end Go.Proofs.Ytbmnecdkjkffdaa
