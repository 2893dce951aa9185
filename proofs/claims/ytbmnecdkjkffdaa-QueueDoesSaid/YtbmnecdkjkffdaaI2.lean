/- The document's queue: New, Push, Pop, Drop. -/
import Derived.Test.YtbmnecdkjkffdaaI1
namespace Go.Proofs.Ytbmnecdkjkffdaa
open Go.RowKit Go.Shelf

/-- The document's queue at r. -/
def RQ (w : World) (r : Nat) (v : Value) (L : List Ev) (now : Int) : Prop := Blk w r 66 #[v, .int .i64 now] ∧ Rd encE 4 w v L
theorem RQ.keep {w w' : World} {r : Nat} {v : Value} {L : List Ev} {now : Int} (h : RQ w r v L now) (hb : Below w.heap.size w w') : RQ w' r v L now := ⟨h.1.keep hb, h.2.below hb⟩
theorem Rd.kept {W W' : World} {v : Value} {l : List Ev} {row : Option Nat} (h : Rd encE 4 W v l) (hg : W.grownBy W' row) (hne : ∀ b o n c, v = .slice (some ⟨b, o, none⟩) n c → l = [] ∨ some b ≠ row) : Rd encE 4 W' v l := by
  obtain ⟨a, cap, rfl, h1, h2, h3, h5, h4⟩ := h
  refine ⟨a, cap, rfl, h1, h2, h3, h5, ?_⟩
  rcases h4 with h4 | ⟨b, off, rfl, hlt, hc⟩
  · exact .inl h4
  · rcases hne _ _ _ _ rfl with h | h
    · exact .inl h
    · refine .inr ⟨b, off, rfl, Nat.lt_of_lt_of_le hlt hg.size, fun j x hj i u hu => ?_⟩
      rw [World.cell?_of_block (hg.block b hlt h)]
      exact hc j x hj i u hu
/-- v' lies where v lies, or in memory that is new. -/
def Fr (w : World) (v v' : Value) : Prop := ∀ b o n c, v' = .slice (some ⟨b, o, none⟩) n c → (∃ o n c, v = .slice (some ⟨b, o, none⟩) n c) ∨ w.heap.size ≤ b
theorem Fr.refl (w : World) (v : Value) : Fr w v v := fun _ _ _ _ h => .inl ⟨_, _, _, h⟩
theorem Fr.new {w W : World} {e : TypeId} {size n : Nat} {v v' : Value} {xs : List Value} (h : W.ownsRow w.heap.size e size v' n xs) : Fr w v v' := fun b o n c e => .inr (h.lt b (by rw [e]; rfl)).1
/-- What the document's Push leaves. -/
def rpushL (L : List Ev) (now : Int) (x : Ev) : List Ev := if pushE L now x = 0 then putE L x else L
def RPush (r : Nat) (v : Value) (L : List Ev) (now : Int) (x : Ev) (w : World) (e : Ending) (w' : World) : Prop :=
  e = .returned (.int .i64 (pushE L now x)) ∧ ∃ v', RQ w' r v' (rpushL L now x) now ∧ w.grownBy w' (some r) ∧ ((pushE L now x ≠ 0 ∧ v' = v) ∨ ∀ b o n c, v' = .slice (some ⟨b, o, none⟩) n c → w.heap.size ≤ b)
theorem rq_put {w W4 : World} {r : Nat} {v v4 : Value} {now : Int} {X : List Ev} (hb : Blk W4 r 66 #[v, .int .i64 now]) (ho : W4.ownsRow w.heap.size 31 4 v4 X.length (X.flatMap encE)) (hr : r < w.heap.size) (hl : X.length ≤ 140737488351232) : RQ (W4.setCell ⟨r, 0, none⟩ v4) r v4 X now := by
  refine ⟨hb.set 0 v4, Rd.of_owns encE_len (base := w.heap.size) (e := 31) ?_ hl⟩
  exact ho.kept (grownBy_setCell W4 ⟨r, 0, none⟩ v4) (.inr (ownsRow_ne ho hr))
theorem grow_set {w W : World} {r i : Nat} {v : Value} (h : Below w.heap.size w W) : w.grownBy (W.setCell ⟨r, i, none⟩ v) (some r) :=
  grow_trans (grow_none h) (grownBy_setCell W ⟨r, i, none⟩ v)
set_option maxRecDepth 100000 in
set_option maxHeartbeats 1600000 in
theorem rpush_any (r : Nat) (v : Value) (L : List Ev) (now : Int) (x : Ev) (w : World) (h : RQ w r v L now) (hl : L.length ≤ 16384) :
    Calls Try.prog 33 #[.pointer (some ⟨r, 0, none⟩), .agg (encE x).toArray] w (RPush r v L now x w) := by
  have HP0 : Hid (∀ w', Below w.heap.size w w' → ∀ k, pushE L now x = k → k ≠ 0 → RPush r v L now x w (.returned (.int .i64 k)) w') := fun w' hg k hk h0 => by
    refine ⟨by rw [hk], v, ?_, grow_none hg, .inl ⟨by rw [hk]; exact h0, rfl⟩⟩
    unfold rpushL
    rw [hk, if_neg h0]
    exact h.keep hg
  obtain ⟨a, cap, rfl, hcap, hcm, -⟩ := h.2.shape
  have hr0 : r < w.heap.size := h.1.lt
  have HB1 := Lib.hid (below1 w (.cells (encE x).toArray 31))
  have HX1 : Hid (Blk (w.alloc (.cells (encE x).toArray 31)) w.heap.size 31 (encE x).toArray) := Blk.new' rfl
  have HQ1 := Lib.hid (h.keep HB1.out)
  have HBR : Hid (w.heap.size ≠ r) := by show _ ≠ _; omega
  have HZ1 : Hid ((w.alloc (.cells (encE x).toArray 31)).heap.size = w.heap.size + 1) := by show _ = _; simp
  clear h
  go_enter Try.func33, Try.ntmps33
  go_upto_region 1 with fail
  change Code.wp _ _ _ _ (w.alloc (.cells (encE x).toArray 31))
  generalize w.alloc (.cells (encE x).toArray 31) = W0 at *
  obtain ⟨b, hb⟩ : ∃ b, w.heap.size = b := ⟨_, rfl⟩
  rw [hb]
  rw [hb] at HX1 HBR hr0 HZ1
  have HBS := Lib.hid hb
  clear hb
  have cb : W0.cell? ⟨b, 0, none⟩ = some (.int .i64 x.a) := HX1.out.list0 rfl
  have cr0 : W0.cell? ⟨r, 0, none⟩ = some (.slice a L.length cap) := HQ1.out.1.cell 0
  have cr1 : W0.cell? ⟨r, 1, none⟩ = some (.int .i64 now) := HQ1.out.1.cell 1
  by_cases h1 : x.a < now
  · have HE : Hid (pushE L now x = 140) := by show _ = _; unfold pushE; rw [if_pos (.inl h1)]
    have hd1 : decide (x.a < now) = true := decide_eq_true h1
    go_quiet (fail)
    go_wp2
    go_ret
    exact HP0.out _ ((Gw.refl W0).drewN _ |>.below _ (Nat.le_refl _) |> fun h => HB1.out.trans (h.mono HB1.out.size)) _ HE.out (by decide)
  · have hd1 : decide (x.a < now) = false := decide_eq_false h1
    by_cases h2 : 1099511627776 < x.a
    · have HE : Hid (pushE L now x = 140) := by show _ = _; unfold pushE; rw [if_pos (.inr h2)]
      have hd2 : decide (1099511627776 < x.a) = true := decide_eq_true h2
      go_quiet (fail)
      go_wp2
      go_ret
      exact HP0.out _ ((Gw.refl W0).drewN _ |>.below _ (Nat.le_refl _) |> fun h => HB1.out.trans (h.mono HB1.out.size)) _ HE.out (by decide)
    · have hd2 : decide (1099511627776 < x.a) = false := decide_eq_false h2
      go_quiet (fail)
      by_cases h3 : 16384 ≤ L.length
      · have HE : Hid (pushE L now x = 3) := by show _ = _; unfold pushE; rw [if_neg (by omega), if_pos h3]
        have hd3 : decide (16384 ≤ L.length) = true := decide_eq_true h3
        go_wp2
        go_ret
        exact HP0.out _ ((Gw.refl W0).drewN _ |>.below _ (Nat.le_refl _) |> fun h => HB1.out.trans (h.mono HB1.out.size)) _ HE.out (by decide)
      · have hd3 : decide (16384 ≤ L.length) = false := decide_eq_false h3
        have HP : Hid (∀ w' v', RQ w' r v' (putE L x) now → w.grownBy w' (some r) → (∀ b o n c, v' = .slice (some ⟨b, o, none⟩) n c → w.heap.size ≤ b) → RPush r (.slice a L.length cap) L now x w (.returned (.int .i64 0)) w') := fun w' v' g1 g2 g3 => by
          have hE : pushE L now x = 0 := by unfold pushE; rw [if_neg (by omega), if_neg h3]
          refine ⟨by rw [hE], v', ?_, g2, .inr g3⟩
          unfold rpushL
          rw [if_pos hE]
          exact g1
        go_upto_region 5 with fail
        have hb2 : Below W0.heap.size W0 (W0.drewN nq).drew := ((Gw.refl W0).drewN nq).drew.below _ (Nat.le_refl _)
        have HB2 := Lib.hid (HB1.out.trans (hb2.mono HB1.out.size))
        have hS : Hid (Blk (W0.drewN nq).drew b 31 (encE x).toArray) := HX1.out.keep hb2
        have HQ := Lib.hid (HQ1.out.keep hb2)
        clear hb2 cb cr0 cr1 HB1 HX1 HQ1
        generalize W0.drewN nq = W1 at *
        refine wp_region_held_drew (S := fun X => Hid (Blk X b 31 (encE x).toArray)) (by kernel_rfl) hS (fun hHeld => ?_)
        (refine takeW (i := 0) (v := ?_) rfl (by kernel_rfl) (by kernel_rfl) (by kernel_rfl) (fun _ _ _ h => h) (by rfl) (by assumption) ?_ ?_; rotate_left; (intro W hW; (try dsimp only at hW); go_simp; try with_reducible rfl); (try simp only [Act.put, List.setIfInBounds_toArray, List.set_cons_zero, List.set_cons_succ]))
        (refine takeW (i := 1) (v := ?_) rfl (by kernel_rfl) (by kernel_rfl) (by kernel_rfl) (fun _ _ _ h => h) (by rfl) (by assumption) ?_ ?_; rotate_left; (intro W hW; (try dsimp only at hW); go_simp; try with_reducible rfl); (try simp only [Act.put, List.setIfInBounds_toArray, List.set_cons_zero, List.set_cons_succ]))
        (refine takeW (i := 2) (v := ?_) rfl (by kernel_rfl) (by kernel_rfl) (by kernel_rfl) (fun _ _ _ h => h) (by rfl) (by assumption) ?_ ?_; rotate_left; (intro W hW; (try dsimp only at hW); go_simp; try with_reducible rfl); (try simp only [Act.put, List.setIfInBounds_toArray, List.set_cons_zero, List.set_cons_succ]))
        (refine takeW (i := 3) (v := ?_) rfl (by kernel_rfl) (by kernel_rfl) (by kernel_rfl) (fun _ _ _ h => h) (by rfl) (by assumption) ?_ ?_; rotate_left; (intro W hW; (try dsimp only at hW); go_simp; try with_reducible rfl); (try simp only [Act.put, List.setIfInBounds_toArray, List.set_cons_zero, List.set_cons_succ]))
        (refine takeW (i := 5) rfl (by kernel_rfl) (by kernel_rfl) (by kernel_rfl) (fun _ _ _ h => h) (by rfl) (by assumption) (fun W hW => exec_loadW W31 rfl rfl (cs := encE x) rfl hW.out.list) ?_; (try simp only [Act.put, List.setIfInBounds_toArray, List.set_cons_zero, List.set_cons_succ]))
        refine takeV (i := 4) rfl (by kernel_rfl) (by rfl) (exec_load1 (v := .slice a L.length cap) F22 rfl rfl (HQ.out.1.cell 0)) (hHeld) ?_
        (try simp only [Act.put, List.setIfInBounds_toArray, List.set_cons_zero, List.set_cons_succ])
        have hHeld : Hid (Blk W1.drew b 31 (encE x).toArray) := hHeld
        refine takeC (i := 6) rfl (by kernel_rfl) (by rfl) (fun K hK => ?_)
        go_simp
        refine (rput_any _ _ x _ HQ.out.2 (by omega)).mono ?_
        rintro e W4 ⟨v4, rfl, ho4, hb4⟩
        have HO4 := Lib.hid ho4
        have HB4 := Lib.hid hb4
        clear ho4 hb4
        have hb := Lib.hid (hHeld.out.keep HB4.out)
        refine hK.out _ _ hb (fun hHeld => ?_)
        clear hK K hb
        obtain ⟨a4, cap4, rfl, hcap4, hcm4, -⟩ := owns_shape HO4.out
        have hBL := Lib.hid ((HQ.out.1).keep HB4.out)
        have hc4 : W4.cell? ⟨r, 0, none⟩ = some (.slice a L.length cap) := hBL.out.cell 0
        have hf4 : W4.frozen? ⟨r, 0, none⟩ = false := hBL.out.frozen 0
        try simp only [Act.put, List.setIfInBounds_toArray, List.set_cons_zero, List.set_cons_succ]
        (refine takeW (i := 7) (v := ?_) rfl (by kernel_rfl) (by kernel_rfl) (by kernel_rfl) (fun _ _ _ h => h) (by rfl) (by assumption) ?_ ?_; rotate_left; (intro W hW; (try dsimp only at hW); go_simp; try with_reducible rfl); (try simp only [Act.put, List.setIfInBounds_toArray, List.set_cons_zero, List.set_cons_succ]))
        (refine takeW (i := 8) (v := ?_) rfl (by kernel_rfl) (by kernel_rfl) (by kernel_rfl) (fun _ _ _ h => h) (by rfl) (by assumption) ?_ ?_; rotate_left; (intro W hW; (try dsimp only at hW); go_simp; try with_reducible rfl); (try simp only [Act.put, List.setIfInBounds_toArray, List.set_cons_zero, List.set_cons_succ]))
        refine takeVs (i := 9) rfl (by kernel_rfl) (by rfl) (exec_store1 (p := ⟨r, 0, none⟩) (v := .slice a4 (putE L x).length cap4) F22 rfl rfl rfl rfl rfl hc4 hf4) (Lib.hid (hHeld.out.far (by simpa using HBR.out) _)) ?_
        have hHeld : Hid (Blk (W4.setCell ⟨r, 0, none⟩ (.slice a4 (putE L x).length cap4)) b 31 (encE x).toArray) := Lib.hid (hHeld.out.far (by simpa using HBR.out) _)
        refine wpAnyH_done (by kernel_rfl) ?_ _
        have hwz : w.heap.size ≤ W1.drew.heap.size := HB2.out.size
        have HRQ := Lib.hid (rq_put (w := W1.drew) hBL.out HO4.out (by have := HBS.out; omega) (by rw [putE_len]; omega))
        have HBE := Lib.hid (HB2.out.trans (HB4.out.mono HB2.out.size))
        have HFR : Hid (∀ b o n c, Value.slice a4 (putE L x).length cap4 = .slice (some ⟨b, o, none⟩) n c → w.heap.size ≤ b) := fun b o n c e => Nat.le_trans HB2.out.size (HO4.out.lt b (by rw [e]; rfl)).1
        clear hc4 hf4 hBL
        go_wp2
        go_ret
        exact HP.out _ _ HRQ.out (grow_set HBE.out) HFR.out

def RPop0 (w : World) (e : Ending) (w' : World) : Prop := e = .returned (.tuple #[.agg (encE E0).toArray, .int .i64 4]) ∧ Below w.heap.size w w'
def RPop (r : Nat) (v : Value) (L : List Ev) (x : Ev) (w : World) (e : Ending) (w' : World) : Prop :=
  e = .returned (.tuple #[.agg (encE x).toArray, .int .i64 0]) ∧ ∃ v', RQ w' r v' L x.a ∧ w.grownBy w' (some r) ∧ Fr w v v'
set_option maxRecDepth 100000 in
set_option maxHeartbeats 1600000 in
theorem rpop_none (r : Nat) (v : Value) (now : Int) (w : World) (h : RQ w r v [] now) : Calls Try.prog 34 #[.pointer (some ⟨r, 0, none⟩)] w (RPop0 w) := by
  have HP : Hid (∀ w', Below w.heap.size w w' → RPop0 w (.returned (.tuple #[.agg (encE E0).toArray, .int .i64 4])) w') := fun w' hg => ⟨rfl, hg⟩
  have HB : Hid (Blk (w.alloc (.cells (encE E0).toArray 31)) w.heap.size 31 (encE E0).toArray) := Blk.new' rfl
  have hq := h.keep (below1 w (.cells (encE E0).toArray 31))
  obtain ⟨a, cap, rfl, hcap, hcm, -⟩ := h.2.shape
  have c1 : (w.alloc (.cells (encE E0).toArray 31)).cell? ⟨r, 0, none⟩ = some (.slice a ([] : List Ev).length cap) := hq.1.cell 0
  have HBW : Hid (∀ W1, (w.alloc (.cells (encE E0).toArray 31)).grownBy W1 (some w.heap.size) → Below w.heap.size w W1) := fun W1 hg => (below1 w _).grown hg (by simp) (fun k e => by cases e; exact Nat.le_refl _)
  clear h hq hcap
  go_enter Try.func34, Try.ntmps34
  go_upto_region 1 with fail
  change Code.wp _ _ _ _ (w.alloc (.cells (encE E0).toArray 31))
  generalize w.alloc (.cells (encE E0).toArray 31) = W0 at *
  go_wp2_with (refine wpList_storeW' W31 rfl rfl HB.out rfl (encE E0) rfl rfl (encE_one _) rfl ?_; intro W1 hb1 hg1; have HB1 := Lib.hid hb1; have HG1 := Lib.hid hg1; clear hb1 hg1 c1)
  refine bodyPost_ret (results_cell2 rfl W31 rfl (cs := encE E0) rfl HB1.out.list) rfl ?_
  exact HP.out _ (HBW.out _ HG1.out)
set_option maxRecDepth 100000 in
set_option maxHeartbeats 1600000 in
theorem rpop_some (r : Nat) (v : Value) (L : List Ev) (x : Ev) (now : Int) (w : World) (h : RQ w r v (x :: L) now) (hl : L.length ≤ 16384) : Calls Try.prog 34 #[.pointer (some ⟨r, 0, none⟩)] w (RPop r v L x w) := by
  obtain ⟨a, cap, hv, hcap, hcm, -⟩ := h.2.shape
  subst hv
  obtain ⟨bl, off, rfl, hbl, hc⟩ := h.2.row (by simp)
  have HP : Hid (∀ w' v', RQ w' r v' L x.a → w.grownBy w' (some r) → Fr w (.slice (some ⟨bl, off, none⟩) (x :: L).length cap) v' → RPop r (.slice (some ⟨bl, off, none⟩) (x :: L).length cap) L x w (.returned (.tuple #[.agg (encE x).toArray, .int .i64 0])) w') := fun w' v' h1 h2 h3 => ⟨rfl, v', h1, h2, h3⟩
  have hrd := h.2.drop 1 (by simp)
  simp only [List.drop_succ_cons, List.drop_zero, Nat.one_mul] at hrd
  have HRD := Lib.hid hrd
  obtain ⟨m, hm⟩ : ∃ m, m = L.length := ⟨_, rfl⟩
  have hxl : (x :: L).length = m + 1 := by rw [hm]; rfl
  rw [hxl] at HP HRD hcap ⊢
  simp only [Nat.add_sub_cancel] at HRD
  have HM := Lib.hid hm
  rw [← hm] at hl
  have hr0 : r < w.heap.size := h.1.lt
  have HBR := Lib.hid h.1
  rw [hxl] at HBR
  have HC : Hid (∀ j u, (encE x)[j]? = some u → w.cell? ⟨bl, off + j, none⟩ = some u) := fun j u hu => by have := hc 0 x rfl j u hu; rwa [Nat.zero_mul, Nat.add_zero] at this
  have HB0 : Hid (Blk (w.alloc (.cells (encE E0).toArray 31)) w.heap.size 31 (encE E0).toArray) := Blk.new' rfl
  have HE0 := Lib.hid (below1 w (.cells (encE E0).toArray 31))
  clear h hrd hc hm hxl
  go_enter Try.func34, Try.ntmps34
  go_upto_region 1 with fail
  change Code.wp _ _ _ _ (w.alloc (.cells (encE E0).toArray 31))
  have HZ0 : Hid ((w.alloc (.cells (encE E0).toArray 31)).heap.size = w.heap.size + 1) := by show _ = _; simp
  generalize w.alloc (.cells (encE E0).toArray 31) = W0 at *
  obtain ⟨b, hb⟩ : ∃ b, w.heap.size = b := ⟨_, rfl⟩
  rw [hb]
  rw [hb] at HB0 hr0 HZ0 hbl
  have HBS := Lib.hid hb
  clear hb
  have cr : W0.cell? ⟨r, 0, none⟩ = some (.slice (some ⟨bl, off, none⟩) (m + 1) cap) := (HBR.out.keep HE0.out).cell 0
  have HC0 := Lib.hid (cells_below HC.out HE0.out)
  have hbz : b < W0.heap.size := by have := HZ0.out; omega
  have hm0 : ((m : Int) + 1 == 0) = false := by rw [beq_eq_false_iff_ne]; omega
  go_upto_region 4 with (first | ((with_reducible show wpList _ _ _ (Oper.mk (some 17) _ _ _ _ _ :: _) _ _); refine wpList_loadW W31 rfl rfl rfl (encE x) rfl HC0.out ?_) | ((with_reducible show wpList _ _ _ (Oper.mk none (Op.store 31 _ _) _ _ _ _ :: _) _ _); refine wpList_boxW W31 rfl rfl rfl (encE x) rfl rfl (encE_one x) rfl ?_; intro W1 hbx hbel hsz; have HBX := Lib.hid hbx; have HE := hbel; clear hbx hbel hsz))
  clear hm0 cr
  obtain ⟨c, hc⟩ : ∃ c, W0.heap.size = c := ⟨_, rfl⟩
  rw [hc]
  rw [hc] at HBX HZ0 hbz
  clear hc
  have HE1 := Lib.hid (bt HE0.out HE)
  have HBR1 := Lib.hid (HBR.out.keep HE1.out)
  have HB1 := Lib.hid (HB0.out.keep HE)
  clear HE0 HE HB0 HC0
  have cr1 : W1.cell? ⟨r, 0, none⟩ = some (.slice (some ⟨bl, off, none⟩) (m + 1) cap) := HBR1.out.cell 0
  have fr1 : W1.frozen? ⟨r, 0, none⟩ = false := HBR1.out.frozen 0
  have HNR : Hid (bl ≠ r) := fun e => by
    have h1 := HBR.out
    have h2 := HC.out 0 _ rfl
    subst e
    rw [Nat.add_zero, h1.cell off] at h2
    match off, h2 with
    | 0, h2 => simp at h2
    | 1, h2 => have h3 := HC.out 1 _ rfl; rw [h1.cell 2] at h3; simp at h3
    | k + 2, h2 => simp at h2
  by_cases hcap1 : cap = 1
  · obtain rfl : m = 0 := by omega
    subst hcap1
    have hL0 : L = [] := List.eq_nil_of_length_eq_zero HM.out.symm
    subst hL0
    have HRW : Hid (Rd encE 4 W1 (.slice (some ⟨bl, off, none⟩) 0 0) []) := ⟨_, _, rfl, by simp, by simp, by simp, by simp, .inl rfl⟩
    have HFR : Hid (Fr w (.slice (some ⟨bl, off, none⟩) (0 + 1) 1) (.slice (some ⟨bl, off, none⟩) 0 0)) := fun b o n c e => by
      simp only [Value.slice.injEq, Option.some.injEq, Addr.mk.injEq] at e
      obtain ⟨⟨rfl, -, -⟩, -, -⟩ := e
      exact .inl ⟨_, _, _, rfl⟩
    have hbr : b ≠ r := by omega
    have hcr : c ≠ r := by omega
    have HRS : Hid (RQ ((W1.setCell ⟨r, 0, none⟩ (.slice (some ⟨bl, off, none⟩) 0 0)).setCell ⟨r, 1, none⟩ (.int .i64 x.a)) r (.slice (some ⟨bl, off, none⟩) 0 0) [] x.a) := by
      refine ⟨(HBR1.out.set 0 _).set 1 _, ?_⟩
      refine HRW.out.far (g := r) (fun o n' c' e => ?_) (fun k hk => (Below.heap_setCell _ ⟨r, 1, none⟩ _ k hk).trans (Below.heap_setCell _ ⟨r, 0, none⟩ _ k hk)) (by simp)
      simp only [Value.slice.injEq, Option.some.injEq, Addr.mk.injEq] at e
      obtain ⟨⟨rfl, -, -⟩, -, -⟩ := e
      exact absurd rfl HNR.out
    have HGS : Hid (w.grownBy ((W1.setCell ⟨r, 0, none⟩ (.slice (some ⟨bl, off, none⟩) 0 0)).setCell ⟨r, 1, none⟩ (.int .i64 x.a)) (some r)) := grow_trans (grow_set HE1.out) (grownBy_setCell _ ⟨r, 1, none⟩ _)
    have HBb : Hid (Blk ((W1.setCell ⟨r, 0, none⟩ (.slice (some ⟨bl, off, none⟩) 0 0)).setCell ⟨r, 1, none⟩ (.int .i64 x.a)) b 31 (encE E0).toArray) := (HB1.out.far hbr _).far hbr _
    have HBc : Hid (Blk ((W1.setCell ⟨r, 0, none⟩ (.slice (some ⟨bl, off, none⟩) 0 0)).setCell ⟨r, 1, none⟩ (.int .i64 x.a)) c 31 (encE x).toArray) := (HBX.out.far hcr _).far hcr _
    have ce : W1.cell? ⟨c, 0, none⟩ = some (.int .i64 x.a) := HBX.out.list0 rfl
    have cr2 : W1.cell? ⟨r, 1, none⟩ = some (.int .i64 now) := HBR1.out.cell 1
    have fr2 : W1.frozen? ⟨r, 1, none⟩ = false := HBR1.out.frozen 1
    have hcz : c < W1.heap.size := HBX.out.lt
    have hrz : r < W1.heap.size := HBR1.out.lt
    go_upto_region 6 with fail
    clear cr1 fr1 ce cr2 fr2 HB1 HBX HBR1 HE1
    generalize (W1.setCell ⟨r, 0, none⟩ (.slice (some ⟨bl, off, none⟩) 0 0)).setCell ⟨r, 1, none⟩ (.int .i64 x.a) = W5 at *
    go_wp2_with (first | ((with_reducible show wpList _ _ _ (Oper.mk (some 31) _ _ _ _ _ :: _) _ _); refine wpList_loadW W31 rfl rfl rfl (encE x) rfl HBc.out.list ?_) | (refine wpList_storeW' W31 rfl rfl HBb.out rfl (encE x) rfl rfl (encE_one _) rfl ?_; intro W8 hb8 hg8; have HB8 := Lib.hid hb8; have HG8 := Lib.hid hg8; clear hb8 hg8))
    refine bodyPost_ret (results_cell2 rfl W31 rfl (cs := encE x) rfl HB8.out.list) rfl ?_
    refine HP.out _ _ ⟨HRS.out.1.kept HG8.out (by rw [ne_eq, Option.some.injEq]; exact fun e => hbr e.symm), HRS.out.2.kept HG8.out (fun b' o n' c' e => .inr ?_)⟩ ⟨HG8.out.os.trans HGS.out.os, HG8.out.tape.trans HGS.out.tape, HG8.out.output.trans HGS.out.output, Nat.le_trans HGS.out.size HG8.out.size, fun k hk hne => ?_⟩ HFR.out
    · simp only [Value.slice.injEq, Option.some.injEq, Addr.mk.injEq] at e
      obtain ⟨⟨rfl, -, -⟩, -, -⟩ := e
      rw [ne_eq, Option.some.injEq]
      omega
    · refine (HG8.out.block k (Nat.lt_of_lt_of_le hk HGS.out.size) (fun e => ?_)).trans (HGS.out.block k hk hne)
      cases e
      have := HBS.out
      omega
  · have HRW : Hid (Rd encE 4 W1 (.slice (some ⟨bl, off + 4, none⟩) m (cap - 1)) L) := HRD.out.below HE1.out
    have HFR : Hid (Fr w (.slice (some ⟨bl, off, none⟩) (m + 1) cap) (.slice (some ⟨bl, off + 4, none⟩) m (cap - 1))) := fun b o n c e => by
      simp only [Value.slice.injEq, Option.some.injEq, Addr.mk.injEq] at e
      obtain ⟨⟨rfl, -, -⟩, -, -⟩ := e
      exact .inl ⟨_, _, _, rfl⟩
    have hcle : 1 ≤ cap := by omega
    have hbr : b ≠ r := by omega
    have hcr : c ≠ r := by omega
    have HRS : Hid (RQ ((W1.setCell ⟨r, 0, none⟩ (.slice (some ⟨bl, off + 4, none⟩) m (cap - 1))).setCell ⟨r, 1, none⟩ (.int .i64 x.a)) r (.slice (some ⟨bl, off + 4, none⟩) m (cap - 1)) L x.a) := by
      refine ⟨(HBR1.out.set 0 _).set 1 _, ?_⟩
      refine HRW.out.far (g := r) (fun o n' c' e => ?_) (fun k hk => (Below.heap_setCell _ ⟨r, 1, none⟩ _ k hk).trans (Below.heap_setCell _ ⟨r, 0, none⟩ _ k hk)) (by simp)
      simp only [Value.slice.injEq, Option.some.injEq, Addr.mk.injEq] at e
      obtain ⟨⟨rfl, -, -⟩, -, -⟩ := e
      exact absurd rfl HNR.out
    have HGS : Hid (w.grownBy ((W1.setCell ⟨r, 0, none⟩ (.slice (some ⟨bl, off + 4, none⟩) m (cap - 1))).setCell ⟨r, 1, none⟩ (.int .i64 x.a)) (some r)) := grow_trans (grow_set HE1.out) (grownBy_setCell _ ⟨r, 1, none⟩ _)
    have HBb : Hid (Blk ((W1.setCell ⟨r, 0, none⟩ (.slice (some ⟨bl, off + 4, none⟩) m (cap - 1))).setCell ⟨r, 1, none⟩ (.int .i64 x.a)) b 31 (encE E0).toArray) := (HB1.out.far hbr _).far hbr _
    have HBc : Hid (Blk ((W1.setCell ⟨r, 0, none⟩ (.slice (some ⟨bl, off + 4, none⟩) m (cap - 1))).setCell ⟨r, 1, none⟩ (.int .i64 x.a)) c 31 (encE x).toArray) := (HBX.out.far hcr _).far hcr _
    have ce : W1.cell? ⟨c, 0, none⟩ = some (.int .i64 x.a) := HBX.out.list0 rfl
    have cr2 : W1.cell? ⟨r, 1, none⟩ = some (.int .i64 now) := HBR1.out.cell 1
    have fr2 : W1.frozen? ⟨r, 1, none⟩ = false := HBR1.out.frozen 1
    have hcz : c < W1.heap.size := HBX.out.lt
    have hrz : r < W1.heap.size := HBR1.out.lt
    go_upto_region 6 with fail
    clear cr1 fr1 ce cr2 fr2 HB1 HBX HBR1 HE1
    generalize (W1.setCell ⟨r, 0, none⟩ (.slice (some ⟨bl, off + 4, none⟩) m (cap - 1))).setCell ⟨r, 1, none⟩ (.int .i64 x.a) = W5 at *
    go_wp2_with (first | ((with_reducible show wpList _ _ _ (Oper.mk (some 31) _ _ _ _ _ :: _) _ _); refine wpList_loadW W31 rfl rfl rfl (encE x) rfl HBc.out.list ?_) | (refine wpList_storeW' W31 rfl rfl HBb.out rfl (encE x) rfl rfl (encE_one _) rfl ?_; intro W8 hb8 hg8; have HB8 := Lib.hid hb8; have HG8 := Lib.hid hg8; clear hb8 hg8))
    refine bodyPost_ret (results_cell2 rfl W31 rfl (cs := encE x) rfl HB8.out.list) rfl ?_
    refine HP.out _ _ ⟨HRS.out.1.kept HG8.out (by rw [ne_eq, Option.some.injEq]; exact fun e => hbr e.symm), HRS.out.2.kept HG8.out (fun b' o n' c' e => .inr ?_)⟩ ⟨HG8.out.os.trans HGS.out.os, HG8.out.tape.trans HGS.out.tape, HG8.out.output.trans HGS.out.output, Nat.le_trans HGS.out.size HG8.out.size, fun k hk hne => ?_⟩ HFR.out
    · simp only [Value.slice.injEq, Option.some.injEq, Addr.mk.injEq] at e
      obtain ⟨⟨rfl, -, -⟩, -, -⟩ := e
      rw [ne_eq, Option.some.injEq]
      omega
    · refine (HG8.out.block k (Nat.lt_of_lt_of_le hk HGS.out.size) (fun e => ?_)).trans (HGS.out.block k hk hne)
      cases e
      have := HBS.out
      omega

def RDrop (r : Nat) (v : Value) (L : List Ev) (now node : Int) (w : World) (e : Ending) (w' : World) : Prop :=
  e = .returned (.int .i64 ((L.length : Int) - (keepL L node).length)) ∧ ∃ v', RQ w' r v' (keepL L node) now ∧ w.grownBy w' (some r) ∧ Fr w v v'
set_option maxRecDepth 100000 in
set_option maxHeartbeats 1600000 in
theorem rdrop_any (r : Nat) (v : Value) (L : List Ev) (now node : Int) (w : World) (h : RQ w r v L now) (hl : L.length ≤ 16384) :
    Calls Try.prog 35 #[.pointer (some ⟨r, 0, none⟩), .int .i64 node] w (RDrop r v L now node w) := by
  have HQ := Lib.hid h
  obtain ⟨a, cap, hv, hcap, hcm, -⟩ := h.2.shape
  subst hv
  have hr0 : r < w.heap.size := h.1.lt
  have HP : Hid (∀ w' v' n K, n = L.length → K = keepL L node → RQ w' r v' K now → w.grownBy w' (some r) → Fr w (.slice a L.length cap) v' → RDrop r (.slice a L.length cap) L now node w (.returned (.int .i64 ((n : Int) - (K.length : Int)))) w') := fun w' v' n K hn hk h1 h2 h3 => by
    subst hn hk
    exact ⟨rfl, v', h1, h2, h3⟩
  generalize RDrop r (.slice a L.length cap) L now node w = R at *
  obtain ⟨n, hn⟩ : ∃ n, n = L.length := ⟨_, rfl⟩
  rw [← hn] at hcap hl HQ
  have HN := Lib.hid hn
  clear h hn
  go_enter Try.func35, Try.ntmps35
  go_wp2_with fail
  go_loopw [5, 6] (fun u i wr => ∃ k : Nat, k ≤ n ∧ i = .int .i64 k ∧ Hid (wr.ownsRow w.heap.size 31 4 u (keepL (L.take k) node).length ((keepL (L.take k) node).flatMap encE)) ∧ Hid (Below w.heap.size w wr)) (fun _ i _ => n - (intOf i).toNat)
  case atStart => exact ⟨0, by omega, rfl, World.ownsRow_nil _ _ _ _, Below.refl _ _⟩
  case round =>
    obtain ⟨k, hk, rfl, HO, HB⟩ := hrel
    obtain ⟨W1, rfl⟩ : ∃ W1 : World, W1 = wr := ⟨_, rfl⟩
    have HQ1 := Lib.hid (HQ.out.keep HB.out)
    have c0 : W1.cell? ⟨r, 0, none⟩ = some (.slice a n cap) := HQ1.out.1.cell 0
    obtain ⟨oa, oc, rfl, hoc, hocm, -⟩ := owns_shape HO.out
    have hkl : (keepL (L.take k) node).length ≤ k := Nat.le_trans (List.length_filter_le _ _) (by simp; omega)
    have hwz := HB.out.size
    by_cases hlt : k < n
    · obtain ⟨x, hx⟩ : ∃ x, L[k]? = some x := ⟨_, List.getElem?_eq_getElem (by have := HN.out; omega)⟩
      obtain ⟨bl, off, rfl, hbl, hc⟩ := HQ1.out.2.row (by rintro rfl; simp at hx)
      have HC := Lib.hid (hc k x hx)
      have cn : W1.cell? ⟨bl, off + k * 4 + 2, none⟩ = some (.int .i64 x.n) := HC.out 2 _ rfl
      have HKS := Lib.hid (keepL_snoc node hx)
      obtain ⟨P, hP⟩ : ∃ P, P = keepL (L.take k) node := ⟨_, rfl⟩
      rw [← hP] at HO hkl HKS hoc
      rw [← hP]
      clear hx hc hP
      by_cases hxn : x.n = node
      · have e1 : (x.n == node) = true := by simpa using hxn
        have e2 : (x.n != node) = false := by simpa using hxn
        have HK2 : Hid (keepL (L.take (k + 1)) node = P) := by show _ = _; rw [HKS.out, if_pos e1]
        clear hxn e1 HKS
        go_wp2
        go_roundw
        case rel => exact ⟨k + 1, by omega, by go_num, by rw [HK2.out]; exact HO, HB⟩
        case measure => simp [intOf]; omega
      · have e1 : ¬ (x.n == node) = true := by simpa using hxn
        have e2 : (x.n != node) = true := by simpa using hxn
        have HK2 : Hid (keepL (L.take (k + 1)) node = P ++ [x]) := by show _ = _; rw [HKS.out, if_neg e1]
        clear hxn e1 HKS
        go_wp2_with (first | ((with_reducible show wpList _ _ _ (Oper.mk (some 34) _ _ _ _ _ :: _) _ _); refine wpList_loadW W31 rfl rfl rfl (encE x) rfl HC.out ?_) | ((with_reducible show wpList _ _ _ (Oper.mk (some 35) _ _ _ _ _ :: _) _ _); refine wpList_sliceW E22 (by decide) rfl rfl (encE x) rfl rfl ?_) | ((with_reducible show wpList _ _ _ (Oper.mk (some 36) _ _ _ _ _ :: _) _ _); refine wpList_app1 E22 rfl (.tmp 27) (.tmp 35) rfl HO.out (encE x) rfl (encE_one x) rfl rfl (by omega) hwz ?_; intro v2 w2 ho2 hg2; have HO2 := Lib.hid ho2; have HG2 := Lib.hid hg2; clear ho2 hg2))
        have HO3 : Hid (w2.ownsRow w.heap.size 31 4 v2 (keepL (L.take (k + 1)) node).length ((keepL (L.take (k + 1)) node).flatMap encE)) := by
          show w2.ownsRow w.heap.size 31 4 v2 (keepL (L.take (k + 1)) node).length ((keepL (L.take (k + 1)) node).flatMap encE)
          rw [HK2.out]
          simpa using HO2.out
        have HB3 := Lib.hid (below_app HB.out (Nat.le_refl _) HO.out HG2.out hwz)
        go_roundw
        case rel => exact ⟨k + 1, by omega, by go_num, HO3, HB3⟩
        case measure => simp [intOf]; omega
    · obtain rfl : n = k := by omega
      have HKE : Hid (keepL (L.take n) node = keepL L node) := by show _ = _; rw [List.take_of_length_le (by have := HN.out; omega)]
      rw [HKE.out] at HO hkl hoc
      rw [HKE.out]
      have f0 : W1.frozen? ⟨r, 0, none⟩ = false := HQ1.out.1.frozen 0
      have HRQ := Lib.hid (rq_put (w := w) HQ1.out.1 HO.out hr0 (by omega))
      have HFR : Hid (Fr w (.slice a n cap) (.slice oa (keepL L node).length oc)) := Fr.new HO.out
      have hd : decide (n < n) = false := by simp
      have HFR2 : Hid (Fr w (.slice a L.length cap) (.slice oa (keepL L node).length oc)) := by have := HFR.out; rw [HN.out] at this; exact this
      have HKK : Hid (keepL L node = keepL L node) := rfl
      have HFIN := Lib.hid (HP.out _ _ n (keepL L node) HN.out rfl HRQ.out (grow_set HB.out) HFR2.out)
      clear hlt hk HKE HRQ HFR HFR2 HP HO
      generalize (keepL L node).length = kl at *
      go_wp2
      exact HFIN.out
def RNewNone (l : List Ev) (w : World) (e : Ending) (w' : World) : Prop := e = .returned (.tuple #[.pointer none, .int .i64 (newE l)]) ∧ Below w.heap.size w w'
def RNewSome (l : List Ev) (w : World) (e : Ending) (w' : World) : Prop :=
  ∃ r v, e = .returned (.tuple #[.pointer (some ⟨r, 0, none⟩), .int .i64 0]) ∧ w.heap.size ≤ r ∧ RQ w' r v (sortE l) 0 ∧ (∀ b o n c, v = .slice (some ⟨b, o, none⟩) n c → w.heap.size ≤ b) ∧ Below w.heap.size w w'
/-- How far the second loop has come. -/
def RNewJ (l : List Ev) (r : Nat) (w : World) (k : Nat) (W : World) : Prop := ∃ v, RQ W r v (sortE (l.take k)) 0 ∧ (∀ b o n c, v = .slice (some ⟨b, o, none⟩) n c → w.heap.size ≤ b) ∧ Below w.heap.size w W
set_option maxRecDepth 100000 in
set_option maxHeartbeats 1600000 in
theorem rnew_any (v : Value) (l : List Ev) (w : World) (h : Rd encE 4 w v l) (hl : l.length ≤ 16384) : Calls Try.prog 22 #[v] w (fun e w' => if l.any badE = true then RNewNone l w e w' else RNewSome l w e w') := by
  generalize hR : (fun e w' => if l.any badE = true then RNewNone l w e w' else RNewSome l w e w') = R
  have HBAD : Hid (∀ w', l.any badE = true → Below w.heap.size w w' → R (.returned (.tuple #[.pointer none, .int .i64 140])) w') := fun w' hb hbel => by
    rw [← hR]
    simp only [hb, if_true]
    exact ⟨by unfold newE; rw [if_neg (by omega), if_pos hb], hbel⟩
  have HGOOD : Hid (∀ w' r, l.any badE = false → w.heap.size ≤ r → RNewJ l r w l.length w' → R (.returned (.tuple #[.pointer (some ⟨r, 0, none⟩), .int .i64 0])) w') := fun w' r hb h1 h2 => by
    rw [← hR]
    simp only [hb, Bool.false_eq_true, if_false]
    obtain ⟨v, g1, g2, g3⟩ := h2
    rw [List.take_length] at g1
    exact ⟨r, v, rfl, h1, g1, g2, g3⟩
  clear hR
  have HRD := Lib.hid h
  obtain ⟨a, cap, rfl, hcap, hcm, hlen⟩ := h.shape
  clear h
  obtain ⟨n, hn⟩ : ∃ n, n = l.length := ⟨_, rfl⟩
  rw [← hn] at hl hcap hlen HRD HGOOD
  rw [← hn]
  have HN := Lib.hid hn
  clear hn
  have HQ0 : Hid (RQ (w.alloc (.cells #[.slice none 0 0, .int .i64 0] 66)) w.heap.size (.slice none 0 0) [] 0) := ⟨Blk.new' rfl, Rd.nil _⟩
  have HW0 : Hid (Below w.heap.size w (w.alloc (.cells #[.slice none 0 0, .int .i64 0] 66))) := below1 _ _
  have HZ0 : Hid ((w.alloc (.cells #[.slice none 0 0, .int .i64 0] 66)).heap.size = w.heap.size + 1) := by show _ = _; simp
  go_enter Try.func22, Try.ntmps22
  go_upto_region 4 with fail
  generalize w.alloc (.cells #[.slice none 0 0, .int .i64 0] 66) = W0 at *
  obtain ⟨r, hq⟩ : ∃ r, w.heap.size = r := ⟨_, rfl⟩
  rw [hq]
  have HQB := Lib.hid hq
  rw [hq] at HQ0 HZ0
  clear hq
  go_wp2_with fail
  go_loopw [5] (fun i wr => ∃ k : Nat, k ≤ n ∧ i = .int .i64 k ∧ Hid ((l.take k).any badE = false) ∧ wr = W0) (fun i _ => n - (intOf i).toNat)
  case atStart => exact ⟨0, by omega, rfl, rfl, rfl⟩
  case round =>
    obtain ⟨k, hk, rfl, HA, hwr⟩ := hrel
    subst hwr
    by_cases hlt : k < n
    · obtain ⟨x, hx⟩ : ∃ x, l[k]? = some x := ⟨_, List.getElem?_eq_getElem (by have := HN.out; omega)⟩
      have HSN := Lib.hid (any_snoc badE hx)
      have HMEM : Hid (badE x = true → l.any badE = true) := fun h => List.any_eq_true.2 ⟨x, List.mem_of_getElem? hx, h⟩
      obtain ⟨bl, off, rfl, hbl, hc⟩ := (HRD.out.below HW0.out).row (by rintro rfl; simp at hx)
      have ca : wr.cell? ⟨bl, off + k * 4, none⟩ = some (.int .i64 x.a) := by have := hc k x hx 0 _ rfl; rwa [Nat.add_zero] at this
      clear hx hc
      by_cases h1 : x.a < 0
      · have hd1 : decide (x.a < 0) = true := decide_eq_true h1
        have HB : Hid (l.any badE = true) := HMEM.out (by unfold badE; exact decide_eq_true (.inl h1))
        go_wp2
        exact HBAD.out _ HB.out HW0.out
      · have hd1 : decide (x.a < 0) = false := decide_eq_false h1
        by_cases h2 : 1099511627776 < x.a
        · have hd2 : decide (1099511627776 < x.a) = true := decide_eq_true h2
          have HB : Hid (l.any badE = true) := HMEM.out (by unfold badE; exact decide_eq_true (.inr h2))
          go_wp2
          exact HBAD.out _ HB.out HW0.out
        · have hd2 : decide (1099511627776 < x.a) = false := decide_eq_false h2
          have HA2 : Hid ((l.take (k + 1)).any badE = false) := by
            show _ = _
            rw [HSN.out, HA.out]
            unfold badE
            simp only [Bool.false_or]
            exact decide_eq_false (by omega)
          clear HSN
          go_wp2
          go_roundw
          case rel => exact ⟨k + 1, by omega, by go_num, HA2, trivial⟩
          case measure => simp [intOf]; omega
    · obtain rfl : n = k := by omega
      have HG : Hid (l.any badE = false) := by
        show _ = _
        have h := HA.out
        rw [HN.out, List.take_length] at h
        exact h
      have HJ1 : Hid (RNewJ l r w 0 wr) := ⟨_, HQ0.out, fun b o n c e => by simp at e, HW0.out⟩
      have HQW : Hid (w.heap.size ≤ r) := by show _ ≤ _; have := HQB.out; omega
      have hd : decide (n < n) = false := by simp
      clear hlt hk HA HQ0 HZ0 HW0
      go_wp2_with fail
      clear hd
      go_loopw [6] (fun i wr => ∃ j : Nat, j ≤ n ∧ i = .int .i64 j ∧ Hid (RNewJ l r w j wr)) (fun i _ => n - (intOf i).toNat)
      case atStart => exact ⟨0, by omega, rfl, HJ1⟩
      case round =>
        clear HJ1
        obtain ⟨j, hj, rfl, HJ⟩ := hrel
        obtain ⟨W1, rfl⟩ : ∃ W1 : World, W1 = wr := ⟨_, rfl⟩
        by_cases hlt : j < n
        · obtain ⟨v, hQ, hF, hB⟩ := HJ.out
          obtain ⟨x, hx⟩ : ∃ x, l[j]? = some x := ⟨_, List.getElem?_eq_getElem (by have := HN.out; omega)⟩
          have HSN : Hid (sortE (l.take (j + 1)) = putE (sortE (l.take j)) x) := by show _ = _; rw [take_snoc hx, sortE_snoc]
          obtain ⟨bl, off, rfl, hbl, hc⟩ := (HRD.out.below hB).row (by rintro rfl; simp at hx)
          have hLj : (sortE (l.take j)).length ≤ 16384 := by rw [sortE_len]; simp; omega
          obtain ⟨L, hL⟩ : ∃ L, L = sortE (l.take j) := ⟨_, rfl⟩
          rw [← hL] at hQ HSN hLj
          have hS : Hid (∀ j' u, (encE x)[j']? = some u → W1.drew.cell? ⟨bl, off + j * 4 + j', none⟩ = some u) := hc j x hx
          have HQ1 := Lib.hid (hQ.keep (Below.refl W1.heap.size W1).drew)
          have HB1 : Hid (Below w.heap.size w W1.drew) := hB.drew
          have hrz : r < W1.heap.size := hQ.1.lt
          have hblr : bl ≠ r := fun e => by
            have h1 := HQ1.out.1
            have h2 := hS.out 1 _ rfl
            have h3 := hS.out 2 _ rfl
            subst e
            rw [h1.cell] at h2 h3
            generalize off + j * 4 = z at h2 h3
            match z, h2, h3 with
            | 0, h2, h3 => simp at h3
            | z + 1, h2, h3 => simp at h2
          have HBLR := Lib.hid hblr
          clear hx hc hL hQ hF hB HJ hblr
          have hlt2 : (j : Int) < (n : Int) := by omega
          go_upto_region 12 with fail
          refine wp_region_held_drew (S := fun X => Hid (∀ j' u, (encE x)[j']? = some u → X.cell? ⟨bl, off + j * 4 + j', none⟩ = some u)) (by kernel_rfl) hS (fun hHeld => ?_)
          (refine takeW (i := 0) (v := ?_) rfl (by kernel_rfl) (by kernel_rfl) (by kernel_rfl) (fun _ _ _ h => h) (by rfl) (by assumption) ?_ ?_; rotate_left; (intro W hW; (try dsimp only at hW); go_simp; try with_reducible rfl); (try simp only [Act.put, List.setIfInBounds_toArray, List.set_cons_zero, List.set_cons_succ]))
          (refine takeW (i := 1) (v := ?_) rfl (by kernel_rfl) (by kernel_rfl) (by kernel_rfl) (fun _ _ _ h => h) (by rfl) (by assumption) ?_ ?_; rotate_left; (intro W hW; (try dsimp only at hW); go_simp; try with_reducible rfl); (try simp only [Act.put, List.setIfInBounds_toArray, List.set_cons_zero, List.set_cons_succ]))
          (refine takeW (i := 2) (v := ?_) rfl (by kernel_rfl) (by kernel_rfl) (by kernel_rfl) (fun _ _ _ h => h) (by rfl) (by assumption) ?_ ?_; rotate_left; (intro W hW; (try dsimp only at hW); go_simp; try with_reducible rfl); (try simp only [Act.put, List.setIfInBounds_toArray, List.set_cons_zero, List.set_cons_succ]))
          (refine takeW (i := 3) (v := ?_) rfl (by kernel_rfl) (by kernel_rfl) (by kernel_rfl) (fun _ _ _ h => h) (by rfl) (by assumption) ?_ ?_; rotate_left; (intro W hW; (try dsimp only at hW); go_simp; try with_reducible rfl); (try simp only [Act.put, List.setIfInBounds_toArray, List.set_cons_zero, List.set_cons_succ]))
          (refine takeW (i := 5) (v := ?_) rfl (by kernel_rfl) (by kernel_rfl) (by kernel_rfl) (fun _ _ _ h => h) (by rfl) (by assumption) ?_ ?_; rotate_left; (intro W hW; (try dsimp only at hW); go_simp; try with_reducible rfl); (try simp only [Act.put, List.setIfInBounds_toArray, List.set_cons_zero, List.set_cons_succ]))
          (refine takeW (i := 6) (v := ?_) rfl (by kernel_rfl) (by kernel_rfl) (by kernel_rfl) (fun _ _ _ h => h) (by rfl) (by assumption) ?_ ?_; rotate_left; (intro W hW; (try dsimp only at hW); go_simp; try with_reducible rfl); (try simp only [Act.put, List.setIfInBounds_toArray, List.set_cons_zero, List.set_cons_succ]))
          (refine takeW (i := 7) (v := ?_) rfl (by kernel_rfl) (by kernel_rfl) (by kernel_rfl) (fun _ _ _ h => h) (by rfl) (by assumption) ?_ ?_; rotate_left; (intro W hW; (try dsimp only at hW); go_simp; try with_reducible rfl); (try simp only [Act.put, List.setIfInBounds_toArray, List.set_cons_zero, List.set_cons_succ]))
          (refine takeW (i := 8) rfl (by kernel_rfl) (by kernel_rfl) (by kernel_rfl) (fun _ _ _ h => h) (by rfl) (by assumption) (fun W hW => exec_loadW W31 rfl rfl (cs := encE x) rfl hW.out) ?_; (try simp only [Act.put, List.setIfInBounds_toArray, List.set_cons_zero, List.set_cons_succ]))
          refine takeV (i := 4) rfl (by kernel_rfl) (by rfl) (exec_load1 (v := v) F22 rfl rfl (HQ1.out.1.cell 0)) (hHeld) ?_
          (try simp only [Act.put, List.setIfInBounds_toArray, List.set_cons_zero, List.set_cons_succ])
          have hHeld : Hid (∀ j' u, (encE x)[j']? = some u → W1.drew.cell? ⟨bl, off + j * 4 + j', none⟩ = some u) := hHeld
          refine takeC (i := 9) rfl (by kernel_rfl) (by rfl) (fun K hK => ?_)
          go_simp
          refine (rput_any _ _ x _ HQ1.out.2 hLj).mono ?_
          rintro e W4 ⟨v4, rfl, ho4, hb4⟩
          have HO4 := Lib.hid ho4
          have HB4 := Lib.hid hb4
          clear ho4 hb4
          have hb := Lib.hid (cells_below hHeld.out HB4.out)
          refine hK.out _ _ hb (fun hHeld => ?_)
          clear hK K hb
          obtain ⟨a4, cap4, rfl, hcap4, hcm4, -⟩ := owns_shape HO4.out
          have hBL := Lib.hid ((HQ1.out.1).keep HB4.out)
          have hc4 : W4.cell? ⟨r, 0, none⟩ = some v := hBL.out.cell 0
          have hf4 : W4.frozen? ⟨r, 0, none⟩ = false := hBL.out.frozen 0
          try simp only [Act.put, List.setIfInBounds_toArray, List.set_cons_zero, List.set_cons_succ]
          (refine takeW (i := 10) (v := ?_) rfl (by kernel_rfl) (by kernel_rfl) (by kernel_rfl) (fun _ _ _ h => h) (by rfl) (by assumption) ?_ ?_; rotate_left; (intro W hW; (try dsimp only at hW); go_simp; try with_reducible rfl); (try simp only [Act.put, List.setIfInBounds_toArray, List.set_cons_zero, List.set_cons_succ]))
          (refine takeW (i := 11) (v := ?_) rfl (by kernel_rfl) (by kernel_rfl) (by kernel_rfl) (fun _ _ _ h => h) (by rfl) (by assumption) ?_ ?_; rotate_left; (intro W hW; (try dsimp only at hW); go_simp; try with_reducible rfl); (try simp only [Act.put, List.setIfInBounds_toArray, List.set_cons_zero, List.set_cons_succ]))
          refine takeVs (i := 12) rfl (by kernel_rfl) (by rfl) (exec_store1 (p := ⟨r, 0, none⟩) (v := .slice a4 (putE L x).length cap4) F22 rfl rfl rfl rfl rfl hc4 hf4) (Lib.hid (fun j' u hu => (World.cell?_of_block (Below.heap_setCell W4 ⟨r, 0, none⟩ _ bl HBLR.out)).trans (hHeld.out j' u hu))) ?_
          have hHeld : Hid (∀ j' u, (encE x)[j']? = some u → (W4.setCell ⟨r, 0, none⟩ (.slice a4 (putE L x).length cap4)).cell? ⟨bl, off + j * 4 + j', none⟩ = some u) := Lib.hid (fun j' u hu => (World.cell?_of_block (Below.heap_setCell W4 ⟨r, 0, none⟩ _ bl HBLR.out)).trans (hHeld.out j' u hu))
          refine wpAnyH_done (by kernel_rfl) ?_ _
          have hwz : w.heap.size ≤ W1.drew.heap.size := HB1.out.size
          have HRQ := Lib.hid (rq_put (w := W1.drew) hBL.out HO4.out hrz (by rw [putE_len]; omega))
          have HBE : Hid (Below w.heap.size w (W4.setCell ⟨r, 0, none⟩ (.slice a4 (putE L x).length cap4))) := (HB1.out.trans (HB4.out.mono HB1.out.size)).setCell HQW.out _
          have HFR : Hid (∀ b o n c, Value.slice a4 (putE L x).length cap4 = .slice (some ⟨b, o, none⟩) n c → w.heap.size ≤ b) := fun b o n c e => Nat.le_trans hwz (HO4.out.lt b (by rw [e]; rfl)).1
          have HJ2 : Hid (RNewJ l r w (j + 1) (W4.setCell ⟨r, 0, none⟩ (.slice a4 (putE L x).length cap4))) := ⟨_, by rw [HSN.out]; exact HRQ.out, HFR.out, HBE.out⟩
          clear hc4 hf4 hBL
          go_wp2
          go_roundw
          case rel => exact ⟨j + 1, by omega, by go_num, HJ2⟩
          case measure => simp [intOf]; omega
        · obtain rfl : n = j := by omega
          have HFIN : Hid (RNewJ l r w n W1) := HJ.out
          have hd : decide (n < n) = false := by simp
          clear HJ hlt
          go_wp2
          exact HGOOD.out _ r HG.out HQW.out HFIN.out
end Go.Proofs.Ytbmnecdkjkffdaa
