/- same: one thing is done to a queue and the document's. -/
import Derived.Test.YtbmnecdkjkffdaaI3
import Derived.Test.YtbmnecdkjkffdaaH5
import Derived.Deep.CutRange
namespace Go.Proofs.Ytbmnecdkjkffdaa
open Go.RowKit Go.Shelf

theorem qs_own {w w' : World} {q : Nat} {sv sv' : Value} (h : QS w w' q sv sv') : ∀ g, sv'.ownBlock = some g → sv.ownBlock = some g ∨ w.heap.size ≤ g := fun g e => by
  rcases h.own with e' | ⟨g', e', hg⟩
  · exact .inl (e'.symm.trans e)
  · rw [e'] at e
    cases e
    exact .inr hg
theorem push_fr {h : List Ev} {now : Int} {x : Ev} {W : World} {v v' : Value} (hf : (pushE (sortE h) now x ≠ 0 ∧ v' = v) ∨ ∀ b o n c, v' = .slice (some ⟨b, o, none⟩) n c → W.heap.size ≤ b) :
    ∀ b o n c, v' = .slice (some ⟨b, o, none⟩) n c → sortE (pushL h now x) = [] ∨ (sortE h ≠ [] ∧ ∃ o n c, v = .slice (some ⟨b, o, none⟩) n c) ∨ W.heap.size ≤ b := fun b o n c e => by
  rcases hf with ⟨h1, h2⟩ | h1
  · rw [(push_sort h now x).1] at h1
    rw [pushL_no h1]
    by_cases hl : sortE h = []
    · exact .inl hl
    · exact .inr (.inl ⟨hl, o, n, c, by rw [← h2]; exact e⟩)
  · exact .inr (.inr (h1 b o n c e))
theorem drop_fr {h : List Ev} {node : Int} {W : World} {v v' : Value} (hf : Fr W v v') : ∀ b o n c, v' = .slice (some ⟨b, o, none⟩) n c → sortE (dropL h node) = [] ∨ (sortE h ≠ [] ∧ ∃ o n c, v = .slice (some ⟨b, o, none⟩) n c) ∨ W.heap.size ≤ b := fun b o n c e => by
  by_cases hl : sortE h = []
  · refine .inl ?_
    rw [drop_sort, hl]
    rfl
  · rcases hf b o n c e with h1 | h1
    · exact .inr (.inl ⟨hl, h1⟩)
    · exact .inr (.inr h1)
theorem pop_fr {h : List Ev} {x : Ev} (hh : Heap h) (hx : h[0]? = some x) {W : World} {v v' : Value} (hf : Fr W v v') : ∀ b o n c, v' = .slice (some ⟨b, o, none⟩) n c → sortE (popL h) = [] ∨ (sortE h ≠ [] ∧ ∃ o n c, v = .slice (some ⟨b, o, none⟩) n c) ∨ W.heap.size ≤ b := fun b o n c e => by
  have hl : sortE h ≠ [] := by rw [pop_sort hh hx]; simp
  rcases hf b o n c e with h1 | h1
  · exact .inr (.inl ⟨hl, h1⟩)
  · exact .inr (.inr h1)
theorem first_at {W : World} {b o n c : Nat} {L : List Ev} {x : Ev} (h : Rd encE 4 W (.slice (some ⟨b, o, none⟩) n c) L) (hx : L[0]? = some x) : ∀ j u, (encE x)[j]? = some u → W.cell? ⟨b, o + j, none⟩ = some u := by
  obtain ⟨b', o', e, -, hc⟩ := h.row (by rintro rfl; simp at hx)
  simp only [Option.some.injEq, Addr.mk.injEq, and_true] at e
  obtain ⟨rfl, rfl⟩ := e
  intro j u hu
  have := hc 0 x hx j u hu
  rwa [Nat.zero_mul, Nat.add_zero] at this
theorem exec_min' {P : Program} {w : World} {o : Oper} {a : Act} {x y : Operand} {u v m : Int} {ts : Array TypeId} {k : IntKind} (hm : imin u v = m) (ho : o.op = .call { callee := .builtin .min, args := #[x, y], argTypes := ts }) (hx : a.eval x = .int k u) (hy : a.eval y = .int k v) : (execOp a.eval o).run P w = .ok (.value (.int k m)) w := by
  subst hm
  exact exec_min ho hx hy
theorem blk_ne {W : World} {a b : Nat} {s t : TypeId} {cs ds : Array Value} (h : Blk W a s cs) (g : Blk W b t ds) (hne : s ≠ t) : a ≠ b := fun e => by
  subst e
  rw [Blk, show W.heap[a]? = _ from h] at g
  cases g
  exact hne rfl
theorem exec_neE' {w : World} {o : Oper} {ac : Act} {x y : Operand} {ty : TypeId} {u : Ev} (ho : o.op = .binOp .neq 31 x y ty) (hx : ac.eval x = .agg (encE u).toArray) (hy : ac.eval y = .agg (encE u).toArray) : (execOp ac.eval o).run Try.prog w = .ok (.value (.bool false)) w := by
  have := exec_neE (w := w) ho hx hy
  rwa [show (!decide (u = u)) = false by simp] at this
/-- Behind one thing that was done. -/
def SameP (w : World) (q r : Nat) (h : List Ev) (e : Ending) (w' : World) : Prop := e = .returned (.bool true) ∧ ∃ h' now', JQ w q r h' now' w' ∧ h'.length ≤ h.length + 1
def SameC (w : World) (q r : Nat) (h : List Ev) (w' : World) : Prop := ∃ h' now', JQ w q r h' now' w' ∧ h'.length ≤ h.length + 1
set_option maxRecDepth 100000 in
set_option maxHeartbeats 3200000 in
theorem same_any (w : World) (q r : Nat) (h : List Ev) (now : Int) (d : DoV) (W : World) (hj : JQ w q r h now W) (hl : h.length ≤ 1000) :
    Calls Try.prog 23 #[.pointer (some ⟨q, 0, none⟩), .pointer (some ⟨r, 0, none⟩), .agg (encD d).toArray] W (SameP w q r h) := by
  have HP0 : Hid (∀ w' h' now', JQ w q r h' now' w' → h'.length ≤ h.length + 1 → SameP w q r h (.returned (.bool true)) w') := fun w' h' now' h1 h2 => ⟨rfl, h', now', h1, h2⟩
  have HJ := Lib.hid (hj.keep (below1 W (.cells (encD d).toArray 33)))
  have HX : Hid (Blk (W.alloc (.cells (encD d).toArray 33)) W.heap.size 33 (encD d).toArray) := Blk.new' rfl
  clear hj
  go_enter Try.func23, Try.ntmps23
  go_upto_region 1 with fail
  change Code.wp _ _ _ _ (W.alloc (.cells (encD d).toArray 33))
  generalize W.alloc (.cells (encD d).toArray 33) = W1 at *
  generalize W.heap.size = b at *
  have cd : W1.cell? ⟨b, 0, none⟩ = some (.int .i64 d.k) := HX.out.list0 rfl
  iterate 13 (first | (with_reducible show Code.wp _ (Code.block _ _) _ _ _) | go_values | go_skip | go_guarded | go_step)
  clear cd
  go_cut [7, 8, 9, 10, 14] from 15 to 85 (fun _ _ _ _ _ wx => SameC w q r h wx)
  case first =>
    have HLH := Lib.hid hl
    by_cases h1 : d.k = 1
    · have e0 : (d.k == 0) = false := by simp [h1]
      have e1 : (d.k == 1) = true := by simp [h1]
      obtain ⟨sv, v, hQ, hR, hs⟩ := HJ.out.st
      have HQ := Lib.hid hQ
      have HR := Lib.hid hR
      have HSP := Lib.hid hs
      clear hQ hR hs
      by_cases hh : ∃ x, h[0]? = some x
      · obtain ⟨x, hx⟩ := hh
        have HST := Lib.hid (pop_sort HJ.out.heap hx)
        have HPF : Hid (∀ W v v', Fr W v v' → _) := fun W v v' => pop_fr (W := W) (v := v) (v' := v') HJ.out.heap hx
        have HPH := Lib.hid (popL_heap HJ.out.heap)
        have HPL : Hid ((popL h).length ≤ h.length + 1) := by show _ ≤ _; have := (popL_perm hx).length_eq; simp at this; omega
        have HPS := Lib.hid (pop_some q sv h now x _ HQ.out (by have := HLH.out; omega) hx)
        clear hx
        go_wp2_with fail
        refine HPS.out.mono ?_
        rintro e W2 ⟨rfl, sv2, hQ2, hS2⟩
        have HM2 : Hid (JM w q r (popL h) x.a h now W2) := HJ.out.turn HQ.out HR.out HSP.out hS2.k (qs_own hS2) hQ2
        clear hQ2 hS2 HPS
        go_wp2_with ((with_reducible show wpList _ _ _ (Oper.mk none (Op.store 31 _ _) _ _ _ _ :: _) _ _); refine wpList_boxW W31 rfl rfl rfl (encE x) rfl rfl (encE_one _) rfl ?_; intro W3 hbx hbel hsz; have XA := Lib.hid hbx; have EA := Lib.hid hbel; clear hbx hbel hsz)
        have HM := Lib.hid (HM2.out.keep EA.out)
        clear HM2
        obtain ⟨sv2, v2, hQ2, hR2, hs2⟩ := HM.out.st
        have HQ2 := Lib.hid hQ2
        have HR2 := Lib.hid hR2
        have HS2 := Lib.hid hs2
        clear hQ2 hR2 hs2
        have HRP := Lib.hid (rpop_some r v2 (sortE (popL h)) x now _ (by rw [← HST.out]; exact HR2.out) (by rw [sortE_len]; have := HPL.out; have := HLH.out; omega))
        refine HRP.out.mono ?_
        rintro e W4 ⟨rfl, v3, hR3, hg3, hf3⟩
        have HJ4 : Hid (JQ w q r (popL h) x.a W4) := HM.out.turn HQ2.out HR2.out HS2.out hg3 hR3 HPH.out (HPF.out _ _ _ hf3)
        have XA4 := Lib.hid (XA.out.kept hg3 (fun e => blk_ne XA.out HR2.out.1 (by decide) (by cases e; rfl)))
        clear hR3 hg3 hf3 HRP XA EA
        go_wp2_with (first | ((with_reducible show wpList _ _ _ (Oper.mk none (Op.store 31 _ _) _ _ _ _ :: _) _ _); refine wpList_boxW W31 rfl rfl rfl (encE x) rfl rfl (encE_one _) rfl ?_; intro W5 hbx hbel hsz; have XB := Lib.hid hbx; have EB := Lib.hid hbel; clear hbx hbel hsz) | ((with_reducible show wpList _ _ _ (Oper.mk (some 65) _ _ _ _ _ :: _) _ _); refine wpList_loadW W31 rfl rfl rfl (encE x) rfl (XA4.out.keep EB.out).list ?_) | ((with_reducible show wpList _ _ _ (Oper.mk (some 66) _ _ _ _ _ :: _) _ _); refine wpList_loadW W31 rfl rfl rfl (encE x) rfl XB.out.list ?_) | ((with_reducible show wpList _ _ _ (Oper.mk (some 67) _ _ _ _ _ :: _) _ _); refine wpList_val rfl (exec_neE (u := x) (v := x) rfl rfl rfl) ?_; go_must (rw [show (!decide (x = x)) = false by simp])))
        go_meet
        exact ⟨_, _, HJ4.out.keep EB.out, HPL.out⟩
      · have hn : h = [] := by
          cases h with
          | nil => rfl
          | cons y l => exact absurd ⟨y, rfl⟩ hh
        subst hn
        go_wp2_with fail
        refine (pop_none q sv now _ HQ.out).mono ?_
        rintro e W2 ⟨rfl, hb2⟩
        have B2 := Lib.hid hb2
        clear hb2
        go_wp2_with ((with_reducible show wpList _ _ _ (Oper.mk none (Op.store 31 _ _) _ _ _ _ :: _) _ _); refine wpList_boxW W31 rfl rfl rfl (encE E0) rfl rfl (encE_one _) rfl ?_; intro W3 hbx hbel hsz; have XA := Lib.hid hbx; have EA := Lib.hid hbel; clear hbx hbel hsz)
        refine (rpop_none r v now _ ((HR.out.keep B2.out).keep EA.out)).mono ?_
        rintro e W4 ⟨rfl, hb4⟩
        have B4 := Lib.hid hb4
        clear hb4
        go_wp2_with (first | ((with_reducible show wpList _ _ _ (Oper.mk none (Op.store 31 _ _) _ _ _ _ :: _) _ _); refine wpList_boxW W31 rfl rfl rfl (encE E0) rfl rfl (encE_one _) rfl ?_; intro W5 hbx hbel hsz; have XB := Lib.hid hbx; have EB := Lib.hid hbel; clear hbx hbel hsz) | ((with_reducible show wpList _ _ _ (Oper.mk (some 65) _ _ _ _ _ :: _) _ _); refine wpList_loadW W31 rfl rfl rfl (encE E0) rfl ((XA.out.keep B4.out).keep EB.out).list ?_) | ((with_reducible show wpList _ _ _ (Oper.mk (some 66) _ _ _ _ _ :: _) _ _); refine wpList_loadW W31 rfl rfl rfl (encE E0) rfl XB.out.list ?_) | ((with_reducible show wpList _ _ _ (Oper.mk (some 67) _ _ _ _ _ :: _) _ _); refine wpList_val rfl (exec_neE (u := E0) (v := E0) rfl rfl rfl) ?_; go_must (rw [show (!decide (E0 = E0)) = false by simp])))
        go_meet
        exact ⟨_, _, (((HJ.out.keep B2.out).keep EA.out).keep B4.out).keep EB.out, Nat.le_succ _⟩
    · have HJD : Hid (JQ w q r h now W1.drew) := Lib.hid (HJ.out.keep (Below.refl _ _).drew)
      have e1 : (d.k == 1) = false := by simp [h1]
      obtain ⟨sv, v, hQ, hR, hs⟩ := HJD.out.st
      have HQ := Lib.hid hQ
      have HR := Lib.hid hR
      have HSP := Lib.hid hs
      have HXD : Hid (Blk W1.drew b 33 (encD d).toArray) := HX
      have HBB : Hid (b ≠ q ∧ some b ≠ some r) := ⟨blk_ne HXD.out HQ.out.1 (by decide), fun e => blk_ne HXD.out HR.out.1 (by decide) (by cases e; rfl)⟩
      clear hQ hR hs
      by_cases h0 : d.k = 0
      · have e0 : (d.k == 0) = true := by simp [h0]
        go_upto_region 5 with fail
        clear HJ
        have HJ := HJD
        clear HJD
        have hS := HXD
        refine wp_region_held_drew (S := fun X => Hid (Blk X b 33 (encD d).toArray)) (by kernel_rfl) hS (fun hHeld => ?_)
        (refine takeW (i := 0) (v := ?_) rfl (by kernel_rfl) (by kernel_rfl) (by kernel_rfl) (fun _ _ _ h => h) (by rfl) (by assumption) ?_ ?_; rotate_left; (intro W hW; (try dsimp only at hW); go_simp; try with_reducible rfl); (try simp only [Act.put, List.setIfInBounds_toArray, List.set_cons_zero, List.set_cons_succ]))
        (refine takeW (i := 1) (v := ?_) rfl (by kernel_rfl) (by kernel_rfl) (by kernel_rfl) (fun _ _ _ h => h) (by rfl) (by assumption) ?_ ?_; rotate_left; (intro W hW; (try dsimp only at hW); go_simp; try with_reducible rfl); (try simp only [Act.put, List.setIfInBounds_toArray, List.set_cons_zero, List.set_cons_succ]))
        (refine takeW (i := 2) rfl (by kernel_rfl) (by kernel_rfl) (by kernel_rfl) (fun _ _ _ h => h) (by rfl) (by assumption) (fun W hW => exec_loadW W31 rfl rfl (cs := encE d.e) rfl (by have := encD_tail d (off := 0) hW.out.list; exact this)) ?_; (try simp only [Act.put, List.setIfInBounds_toArray, List.set_cons_zero, List.set_cons_succ]))
        (refine takeW (i := 4) (v := ?_) rfl (by kernel_rfl) (by kernel_rfl) (by kernel_rfl) (fun _ _ _ h => h) (by rfl) (by assumption) ?_ ?_; rotate_left; (intro W hW; (try dsimp only at hW); go_simp; try with_reducible rfl); (try simp only [Act.put, List.setIfInBounds_toArray, List.set_cons_zero, List.set_cons_succ]))
        (refine takeW (i := 5) (v := ?_) rfl (by kernel_rfl) (by kernel_rfl) (by kernel_rfl) (fun _ _ _ h => h) (by rfl) (by assumption) ?_ ?_; rotate_left; (intro W hW; (try dsimp only at hW); go_simp; try with_reducible rfl); (try simp only [Act.put, List.setIfInBounds_toArray, List.set_cons_zero, List.set_cons_succ]))
        (refine takeW (i := 6) rfl (by kernel_rfl) (by kernel_rfl) (by kernel_rfl) (fun _ _ _ h => h) (by rfl) (by assumption) (fun W hW => exec_loadW W31 rfl rfl (cs := encE d.e) rfl (by have := encD_tail d (off := 0) hW.out.list; exact this)) ?_; (try simp only [Act.put, List.setIfInBounds_toArray, List.set_cons_zero, List.set_cons_succ]))
        refine takeC (i := 3) rfl (by kernel_rfl) (by rfl) (fun K hK => ?_)
        go_simp
        refine (push_any q sv h now d.e _ HQ.out (by omega)).mono ?_
        rintro e W2 ⟨rfl, sv3, hQ3, hS3⟩
        have HK3 := Lib.hid hS3.k
        have HM : Hid (JM w q r (pushL h now d.e) now h now W2) := HJ.out.turn HQ.out HR.out HSP.out hS3.k (qs_own hS3) hQ3
        clear hQ3 hS3
        obtain ⟨sv2, v2, hQ2, hR2, hs2⟩ := HM.out.st
        have HQ2 := Lib.hid hQ2
        have HR2 := Lib.hid hR2
        have HS2 := Lib.hid hs2
        clear hQ2 hR2 hs2
        refine hK.out _ _ (Lib.hid (blk_qk HK3.out hHeld.out HBB.out.1 (own_blk_ne HQ.out.2 hHeld.out (by decide)))) (fun hHeld => ?_)
        clear hK K
        try simp only [Act.put, List.setIfInBounds_toArray, List.set_cons_zero, List.set_cons_succ]
        refine takeC (i := 7) rfl (by kernel_rfl) (by rfl) (fun K hK => ?_)
        go_simp
        refine (rpush_any r v2 (sortE h) now d.e _ HR2.out (by rw [sortE_len]; omega)).mono ?_
        rintro e W3 ⟨rfl, v3, hR3, hg3, hf3⟩
        have HJ3 : Hid (JQ w q r (pushL h now d.e) now W3) := HM.out.turn HQ2.out HR2.out HS2.out hg3 (by rw [← (push_sort h now d.e).2]; exact hR3) (pushL_heap HJ.out.heap) (push_fr hf3)
        have HG3 := Lib.hid hg3
        clear hR3 hg3 hf3
        refine hK.out _ _ (Lib.hid (hHeld.out.kept HG3.out HBB.out.2)) (fun hHeld => ?_)
        clear hK K
        try simp only [Act.put, List.setIfInBounds_toArray, List.set_cons_zero, List.set_cons_succ]
        (refine takeW (i := 8) (v := ?_) rfl (by kernel_rfl) (by kernel_rfl) (by kernel_rfl) (fun _ _ _ h => h) (by rfl) (by assumption) ?_ ?_; rotate_left; (intro W hW; (try dsimp only at hW); go_simp; try with_reducible rfl); (try simp only [Act.put, List.setIfInBounds_toArray, List.set_cons_zero, List.set_cons_succ]))
        refine wpAnyH_done (by kernel_rfl) ?_ _
        rw [(push_sort h now d.e).1]
        have hee : (pushE h now d.e != pushE h now d.e) = false := by simp
        generalize pushE h now d.e = pe at *
        go_wp2
        go_meet
        exact ⟨_, _, HJ3.out, (pushL_len (by omega)).2⟩
      · have e0 : (d.k == 0) = false := by simp [h0]
        by_cases h2 : d.k = 2
        · have e2 : (d.k == 2) = true := by simp [h2]
          go_upto_region 13 with fail
          clear HJ
          have HJ := HJD
          clear HJD
          have hS := HXD
          refine wp_region_held_drew (S := fun X => Hid (Blk X b 33 (encD d).toArray)) (by kernel_rfl) hS (fun hHeld => ?_)
          (refine takeW (i := 0) (v := ?_) rfl (by kernel_rfl) (by kernel_rfl) (by kernel_rfl) (fun _ _ _ h => h) (by rfl) (by assumption) ?_ ?_; rotate_left; (intro W hW; (try dsimp only at hW); go_simp; try with_reducible rfl); (try simp only [Act.put, List.setIfInBounds_toArray, List.set_cons_zero, List.set_cons_succ]))
          (refine takeW (i := 1) (v := ?_) rfl (by kernel_rfl) (by kernel_rfl) (by kernel_rfl) (fun _ _ _ h => h) (by rfl) (by assumption) ?_ ?_; rotate_left; (intro W hW; (try dsimp only at hW); go_simp; try with_reducible rfl); (try simp only [Act.put, List.setIfInBounds_toArray, List.set_cons_zero, List.set_cons_succ]))
          (refine takeW (i := 2) (v := ?_) rfl (by kernel_rfl) (by kernel_rfl) (by kernel_rfl) (fun _ _ _ h => h) (by rfl) (by assumption) ?_ ?_; rotate_left; (intro W hW; (try dsimp only at hW); go_simp; try with_reducible rfl); (try simp only [Act.put, List.setIfInBounds_toArray, List.set_cons_zero, List.set_cons_succ]))
          (refine takeW (i := 3) rfl (by kernel_rfl) (by kernel_rfl) (by kernel_rfl) (fun _ _ _ h => h) (by rfl) (by assumption) (fun W hW => exec_load1 (v := .int .i64 d.e.n) F3 rfl rfl (by have := hW.out.list0 (j := 3) rfl; exact this)) ?_; (try simp only [Act.put, List.setIfInBounds_toArray, List.set_cons_zero, List.set_cons_succ]))
          (refine takeW (i := 5) (v := ?_) rfl (by kernel_rfl) (by kernel_rfl) (by kernel_rfl) (fun _ _ _ h => h) (by rfl) (by assumption) ?_ ?_; rotate_left; (intro W hW; (try dsimp only at hW); go_simp; try with_reducible rfl); (try simp only [Act.put, List.setIfInBounds_toArray, List.set_cons_zero, List.set_cons_succ]))
          (refine takeW (i := 6) (v := ?_) rfl (by kernel_rfl) (by kernel_rfl) (by kernel_rfl) (fun _ _ _ h => h) (by rfl) (by assumption) ?_ ?_; rotate_left; (intro W hW; (try dsimp only at hW); go_simp; try with_reducible rfl); (try simp only [Act.put, List.setIfInBounds_toArray, List.set_cons_zero, List.set_cons_succ]))
          (refine takeW (i := 7) (v := ?_) rfl (by kernel_rfl) (by kernel_rfl) (by kernel_rfl) (fun _ _ _ h => h) (by rfl) (by assumption) ?_ ?_; rotate_left; (intro W hW; (try dsimp only at hW); go_simp; try with_reducible rfl); (try simp only [Act.put, List.setIfInBounds_toArray, List.set_cons_zero, List.set_cons_succ]))
          (refine takeW (i := 8) rfl (by kernel_rfl) (by kernel_rfl) (by kernel_rfl) (fun _ _ _ h => h) (by rfl) (by assumption) (fun W hW => exec_load1 (v := .int .i64 d.e.n) F3 rfl rfl (by have := hW.out.list0 (j := 3) rfl; exact this)) ?_; (try simp only [Act.put, List.setIfInBounds_toArray, List.set_cons_zero, List.set_cons_succ]))
          refine takeC (i := 4) rfl (by kernel_rfl) (by rfl) (fun K hK => ?_)
          go_simp
          refine (drop_any q sv h now d.e.n _ HQ.out (by omega)).mono ?_
          rintro e W2 ⟨rfl, sv3, hQ3, hk3, hn3⟩
          have HK3 := Lib.hid hk3
          have HM : Hid (JM w q r (dropL h d.e.n) now h now W2) := HJ.out.turn HQ.out HR.out HSP.out hk3 (fun g e => .inr (hn3 g e)) hQ3
          clear hQ3 hk3 hn3
          obtain ⟨sv2, v2, hQ2, hR2, hs2⟩ := HM.out.st
          have HQ2 := Lib.hid hQ2
          have HR2 := Lib.hid hR2
          have HS2 := Lib.hid hs2
          clear hQ2 hR2 hs2
          refine hK.out _ _ (Lib.hid (blk_qk HK3.out hHeld.out HBB.out.1 (own_blk_ne HQ.out.2 hHeld.out (by decide)))) (fun hHeld => ?_)
          clear hK K
          try simp only [Act.put, List.setIfInBounds_toArray, List.set_cons_zero, List.set_cons_succ]
          refine takeC (i := 9) rfl (by kernel_rfl) (by rfl) (fun K hK => ?_)
          go_simp
          refine (rdrop_any r v2 (sortE h) now d.e.n _ HR2.out (by rw [sortE_len]; omega)).mono ?_
          rintro e W3 ⟨rfl, v3, hR3, hg3, hf3⟩
          have HJ3 : Hid (JQ w q r (dropL h d.e.n) now W3) := HM.out.turn HQ2.out HR2.out HS2.out hg3 (by rw [drop_sort]; exact hR3) (newL_heap _) (drop_fr hf3)
          have HG3 := Lib.hid hg3
          clear hR3 hg3 hf3
          refine hK.out _ _ (Lib.hid (hHeld.out.kept HG3.out HBB.out.2)) (fun hHeld => ?_)
          clear hK K
          try simp only [Act.put, List.setIfInBounds_toArray, List.set_cons_zero, List.set_cons_succ]
          (refine takeW (i := 10) (v := ?_) rfl (by kernel_rfl) (by kernel_rfl) (by kernel_rfl) (fun _ _ _ h => h) (by rfl) (by assumption) ?_ ?_; rotate_left; (intro W hW; (try dsimp only at hW); go_simp; try with_reducible rfl); (try simp only [Act.put, List.setIfInBounds_toArray, List.set_cons_zero, List.set_cons_succ]))
          refine wpAnyH_done (by kernel_rfl) ?_ _
          have HDL : Hid ((dropL h d.e.n).length ≤ h.length + 1) := by show _ ≤ _; rw [drop_len]; have := keep_le (sortE h) d.e.n; rw [sortE_len] at this; omega
          rw [sortE_len, ← drop_len]
          have hee : ((h.length : Int) - ((dropL h d.e.n).length : Int) != (h.length : Int) - ((dropL h d.e.n).length : Int)) = false := by simp
          generalize (h.length : Int) - ((dropL h d.e.n).length : Int) = pe at *
          go_wp2
          go_meet
          exact ⟨_, _, HJ3.out, HDL.out⟩
        · have e2 : (d.k == 2) = false := by simp [h2]
          clear HJ
          have HJ := HJD
          clear HJD HXD HX HBB
          have hvn : ∃ va vc, v = .slice va (sortE h).length vc := by
            obtain ⟨a, cap, e, -⟩ := HR.out.2.shape
            exact ⟨a, cap, e⟩
          obtain ⟨va, vc, hve⟩ := hvn
          have hvc : (sortE h).length ≤ vc := by
            obtain ⟨a, cap, e, q1, -⟩ := HR.out.2.shape
            rw [hve] at e
            cases e
            exact q1
          rw [sortE_len] at hve hvc
          subst hve
          obtain ⟨n, hn⟩ : ∃ n, n = h.length := ⟨_, rfl⟩
          rw [← hn] at HR HSP hvc
          have hMM : ∃ M : Nat, imin (n : Int) 2 = M := ⟨(imin (n : Int) 2).toNat, by have := imin_le (n : Int) 2; omega⟩
          obtain ⟨M, hM⟩ := hMM
          have hMb := imin_le (n : Int) 2
          rw [hM] at hMb
          have hM1 : M ≤ n := by omega
          have hM2 : M ≤ vc := by omega
          have hM3 : M ≤ 2 := by omega
          have HMI := Lib.hid hM
          have HNN := Lib.hid hn
          have TK : Hid ((sortE h).take (2 : Int).toNat = (sortE h).take M) := by
            show _ = _
            by_cases h2 : 2 ≤ n
            · have : M = 2 := by unfold imin at hM; split at hM <;> omega
              rw [this]; rfl
            · have : M = n := by unfold imin at hM; split at hM <;> omega
              rw [List.take_of_length_le (by rw [sortE_len]; show h.length ≤ 2; omega), List.take_of_length_le (by rw [sortE_len]; omega)]
          clear hM hMb hn
          have hS : Hid (Qu W1.drew q sv h now) ∧ Hid (RQ W1.drew r (.slice va n vc) (sortE h) now) := ⟨HQ, HR⟩
          clear HQ HR HSP
          go_upto_region 2 with fail
          refine wp_region_held_drew (S := fun X => Hid (Qu X q sv h now) ∧ Hid (RQ X r (.slice va n vc) (sortE h) now)) (by kernel_rfl) hS (fun hHeld => ?_)
          (refine takeW (i := 0) (v := ?_) rfl (by kernel_rfl) (by kernel_rfl) (by kernel_rfl) (fun _ _ _ h => h) (by rfl) (by assumption) ?_ ?_; rotate_left; (intro W hW; (try dsimp only at hW); go_simp; try with_reducible rfl); (try simp only [Act.put, List.setIfInBounds_toArray, List.set_cons_zero, List.set_cons_succ]))
          (refine takeW (i := 3) (v := ?_) rfl (by kernel_rfl) (by kernel_rfl) (by kernel_rfl) (fun _ _ _ h => h) (by rfl) (by assumption) ?_ ?_; rotate_left; (intro W hW; (try dsimp only at hW); go_simp; try with_reducible rfl); (try simp only [Act.put, List.setIfInBounds_toArray, List.set_cons_zero, List.set_cons_succ]))
          (refine takeW (i := 4) (v := ?_) rfl (by kernel_rfl) (by kernel_rfl) (by kernel_rfl) (fun _ _ _ h => h) (by rfl) (by assumption) ?_ ?_; rotate_left; (intro W hW; (try dsimp only at hW); go_simp; try with_reducible rfl); (try simp only [Act.put, List.setIfInBounds_toArray, List.set_cons_zero, List.set_cons_succ]))
          (refine takeW (i := 5) (v := ?_) rfl (by kernel_rfl) (by kernel_rfl) (by kernel_rfl) (fun _ _ _ h => h) (by rfl) (by assumption) ?_ ?_; rotate_left; (intro W hW; (try dsimp only at hW); go_simp; try with_reducible rfl); (try simp only [Act.put, List.setIfInBounds_toArray, List.set_cons_zero, List.set_cons_succ]))
          (refine takeW (i := 6) rfl (by kernel_rfl) (by kernel_rfl) (by kernel_rfl) (fun _ _ _ h => h) (by rfl) (by assumption) (fun W hW => exec_load1 (v := .slice va n vc) F22 rfl rfl (hW.2.out.1.cell 0)) ?_; (try simp only [Act.put, List.setIfInBounds_toArray, List.set_cons_zero, List.set_cons_succ]))
          refine takeC (i := 1) rfl (by kernel_rfl) (by rfl) (fun K hK => ?_)
          go_simp
          refine (all_any (some ⟨q, 0, none⟩) W1.drew).mono ?_
          rintro e W2 ⟨rfl, hw⟩
          have Ba : Hid (Below (W1.drew).heap.size (W1.drew) W2) := by rw [← hw]; exact below1 _ _
          have Xa : Hid (Blk W2 (W1.drew).heap.size 25 #[.pointer (some ⟨q, 0, none⟩)]) := by rw [← hw]; exact Blk.new' rfl
          clear hw
          refine hK.out _ _ (⟨Lib.hid (hHeld.1.out.below Ba.out), Lib.hid (hHeld.2.out.keep Ba.out)⟩) (fun hHeld => ?_)
          clear hK K
          try simp only [Act.put, List.setIfInBounds_toArray, List.set_cons_zero, List.set_cons_succ]
          refine takeC (i := 2) rfl (by kernel_rfl) (by rfl) (fun K hK => ?_)
          go_simp
          refine (told_all (W1.drew).heap.size q sv h now 9999 W2 Xa.out hHeld.1.out (by omega)).mono ?_
          rintro e W3 ⟨⟨vb, rfl, ho⟩, hb⟩
          have Bb := Lib.hid hb
          have Rb : Hid (Rd encE 4 W3 vb (sortE h)) := by
            have e0 : (sortE h).take (9999 : Int).toNat = sortE h := List.take_of_length_le (by rw [sortE_len]; simp; omega)
            rw [e0] at ho
            exact Rd.of_owns encE_len ho (by rw [sortE_len]; omega)
          clear ho hb
          refine hK.out _ _ (⟨Lib.hid (hHeld.1.out.below Bb.out), Lib.hid (hHeld.2.out.keep Bb.out)⟩) (fun hHeld => ?_)
          clear hK K
          try simp only [Act.put, List.setIfInBounds_toArray, List.set_cons_zero, List.set_cons_succ]
          refine takeC (i := 7) rfl (by kernel_rfl) (by rfl) (fun K hK => ?_)
          go_simp
          refine (equal_any vb (.slice va n vc) (sortE h) (sortE h) W3 (Rb.out) (hHeld.2.out.2)).mono ?_
          rintro e W4 ⟨rfl, hb⟩
          have Bc := Lib.hid hb
          clear hb
          rw [show decide ((sortE h) = (sortE h)) = true by simp]
          refine hK.out _ _ (⟨Lib.hid (hHeld.1.out.below Bc.out), Lib.hid (hHeld.2.out.keep Bc.out)⟩) (fun hHeld => ?_)
          clear hK K
          try simp only [Act.put, List.setIfInBounds_toArray, List.set_cons_zero, List.set_cons_succ]
          (refine takeW (i := 8) (v := ?_) rfl (by kernel_rfl) (by kernel_rfl) (by kernel_rfl) (fun _ _ _ h => h) (by rfl) (by assumption) ?_ ?_; rotate_left; (intro W hW; (try dsimp only at hW); go_simp; try with_reducible rfl); (try simp only [Act.put, List.setIfInBounds_toArray, List.set_cons_zero, List.set_cons_succ]))
          (refine takeW (i := 9) (v := ?_) rfl (by kernel_rfl) (by kernel_rfl) (by kernel_rfl) (fun _ _ _ h => h) (by rfl) (by assumption) ?_ ?_; rotate_left; (intro W hW; (try dsimp only at hW); go_simp; try with_reducible rfl); (try simp only [Act.put, List.setIfInBounds_toArray, List.set_cons_zero, List.set_cons_succ]))
          first
            | (refine takeW (i := 10) (v := ?_) rfl (by kernel_rfl) (by kernel_rfl) (by kernel_rfl) (fun _ _ _ h => h) (by rfl) (by assumption) ?_ ?_; rotate_left; (intro W hW; (try dsimp only at hW); go_simp; try with_reducible rfl); (try simp only [Act.put, List.setIfInBounds_toArray, List.set_cons_zero, List.set_cons_succ]))
            | (refine takeU (i := 10) rfl (by kernel_rfl) (by kernel_rfl) (by kernel_rfl) (fun _ _ _ h => h) (by rfl) (by assumption) ?_; (try simp only [Act.put, List.setIfInBounds_toArray, List.set_cons_zero, List.set_cons_succ]))
          first
            | (refine takeW (i := 13) (v := ?_) rfl (by kernel_rfl) (by kernel_rfl) (by kernel_rfl) (fun _ _ _ h => h) (by rfl) (by assumption) ?_ ?_; rotate_left; (intro W hW; (try dsimp only at hW); go_simp; try with_reducible rfl); (try simp only [Act.put, List.setIfInBounds_toArray, List.set_cons_zero, List.set_cons_succ]))
            | (refine takeU (i := 13) rfl (by kernel_rfl) (by kernel_rfl) (by kernel_rfl) (fun _ _ _ h => h) (by rfl) (by assumption) ?_; (try simp only [Act.put, List.setIfInBounds_toArray, List.set_cons_zero, List.set_cons_succ]))
          first
            | (refine takeW (i := 14) (v := ?_) rfl (by kernel_rfl) (by kernel_rfl) (by kernel_rfl) (fun _ _ _ h => h) (by rfl) (by assumption) ?_ ?_; rotate_left; (intro W hW; (try dsimp only at hW); go_simp; try with_reducible rfl); (try simp only [Act.put, List.setIfInBounds_toArray, List.set_cons_zero, List.set_cons_succ]))
            | (refine takeU (i := 14) rfl (by kernel_rfl) (by kernel_rfl) (by kernel_rfl) (fun _ _ _ h => h) (by rfl) (by assumption) ?_; (try simp only [Act.put, List.setIfInBounds_toArray, List.set_cons_zero, List.set_cons_succ]))
          first
            | (refine takeW (i := 15) (v := ?_) rfl (by kernel_rfl) (by kernel_rfl) (by kernel_rfl) (fun _ _ _ h => h) (by rfl) (by assumption) ?_ ?_; rotate_left; (intro W hW; (try dsimp only at hW); go_simp; try with_reducible rfl); (try simp only [Act.put, List.setIfInBounds_toArray, List.set_cons_zero, List.set_cons_succ]))
            | (refine takeU (i := 15) rfl (by kernel_rfl) (by kernel_rfl) (by kernel_rfl) (fun _ _ _ h => h) (by rfl) (by assumption) ?_; (try simp only [Act.put, List.setIfInBounds_toArray, List.set_cons_zero, List.set_cons_succ]))
          (refine takeW (i := 16) rfl (by kernel_rfl) (by kernel_rfl) (by kernel_rfl) (fun _ _ _ h => h) (by rfl) (by assumption) (fun W hW => exec_load1 (v := .slice va n vc) F22 rfl rfl (hW.2.out.1.cell 0)) ?_; (try simp only [Act.put, List.setIfInBounds_toArray, List.set_cons_zero, List.set_cons_succ]))
          first
            | (refine takeW (i := 17) (v := ?_) rfl (by kernel_rfl) (by kernel_rfl) (by kernel_rfl) (fun _ _ _ h => h) (by rfl) (by assumption) ?_ ?_; rotate_left; (intro W hW; (try dsimp only at hW); go_simp; try with_reducible rfl); (try simp only [Act.put, List.setIfInBounds_toArray, List.set_cons_zero, List.set_cons_succ]))
            | (refine takeU (i := 17) rfl (by kernel_rfl) (by kernel_rfl) (by kernel_rfl) (fun _ _ _ h => h) (by rfl) (by assumption) ?_; (try simp only [Act.put, List.setIfInBounds_toArray, List.set_cons_zero, List.set_cons_succ]))
          first
            | (refine takeW (i := 18) (v := ?_) rfl (by kernel_rfl) (by kernel_rfl) (by kernel_rfl) (fun _ _ _ h => h) (by rfl) (by assumption) ?_ ?_; rotate_left; (intro W hW; (try dsimp only at hW); go_simp; try with_reducible rfl); (try simp only [Act.put, List.setIfInBounds_toArray, List.set_cons_zero, List.set_cons_succ]))
            | (refine takeU (i := 18) rfl (by kernel_rfl) (by kernel_rfl) (by kernel_rfl) (fun _ _ _ h => h) (by rfl) (by assumption) ?_; (try simp only [Act.put, List.setIfInBounds_toArray, List.set_cons_zero, List.set_cons_succ]))
          first
            | (refine takeW (i := 19) (v := ?_) rfl (by kernel_rfl) (by kernel_rfl) (by kernel_rfl) (fun _ _ _ h => h) (by rfl) (by assumption) ?_ ?_; rotate_left; (intro W hW; (try dsimp only at hW); go_simp; try with_reducible rfl); (try simp only [Act.put, List.setIfInBounds_toArray, List.set_cons_zero, List.set_cons_succ]))
            | (refine takeU (i := 19) rfl (by kernel_rfl) (by kernel_rfl) (by kernel_rfl) (fun _ _ _ h => h) (by rfl) (by assumption) ?_; (try simp only [Act.put, List.setIfInBounds_toArray, List.set_cons_zero, List.set_cons_succ]))
          (refine takeW (i := 20) rfl (by kernel_rfl) (by kernel_rfl) (by kernel_rfl) (fun _ _ _ h => h) (by rfl) (by assumption) (fun W hW => exec_load1 (v := .slice va n vc) F22 rfl rfl (hW.2.out.1.cell 0)) ?_; (try simp only [Act.put, List.setIfInBounds_toArray, List.set_cons_zero, List.set_cons_succ]))
          first
            | (refine takeW (i := 21) (v := ?_) rfl (by kernel_rfl) (by kernel_rfl) (by kernel_rfl) (fun _ _ _ h => h) (by rfl) (by assumption) ?_ ?_; rotate_left; (intro W hW; (try dsimp only at hW); go_simp; try with_reducible rfl); (try simp only [Act.put, List.setIfInBounds_toArray, List.set_cons_zero, List.set_cons_succ]))
            | (refine takeU (i := 21) rfl (by kernel_rfl) (by kernel_rfl) (by kernel_rfl) (fun _ _ _ h => h) (by rfl) (by assumption) ?_; (try simp only [Act.put, List.setIfInBounds_toArray, List.set_cons_zero, List.set_cons_succ]))
          (refine takeW (i := 22) rfl (by kernel_rfl) (by kernel_rfl) (by kernel_rfl) (fun _ _ _ h => h) (by rfl) (by assumption) (fun W hW => exec_min' HMI.out rfl rfl rfl) ?_; (try simp only [Act.put, List.setIfInBounds_toArray, List.set_cons_zero, List.set_cons_succ]))
          first
            | (refine takeW (i := 23) (v := ?_) rfl (by kernel_rfl) (by kernel_rfl) (by kernel_rfl) (fun _ _ _ h => h) (by rfl) (by assumption) ?_ ?_; rotate_left; (intro W hW; (try dsimp only at hW); go_simp; try with_reducible rfl); (try simp only [Act.put, List.setIfInBounds_toArray, List.set_cons_zero, List.set_cons_succ]))
            | (refine takeU (i := 23) rfl (by kernel_rfl) (by kernel_rfl) (by kernel_rfl) (fun _ _ _ h => h) (by rfl) (by assumption) ?_; (try simp only [Act.put, List.setIfInBounds_toArray, List.set_cons_zero, List.set_cons_succ]))
          refine takeC (i := 11) rfl (by kernel_rfl) (by rfl) (fun K hK => ?_)
          go_simp
          refine (all_any (some ⟨q, 0, none⟩) W4).mono ?_
          rintro e W5 ⟨rfl, hw⟩
          have Bd : Hid (Below (W4).heap.size (W4) W5) := by rw [← hw]; exact below1 _ _
          have Xd : Hid (Blk W5 (W4).heap.size 25 #[.pointer (some ⟨q, 0, none⟩)]) := by rw [← hw]; exact Blk.new' rfl
          clear hw
          refine hK.out _ _ (⟨Lib.hid (hHeld.1.out.below Bd.out), Lib.hid (hHeld.2.out.keep Bd.out)⟩) (fun hHeld => ?_)
          clear hK K
          try simp only [Act.put, List.setIfInBounds_toArray, List.set_cons_zero, List.set_cons_succ]
          refine takeC (i := 12) rfl (by kernel_rfl) (by rfl) (fun K hK => ?_)
          go_simp
          refine (told_all (W4).heap.size q sv h now 2 W5 Xd.out hHeld.1.out (by omega)).mono ?_
          rintro e W6 ⟨⟨ve, rfl, ho⟩, hb⟩
          have Be := Lib.hid hb
          have Re : Hid (Rd encE 4 W6 ve (((sortE h).take M))) := by
            have e0 : (sortE h).take (2 : Int).toNat = ((sortE h).take M) := TK.out
            rw [e0] at ho
            exact Rd.of_owns encE_len ho (by simp; omega)
          clear ho hb
          refine hK.out _ _ (⟨Lib.hid (hHeld.1.out.below Be.out), Lib.hid (hHeld.2.out.keep Be.out)⟩) (fun hHeld => ?_)
          clear hK K
          try simp only [Act.put, List.setIfInBounds_toArray, List.set_cons_zero, List.set_cons_succ]
          refine takeC (i := 24) rfl (by kernel_rfl) (by rfl) (fun K hK => ?_)
          go_simp
          refine (equal_any ve (.slice va M vc) ((sortE h).take M) ((sortE h).take M) W6 (Re.out) (hHeld.2.out.2.take M (by rw [sortE_len]; have := HNN.out; omega))).mono ?_
          rintro e W7 ⟨rfl, hb⟩
          have Bf := Lib.hid hb
          clear hb
          rw [show decide (((sortE h).take M) = ((sortE h).take M)) = true by simp]
          refine hK.out _ _ (⟨Lib.hid (hHeld.1.out.below Bf.out), Lib.hid (hHeld.2.out.keep Bf.out)⟩) (fun hHeld => ?_)
          clear hK K
          try simp only [Act.put, List.setIfInBounds_toArray, List.set_cons_zero, List.set_cons_succ]
          first
            | (refine takeW (i := 25) (v := ?_) rfl (by kernel_rfl) (by kernel_rfl) (by kernel_rfl) (fun _ _ _ h => h) (by rfl) (by assumption) ?_ ?_; rotate_left; (intro W hW; (try dsimp only at hW); go_simp; try with_reducible rfl); (try simp only [Act.put, List.setIfInBounds_toArray, List.set_cons_zero, List.set_cons_succ]))
            | (refine takeU (i := 25) rfl (by kernel_rfl) (by kernel_rfl) (by kernel_rfl) (fun _ _ _ h => h) (by rfl) (by assumption) ?_; (try simp only [Act.put, List.setIfInBounds_toArray, List.set_cons_zero, List.set_cons_succ]))
          (refine takeW (i := 26) (v := ?_) rfl (by kernel_rfl) (by kernel_rfl) (by kernel_rfl) (fun _ _ _ h => h) (by rfl) (by assumption) ?_ ?_; rotate_left; (intro W hW; (try dsimp only at hW); go_simp; try with_reducible rfl); (try simp only [Act.put, List.setIfInBounds_toArray, List.set_cons_zero, List.set_cons_succ]))
          refine wpAnyH_done (by kernel_rfl) ?_ _
          have HJF : Hid (JQ w q r h now W7) := (((((HJ.out.keep Ba.out).keep Bb.out).keep Bc.out).keep Bd.out).keep Be.out).keep Bf.out
          go_wp2
          go_meet
          exact ⟨_, _, HJF.out, Nat.le_succ _⟩
  case rest =>
    clear HJ HX
    obtain ⟨h', now', hj', hl'⟩ := hcut
    have HP : Hid (∀ w' now', JQ w q r h' now' w' → SameP w q r h (.returned (.bool true)) w') := fun w' now' hj => HP0.out w' h' now' hj hl'
    have hl2 : h'.length ≤ 1001 := by omega
    clear HP0 hl hl'
    generalize SameP w q r h = R at *
    have HJ0 := Lib.hid hj'
    clear hj'
    obtain ⟨sv, v, hQ, hR, hs⟩ := HJ0.out.st
    have HQ := Lib.hid hQ
    have HR := Lib.hid hR
    clear hQ hR hs
    have hvn : ∃ va vc, v = .slice va h'.length vc := by
      obtain ⟨a, cap, e, -⟩ := HR.out.2.shape
      rw [sortE_len] at e
      exact ⟨a, cap, e⟩
    obtain ⟨va, vc, hve⟩ := hvn
    obtain ⟨n, hn⟩ : ∃ n, n = h'.length := ⟨_, rfl⟩
    rw [← hn] at hve hl2
    subst hve
    obtain ⟨x, pk, hpe⟩ : ∃ x pk, peekE h' = (x, pk) := ⟨_, _, rfl⟩
    have hcase : (pk = false ∧ n = 0) ∨ (∃ t, sortE h' = x :: t ∧ pk = true ∧ n = t.length + 1) := by
      cases h' with
      | nil => cases hpe; exact .inl ⟨rfl, hn⟩
      | cons y l =>
        cases hpe
        have hp := pop_sort HJ0.out.heap (x := x) rfl
        have := sortE_len (x :: l)
        rw [hp] at this
        exact .inr ⟨_, hp, rfl, by rw [hn, ← this]; rfl⟩
    have HNN := Lib.hid hn
    have HPE := Lib.hid (peek_any q sv h' now' wc HQ.out (by omega))
    rw [hpe] at HPE
    clear hpe hn
    go_wp2_with fail
    refine HPE.out.mono ?_
    rintro e W2 ⟨rfl, hb2⟩
    have B2 := Lib.hid hb2
    clear hb2 HPE
    go_upto_region 16 with ((with_reducible show wpList _ _ _ (Oper.mk none (Op.store 31 _ _) _ _ _ _ :: _) _ _); refine wpList_boxW W31 rfl rfl rfl (encE x) rfl rfl (encE_one _) rfl ?_; intro W3 hbx hbel hsz; have XA := Lib.hid hbx; have EA := Lib.hid hbel; clear hbx hbel hsz)
    have HJ3 := Lib.hid ((HJ0.out.keep B2.out).keep EA.out)
    have HQ3 := Lib.hid ((HQ.out.below B2.out).below EA.out)
    have HR3 := Lib.hid ((HR.out.keep B2.out).keep EA.out)
    have HJ4 : Hid (JQ w q r h' now' W3.drew) := Lib.hid (HJ3.out.keep (Below.refl _ _).drew)
    have HQ4 : Hid (Qu W3.drew q sv h' now') := Lib.hid (HQ3.out.below (Below.refl _ _).drew)
    have HR4 : Hid (RQ W3.drew r (.slice va n vc) (sortE h') now') := Lib.hid (HR3.out.keep (Below.refl _ _).drew)
    have HX4 : Hid (Blk W3.drew W2.heap.size 31 (encE x).toArray) := Lib.hid (XA.out.keep (Below.refl _ _).drew)
    generalize W2.heap.size = bp at *
    clear HQ HR HQ3 HR3 HJ3 HJ0 XA EA B2
    rcases hcase with ⟨rfl, rfl⟩ | ⟨t, hst, rfl, rfl⟩
    · have hS : Hid (Blk W3.drew bp 31 (encE x).toArray) ∧ Hid (RQ W3.drew r (.slice va 0 vc) (sortE h') now') := ⟨HX4, HR4⟩
      refine wp_region_held_drew (S := fun X => Hid (Blk X bp 31 (encE x).toArray) ∧ Hid (RQ X r (.slice va 0 vc) (sortE h') now')) (by kernel_rfl) hS (fun hHeld => ?_)
      (refine takeW (i := 0) (v := ?_) rfl (by kernel_rfl) (by kernel_rfl) (by kernel_rfl) (fun _ _ _ h => h) (by rfl) (by assumption) ?_ ?_; rotate_left; (intro W hW; (try dsimp only at hW); go_simp; try with_reducible rfl); (try simp only [Act.put, List.setIfInBounds_toArray, List.set_cons_zero, List.set_cons_succ]))
      (refine takeW (i := 1) (v := ?_) rfl (by kernel_rfl) (by kernel_rfl) (by kernel_rfl) (fun _ _ _ h => h) (by rfl) (by assumption) ?_ ?_; rotate_left; (intro W hW; (try dsimp only at hW); go_simp; try with_reducible rfl); (try simp only [Act.put, List.setIfInBounds_toArray, List.set_cons_zero, List.set_cons_succ]))
      (refine takeW (i := 2) (v := ?_) rfl (by kernel_rfl) (by kernel_rfl) (by kernel_rfl) (fun _ _ _ h => h) (by rfl) (by assumption) ?_ ?_; rotate_left; (intro W hW; (try dsimp only at hW); go_simp; try with_reducible rfl); (try simp only [Act.put, List.setIfInBounds_toArray, List.set_cons_zero, List.set_cons_succ]))
      (refine takeW (i := 3) (v := ?_) rfl (by kernel_rfl) (by kernel_rfl) (by kernel_rfl) (fun _ _ _ h => h) (by rfl) (by assumption) ?_ ?_; rotate_left; (intro W hW; (try dsimp only at hW); go_simp; try with_reducible rfl); (try simp only [Act.put, List.setIfInBounds_toArray, List.set_cons_zero, List.set_cons_succ]))
      (refine takeW (i := 4) rfl (by kernel_rfl) (by kernel_rfl) (by kernel_rfl) (fun _ _ _ h => h) (by rfl) (by assumption) (fun W hW => exec_load1 (v := .slice va 0 vc) F22 rfl rfl (hW.2.out.1.cell 0)) ?_; (try simp only [Act.put, List.setIfInBounds_toArray, List.set_cons_zero, List.set_cons_succ]))
      (refine takeW (i := 5) (v := ?_) rfl (by kernel_rfl) (by kernel_rfl) (by kernel_rfl) (fun _ _ _ h => h) (by rfl) (by assumption) ?_ ?_; rotate_left; (intro W hW; (try dsimp only at hW); go_simp; try with_reducible rfl); (try simp only [Act.put, List.setIfInBounds_toArray, List.set_cons_zero, List.set_cons_succ]))
      (refine takeW (i := 6) (v := ?_) rfl (by kernel_rfl) (by kernel_rfl) (by kernel_rfl) (fun _ _ _ h => h) (by rfl) (by assumption) ?_ ?_; rotate_left; (intro W hW; (try dsimp only at hW); go_simp; try with_reducible rfl); (try simp only [Act.put, List.setIfInBounds_toArray, List.set_cons_zero, List.set_cons_succ]))
      (refine takeW (i := 7) (v := ?_) rfl (by kernel_rfl) (by kernel_rfl) (by kernel_rfl) (fun _ _ _ h => h) (by rfl) (by assumption) ?_ ?_; rotate_left; (intro W hW; (try dsimp only at hW); go_simp; try with_reducible rfl); (try simp only [Act.put, List.setIfInBounds_toArray, List.set_cons_zero, List.set_cons_succ]))
      (refine takeW (i := 8) (v := ?_) rfl (by kernel_rfl) (by kernel_rfl) (by kernel_rfl) (fun _ _ _ h => h) (by rfl) (by assumption) ?_ ?_; rotate_left; (intro W hW; (try dsimp only at hW); go_simp; try with_reducible rfl); (try simp only [Act.put, List.setIfInBounds_toArray, List.set_cons_zero, List.set_cons_succ]))
      first
        | (refine takeW (i := 9) (v := ?_) rfl (by kernel_rfl) (by kernel_rfl) (by kernel_rfl) (fun _ _ _ h => h) (by rfl) (by assumption) ?_ ?_; rotate_left; (intro W hW; (try dsimp only at hW); go_simp; try with_reducible rfl); (try simp only [Act.put, List.setIfInBounds_toArray, List.set_cons_zero, List.set_cons_succ]))
        | (refine takeU (i := 9) rfl (by kernel_rfl) (by kernel_rfl) (by kernel_rfl) (fun _ _ _ h => h) (by rfl) (by assumption) ?_; (try simp only [Act.put, List.setIfInBounds_toArray, List.set_cons_zero, List.set_cons_succ]))
      first
        | (refine takeW (i := 10) (v := ?_) rfl (by kernel_rfl) (by kernel_rfl) (by kernel_rfl) (fun _ _ _ h => h) (by rfl) (by assumption) ?_ ?_; rotate_left; (intro W hW; (try dsimp only at hW); go_simp; try with_reducible rfl); (try simp only [Act.put, List.setIfInBounds_toArray, List.set_cons_zero, List.set_cons_succ]))
        | (refine takeU (i := 10) rfl (by kernel_rfl) (by kernel_rfl) (by kernel_rfl) (fun _ _ _ h => h) (by rfl) (by assumption) ?_; (try simp only [Act.put, List.setIfInBounds_toArray, List.set_cons_zero, List.set_cons_succ]))
      first
        | (refine takeW (i := 11) (v := ?_) rfl (by kernel_rfl) (by kernel_rfl) (by kernel_rfl) (fun _ _ _ h => h) (by rfl) (by assumption) ?_ ?_; rotate_left; (intro W hW; (try dsimp only at hW); go_simp; try with_reducible rfl); (try simp only [Act.put, List.setIfInBounds_toArray, List.set_cons_zero, List.set_cons_succ]))
        | (refine takeU (i := 11) rfl (by kernel_rfl) (by kernel_rfl) (by kernel_rfl) (fun _ _ _ h => h) (by rfl) (by assumption) ?_; (try simp only [Act.put, List.setIfInBounds_toArray, List.set_cons_zero, List.set_cons_succ]))
      first
        | (refine takeW (i := 12) (v := ?_) rfl (by kernel_rfl) (by kernel_rfl) (by kernel_rfl) (fun _ _ _ h => h) (by rfl) (by assumption) ?_ ?_; rotate_left; (intro W hW; (try dsimp only at hW); go_simp; try with_reducible rfl); (try simp only [Act.put, List.setIfInBounds_toArray, List.set_cons_zero, List.set_cons_succ]))
        | (refine takeU (i := 12) rfl (by kernel_rfl) (by kernel_rfl) (by kernel_rfl) (fun _ _ _ h => h) (by rfl) (by assumption) ?_; (try simp only [Act.put, List.setIfInBounds_toArray, List.set_cons_zero, List.set_cons_succ]))
      first
        | (refine takeW (i := 13) (v := ?_) rfl (by kernel_rfl) (by kernel_rfl) (by kernel_rfl) (fun _ _ _ h => h) (by rfl) (by assumption) ?_ ?_; rotate_left; (intro W hW; (try dsimp only at hW); go_simp; try with_reducible rfl); (try simp only [Act.put, List.setIfInBounds_toArray, List.set_cons_zero, List.set_cons_succ]))
        | (refine takeU (i := 13) rfl (by kernel_rfl) (by kernel_rfl) (by kernel_rfl) (fun _ _ _ h => h) (by rfl) (by assumption) ?_; (try simp only [Act.put, List.setIfInBounds_toArray, List.set_cons_zero, List.set_cons_succ]))
      first
        | (refine takeW (i := 14) (v := ?_) rfl (by kernel_rfl) (by kernel_rfl) (by kernel_rfl) (fun _ _ _ h => h) (by rfl) (by assumption) ?_ ?_; rotate_left; (intro W hW; (try dsimp only at hW); go_simp; try with_reducible rfl); (try simp only [Act.put, List.setIfInBounds_toArray, List.set_cons_zero, List.set_cons_succ]))
        | (refine takeU (i := 14) rfl (by kernel_rfl) (by kernel_rfl) (by kernel_rfl) (fun _ _ _ h => h) (by rfl) (by assumption) ?_; (try simp only [Act.put, List.setIfInBounds_toArray, List.set_cons_zero, List.set_cons_succ]))
      first
        | (refine takeW (i := 15) (v := ?_) rfl (by kernel_rfl) (by kernel_rfl) (by kernel_rfl) (fun _ _ _ h => h) (by rfl) (by assumption) ?_ ?_; rotate_left; (intro W hW; (try dsimp only at hW); go_simp; try with_reducible rfl); (try simp only [Act.put, List.setIfInBounds_toArray, List.set_cons_zero, List.set_cons_succ]))
        | (refine takeU (i := 15) rfl (by kernel_rfl) (by kernel_rfl) (by kernel_rfl) (fun _ _ _ h => h) (by rfl) (by assumption) ?_; (try simp only [Act.put, List.setIfInBounds_toArray, List.set_cons_zero, List.set_cons_succ]))
      first
        | (refine takeW (i := 16) (v := ?_) rfl (by kernel_rfl) (by kernel_rfl) (by kernel_rfl) (fun _ _ _ h => h) (by rfl) (by assumption) ?_ ?_; rotate_left; (intro W hW; (try dsimp only at hW); go_simp; try with_reducible rfl); (try simp only [Act.put, List.setIfInBounds_toArray, List.set_cons_zero, List.set_cons_succ]))
        | (refine takeU (i := 16) rfl (by kernel_rfl) (by kernel_rfl) (by kernel_rfl) (fun _ _ _ h => h) (by rfl) (by assumption) ?_; (try simp only [Act.put, List.setIfInBounds_toArray, List.set_cons_zero, List.set_cons_succ]))
      first
        | (refine takeW (i := 17) (v := ?_) rfl (by kernel_rfl) (by kernel_rfl) (by kernel_rfl) (fun _ _ _ h => h) (by rfl) (by assumption) ?_ ?_; rotate_left; (intro W hW; (try dsimp only at hW); go_simp; try with_reducible rfl); (try simp only [Act.put, List.setIfInBounds_toArray, List.set_cons_zero, List.set_cons_succ]))
        | (refine takeU (i := 17) rfl (by kernel_rfl) (by kernel_rfl) (by kernel_rfl) (fun _ _ _ h => h) (by rfl) (by assumption) ?_; (try simp only [Act.put, List.setIfInBounds_toArray, List.set_cons_zero, List.set_cons_succ]))
      first
        | (refine takeW (i := 18) (v := ?_) rfl (by kernel_rfl) (by kernel_rfl) (by kernel_rfl) (fun _ _ _ h => h) (by rfl) (by assumption) ?_ ?_; rotate_left; (intro W hW; (try dsimp only at hW); go_simp; try with_reducible rfl); (try simp only [Act.put, List.setIfInBounds_toArray, List.set_cons_zero, List.set_cons_succ]))
        | (refine takeU (i := 18) rfl (by kernel_rfl) (by kernel_rfl) (by kernel_rfl) (fun _ _ _ h => h) (by rfl) (by assumption) ?_; (try simp only [Act.put, List.setIfInBounds_toArray, List.set_cons_zero, List.set_cons_succ]))
      first
        | (refine takeW (i := 19) (v := ?_) rfl (by kernel_rfl) (by kernel_rfl) (by kernel_rfl) (fun _ _ _ h => h) (by rfl) (by assumption) ?_ ?_; rotate_left; (intro W hW; (try dsimp only at hW); go_simp; try with_reducible rfl); (try simp only [Act.put, List.setIfInBounds_toArray, List.set_cons_zero, List.set_cons_succ]))
        | (refine takeU (i := 19) rfl (by kernel_rfl) (by kernel_rfl) (by kernel_rfl) (fun _ _ _ h => h) (by rfl) (by assumption) ?_; (try simp only [Act.put, List.setIfInBounds_toArray, List.set_cons_zero, List.set_cons_succ]))
      (refine takeW (i := 20) (v := ?_) rfl (by kernel_rfl) (by kernel_rfl) (by kernel_rfl) (fun _ _ _ h => h) (by rfl) (by assumption) ?_ ?_; rotate_left; (intro W hW; (try dsimp only at hW); go_simp; try with_reducible rfl); (try simp only [Act.put, List.setIfInBounds_toArray, List.set_cons_zero, List.set_cons_succ]))
      refine wpAnyH_done (by kernel_rfl) ?_ _
      go_upto_region 18 with fail
      generalize W3.drew = W4 at *
      clear hS hHeld
      have hS : Hid (Qu W4.drew q sv h' now') ∧ Hid (RQ W4.drew r (.slice va 0 vc) (sortE h') now') := ⟨Lib.hid (HQ4.out.below (Below.refl _ _).drew), Lib.hid (HR4.out.keep (Below.refl _ _).drew)⟩
      refine wp_region_held_drew (S := fun X => Hid (Qu X q sv h' now') ∧ Hid (RQ X r (.slice va 0 vc) (sortE h') now')) (by kernel_rfl) hS (fun hHeld => ?_)
      (refine takeW (i := 0) (v := ?_) rfl (by kernel_rfl) (by kernel_rfl) (by kernel_rfl) (fun _ _ _ h => h) (by rfl) (by assumption) ?_ ?_; rotate_left; (intro W hW; (try dsimp only at hW); go_simp; try with_reducible rfl); (try simp only [Act.put, List.setIfInBounds_toArray, List.set_cons_zero, List.set_cons_succ]))
      (refine takeW (i := 2) (v := ?_) rfl (by kernel_rfl) (by kernel_rfl) (by kernel_rfl) (fun _ _ _ h => h) (by rfl) (by assumption) ?_ ?_; rotate_left; (intro W hW; (try dsimp only at hW); go_simp; try with_reducible rfl); (try simp only [Act.put, List.setIfInBounds_toArray, List.set_cons_zero, List.set_cons_succ]))
      (refine takeW (i := 3) (v := ?_) rfl (by kernel_rfl) (by kernel_rfl) (by kernel_rfl) (fun _ _ _ h => h) (by rfl) (by assumption) ?_ ?_; rotate_left; (intro W hW; (try dsimp only at hW); go_simp; try with_reducible rfl); (try simp only [Act.put, List.setIfInBounds_toArray, List.set_cons_zero, List.set_cons_succ]))
      (refine takeW (i := 4) (v := ?_) rfl (by kernel_rfl) (by kernel_rfl) (by kernel_rfl) (fun _ _ _ h => h) (by rfl) (by assumption) ?_ ?_; rotate_left; (intro W hW; (try dsimp only at hW); go_simp; try with_reducible rfl); (try simp only [Act.put, List.setIfInBounds_toArray, List.set_cons_zero, List.set_cons_succ]))
      (refine takeW (i := 5) rfl (by kernel_rfl) (by kernel_rfl) (by kernel_rfl) (fun _ _ _ h => h) (by rfl) (by assumption) (fun W hW => exec_load1 (v := .slice va 0 vc) F22 rfl rfl (hW.2.out.1.cell 0)) ?_; (try simp only [Act.put, List.setIfInBounds_toArray, List.set_cons_zero, List.set_cons_succ]))
      (refine takeW (i := 6) (v := ?_) rfl (by kernel_rfl) (by kernel_rfl) (by kernel_rfl) (fun _ _ _ h => h) (by rfl) (by assumption) ?_ ?_; rotate_left; (intro W hW; (try dsimp only at hW); go_simp; try with_reducible rfl); (try simp only [Act.put, List.setIfInBounds_toArray, List.set_cons_zero, List.set_cons_succ]))
      refine takeC (i := 1) rfl (by kernel_rfl) (by rfl) (fun K hK => ?_)
      go_simp
      refine (len_any q sv h' now' _ hHeld.1.out).mono ?_
      rintro e w' ⟨rfl, rfl⟩
      rw [← HNN.out]
      refine hK.out _ _ hHeld (fun hHeld => ?_)
      clear hK K
      try simp only [Act.put, List.setIfInBounds_toArray, List.set_cons_zero, List.set_cons_succ]
      (refine takeW (i := 7) (v := ?_) rfl (by kernel_rfl) (by kernel_rfl) (by kernel_rfl) (fun _ _ _ h => h) (by rfl) (by assumption) ?_ ?_; rotate_left; (intro W hW; (try dsimp only at hW); go_simp; try with_reducible rfl); (try simp only [Act.put, List.setIfInBounds_toArray, List.set_cons_zero, List.set_cons_succ]))
      (refine takeW (i := 8) (v := ?_) rfl (by kernel_rfl) (by kernel_rfl) (by kernel_rfl) (fun _ _ _ h => h) (by rfl) (by assumption) ?_ ?_; rotate_left; (intro W hW; (try dsimp only at hW); go_simp; try with_reducible rfl); (try simp only [Act.put, List.setIfInBounds_toArray, List.set_cons_zero, List.set_cons_succ]))
      first
        | (refine takeW (i := 9) (v := ?_) rfl (by kernel_rfl) (by kernel_rfl) (by kernel_rfl) (fun _ _ _ h => h) (by rfl) (by assumption) ?_ ?_; rotate_left; (intro W hW; (try dsimp only at hW); go_simp; try with_reducible rfl); (try simp only [Act.put, List.setIfInBounds_toArray, List.set_cons_zero, List.set_cons_succ]))
        | (refine takeU (i := 9) rfl (by kernel_rfl) (by kernel_rfl) (by kernel_rfl) (fun _ _ _ h => h) (by rfl) (by assumption) ?_; (try simp only [Act.put, List.setIfInBounds_toArray, List.set_cons_zero, List.set_cons_succ]))
      first
        | (refine takeW (i := 11) (v := ?_) rfl (by kernel_rfl) (by kernel_rfl) (by kernel_rfl) (fun _ _ _ h => h) (by rfl) (by assumption) ?_ ?_; rotate_left; (intro W hW; (try dsimp only at hW); go_simp; try with_reducible rfl); (try simp only [Act.put, List.setIfInBounds_toArray, List.set_cons_zero, List.set_cons_succ]))
        | (refine takeU (i := 11) rfl (by kernel_rfl) (by kernel_rfl) (by kernel_rfl) (fun _ _ _ h => h) (by rfl) (by assumption) ?_; (try simp only [Act.put, List.setIfInBounds_toArray, List.set_cons_zero, List.set_cons_succ]))
      first
        | (refine takeW (i := 12) (v := ?_) rfl (by kernel_rfl) (by kernel_rfl) (by kernel_rfl) (fun _ _ _ h => h) (by rfl) (by assumption) ?_ ?_; rotate_left; (intro W hW; (try dsimp only at hW); go_simp; try with_reducible rfl); (try simp only [Act.put, List.setIfInBounds_toArray, List.set_cons_zero, List.set_cons_succ]))
        | (refine takeU (i := 12) rfl (by kernel_rfl) (by kernel_rfl) (by kernel_rfl) (fun _ _ _ h => h) (by rfl) (by assumption) ?_; (try simp only [Act.put, List.setIfInBounds_toArray, List.set_cons_zero, List.set_cons_succ]))
      first
        | (refine takeW (i := 13) (v := ?_) rfl (by kernel_rfl) (by kernel_rfl) (by kernel_rfl) (fun _ _ _ h => h) (by rfl) (by assumption) ?_ ?_; rotate_left; (intro W hW; (try dsimp only at hW); go_simp; try with_reducible rfl); (try simp only [Act.put, List.setIfInBounds_toArray, List.set_cons_zero, List.set_cons_succ]))
        | (refine takeU (i := 13) rfl (by kernel_rfl) (by kernel_rfl) (by kernel_rfl) (fun _ _ _ h => h) (by rfl) (by assumption) ?_; (try simp only [Act.put, List.setIfInBounds_toArray, List.set_cons_zero, List.set_cons_succ]))
      (refine takeW (i := 14) rfl (by kernel_rfl) (by kernel_rfl) (by kernel_rfl) (fun _ _ _ h => h) (by rfl) (by assumption) (fun W hW => exec_load1 (v := .int .i64 now') F2 rfl rfl (hW.2.out.1.cell 1)) ?_; (try simp only [Act.put, List.setIfInBounds_toArray, List.set_cons_zero, List.set_cons_succ]))
      refine takeC (i := 10) rfl (by kernel_rfl) (by rfl) (fun K hK => ?_)
      go_simp
      refine (now_any q sv h' now' _ hHeld.1.out).mono ?_
      rintro e w' ⟨rfl, rfl⟩
      refine hK.out _ _ hHeld (fun hHeld => ?_)
      clear hK K
      try simp only [Act.put, List.setIfInBounds_toArray, List.set_cons_zero, List.set_cons_succ]
      first
        | (refine takeW (i := 15) (v := ?_) rfl (by kernel_rfl) (by kernel_rfl) (by kernel_rfl) (fun _ _ _ h => h) (by rfl) (by assumption) ?_ ?_; rotate_left; (intro W hW; (try dsimp only at hW); go_simp; try with_reducible rfl); (try simp only [Act.put, List.setIfInBounds_toArray, List.set_cons_zero, List.set_cons_succ]))
        | (refine takeU (i := 15) rfl (by kernel_rfl) (by kernel_rfl) (by kernel_rfl) (fun _ _ _ h => h) (by rfl) (by assumption) ?_; (try simp only [Act.put, List.setIfInBounds_toArray, List.set_cons_zero, List.set_cons_succ]))
      (refine takeW (i := 16) (v := ?_) rfl (by kernel_rfl) (by kernel_rfl) (by kernel_rfl) (fun _ _ _ h => h) (by rfl) (by assumption) ?_ ?_; rotate_left; (intro W hW; (try dsimp only at hW); go_simp; try with_reducible rfl); (try simp only [Act.put, List.setIfInBounds_toArray, List.set_cons_zero, List.set_cons_succ]))
      (refine takeW (i := 17) (v := ?_) rfl (by kernel_rfl) (by kernel_rfl) (by kernel_rfl) (fun _ _ _ h => h) (by rfl) (by assumption) ?_ ?_; rotate_left; (intro W hW; (try dsimp only at hW); go_simp; try with_reducible rfl); (try simp only [Act.put, List.setIfInBounds_toArray, List.set_cons_zero, List.set_cons_succ]))
      refine wpAnyH_done (by kernel_rfl) ?_ _
      go_wp2
      exact HP.out _ _ (HJ4.out.keep (Below.refl _ _).drew)
    · have HST : Hid ((sortE h')[0]? = some x) := by show _ = _; rw [hst]; rfl
      obtain ⟨bl, off, rfl, -, -⟩ := HR4.out.2.row (by rw [hst]; simp)
      clear hst
      generalize t.length = m at *
      have hlt : (0 : Int) < (m : Int) + 1 := by omega
      have hS : Hid (Blk W3.drew bp 31 (encE x).toArray) ∧ Hid (RQ W3.drew r (.slice (some ⟨bl, off, none⟩) (m + 1) vc) (sortE h') now') := ⟨HX4, HR4⟩
      refine wp_region_held_drew (S := fun X => Hid (Blk X bp 31 (encE x).toArray) ∧ Hid (RQ X r (.slice (some ⟨bl, off, none⟩) (m + 1) vc) (sortE h') now')) (by kernel_rfl) hS (fun hHeld => ?_)
      (refine takeW (i := 0) (v := ?_) rfl (by kernel_rfl) (by kernel_rfl) (by kernel_rfl) (fun _ _ _ h => h) (by rfl) (by assumption) ?_ ?_; rotate_left; (intro W hW; (try dsimp only at hW); go_simp; try with_reducible rfl); (try simp only [Act.put, List.setIfInBounds_toArray, List.set_cons_zero, List.set_cons_succ]))
      (refine takeW (i := 1) (v := ?_) rfl (by kernel_rfl) (by kernel_rfl) (by kernel_rfl) (fun _ _ _ h => h) (by rfl) (by assumption) ?_ ?_; rotate_left; (intro W hW; (try dsimp only at hW); go_simp; try with_reducible rfl); (try simp only [Act.put, List.setIfInBounds_toArray, List.set_cons_zero, List.set_cons_succ]))
      (refine takeW (i := 2) (v := ?_) rfl (by kernel_rfl) (by kernel_rfl) (by kernel_rfl) (fun _ _ _ h => h) (by rfl) (by assumption) ?_ ?_; rotate_left; (intro W hW; (try dsimp only at hW); go_simp; try with_reducible rfl); (try simp only [Act.put, List.setIfInBounds_toArray, List.set_cons_zero, List.set_cons_succ]))
      (refine takeW (i := 3) (v := ?_) rfl (by kernel_rfl) (by kernel_rfl) (by kernel_rfl) (fun _ _ _ h => h) (by rfl) (by assumption) ?_ ?_; rotate_left; (intro W hW; (try dsimp only at hW); go_simp; try with_reducible rfl); (try simp only [Act.put, List.setIfInBounds_toArray, List.set_cons_zero, List.set_cons_succ]))
      (refine takeW (i := 4) rfl (by kernel_rfl) (by kernel_rfl) (by kernel_rfl) (fun _ _ _ h => h) (by rfl) (by assumption) (fun W hW => exec_load1 (v := .slice (some ⟨bl, off, none⟩) (m + 1) vc) F22 rfl rfl (hW.2.out.1.cell 0)) ?_; (try simp only [Act.put, List.setIfInBounds_toArray, List.set_cons_zero, List.set_cons_succ]))
      (refine takeW (i := 5) (v := ?_) rfl (by kernel_rfl) (by kernel_rfl) (by kernel_rfl) (fun _ _ _ h => h) (by rfl) (by assumption) ?_ ?_; rotate_left; (intro W hW; (try dsimp only at hW); go_simp; try with_reducible rfl); (try simp only [Act.put, List.setIfInBounds_toArray, List.set_cons_zero, List.set_cons_succ]))
      (refine takeW (i := 6) (v := ?_) rfl (by kernel_rfl) (by kernel_rfl) (by kernel_rfl) (fun _ _ _ h => h) (by rfl) (by assumption) ?_ ?_; rotate_left; (intro W hW; (try dsimp only at hW); go_simp; try with_reducible rfl); (try simp only [Act.put, List.setIfInBounds_toArray, List.set_cons_zero, List.set_cons_succ]))
      (refine takeW (i := 7) (v := ?_) rfl (by kernel_rfl) (by kernel_rfl) (by kernel_rfl) (fun _ _ _ h => h) (by rfl) (by assumption) ?_ ?_; rotate_left; (intro W hW; (try dsimp only at hW); go_simp; try with_reducible rfl); (try simp only [Act.put, List.setIfInBounds_toArray, List.set_cons_zero, List.set_cons_succ]))
      (refine takeW (i := 8) (v := ?_) rfl (by kernel_rfl) (by kernel_rfl) (by kernel_rfl) (fun _ _ _ h => h) (by rfl) (by assumption) ?_ ?_; rotate_left; (intro W hW; (try dsimp only at hW); go_simp; try with_reducible rfl); (try simp only [Act.put, List.setIfInBounds_toArray, List.set_cons_zero, List.set_cons_succ]))
      first
        | (refine takeW (i := 9) (v := ?_) rfl (by kernel_rfl) (by kernel_rfl) (by kernel_rfl) (fun _ _ _ h => h) (by rfl) (by assumption) ?_ ?_; rotate_left; (intro W hW; (try dsimp only at hW); go_simp; try with_reducible rfl); (try simp only [Act.put, List.setIfInBounds_toArray, List.set_cons_zero, List.set_cons_succ]))
        | (refine takeU (i := 9) rfl (by kernel_rfl) (by kernel_rfl) (by kernel_rfl) (fun _ _ _ h => h) (by rfl) (by assumption) ?_; (try simp only [Act.put, List.setIfInBounds_toArray, List.set_cons_zero, List.set_cons_succ]))
      first
        | (refine takeW (i := 10) (v := ?_) rfl (by kernel_rfl) (by kernel_rfl) (by kernel_rfl) (fun _ _ _ h => h) (by rfl) (by assumption) ?_ ?_; rotate_left; (intro W hW; (try dsimp only at hW); go_simp; try with_reducible rfl); (try simp only [Act.put, List.setIfInBounds_toArray, List.set_cons_zero, List.set_cons_succ]))
        | (refine takeU (i := 10) rfl (by kernel_rfl) (by kernel_rfl) (by kernel_rfl) (fun _ _ _ h => h) (by rfl) (by assumption) ?_; (try simp only [Act.put, List.setIfInBounds_toArray, List.set_cons_zero, List.set_cons_succ]))
      (refine takeW (i := 11) rfl (by kernel_rfl) (by kernel_rfl) (by kernel_rfl) (fun _ _ _ h => h) (by rfl) (by assumption) (fun W hW => exec_loadW W31 rfl rfl (cs := encE x) rfl (hW.1.out.list)) ?_; (try simp only [Act.put, List.setIfInBounds_toArray, List.set_cons_zero, List.set_cons_succ]))
      first
        | (refine takeW (i := 12) (v := ?_) rfl (by kernel_rfl) (by kernel_rfl) (by kernel_rfl) (fun _ _ _ h => h) (by rfl) (by assumption) ?_ ?_; rotate_left; (intro W hW; (try dsimp only at hW); go_simp; try with_reducible rfl); (try simp only [Act.put, List.setIfInBounds_toArray, List.set_cons_zero, List.set_cons_succ]))
        | (refine takeU (i := 12) rfl (by kernel_rfl) (by kernel_rfl) (by kernel_rfl) (fun _ _ _ h => h) (by rfl) (by assumption) ?_; (try simp only [Act.put, List.setIfInBounds_toArray, List.set_cons_zero, List.set_cons_succ]))
      first
        | (refine takeW (i := 13) (v := ?_) rfl (by kernel_rfl) (by kernel_rfl) (by kernel_rfl) (fun _ _ _ h => h) (by rfl) (by assumption) ?_ ?_; rotate_left; (intro W hW; (try dsimp only at hW); go_simp; try with_reducible rfl); (try simp only [Act.put, List.setIfInBounds_toArray, List.set_cons_zero, List.set_cons_succ]))
        | (refine takeU (i := 13) rfl (by kernel_rfl) (by kernel_rfl) (by kernel_rfl) (fun _ _ _ h => h) (by rfl) (by assumption) ?_; (try simp only [Act.put, List.setIfInBounds_toArray, List.set_cons_zero, List.set_cons_succ]))
      first
        | (refine takeW (i := 14) (v := ?_) rfl (by kernel_rfl) (by kernel_rfl) (by kernel_rfl) (fun _ _ _ h => h) (by rfl) (by assumption) ?_ ?_; rotate_left; (intro W hW; (try dsimp only at hW); go_simp; try with_reducible rfl); (try simp only [Act.put, List.setIfInBounds_toArray, List.set_cons_zero, List.set_cons_succ]))
        | (refine takeU (i := 14) rfl (by kernel_rfl) (by kernel_rfl) (by kernel_rfl) (fun _ _ _ h => h) (by rfl) (by assumption) ?_; (try simp only [Act.put, List.setIfInBounds_toArray, List.set_cons_zero, List.set_cons_succ]))
      (refine takeW (i := 15) rfl (by kernel_rfl) (by kernel_rfl) (by kernel_rfl) (fun _ _ _ h => h) (by rfl) (by assumption) (fun W hW => exec_load1 (v := .slice (some ⟨bl, off, none⟩) (m + 1) vc) F22 rfl rfl (hW.2.out.1.cell 0)) ?_; (try simp only [Act.put, List.setIfInBounds_toArray, List.set_cons_zero, List.set_cons_succ]))
      first
        | (refine takeW (i := 16) (v := ?_) rfl (by kernel_rfl) (by kernel_rfl) (by kernel_rfl) (fun _ _ _ h => h) (by rfl) (by assumption) ?_ ?_; rotate_left; (intro W hW; (try dsimp only at hW); go_simp; try with_reducible rfl); (try simp only [Act.put, List.setIfInBounds_toArray, List.set_cons_zero, List.set_cons_succ]))
        | (refine takeU (i := 16) rfl (by kernel_rfl) (by kernel_rfl) (by kernel_rfl) (fun _ _ _ h => h) (by rfl) (by assumption) ?_; (try simp only [Act.put, List.setIfInBounds_toArray, List.set_cons_zero, List.set_cons_succ]))
      (refine takeW (i := 17) rfl (by kernel_rfl) (by kernel_rfl) (by kernel_rfl) (fun _ _ _ h => h) (by rfl) (by assumption) (fun W hW => exec_loadW W31 rfl rfl (cs := encE x) rfl (first_at hW.2.out.2 HST.out)) ?_; (try simp only [Act.put, List.setIfInBounds_toArray, List.set_cons_zero, List.set_cons_succ]))
      (refine takeW (i := 18) rfl (by kernel_rfl) (by kernel_rfl) (by kernel_rfl) (fun _ _ _ h => h) (by rfl) (by assumption) (fun W hW => exec_neE' (u := x) rfl rfl rfl) ?_; (try simp only [Act.put, List.setIfInBounds_toArray, List.set_cons_zero, List.set_cons_succ]))
      first
        | (refine takeW (i := 19) (v := ?_) rfl (by kernel_rfl) (by kernel_rfl) (by kernel_rfl) (fun _ _ _ h => h) (by rfl) (by assumption) ?_ ?_; rotate_left; (intro W hW; (try dsimp only at hW); go_simp; try with_reducible rfl); (try simp only [Act.put, List.setIfInBounds_toArray, List.set_cons_zero, List.set_cons_succ]))
        | (refine takeU (i := 19) rfl (by kernel_rfl) (by kernel_rfl) (by kernel_rfl) (fun _ _ _ h => h) (by rfl) (by assumption) ?_; (try simp only [Act.put, List.setIfInBounds_toArray, List.set_cons_zero, List.set_cons_succ]))
      (refine takeW (i := 20) (v := ?_) rfl (by kernel_rfl) (by kernel_rfl) (by kernel_rfl) (fun _ _ _ h => h) (by rfl) (by assumption) ?_ ?_; rotate_left; (intro W hW; (try dsimp only at hW); go_simp; try with_reducible rfl); (try simp only [Act.put, List.setIfInBounds_toArray, List.set_cons_zero, List.set_cons_succ]))
      refine wpAnyH_done (by kernel_rfl) ?_ _
      go_upto_region 18 with fail
      generalize W3.drew = W4 at *
      clear hS hHeld
      have hS : Hid (Qu W4.drew q sv h' now') ∧ Hid (RQ W4.drew r (.slice (some ⟨bl, off, none⟩) (m + 1) vc) (sortE h') now') := ⟨Lib.hid (HQ4.out.below (Below.refl _ _).drew), Lib.hid (HR4.out.keep (Below.refl _ _).drew)⟩
      refine wp_region_held_drew (S := fun X => Hid (Qu X q sv h' now') ∧ Hid (RQ X r (.slice (some ⟨bl, off, none⟩) (m + 1) vc) (sortE h') now')) (by kernel_rfl) hS (fun hHeld => ?_)
      (refine takeW (i := 0) (v := ?_) rfl (by kernel_rfl) (by kernel_rfl) (by kernel_rfl) (fun _ _ _ h => h) (by rfl) (by assumption) ?_ ?_; rotate_left; (intro W hW; (try dsimp only at hW); go_simp; try with_reducible rfl); (try simp only [Act.put, List.setIfInBounds_toArray, List.set_cons_zero, List.set_cons_succ]))
      (refine takeW (i := 2) (v := ?_) rfl (by kernel_rfl) (by kernel_rfl) (by kernel_rfl) (fun _ _ _ h => h) (by rfl) (by assumption) ?_ ?_; rotate_left; (intro W hW; (try dsimp only at hW); go_simp; try with_reducible rfl); (try simp only [Act.put, List.setIfInBounds_toArray, List.set_cons_zero, List.set_cons_succ]))
      (refine takeW (i := 3) (v := ?_) rfl (by kernel_rfl) (by kernel_rfl) (by kernel_rfl) (fun _ _ _ h => h) (by rfl) (by assumption) ?_ ?_; rotate_left; (intro W hW; (try dsimp only at hW); go_simp; try with_reducible rfl); (try simp only [Act.put, List.setIfInBounds_toArray, List.set_cons_zero, List.set_cons_succ]))
      (refine takeW (i := 4) (v := ?_) rfl (by kernel_rfl) (by kernel_rfl) (by kernel_rfl) (fun _ _ _ h => h) (by rfl) (by assumption) ?_ ?_; rotate_left; (intro W hW; (try dsimp only at hW); go_simp; try with_reducible rfl); (try simp only [Act.put, List.setIfInBounds_toArray, List.set_cons_zero, List.set_cons_succ]))
      (refine takeW (i := 5) rfl (by kernel_rfl) (by kernel_rfl) (by kernel_rfl) (fun _ _ _ h => h) (by rfl) (by assumption) (fun W hW => exec_load1 (v := .slice (some ⟨bl, off, none⟩) (m + 1) vc) F22 rfl rfl (hW.2.out.1.cell 0)) ?_; (try simp only [Act.put, List.setIfInBounds_toArray, List.set_cons_zero, List.set_cons_succ]))
      (refine takeW (i := 6) (v := ?_) rfl (by kernel_rfl) (by kernel_rfl) (by kernel_rfl) (fun _ _ _ h => h) (by rfl) (by assumption) ?_ ?_; rotate_left; (intro W hW; (try dsimp only at hW); go_simp; try with_reducible rfl); (try simp only [Act.put, List.setIfInBounds_toArray, List.set_cons_zero, List.set_cons_succ]))
      refine takeC (i := 1) rfl (by kernel_rfl) (by rfl) (fun K hK => ?_)
      go_simp
      refine (len_any q sv h' now' _ hHeld.1.out).mono ?_
      rintro e w' ⟨rfl, rfl⟩
      rw [← HNN.out]
      refine hK.out _ _ hHeld (fun hHeld => ?_)
      clear hK K
      try simp only [Act.put, List.setIfInBounds_toArray, List.set_cons_zero, List.set_cons_succ]
      (refine takeW (i := 7) (v := ?_) rfl (by kernel_rfl) (by kernel_rfl) (by kernel_rfl) (fun _ _ _ h => h) (by rfl) (by assumption) ?_ ?_; rotate_left; (intro W hW; (try dsimp only at hW); go_simp; try with_reducible rfl); (try simp only [Act.put, List.setIfInBounds_toArray, List.set_cons_zero, List.set_cons_succ]))
      (refine takeW (i := 8) (v := ?_) rfl (by kernel_rfl) (by kernel_rfl) (by kernel_rfl) (fun _ _ _ h => h) (by rfl) (by assumption) ?_ ?_; rotate_left; (intro W hW; (try dsimp only at hW); go_simp; try with_reducible rfl); (try simp only [Act.put, List.setIfInBounds_toArray, List.set_cons_zero, List.set_cons_succ]))
      first
        | (refine takeW (i := 9) (v := ?_) rfl (by kernel_rfl) (by kernel_rfl) (by kernel_rfl) (fun _ _ _ h => h) (by rfl) (by assumption) ?_ ?_; rotate_left; (intro W hW; (try dsimp only at hW); go_simp; try with_reducible rfl); (try simp only [Act.put, List.setIfInBounds_toArray, List.set_cons_zero, List.set_cons_succ]))
        | (refine takeU (i := 9) rfl (by kernel_rfl) (by kernel_rfl) (by kernel_rfl) (fun _ _ _ h => h) (by rfl) (by assumption) ?_; (try simp only [Act.put, List.setIfInBounds_toArray, List.set_cons_zero, List.set_cons_succ]))
      first
        | (refine takeW (i := 11) (v := ?_) rfl (by kernel_rfl) (by kernel_rfl) (by kernel_rfl) (fun _ _ _ h => h) (by rfl) (by assumption) ?_ ?_; rotate_left; (intro W hW; (try dsimp only at hW); go_simp; try with_reducible rfl); (try simp only [Act.put, List.setIfInBounds_toArray, List.set_cons_zero, List.set_cons_succ]))
        | (refine takeU (i := 11) rfl (by kernel_rfl) (by kernel_rfl) (by kernel_rfl) (fun _ _ _ h => h) (by rfl) (by assumption) ?_; (try simp only [Act.put, List.setIfInBounds_toArray, List.set_cons_zero, List.set_cons_succ]))
      first
        | (refine takeW (i := 12) (v := ?_) rfl (by kernel_rfl) (by kernel_rfl) (by kernel_rfl) (fun _ _ _ h => h) (by rfl) (by assumption) ?_ ?_; rotate_left; (intro W hW; (try dsimp only at hW); go_simp; try with_reducible rfl); (try simp only [Act.put, List.setIfInBounds_toArray, List.set_cons_zero, List.set_cons_succ]))
        | (refine takeU (i := 12) rfl (by kernel_rfl) (by kernel_rfl) (by kernel_rfl) (fun _ _ _ h => h) (by rfl) (by assumption) ?_; (try simp only [Act.put, List.setIfInBounds_toArray, List.set_cons_zero, List.set_cons_succ]))
      first
        | (refine takeW (i := 13) (v := ?_) rfl (by kernel_rfl) (by kernel_rfl) (by kernel_rfl) (fun _ _ _ h => h) (by rfl) (by assumption) ?_ ?_; rotate_left; (intro W hW; (try dsimp only at hW); go_simp; try with_reducible rfl); (try simp only [Act.put, List.setIfInBounds_toArray, List.set_cons_zero, List.set_cons_succ]))
        | (refine takeU (i := 13) rfl (by kernel_rfl) (by kernel_rfl) (by kernel_rfl) (fun _ _ _ h => h) (by rfl) (by assumption) ?_; (try simp only [Act.put, List.setIfInBounds_toArray, List.set_cons_zero, List.set_cons_succ]))
      (refine takeW (i := 14) rfl (by kernel_rfl) (by kernel_rfl) (by kernel_rfl) (fun _ _ _ h => h) (by rfl) (by assumption) (fun W hW => exec_load1 (v := .int .i64 now') F2 rfl rfl (hW.2.out.1.cell 1)) ?_; (try simp only [Act.put, List.setIfInBounds_toArray, List.set_cons_zero, List.set_cons_succ]))
      refine takeC (i := 10) rfl (by kernel_rfl) (by rfl) (fun K hK => ?_)
      go_simp
      refine (now_any q sv h' now' _ hHeld.1.out).mono ?_
      rintro e w' ⟨rfl, rfl⟩
      refine hK.out _ _ hHeld (fun hHeld => ?_)
      clear hK K
      try simp only [Act.put, List.setIfInBounds_toArray, List.set_cons_zero, List.set_cons_succ]
      first
        | (refine takeW (i := 15) (v := ?_) rfl (by kernel_rfl) (by kernel_rfl) (by kernel_rfl) (fun _ _ _ h => h) (by rfl) (by assumption) ?_ ?_; rotate_left; (intro W hW; (try dsimp only at hW); go_simp; try with_reducible rfl); (try simp only [Act.put, List.setIfInBounds_toArray, List.set_cons_zero, List.set_cons_succ]))
        | (refine takeU (i := 15) rfl (by kernel_rfl) (by kernel_rfl) (by kernel_rfl) (fun _ _ _ h => h) (by rfl) (by assumption) ?_; (try simp only [Act.put, List.setIfInBounds_toArray, List.set_cons_zero, List.set_cons_succ]))
      (refine takeW (i := 16) (v := ?_) rfl (by kernel_rfl) (by kernel_rfl) (by kernel_rfl) (fun _ _ _ h => h) (by rfl) (by assumption) ?_ ?_; rotate_left; (intro W hW; (try dsimp only at hW); go_simp; try with_reducible rfl); (try simp only [Act.put, List.setIfInBounds_toArray, List.set_cons_zero, List.set_cons_succ]))
      (refine takeW (i := 17) (v := ?_) rfl (by kernel_rfl) (by kernel_rfl) (by kernel_rfl) (fun _ _ _ h => h) (by rfl) (by assumption) ?_ ?_; rotate_left; (intro W hW; (try dsimp only at hW); go_simp; try with_reducible rfl); (try simp only [Act.put, List.setIfInBounds_toArray, List.set_cons_zero, List.set_cons_succ]))
      refine wpAnyH_done (by kernel_rfl) ?_ _
      go_wp2
      exact HP.out _ _ (HJ4.out.keep (Below.refl _ _).drew)
end Go.Proofs.Ytbmnecdkjkffdaa
