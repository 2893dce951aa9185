/- The document's next line, and a line of numbers. -/
import Derived.Test.YtjaaldeaknmmbaaDoorZ7
import Derived.Test.YtjaaldeaknmmbaaDoorZ4
namespace Go.Proofs.YtjaaldeaknmmbaaDoor
open Go.RowKit Go.Shelf

theorem FL9 : Flat Tryd.prog 9 := ⟨⟨_, Tryd.underlying9, rfl⟩, by kernel_rfl⟩
theorem FL3 : Flat Tryd.prog 3 := ⟨⟨_, Tryd.underlying3, rfl⟩, by kernel_rfl⟩
def rfC (s : List UInt8) (at' n : Nat) : List Value := [strV s, .int .i64 (at' : Int), .int .i64 (n : Int)]
def NextPost (br : Nat) (s : List UInt8) (at' n : Nat) (w : World) (e : Ending) (w' : World) : Prop :=
  ∃ v, e = .returned v ∧ w.grownBy w' (some br) ∧
    ((∃ ws a2, nextW (s.drop at') = some (ws, s.drop a2) ∧ at' < a2 ∧ a2 ≤ s.length ∧ w'.ownsRow w.heap.size 9 1 v ws.length (ws.map strV) ∧ Blk w' br 56 (rfC s a2 (n + 1)).toArray) ∨
     (nextW (s.drop at') = none ∧ v = .slice none 0 0 ∧ Blk w' br 56 (rfC s at' (n + 1)).toArray))
theorem next_hit {s : List UInt8} {a k : Nat} (hak : a ≤ k) (hk : s[k]? = some 10) (hn : (10 : UInt8) ∉ (s.take k).drop a) : nextW (s.drop a) = some (splitB 32 ((s.take k).drop a), s.drop (k + 1)) := by
  obtain ⟨h1, h2⟩ := List.getElem?_eq_some_iff.1 hk
  have e : s.drop a = (s.take k).drop a ++ 10 :: s.drop (k + 1) := by
    have e1 : s.drop a = ((s.take k) ++ s.drop k).drop a := by rw [List.take_append_drop]
    have e2 : s.drop k = 10 :: s.drop (k + 1) := by rw [← h2]; exact List.drop_eq_getElem_cons h1
    rw [e1, List.drop_append_of_le_length (by rw [List.length_take]; omega), e2]
  unfold nextW
  rw [e, cutB_of hn]
  rfl
theorem next_miss {s : List UInt8} {a : Nat} (hn : (10 : UInt8) ∉ s.drop a) : nextW (s.drop a) = none := by
  unfold nextW
  rw [cutB_none.2 hn]
  rfl
set_option maxRecDepth 100000 in
set_option maxHeartbeats 1600000 in
theorem rnext_any (br : Nat) (s : List UInt8) (at' n : Nat) (w : World) (hb : Blk w br 56 (rfC s at' n).toArray) (hl : s.length ≤ 1000000000) (hat : at' ≤ s.length) (hn : n ≤ 1000000000) :
    Calls Tryd.prog 29 #[.pointer (some ⟨br, 0, none⟩)] w (NextPost br s at' n w) := by
  have HPS : Hid (∀ (w' : World) (v : Value) (ws : List (List UInt8)) (a2 : Nat), w.grownBy w' (some br) → nextW (s.drop at') = some (ws, s.drop a2) → at' < a2 → a2 ≤ s.length → w'.ownsRow w.heap.size 9 1 v ws.length (ws.map strV) → Blk w' br 56 (rfC s a2 (n + 1)).toArray → NextPost br s at' n w (.returned v) w') := fun w' v ws a2 h1 h2 h3 h4 h5 h6 => ⟨v, rfl, h1, .inl ⟨ws, a2, h2, h3, h4, h5, h6⟩⟩
  have HPN : Hid (∀ (w' : World), w.grownBy w' (some br) → nextW (s.drop at') = none → Blk w' br 56 (rfC s at' (n + 1)).toArray → NextPost br s at' n w (.returned (.slice none 0 0)) w') := fun w' h1 h2 h3 => ⟨_, rfl, h1, .inr ⟨h2, rfl, h3⟩⟩
  generalize NextPost br s at' n w = POST at *
  obtain ⟨q, hq⟩ : ∃ q, q = s.length := ⟨_, rfl⟩
  have HLEN := Lib.hid (fun (w : World) (o : Oper) (ac : Act) (X : Operand) (ho : o.op = .call { callee := .builtin .len, args := #[X], argTypes := #[9] }) (hx : ac.eval X = strV s) => exec_lenS (w := w) ho hx)
  rw [← hq] at HLEN
  have HQ := Lib.hid hq
  have hq6 : q ≤ 1000000000 := by omega
  have haq : at' ≤ q := by omega
  have HB := Lib.hid hb
  have c2 : w.cell? ⟨br, 2, none⟩ = some (.int .i64 (n : Int)) := hb.list0 rfl
  have f2 : w.frozen? ⟨br, 2, none⟩ = false := hb.frozen 2
  have hw1 : IntKind.i64.wrap ((n : Int) + 1) = (n : Int) + 1 := IntWalk.i64_in _ (by omega)
  clear hb hq hat
  go_enter Tryd.func29, Tryd.ntmps29
  go_upto_region 2 with fail
  have HB1 : Hid (Blk (w.setCell ⟨br, 2, none⟩ (.int .i64 ((n : Int) + 1))) br 56 (rfC s at' (n + 1)).toArray) := by
    have := HB.out.set 2 (.int .i64 ((n : Int) + 1))
    show Blk _ _ _ _
    simpa [rfC] using this
  have HG1 : Hid (w.grownBy (w.setCell ⟨br, 2, none⟩ (.int .i64 ((n : Int) + 1))) (some br)) := Lib.hid (grownBy_setCell _ _ _)
  have hs1 : w.heap.size = (w.setCell ⟨br, 2, none⟩ (.int .i64 ((n : Int) + 1))).heap.size := by simp [World.setCell]
  have HS1 := Lib.hid hs1
  clear HB c2 f2 hw1 hs1
  generalize w.setCell ⟨br, 2, none⟩ (.int .i64 ((n : Int) + 1)) = W1 at *
  have c0 : W1.cell? ⟨br, 0, none⟩ = some (strV s) := HB1.out.list0 rfl
  have c1 : W1.cell? ⟨br, 1, none⟩ = some (.int .i64 (at' : Int)) := HB1.out.list0 rfl
  go_wp2_with fail
  go_loopw [3] (fun i wr => ∃ k : Nat, at' ≤ k ∧ k ≤ q ∧ i = .int .i64 k ∧ Hid ((10 : UInt8) ∉ (s.take k).drop at') ∧ W1 = wr) (fun i _ => q - (intOf i).toNat)
  case atStart => exact ⟨at', Nat.le_refl _, haq, rfl, Lib.hid (by rw [List.drop_eq_nil_of_le (by rw [List.length_take]; omega)]; simp), rfl⟩
  case round =>
    obtain ⟨k, hak, hk, rfl, HD, hw⟩ := hrel
    subst hw
    by_cases hlt : k < q
    · obtain ⟨c, hc⟩ : ∃ c, s[k]? = some c := ⟨_, List.getElem?_eq_getElem (by rw [← HQ.out]; exact hlt)⟩
      have HIX := Lib.hid (fun (w : World) (o : Oper) (ac : Act) (X Y : Operand) (ho : o.op = .index 9 X Y) (hx : ac.eval X = strV s) (hy : ac.eval Y = .int .i64 (k : Int)) => exec_ix (w := w) ho hx hy hc)
      obtain ⟨cn, hcn⟩ : ∃ cn, cn = c.toNat := ⟨_, rfl⟩
      rw [← hcn] at HIX
      have HCN := Lib.hid hcn
      have HC := Lib.hid hc
      clear hc hcn
      by_cases h10 : cn = 10
      · have hc10 : c = 10 := UInt8.toNat_inj.1 (by rw [← HCN.out, h10]; rfl)
        have HNX : Hid (nextW (s.drop at') = some (splitB 32 ((s.take k).drop at'), s.drop (k + 1))) := next_hit hak (by rw [HC.out, hc10]) HD.out
        have hb : ((cn : Int) == 10) = true := by simp [h10]
        have HMID := Lib.hid (fun w => run_mid s (a := at') (b := k) hak (by rw [← HQ.out]; omega) w)
        have HWDS := Lib.hid (fun w => rwords_any ((s.take k).drop at') w (by rw [List.length_drop, List.length_take]; omega))
        have hS : W1.drew.cell? ⟨br, 0, none⟩ = some (strV s) ∧ W1.drew.cell? ⟨br, 1, none⟩ = some (.int .i64 (at' : Int)) := ⟨c0, c1⟩
        clear h10 hc10 HD
        go_upto_region 6 with (first | ((with_reducible show wpList _ _ _ (Oper.mk (some 21) _ _ _ _ _ :: _) _ _); refine wpList_val rfl (HLEN.out _ _ _ _ rfl rfl) ?_) | ((with_reducible show wpList _ _ _ (Oper.mk (some 30) _ _ _ _ _ :: _) _ _); refine wpList_val rfl (HIX.out _ _ _ _ _ rfl rfl rfl) ?_))
        refine wp_region_held_drew (S := fun X => X.cell? ⟨br, 0, none⟩ = some (strV s) ∧ X.cell? ⟨br, 1, none⟩ = some (.int .i64 (at' : Int))) (by kernel_rfl) hS (fun hHeld => ?_)
        (refine takeW (i := 0) (v := ?_) rfl (by kernel_rfl) (by kernel_rfl) (by kernel_rfl) (fun _ _ _ h => h) (by rfl) (by assumption) ?_ ?_; rotate_left; (intro W hW; (try dsimp only at hW); go_simp; try with_reducible rfl); (try simp only [Act.put, List.setIfInBounds_toArray, List.set_cons_zero, List.set_cons_succ]))
        (refine takeW (i := 1) (v := ?_) rfl (by kernel_rfl) (by kernel_rfl) (by kernel_rfl) (fun _ _ _ h => h) (by rfl) (by assumption) ?_ ?_; rotate_left; (intro W hW; (try dsimp only at hW); go_simp; try with_reducible rfl); (try simp only [Act.put, List.setIfInBounds_toArray, List.set_cons_zero, List.set_cons_succ]))
        (refine takeW (i := 2) (v := ?_) rfl (by kernel_rfl) (by kernel_rfl) (by kernel_rfl) (fun _ _ _ h => h) (by rfl) (by assumption) ?_ ?_; rotate_left; (intro W hW; (try dsimp only at hW); go_simp; try with_reducible rfl); (try simp only [Act.put, List.setIfInBounds_toArray, List.set_cons_zero, List.set_cons_succ]))
        (refine takeW (i := 3) rfl (by kernel_rfl) (by kernel_rfl) (by kernel_rfl) (fun _ _ _ h => h) (by rfl) (by assumption) (fun W hW => exec_load1 (v := strV s) FL9 rfl rfl hW.1) ?_; (try simp only [Act.put, List.setIfInBounds_toArray, List.set_cons_zero, List.set_cons_succ]))
        (refine takeW (i := 4) (v := ?_) rfl (by kernel_rfl) (by kernel_rfl) (by kernel_rfl) (fun _ _ _ h => h) (by rfl) (by assumption) ?_ ?_; rotate_left; (intro W hW; (try dsimp only at hW); go_simp; try with_reducible rfl); (try simp only [Act.put, List.setIfInBounds_toArray, List.set_cons_zero, List.set_cons_succ]))
        (refine takeW (i := 5) (v := ?_) rfl (by kernel_rfl) (by kernel_rfl) (by kernel_rfl) (fun _ _ _ h => h) (by rfl) (by assumption) ?_ ?_; rotate_left; (intro W hW; (try dsimp only at hW); go_simp; try with_reducible rfl); (try simp only [Act.put, List.setIfInBounds_toArray, List.set_cons_zero, List.set_cons_succ]))
        (refine takeW (i := 6) (v := ?_) rfl (by kernel_rfl) (by kernel_rfl) (by kernel_rfl) (fun _ _ _ h => h) (by rfl) (by assumption) ?_ ?_; rotate_left; (intro W hW; (try dsimp only at hW); go_simp; try with_reducible rfl); (try simp only [Act.put, List.setIfInBounds_toArray, List.set_cons_zero, List.set_cons_succ]))
        (refine takeW (i := 7) rfl (by kernel_rfl) (by kernel_rfl) (by kernel_rfl) (fun _ _ _ h => h) (by rfl) (by assumption) (fun W hW => exec_load1 (v := .int .i64 (at' : Int)) FL3 rfl rfl hW.2) ?_; (try simp only [Act.put, List.setIfInBounds_toArray, List.set_cons_zero, List.set_cons_succ]))
        (refine takeW (i := 8) (v := ?_) rfl (by kernel_rfl) (by kernel_rfl) (by kernel_rfl) (fun _ _ _ h => h) (by rfl) (by assumption) ?_ ?_; rotate_left; (intro W hW; (try dsimp only at hW); go_simp; try with_reducible rfl); (try simp only [Act.put, List.setIfInBounds_toArray, List.set_cons_zero, List.set_cons_succ]))
        (refine takeW (i := 9) rfl (by kernel_rfl) (by kernel_rfl) (by kernel_rfl) (fun _ _ _ h => h) (by rfl) (by assumption) (fun W hW => exec_slice rfl rfl rfl rfl (HMID.out _)) ?_; (try simp only [Act.put, List.setIfInBounds_toArray, List.set_cons_zero, List.set_cons_succ]))
        refine takeC (i := 10) rfl (by kernel_rfl) (by rfl) (fun K hK => ?_)
        go_simp
        refine (HWDS.out _).mono ?_
        rintro e W3 ⟨⟨v, rfl, ho⟩, hb3⟩
        have HO := Lib.hid ho
        have HB3 := Lib.hid hb3
        clear ho hb3
        refine hK.out _ _ ⟨by rw [HB3.out.cell (World.block_lt_of_cell? _ _ hHeld.1)]; exact hHeld.1, by rw [HB3.out.cell (World.block_lt_of_cell? _ _ hHeld.2)]; exact hHeld.2⟩ (fun hHeld => ?_)
        clear hK K
        (try simp only [Act.put, List.setIfInBounds_toArray, List.set_cons_zero, List.set_cons_succ])
        (refine takeW (i := 11) (v := ?_) rfl (by kernel_rfl) (by kernel_rfl) (by kernel_rfl) (fun _ _ _ h => h) (by rfl) (by assumption) ?_ ?_; rotate_left; (intro W hW; (try dsimp only at hW); go_simp; try with_reducible rfl); (try simp only [Act.put, List.setIfInBounds_toArray, List.set_cons_zero, List.set_cons_succ]))
        refine wpAnyH_done (by kernel_rfl) ?_ _
        clear hHeld
        have HB3' := Lib.hid ((HB1.out.keep (Below.refl _ _).drew).keep HB3.out)
        have HG3 : Hid (w.grownBy W3 (some br)) := by
          have h := HB3.out
          exact HG1.out.trans (⟨h.os, h.tape, h.output, h.size, fun j hj _ => h.block j hj⟩ : W1.grownBy W3 (some br))
        have HO3 : Hid (W3.ownsRow w.heap.size 9 1 v (splitB 32 ((s.take k).drop at')).length ((splitB 32 ((s.take k).drop at')).map strV)) := by
          have h := HO.out
          rw [HS1.out]
          exact h
        obtain ⟨va, vc, rfl, -⟩ := owns_shape HO.out
        have d1 : W3.cell? ⟨br, 1, none⟩ = some (.int .i64 (at' : Int)) := HB3'.out.list0 rfl
        have f1 : W3.frozen? ⟨br, 1, none⟩ = false := HB3'.out.frozen 1
        have hwk : IntKind.i64.wrap ((k : Int) + 1) = (k : Int) + 1 := IntWalk.i64_in _ (by omega)
        have HB4 : Hid (Blk (W3.setCell ⟨br, 1, none⟩ (.int .i64 ((k : Int) + 1))) br 56 (rfC s (k + 1) (n + 1)).toArray) := by
          have := HB3'.out.set 1 (.int .i64 ((k : Int) + 1))
          show Blk _ _ _ _
          simpa [rfC] using this
        have HO4 := Lib.hid (HO3.out.kept (grownBy_setCell W3 ⟨br, 1, none⟩ (.int .i64 ((k : Int) + 1))) (.inr (own_blk_ne HO3.out HB3'.out (by decide))))
        clear HB3 HB3' HO HO3 HWDS HMID hS c0 c1
        go_wp2
        exact HPS.out _ _ _ _ (HG3.out.trans (grownBy_setCell _ _ _)) HNX.out (by omega) (by rw [← HQ.out]; omega) HO4.out HB4.out
      · have hb : ((cn : Int) == 10) = false := by simp; omega
        have HDD : Hid ((10 : UInt8) ∉ (s.take (k + 1)).drop at') := by
          show ¬ _
          rw [take_snocB HC.out, List.drop_append_of_le_length (by rw [List.length_take, ← HQ.out]; omega), List.mem_append]
          rintro (h | h)
          · exact HD.out h
          · have : (10 : UInt8) = c := by simpa using h
            exact h10 (by rw [HCN.out, ← this]; rfl)
        clear h10 HD
        go_wp2_with (first | ((with_reducible show wpList _ _ _ (Oper.mk (some 21) _ _ _ _ _ :: _) _ _); refine wpList_val rfl (HLEN.out _ _ _ _ rfl rfl) ?_) | ((with_reducible show wpList _ _ _ (Oper.mk (some 30) _ _ _ _ _ :: _) _ _); refine wpList_val rfl (HIX.out _ _ _ _ _ rfl rfl rfl) ?_))
        go_roundw
        case rel => exact ⟨k + 1, by omega, by omega, by go_num, HDD, (by first | trivial | rfl)⟩
        case measure => simp [intOf]; omega
    · obtain rfl : k = q := by omega
      have HNX : Hid (nextW (s.drop at') = none) := by
        refine next_miss ?_
        have := HD.out
        rwa [List.take_of_length_le (by rw [← HQ.out]; exact Nat.le_refl _)] at this
      clear HD
      go_wp2_with ((with_reducible show wpList _ _ _ (Oper.mk (some 21) _ _ _ _ _ :: _) _ _); refine wpList_val rfl (HLEN.out _ _ _ _ rfl rfl) ?_)
      exact HPN.out _ HG1.out HNX.out HB1.out
def RowP (first : List UInt8) (k : Nat) (ws : List (List UInt8)) (w : World) (e : Ending) (w' : World) : Prop :=
  (∃ (v : Value) (b : Bool), e = .returned (.tuple #[v, .bool b]) ∧ (∀ ns, rowS first k ws = some ns → b = true ∧ w'.ownsRow w.heap.size 3 1 v ns.length (ns.map (.int .i64))) ∧ (rowS first k ws = none → b = false)) ∧ Below w.heap.size w w'
theorem E67 : Elem Tryd.prog 67 3 (.int .i64 0) 1 8 := ⟨Tryd.underlying67, by kernel_rfl, rfl, by decide, by decide⟩
theorem run_oneI (x : Int) (w : World) : (Instr.buildSlice 67 1 #[(0, .int .i64 x)]).run Tryd.prog w = .ok (.slice (some ⟨w.heap.size, 0, none⟩) 1 1) (w.alloc (.cells #[.int .i64 x] 3)) := by
  unfold Instr.buildSlice
  go_simp
  try rfl
theorem exec_oneI {w : World} {o : Oper} {ac : Act} {X : Operand} {x : Int} (ho : o.op = .buildSlice 67 1 #[(0, X)]) (hx : ac.eval X = .int .i64 x) : (execOp ac.eval o).run Tryd.prog w = .ok (.value (.slice (some ⟨w.heap.size, 0, none⟩) 1 1)) (w.alloc (.cells #[.int .i64 x] 3)) := by
  simp [execOp, ho, hx, run_oneI, Result.andThen]
set_option maxRecDepth 100000 in
set_option maxHeartbeats 1600000 in
theorem row28_any (first : List UInt8) (k : Nat) (ws : List (List UInt8)) (lv : Value) (w : World) (hw : Wds w lv ws) (hws : ∀ x ∈ ws, x.length ≤ 1000000000) (hk : k ≤ 7) :
    Calls Tryd.prog 28 #[lv, strV first, .int .i64 (k : Int)] w (RowP first k ws w) := by
  have HPB : Hid (∀ (w' : World), Below w.heap.size w w' → rowS first k ws = none → RowP first k ws w (.returned (.tuple #[.slice none 0 0, .bool false])) w') := fun w' hb h => ⟨⟨_, false, rfl, fun n hn => (by rw [h] at hn; cases hn), fun _ => rfl⟩, hb⟩
  have HPG : Hid (∀ (w' : World) (v : Value) (ns : List Int), Below w.heap.size w w' → rowS first k ws = some ns → w'.ownsRow w.heap.size 3 1 v ns.length (ns.map (.int .i64)) → RowP first k ws w (.returned (.tuple #[v, .bool true])) w') := fun w' v ns hb h ho => ⟨⟨v, true, rfl, fun n hn => (by rw [h] at hn; cases hn; exact ⟨rfl, ho⟩), fun hn => (by rw [h] at hn; cases hn)⟩, hb⟩
  have HRS : Hid (rowS first k ws = if ws.length = k + 1 ∧ ws.head? = some first then numsS ws.tail else none) := rfl
  generalize RowP first k ws w = POST at *
  have HW := Lib.hid hw
  have HWS := Lib.hid hws
  obtain ⟨la, lc, rfl, hlc, hlcm, hlen⟩ := hw.shape
  obtain ⟨q, hq⟩ : ∃ q, q = ws.length := ⟨_, rfl⟩
  rw [← hq] at hlc hlen HW ⊢
  have HQ := Lib.hid hq
  have hwk : IntKind.i64.wrap ((k : Int) + 1) = (k : Int) + 1 := IntWalk.i64_in _ (by omega)
  clear hw hws hq
  by_cases hqk : q = k + 1
  · subst hqk
    obtain ⟨w0, wt, hws2⟩ : ∃ w0 wt, ws = w0 :: wt := by
      cases ws with
      | nil => have := HQ.out; simp at this
      | cons a l => exact ⟨a, l, rfl⟩
    obtain ⟨bb, off, hba, hbl, hc⟩ := HW.out.row (by rw [hws2]; simp)
    have c0 : w.cell? ⟨bb, off, none⟩ = some (strV w0) := by
      have := hc 0 w0 (by rw [hws2]; rfl) 0 _ rfl
      simpa using this
    have HC := Lib.hid hc
    have HWT := Lib.hid hws2
    have hkk : (((k + 1 : Nat) : Int) == (k : Int) + 1) = true := by simp
    have hk2 : ((k + 1 : Nat) : Int) = (k : Int) + 1 := by omega
    subst hba
    clear hws2 hc
    by_cases hf : w0 = first
    · have HR : Hid (rowS first k ws = numsS wt) := by
        show _ = _
        rw [HRS.out, HWT.out, if_pos ⟨by rw [← HWT.out, ← HQ.out], by rw [hf]; rfl⟩]
        rfl
      have HWL : Hid (wt.length = k) := by have := HQ.out; rw [HWT.out] at this; simp at this; show _ = _; omega
      have hdf : (!decide (w0 = first)) = false := by simp [hf]
      clear hf HRS
      go_enter Tryd.func28, Tryd.ntmps28
      go_wp2_with ((with_reducible show wpList _ _ _ (Oper.mk (some 22) _ _ _ _ _ :: _) _ _); refine wpList_val rfl (exec_neS (x := w0) (y := first) rfl rfl rfl) ?_; rw [hdf])
      clear c0
      go_loopw [8, 9] (fun u i wr => ∃ (J : Nat) (ns : List Int), 1 ≤ J ∧ J ≤ k + 1 ∧ i = .int .i64 (J : Int) ∧ Hid (numsS (wt.take (J - 1)) = some ns ∧ ns.length = J - 1) ∧ Hid (wr.ownsRow w.heap.size 3 1 u ns.length (ns.map (.int .i64))) ∧ Hid (Below w.heap.size w wr)) (fun _ i _ => k + 1 - (intOf i).toNat)
      case atStart => exact ⟨1, [], Nat.le_refl _, by omega, rfl, ⟨rfl, rfl⟩, World.ownsRow_nil _ _ _ _, Below.refl _ _⟩
      case round =>
        obtain ⟨J, ns, hJ1, hJk, rfl, HN, HO, HB⟩ := hrel
        obtain ⟨j, hjJ⟩ : ∃ j, j = J - 1 := ⟨_, rfl⟩
        rw [← hjJ] at HN
        have hJj : j + 1 ≤ J ∧ J ≤ j + 1 := by omega
        have HJ : Hid (J = j + 1) := by show _ = _; omega
        clear hjJ
        obtain ⟨wo, rfl⟩ : ∃ wo : World, wo = wr := ⟨_, rfl⟩
        obtain ⟨av, ac0, rfl, -⟩ := owns_shape HO.out
        by_cases hltJ : J < k + 1
        · have hlt : j < k := by omega
          obtain ⟨x, hx⟩ : ∃ x, wt[j]? = some x := ⟨_, List.getElem?_eq_getElem (by rw [HWL.out]; exact hlt)⟩
          have hxw : ws[j + 1]? = some x := by rw [HWT.out]; exact hx
          have c1 : wo.cell? ⟨bb, off + J, none⟩ = some (strV x) := by
            rw [HB.out.cell hbl, HJ.out]
            have := HC.out (j + 1) x hxw 0 _ rfl
            simpa using this
          have hxl := HWS.out x (List.mem_of_getElem? hxw)
          have HX := Lib.hid hx
          have hltz : (J : Int) < (k : Int) + 1 := by omega
          have hnum := rnum46_any x wo hxl
          clear hx hxw
          go_wp2_with fail
          refine hnum.mono ?_
          rintro e W2 ⟨⟨v, b, rfl, hg, hbad⟩, hb2⟩
          have HG := Lib.hid hg
          have HBD := Lib.hid hbad
          have HB2 := Lib.hid (HB.out.trans (hb2.mono HB.out.size))
          have HO2 := Lib.hid (ow_below HO.out hb2)
          have HL2 : Hid (ns.length = j) := HN.out.2
          clear hg hbad hb2 HO HB hnum c1
          cases b with
          | false =>
            have HNN : Hid (numS x = none) := by
              show _ = _
              cases h : numS x with
              | none => rfl
              | some z => have := (HG.out z h).1; cases this
            have HRN : Hid (rowS first k ws = none) := by
              show _ = _
              obtain ⟨rr, hsp⟩ := take_split (m := k) HX.out hlt
              rw [List.take_of_length_le (by rw [HWL.out]; exact Nat.le_refl _)] at hsp
              rw [HR.out, hsp]
              exact numsS_bad HNN.out
            clear HG HBD HN
            go_wp2
            exact HPB.out _ HB2.out HRN.out
          | true =>
            obtain ⟨z, hz⟩ : ∃ z, numS x = some z := by
              cases h : numS x with
              | none => have := HBD.out h; cases this
              | some z => exact ⟨z, rfl⟩
            have hvz := (HG.out z hz).2
            subst hvz
            have HN2 : Hid (numsS (wt.take (j + 1)) = some (ns ++ [v]) ∧ (ns ++ [v]).length = j + 1) := ⟨by rw [take_snocB HX.out]; exact numsS_snoc HN.out.1 hz, by simp [HL2.out]⟩
            have HSZ : Hid (w.heap.size ≤ W2.heap.size) := HB2.out.size
            have hnl : ns.length ≤ 7 := by rw [HL2.out]; omega
            clear hz HG HBD HN
            go_wp2_with (first | ((with_reducible show wpList _ _ _ (Oper.mk (some 42) _ _ _ _ _ :: _) _ _); refine wpList_val rfl (exec_oneI rfl rfl) ?_) | (at_builtin; refine wpList_app1 E67 rfl _ _ rfl HO2.out [.int .i64 v] rfl (by simp [Value.oneCell']) rfl rfl (by omega) HSZ.out ?_; intro v7 W5 ho5 hg5; have HO5 := Lib.hid ho5; have HB5 := Lib.hid (below_app HB2.out (Nat.le_refl _) HO2.out hg5 HSZ.out); clear ho5 hg5))
            go_roundw
            case rel => exact ⟨J + 1, ns ++ [v], by omega, by omega, by go_num, (by have := HN2.out; show _ ∧ _; rw [show J + 1 - 1 = j + 1 by omega]; exact this), (by have := HO5.out; show World.ownsRow _ _ _ _ _ _ _; simpa using this), HB5⟩
            case measure => simp [intOf]; omega
        · obtain rfl : k = j := by omega
          have HRN : Hid (rowS first k ws = some ns) := by
            show _ = _
            have := HN.out.1
            rw [List.take_of_length_le (by rw [HWL.out]; exact Nat.le_refl _)] at this
            rw [HR.out, this]
          have hltz : ¬ ((J : Int) < (k : Int) + 1) := by omega
          clear HN
          go_wp2
          exact HPG.out _ _ _ HB.out HRN.out HO.out
    · have HR : Hid (rowS first k ws = none) := by
        show _ = _
        rw [HRS.out, HWT.out, if_neg (fun h => hf (by simpa using h.2))]
      have hdf : (!decide (w0 = first)) = true := by simp [hf]
      clear hf HRS
      go_enter Tryd.func28, Tryd.ntmps28
      go_wp2_with ((with_reducible show wpList _ _ _ (Oper.mk (some 22) _ _ _ _ _ :: _) _ _); refine wpList_val rfl (exec_neS (x := w0) (y := first) rfl rfl rfl) ?_; rw [hdf])
      exact HPB.out _ (Below.refl _ _) HR.out
  · have HR : Hid (rowS first k ws = none) := by
      show _ = _
      rw [HRS.out, if_neg (fun h => hqk (by rw [HQ.out]; exact h.1))]
    have hkk : ((q : Int) == (k : Int) + 1) = false := by simp; omega
    clear HRS
    go_enter Tryd.func28, Tryd.ntmps28
    go_wp2
    exact HPB.out _ (Below.refl _ _) HR.out
end Go.Proofs.YtjaaldeaknmmbaaDoor
