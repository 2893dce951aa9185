/- Truths as numbers; bytes as words. -/
import Derived.Test.YtjaaldeaknmmbaaDoorZ9
namespace Go.Proofs.YtjaaldeaknmmbaaDoor
open Go.RowKit Go.Shelf

theorem truth_any (b : Bool) (w : World) : Calls Tryd.prog 18 #[.bool b] w fun e w' => e = .returned (.int .i64 (bitZ b)) ∧ w' = w := by
  cases b with
  | true =>
    go_enter Tryd.func18, Tryd.ntmps18
    go_wp2
    go_ret
    exact ⟨rfl, rfl⟩
  | false =>
    go_enter Tryd.func18, Tryd.ntmps18
    go_wp2
    go_ret
    exact ⟨rfl, rfl⟩
theorem rtruth_any (b : Bool) (w : World) : Calls Tryd.prog 34 #[.bool b] w fun e w' => e = .returned (.int .i64 (bitZ b)) ∧ w' = w := by
  cases b with
  | true =>
    go_enter Tryd.func34, Tryd.ntmps34
    go_wp2
    go_ret
    exact ⟨rfl, rfl⟩
  | false =>
    go_enter Tryd.func34, Tryd.ntmps34
    go_wp2
    go_ret
    exact ⟨rfl, rfl⟩
def encU (c : UInt8) : List Value := [u8c c]
theorem encU_len (c : UInt8) : (encU c).length = 1 := rfl
/-- Bytes that are read. -/
abbrev Bys (W : World) (v : Value) (l : List UInt8) : Prop := Rd encU 1 W v l
theorem and15 : ∀ n < 256, bits .and .u8 ((n : Nat) : Int) 15 = ((n % 16 : Nat) : Int) := by decide +kernel
theorem exec_and15 {w : World} {o : Oper} {ac : Act} {X : Operand} {ty : TypeId} {n : Nat} (ho : o.op = .binOp .and 5 X (.const (.int .u8 15)) ty) (hx : ac.eval X = .int .u8 (n : Int)) (h : n < 256) : (execOp ac.eval o).run Tryd.prog w = .ok (.value (.int .u8 ((n % 16 : Nat) : Int))) w := by
  have e := and15 n h
  have hc : ac.eval (.const (.int .u8 15)) = .int .u8 15 := rfl
  generalize ((n % 16 : Nat) : Int) = r at *
  generalize ac.eval = ev at *
  unfold execOp
  simp only [ho, hx, hc]
  go_simp
  try rw [e]
theorem exec_shr4 {w : World} {o : Oper} {ac : Act} {X : Operand} {ty : TypeId} {n : Nat} (ho : o.op = .binOp .shr 5 X (.const (.int .u64 4)) ty) (hx : ac.eval X = .int .u8 (n : Int)) : (execOp ac.eval o).run Tryd.prog w = .ok (.value (.int .u8 ((n / 16 : Nat) : Int))) w := by
  have e : (n : Int) / 16 = ((n / 16 : Nat) : Int) := by omega
  have hc : ac.eval (.const (.int .u64 4)) = .int .u64 4 := rfl
  generalize ((n / 16 : Nat) : Int) = r at *
  generalize ac.eval = ev at *
  unfold execOp
  simp only [ho, hx, hc]
  go_simp
  try rw [e]
theorem exec_ixu {w : World} {o : Oper} {ac : Act} {X Y : Operand} {l : List UInt8} {k : Nat} {c : UInt8} (ho : o.op = .index 9 X Y) (hx : ac.eval X = strV l) (hy : ac.eval Y = .int .u8 (k : Int)) (h : l[k]? = some c) : (execOp ac.eval o).run Tryd.prog w = .ok (.value (u8c c)) w := by
  obtain ⟨hk, e⟩ := List.getElem?_eq_some_iff.1 h
  have h1 := run_index_string (P := Tryd.prog) (w := w) 9 ⟨l.toArray⟩ .u8 (k : Int) Tryd.underlying9
  rw [dif_pos ⟨by omega, by rw [str_size]; omega⟩] at h1
  have e2 : ((⟨l.toArray⟩ : ByteArray)[((k : Int)).toNat]'(by rw [str_size]; omega)) = c := by
    show l.toArray[((k : Int)).toNat]'(by simp; omega) = c
    simp [e]
  rw [e2] at h1
  have h2 : (Instr.index 9 (strV l) (.int .u8 (k : Int))).run Tryd.prog w = .ok (u8c c) w := h1
  simp [execOp, ho, hx, hy, h2, Result.andThen]
theorem digs_at : ∀ k < 16, digsL[k]? = some (hexC k) := by decide
theorem exec_twoU {w : World} {o : Oper} {ac : Act} {X Y : Operand} {c d : UInt8} (ho : o.op = .buildSlice 36 2 #[(0, X), (1, Y)]) (hx : ac.eval X = u8c c) (hy : ac.eval Y = u8c d) : (execOp ac.eval o).run Tryd.prog w = .ok (.value (.slice (some ⟨w.heap.size, 0, none⟩) 2 2)) (w.alloc (.cells #[u8c c, u8c d] 5)) := by
  have hrun : (Instr.buildSlice 36 2 #[(0, u8c c), (1, u8c d)]).run Tryd.prog w = .ok (.slice (some ⟨w.heap.size, 0, none⟩) 2 2) (w.alloc (.cells #[u8c c, u8c d] 5)) := by
    unfold Instr.buildSlice u8c
    go_simp
    try rfl
  simp [execOp, ho, hx, hy, hrun, Result.andThen]
theorem news_two (w : World) (c d : UInt8) : ∀ (jj : Nat) (u : Value), ([u8c c, u8c d] : List Value)[jj]? = some u → (w.alloc (.cells #[u8c c, u8c d] 5)).cell? ((⟨w.heap.size, 0, none⟩ : Addr).add jj) = some u := fun jj u hu => by
  rw [Addr.add_lit, World.cell?_alloc_at _ _ _ _ rfl]
  simpa using hu
theorem own_one (w : World) (c : UInt8) : (w.alloc (.cells #[u8c c] 5)).ownsRow w.heap.size 5 1 (.slice (some ⟨w.heap.size, 0, none⟩) 1 1) [c].length ([c].map u8c) :=
  ⟨rfl, .inr ⟨w.heap.size, 1, _, rfl, Nat.le_refl _, (Blk.new' rfl : Blk _ w.heap.size 5 #[u8c c]), Nat.le_refl _, by unfold maxLen; omega, by simp, by simp⟩⟩
theorem hexW_snoc {B : List UInt8} {k : Nat} {c : UInt8} (h : B[k]? = some c) : hexW (B.take (k + 1)) = hexW (B.take k) ++ [hexC (c.toNat / 16), hexC (c.toNat % 16)] := by
  unfold hexW
  rw [take_snocB h, hexL_append]
  rfl
theorem str_own {X : World} {base n : Nat} {a : Option Addr} {cap : Nat} {l : List UInt8} {o : Oper} {ac : Act} {x : Operand} (h : X.ownsRow base 5 1 (.slice a n cap) n (l.map u8c)) (hn : l.length = n) (h1 : 0 < n) (ho : o.op = .convert 36 9 x) (hx : ac.eval x = .slice a n cap) : (execOp ac.eval o).run Tryd.prog X = .ok (.value (strV l)) X := by
  subst hn
  obtain ⟨_, _, e, _, _, h4⟩ := owns_shape h
  obtain ⟨g, hg, -⟩ := h4 (by omega)
  simp only [Value.slice.injEq] at e
  obtain ⟨rfl, _, rfl⟩ := e
  subst hg
  exact exec_str ho hx fun j hj => by
    rw [Addr.add_lit]
    have := h.cellAt j (by simpa using hj)
    simp only [Nat.zero_add]
    rw [this, List.getElem?_map, List.getElem?_eq_getElem hj]
    rfl
set_option maxRecDepth 100000 in
set_option maxHeartbeats 1600000 in
theorem hex_any (B : List UInt8) (bv : Value) (w : World) (hb : Bys w bv B) (hl : B.length ≤ 1000000000) : Calls Tryd.prog 19 #[bv] w fun e w' => e = .returned (strV (hexW B)) ∧ Below w.heap.size w w' := by
  have HPO : Hid (∀ (w' : World) (l : List UInt8), Below w.heap.size w w' → l = hexW B → (fun e w' => e = Ending.returned (strV (hexW B)) ∧ Below w.heap.size w w') (.returned (strV l)) w') := fun w' l h1 h2 => by subst h2; exact ⟨rfl, h1⟩
  generalize (fun e w' => e = Ending.returned (strV (hexW B)) ∧ Below w.heap.size w w') = POST at *
  obtain ⟨ba, bc, rfl, hbc, hbcm, -⟩ := hb.shape
  obtain ⟨q, hq⟩ : ∃ q, q = B.length := ⟨_, rfl⟩
  rw [← hq] at hbc ⊢
  have HB := Lib.hid hb
  rw [← hq] at HB
  have HQ := Lib.hid hq
  have hq6 : q ≤ 1000000000 := by omega
  have HO1 := Lib.hid (own_one w 120)
  have HW1 := Lib.hid (below1 w (.cells #[u8c 120] 5))
  clear hb hq
  go_enter Tryd.func19, Tryd.ntmps19
  go_wp2_with ((with_reducible show wpList _ _ _ (Oper.mk (some 6) _ _ _ _ _ :: _) _ _); refine wpList_val rfl (exec_oneS (c := 120) exec_one1 rfl rfl) ?_)
  generalize w.alloc (.cells #[u8c 120] 5) = W1 at *
  go_loopw [3, 9] (fun u i wr => ∃ (k : Nat) (acc : List UInt8), k ≤ q ∧ i = .int .i64 k ∧ Hid (acc = hexW (B.take k) ∧ acc.length ≤ 2 * k + 1 ∧ 0 < acc.length) ∧ Hid (wr.ownsRow w.heap.size 5 1 u acc.length (acc.map u8c)) ∧ Hid (Below w.heap.size w wr)) (fun _ i _ => q - (intOf i).toNat)
  case atStart => exact ⟨0, [120], Nat.zero_le _, rfl, ⟨rfl, by simp, by simp⟩, HO1.out, HW1.out⟩
  case round =>
    clear HO1 HW1
    obtain ⟨k, acc, hk, rfl, HA, HO, HW⟩ := hrel
    obtain ⟨wo, rfl⟩ : ∃ wo : World, wo = wr := ⟨_, rfl⟩
    obtain ⟨av, ac0, rfl, -⟩ := owns_shape HO.out
    by_cases hlt : k < q
    · obtain ⟨c, hs⟩ : ∃ c, B[k]? = some c := ⟨_, List.getElem?_eq_getElem (by rw [← HQ.out]; exact hlt)⟩
      obtain ⟨bb, off, hba, hbl, hc⟩ := HB.out.row (by rintro rfl; simp at hs)
      have cb : wo.cell? ⟨bb, off + k, none⟩ = some (.int .u8 (c.toNat : Int)) := by
        rw [HW.out.cell hbl]
        have := hc k c hs 0 _ rfl
        simpa [u8c] using this
      have hc8 := c.toNat_lt
      have HG0 := Lib.hid (digs_at (c.toNat / 16) (by omega))
      have HG1 := Lib.hid (digs_at (c.toNat % 16) (by omega))
      have HA2 : Hid (acc ++ [hexC (c.toNat / 16), hexC (c.toNat % 16)] = hexW (B.take (k + 1))) := by show _ = _; rw [hexW_snoc hs, HA.out.1]
      have hal : acc.length ≤ 2 * k + 1 := HA.out.2.1
      subst hba
      clear hc hs HA
      go_upto_region 5 with fail
      have HWD := Lib.hid HW.out.drew
      have HOD := Lib.hid (ow_below HO.out (Below.refl _ wo).drew)
      have HSZ : Hid (w.heap.size ≤ wo.drew.heap.size) := HWD.out.size
      refine wp_region_held_drew (S := fun _ => True) (by kernel_rfl) trivial (fun hHeld => ?_)
      (refine takeW (i := 0) (v := ?_) rfl (by kernel_rfl) (by kernel_rfl) (by kernel_rfl) (fun _ _ _ h => h) (by rfl) (by assumption) ?_ ?_; rotate_left; (intro W hW; (try dsimp only at hW); go_simp; try with_reducible rfl); (try simp only [Act.put, List.setIfInBounds_toArray, List.set_cons_zero, List.set_cons_succ]))
      (refine takeW (i := 1) (v := ?_) rfl (by kernel_rfl) (by kernel_rfl) (by kernel_rfl) (fun _ _ _ h => h) (by rfl) (by assumption) ?_ ?_; rotate_left; (intro W hW; (try dsimp only at hW); go_simp; try with_reducible rfl); (try simp only [Act.put, List.setIfInBounds_toArray, List.set_cons_zero, List.set_cons_succ]))
      (refine takeW (i := 2) rfl (by kernel_rfl) (by kernel_rfl) (by kernel_rfl) (fun _ _ _ h => h) (by rfl) (by assumption) (fun W hW => exec_shr4 rfl rfl) ?_; (try simp only [Act.put, List.setIfInBounds_toArray, List.set_cons_zero, List.set_cons_succ]))
      (refine takeW (i := 3) rfl (by kernel_rfl) (by kernel_rfl) (by kernel_rfl) (fun _ _ _ h => h) (by rfl) (by assumption) (fun W hW => exec_ixu (l := digsL) (k := c.toNat / 16) rfl rfl rfl HG0.out) ?_; (try simp only [Act.put, List.setIfInBounds_toArray, List.set_cons_zero, List.set_cons_succ]))
      (refine takeW (i := 4) (v := ?_) rfl (by kernel_rfl) (by kernel_rfl) (by kernel_rfl) (fun _ _ _ h => h) (by rfl) (by assumption) ?_ ?_; rotate_left; (intro W hW; (try dsimp only at hW); go_simp; try with_reducible rfl); (try simp only [Act.put, List.setIfInBounds_toArray, List.set_cons_zero, List.set_cons_succ]))
      (refine takeW (i := 5) rfl (by kernel_rfl) (by kernel_rfl) (by kernel_rfl) (fun _ _ _ h => h) (by rfl) (by assumption) (fun W hW => exec_and15 rfl rfl hc8) ?_; (try simp only [Act.put, List.setIfInBounds_toArray, List.set_cons_zero, List.set_cons_succ]))
      (refine takeW (i := 6) rfl (by kernel_rfl) (by kernel_rfl) (by kernel_rfl) (fun _ _ _ h => h) (by rfl) (by assumption) (fun W hW => exec_ixu (l := digsL) (k := c.toNat % 16) rfl rfl rfl HG1.out) ?_; (try simp only [Act.put, List.setIfInBounds_toArray, List.set_cons_zero, List.set_cons_succ]))
      refine takeV (i := 7) rfl (by kernel_rfl) (by rfl) (exec_twoU rfl rfl rfl) trivial ?_
      (try simp only [Act.put, List.setIfInBounds_toArray, List.set_cons_zero, List.set_cons_succ])
      have hHeld : True := trivial
      refine takeApp (i := 8) E36 rfl (by kernel_rfl) (by rfl) rfl (HOD.out.alloc _) (m := 2) (news := [u8c (hexC (c.toNat / 16)), u8c (hexC (c.toNat % 16))]) rfl (news_two _ _ _) (by simp [u8c, Value.oneCell']) rfl rfl (by omega) (by have := HSZ.out; simp at this ⊢; omega) ?_
      intro v7 W5 ho5 hg5 _
      have HO5 := Lib.hid ho5
      have HW5 := Lib.hid (below_app (HWD.out.trans ((below1 _ _).mono HWD.out.size)) (Nat.le_refl _) (HOD.out.alloc _) hg5 (by have := HSZ.out; simp at this ⊢; omega))
      clear ho5 hg5
      refine ⟨trivial, ?_⟩
      (try simp only [Act.put, List.setIfInBounds_toArray, List.set_cons_zero, List.set_cons_succ])
      (refine takeW (i := 9) (v := ?_) rfl (by kernel_rfl) (by kernel_rfl) (by kernel_rfl) (fun _ _ _ h => h) (by rfl) (by assumption) ?_ ?_; rotate_left; (intro W hW; (try dsimp only at hW); go_simp; try with_reducible rfl); (try simp only [Act.put, List.setIfInBounds_toArray, List.set_cons_zero, List.set_cons_succ]))
      refine wpAnyH_done (by kernel_rfl) ?_ _
      clear hHeld
      go_wp2
      go_roundw
      case rel => exact ⟨k + 1, acc ++ [hexC (c.toNat / 16), hexC (c.toNat % 16)], by omega, by go_num, ⟨HA2.out, by simp; omega, by simp⟩, (by have := HO5.out; show World.ownsRow _ _ _ _ _ _ _; simpa using this), HW5⟩
      case measure => simp [intOf]; omega
    · obtain rfl : k = q := by omega
      have HF : Hid (acc = hexW B) := by
        have := HA.out.1
        rwa [List.take_of_length_le (by rw [← HQ.out]; exact Nat.le_refl _)] at this
      have h0 := HA.out.2.2
      clear HA
      go_wp2_with ((with_reducible show wpList _ _ _ (Oper.mk (some 24) _ _ _ _ _ :: _) _ _); refine wpList_val rfl (str_own HO.out rfl h0 rfl rfl) ?_)
      exact HPO.out _ _ HW.out HF.out
end Go.Proofs.YtjaaldeaknmmbaaDoor
