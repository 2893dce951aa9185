/- The document's bytes as a word, a line of numbers. -/
import Derived.Test.YtjaaldeaknmmbaaDoorY1
namespace Go.Proofs.YtjaaldeaknmmbaaDoor
open Go.RowKit Go.Shelf

section
variable {P : Program} {md : Region.Mode} {l : List Oper} {Q : Exit → Act → World → Prop} {S : World → Prop}
theorem takeE {i : Nat} {oi : Oper} {r : List Oper} {fuel : Nat} {listed : Array Bool} {a : Act} {w : World} {R : Value → World → Prop} (hi : l.drop i = oi :: r)
    (hr : Region.ready md l.toArray listed = [i]) (hw : Region.wanted oi (yielded l.toArray a.tmps) = true) (hx : ∃ v' w', (execOp a.eval oi).run P w = .ok (.value v') w' ∧ R v' w')
    (h : ∀ v' w', R v' w' → S w' ∧ wpAnyH P md l.toArray Q S fuel (listed.setIfInBounds i true) (a.put oi.dst v') w') : wpAnyH P md l.toArray Q S (fuel + 1) listed a w := by
  obtain ⟨v', w', hrun, q⟩ := hx
  obtain ⟨g1, g2⟩ := h v' w' q
  exact takeV hi hr hw hrun g1 g2
end
section
variable {P : Program} {ops : Array Oper} {rest : List Oper} {o : Oper} {a : Act} {w : World} {Q : Exit → Act → World → Prop}
theorem wpList_ex {R : Value → World → Prop} (hw : Region.wanted o (yielded ops a.tmps) = true) (hx : ∃ v' w', (execOp a.eval o).run P w = .ok (.value v') w' ∧ R v' w')
    (h : ∀ v' w', R v' w' → wpList P ops Q rest (a.put o.dst v') w') : wpList P ops Q (o :: rest) a w := by
  obtain ⟨v', w', hrun, q⟩ := hx
  exact wpList_val hw hrun (h v' w' q)
end
theorem FL5 : Flat Tryd.prog 5 := ⟨⟨_, Tryd.underlying5, rfl⟩, by kernel_rfl⟩
theorem exec_quo16 {w : World} {o : Oper} {ac : Act} {X : Operand} {ty : TypeId} {n : Nat} (ho : o.op = .binOp .quo 5 X (.const (.int .u8 16)) ty) (hx : ac.eval X = .int .u8 (n : Int)) (h : n < 256) : (execOp ac.eval o).run Tryd.prog w = .ok (.value (.int .u8 ((n / 16 : Nat) : Int))) w := by
  have e : (n : Int).tdiv 16 = ((n / 16 : Nat) : Int) := by rw [Int.tdiv_eq_ediv_of_nonneg (by omega)]; omega
  have e2 : IntKind.u8.wrap ((n / 16 : Nat) : Int) = ((n / 16 : Nat) : Int) := by simp [IntKind.wrap, IntKind.signed, IntKind.bits]; omega
  have hc : ac.eval (.const (.int .u8 16)) = .int .u8 16 := rfl
  generalize ((n / 16 : Nat) : Int) = r at *
  generalize ac.eval = ev at *
  unfold execOp
  simp only [ho, hx, hc]
  go_simp
  try rw [e]
  try rw [e2]
theorem exec_rem16 {w : World} {o : Oper} {ac : Act} {X : Operand} {ty : TypeId} {n : Nat} (ho : o.op = .binOp .rem 5 X (.const (.int .u8 16)) ty) (hx : ac.eval X = .int .u8 (n : Int)) : (execOp ac.eval o).run Tryd.prog w = .ok (.value (.int .u8 ((n % 16 : Nat) : Int))) w := by
  have e : (n : Int).tmod 16 = ((n % 16 : Nat) : Int) := by rw [Int.tmod_eq_emod_of_nonneg (by omega)]; omega
  have hc : ac.eval (.const (.int .u8 16)) = .int .u8 16 := rfl
  generalize ((n % 16 : Nat) : Int) = r at *
  generalize ac.eval = ev at *
  unfold execOp
  simp only [ho, hx, hc]
  go_simp
  try rw [e]
theorem own_oneT (w : World) (c : UInt8) : OwT (w.alloc (.cells #[u8c c] 5)) w.heap.size (.slice (some ⟨w.heap.size, 0, none⟩) 1 1) [c] :=
  .inr ⟨w.heap.size, 1, _, (0, 0), rfl, Nat.le_refl _, (Blk.new' rfl : Blk _ w.heap.size 5 #[u8c c]), .inl rfl, Nat.le_refl _, by unfold maxLen; omega, rfl, rfl⟩
set_option maxRecDepth 100000 in
set_option maxHeartbeats 1600000 in
theorem rhex_any (B : List UInt8) (bv : Value) (w : World) (hb : Bys w bv B) (hl : B.length ≤ 1000000000) : Calls Tryd.prog 35 #[bv] w fun e w' => e = .returned (strV (hexW B)) ∧ Below w.heap.size w w' := by
  have HPO : Hid (∀ (w' : World) (l : List UInt8), Below w.heap.size w w' → l = hexW B → (fun e w' => e = Ending.returned (strV (hexW B)) ∧ Below w.heap.size w w') (.returned (strV l)) w') := fun w' l h1 h2 => by subst h2; exact ⟨rfl, h1⟩
  generalize (fun e w' => e = Ending.returned (strV (hexW B)) ∧ Below w.heap.size w w') = POST at *
  obtain ⟨ba, bc, rfl, hbc, hbcm, -⟩ := hb.shape
  obtain ⟨q, hq⟩ : ∃ q, q = B.length := ⟨_, rfl⟩
  rw [← hq] at hbc ⊢
  have HB := Lib.hid hb
  rw [← hq] at HB
  have HQ := Lib.hid hq
  have hq6 : q ≤ 1000000000 := by omega
  have HO1 := Lib.hid (own_oneT w 120)
  have HW1 := Lib.hid (below1 w (.cells #[u8c 120] 5))
  clear hb hq
  go_enter Tryd.func35, Tryd.ntmps35
  go_wp2_with ((with_reducible show wpList _ _ _ (Oper.mk (some 5) _ _ _ _ _ :: _) _ _); refine wpList_val rfl (exec_oneS (c := 120) exec_one1 rfl rfl) ?_)
  generalize w.alloc (.cells #[u8c 120] 5) = W1 at *
  go_loopw [3, 4] (fun u i wr => ∃ (k : Nat) (acc : List UInt8), k ≤ q ∧ i = .int .i64 k ∧ Hid (acc = hexW (B.take k) ∧ acc.length ≤ 2 * k + 1) ∧ Hid (OwT wr w.heap.size u acc) ∧ Hid (Below w.heap.size w wr)) (fun _ i _ => q - (intOf i).toNat)
  case atStart => exact ⟨0, [120], Nat.zero_le _, rfl, ⟨rfl, by simp⟩, HO1.out, HW1.out⟩
  case round =>
    clear HO1 HW1
    obtain ⟨k, acc, hk, rfl, HA, HO, HW⟩ := hrel
    obtain ⟨wo, rfl⟩ : ∃ wo : World, wo = wr := ⟨_, rfl⟩
    obtain ⟨av, ac0, rfl⟩ := HO.out.shape
    by_cases hlt : k < q
    · obtain ⟨c, hs⟩ : ∃ c, B[k]? = some c := ⟨_, List.getElem?_eq_getElem (by rw [← HQ.out]; exact hlt)⟩
      obtain ⟨bb, off, hba, hbl, hc⟩ := HB.out.row (by rintro rfl; simp at hs)
      have HC : Hid (w.cell? ⟨bb, off + k, none⟩ = some (.int .u8 (c.toNat : Int))) := by
        have := hc k c hs 0 _ rfl
        show _ = _
        simpa [u8c] using this
      have hc8 := c.toNat_lt
      have HG0 := Lib.hid (digs_at (c.toNat / 16) (by omega))
      have HG1 := Lib.hid (digs_at (c.toNat % 16) (by omega))
      have HA2 : Hid (acc ++ [hexC (c.toNat / 16), hexC (c.toNat % 16)] = hexW (B.take (k + 1))) := by show _ = _; rw [hexW_snoc hs, HA.out.1]
      have hal : acc.length ≤ 2 * k + 1 := HA.out.2
      have HWA : Hid (∀ o : Obj, Below w.heap.size w (wo.drew.alloc o)) := fun o => HW.out.drew.alloc HW.out.size o
      have HOA : Hid (∀ o : Obj, OwT (wo.drew.alloc o) w.heap.size (.slice av acc.length ac0) acc) := fun o => HO.out.below ((Below.refl _ wo).drew.alloc (Nat.le_refl _) o)
      have HSZ : Hid (w.heap.size ≤ wo.drew.heap.size) := HW.out.size
      subst hba
      clear hc hs HA
      go_upto_region 5 with fail
      refine wp_region_held_drew (S := (fun X => X.cell? ⟨bb, off + k, none⟩ = some (.int .u8 (c.toNat : Int)))) (by kernel_rfl) (HW.out.drew.cell hbl |>.trans HC.out) (fun hHeld => ?_)
      (refine takeW (i := 0) (v := ?_) rfl (by kernel_rfl) (by kernel_rfl) (by kernel_rfl) (fun _ _ _ h => h) (by rfl) (by assumption) ?_ ?_; rotate_left; (intro W hW; (try dsimp only at hW); go_simp; try with_reducible rfl); (try simp only [Act.put, List.setIfInBounds_toArray, List.set_cons_zero, List.set_cons_succ]))
      (refine takeW (i := 1) (v := ?_) rfl (by kernel_rfl) (by kernel_rfl) (by kernel_rfl) (fun _ _ _ h => h) (by rfl) (by assumption) ?_ ?_; rotate_left; (intro W hW; (try dsimp only at hW); go_simp; try with_reducible rfl); (try simp only [Act.put, List.setIfInBounds_toArray, List.set_cons_zero, List.set_cons_succ]))
      (refine takeW (i := 2) (v := ?_) rfl (by kernel_rfl) (by kernel_rfl) (by kernel_rfl) (fun _ _ _ h => h) (by rfl) (by assumption) ?_ ?_; rotate_left; (intro W hW; (try dsimp only at hW); go_simp; try with_reducible rfl); (try simp only [Act.put, List.setIfInBounds_toArray, List.set_cons_zero, List.set_cons_succ]))
      (refine takeW (i := 3) (v := ?_) rfl (by kernel_rfl) (by kernel_rfl) (by kernel_rfl) (fun _ _ _ h => h) (by rfl) (by assumption) ?_ ?_; rotate_left; (intro W hW; (try dsimp only at hW); go_simp; try with_reducible rfl); (try simp only [Act.put, List.setIfInBounds_toArray, List.set_cons_zero, List.set_cons_succ]))
      (refine takeW (i := 4) rfl (by kernel_rfl) (by kernel_rfl) (by kernel_rfl) (fun _ _ _ h => h) (by rfl) (by assumption) (fun W hW => exec_load1 (v := .int .u8 (c.toNat : Int)) FL5 rfl rfl hW) ?_; (try simp only [Act.put, List.setIfInBounds_toArray, List.set_cons_zero, List.set_cons_succ]))
      (refine takeW (i := 5) rfl (by kernel_rfl) (by kernel_rfl) (by kernel_rfl) (fun _ _ _ h => h) (by rfl) (by assumption) (fun W hW => exec_quo16 rfl rfl hc8) ?_; (try simp only [Act.put, List.setIfInBounds_toArray, List.set_cons_zero, List.set_cons_succ]))
      (refine takeW (i := 6) rfl (by kernel_rfl) (by kernel_rfl) (by kernel_rfl) (fun _ _ _ h => h) (by rfl) (by assumption) (fun W hW => exec_ixu (l := digsL) (k := c.toNat / 16) rfl rfl rfl HG0.out) ?_; (try simp only [Act.put, List.setIfInBounds_toArray, List.set_cons_zero, List.set_cons_succ]))
      (refine takeW (i := 7) (v := ?_) rfl (by kernel_rfl) (by kernel_rfl) (by kernel_rfl) (fun _ _ _ h => h) (by rfl) (by assumption) ?_ ?_; rotate_left; (intro W hW; (try dsimp only at hW); go_simp; try with_reducible rfl); (try simp only [Act.put, List.setIfInBounds_toArray, List.set_cons_zero, List.set_cons_succ]))
      (refine takeW (i := 8) (v := ?_) rfl (by kernel_rfl) (by kernel_rfl) (by kernel_rfl) (fun _ _ _ h => h) (by rfl) (by assumption) ?_ ?_; rotate_left; (intro W hW; (try dsimp only at hW); go_simp; try with_reducible rfl); (try simp only [Act.put, List.setIfInBounds_toArray, List.set_cons_zero, List.set_cons_succ]))
      (refine takeW (i := 9) (v := ?_) rfl (by kernel_rfl) (by kernel_rfl) (by kernel_rfl) (fun _ _ _ h => h) (by rfl) (by assumption) ?_ ?_; rotate_left; (intro W hW; (try dsimp only at hW); go_simp; try with_reducible rfl); (try simp only [Act.put, List.setIfInBounds_toArray, List.set_cons_zero, List.set_cons_succ]))
      (refine takeW (i := 10) rfl (by kernel_rfl) (by kernel_rfl) (by kernel_rfl) (fun _ _ _ h => h) (by rfl) (by assumption) (fun W hW => exec_load1 (v := .int .u8 (c.toNat : Int)) FL5 rfl rfl hW) ?_; (try simp only [Act.put, List.setIfInBounds_toArray, List.set_cons_zero, List.set_cons_succ]))
      (refine takeW (i := 11) rfl (by kernel_rfl) (by kernel_rfl) (by kernel_rfl) (fun _ _ _ h => h) (by rfl) (by assumption) (fun W hW => exec_rem16 rfl rfl) ?_; (try simp only [Act.put, List.setIfInBounds_toArray, List.set_cons_zero, List.set_cons_succ]))
      (refine takeW (i := 12) rfl (by kernel_rfl) (by kernel_rfl) (by kernel_rfl) (fun _ _ _ h => h) (by rfl) (by assumption) (fun W hW => exec_ixu (l := digsL) (k := c.toNat % 16) rfl rfl rfl HG1.out) ?_; (try simp only [Act.put, List.setIfInBounds_toArray, List.set_cons_zero, List.set_cons_succ]))
      clear hHeld
      refine takeV (i := 13) rfl (by kernel_rfl) (by rfl) (exec_twoU rfl rfl rfl) ((HWA.out _).cell hbl |>.trans HC.out) ?_
      (try simp only [Act.put, List.setIfInBounds_toArray, List.set_cons_zero, List.set_cons_succ])
      refine takeE (i := 14) rfl (by kernel_rfl) (by rfl) (exec_appB (y := [hexC (c.toNat / 16), hexC (c.toNat % 16)]) rfl rfl rfl rfl (HOA.out _) (news_two _ _ _) (by simp; omega) (by have := HSZ.out; simp at this ⊢; omega)) ?_
      rintro v7 W5 ⟨ho5, hg5⟩
      have HO5 := Lib.hid ho5
      have HW5 := Lib.hid ((HWA.out _).grown hg5 (by have := HSZ.out; simp at this ⊢; omega) (fun k hk => ((HOA.out (.cells #[] 5)).lt k hk).1))
      clear ho5 hg5
      refine ⟨HW5.out.cell hbl |>.trans HC.out, ?_⟩
      (try simp only [Act.put, List.setIfInBounds_toArray, List.set_cons_zero, List.set_cons_succ])
      have hHeld : (fun X => X.cell? ⟨bb, off + k, none⟩ = some (.int .u8 (c.toNat : Int))) W5 := (HW5.out.cell hbl).trans HC.out
      (refine takeW (i := 15) (v := ?_) rfl (by kernel_rfl) (by kernel_rfl) (by kernel_rfl) (fun _ _ _ h => h) (by rfl) (by assumption) ?_ ?_; rotate_left; (intro W hW; (try dsimp only at hW); go_simp; try with_reducible rfl); (try simp only [Act.put, List.setIfInBounds_toArray, List.set_cons_zero, List.set_cons_succ]))
      refine wpAnyH_done (by kernel_rfl) ?_ _
      clear hHeld HWA HOA HSZ
      go_wp2
      go_roundw
      case rel => exact ⟨k + 1, acc ++ [hexC (c.toNat / 16), hexC (c.toNat % 16)], by omega, by go_num, ⟨HA2.out, by simp; omega⟩, HO5, HW5⟩
      case measure => simp [intOf]; omega
    · obtain rfl : k = q := by omega
      have HF : Hid (acc = hexW B) := by
        have := HA.out.1
        rwa [List.take_of_length_le (by rw [← HQ.out]; exact Nat.le_refl _)] at this
      clear HA
      go_wp2_with ((with_reducible show wpList _ _ _ (Oper.mk (some 28) _ _ _ _ _ :: _) _ _); refine wpList_val rfl (exec_ofB rfl rfl HO.out) ?_)
      exact HPO.out _ _ HW.out HF.out
theorem joinB_snoc (c : UInt8) : ∀ (x : List UInt8) (ws : List (List UInt8)) (y : List UInt8), joinB c (x :: (ws ++ [y])) = joinB c (x :: ws) ++ c :: y
  | x, [], y => rfl
  | x, z :: ws, y => by
    rw [List.cons_append, joinB_cons c x (List.cons_ne_nil z (ws ++ [y])), joinB_snoc c z ws y, joinB_cons c x (List.cons_ne_nil z ws)]
    simp
def lineN (first : List UInt8) (ns : List Int) : List UInt8 := joinB 32 (first :: ns.map decZ)
theorem lineN_snoc {first : List UInt8} {ns : List Int} {k : Nat} {n : Int} (h : ns[k]? = some n) : lineN first (ns.take (k + 1)) = lineN first (ns.take k) ++ ([32] ++ decZ n) := by
  unfold lineN
  obtain ⟨hk, e⟩ := List.getElem?_eq_some_iff.1 h
  rw [List.take_succ_eq_append_getElem hk, e, List.map_append, List.map_cons, List.map_nil, joinB_snoc]
  rfl
set_option maxRecDepth 100000 in
set_option maxHeartbeats 1600000 in
theorem rline_any (first : List UInt8) (ns : List Int) (nv : Value) (w : World) (hb : Rd (encI .i64) 1 w nv ns) (hn : ∀ n ∈ ns, inI n) (hf : first.length ≤ 10) (hl : ns.length ≤ 10) : Calls Tryd.prog 33 #[strV first, nv] w fun e w' => e = .returned (strV (lineN first ns)) ∧ Below w.heap.size w w' := by
  have HPO : Hid (∀ (w' : World) (l : List UInt8), Below w.heap.size w w' → l = lineN first ns → (fun e w' => e = Ending.returned (strV (lineN first ns)) ∧ Below w.heap.size w w') (.returned (strV l)) w') := fun w' l h1 h2 => by subst h2; exact ⟨rfl, h1⟩
  generalize (fun e w' => e = Ending.returned (strV (lineN first ns)) ∧ Below w.heap.size w w') = POST at *
  obtain ⟨ba, bc, rfl, hbc, hbcm, -⟩ := hb.shape
  obtain ⟨q, hq⟩ : ∃ q, q = ns.length := ⟨_, rfl⟩
  rw [← hq] at hbc ⊢
  have HB := Lib.hid hb
  rw [← hq] at HB
  have HQ := Lib.hid hq
  have hq6 : q ≤ 10 := by omega
  clear hb hq
  go_enter Tryd.func33, Tryd.ntmps33
  go_wp2_with ((with_reducible show wpList _ _ _ (Oper.mk (some 8) _ _ _ _ _ :: _) _ _); refine wpList_ex rfl (exec_toB rfl rfl (by omega)) ?_; rintro v1 W1 ⟨ho1, hb1⟩; have HO1 := Lib.hid ho1; have HW1 := Lib.hid hb1; clear ho1 hb1)
  go_loopw [5, 6] (fun u i wr => ∃ (k : Nat) (acc : List UInt8), k ≤ q ∧ i = .int .i64 k ∧ Hid (acc = lineN first (ns.take k) ∧ acc.length ≤ 22 * k + 10) ∧ Hid (OwT wr w.heap.size u acc) ∧ Hid (Below w.heap.size w wr)) (fun _ i _ => q - (intOf i).toNat)
  case atStart => exact ⟨0, first, Nat.zero_le _, rfl, ⟨rfl, by omega⟩, HO1.out, HW1.out⟩
  case round =>
    clear HO1 HW1
    obtain ⟨k, acc, hk, rfl, HA, HO, HW⟩ := hrel
    obtain ⟨wo, rfl⟩ : ∃ wo : World, wo = wr := ⟨_, rfl⟩
    obtain ⟨av, ac0, rfl⟩ := HO.out.shape
    by_cases hlt : k < q
    · obtain ⟨n, hs⟩ : ∃ n, ns[k]? = some n := ⟨_, List.getElem?_eq_getElem (by rw [← HQ.out]; exact hlt)⟩
      obtain ⟨bb, off, hba, hbl, hc⟩ := HB.out.row (by rintro rfl; simp at hs)
      have HC : Hid (w.cell? ⟨bb, off + k, none⟩ = some (.int .i64 n)) := by
        have := hc k n hs 0 _ rfl
        show _ = _
        simpa using this
      have HI : Hid (inI n) := hn n (List.mem_of_getElem? hs)
      have HDL := Lib.hid (decZ_len HI.out.1 HI.out.2)
      have HN : Hid (∀ w, Calls Tryd.prog 36 #[.int .i64 n] w fun e w' => e = .returned (strV (decZ n)) ∧ Below w.heap.size w w') := fun w => rnum_any _ n w rfl HI.out.1 HI.out.2
      have HA2 : Hid ((acc ++ [32]) ++ decZ n = lineN first (ns.take (k + 1))) := by show _ = _; rw [lineN_snoc hs, HA.out.1, List.append_assoc]
      have hal : acc.length ≤ 22 * k + 10 := HA.out.2
      have HWA : Hid (∀ o : Obj, Below w.heap.size w (wo.drew.alloc o)) := fun o => HW.out.drew.alloc HW.out.size o
      have HOA : Hid (∀ o : Obj, OwT (wo.drew.alloc o) w.heap.size (.slice av acc.length ac0) acc) := fun o => HO.out.below ((Below.refl _ wo).drew.alloc (Nat.le_refl _) o)
      have HSZ : Hid (w.heap.size ≤ wo.drew.heap.size) := HW.out.size
      subst hba
      clear hc hs HA HI
      go_upto_region 5 with fail
      refine wp_region_held_drew (S := (fun X => X.cell? ⟨bb, off + k, none⟩ = some (.int .i64 n))) (by kernel_rfl) (HW.out.drew.cell hbl |>.trans HC.out) (fun hHeld => ?_)
      (refine takeW (i := 0) (v := ?_) rfl (by kernel_rfl) (by kernel_rfl) (by kernel_rfl) (fun _ _ _ h => h) (by rfl) (by assumption) ?_ ?_; rotate_left; (intro W hW; (try dsimp only at hW); go_simp; try with_reducible rfl); (try simp only [Act.put, List.setIfInBounds_toArray, List.set_cons_zero, List.set_cons_succ]))
      (refine takeW (i := 3) (v := ?_) rfl (by kernel_rfl) (by kernel_rfl) (by kernel_rfl) (fun _ _ _ h => h) (by rfl) (by assumption) ?_ ?_; rotate_left; (intro W hW; (try dsimp only at hW); go_simp; try with_reducible rfl); (try simp only [Act.put, List.setIfInBounds_toArray, List.set_cons_zero, List.set_cons_succ]))
      (refine takeW (i := 4) (v := ?_) rfl (by kernel_rfl) (by kernel_rfl) (by kernel_rfl) (fun _ _ _ h => h) (by rfl) (by assumption) ?_ ?_; rotate_left; (intro W hW; (try dsimp only at hW); go_simp; try with_reducible rfl); (try simp only [Act.put, List.setIfInBounds_toArray, List.set_cons_zero, List.set_cons_succ]))
      (refine takeW (i := 5) (v := ?_) rfl (by kernel_rfl) (by kernel_rfl) (by kernel_rfl) (fun _ _ _ h => h) (by rfl) (by assumption) ?_ ?_; rotate_left; (intro W hW; (try dsimp only at hW); go_simp; try with_reducible rfl); (try simp only [Act.put, List.setIfInBounds_toArray, List.set_cons_zero, List.set_cons_succ]))
      (refine takeW (i := 6) rfl (by kernel_rfl) (by kernel_rfl) (by kernel_rfl) (fun _ _ _ h => h) (by rfl) (by assumption) (fun W hW => exec_load1 (v := .int .i64 n) FL3 rfl rfl hW) ?_; (try simp only [Act.put, List.setIfInBounds_toArray, List.set_cons_zero, List.set_cons_succ]))
      clear hHeld
      refine takeV (i := 1) rfl (by kernel_rfl) (by rfl) (exec_oneS (c := 32) exec_one1 rfl rfl) ((HWA.out _).cell hbl |>.trans HC.out) ?_
      (try simp only [Act.put, List.setIfInBounds_toArray, List.set_cons_zero, List.set_cons_succ])
      refine takeE (i := 2) rfl (by kernel_rfl) (by rfl) (exec_appB (y := [32]) rfl rfl rfl rfl (HOA.out _) (news_one _ _) (by simp; omega) (by have := HSZ.out; simp at this ⊢; omega)) ?_
      rintro v2 W2 ⟨ho2, hg2⟩
      have HO2 := Lib.hid ho2
      have HW2 := Lib.hid ((HWA.out _).grown hg2 (by have := HSZ.out; simp at this ⊢; omega) (fun k hk => ((HOA.out (.cells #[] 5)).lt k hk).1))
      clear ho2 hg2
      refine ⟨HW2.out.cell hbl |>.trans HC.out, ?_⟩
      (try simp only [Act.put, List.setIfInBounds_toArray, List.set_cons_zero, List.set_cons_succ])
      refine takeC (i := 7) rfl (by kernel_rfl) (by rfl) (fun K hK => ?_)
      go_simp
      refine (HN.out W2).mono ?_
      rintro e w3 ⟨rfl, hb3⟩
      have HO3 := Lib.hid (HO2.out.below hb3)
      have HW3 := Lib.hid (HW2.out.trans (hb3.mono HW2.out.size))
      clear hb3
      refine hK.out _ _ (HW3.out.cell hbl |>.trans HC.out) (fun hHeld => ?_)
      clear hK K
      (try simp only [Act.put, List.setIfInBounds_toArray, List.set_cons_zero, List.set_cons_succ])
      refine takeE (i := 8) rfl (by kernel_rfl) (by rfl) (exec_appT (y := decZ n) rfl rfl rfl HO3.out (by have := HDL.out; simp; omega) HW3.out.size) ?_
      rintro v8 W8 ⟨ho8, hg8⟩
      have HO8 := Lib.hid ho8
      have HW8 := Lib.hid (HW3.out.grown hg8 HW3.out.size (fun k hk => (HO3.out.lt k hk).1))
      clear ho8 hg8
      refine ⟨HW8.out.cell hbl |>.trans HC.out, ?_⟩
      (try simp only [Act.put, List.setIfInBounds_toArray, List.set_cons_zero, List.set_cons_succ])
      have hHeld : (fun X => X.cell? ⟨bb, off + k, none⟩ = some (.int .i64 n)) W8 := (HW8.out.cell hbl).trans HC.out
      (refine takeW (i := 9) (v := ?_) rfl (by kernel_rfl) (by kernel_rfl) (by kernel_rfl) (fun _ _ _ h => h) (by rfl) (by assumption) ?_ ?_; rotate_left; (intro W hW; (try dsimp only at hW); go_simp; try with_reducible rfl); (try simp only [Act.put, List.setIfInBounds_toArray, List.set_cons_zero, List.set_cons_succ]))
      refine wpAnyH_done (by kernel_rfl) ?_ _
      clear HO2 HO3 HW2 HW3
      clear hHeld HWA HOA HSZ
      go_wp2
      go_roundw
      case rel => exact ⟨k + 1, (acc ++ [32]) ++ decZ n, by omega, by go_num, ⟨HA2.out, by have := HDL.out; simp; omega⟩, HO8, HW8⟩
      case measure => simp [intOf]; omega
    · obtain rfl : k = q := by omega
      have HF : Hid (acc = lineN first ns) := by
        have := HA.out.1
        rwa [List.take_of_length_le (by rw [← HQ.out]; exact Nat.le_refl _)] at this
      clear HA
      go_wp2_with ((with_reducible show wpList _ _ _ (Oper.mk (some 25) _ _ _ _ _ :: _) _ _); refine wpList_val rfl (exec_ofB rfl rfl HO.out) ?_)
      exact HPO.out _ _ HW.out HF.out
end Go.Proofs.YtjaaldeaknmmbaaDoor
