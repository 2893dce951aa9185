/- slices.Compact at faults. -/
import Derived.Test.YtkinhhkodaacjaaF7
namespace Go.Proofs.Ytkinhhkodaacjaa
open Go.RowKit Go.Shelf

def F0 : Fa := ⟨0, 0, 0, 0, 0, 0, 0⟩
theorem run_zeroF (w : World) : (zeroValue 39).run Try.prog w = .ok (.agg (encF F0).toArray) w := by kernel_rfl
theorem zeroF (n : Nat) : (Builtin.zeroCells (encF F0).toArray n).toList = (List.replicate n F0).flatMap encF := by
  have h1 : (Builtin.zeroCells (encF F0).toArray n).toList = List.replicate (n * 7) (.int .i64 0) := by
    refine List.eq_replicate_iff.2 ⟨by simp [Builtin.zeroCells, encF], fun b hb => ?_⟩
    unfold Builtin.zeroCells at hb
    simp only [Array.toList_map, List.mem_map] at hb
    obtain ⟨i, -, rfl⟩ := hb
    have : i % 7 < 7 := Nat.mod_lt _ (by decide)
    show (#[Value.int .i64 0, .int .i64 0, .int .i64 0, .int .i64 0, .int .i64 0, .int .i64 0, .int .i64 0] : Array Value)[i % 7]! = _
    generalize i % 7 = j at *
    match j with
    | 0 => rfl
    | 1 => rfl
    | 2 => rfl
    | 3 => rfl
    | 4 => rfl
    | 5 => rfl
    | 6 => rfl
    | j + 7 => omega
  have h2 : (List.replicate n F0).flatMap encF = List.replicate (n * 7) (.int .i64 0) := by
    refine List.eq_replicate_iff.2 ⟨by rw [flat_len encF_len]; simp, fun b hb => ?_⟩
    obtain ⟨x, hx, hb⟩ := List.mem_flatMap.1 hb
    obtain rfl := List.eq_of_mem_replicate hx
    simp [encF, F0] at hb
    exact hb
  rw [h1, h2]
/-- 'clear(s[i:])' of a row that a call owns. -/
theorem exec_clear {w : World} {o : Oper} {a : Act} {x : Operand} (ho : o.op = .call { callee := .builtin .clear, args := #[x], argTypes := #[28] }) {base g n cap i : Nat} {L : List Fa} (hn : L.length = n)
    (h : w.ownsRow base 39 7 (.slice (some ⟨g, 0, none⟩) n cap) n (L.flatMap encF)) (hi : i ≤ n) (hx : a.eval x = .slice (some ⟨g, i * 7, none⟩) (n - i) (cap - i)) :
    ∃ w', (execOp a.eval o).run Try.prog w = .ok (.value (.tuple #[])) w' ∧ w'.ownsRow base 39 7 (.slice (some ⟨g, 0, none⟩) n cap) n ((L.take i ++ List.replicate (n - i) F0).flatMap encF) ∧ w.grownBy w' (some g) := by
  by_cases h0 : n - i = 0
  · refine ⟨w, ?_, ?_, World.grownBy.refl _ _⟩
    · rw [h0] at hx
      unfold execOp
      simp only [ho, resolve, invoke, builtin, Sem.run_bind, Sem.run_pure, Result.andThen_ok, List.map_toArray, List.map_cons, List.map_nil, hx]
      simp [Builtin.clear_, run_underlying Try.underlying28, Result.andThen]
    · rw [h0, List.replicate_zero, List.append_nil, List.take_of_length_le (by omega)]
      exact h
  · rcases h.2 with ⟨h1, -⟩ | ⟨g', cap', cur, hv, hg, hh, q1, q2, q3, q4⟩
    · cases h1
    cases hv
    have hz : (Builtin.zeroCells (encF F0).toArray (n - i)).toList.length = (n - i) * 7 := by rw [zeroF, flat_len encF_len]; simp
    have hst := run_storeCells_at Try.prog g (i * 7) 39 (Builtin.zeroCells (encF F0).toArray (n - i)).toList 0 cur w hh (by rw [hz]; omega) (by rw [zeroF]; exact flat_one encF_one _)
    simp only [Nat.add_zero, hz] at hst
    obtain ⟨CS, hCS⟩ : ∃ C, C = (cur.toList.take (i * 7) ++ (Builtin.zeroCells (encF F0).toArray (n - i)).toList ++ cur.toList.drop (i * 7 + (n - i) * 7)).toArray := ⟨_, rfl⟩
    rw [← hCS] at hst
    have hl : cur.toList.length = cap * 7 := by rw [Array.length_toList]; exact q3
    refine ⟨w.setRow g CS, ?_, ⟨by rw [flat_len encF_len]; simp; omega, .inr ⟨g, cap, CS, rfl, hg, setRow_heap w g cur _ 39 _ hh, q1, q2, by rw [hCS]; simp [hz]; omega, ?_⟩⟩, ⟨rfl, rfl, rfl, by simp, fun k hk hne => setRow_other w g k _ (fun e => hne (by rw [e]))⟩⟩
    · unfold execOp
      simp only [ho, resolve, invoke, builtin, Sem.run_bind, Sem.run_pure, Result.andThen_ok, List.map_toArray, List.map_cons, List.map_nil, hx]
      obtain ⟨k, hk⟩ : ∃ k, n - i = k + 1 := ⟨n - i - 1, by omega⟩
      rw [hk] at hst ⊢
      simp [Builtin.clear_, run_underlying Try.underlying28, Value.cells, Result.andThen]
      have hst2 : (storeCells ⟨g, i * 7, none⟩ (Builtin.zeroCells #[.int .i64 0, .int .i64 0, .int .i64 0, .int .i64 0, .int .i64 0, .int .i64 0, .int .i64 0] (k + 1)).toList).run Try.prog w = .ok () (w.setRow g CS) := hst
      rw [hst2]
    · rw [hCS]
      show (cur.toList.take (i * 7) ++ (Builtin.zeroCells (encF F0).toArray (n - i)).toList ++ cur.toList.drop (i * 7 + (n - i) * 7)).take (n * 7) = _
      have e1 : (cur.toList.take (i * 7)) = (L.take i).flatMap encF := by
        have e : L.flatMap encF = (L.take i).flatMap encF ++ (L.drop i).flatMap encF := by rw [← List.flatMap_append, List.take_append_drop]
        have e2 : ((L.take i).flatMap encF).length = i * 7 := by rw [flat_len encF_len]; simp; omega
        have := congrArg (List.take (i * 7)) q4
        rw [List.take_take, Nat.min_eq_left (by omega), e, ← e2, List.take_left'] at this
        · rw [← e2]; exact this
        · rfl
      rw [e1, zeroF, ← List.flatMap_append, List.take_append_of_le_length (by rw [flat_len encF_len]; simp; omega), List.take_of_length_le (by rw [flat_len encF_len]; simp; omega)]
theorem wpList_clear {w : World} {o : Oper} {ops : Array Oper} {rest : List Oper} {a : Act} {Q : Exit → Act → World → Prop} {x : Operand} (ho : o.op = .call { callee := .builtin .clear, args := #[x], argTypes := #[28] }) (hwn : Region.wanted o (yielded ops a.tmps) = true) {base g n cap i : Nat} {L : List Fa} (hn : L.length = n)
    (h : w.ownsRow base 39 7 (.slice (some ⟨g, 0, none⟩) n cap) n (L.flatMap encF)) (hi : i ≤ n) (hx : a.eval x = .slice (some ⟨g, i * 7, none⟩) (n - i) (cap - i))
    (hK : ∀ w', w'.ownsRow base 39 7 (.slice (some ⟨g, 0, none⟩) n cap) n ((L.take i ++ List.replicate (n - i) F0).flatMap encF) → w.grownBy w' (some g) → wpList Try.prog ops Q rest (a.put o.dst (.tuple #[])) w') : wpList Try.prog ops Q (o :: rest) a w := by
  obtain ⟨w', hr, q1, q2⟩ := exec_clear (w := w) (o := o) (a := a) ho hn h hi hx
  exact wpList_val hwn hr (hK w' q1 q2)

theorem comp_step {L : List Fa} {j : Nat} {x y : Fa} (hj : 1 ≤ j) (hx : L[j]? = some x) (hy : L[j - 1]? = some y) : compL (L.take (j + 1)) = if y = x then compL (L.take j) else compL (L.take j) ++ [x] := by
  have hl : (L.take j).getLast? = some y := by
    have hjl : j ≤ L.length := by have := (List.getElem?_eq_some_iff.1 hx).1; omega
    rw [List.getLast?_eq_getElem?, List.length_take, Nat.min_eq_left hjl, List.getElem?_take_of_lt (by omega)]
    exact hy
  rw [take_snoc hx, compL_snoc, hl]
  simp
/-- Between two rounds of the second loop: j faults are gone through, i stand. -/
def CmpJ (base g n cap : Nat) (L : List Fa) (w : World) (i j : Nat) (W : World) : Prop :=
  1 ≤ i ∧ i + 1 ≤ j ∧ ∃ R : List Fa, R.length = n ∧ R.take i = compL (L.take j) ∧ R.drop (j - 1) = L.drop (j - 1) ∧ W.ownsRow base 39 7 (.slice (some ⟨g, 0, none⟩) n cap) n (R.flatMap encF) ∧ w.grownBy W (some g)
def CompPost (base : Nat) (v : Value) (L : List Fa) (w : World) (e : Ending) (w' : World) : Prop :=
  ∃ v', e = .returned v' ∧ w'.ownsRow base 39 7 v' (compL L).length ((compL L).flatMap encF) ∧ w.grownBy w' v.ownBlock
theorem comp_small {L : List Fa} (h : L.length < 2) : compL L = L := by
  match L, h with
  | [], _ => rfl
  | [x], _ => rfl
set_option maxRecDepth 100000 in
set_option maxHeartbeats 1600000 in
theorem compact_any (v : Value) (L : List Fa) (base : Nat) (w : World) (hv : w.ownsRow base 39 7 v L.length (L.flatMap encF)) (hl : L.length ≤ 16384) (hbase : base ≤ w.heap.size) :
    Calls Try.prog 61 #[v] w (CompPost base v L w) := by
  by_cases h2 : L.length < 2
  · have HP : Hid (CompPost base v L w (.returned v) w) := ⟨v, rfl, by rw [comp_small h2]; exact hv, World.grownBy.refl _ _⟩
    obtain ⟨a, cap, rfl, h1, h3, h4⟩ := owns_shape hv
    have hd : (L.length : Int) < 2 := by omega
    generalize CompPost base (.slice a L.length cap) L w = R at *
    clear hv h4
    generalize L.length = n at *
    go_enter Try.func61, Try.ntmps61
    go_wp2
    exact HP.out
  · obtain ⟨g, cap, hvg, hcap, hcm⟩ : ∃ g cap, v = .slice (some ⟨g, 0, none⟩) L.length cap ∧ L.length ≤ cap ∧ cap ≤ 9223372036854775807 := by
      obtain ⟨a, c, h1, h2, h3, h4⟩ := owns_shape hv
      obtain ⟨g, h5, -⟩ := h4 (by omega)
      exact ⟨g, c, by rw [h1, h5], h2, h3⟩
    subst hvg
    have HP : Hid (∀ w' i m, m = compL L → w.grownBy w' (some g) → w'.ownsRow base 39 7 (.slice (some ⟨g, 0, none⟩) i cap) i (m.flatMap encF) → i = m.length → CompPost base (.slice (some ⟨g, 0, none⟩) L.length cap) L w (.returned (.slice (some ⟨g, 0, none⟩) i cap)) w') := fun w' i m hm h1 h2 h3 => by
      subst hm h3
      exact ⟨_, rfl, h2, h1⟩
    obtain ⟨n, hn⟩ : ∃ n, n = L.length := ⟨_, rfl⟩
    generalize CompPost base (.slice (some ⟨g, 0, none⟩) L.length cap) L w = R at *
    rw [← hn] at hcap hl h2 hv ⊢
    have HN := Lib.hid hn
    have HV := Lib.hid hv
    have hbz : base ≤ w.heap.size := hbase
    have HT1 : Hid (compL (L.take 1) = L.take 1) := comp_small (by rw [List.length_take]; omega)
    clear hn hv hbase
    go_enter Try.func61, Try.ntmps61
    go_wp2_with fail
    go_loopw [3] (fun u wr => ∃ k : Nat, 1 ≤ k ∧ k ≤ n ∧ u = .int .i64 k ∧ Hid (compL (L.take k) = L.take k) ∧ Hid (Below w.heap.size w wr)) (fun u _ => n - (intOf u).toNat)
    case atStart => exact ⟨1, by omega, by omega, rfl, HT1, Below.refl _ _⟩
    case round =>
      clear HT1
      obtain ⟨k, hk1, hk2, rfl, HT, HB⟩ := hrel
      obtain ⟨W1, rfl⟩ : ∃ W1 : World, W1 = wr := ⟨_, rfl⟩
      by_cases hlt : k < n
      · obtain ⟨x, hx⟩ : ∃ x, L[k]? = some x := ⟨_, List.getElem?_eq_getElem (by have := HN.out; omega)⟩
        obtain ⟨y, hy⟩ : ∃ y, L[k - 1]? = some y := ⟨_, List.getElem?_eq_getElem (by have := HN.out; omega)⟩
        obtain ⟨c, hkc⟩ : ∃ c, k = c + 1 := ⟨k - 1, by omega⟩
        have hO1 : W1.ownsRow base 39 7 (.slice (some ⟨g, 0, none⟩) n cap) n (L.flatMap encF) := ow_below HV.out HB.out
        obtain ⟨bl, off, e0, hbl, hc⟩ := (Rd.of_owns encF_len (v := .slice (some ⟨g, 0, none⟩) n cap) (l := L) (by rw [← HN.out]; exact hO1) (by have := HN.out; omega)).row (by rintro rfl; simp at hx)
        simp only [Option.some.injEq, Addr.mk.injEq, and_true] at e0
        obtain ⟨rfl, rfl⟩ := e0
        have hcx := hc _ x hx
        have hcy := hc _ y hy
        have hS : Hid (∀ jj u, (encF x)[jj]? = some u → W1.drew.cell? ⟨g, k * 7 + jj, none⟩ = some u) ∧ Hid (∀ jj u, (encF y)[jj]? = some u → W1.drew.cell? ⟨g, c * 7 + jj, none⟩ = some u) := by
          refine ⟨fun jj u hu => ?_, fun jj u hu => ?_⟩
          · have := hcx jj u hu
            rwa [show 0 + k * 7 + jj = k * 7 + jj by omega] at this
          · have := hcy jj u hu
            rwa [show 0 + (k - 1) * 7 + jj = c * 7 + jj by omega] at this
        have HST := Lib.hid (comp_step hk1 hx hy)
        have HX := Lib.hid hx
        have HO : Hid (W1.drew.ownsRow base 39 7 (.slice (some ⟨g, 0, none⟩) n cap) n (L.flatMap encF)) := hO1
        have HGW : Hid (w.grownBy W1.drew (some g)) := grow_none HB.out.drew
        have hwr : IntKind.i64.wrap ((k : Int) - 1) = (c : Int) := by rw [hkc]; exact (IntWalk.i64_in _ (by omega)).trans (by omega)
        have hl3 : (c : Int) < (n : Int) := by omega
        have hl4 : (k : Int) < (n : Int) := by omega
        clear hx hy hc hcx hcy hO1 hkc
        go_upto_region 6 with fail
        refine wp_region_held_drew (S := fun X => Hid (∀ jj u, (encF x)[jj]? = some u → X.cell? ⟨g, k * 7 + jj, none⟩ = some u) ∧ Hid (∀ jj u, (encF y)[jj]? = some u → X.cell? ⟨g, c * 7 + jj, none⟩ = some u)) (by kernel_rfl) hS (fun hHeld => ?_)
        (refine takeW (i := 0) (v := ?_) rfl (by kernel_rfl) (by kernel_rfl) (by kernel_rfl) (fun _ _ _ h => h) (by rfl) (by assumption) ?_ ?_; rotate_left; (intro W hW; (try dsimp only at hW); go_simp; try with_reducible rfl); (try simp only [Act.put, List.setIfInBounds_toArray, List.set_cons_zero, List.set_cons_succ]))
        (refine takeW (i := 1) (v := ?_) rfl (by kernel_rfl) (by kernel_rfl) (by kernel_rfl) (fun _ _ _ h => h) (by rfl) (by assumption) ?_ ?_; rotate_left; (intro W hW; (try dsimp only at hW); go_simp; try with_reducible rfl); (try simp only [Act.put, List.setIfInBounds_toArray, List.set_cons_zero, List.set_cons_succ]))
        (refine takeW (i := 2) (v := ?_) rfl (by kernel_rfl) (by kernel_rfl) (by kernel_rfl) (fun _ _ _ h => h) (by rfl) (by assumption) ?_ ?_; rotate_left; (intro W hW; (try dsimp only at hW); go_simp; try with_reducible rfl); (try simp only [Act.put, List.setIfInBounds_toArray, List.set_cons_zero, List.set_cons_succ]))
        (refine takeW (i := 3) rfl (by kernel_rfl) (by kernel_rfl) (by kernel_rfl) (fun _ _ _ h => h) (by rfl) (by assumption) (fun W hW => exec_loadW W33 rfl rfl (cs := encF x) rfl hW.1.out) ?_; (try simp only [Act.put, List.setIfInBounds_toArray, List.set_cons_zero, List.set_cons_succ]))
        (refine takeW (i := 4) (v := ?_) rfl (by kernel_rfl) (by kernel_rfl) (by kernel_rfl) (fun _ _ _ h => h) (by rfl) (by assumption) ?_ ?_; rotate_left; (intro W hW; (try dsimp only at hW); go_simp; try with_reducible rfl); (try simp only [Act.put, List.setIfInBounds_toArray, List.set_cons_zero, List.set_cons_succ]))
        (refine takeW (i := 5) (v := ?_) rfl (by kernel_rfl) (by kernel_rfl) (by kernel_rfl) (fun _ _ _ h => h) (by rfl) (by assumption) ?_ ?_; rotate_left; (intro W hW; (try dsimp only at hW); go_simp; try with_reducible rfl); (try simp only [Act.put, List.setIfInBounds_toArray, List.set_cons_zero, List.set_cons_succ]))
        (refine takeW (i := 6) (v := ?_) rfl (by kernel_rfl) (by kernel_rfl) (by kernel_rfl) (fun _ _ _ h => h) (by rfl) (by assumption) ?_ ?_; rotate_left; (intro W hW; (try dsimp only at hW); go_simp; try with_reducible rfl); (try simp only [Act.put, List.setIfInBounds_toArray, List.set_cons_zero, List.set_cons_succ]))
        (refine takeW (i := 7) (v := ?_) rfl (by kernel_rfl) (by kernel_rfl) (by kernel_rfl) (fun _ _ _ h => h) (by rfl) (by assumption) ?_ ?_; rotate_left; (intro W hW; (try dsimp only at hW); go_simp; try with_reducible rfl); (try simp only [Act.put, List.setIfInBounds_toArray, List.set_cons_zero, List.set_cons_succ]))
        (refine takeW (i := 8) rfl (by kernel_rfl) (by kernel_rfl) (by kernel_rfl) (fun _ _ _ h => h) (by rfl) (by assumption) (fun W hW => exec_loadW W33 rfl rfl (cs := encF y) rfl hW.2.out) ?_; (try simp only [Act.put, List.setIfInBounds_toArray, List.set_cons_zero, List.set_cons_succ]))
        (refine takeW (i := 9) rfl (by kernel_rfl) (by kernel_rfl) (by kernel_rfl) (fun _ _ _ h => h) (by rfl) (by assumption) (fun W hW => exec_eqF (u := x) (v := y) rfl rfl rfl) ?_; (try simp only [Act.put, List.setIfInBounds_toArray, List.set_cons_zero, List.set_cons_succ]))
        refine wpAnyH_done (by kernel_rfl) ?_ _
        clear hHeld hS
        by_cases hxy : x = y
        · rw [show (decide (x = y)) = true by simp [hxy]]
          have HJ1 : Hid (CmpJ base g n cap L w k (k + 1) W1.drew) := by
            refine ⟨by omega, by omega, L, HN.out.symm, ?_, rfl, HO.out, HGW.out⟩
            show _ = compL (L.take (k + 1))
            rw [HST.out, if_pos hxy.symm, HT.out]
          have hck : ¬ cap = k := by omega
          have hkc : k ≤ cap := by omega
          clear hxy HST HT HO HGW
          go_wp2_with fail
          go_loopw [3, 5] (fun u v wr => ∃ i q : Nat, 1 ≤ q ∧ q ≤ n - k ∧ u = .int .i64 i ∧ v = .int .i64 q ∧ Hid (CmpJ base g n cap L w i (k + q) wr)) (fun _ v _ => n - k - (intOf v).toNat)
          case atStart => exact ⟨k, 1, by omega, by omega, rfl, rfl, HJ1⟩
          case round =>
            clear HJ1
            obtain ⟨i, q, hq1, hq2, rfl, rfl, HJ⟩ := hrel
            obtain ⟨W2, rfl⟩ : ∃ W2 : World, W2 = wr := ⟨_, rfl⟩
            obtain ⟨hi1, hij, R, hR1, hR2, hR3, hO, hG⟩ := HJ.out
            clear HJ
            by_cases hlt2 : q < n - k
            · obtain ⟨x, hx⟩ : ∃ x, L[k + q]? = some x := ⟨_, List.getElem?_eq_getElem (by have := HN.out; omega)⟩
              obtain ⟨y, hy⟩ : ∃ y, L[k + q - 1]? = some y := ⟨_, List.getElem?_eq_getElem (by have := HN.out; omega)⟩
              obtain ⟨d, hd⟩ : ∃ d, q = d + 1 := ⟨q - 1, by omega⟩
              have hxR : R[k + q]? = some x := by
                have := congrArg (·[1]?) hR3
                simp only [List.getElem?_drop] at this
                rw [show k + q - 1 + 1 = k + q by omega] at this
                rw [this]; exact hx
              have hyR : R[k + q - 1]? = some y := by
                have := congrArg (·[0]?) hR3
                simp only [List.getElem?_drop, Nat.add_zero] at this
                rw [this]; exact hy
              have hO2 : W2.drew.ownsRow base 39 7 (.slice (some ⟨g, 0, none⟩) n cap) R.length (R.flatMap encF) := by rw [hR1]; exact hO
              obtain ⟨bl, off, e0, hbl, hc⟩ := (Rd.of_owns encF_len (v := .slice (some ⟨g, 0, none⟩) n cap) (l := R) (by rw [hR1] at hO2 ⊢; exact hO2) (by omega)).row (by rintro rfl; simp at hxR)
              simp only [Option.some.injEq, Addr.mk.injEq, and_true] at e0
              obtain ⟨rfl, rfl⟩ := e0
              have hcx := hc _ x hxR
              have hcy := hc _ y hyR
              have hS : Hid (∀ jj u, (encF x)[jj]? = some u → W2.drew.cell? ⟨g, k * 7 + q * 7 + jj, none⟩ = some u) ∧ Hid (∀ jj u, (encF y)[jj]? = some u → W2.drew.cell? ⟨g, k * 7 + d * 7 + jj, none⟩ = some u) := by
                refine ⟨fun jj u hu => ?_, fun jj u hu => ?_⟩
                · have := hcx jj u hu
                  rwa [show 0 + (k + q) * 7 + jj = k * 7 + q * 7 + jj by omega] at this
                · have := hcy jj u hu
                  rwa [show 0 + (k + q - 1) * 7 + jj = k * 7 + d * 7 + jj by omega] at this
              have HST := Lib.hid (comp_step (by omega) hx hy)
              have HO : Hid (W2.drew.ownsRow base 39 7 (.slice (some ⟨g, 0, none⟩) n cap) n (R.flatMap encF)) := hO
              have HG : Hid (w.grownBy W2.drew (some g)) := grow_trans hG (grow_none (Below.refl _ _).drew)
              have HR := Lib.hid (And.intro hR1 (And.intro hR2 hR3))
              have hwr : IntKind.i64.wrap ((q : Int) - 1) = (d : Int) := by rw [hd]; exact (IntWalk.i64_in _ (by omega)).trans (by omega)
              have hl1 : (q : Int) < (n : Int) - (k : Int) := by omega
              have hl2 : ((n - k : Nat) : Int) = (n : Int) - (k : Int) := by omega
              have hl3 : (d : Int) < ((n - k : Nat) : Int) := by omega
              have hl4 : (q : Int) < ((n - k : Nat) : Int) := by omega
              clear hx hy hxR hyR hO2 hc hcx hcy hO hG hR1 hR2 hR3 hl1 hl2 hd
              go_upto_region 11 with fail
              refine wp_region_held_drew (S := fun X => Hid (∀ jj u, (encF x)[jj]? = some u → X.cell? ⟨g, k * 7 + q * 7 + jj, none⟩ = some u) ∧ Hid (∀ jj u, (encF y)[jj]? = some u → X.cell? ⟨g, k * 7 + d * 7 + jj, none⟩ = some u)) (by kernel_rfl) hS (fun hHeld => ?_)
              (refine takeW (i := 0) (v := ?_) rfl (by kernel_rfl) (by kernel_rfl) (by kernel_rfl) (fun _ _ _ h => h) (by rfl) (by assumption) ?_ ?_; rotate_left; (intro W hW; (try dsimp only at hW); go_simp; try with_reducible rfl); (try simp only [Act.put, List.setIfInBounds_toArray, List.set_cons_zero, List.set_cons_succ]))
              (refine takeW (i := 1) (v := ?_) rfl (by kernel_rfl) (by kernel_rfl) (by kernel_rfl) (fun _ _ _ h => h) (by rfl) (by assumption) ?_ ?_; rotate_left; (intro W hW; (try dsimp only at hW); go_simp; try with_reducible rfl); (try simp only [Act.put, List.setIfInBounds_toArray, List.set_cons_zero, List.set_cons_succ]))
              (refine takeW (i := 2) (v := ?_) rfl (by kernel_rfl) (by kernel_rfl) (by kernel_rfl) (fun _ _ _ h => h) (by rfl) (by assumption) ?_ ?_; rotate_left; (intro W hW; (try dsimp only at hW); go_simp; try with_reducible rfl); (try simp only [Act.put, List.setIfInBounds_toArray, List.set_cons_zero, List.set_cons_succ]))
              (refine takeW (i := 3) rfl (by kernel_rfl) (by kernel_rfl) (by kernel_rfl) (fun _ _ _ h => h) (by rfl) (by assumption) (fun W hW => exec_loadW W33 rfl rfl (cs := encF x) rfl hW.1.out) ?_; (try simp only [Act.put, List.setIfInBounds_toArray, List.set_cons_zero, List.set_cons_succ]))
              (refine takeW (i := 4) (v := ?_) rfl (by kernel_rfl) (by kernel_rfl) (by kernel_rfl) (fun _ _ _ h => h) (by rfl) (by assumption) ?_ ?_; rotate_left; (intro W hW; (try dsimp only at hW); go_simp; try with_reducible rfl); (try simp only [Act.put, List.setIfInBounds_toArray, List.set_cons_zero, List.set_cons_succ]))
              (refine takeW (i := 5) (v := ?_) rfl (by kernel_rfl) (by kernel_rfl) (by kernel_rfl) (fun _ _ _ h => h) (by rfl) (by assumption) ?_ ?_; rotate_left; (intro W hW; (try dsimp only at hW); go_simp; try with_reducible rfl); (try simp only [Act.put, List.setIfInBounds_toArray, List.set_cons_zero, List.set_cons_succ]))
              (refine takeW (i := 6) (v := ?_) rfl (by kernel_rfl) (by kernel_rfl) (by kernel_rfl) (fun _ _ _ h => h) (by rfl) (by assumption) ?_ ?_; rotate_left; (intro W hW; (try dsimp only at hW); go_simp; try with_reducible rfl); (try simp only [Act.put, List.setIfInBounds_toArray, List.set_cons_zero, List.set_cons_succ]))
              (refine takeW (i := 7) (v := ?_) rfl (by kernel_rfl) (by kernel_rfl) (by kernel_rfl) (fun _ _ _ h => h) (by rfl) (by assumption) ?_ ?_; rotate_left; (intro W hW; (try dsimp only at hW); go_simp; try with_reducible rfl); (try simp only [Act.put, List.setIfInBounds_toArray, List.set_cons_zero, List.set_cons_succ]))
              (refine takeW (i := 8) rfl (by kernel_rfl) (by kernel_rfl) (by kernel_rfl) (fun _ _ _ h => h) (by rfl) (by assumption) (fun W hW => exec_loadW W33 rfl rfl (cs := encF y) rfl hW.2.out) ?_; (try simp only [Act.put, List.setIfInBounds_toArray, List.set_cons_zero, List.set_cons_succ]))
              (refine takeW (i := 9) rfl (by kernel_rfl) (by kernel_rfl) (by kernel_rfl) (fun _ _ _ h => h) (by rfl) (by assumption) (fun W hW => exec_neF (u := x) (v := y) rfl rfl rfl) ?_; (try simp only [Act.put, List.setIfInBounds_toArray, List.set_cons_zero, List.set_cons_succ]))
              refine wpAnyH_done (by kernel_rfl) ?_ _
              clear hHeld
              by_cases hxy : x = y
              · rw [show (!decide (x = y)) = false by simp [hxy]]
                have HJ2 : Hid (CmpJ base g n cap L w i (k + (q + 1)) W2.drew) := by
                  refine ⟨by omega, by omega, R, HR.out.1, ?_, ?_, HO.out, HG.out⟩
                  · show _ = compL (L.take (k + q + 1))
                    rw [HST.out, if_pos hxy.symm]; exact HR.out.2.1
                  · show R.drop (k + q) = L.drop (k + q)
                    rw [show k + q = (k + q - 1) + 1 by omega, ← List.drop_drop, HR.out.2.2, List.drop_drop]
                clear hxy HST
                go_wp2
                go_roundw
                case rel => exact ⟨i, q + 1, by omega, by omega, by go_num, rfl, HJ2⟩
                case measure => simp [intOf]; omega
              · rw [show (!decide (x = y)) = true by simp [hxy]]
                have HSR : Hid (∀ W4, W4.ownsRow base 39 7 (.slice (some ⟨g, 0, none⟩) n cap) n ((R.set i x).flatMap encF) → W2.drew.grownBy W4 (some g) → CmpJ base g n cap L w (i + 1) (k + (q + 1)) W4) := fun W4 h1 h2 => by
                  refine ⟨by omega, by omega, R.set i x, by rw [List.length_set]; exact HR.out.1, ?_, ?_, h1, grow_trans HG.out h2⟩
                  · show _ = compL (L.take (k + q + 1))
                    rw [HST.out, if_neg (fun e => hxy e.symm), ← HR.out.2.1]
                    have := HR.out.1
                    rw [take_snoc (x := x) (by rw [List.getElem?_set_self (by omega)]), List.take_set_of_le (Nat.le_refl _)]
                  · show (R.set i x).drop (k + q) = L.drop (k + q)
                    rw [List.drop_set_of_lt (by omega), show k + q = (k + q - 1) + 1 by omega, ← List.drop_drop, HR.out.2.2, List.drop_drop]
                have hin : i < n := by omega
                have hi1a : (0 : Int) ≤ (i : Int) := by omega
                have hi1b : (i : Int) < (n : Int) := by omega
                clear hxy HST
                go_wp2_with (first | ((with_reducible show wpList _ _ _ (Oper.mk (some 50) _ _ _ _ _ :: _) _ _); refine wpList_loadW W33 rfl rfl rfl (encF x) rfl hS.1.out ?_) | ((with_reducible show wpList _ _ _ (Oper.mk none (Op.store 39 _ _) _ _ _ _ :: _) _ _); refine wpList_storeOwn W33 encF_len encF_one HR.out.1 HO.out rfl rfl rfl rfl hin ?_; intro W4 h4 hg4; have HJ4 := Lib.hid (HSR.out W4 h4 hg4); clear h4 hg4))
                go_roundw
                case rel => exact ⟨i + 1, q + 1, by omega, by omega, by go_num, by go_num, HJ4⟩
                case measure => simp [intOf]; omega
            · obtain rfl : q = n - k := by omega
              have HO := Lib.hid hO
              have hin : i ≤ n := by omega
              have HEQ : Hid (R.take i = compL L) := by
                show _ = _
                rw [hR2, List.take_of_length_le (by have := HN.out; omega)]
              have HRL := Lib.hid hR1
              have HG := Lib.hid hG
              have hne2 : ¬ cap = i := by omega
              have hcc : i ≤ cap := by omega
              have hltn : decide (((n - k : Nat) : Int) < ((n - k : Nat) : Int)) = false := by simp
              clear hO hG hR1 hR2 hR3 hlt2
              go_wp2_with ((with_reducible show wpList _ _ _ (Oper.mk none (Op.call _) _ _ _ _ :: _) _ _); refine wpList_clear rfl rfl HRL.out HO.out hin rfl ?_; intro w4 ho4 hg4; have HO4 := Lib.hid ho4; have HG4 := Lib.hid hg4; clear ho4 hg4)
              refine HP.out _ _ _ HEQ.out (grow_trans HG.out HG4.out) ?_ (by rw [List.length_take, HRL.out]; omega)
              have := owns_cut encF_len (k := i) (by simp [HRL.out]; omega) hin HO4.out
              rwa [List.take_append_of_le_length (by rw [List.length_take, HRL.out]; omega), List.take_of_length_le (by rw [List.length_take, HRL.out]; omega)] at this
        · rw [show (decide (x = y)) = false by simp [hxy]]
          have HT2 : Hid (compL (L.take (k + 1)) = L.take (k + 1)) := by show _ = _; rw [HST.out, if_neg (fun e => hxy e.symm), HT.out, take_snoc HX.out]
          have HB2 : Hid (Below w.heap.size w W1.drew) := HB.out.drew
          clear hxy HST HT HO HGW
          go_wp2
          go_roundw
          case rel => exact ⟨k + 1, by omega, by omega, by go_num, HT2, HB2⟩
          case measure => simp [intOf]; omega
      · obtain rfl : n = k := by omega
        have HE : Hid (L = compL L) := by
          have := HT.out
          rw [List.take_of_length_le (by have := HN.out; omega)] at this
          exact this.symm
        have HG := Lib.hid (grow_none (row := some g) HB.out)
        have HO := Lib.hid (ow_below HV.out HB.out)
        clear HT
        go_wp2
        exact HP.out _ _ _ HE.out HG.out HO.out HN.out
end Go.Proofs.Ytkinhhkodaacjaa
