/- Drift: the program's and the document's. -/
import Derived.Test.YtkinhhkodaacjaaT8
import Derived.Test.YtkinhhkodaacjaaLA
namespace Go.Proofs.Ytkinhhkodaacjaa
open Go.RowKit Go.Shelf
open Md

def imax3 (u v z : Int) : Int := imax (imax u v) z
theorem run_max_int3 {P : Program} {w : World} (ts : Array TypeId) (t : TypeId) (k k' k'' : IntKind) (x y z : Int) : (Builtin.max_ ts t #[.int k x, .int k' y, .int k'' z]).run P w = .ok (.int k (imax3 x y z)) w := by
  simp [Builtin.max_, Builtin.max2, imax3, imax]
  try rfl
theorem exec_max3 {P : Program} {w : World} {o : Oper} {a : Act} {x y z : Operand} {u v t : Int} {ts : Array TypeId} {k : IntKind} (ho : o.op = .call { callee := .builtin .max, args := #[x, y, z], argTypes := ts }) (hx : a.eval x = .int k u) (hy : a.eval y = .int k v) (hz : a.eval z = .int k t) : (execOp a.eval o).run P w = .ok (.value (.int k (imax3 u v t))) w := by
  unfold execOp
  simp only [ho, resolve, invoke, builtin, Sem.run_bind, Sem.run_pure, Result.andThen_ok, List.map_toArray, List.map_cons, List.map_nil, hx, hy, hz, run_max_int3]
theorem imax3_gt (u v z b : Int) : b < imax3 u v z ↔ b < u ∨ b < v ∨ b < z := by unfold imax3 imax; split <;> split <;> omega
/-- What Drift tells. -/
def drV (x : Sc) (n k j : Int) : Int := if x.drifts.l = [] ∨ k < 0 ∨ j < 0 ∨ n < 1 ∨ 1048576 < k ∨ 1048576 < j ∨ 1048576 < n then 0 else x.drifts.l.getD ((k * n + j).toNat % x.drifts.l.length) 0
theorem drV_in {x : Sc} {n k j : Int} (h0 : x.drifts.l ≠ []) (h1 : 0 ≤ k) (h2 : 0 ≤ j) (h3 : 1 ≤ n) (h4 : k ≤ 1048576) (h5 : j ≤ 1048576) (h6 : n ≤ 1048576) : drV x n k j = x.drifts.l.getD ((k * n + j).toNat % x.drifts.l.length) 0 := by
  unfold drV
  rw [if_neg]
  rintro (h | h | h | h | h | h | h)
  · exact h0 h
  all_goals omega
set_option maxRecDepth 100000 in
set_option maxHeartbeats 1600000 in
theorem rdrift_any (x : Sc) (n k j : Int) (w : World) (hx : GoodSc w x) : Calls Try.prog 18 #[.agg (encSc x).toArray, .int .i64 n, .int .i64 k, .int .i64 j] w fun e w' => e = .returned (.int .i64 (drV x n k j)) ∧ Below w.heap.size w w' := by
  have HP : Hid (∀ z w', z = drV x n k j → Below w.heap.size w w' → (fun e w' => e = Ending.returned (.int .i64 (drV x n k j)) ∧ Below w.heap.size w w') (.returned (.int .i64 z)) w') := fun z w' hz hb => ⟨by rw [hz], hb⟩
  generalize (fun e w' => e = Ending.returned (.int .i64 (drV x n k j)) ∧ Below w.heap.size w w') = POST at *
  have HB := Lib.hid (below1 w (.cells (encSc x).toArray 30))
  have HX : Hid (Blk (w.alloc (.cells (encSc x).toArray 30)) w.heap.size 30 (encSc x).toArray) := Blk.new' rfl
  have HD := Lib.hid (hx.drifts.1.below HB.out)
  have hlen := hx.drifts.1.len
  clear hx
  go_enter Try.func18, Try.ntmps18
  go_upto_region 1 with fail
  change Code.wp _ _ _ _ (w.alloc (.cells (encSc x).toArray 30))
  generalize w.alloc (.cells (encSc x).toArray 30) = W0 at *
  have c5 : W0.cell? ⟨w.heap.size, 5, none⟩ = some (.slice x.drifts.a x.drifts.l.length x.drifts.c) := HX.out.list0 rfl
  clear HX
  by_cases h0 : x.drifts.l = []
  · have HZ : Hid ((0 : Int) = drV x n k j) := by show _ = _; unfold drV; rw [if_pos (.inl h0)]
    rw [show x.drifts.l.length = 0 by rw [h0]; rfl] at c5
    clear h0 HD
    go_wp2
    exact HP.out _ _ HZ.out HB.out
  have hpos : 0 < x.drifts.l.length := List.length_pos_iff.2 h0
  obtain ⟨L, hL⟩ : ∃ L, x.drifts.l.length = L := ⟨_, rfl⟩
  rw [hL] at c5 hpos hlen HD
  have HL := Lib.hid hL
  have H0 := Lib.hid h0
  clear hL h0
  have eL : ((L : Int) == 0) = false := by simp; omega
  have eL2 : (L == 0) = false := by simp; omega
  have eL3 : ¬ L = 0 := by omega
  have eL4 : ¬ (L : Int) = 0 := by omega
  by_cases h1 : k < 0
  · have HZ : Hid ((0 : Int) = drV x n k j) := by show _ = _; unfold drV; rw [if_pos (.inr (.inl h1))]
    have dh1 : decide (k < 0) = true := by simpa using h1
    clear HD H0
    go_wp2
    exact HP.out _ _ HZ.out HB.out
  have dh1 : decide (k < 0) = false := by simpa using h1
  by_cases h2 : j < 0
  · have HZ : Hid ((0 : Int) = drV x n k j) := by show _ = _; unfold drV; rw [if_pos (.inr (.inr (.inl h2)))]
    have dh2 : decide (j < 0) = true := by simpa using h2
    clear HD H0
    go_wp2
    exact HP.out _ _ HZ.out HB.out
  have dh2 : decide (j < 0) = false := by simpa using h2
  by_cases h3 : n < 1
  · have HZ : Hid ((0 : Int) = drV x n k j) := by show _ = _; unfold drV; rw [if_pos (.inr (.inr (.inr (.inl h3))))]
    have dh3 : decide (n < 1) = true := by simpa using h3
    clear HD H0
    go_wp2
    exact HP.out _ _ HZ.out HB.out
  have dh3 : decide (n < 1) = false := by simpa using h3
  by_cases h4 : 1048576 < k
  · have HZ : Hid ((0 : Int) = drV x n k j) := by show _ = _; unfold drV; rw [if_pos (.inr (.inr (.inr (.inr (.inl h4)))))]
    have dh4 : decide (1048576 < k) = true := by simpa using h4
    clear HD H0
    go_wp2
    exact HP.out _ _ HZ.out HB.out
  have dh4 : decide (1048576 < k) = false := by simpa using h4
  by_cases h5 : 1048576 < j
  · have HZ : Hid ((0 : Int) = drV x n k j) := by show _ = _; unfold drV; rw [if_pos (.inr (.inr (.inr (.inr (.inr (.inl h5))))))]
    have dh5 : decide (1048576 < j) = true := by simpa using h5
    clear HD H0
    go_wp2
    exact HP.out _ _ HZ.out HB.out
  have dh5 : decide (1048576 < j) = false := by simpa using h5
  by_cases h6 : 1048576 < n
  · have HZ : Hid ((0 : Int) = drV x n k j) := by show _ = _; unfold drV; rw [if_pos (.inr (.inr (.inr (.inr (.inr (.inr h6))))))]
    have dh6 : decide (1048576 < n) = true := by simpa using h6
    clear HD H0
    go_wp2
    exact HP.out _ _ HZ.out HB.out
  have dh6 : decide (1048576 < n) = false := by simpa using h6
  have hb : k ≤ 1048576 ∧ j ≤ 1048576 ∧ n ≤ 1048576 := by omega
  obtain ⟨K, rfl⟩ : ∃ K : Nat, k = K := ⟨k.toNat, by omega⟩
  obtain ⟨J, rfl⟩ : ∃ J : Nat, j = J := ⟨j.toNat, by omega⟩
  obtain ⟨M, rfl⟩ : ∃ M : Nat, n = M := ⟨n.toNat, by omega⟩
  have hKM : K * M ≤ 1048576 * 1048576 := Nat.mul_le_mul (by omega) (by omega)
  obtain ⟨q, hq⟩ : ∃ q, K * M = q := ⟨_, rfl⟩
  rw [hq] at hKM
  have hw1 : IntKind.i64.wrap ((K : Int) * (M : Int)) = (q : Int) := by rw [← Int.natCast_mul, hq]; exact IntWalk.i64_in _ (by omega)
  have hw2 : IntKind.i64.wrap ((q : Int) + (J : Int)) = ((q + J : Nat) : Int) := by rw [← Int.natCast_add]; exact IntWalk.i64_in _ (by omega)
  have hrm : (((q + J : Nat) : Int)).tmod (L : Int) = (((q + J) % L : Nat) : Int) := by rw [Int.tmod_eq_emod_of_nonneg (by omega)]; rfl
  have hrm2 : (((q + J : Nat) : Int)) % (L : Int) = (((q + J) % L : Nat) : Int) := rfl
  have hrl : (q + J) % L < L := Nat.mod_lt _ hpos
  have HZ : Hid (x.drifts.l.getD ((q + J) % L) 0 = drV x (M : Int) (K : Int) (J : Int)) := by show _ = _; rw [drV_in H0.out (by omega) (by omega) (by omega) hb.1 hb.2.1 hb.2.2, HL.out, ← hq]; congr 2
  clear hq
  generalize hrq : (q + J) % L = rq at *
  clear hrq
  generalize q + J = qj at *
  obtain ⟨b, off, hda, hbl, hc⟩ := HD.out.row (by intro e; exact H0.out e)
  rw [hda] at c5
  have e5 : W0.cell? ⟨b, off + rq, none⟩ = some (.int .i64 (x.drifts.l.getD rq 0)) := hc.int (by rw [HL.out]; exact hrl)
  generalize x.drifts.l.getD rq 0 = res at *
  clear hc hbl HD H0 HL hda
  have hrl2 : (rq : Int) < (L : Int) := by omega
  have hS : Hid (W0.drew.cell? ⟨w.heap.size, 5, none⟩ = some (.slice (some ⟨b, off, none⟩) L x.drifts.c) ∧ W0.drew.cell? ⟨b, off + rq, none⟩ = some (.int .i64 res)) := ⟨c5, e5⟩
  go_upto_region 3 with fail
  refine wp_region_held_drew (S := fun X => Hid (X.cell? ⟨w.heap.size, 5, none⟩ = some (.slice (some ⟨b, off, none⟩) L x.drifts.c) ∧ X.cell? ⟨b, off + rq, none⟩ = some (.int .i64 res))) (by kernel_rfl) hS (fun hHeld => ?_)
  (refine takeW (i := 0) (v := ?_) rfl (by kernel_rfl) (by kernel_rfl) (by kernel_rfl) (fun _ _ _ h => h) (by rfl) (by assumption) ?_ ?_; rotate_left; (intro W hW; (try dsimp only at hW); go_simp; try with_reducible rfl); (try simp only [Act.put, List.setIfInBounds_toArray, List.set_cons_zero, List.set_cons_succ]))
  (refine takeW (i := 1) rfl (by kernel_rfl) (by kernel_rfl) (by kernel_rfl) (fun _ _ _ h => h) (by rfl) (by assumption) (fun W hW => exec_load1 FL26 rfl rfl hW.out.1) ?_; (try simp only [Act.put, List.setIfInBounds_toArray, List.set_cons_zero, List.set_cons_succ]))
  (refine takeW (i := 2) (v := ?_) rfl (by kernel_rfl) (by kernel_rfl) (by kernel_rfl) (fun _ _ _ h => h) (by rfl) (by assumption) ?_ ?_; rotate_left; (intro W hW; (try dsimp only at hW); go_simp; try with_reducible rfl); (try simp only [Act.put, List.setIfInBounds_toArray, List.set_cons_zero, List.set_cons_succ]))
  (refine takeW (i := 3) (v := ?_) rfl (by kernel_rfl) (by kernel_rfl) (by kernel_rfl) (fun _ _ _ h => h) (by rfl) (by assumption) ?_ ?_; rotate_left; (intro W hW; (try dsimp only at hW); go_simp; try with_reducible rfl); (try simp only [Act.put, List.setIfInBounds_toArray, List.set_cons_zero, List.set_cons_succ]))
  (refine takeW (i := 4) (v := ?_) rfl (by kernel_rfl) (by kernel_rfl) (by kernel_rfl) (fun _ _ _ h => h) (by rfl) (by assumption) ?_ ?_; rotate_left; (intro W hW; (try dsimp only at hW); go_simp; try with_reducible rfl); (try simp only [Act.put, List.setIfInBounds_toArray, List.set_cons_zero, List.set_cons_succ]))
  (refine takeW (i := 5) (v := ?_) rfl (by kernel_rfl) (by kernel_rfl) (by kernel_rfl) (fun _ _ _ h => h) (by rfl) (by assumption) ?_ ?_; rotate_left; (intro W hW; (try dsimp only at hW); go_simp; try with_reducible rfl); (try simp only [Act.put, List.setIfInBounds_toArray, List.set_cons_zero, List.set_cons_succ]))
  (refine takeW (i := 6) (v := ?_) rfl (by kernel_rfl) (by kernel_rfl) (by kernel_rfl) (fun _ _ _ h => h) (by rfl) (by assumption) ?_ ?_; rotate_left; (intro W hW; (try dsimp only at hW); go_simp; try with_reducible rfl); (try simp only [Act.put, List.setIfInBounds_toArray, List.set_cons_zero, List.set_cons_succ]))
  (refine takeW (i := 7) (v := ?_) rfl (by kernel_rfl) (by kernel_rfl) (by kernel_rfl) (fun _ _ _ h => h) (by rfl) (by assumption) ?_ ?_; rotate_left; (intro W hW; (try dsimp only at hW); go_simp; try with_reducible rfl); (try simp only [Act.put, List.setIfInBounds_toArray, List.set_cons_zero, List.set_cons_succ]))
  (refine takeW (i := 8) rfl (by kernel_rfl) (by kernel_rfl) (by kernel_rfl) (fun _ _ _ h => h) (by rfl) (by assumption) (fun W hW => exec_load1 FL26 rfl rfl hW.out.1) ?_; (try simp only [Act.put, List.setIfInBounds_toArray, List.set_cons_zero, List.set_cons_succ]))
  (refine takeW (i := 9) (v := ?_) rfl (by kernel_rfl) (by kernel_rfl) (by kernel_rfl) (fun _ _ _ h => h) (by rfl) (by assumption) ?_ ?_; rotate_left; (intro W hW; (try dsimp only at hW); go_simp; try with_reducible rfl); (try simp only [Act.put, List.setIfInBounds_toArray, List.set_cons_zero, List.set_cons_succ]))
  (refine takeW (i := 10) (v := ?_) rfl (by kernel_rfl) (by kernel_rfl) (by kernel_rfl) (fun _ _ _ h => h) (by rfl) (by assumption) ?_ ?_; rotate_left; (intro W hW; (try dsimp only at hW); go_simp; try with_reducible rfl); (try simp only [Act.put, List.setIfInBounds_toArray, List.set_cons_zero, List.set_cons_succ]))
  (refine takeW (i := 11) (v := ?_) rfl (by kernel_rfl) (by kernel_rfl) (by kernel_rfl) (fun _ _ _ h => h) (by rfl) (by assumption) ?_ ?_; rotate_left; (intro W hW; (try dsimp only at hW); go_simp; try with_reducible rfl); (try simp only [Act.put, List.setIfInBounds_toArray, List.set_cons_zero, List.set_cons_succ]))
  (refine takeW (i := 12) rfl (by kernel_rfl) (by kernel_rfl) (by kernel_rfl) (fun _ _ _ h => h) (by rfl) (by assumption) (fun W hW => exec_load1 FL3 rfl rfl hW.out.2) ?_; (try simp only [Act.put, List.setIfInBounds_toArray, List.set_cons_zero, List.set_cons_succ]))
  (refine takeW (i := 13) (v := ?_) rfl (by kernel_rfl) (by kernel_rfl) (by kernel_rfl) (fun _ _ _ h => h) (by rfl) (by assumption) ?_ ?_; rotate_left; (intro W hW; (try dsimp only at hW); go_simp; try with_reducible rfl); (try simp only [Act.put, List.setIfInBounds_toArray, List.set_cons_zero, List.set_cons_succ]))
  refine wpAnyH_done (by kernel_rfl) ?_ _
  clear hHeld hS
  go_wp2
  exact HP.out _ _ HZ.out HB.out.drew
set_option maxRecDepth 100000 in
set_option maxHeartbeats 1600000 in
theorem drift_any (x : Sc) (n k j : Int) (w : World) (hx : GoodSc w x) : Calls Try.prog 17 #[.agg (encSc x).toArray, .int .i64 n, .int .i64 k, .int .i64 j] w fun e w' => e = .returned (.int .i64 (drV x n k j)) ∧ Below w.heap.size w w' := by
  have HP : Hid (∀ z w', z = drV x n k j → Below w.heap.size w w' → (fun e w' => e = Ending.returned (.int .i64 (drV x n k j)) ∧ Below w.heap.size w w') (.returned (.int .i64 z)) w') := fun z w' hz hb => ⟨by rw [hz], hb⟩
  generalize (fun e w' => e = Ending.returned (.int .i64 (drV x n k j)) ∧ Below w.heap.size w w') = POST at *
  have HB := Lib.hid (below1 w (.cells (encSc x).toArray 30))
  have HX : Hid (Blk (w.alloc (.cells (encSc x).toArray 30)) w.heap.size 30 (encSc x).toArray) := Blk.new' rfl
  have HD := Lib.hid (hx.drifts.1.below HB.out)
  have hlen := hx.drifts.1.len
  clear hx
  go_enter Try.func17, Try.ntmps17
  go_upto_region 1 with fail
  change Code.wp _ _ _ _ (w.alloc (.cells (encSc x).toArray 30))
  generalize w.alloc (.cells (encSc x).toArray 30) = W0 at *
  have c5 : W0.cell? ⟨w.heap.size, 5, none⟩ = some (.slice x.drifts.a x.drifts.l.length x.drifts.c) := HX.out.list0 rfl
  clear HX
  by_cases h0 : x.drifts.l = []
  · have HZ : Hid ((0 : Int) = drV x n k j) := by show _ = _; unfold drV; rw [if_pos (.inl h0)]
    rw [show x.drifts.l.length = 0 by rw [h0]; rfl] at c5
    clear h0 HD
    go_wp2
    exact HP.out _ _ HZ.out HB.out
  have hpos : 0 < x.drifts.l.length := List.length_pos_iff.2 h0
  obtain ⟨L, hL⟩ : ∃ L, x.drifts.l.length = L := ⟨_, rfl⟩
  rw [hL] at c5 hpos hlen HD
  have HL := Lib.hid hL
  have H0 := Lib.hid h0
  clear hL h0
  have eL : ((L : Int) == 0) = false := by simp; omega
  have eL2 : (L == 0) = false := by simp; omega
  have eL3 : ¬ L = 0 := by omega
  have eL4 : ¬ (L : Int) = 0 := by omega
  by_cases h1 : k < 0
  · have HZ : Hid ((0 : Int) = drV x n k j) := by show _ = _; unfold drV; rw [if_pos (.inr (.inl h1))]
    have dh1 : decide (k < 0) = true := by simpa using h1
    clear HD H0
    go_wp2
    exact HP.out _ _ HZ.out HB.out
  have dh1 : decide (k < 0) = false := by simpa using h1
  by_cases h2 : j < 0
  · have HZ : Hid ((0 : Int) = drV x n k j) := by show _ = _; unfold drV; rw [if_pos (.inr (.inr (.inl h2)))]
    have dh2 : decide (j < 0) = true := by simpa using h2
    clear HD H0
    go_wp2
    exact HP.out _ _ HZ.out HB.out
  have dh2 : decide (j < 0) = false := by simpa using h2
  by_cases h3 : n < 1
  · have HZ : Hid ((0 : Int) = drV x n k j) := by show _ = _; unfold drV; rw [if_pos (.inr (.inr (.inr (.inl h3))))]
    have dh3 : decide (n < 1) = true := by simpa using h3
    clear HD H0
    go_wp2
    exact HP.out _ _ HZ.out HB.out
  have dh3 : decide (n < 1) = false := by simpa using h3
  have HMX := Lib.hid (fun (o : Oper) (a : Act) (w : World) (x1 y1 z1 : Operand) (ts : Array TypeId) (ho : o.op = .call { callee := .builtin .max, args := #[x1, y1, z1], argTypes := ts }) (hx : a.eval x1 = .int .i64 k) (hy : a.eval y1 = .int .i64 j) (hz : a.eval z1 = .int .i64 n) => exec_max3 (P := Try.prog) (w := w) ho hx hy hz)
  by_cases h4 : 1048576 < imax3 k j n
  · have hc : x.drifts.l = [] ∨ k < 0 ∨ j < 0 ∨ n < 1 ∨ 1048576 < k ∨ 1048576 < j ∨ 1048576 < n := by have := (imax3_gt k j n 1048576).1 h4; omega
    have HZ : Hid ((0 : Int) = drV x n k j) := by show _ = _; unfold drV; exact (if_pos hc).symm
    have dh4 : decide (1048576 < imax3 k j n) = true := by simpa using h4
    clear HD H0 hc
    generalize imax3 k j n = mx at *
    go_wp2_with (refine wpList_val rfl (HMX.out _ _ _ _ _ _ _ rfl rfl rfl rfl) ?_)
    exact HP.out _ _ HZ.out HB.out
  have hb : k ≤ 1048576 ∧ j ≤ 1048576 ∧ n ≤ 1048576 := by have := mt (imax3_gt k j n 1048576).2 h4; omega
  have dh4 : decide (1048576 < imax3 k j n) = false := by simpa using h4
  generalize imax3 k j n = mx at *
  obtain ⟨K, rfl⟩ : ∃ K : Nat, k = K := ⟨k.toNat, by omega⟩
  obtain ⟨J, rfl⟩ : ∃ J : Nat, j = J := ⟨j.toNat, by omega⟩
  obtain ⟨M, rfl⟩ : ∃ M : Nat, n = M := ⟨n.toNat, by omega⟩
  have hKM : K * M ≤ 1048576 * 1048576 := Nat.mul_le_mul (by omega) (by omega)
  obtain ⟨q, hq⟩ : ∃ q, K * M = q := ⟨_, rfl⟩
  rw [hq] at hKM
  have hw1 : IntKind.i64.wrap ((K : Int) * (M : Int)) = (q : Int) := by rw [← Int.natCast_mul, hq]; exact IntWalk.i64_in _ (by omega)
  have hw2 : IntKind.i64.wrap ((q : Int) + (J : Int)) = ((q + J : Nat) : Int) := by rw [← Int.natCast_add]; exact IntWalk.i64_in _ (by omega)
  have hrm : (((q + J : Nat) : Int)).tmod (L : Int) = (((q + J) % L : Nat) : Int) := by rw [Int.tmod_eq_emod_of_nonneg (by omega)]; rfl
  have hrm2 : (((q + J : Nat) : Int)) % (L : Int) = (((q + J) % L : Nat) : Int) := rfl
  have hrl : (q + J) % L < L := Nat.mod_lt _ hpos
  have HZ : Hid (x.drifts.l.getD ((q + J) % L) 0 = drV x (M : Int) (K : Int) (J : Int)) := by show _ = _; rw [drV_in H0.out (by omega) (by omega) (by omega) hb.1 hb.2.1 hb.2.2, HL.out, ← hq]; congr 2
  clear hq
  generalize hrq : (q + J) % L = rq at *
  clear hrq
  generalize q + J = qj at *
  obtain ⟨b, off, hda, hbl, hc⟩ := HD.out.row (by intro e; exact H0.out e)
  rw [hda] at c5
  have e5 : W0.cell? ⟨b, off + rq, none⟩ = some (.int .i64 (x.drifts.l.getD rq 0)) := hc.int (by rw [HL.out]; exact hrl)
  generalize x.drifts.l.getD rq 0 = res at *
  clear hc hbl HD H0 HL hda
  have hrl2 : (rq : Int) < (L : Int) := by omega
  have hS : Hid (W0.drew.cell? ⟨w.heap.size, 5, none⟩ = some (.slice (some ⟨b, off, none⟩) L x.drifts.c) ∧ W0.drew.cell? ⟨b, off + rq, none⟩ = some (.int .i64 res)) := ⟨c5, e5⟩
  go_upto_region 3 with (refine wpList_val rfl (HMX.out _ _ _ _ _ _ _ rfl rfl rfl rfl) ?_)
  refine wp_region_held_drew (S := fun X => Hid (X.cell? ⟨w.heap.size, 5, none⟩ = some (.slice (some ⟨b, off, none⟩) L x.drifts.c) ∧ X.cell? ⟨b, off + rq, none⟩ = some (.int .i64 res))) (by kernel_rfl) hS (fun hHeld => ?_)
  (refine takeW (i := 0) (v := ?_) rfl (by kernel_rfl) (by kernel_rfl) (by kernel_rfl) (fun _ _ _ h => h) (by rfl) (by assumption) ?_ ?_; rotate_left; (intro W hW; (try dsimp only at hW); go_simp; try with_reducible rfl); (try simp only [Act.put, List.setIfInBounds_toArray, List.set_cons_zero, List.set_cons_succ]))
  (refine takeW (i := 1) rfl (by kernel_rfl) (by kernel_rfl) (by kernel_rfl) (fun _ _ _ h => h) (by rfl) (by assumption) (fun W hW => exec_load1 FL26 rfl rfl hW.out.1) ?_; (try simp only [Act.put, List.setIfInBounds_toArray, List.set_cons_zero, List.set_cons_succ]))
  (refine takeW (i := 2) (v := ?_) rfl (by kernel_rfl) (by kernel_rfl) (by kernel_rfl) (fun _ _ _ h => h) (by rfl) (by assumption) ?_ ?_; rotate_left; (intro W hW; (try dsimp only at hW); go_simp; try with_reducible rfl); (try simp only [Act.put, List.setIfInBounds_toArray, List.set_cons_zero, List.set_cons_succ]))
  (refine takeW (i := 3) (v := ?_) rfl (by kernel_rfl) (by kernel_rfl) (by kernel_rfl) (fun _ _ _ h => h) (by rfl) (by assumption) ?_ ?_; rotate_left; (intro W hW; (try dsimp only at hW); go_simp; try with_reducible rfl); (try simp only [Act.put, List.setIfInBounds_toArray, List.set_cons_zero, List.set_cons_succ]))
  (refine takeW (i := 4) (v := ?_) rfl (by kernel_rfl) (by kernel_rfl) (by kernel_rfl) (fun _ _ _ h => h) (by rfl) (by assumption) ?_ ?_; rotate_left; (intro W hW; (try dsimp only at hW); go_simp; try with_reducible rfl); (try simp only [Act.put, List.setIfInBounds_toArray, List.set_cons_zero, List.set_cons_succ]))
  (refine takeW (i := 5) (v := ?_) rfl (by kernel_rfl) (by kernel_rfl) (by kernel_rfl) (fun _ _ _ h => h) (by rfl) (by assumption) ?_ ?_; rotate_left; (intro W hW; (try dsimp only at hW); go_simp; try with_reducible rfl); (try simp only [Act.put, List.setIfInBounds_toArray, List.set_cons_zero, List.set_cons_succ]))
  (refine takeW (i := 6) (v := ?_) rfl (by kernel_rfl) (by kernel_rfl) (by kernel_rfl) (fun _ _ _ h => h) (by rfl) (by assumption) ?_ ?_; rotate_left; (intro W hW; (try dsimp only at hW); go_simp; try with_reducible rfl); (try simp only [Act.put, List.setIfInBounds_toArray, List.set_cons_zero, List.set_cons_succ]))
  (refine takeW (i := 7) (v := ?_) rfl (by kernel_rfl) (by kernel_rfl) (by kernel_rfl) (fun _ _ _ h => h) (by rfl) (by assumption) ?_ ?_; rotate_left; (intro W hW; (try dsimp only at hW); go_simp; try with_reducible rfl); (try simp only [Act.put, List.setIfInBounds_toArray, List.set_cons_zero, List.set_cons_succ]))
  (refine takeW (i := 8) rfl (by kernel_rfl) (by kernel_rfl) (by kernel_rfl) (fun _ _ _ h => h) (by rfl) (by assumption) (fun W hW => exec_load1 FL26 rfl rfl hW.out.1) ?_; (try simp only [Act.put, List.setIfInBounds_toArray, List.set_cons_zero, List.set_cons_succ]))
  (refine takeW (i := 9) (v := ?_) rfl (by kernel_rfl) (by kernel_rfl) (by kernel_rfl) (fun _ _ _ h => h) (by rfl) (by assumption) ?_ ?_; rotate_left; (intro W hW; (try dsimp only at hW); go_simp; try with_reducible rfl); (try simp only [Act.put, List.setIfInBounds_toArray, List.set_cons_zero, List.set_cons_succ]))
  (refine takeW (i := 10) (v := ?_) rfl (by kernel_rfl) (by kernel_rfl) (by kernel_rfl) (fun _ _ _ h => h) (by rfl) (by assumption) ?_ ?_; rotate_left; (intro W hW; (try dsimp only at hW); go_simp; try with_reducible rfl); (try simp only [Act.put, List.setIfInBounds_toArray, List.set_cons_zero, List.set_cons_succ]))
  (refine takeW (i := 11) (v := ?_) rfl (by kernel_rfl) (by kernel_rfl) (by kernel_rfl) (fun _ _ _ h => h) (by rfl) (by assumption) ?_ ?_; rotate_left; (intro W hW; (try dsimp only at hW); go_simp; try with_reducible rfl); (try simp only [Act.put, List.setIfInBounds_toArray, List.set_cons_zero, List.set_cons_succ]))
  (refine takeW (i := 12) rfl (by kernel_rfl) (by kernel_rfl) (by kernel_rfl) (fun _ _ _ h => h) (by rfl) (by assumption) (fun W hW => exec_load1 FL3 rfl rfl hW.out.2) ?_; (try simp only [Act.put, List.setIfInBounds_toArray, List.set_cons_zero, List.set_cons_succ]))
  (refine takeW (i := 13) (v := ?_) rfl (by kernel_rfl) (by kernel_rfl) (by kernel_rfl) (fun _ _ _ h => h) (by rfl) (by assumption) ?_ ?_; rotate_left; (intro W hW; (try dsimp only at hW); go_simp; try with_reducible rfl); (try simp only [Act.put, List.setIfInBounds_toArray, List.set_cons_zero, List.set_cons_succ]))
  refine wpAnyH_done (by kernel_rfl) ?_ _
  clear hHeld hS
  go_wp2
  exact HP.out _ _ HZ.out HB.out.drew
end Go.Proofs.Ytkinhhkodaacjaa
