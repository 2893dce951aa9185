/- queue.Less; what only makes memory. -/
import Derived.Test.YtbmnecdkjkffdaaE2
import Derived.Deep.DeepMust
namespace Go.Proofs.Ytbmnecdkjkffdaa
open Go.RowKit

/-- Memory was made, and the order drawn: nothing else. -/
def Gw (w w' : World) : Prop := ∃ q os', w' = Sort.grow (w.drewN q) os'
theorem Gw.refl (w : World) : Gw w w := ⟨0, #[], by simp [Sort.grow]; rfl⟩
theorem Gw.block {w w' : World} (h : Gw w w') {k : Nat} (hk : k < w.heap.size) : w'.heap[k]? = w.heap[k]? := by
  obtain ⟨q, os', rfl⟩ := h
  rw [Sort.heap_grow_old _ _ (by simpa using hk)]
  rfl
theorem Gw.size {w w' : World} (h : Gw w w') : w.heap.size ≤ w'.heap.size := by
  obtain ⟨q, os', rfl⟩ := h
  simp
theorem Gw.below {w w' : World} (h : Gw w w') (B : Nat) (hB : B ≤ w.heap.size) : Below B w w' := by
  have h1 := @Gw.block _ _ h
  have h2 := h.size
  obtain ⟨q, os', rfl⟩ := h
  exact ⟨rfl, rfl, rfl, h2, fun k hk => h1 (Nat.lt_of_lt_of_le hk hB)⟩
theorem Gw.trans {w w' w'' : World} (h : Gw w w') (h' : Gw w' w'') : Gw w w'' := by
  obtain ⟨q, os', rfl⟩ := h
  obtain ⟨q', os'', rfl⟩ := h'
  exact ⟨q + q', os' ++ os'', by simp [Sort.grow, World.drewN, Nat.add_assoc]⟩
theorem Gw.alloc {w w' : World} (h : Gw w w') (o : Obj) : Gw w (w'.alloc o) := by
  refine h.trans ⟨0, #[o], ?_⟩
  rw [Sort.alloc_eq_grow]; rfl
theorem Gw.drew {w w' : World} (h : Gw w w') : Gw w w'.drew := h.trans ⟨1, #[], by simp [Sort.grow]; rfl⟩
def ltE (x y : Ev) : Bool := decide (cmpE x y < 0)

set_option maxRecDepth 100000 in
set_option maxHeartbeats 800000 in
theorem less_any (x y : Ev) (w : World) : Calls Try.prog 20 #[.agg (encE x).toArray, .agg (encE y).toArray] w fun e w' => e = .returned (.bool (ltE x y)) ∧ Gw w w' := by
  have hcon := fun W => compare_any x y W
  have HLT : Hid (ltE x y = decide (cmpE x y < 0)) := rfl
  have HG : Hid (∀ q os', Gw w (Sort.grow (((w.alloc (.cells #[.int .i64 x.a, .int .i64 x.k, .int .i64 x.n, .int .i64 x.m] 31)).alloc (.cells #[.int .i64 y.a, .int .i64 y.k, .int .i64 y.n, .int .i64 y.m] 31)).drewN q) os')) :=
    fun q os' => (((Gw.refl w).alloc _).alloc _).trans ⟨q, os', rfl⟩
  unfold encE at *
  generalize cmpE x y = r at *
  generalize ltE x y = b at *
  go_enter Try.func20, Try.ntmps20
  go_wp2_with (go_at_call 31; refine (hcon _).mono ?_; go_must (rintro e w' ⟨rfl, q, os', hw'⟩; have HG2 := Lib.hid (HG.out q os'); rw [← hw'] at HG2; clear hw'))
  go_ret
  exact ⟨ret_bool HLT.out.symm, HG2.out⟩
end Go.Proofs.Ytbmnecdkjkffdaa
