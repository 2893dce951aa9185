/- min and max of two integers, each under one name. (Text of no seat: Ytkinhhkodaacjaa stands for the seat's name.) -/
import Derived.Test.YtkinhhkodaacjaaAgg
namespace Go.Proofs.Ytkinhhkodaacjaa
open Go.RowKit

def imin (x y : Int) : Int := if y < x then y else x
def imax (x y : Int) : Int := if x < y then y else x
theorem imin_eq (x y : Int) : imin x y = min x y := by unfold imin; split <;> omega
theorem imax_eq (x y : Int) : imax x y = max x y := by unfold imax; split <;> omega
theorem imin_le (x y : Int) : imin x y ≤ x ∧ imin x y ≤ y ∧ (imin x y = x ∨ imin x y = y) := by unfold imin; split <;> omega
theorem imax_le (x y : Int) : x ≤ imax x y ∧ y ≤ imax x y ∧ (imax x y = x ∨ imax x y = y) := by unfold imax; split <;> omega
section
variable {P : Program} {w : World} {o : Oper} {a : Act} {x y : Operand} {u v : Int} {ts : Array TypeId} {k : IntKind}
theorem exec_min (ho : o.op = .call { callee := .builtin .min, args := #[x, y], argTypes := ts }) (hx : a.eval x = .int k u) (hy : a.eval y = .int k v) : (execOp a.eval o).run P w = .ok (.value (.int k (imin u v))) w := by
  unfold execOp
  simp only [ho, resolve, invoke, builtin, Sem.run_bind, Sem.run_pure, Result.andThen_ok, List.map_toArray, List.map_cons, List.map_nil, hx, hy, run_min_int2]
  rfl
variable {ops : Array Oper} {rest : List Oper} {Q : Exit → Act → World → Prop} {F : Fence} {nF : Nat}
theorem wpList_min (ho : o.op = .call { callee := .builtin .min, args := #[x, y], argTypes := ts }) (hw : Region.wanted o (yielded ops a.tmps) = true) (hx : a.eval x = .int k u) (hy : a.eval y = .int k v) (hK : wpList P ops Q rest (a.put o.dst (.int k (imin u v))) w) : wpList P ops Q (o :: rest) a w :=
  wpList_val hw (exec_min ho hx hy) hK
theorem wpListIn_min (ho : o.op = .call { callee := .builtin .min, args := #[x, y], argTypes := ts }) (hw : Region.wanted o (yielded ops a.tmps) = true) (hx : a.eval x = .int k u) (hy : a.eval y = .int k v) (hK : wpListIn F nF P ops Q rest (a.put o.dst (.int k (imin u v))) w) : wpListIn F nF P ops Q (o :: rest) a w :=
  wpListIn_val hw (by simp [Oper.about, ho, resolve, Target.leads, Sem.run_pure]) (by rw [ho]; simp) (exec_min ho hx hy) hK
theorem exec_max (ho : o.op = .call { callee := .builtin .max, args := #[x, y], argTypes := ts }) (hx : a.eval x = .int k u) (hy : a.eval y = .int k v) : (execOp a.eval o).run P w = .ok (.value (.int k (imax u v))) w := by
  unfold execOp
  simp only [ho, resolve, invoke, builtin, Sem.run_bind, Sem.run_pure, Result.andThen_ok, List.map_toArray, List.map_cons, List.map_nil, hx, hy, run_max_int2]
  rfl
theorem wpList_max (ho : o.op = .call { callee := .builtin .max, args := #[x, y], argTypes := ts }) (hw : Region.wanted o (yielded ops a.tmps) = true) (hx : a.eval x = .int k u) (hy : a.eval y = .int k v) (hK : wpList P ops Q rest (a.put o.dst (.int k (imax u v))) w) : wpList P ops Q (o :: rest) a w :=
  wpList_val hw (exec_max ho hx hy) hK
end
end Go.Proofs.Ytkinhhkodaacjaa
