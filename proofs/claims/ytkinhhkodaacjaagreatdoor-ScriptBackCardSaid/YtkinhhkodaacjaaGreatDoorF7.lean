/- Comparison of faults. -/
import Derived.Test.YtkinhhkodaacjaaGreatDoorQ1
import Derived.Test.YtkinhhkodaacjaaGreatDoorF2
import Derived.Test.YtkinhhkodaacjaaGreatDoorLA
import Derived.Test.YtkinhhkodaacjaaGreatDoorM8
import Derived.Laws.StructEq
import Derived.MapKept
import Derived.IntWalk
namespace Go.Proofs.YtkinhhkodaacjaaGreatDoor
open Go.RowKit Go.Shelf

noncomputable def zF : Value := ((Tryz.prog.info? 81).bind (fun i => i.zero)).getD (.bool false)
theorem E26 : Elem Tryz.prog 25 81 zF 7 56 := ⟨Tryz.underlying25, by kernel_rfl, by kernel_rfl, by decide, by decide⟩
theorem F26 : Flat Tryz.prog 25 := ⟨⟨_, Tryz.underlying25, rfl⟩, by kernel_rfl⟩
theorem equalF' (x y : Fa) (w : World) : (Op.equalIn 10000 81 (.agg (encF x).toArray) (.agg (encF y).toArray)).run Tryz.prog w = .ok (decide (x = y)) w := by
  have u3 := Tryz.underlying3
  have a3 := Tryz.isAgg3
  have z3 := Tryz.sizeOf3
  have hS : Tryz.prog.underlying 81 = some (.struct (Tryz.prog.fieldsOf 81)) := by kernel_rfl
  have hp : Tryz.prog.stoodInHeld 81 = false := by kernel_rfl
  unfold encF
  rw [show (10000 : Nat) = 9999 + 1 from rfl, run_equalIn_agg w 9999 81 _ _ hS hp]
  simp only [Program.fieldsOf, Tryz.underlying81]
  go_simp
  obtain ⟨k, n, c, r, s, a, b⟩ := x
  obtain ⟨k', n', c', r', s', a', b'⟩ := y
  simp only [Fa.mk.injEq]
  by_cases h1 : k = k'
  · by_cases h2 : n = n'
    · by_cases h3 : c = c'
      · by_cases h4 : r = r'
        · by_cases h5 : s = s'
          · by_cases h6 : a = a'
            · by_cases h7 : b = b' <;> simp [h1, h2, h3, h4, h5, h6, h7]
            · simp [h1, h2, h3, h4, h5, h6]
          · simp [h1, h2, h3, h4, h5]
        · simp [h1, h2, h3, h4]
      · simp [h1, h2, h3]
    · simp [h1, h2]
  · simp [h1]
theorem eqF (x y : Fa) (w : World) : (binOp .eql 81 (.agg (encF x).toArray) (.agg (encF y).toArray)).run Tryz.prog w = .ok (.bool (decide (x = y))) w := by
  rw [run_eql_struct, equalF']; rfl
theorem neF (x y : Fa) (w : World) : (binOp .neq 81 (.agg (encF x).toArray) (.agg (encF y).toArray)).run Tryz.prog w = .ok (.bool (!decide (x = y))) w := by
  rw [run_neq_struct, equalF']; rfl
theorem exec_eqF {w : World} {o : Oper} {ac : Act} {x y : Operand} {ty : TypeId} {u v : Fa} (ho : o.op = .binOp .eql 81 x y ty) (hx : ac.eval x = .agg (encF u).toArray) (hy : ac.eval y = .agg (encF v).toArray) : (execOp ac.eval o).run Tryz.prog w = .ok (.value (.bool (decide (u = v)))) w := by
  have hg : Tryz.prog.eqGuardType Tryz.prog.depth 81 = false := by kernel_rfl
  simp [execOp, ho, hx, hy, run_eqGuard_agg w _ _ _ _ _ _ hg, eqF, Result.andThen]
theorem exec_neF {w : World} {o : Oper} {ac : Act} {x y : Operand} {ty : TypeId} {u v : Fa} (ho : o.op = .binOp .neq 81 x y ty) (hx : ac.eval x = .agg (encF u).toArray) (hy : ac.eval y = .agg (encF v).toArray) : (execOp ac.eval o).run Tryz.prog w = .ok (.value (.bool (!decide (u = v)))) w := by
  have hg : Tryz.prog.eqGuardType Tryz.prog.depth 81 = false := by kernel_rfl
  simp [execOp, ho, hx, hy, run_eqGuard_agg w _ _ _ _ _ _ hg, neF, Result.andThen]
end Go.Proofs.YtkinhhkodaacjaaGreatDoor
