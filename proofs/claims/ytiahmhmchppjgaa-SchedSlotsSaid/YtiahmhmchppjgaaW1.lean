/- Contracts of the small functions of chapter 6: Check, both, Meets, Within, of the program and of the document. -/
import Derived.Test.YtiahmhmchppjgaaRows
import Derived.Test.YtiahmhmchppjgaaPlain
import Derived.Test.YtiahmhmchppjgaaOwn
import Derived.WalkKit
import Derived.WalkSpells
import Derived.WalkLawsBesides
import Derived.Deep.QuietTactic
import Derived.BigQuiet
import Derived.Shelf.Abstract
import Derived.Laws.StructEq
namespace Go.Proofs.Ytiahmhmchppjgaa
open Go.RowKit Go.Shelf
open Sched (Sp bad)

theorem ret_bool {a b : Bool} (h : a = b) : Ending.returned (.bool a) = .returned (.bool b) := by rw [h]
theorem ret_int {k : IntKind} {a b : Int} (h : a = b) : Ending.returned (.int k a) = .returned (.int k b) := by rw [h]

/-- A span as a value. -/
def spv (s : Sp) : Value := .agg #[.int .i64 s.1, .int .i64 s.2]
def chk (s : Sp) : Int := if bad s then 60 else 0
def I64 (x : Int) : Prop := -9223372036854775808 ≤ x ∧ x ≤ 9223372036854775807

theorem bcell {W w1 : World} (hb : Below W.heap.size W w1) : ∀ b o, b < W.heap.size → w1.cell? ⟨b, o, none⟩ = W.cell? ⟨b, o, none⟩ :=
  fun b o h => hb.cell (p := ⟨b, o, none⟩) h

/-- One call behind the other. -/
theorem bt {w w1 w2 : World} (h : Below w.heap.size w w1) (h' : Below w1.heap.size w1 w2) : Below w.heap.size w w2 := h.trans (h'.mono h.size)

theorem below1 (w : World) (o : Obj) : Below w.heap.size w (w.alloc o) := (Below.refl _ _).alloc (Nat.le_refl _) o
theorem below2 (w : World) (o o' : Obj) : Below w.heap.size w ((w.alloc o).alloc o') := (below1 w o).alloc (by simp) o'

theorem bad_iff (f t : Int) : bad (f, t) = true ↔ f < 0 ∨ t < f ∨ 1099511627776 < t := by simp [bad, or_assoc]
theorem chk_bad {f t : Int} (h : f < 0 ∨ t < f ∨ 1099511627776 < t) : chk (f, t) = 60 := if_pos ((bad_iff f t).2 h)
theorem chk_ok {f t : Int} (h : ¬ (f < 0 ∨ t < f ∨ 1099511627776 < t)) : chk (f, t) = 0 := if_neg fun h' => h ((bad_iff f t).1 h')

theorem check_any (f t : Int) (w : World) :
    Calls Try.prog 12 #[spv (f, t)] w fun e w' => e = .returned (.int .i64 (chk (f, t))) ∧ Below w.heap.size w w' := by
  unfold spv
  go_enter Try.func12, Try.ntmps12
  go_wp2
  all_goals go_ret
  all_goals refine ⟨ret_int ?_, below1 _ _⟩
  all_goals first | (rw [chk_bad (by omega)]) | (rw [chk_ok (by omega)])
theorem rcheck_any (f t : Int) (w : World) :
    Calls Try.prog 20 #[spv (f, t)] w fun e w' => e = .returned (.int .i64 (chk (f, t))) ∧ Below w.heap.size w w' := by
  unfold spv
  go_enter Try.func20, Try.ntmps20
  go_wp2
  all_goals go_ret
  all_goals refine ⟨ret_int ?_, below1 _ _⟩
  all_goals first | (rw [chk_bad (by omega)]) | (rw [chk_ok (by omega)])

theorem chk_zero (s : Sp) : (chk s == 0) = !bad s := by
  unfold chk
  cases bad s <;> rfl

theorem both_any (f t g u : Int) (w : World) :
    Calls Try.prog 38 #[spv (f, t), spv (g, u)] w fun e w' => e = .returned (.bool (!bad (f, t) && !bad (g, u))) ∧ Below w.heap.size w w' := by
  have h1 := check_any f t
  have h2 := check_any g u
  have z1 := chk_zero (f, t)
  have z2 := chk_zero (g, u)
  unfold spv at *
  generalize chk (f, t) = x at *
  generalize chk (g, u) = y at *
  generalize bad (f, t) = p at *
  generalize bad (g, u) = q at *
  cases p
  · go_enter Try.func38, Try.ntmps38
    go_wp2_with fail
    refine (h1 _).mono ?_
    rintro e w1 ⟨rfl, hb1⟩
    have hc1 := bcell hb1
    have b1 := bt (below2 w _ _) hb1
    go_wp2_with fail
    refine (h2 _).mono ?_
    rintro e w2 ⟨rfl, hb2⟩
    clear hc1
    go_wp2
    go_ret
    exact ⟨ret_bool (by simp), bt b1 hb2⟩
  · go_enter Try.func38, Try.ntmps38
    go_wp2_with fail
    refine (h1 _).mono ?_
    rintro e w1 ⟨rfl, hb1⟩
    go_wp2
    go_ret
    exact ⟨rfl, bt (below2 w _ _) hb1⟩

/-- Two spans have a moment in common. -/
def meets (a b : Sp) : Bool := !bad a && !bad b && decide (a.1 < b.2) && decide (b.1 < a.2) && decide (a.1 < a.2) && decide (b.1 < b.2)
/-- A span lies in another one. -/
def within (a b : Sp) : Bool := !bad a && !bad b && decide (b.1 ≤ a.1) && decide (a.2 ≤ b.2)

theorem meets_any (f t g u : Int) (w : World) :
    Calls Try.prog 10 #[spv (f, t), spv (g, u)] w fun e w' => e = .returned (.bool (meets (f, t) (g, u))) ∧ Below w.heap.size w w' := by
  have h1 := both_any f t g u
  unfold spv at *
  have HM : Hid (meets (f, t) (g, u) = (!bad (f, t) && !bad (g, u) && decide (f < u) && decide (g < t) && decide (f < t) && decide (g < u))) := rfl
  generalize (!bad (f, t) && !bad (g, u)) = p at *
  cases p
  · go_enter Try.func10, Try.ntmps10
    go_wp2_with fail
    refine (h1 _).mono ?_
    rintro e w1 ⟨rfl, hb1⟩
    go_wp2
    go_ret
    exact ⟨ret_bool (by rw [HM.out]; simp), bt (below2 w _ _) hb1⟩
  · go_enter Try.func10, Try.ntmps10
    go_wp2_with fail
    refine (h1 _).mono ?_
    rintro e w1 ⟨rfl, hb1⟩
    have hc1 := bcell hb1
    go_wp2
    all_goals go_ret
    all_goals refine ⟨ret_bool ?_, bt (below2 w _ _) hb1⟩
    all_goals (rw [HM.out]; simp; try omega)

theorem rmeets_any (f t g u : Int) (w : World) :
    Calls Try.prog 21 #[spv (f, t), spv (g, u)] w fun e w' => e = .returned (.bool (meets (f, t) (g, u))) ∧ Below w.heap.size w w' := by
  have h1 := rcheck_any f t
  have h2 := rcheck_any g u
  have z1 := chk_zero (f, t)
  have z2 := chk_zero (g, u)
  unfold spv at *
  have HM : Hid (meets (f, t) (g, u) = (!bad (f, t) && !bad (g, u) && decide (f < u) && decide (g < t) && decide (f < t) && decide (g < u))) := rfl
  generalize chk (f, t) = x at *
  generalize chk (g, u) = y at *
  generalize bad (f, t) = p at *
  generalize bad (g, u) = q at *
  cases p
  · go_enter Try.func21, Try.ntmps21
    go_wp2_with fail
    refine (h1 _).mono ?_
    rintro e w1 ⟨rfl, hb1⟩
    have hc1 := bcell hb1
    have b1 := bt (below2 w _ _) hb1
    go_wp2_with fail
    refine (h2 _).mono ?_
    rintro e w2 ⟨rfl, hb2⟩
    have hc2 := bcell (bt hb1 hb2)
    have b2 := bt b1 hb2
    clear hc1
    cases q
    · go_wp2
      all_goals go_ret
      all_goals refine ⟨ret_bool ?_, b2⟩
      all_goals (rw [HM.out]; simp only [Bool.not_false, Bool.true_and])
      all_goals (rw [Bool.eq_iff_iff]; simp only [decide_eq_true_eq, Bool.and_eq_true]; omega)
    · go_wp2
      go_ret
      exact ⟨ret_bool (by rw [HM.out]; simp), b2⟩
  · go_enter Try.func21, Try.ntmps21
    go_wp2_with fail
    refine (h1 _).mono ?_
    rintro e w1 ⟨rfl, hb1⟩
    go_wp2
    go_ret
    exact ⟨ret_bool (by rw [HM.out]; simp), bt (below2 w _ _) hb1⟩

theorem guardSp : Try.prog.eqGuardType Try.prog.depth 23 = false := by kernel_rfl
theorem equalSp (f t g u : Int) (w : World) : (Op.equalIn 10000 23 (.agg #[.int .i64 f, .int .i64 t]) (.agg #[.int .i64 g, .int .i64 u])).run Try.prog w = .ok (f == g && t == u) w := by
  have u2 := Try.underlying2
  have a2 := Try.isAgg2
  have z2 := Try.sizeOf2
  have hS : Try.prog.underlying 23 = some (.struct (Try.prog.fieldsOf 23)) := by kernel_rfl
  have hp : Try.prog.stoodInHeld 23 = false := by kernel_rfl
  rw [show (10000 : Nat) = 9999 + 1 from rfl, run_equalIn_agg w 9999 23 _ _ hS hp]
  simp only [Program.fieldsOf, Try.underlying23]
  go_simp
  by_cases h1 : f = g <;> by_cases h2 : t = u <;> simp [h1, h2]
theorem eqSp (f t g u : Int) (w : World) : (binOp .eql 23 (.agg #[.int .i64 f, .int .i64 t]) (.agg #[.int .i64 g, .int .i64 u])).run Try.prog w = .ok (.bool (f == g && t == u)) w := by
  rw [run_eql_struct, equalSp]; rfl
theorem neSp (f t g u : Int) (w : World) : (binOp .neq 23 (.agg #[.int .i64 f, .int .i64 t]) (.agg #[.int .i64 g, .int .i64 u])).run Try.prog w = .ok (.bool (!(f == g && t == u))) w := by
  rw [run_neq_struct, equalSp]; rfl

theorem rwithin_any (f t g u : Int) (w : World) :
    Calls Try.prog 22 #[spv (f, t), spv (g, u)] w fun e w' => e = .returned (.bool (within (f, t) (g, u))) ∧ Below w.heap.size w w' := by
  have h1 := rcheck_any f t
  have h2 := rcheck_any g u
  have z1 := chk_zero (f, t)
  have z2 := chk_zero (g, u)
  unfold spv at *
  have HM : Hid (within (f, t) (g, u) = (!bad (f, t) && !bad (g, u) && decide (g ≤ f) && decide (t ≤ u))) := rfl
  generalize chk (f, t) = x at *
  generalize chk (g, u) = y at *
  generalize bad (f, t) = p at *
  generalize bad (g, u) = q at *
  cases p
  · go_enter Try.func22, Try.ntmps22
    go_wp2_with fail
    refine (h1 _).mono ?_
    rintro e w1 ⟨rfl, hb1⟩
    have hc1 := bcell hb1
    have b1 := bt (below2 w _ _) hb1
    go_wp2_with fail
    refine (h2 _).mono ?_
    rintro e w2 ⟨rfl, hb2⟩
    have hc2 := bcell (bt hb1 hb2)
    have b2 := bt b1 hb2
    clear hc1
    cases q
    · go_wp2
      all_goals go_ret
      all_goals refine ⟨ret_bool ?_, b2⟩
      all_goals (rw [HM.out]; simp only [Bool.not_false, Bool.true_and])
      all_goals (rw [Bool.eq_iff_iff]; simp only [decide_eq_true_eq, Bool.and_eq_true]; simp; try omega)
    · go_wp2
      go_ret
      exact ⟨ret_bool (by rw [HM.out]; simp), b2⟩
  · go_enter Try.func22, Try.ntmps22
    go_wp2_with fail
    refine (h1 _).mono ?_
    rintro e w1 ⟨rfl, hb1⟩
    go_wp2
    go_ret
    exact ⟨ret_bool (by rw [HM.out]; simp), bt (below2 w _ _) hb1⟩

theorem within_any (f t g u : Int) (w : World) :
    Calls Try.prog 11 #[spv (f, t), spv (g, u)] w fun e w' => e = .returned (.bool (within (f, t) (g, u))) ∧ Below w.heap.size w w' := by
  have h1 := check_any f t
  have h2 := both_any f t g u
  have z1 := chk_zero (f, t)
  have heq := eqSp f t g u
  have hgd := guardSp
  unfold spv at *
  have HM : Hid (within (f, t) (g, u) = (!bad (f, t) && !bad (g, u) && decide (g ≤ f) && decide (t ≤ u))) := rfl
  have HB : Hid (f = g → t = u → bad (f, t) = bad (g, u)) := by rintro rfl rfl; rfl
  generalize chk (f, t) = x at *
  generalize bad (f, t) = p at *
  generalize bad (g, u) = q at *
  by_cases he : f = g ∧ t = u
  · obtain ⟨rfl, rfl⟩ := he
    have hpq : p = q := HB.out rfl rfl
    subst hpq
    cases p
    · go_enter Try.func11, Try.ntmps11
      go_wp2_with fail
      refine (h1 _).mono ?_
      rintro e w1 ⟨rfl, hb1⟩
      have hc1 := bcell hb1
      have b1 := bt (below2 w _ _) hb1
      go_wp2_with fail
      go_ret
      exact ⟨ret_bool (by rw [HM.out]; simp), b1⟩
    · go_enter Try.func11, Try.ntmps11
      go_wp2_with fail
      refine (h1 _).mono ?_
      rintro e w1 ⟨rfl, hb1⟩
      have hc1 := bcell hb1
      have b1 := bt (below2 w _ _) hb1
      go_wp2_with fail
      refine (h2 _).mono ?_
      rintro e w2 ⟨rfl, hb2⟩
      go_wp2
      go_ret
      exact ⟨ret_bool (by rw [HM.out]; simp), bt b1 hb2⟩
  · have hne : (f == g && t == u) = false := by
      rw [Bool.eq_false_iff]; simpa using he
    clear he HB
    generalize (!p && !q) = r at *
    cases r
    · go_enter Try.func11, Try.ntmps11
      go_wp2_with fail
      refine (h2 _).mono ?_
      rintro e w1 ⟨rfl, hb1⟩
      have hc1 := bcell hb1
      have b1 := bt (below2 w _ _) hb1
      go_wp2_with fail
      go_ret
      exact ⟨ret_bool (by rw [HM.out]; simp), b1⟩
    · go_enter Try.func11, Try.ntmps11
      go_wp2_with fail
      refine (h2 _).mono ?_
      rintro e w1 ⟨rfl, hb1⟩
      have hc1 := bcell hb1
      have b1 := bt (below2 w _ _) hb1
      go_wp2
      all_goals go_ret
      all_goals refine ⟨ret_bool ?_, b1⟩
      all_goals (rw [HM.out]; simp; try omega)
end Go.Proofs.Ytiahmhmchppjgaa
