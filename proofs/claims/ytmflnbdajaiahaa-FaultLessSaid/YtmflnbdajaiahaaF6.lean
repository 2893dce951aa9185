/- Faults in slices: Clone, Equal, SortFunc, few. -/
import Derived.Test.YtmflnbdajaiahaaP1
import Derived.Test.YtmflnbdajaiahaaShelf
import Derived.Test.YtmflnbdajaiahaaSortK
import Derived.Test.YtmflnbdajaiahaaStoreOwn
import Derived.Test.YtmflnbdajaiahaaMm
import Derived.Test.YtmflnbdajaiahaaM8
import Derived.Laws.StructEq
import Derived.MapKept
import Derived.IntWalk
namespace Go.Proofs.Ytmflnbdajaiahaa
open Go.RowKit Go.Shelf

noncomputable def zF : Value := ((Try.prog.info? 33).bind (fun i => i.zero)).getD (.bool false)
theorem E26 : Elem Try.prog 26 33 zF 7 56 := ⟨Try.underlying26, by kernel_rfl, by kernel_rfl, by decide, by decide⟩
theorem F26 : Flat Try.prog 26 := ⟨⟨_, Try.underlying26, rfl⟩, by kernel_rfl⟩
theorem clone_any (l : List Fa) (v : Value) (w : World) (h : Rd encF 7 w v l) (hl : l.length ≤ 16384) :
    Calls Try.prog 15 #[v] w fun e w' => (∃ v', e = .returned v' ∧ w'.ownsRow w.heap.size 33 7 v' l.length (l.flatMap encF)) ∧ Below w.heap.size w w' := by
  have h0 := h
  obtain ⟨a, cap, rfl, h1, h2, h3⟩ := h.shape
  cases a with
  | none =>
    obtain ⟨rfl, _, rfl⟩ := h.none_
    clear h h0
    have hq := fun w : World => Lib.run_eql_slice_nil (P := Try.prog) w 26 33 none 0 0 0 0 Try.underlying26
    go_enter Try.func15, Try.ntmps15
    go_wp2
    go_ret
    exact ⟨⟨_, rfl, by simpa using World.ownsRow_nil _ _ _ _⟩, Below.refl _ _⟩
  | some ad =>
    have hnq := fun w : World => Lib.run_eql_slice_nil (P := Try.prog) w 26 33 (some ad) l.length cap 0 0 Try.underlying26
    have hal : Below w.heap.size w (w.alloc (.cells #[] 33)) := (Below.refl _ _).alloc (Nat.le_refl _) _
    have hs := (h.below hal).src encF_len encF_one (by omega)
    have hown : (w.alloc (.cells #[] 33)).ownsRow w.heap.size 33 7 (.slice (some ⟨w.heap.size, 0, none⟩) 0 0) 0 [] := World.ownsRow_made w #[] 0 (Nat.le_refl _) (by decide) rfl
    clear h h0
    go_enter Try.func15, Try.ntmps15
    go_wp2_with (at_builtin; refine wpList_app E26 rfl _ _ rfl hown hs rfl rfl (by omega) (by simp) ?_; intro v' w1 hown1 hgrow _)
    go_ret
    refine ⟨⟨_, rfl, by simpa using hown1⟩, below_app hal (Nat.le_refl _) hown hgrow (by simp)⟩
theorem equalF' (x y : Fa) (w : World) : (Op.equalIn 10000 33 (.agg (encF x).toArray) (.agg (encF y).toArray)).run Try.prog w = .ok (decide (x = y)) w := by
  have u3 := Try.underlying3
  have a3 := Try.isAgg3
  have z3 := Try.sizeOf3
  have hS : Try.prog.underlying 33 = some (.struct (Try.prog.fieldsOf 33)) := by kernel_rfl
  have hp : Try.prog.stoodInHeld 33 = false := by kernel_rfl
  unfold encF
  rw [show (10000 : Nat) = 9999 + 1 from rfl, run_equalIn_agg w 9999 33 _ _ hS hp]
  simp only [Program.fieldsOf, Try.underlying33]
  go_simp
  obtain ⟨k, n, c, r, s, a, b⟩ := x
  obtain ⟨k', n', c', r', s', a', b'⟩ := y
  simp only [Fa.mk.injEq]
  by_cases h1 : k = k'
  · by_cases h2 : n = n'
    · by_cases h3 : c = c'
      · by_cases h4 : r = r'
        · by_cases h5 : s = s'
          · by_cases h6 : a = a'
            · by_cases h7 : b = b' <;> simp [h1, h2, h3, h4, h5, h6, h7]
            · simp [h1, h2, h3, h4, h5, h6]
          · simp [h1, h2, h3, h4, h5]
        · simp [h1, h2, h3, h4]
      · simp [h1, h2, h3]
    · simp [h1, h2]
  · simp [h1]
theorem eqF (x y : Fa) (w : World) : (binOp .eql 33 (.agg (encF x).toArray) (.agg (encF y).toArray)).run Try.prog w = .ok (.bool (decide (x = y))) w := by
  rw [run_eql_struct, equalF']; rfl
theorem neF (x y : Fa) (w : World) : (binOp .neq 33 (.agg (encF x).toArray) (.agg (encF y).toArray)).run Try.prog w = .ok (.bool (!decide (x = y))) w := by
  rw [run_neq_struct, equalF']; rfl
theorem exec_eqF {w : World} {o : Oper} {ac : Act} {x y : Operand} {ty : TypeId} {u v : Fa} (ho : o.op = .binOp .eql 33 x y ty) (hx : ac.eval x = .agg (encF u).toArray) (hy : ac.eval y = .agg (encF v).toArray) : (execOp ac.eval o).run Try.prog w = .ok (.value (.bool (decide (u = v)))) w := by
  have hg : Try.prog.eqGuardType Try.prog.depth 33 = false := by kernel_rfl
  simp [execOp, ho, hx, hy, run_eqGuard_agg w _ _ _ _ _ _ hg, eqF, Result.andThen]
theorem exec_neF {w : World} {o : Oper} {ac : Act} {x y : Operand} {ty : TypeId} {u v : Fa} (ho : o.op = .binOp .neq 33 x y ty) (hx : ac.eval x = .agg (encF u).toArray) (hy : ac.eval y = .agg (encF v).toArray) : (execOp ac.eval o).run Try.prog w = .ok (.value (.bool (!decide (u = v)))) w := by
  have hg : Try.prog.eqGuardType Try.prog.depth 33 = false := by kernel_rfl
  simp [execOp, ho, hx, hy, run_eqGuard_agg w _ _ _ _ _ _ hg, neF, Result.andThen]
theorem ltOfF (x y : Fa) : ltOf cmpF x y = decide (cmpF x y < 0) := rfl
theorem swoF : Sort.SWO (ltOf cmpF) where
  irrefl x := by rw [ltOfF, cmpF_self]; rfl
  trans x y z h1 h2 := by rw [ltOfF, decide_eq_true_eq] at *; exact cmpF_lt h1 (by omega)
  ntrans x y z h1 h2 := by
    rw [ltOfF, decide_eq_false_iff_not] at *
    have e1 := cmpF_swap x y
    have e2 := cmpF_swap y z
    have e3 := cmpF_swap x z
    have := @cmpF_le z y x (by omega) (by omega)
    omega
instance : Inhabited Fa := ⟨⟨0, 0, 0, 0, 0, 0, 0⟩⟩
theorem sort_any (l : List Fa) (v : Value) (B : Nat) (w0 w : World) (hb : Below B w0 w) (hB : B ≤ w.heap.size) (hl : l.length ≤ 16384)
    (h : w.ownsRow B 33 7 v l.length (l.flatMap encF)) :
    Calls Try.prog 26 #[v, .func (.func 27) #[] #[]] w fun r w' =>
      r = .returned (.tuple #[]) ∧ (∃ m : List Fa, m.Perm l ∧ m.Pairwise (fun x y => cmpF x y ≤ 0) ∧ w'.ownsRow B 33 7 v m.length (m.flatMap encF)) ∧ Below B w0 w' := by
  have := sort_ownK Try.sortFa Try.isAgg33 Try.sizeOf33 encF_len (by decide) encF_one cmpF swoF 27 (enters_of Try.func27 (by kernel_rfl) rfl) compare_any l 33 v B w0 w hb hB (by omega) h
  refine this.mono fun r w' ⟨he, ⟨m, hp, hs, ho⟩, hb'⟩ => ⟨he, ⟨m, hp, hs.imp fun {a b} hab => ?_, by rw [hp.length_eq]; exact ho⟩, hb'⟩
  rw [ltOfF, decide_eq_false_iff_not] at hab
  have := cmpF_swap a b
  omega
end Go.Proofs.Ytmflnbdajaiahaa
