/- Faults in slices: Clone, Equal, SortFunc, few. slices.Equal at faults; few. -/
import Derived.Test.YtkinhhkodaacjaaP1
import Derived.Test.YtkinhhkodaacjaaShelf
import Derived.Test.YtkinhhkodaacjaaSortK
import Derived.Test.YtkinhhkodaacjaaLA
import Derived.Test.YtkinhhkodaacjaaM8
import Derived.Laws.StructEq
import Derived.MapKept
import Derived.IntWalk
namespace Go.Proofs.Ytkinhhkodaacjaa
open Go.RowKit Go.Shelf

noncomputable def zF : Value := ((Try.prog.info? 39).bind (fun i => i.zero)).getD (.bool false)
theorem E26 : Elem Try.prog 28 39 zF 7 56 := ⟨Try.underlying28, by kernel_rfl, by kernel_rfl, by decide, by decide⟩
theorem F26 : Flat Try.prog 28 := ⟨⟨_, Try.underlying28, rfl⟩, by kernel_rfl⟩
theorem equalF' (x y : Fa) (w : World) : (Op.equalIn 10000 39 (.agg (encF x).toArray) (.agg (encF y).toArray)).run Try.prog w = .ok (decide (x = y)) w := by
  have u3 := Try.underlying3
  have a3 := Try.isAgg3
  have z3 := Try.sizeOf3
  have hS : Try.prog.underlying 39 = some (.struct (Try.prog.fieldsOf 39)) := by kernel_rfl
  have hp : Try.prog.stoodInHeld 39 = false := by kernel_rfl
  unfold encF
  rw [show (10000 : Nat) = 9999 + 1 from rfl, run_equalIn_agg w 9999 39 _ _ hS hp]
  simp only [Program.fieldsOf, Try.underlying39]
  go_simp
  obtain ⟨k, n, c, r, s, a, b⟩ := x
  obtain ⟨k', n', c', r', s', a', b'⟩ := y
  simp only [Fa.mk.injEq]
  by_cases h1 : k = k'
  · by_cases h2 : n = n'
    · by_cases h3 : c = c'
      · by_cases h4 : r = r'
        · by_cases h5 : s = s'
          · by_cases h6 : a = a'
            · by_cases h7 : b = b' <;> simp [h1, h2, h3, h4, h5, h6, h7]
            · simp [h1, h2, h3, h4, h5, h6]
          · simp [h1, h2, h3, h4, h5]
        · simp [h1, h2, h3, h4]
      · simp [h1, h2, h3]
    · simp [h1, h2]
  · simp [h1]
theorem eqF (x y : Fa) (w : World) : (binOp .eql 39 (.agg (encF x).toArray) (.agg (encF y).toArray)).run Try.prog w = .ok (.bool (decide (x = y))) w := by
  rw [run_eql_struct, equalF']; rfl
theorem neF (x y : Fa) (w : World) : (binOp .neq 39 (.agg (encF x).toArray) (.agg (encF y).toArray)).run Try.prog w = .ok (.bool (!decide (x = y))) w := by
  rw [run_neq_struct, equalF']; rfl
theorem exec_eqF {w : World} {o : Oper} {ac : Act} {x y : Operand} {ty : TypeId} {u v : Fa} (ho : o.op = .binOp .eql 39 x y ty) (hx : ac.eval x = .agg (encF u).toArray) (hy : ac.eval y = .agg (encF v).toArray) : (execOp ac.eval o).run Try.prog w = .ok (.value (.bool (decide (u = v)))) w := by
  have hg : Try.prog.eqGuardType Try.prog.depth 39 = false := by kernel_rfl
  simp [execOp, ho, hx, hy, run_eqGuard_agg w _ _ _ _ _ _ hg, eqF, Result.andThen]
theorem exec_neF {w : World} {o : Oper} {ac : Act} {x y : Operand} {ty : TypeId} {u v : Fa} (ho : o.op = .binOp .neq 39 x y ty) (hx : ac.eval x = .agg (encF u).toArray) (hy : ac.eval y = .agg (encF v).toArray) : (execOp ac.eval o).run Try.prog w = .ok (.value (.bool (!decide (u = v)))) w := by
  have hg : Try.prog.eqGuardType Try.prog.depth 39 = false := by kernel_rfl
  simp [execOp, ho, hx, hy, run_eqGuard_agg w _ _ _ _ _ _ hg, neF, Result.andThen]
theorem ltOfF (x y : Fa) : ltOf cmpF x y = decide (cmpF x y < 0) := rfl
theorem swoF : Sort.SWO (ltOf cmpF) where
  irrefl x := by rw [ltOfF, cmpF_self]; rfl
  trans x y z h1 h2 := by rw [ltOfF, decide_eq_true_eq] at *; exact cmpF_lt h1 (by omega)
  ntrans x y z h1 h2 := by
    rw [ltOfF, decide_eq_false_iff_not] at *
    have e1 := cmpF_swap x y
    have e2 := cmpF_swap y z
    have e3 := cmpF_swap x z
    have := @cmpF_le z y x (by omega) (by omega)
    omega
instance : Inhabited Fa := ⟨⟨0, 0, 0, 0, 0, 0, 0⟩⟩
theorem sort_any (l : List Fa) (v : Value) (B : Nat) (w0 w : World) (hb : Below B w0 w) (hB : B ≤ w.heap.size) (hl : l.length ≤ 16384)
    (h : w.ownsRow B 39 7 v l.length (l.flatMap encF)) :
    Calls Try.prog 59 #[v, .func (.func 60) #[] #[]] w fun r w' =>
      r = .returned (.tuple #[]) ∧ (∃ m : List Fa, m.Perm l ∧ m.Pairwise (fun x y => cmpF x y ≤ 0) ∧ w'.ownsRow B 39 7 v m.length (m.flatMap encF)) ∧ Below B w0 w' := by
  have := sort_ownK Try.sortFa Try.isAgg39 Try.sizeOf39 encF_len (by decide) encF_one cmpF swoF 60 (enters_of Try.func60 (by kernel_rfl) rfl) compare_any l 39 v B w0 w hb hB (by omega) h
  refine this.mono fun r w' ⟨he, ⟨m, hp, hs, ho⟩, hb'⟩ => ⟨he, ⟨m, hp, hs.imp fun {a b} hab => ?_, by rw [hp.length_eq]; exact ho⟩, hb'⟩
  rw [ltOfF, decide_eq_false_iff_not] at hab
  have := cmpF_swap a b
  omega
end Go.Proofs.Ytkinhhkodaacjaa
namespace Go.Proofs.Ytkinhhkodaacjaa
open Go.RowKit Go.Shelf

set_option maxRecDepth 100000 in
set_option maxHeartbeats 1600000 in
theorem equal_any (v u : Value) (l m : List Fa) (w : World) (hv : Rd encF 7 w v l) (hu : Rd encF 7 w u m) :
    Calls Try.prog 45 #[v, u] w fun e w' => e = .returned (.bool (decide (l = m))) ∧ Below w.heap.size w w' := by
  have HP : Hid (∀ b w', (b = true ↔ l = m) → Below w.heap.size w w' → (fun e w' => e = Ending.returned (.bool (decide (l = m))) ∧ Below w.heap.size w w') (.returned (.bool b)) w') := fun b w' hb h => ⟨by rw [show decide (l = m) = b from by cases b <;> simp_all], h⟩
  generalize (fun e w' => e = Ending.returned (.bool (decide (l = m))) ∧ Below w.heap.size w w') = R at *
  have HV := Lib.hid hv
  have HU := Lib.hid hu
  obtain ⟨a, cap, rfl, hcap, hcm, hlen⟩ := hv.shape
  obtain ⟨a2, cap2, rfl, hcap2, hcm2, hlen2⟩ := hu.shape
  clear hv hu
  by_cases hne : l.length = m.length
  · obtain ⟨n, hn⟩ : ∃ n, n = l.length := ⟨_, rfl⟩
    rw [← hne] at hcap2 HU
    rw [← hne]
    rw [← hn] at hcap hcap2 hlen HV HU
    rw [← hn]
    have HN := Lib.hid hn
    have HM := Lib.hid hne
    have hnn : ((n : Int) == (n : Int)) = true := by simp
    clear hn hne hlen2
    go_enter Try.func45, Try.ntmps45
    go_wp2_with fail
    go_loopw [13] (fun i wr => ∃ k : Nat, k ≤ n ∧ i = .int .i64 k ∧ Hid (l.take k = m.take k) ∧ Hid (Below w.heap.size w wr)) (fun i _ => n - (intOf i).toNat)
    case atStart => exact ⟨0, by omega, rfl, rfl, Below.refl _ _⟩
    case round =>
      obtain ⟨k, hk, rfl, HT, HW⟩ := hrel
      obtain ⟨W1, rfl⟩ : ∃ W1 : World, W1 = wr := ⟨_, rfl⟩
      by_cases hlt : k < n
      · obtain ⟨x, hx⟩ : ∃ x, l[k]? = some x := ⟨_, List.getElem?_eq_getElem (by have := HN.out; omega)⟩
        obtain ⟨y, hy⟩ : ∃ y, m[k]? = some y := ⟨_, List.getElem?_eq_getElem (by have := HN.out; have := HM.out; omega)⟩
        obtain ⟨bl, ol, rfl, hbl, hc⟩ := (HV.out.below HW.out).row (by rintro rfl; simp at hx)
        obtain ⟨bm, om, rfl, hbm, hd⟩ := (HU.out.below HW.out).row (by rintro rfl; simp at hy)
        have hS : Hid (∀ j u, (encF x)[j]? = some u → W1.drew.cell? ⟨bl, ol + k * 7 + j, none⟩ = some u) ∧ Hid (∀ j u, (encF y)[j]? = some u → W1.drew.cell? ⟨bm, om + k * 7 + j, none⟩ = some u) := ⟨hc k x hx, hd k y hy⟩
        have HTX := Lib.hid (take_snoc hx)
        have HTY := Lib.hid (take_snoc hy)
        have HXY : Hid (l = m → x = y) := fun e => by subst e; rw [hx] at hy; simpa using hy
        have hlt2 : (k : Int) < (n : Int) := by omega
        clear hx hy hc hd
        go_upto_region 6 with fail
        refine wp_region_held_drew (S := fun X => Hid (∀ j u, (encF x)[j]? = some u → X.cell? ⟨bl, ol + k * 7 + j, none⟩ = some u) ∧ Hid (∀ j u, (encF y)[j]? = some u → X.cell? ⟨bm, om + k * 7 + j, none⟩ = some u)) (by kernel_rfl) hS (fun hHeld => ?_)
        (refine takeW (i := 0) (v := ?_) rfl (by kernel_rfl) (by kernel_rfl) (by kernel_rfl) (fun _ _ _ h => h) (by rfl) (by assumption) ?_ ?_; rotate_left; (intro W hW; (try dsimp only at hW); go_simp; try with_reducible rfl); (try simp only [Act.put, List.setIfInBounds_toArray, List.set_cons_zero, List.set_cons_succ]))
        (refine takeW (i := 1) (v := ?_) rfl (by kernel_rfl) (by kernel_rfl) (by kernel_rfl) (fun _ _ _ h => h) (by rfl) (by assumption) ?_ ?_; rotate_left; (intro W hW; (try dsimp only at hW); go_simp; try with_reducible rfl); (try simp only [Act.put, List.setIfInBounds_toArray, List.set_cons_zero, List.set_cons_succ]))
        (refine takeW (i := 2) (v := ?_) rfl (by kernel_rfl) (by kernel_rfl) (by kernel_rfl) (fun _ _ _ h => h) (by rfl) (by assumption) ?_ ?_; rotate_left; (intro W hW; (try dsimp only at hW); go_simp; try with_reducible rfl); (try simp only [Act.put, List.setIfInBounds_toArray, List.set_cons_zero, List.set_cons_succ]))
        (refine takeW (i := 3) rfl (by kernel_rfl) (by kernel_rfl) (by kernel_rfl) (fun _ _ _ h => h) (by rfl) (by assumption) (fun W hW => exec_loadW W33 rfl rfl (cs := encF x) rfl hW.1.out) ?_; (try simp only [Act.put, List.setIfInBounds_toArray, List.set_cons_zero, List.set_cons_succ]))
        (refine takeW (i := 4) (v := ?_) rfl (by kernel_rfl) (by kernel_rfl) (by kernel_rfl) (fun _ _ _ h => h) (by rfl) (by assumption) ?_ ?_; rotate_left; (intro W hW; (try dsimp only at hW); go_simp; try with_reducible rfl); (try simp only [Act.put, List.setIfInBounds_toArray, List.set_cons_zero, List.set_cons_succ]))
        (refine takeW (i := 5) (v := ?_) rfl (by kernel_rfl) (by kernel_rfl) (by kernel_rfl) (fun _ _ _ h => h) (by rfl) (by assumption) ?_ ?_; rotate_left; (intro W hW; (try dsimp only at hW); go_simp; try with_reducible rfl); (try simp only [Act.put, List.setIfInBounds_toArray, List.set_cons_zero, List.set_cons_succ]))
        (refine takeW (i := 6) (v := ?_) rfl (by kernel_rfl) (by kernel_rfl) (by kernel_rfl) (fun _ _ _ h => h) (by rfl) (by assumption) ?_ ?_; rotate_left; (intro W hW; (try dsimp only at hW); go_simp; try with_reducible rfl); (try simp only [Act.put, List.setIfInBounds_toArray, List.set_cons_zero, List.set_cons_succ]))
        (refine takeW (i := 7) rfl (by kernel_rfl) (by kernel_rfl) (by kernel_rfl) (fun _ _ _ h => h) (by rfl) (by assumption) (fun W hW => exec_loadW W33 rfl rfl (cs := encF y) rfl hW.2.out) ?_; (try simp only [Act.put, List.setIfInBounds_toArray, List.set_cons_zero, List.set_cons_succ]))
        (refine takeW (i := 8) rfl (by kernel_rfl) (by kernel_rfl) (by kernel_rfl) (fun _ _ _ h => h) (by rfl) (by assumption) (fun W hW => exec_neF (u := x) (v := y) rfl rfl rfl) ?_; (try simp only [Act.put, List.setIfInBounds_toArray, List.set_cons_zero, List.set_cons_succ]))
        refine wpAnyH_done (by kernel_rfl) ?_ _
        clear hHeld
        by_cases hxy : x = y
        · rw [show (!decide (x = y)) = false by simp [hxy]]
          have HT2 : Hid (l.take (k + 1) = m.take (k + 1)) := by show _ = _; rw [HTX.out, HTY.out, HT.out, hxy]
          clear hxy
          go_wp2
          go_roundw
          case rel => exact ⟨k + 1, by omega, by go_num, HT2, HW.out.drew⟩
          case measure => simp [intOf]; omega
        · rw [show (!decide (x = y)) = true by simp [hxy]]
          have HNE : Hid (l ≠ m) := fun e => hxy (HXY.out e)
          clear hxy
          go_wp2
          exact HP.out _ _ ⟨fun h => (by cases h), fun h => absurd h HNE.out⟩ HW.out.drew
      · obtain rfl : n = k := by omega
        have HE : Hid (l = m) := by
          have h := HT.out
          rw [List.take_of_length_le (by have := HN.out; omega), List.take_of_length_le (by have := HN.out; have := HM.out; omega)] at h
          exact h
        clear hlt hk HT
        go_wp2
        exact HP.out _ _ ⟨fun _ => HE.out, fun _ => rfl⟩ HW.out
  · have hd : ((l.length : Int) == (m.length : Int)) = false := by simp; omega
    have HE : Hid (l ≠ m) := fun e => hne (by rw [e])
    clear hne
    generalize l.length = n1 at *
    generalize m.length = n2 at *
    go_enter Try.func45, Try.ntmps45
    go_wp2
    exact HP.out _ _ ⟨fun h => (by cases h), fun h => absurd h HE.out⟩ (Below.refl _ _)

end Go.Proofs.Ytkinhhkodaacjaa
