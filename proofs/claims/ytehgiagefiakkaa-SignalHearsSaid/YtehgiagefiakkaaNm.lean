/- Spans put together (Norm), of the program and of the document: contracts, in a namespace of their own. -/
import Derived.Test.YtehgiagefiakkaaRows
import Derived.Test.YtehgiagefiakkaaPlain
import Derived.Test.YtehgiagefiakkaaOwn
import Derived.WalkKit
import Derived.WalkSpells
import Derived.WalkLawsBesides
import Derived.Deep.QuietTactic
import Derived.BigQuiet
import Derived.Shelf.Abstract
import Derived.Laws.StructEq
import Derived.Shelf.SlSortCmp.WholeK
import Derived.Shelf.SlSortCmp.NoneTotal
import Derived.Test.YtehgiagefiakkaaShelf
import Derived.OwnWalk
import Derived.RangeFuncFrom
namespace Go.Proofs.Ytehgiagefiakkaa.Nm
/-! ### W1 -/
section
open Go.RowKit Go.Shelf
open Sched (Sp bad)

theorem ret_bool {a b : Bool} (h : a = b) : Ending.returned (.bool a) = .returned (.bool b) := by rw [h]
theorem ret_int {k : IntKind} {a b : Int} (h : a = b) : Ending.returned (.int k a) = .returned (.int k b) := by rw [h]

/-- A span as a value. -/
def spv (s : Sp) : Value := .agg #[.int .i64 s.1, .int .i64 s.2]
def chk (s : Sp) : Int := if bad s then 60 else 0
def I64 (x : Int) : Prop := -9223372036854775808 ≤ x ∧ x ≤ 9223372036854775807

theorem bcell {W w1 : World} (hb : Below W.heap.size W w1) : ∀ b o, b < W.heap.size → w1.cell? ⟨b, o, none⟩ = W.cell? ⟨b, o, none⟩ :=
  fun b o h => hb.cell (p := ⟨b, o, none⟩) h

/-- One call behind the other. -/
theorem bt {w w1 w2 : World} (h : Below w.heap.size w w1) (h' : Below w1.heap.size w1 w2) : Below w.heap.size w w2 := h.trans (h'.mono h.size)

theorem below1 (w : World) (o : Obj) : Below w.heap.size w (w.alloc o) := (Below.refl _ _).alloc (Nat.le_refl _) o
theorem below2 (w : World) (o o' : Obj) : Below w.heap.size w ((w.alloc o).alloc o') := (below1 w o).alloc (by simp) o'

theorem bad_iff (f t : Int) : bad (f, t) = true ↔ f < 0 ∨ t < f ∨ 1099511627776 < t := by simp [bad, or_assoc]
theorem chk_bad {f t : Int} (h : f < 0 ∨ t < f ∨ 1099511627776 < t) : chk (f, t) = 60 := if_pos ((bad_iff f t).2 h)
theorem chk_ok {f t : Int} (h : ¬ (f < 0 ∨ t < f ∨ 1099511627776 < t)) : chk (f, t) = 0 := if_neg fun h' => h ((bad_iff f t).1 h')

theorem check_any (f t : Int) (w : World) :
    Calls Try.prog 38 #[spv (f, t)] w fun e w' => e = .returned (.int .i64 (chk (f, t))) ∧ Below w.heap.size w w' := by
  unfold spv
  go_enter Try.func38, Try.ntmps38
  go_wp2
  all_goals go_ret
  all_goals refine ⟨ret_int ?_, below1 _ _⟩
  all_goals first | (rw [chk_bad (by omega)]) | (rw [chk_ok (by omega)])
theorem rcheck_any (f t : Int) (w : World) :
    Calls Try.prog 25 #[spv (f, t)] w fun e w' => e = .returned (.int .i64 (chk (f, t))) ∧ Below w.heap.size w w' := by
  unfold spv
  go_enter Try.func25, Try.ntmps25
  go_wp2
  all_goals go_ret
  all_goals refine ⟨ret_int ?_, below1 _ _⟩
  all_goals first | (rw [chk_bad (by omega)]) | (rw [chk_ok (by omega)])

theorem chk_zero (s : Sp) : (chk s == 0) = !bad s := by
  unfold chk
  cases bad s <;> rfl

theorem both_any (f t g u : Int) (w : World) :
    Calls Try.prog 55 #[spv (f, t), spv (g, u)] w fun e w' => e = .returned (.bool (!bad (f, t) && !bad (g, u))) ∧ Below w.heap.size w w' := by
  have h1 := check_any f t
  have h2 := check_any g u
  have z1 := chk_zero (f, t)
  have z2 := chk_zero (g, u)
  unfold spv at *
  generalize chk (f, t) = x at *
  generalize chk (g, u) = y at *
  generalize bad (f, t) = p at *
  generalize bad (g, u) = q at *
  cases p
  · go_enter Try.func55, Try.ntmps55
    go_wp2_with fail
    refine (h1 _).mono ?_
    rintro e w1 ⟨rfl, hb1⟩
    have hc1 := bcell hb1
    have b1 := bt (below2 w _ _) hb1
    go_wp2_with fail
    refine (h2 _).mono ?_
    rintro e w2 ⟨rfl, hb2⟩
    clear hc1
    go_wp2
    go_ret
    exact ⟨ret_bool (by simp), bt b1 hb2⟩
  · go_enter Try.func55, Try.ntmps55
    go_wp2_with fail
    refine (h1 _).mono ?_
    rintro e w1 ⟨rfl, hb1⟩
    go_wp2
    go_ret
    exact ⟨rfl, bt (below2 w _ _) hb1⟩

/-- Two spans have a moment in common. -/
def meets (a b : Sp) : Bool := !bad a && !bad b && decide (a.1 < b.2) && decide (b.1 < a.2) && decide (a.1 < a.2) && decide (b.1 < b.2)
/-- A span lies in another one. -/
def within (a b : Sp) : Bool := !bad a && !bad b && decide (b.1 ≤ a.1) && decide (a.2 ≤ b.2)

set_option maxRecDepth 100000 in
theorem meets_any (f t g u : Int) (w : World) :
    Calls Try.prog 46 #[spv (f, t), spv (g, u)] w fun e w' => e = .returned (.bool (meets (f, t) (g, u))) ∧ Below w.heap.size w w' := by
  have h1 := both_any f t g u
  unfold spv at *
  have HM : Hid (meets (f, t) (g, u) = (!bad (f, t) && !bad (g, u) && decide (f < u) && decide (g < t) && decide (f < t) && decide (g < u))) := rfl
  generalize (!bad (f, t) && !bad (g, u)) = p at *
  cases p
  · go_enter Try.func46, Try.ntmps46
    go_wp2_with fail
    refine (h1 _).mono ?_
    rintro e w1 ⟨rfl, hb1⟩
    go_wp2
    go_ret
    exact ⟨ret_bool (by rw [HM.out]; simp), bt (below2 w _ _) hb1⟩
  · go_enter Try.func46, Try.ntmps46
    go_wp2_with fail
    refine (h1 _).mono ?_
    rintro e w1 ⟨rfl, hb1⟩
    have hc1 := bcell hb1
    go_wp2
    all_goals go_ret
    all_goals refine ⟨ret_bool ?_, bt (below2 w _ _) hb1⟩
    all_goals (rw [HM.out]; simp; try omega)

set_option maxRecDepth 100000 in
theorem rmeets_any (f t g u : Int) (w : World) :
    Calls Try.prog 49 #[spv (f, t), spv (g, u)] w fun e w' => e = .returned (.bool (meets (f, t) (g, u))) ∧ Below w.heap.size w w' := by
  have h1 := rcheck_any f t
  have h2 := rcheck_any g u
  have z1 := chk_zero (f, t)
  have z2 := chk_zero (g, u)
  unfold spv at *
  have HM : Hid (meets (f, t) (g, u) = (!bad (f, t) && !bad (g, u) && decide (f < u) && decide (g < t) && decide (f < t) && decide (g < u))) := rfl
  generalize chk (f, t) = x at *
  generalize chk (g, u) = y at *
  generalize bad (f, t) = p at *
  generalize bad (g, u) = q at *
  cases p
  · go_enter Try.func49, Try.ntmps49
    go_wp2_with fail
    refine (h1 _).mono ?_
    rintro e w1 ⟨rfl, hb1⟩
    have hc1 := bcell hb1
    have b1 := bt (below2 w _ _) hb1
    go_wp2_with fail
    refine (h2 _).mono ?_
    rintro e w2 ⟨rfl, hb2⟩
    have hc2 := bcell (bt hb1 hb2)
    have b2 := bt b1 hb2
    clear hc1
    cases q
    · go_wp2
      all_goals go_ret
      all_goals refine ⟨ret_bool ?_, b2⟩
      all_goals (rw [HM.out]; simp only [Bool.not_false, Bool.true_and])
      all_goals (rw [Bool.eq_iff_iff]; simp only [decide_eq_true_eq, Bool.and_eq_true]; omega)
    · go_wp2
      go_ret
      exact ⟨ret_bool (by rw [HM.out]; simp), b2⟩
  · go_enter Try.func49, Try.ntmps49
    go_wp2_with fail
    refine (h1 _).mono ?_
    rintro e w1 ⟨rfl, hb1⟩
    go_wp2
    go_ret
    exact ⟨ret_bool (by rw [HM.out]; simp), bt (below2 w _ _) hb1⟩

theorem guardSp : Try.prog.eqGuardType Try.prog.depth 23 = false := by kernel_rfl
theorem equalSp (f t g u : Int) (w : World) : (Op.equalIn 10000 23 (.agg #[.int .i64 f, .int .i64 t]) (.agg #[.int .i64 g, .int .i64 u])).run Try.prog w = .ok (f == g && t == u) w := by
  have u2 := Try.underlying2
  have a2 := Try.isAgg2
  have z2 := Try.sizeOf2
  have hS : Try.prog.underlying 23 = some (.struct (Try.prog.fieldsOf 23)) := by kernel_rfl
  have hp : Try.prog.stoodInHeld 23 = false := by kernel_rfl
  rw [show (10000 : Nat) = 9999 + 1 from rfl, run_equalIn_agg w 9999 23 _ _ hS hp]
  simp only [Program.fieldsOf, Try.underlying23]
  go_simp
  by_cases h1 : f = g <;> by_cases h2 : t = u <;> simp [h1, h2]
theorem eqSp (f t g u : Int) (w : World) : (binOp .eql 23 (.agg #[.int .i64 f, .int .i64 t]) (.agg #[.int .i64 g, .int .i64 u])).run Try.prog w = .ok (.bool (f == g && t == u)) w := by
  rw [run_eql_struct, equalSp]; rfl
theorem neSp (f t g u : Int) (w : World) : (binOp .neq 23 (.agg #[.int .i64 f, .int .i64 t]) (.agg #[.int .i64 g, .int .i64 u])).run Try.prog w = .ok (.bool (!(f == g && t == u))) w := by
  rw [run_neq_struct, equalSp]; rfl

set_option maxRecDepth 100000 in
theorem rwithin_any (f t g u : Int) (w : World) :
    Calls Try.prog 24 #[spv (f, t), spv (g, u)] w fun e w' => e = .returned (.bool (within (f, t) (g, u))) ∧ Below w.heap.size w w' := by
  have h1 := rcheck_any f t
  have h2 := rcheck_any g u
  have z1 := chk_zero (f, t)
  have z2 := chk_zero (g, u)
  unfold spv at *
  have HM : Hid (within (f, t) (g, u) = (!bad (f, t) && !bad (g, u) && decide (g ≤ f) && decide (t ≤ u))) := rfl
  generalize chk (f, t) = x at *
  generalize chk (g, u) = y at *
  generalize bad (f, t) = p at *
  generalize bad (g, u) = q at *
  cases p
  · go_enter Try.func24, Try.ntmps24
    go_wp2_with fail
    refine (h1 _).mono ?_
    rintro e w1 ⟨rfl, hb1⟩
    have hc1 := bcell hb1
    have b1 := bt (below2 w _ _) hb1
    go_wp2_with fail
    refine (h2 _).mono ?_
    rintro e w2 ⟨rfl, hb2⟩
    have hc2 := bcell (bt hb1 hb2)
    have b2 := bt b1 hb2
    clear hc1
    cases q
    · go_wp2
      all_goals go_ret
      all_goals refine ⟨ret_bool ?_, b2⟩
      all_goals (rw [HM.out]; simp only [Bool.not_false, Bool.true_and])
      all_goals (rw [Bool.eq_iff_iff]; simp only [decide_eq_true_eq, Bool.and_eq_true]; simp; try omega)
    · go_wp2
      go_ret
      exact ⟨ret_bool (by rw [HM.out]; simp), b2⟩
  · go_enter Try.func24, Try.ntmps24
    go_wp2_with fail
    refine (h1 _).mono ?_
    rintro e w1 ⟨rfl, hb1⟩
    go_wp2
    go_ret
    exact ⟨ret_bool (by rw [HM.out]; simp), bt (below2 w _ _) hb1⟩

set_option maxRecDepth 100000 in
theorem within_any (f t g u : Int) (w : World) :
    Calls Try.prog 54 #[spv (f, t), spv (g, u)] w fun e w' => e = .returned (.bool (within (f, t) (g, u))) ∧ Below w.heap.size w w' := by
  have h1 := check_any f t
  have h2 := both_any f t g u
  have z1 := chk_zero (f, t)
  have heq := eqSp f t g u
  have hgd := guardSp
  unfold spv at *
  have HM : Hid (within (f, t) (g, u) = (!bad (f, t) && !bad (g, u) && decide (g ≤ f) && decide (t ≤ u))) := rfl
  have HB : Hid (f = g → t = u → bad (f, t) = bad (g, u)) := by rintro rfl rfl; rfl
  generalize chk (f, t) = x at *
  generalize bad (f, t) = p at *
  generalize bad (g, u) = q at *
  by_cases he : f = g ∧ t = u
  · obtain ⟨rfl, rfl⟩ := he
    have hpq : p = q := HB.out rfl rfl
    subst hpq
    cases p
    · go_enter Try.func54, Try.ntmps54
      go_wp2_with fail
      refine (h1 _).mono ?_
      rintro e w1 ⟨rfl, hb1⟩
      have hc1 := bcell hb1
      have b1 := bt (below2 w _ _) hb1
      go_wp2_with fail
      go_ret
      exact ⟨ret_bool (by rw [HM.out]; simp), b1⟩
    · go_enter Try.func54, Try.ntmps54
      go_wp2_with fail
      refine (h1 _).mono ?_
      rintro e w1 ⟨rfl, hb1⟩
      have hc1 := bcell hb1
      have b1 := bt (below2 w _ _) hb1
      go_wp2_with fail
      refine (h2 _).mono ?_
      rintro e w2 ⟨rfl, hb2⟩
      go_wp2
      go_ret
      exact ⟨ret_bool (by rw [HM.out]; simp), bt b1 hb2⟩
  · have hne : (f == g && t == u) = false := by
      rw [Bool.eq_false_iff]; simpa using he
    clear he HB
    generalize (!p && !q) = r at *
    cases r
    · go_enter Try.func54, Try.ntmps54
      go_wp2_with fail
      refine (h2 _).mono ?_
      rintro e w1 ⟨rfl, hb1⟩
      have hc1 := bcell hb1
      have b1 := bt (below2 w _ _) hb1
      go_wp2_with fail
      go_ret
      exact ⟨ret_bool (by rw [HM.out]; simp), b1⟩
    · go_enter Try.func54, Try.ntmps54
      go_wp2_with fail
      refine (h2 _).mono ?_
      rintro e w1 ⟨rfl, hb1⟩
      have hc1 := bcell hb1
      have b1 := bt (below2 w _ _) hb1
      go_wp2
      all_goals go_ret
      all_goals refine ⟨ret_bool ?_, b1⟩
      all_goals (rw [HM.out]; simp; try omega)

end

/-! ### SortK -/
section
open Go.RowKit Go.Shelf Go.Sort
open Sched (Sp bad)

section
variable {α : Type} {enc : α → List Value} {k : Nat}

theorem rowLen (hk : ∀ x, (enc x).length = k) (l : List α) : (l.flatMap enc).length = l.length * k := by
  induction l with
  | nil => simp
  | cons a l ih => simp [ih, hk, Nat.add_mul]; omega

theorem rowGet (hk : ∀ x, (enc x).length = k) : ∀ (l : List α) (i j : Nat) (hi : i < l.length), j < k → (l.flatMap enc)[i * k + j]? = (enc l[i])[j]? := by
  intro l
  induction l with
  | nil => intro i j hi; simp at hi
  | cons a l ih =>
    intro i j hi hj
    rw [List.flatMap_cons]
    cases i with
    | zero =>
      rw [List.getElem?_append_left (by rw [hk]; omega)]
      simp
    | succ i =>
      rw [List.getElem?_append_right (by rw [hk, Nat.add_mul]; omega), hk, show (i + 1) * k + j - k = i * k + j by rw [Nat.add_mul]; omega, ih i j (by simpa using hi) hj]
      simp

theorem rowOne (h1 : ∀ x, ∀ v ∈ enc x, v.oneCell' = true) (l : List α) : ∀ v ∈ l.flatMap enc, v.oneCell' = true := by
  intro v hv
  obtain ⟨x, _, hx⟩ := List.mem_flatMap.1 hv
  exact h1 x v hx

/-- A row of whatever size whose cells are known, in the sort's words. -/
theorem holdsId_of_owns {w : World} {base : Nat} {e : TypeId} {size : Nat} {v : Value} {n : Nat} {xs : List Value} (h : w.ownsRow base e size v n xs) (hv : v ≠ .slice none 0 0) :
    ∃ g cap, v = .slice (some ⟨g, 0, none⟩) n cap ∧ base ≤ g ∧ g < w.heap.size ∧ n ≤ cap ∧ cap ≤ maxLen ∧ Holds id w g 0 xs.toArray := by
  rcases h.2 with ⟨e0, _⟩ | ⟨g, cap, cur, rfl, hb, hg, hn, hm, hs, ht⟩
  · exact absurd e0 hv
  · refine ⟨g, cap, rfl, hb, (Array.getElem?_eq_some_iff.1 hg).1, hn, hm, fun j hj => ?_⟩
    have hj' : j < n * size := by have := h.1; simpa [this] using hj
    rw [Nat.zero_add]
    refine ⟨?_, h.frozenAt j⟩
    rw [h.cellAt j hj']
    have hjx : j < xs.length := by simpa using hj
    simp [getElem!_pos, hjx]

theorem owns_putId {w : World} {base : Nat} {e : TypeId} {size g n cap q : Nat} {xs ys : List Value} (h : w.ownsRow base e size (.slice (some ⟨g, 0, none⟩) n cap) n xs) (hy : ys.length = xs.length) :
    (putRow id (Sort.ahead w q) g 0 ys.toArray).ownsRow base e size (.slice (some ⟨g, 0, none⟩) n cap) n ys := by
  rcases h.2 with ⟨e0, _⟩ | ⟨g', cap', cur, e0, hb, hg, hn, hm, hs, ht⟩
  · cases e0
  · injection e0 with e1 _ e3
    injection e1 with e1
    injection e1 with e1
    subst e1; subst e3
    have hxl := h.1
    refine ⟨by omega, .inr ⟨g, cap, putCells id 0 ys.toArray cur, rfl, hb, ?_, hn, hm, by simpa [putCells] using hs, ?_⟩⟩
    · simp [putRow, mapBlock, Sort.ahead, Array.getElem?_modify, hg, onCells]
    · apply List.ext_getElem?
      intro j
      rw [List.getElem?_take, Array.getElem?_toList]
      by_cases hj : j < n * size
      · have hjc : j < cur.size := by have := Nat.mul_le_mul_right size hn; omega
        simp only [if_pos hj, putCells, Array.getElem?_mapIdx, Array.getElem?_eq_getElem hjc, Option.map_some]
        have hjy : j < ys.length := by omega
        rw [if_pos (by simp; omega), List.getElem?_eq_getElem hjy]
        simp [getElem!_pos, hjy]
      · rw [if_neg hj, List.getElem?_eq_none (by omega)]

theorem below_grow {B : Nat} {w0 w : World} (h : Go.RowKit.Below B w0 w) (hB : B ≤ w.heap.size) (os : Array Obj) : Go.RowKit.Below B w0 (Sort.grow w os) :=
  h.trans ⟨rfl, rfl, rfl, by simp, fun k hk => Sort.heap_grow_old w os (by omega)⟩
theorem below_putId {B : Nat} {w0 w : World} {g q : Nat} {d : Array Value} (h : Go.RowKit.Below B w0 w) (hg : B ≤ g) : Go.RowKit.Below B w0 (putRow id (Sort.ahead w q) g 0 d) :=
  ⟨h.os, h.tape, h.output, by simpa [putRow, mapBlock, Sort.ahead] using h.size, fun k hk => by
    rw [← h.block k hk]
    simp [putRow, mapBlock, Sort.ahead, Array.getElem?_modify, show g ≠ k by omega]⟩

theorem flatK_eq [Inhabited α] (hk : ∀ x, (enc x).length = k) (hk0 : 0 < k) (l : List α) : flatK enc k l.toArray = (l.flatMap enc).toArray := by
  refine ext_get! (by simp [rowLen hk]) fun t ht => ?_
  have ht' : t < l.length * k := by simpa using ht
  rw [get_flatK enc k l.toArray t (by simpa using ht')]
  have hd : t / k < l.length := by rw [Nat.div_lt_iff_lt_mul hk0]; exact ht'
  have hm : t % k < k := Nat.mod_lt _ hk0
  have hr := rowGet hk l (t / k) (t % k) hd hm
  rw [Nat.mul_comm, Nat.div_add_mod] at hr
  have hlt : t < (l.flatMap enc).length := by rw [rowLen hk]; exact ht'
  have hme : t % k < (enc l[t / k]).length := by rw [hk]; exact hm
  rw [List.getElem?_eq_getElem hlt, List.getElem?_eq_getElem hme] at hr
  have hr := Option.some.inj hr
  have a1 : l.toArray[t / k]! = l[t / k] := by simp [hd]
  have a2 : (enc l[t / k])[t % k]! = (enc l[t / k])[t % k] := getElem!_pos (enc l[t / k]) (t % k) hme
  rw [a1, a2, getElem!_pos (l.flatMap enc).toArray t (by simpa using hlt)]
  simpa using hr.symm

/-- slices.SortFunc on what the call owns, at elements of k cells: a permutation, sorted. -/
theorem sort_ownK {P : Program} {ρ : Ren} [Inhabited α] (L : SlLaysF0.n6 P ρ) (aE : ∀ w, (isAgg (ρ.t 24)).run P w = .ok true w) (zE : ∀ w, (Go.sizeOf (ρ.t 24)).run P w = .ok k w) (hk : ∀ x, (enc x).length = k) (hk0 : 0 < k)
    (h1 : ∀ x, ∀ v ∈ enc x, v.oneCell' = true) (cf : α → α → Int) (hO : SWO (ltOf cf)) (g : Nat) (eg : ∀ args w, (callFunc g args).run P w = .ok (.enter g args) w)
    (hclos : ∀ x y W, Calls P g #[.agg (enc x).toArray, .agg (enc y).toArray] W fun e w' => e = .returned (.int .i64 (cf x y)) ∧ ∃ q os', w' = grow (W.drewN q) os')
    (l : List α) (e : TypeId) (v : Value) (B : Nat) (w0 w : World) (hb : Go.RowKit.Below B w0 w) (hB : B ≤ w.heap.size) (hl : l.length < 4611686018427387904)
    (h : w.ownsRow B e k v l.length (l.flatMap enc)) :
    Calls P (ρ.f 6) #[v, .func (.func g) #[] #[]] w fun r w' =>
      r = .returned (.tuple #[]) ∧ (∃ m : List α, m.Perm l ∧ m.Pairwise (fun a b => ltOf cf b a = false) ∧ w'.ownsRow B e k v l.length (m.flatMap enc)) ∧ Go.RowKit.Below B w0 w' := by
  by_cases hv : v = .slice none 0 0
  · subst hv
    have hl0 : l = [] := by
      rcases h.2 with ⟨_, h0⟩ | ⟨_, _, _, e0, _⟩
      · exact List.eq_nil_of_length_eq_zero h0
      · cases e0
    subst hl0
    refine (AnyF.slices_SortFunc_none L none 0 _ w).mono fun r w' ⟨he, hw⟩ => ?_
    subst hw
    exact ⟨he, ⟨[], List.Perm.refl _, List.Pairwise.nil, h⟩, hb⟩
  · obtain ⟨gb, cap, rfl, hg, hlt, _, _, hH⟩ := holdsId_of_owns h hv
    have hH' : HoldsK enc k w gb 0 l.toArray := by unfold HoldsK; rw [flatK_eq hk hk0]; exact hH
    have hc : CmpLays P g #[] enc k cf gb 0 l.toArray.size w := fun m os dk _ x y => hclos x y _
    have := AnyQ.slices_SortFunc L k aE zE enc hk h1 cf hO g #[] gb 0 cap l.toArray w eg hc hH' hlt (by simpa using hl)
    rw [List.size_toArray] at this
    refine this.mono fun r w' ⟨he, d', n, os, hp, hs, hw⟩ => ?_
    subst hw
    obtain ⟨hsz, _, hperm⟩ := hp
    have hd : d'.size = l.length := by simpa using hsz
    have e1 : d'.extract 0 l.length = d' := by rw [← hd]; simp
    have e2 : l.toArray.extract 0 l.length = l.toArray := by simp
    rw [e1, e2] at hperm
    have hperm : d'.toList.Perm l := by simpa using hperm
    refine ⟨he, ⟨d'.toList, hperm, ?_, ?_⟩, ?_⟩
    · rw [List.pairwise_iff_getElem]
      intro i j hi hj hij
      have := hs i j (Nat.zero_le _) hij (by simpa [hd] using hj)
      have hi' : i < d'.size := by simpa using hi
      have hj' : j < d'.size := by simpa using hj
      rw [getElem!_pos d' j hj', getElem!_pos d' i hi'] at this
      simpa using this
    · have hy : (d'.toList.flatMap enc).length = (l.flatMap enc).length := by rw [rowLen hk, rowLen hk, hperm.length_eq]
      have h2 := owns_putId (q := n) h hy
      have e3 : sortWorldK enc k w gb 0 n d' os = grow (putRow id (Sort.ahead w n) gb 0 (d'.toList.flatMap enc).toArray) os := by
        unfold sortWorldK putRowK
        rw [← flatK_eq hk hk0 d'.toList, Array.toArray_toList]
      rw [e3]
      exact h2.kept (row := none) ⟨rfl, rfl, rfl, by simp, fun k hk _ => Sort.heap_grow_old _ os hk⟩ (.inr (by simp [Value.ownBlock]))
    · unfold sortWorldK putRowK
      exact below_grow (below_putId hb hg) (by simpa using hB) os
end

end

/-! ### Mem -/
section
open Go.RowKit Go.Shelf
open Sched (Sp bad)

/-- A span's two cells. -/
def encSp (s : Sp) : List Value := [.int .i64 s.1, .int .i64 s.2]
theorem encSp_len (s : Sp) : (encSp s).length = 2 := rfl
theorem encSp_one (s : Sp) : ∀ v ∈ encSp s, v.oneCell' = true := by
  intro v hv
  simp [encSp] at hv
  rcases hv with rfl | rfl <;> rfl
theorem E29 : Elem Try.prog 62 23 (.agg #[.int .i64 0, .int .i64 0]) 2 16 := ⟨Try.underlying62, by kernel_rfl, rfl, by decide, by decide⟩

/-- A slice value of spans that reads as l. -/
def Spans (w : World) (v : Value) (l : List Sp) : Prop :=
  ∃ a cap, v = .slice a l.length cap ∧ l.length ≤ cap ∧ cap ≤ 9223372036854775807 ∧ l.length ≤ 8796093022208 ∧ (∀ s ∈ l, I64 s.1 ∧ I64 s.2) ∧ (a = none → cap = 0) ∧
    (l = [] ∨ ∃ b off, a = some ⟨b, off, none⟩ ∧ b < w.heap.size ∧ ∀ j, j < l.length → w.cell? ⟨b, off + j * 2, none⟩ = some (.int .i64 (l.getD j (0, 0)).1) ∧ w.cell? ⟨b, off + j * 2 + 1, none⟩ = some (.int .i64 (l.getD j (0, 0)).2))

theorem Spans.below {w w' : World} {v : Value} {l : List Sp} (h : Spans w v l) (hb : Below w.heap.size w w') : Spans w' v l := by
  obtain ⟨a, cap, rfl, h1, h2, h3, h5, h6, h4⟩ := h
  refine ⟨a, cap, rfl, h1, h2, h3, h5, h6, ?_⟩
  rcases h4 with h4 | ⟨b, off, rfl, hlt, hc⟩
  · exact .inl h4
  · refine .inr ⟨b, off, rfl, Nat.lt_of_lt_of_le hlt hb.size, fun j hj => ?_⟩
    rw [hb.cell hlt, hb.cell hlt]
    exact hc j hj
theorem Spans.len {w : World} {v : Value} {l : List Sp} (h : Spans w v l) : l.length ≤ 8796093022208 := by
  obtain ⟨a, cap, rfl, h1, h2, h3, _⟩ := h
  exact h3
theorem Spans.bd {w : World} {v : Value} {l : List Sp} (h : Spans w v l) : ∀ s ∈ l, I64 s.1 ∧ I64 s.2 := by
  obtain ⟨a, cap, rfl, h1, h2, h3, h5, _⟩ := h
  exact h5
theorem Spans.row {w : World} {a : Option Addr} {n cap : Nat} {l : List Sp} (h : Spans w (.slice a n cap) l) (hl : l ≠ []) :
    ∃ b off, a = some ⟨b, off, none⟩ ∧ b < w.heap.size ∧ ∀ j, j < l.length → w.cell? ⟨b, off + j * 2, none⟩ = some (.int .i64 (l.getD j (0, 0)).1) ∧ w.cell? ⟨b, off + j * 2 + 1, none⟩ = some (.int .i64 (l.getD j (0, 0)).2) := by
  obtain ⟨a', cap', e, h1, h2, h3, h5, h6, h4⟩ := h
  simp only [Value.slice.injEq] at e
  obtain ⟨rfl, rfl, rfl⟩ := e
  exact h4.resolve_left hl
theorem Spans.shape {w : World} {v : Value} {l : List Sp} (h : Spans w v l) : ∃ a cap, v = .slice a l.length cap ∧ l.length ≤ cap ∧ cap ≤ 9223372036854775807 ∧ l.length ≤ 8796093022208 := by
  obtain ⟨a, cap, rfl, h1, h2, h3, _⟩ := h
  exact ⟨a, cap, rfl, h1, h2, h3⟩
theorem getD_mem {l : List Sp} {k : Nat} (h : k < l.length) : l.getD k (0, 0) ∈ l := by simp [List.getD_eq_getElem?_getD, h]
theorem take_getD (l : List Sp) (k : Nat) (h : k < l.length) : l.take (k + 1) = l.take k ++ [l.getD k (0, 0)] := by
  rw [List.take_succ_eq_append_getElem h]
  simp [List.getD_eq_getElem?_getD, h]

/-- The two cells of a span in a row. -/
theorem rowSp {l : List Sp} {j : Nat} (hj : j < l.length) : (l.flatMap encSp)[j * 2]? = some (.int .i64 (l.getD j (0, 0)).1) ∧ (l.flatMap encSp)[j * 2 + 1]? = some (.int .i64 (l.getD j (0, 0)).2) := by
  have h0 := rowGet encSp_len l j 0 hj (by omega)
  have h1 := rowGet encSp_len l j 1 hj (by omega)
  rw [Nat.add_zero] at h0
  rw [h0, h1]
  simp [encSp, List.getD_eq_getElem?_getD, hj]

theorem ownSp {w : World} {base g n cap : Nat} {l : List Sp} (h : w.ownsRow base 23 2 (.slice (some ⟨g, 0, none⟩) n cap) n (l.flatMap encSp)) {j : Nat} (hj : j < l.length) :
    w.cell? ⟨g, j * 2, none⟩ = some (.int .i64 (l.getD j (0, 0)).1) ∧ w.cell? ⟨g, j * 2 + 1, none⟩ = some (.int .i64 (l.getD j (0, 0)).2) := by
  have hl := h.1
  rw [rowLen encSp_len] at hl
  rw [h.cellAt (j * 2) (by omega), h.cellAt (j * 2 + 1) (by omega)]
  exact rowSp hj

theorem Spans.of_owns {w : World} {base : Nat} {v : Value} {l : List Sp} (h : w.ownsRow base 23 2 v l.length (l.flatMap encSp)) (hl : l.length ≤ 8796093022208) (hb : ∀ s ∈ l, I64 s.1 ∧ I64 s.2) : Spans w v l := by
  rcases h.2 with ⟨rfl, h0⟩ | ⟨g, cap, cur, rfl, hg, hh, h1, h2, h3, h4⟩
  · have : l = [] := List.eq_nil_of_length_eq_zero h0
    subst this
    exact ⟨none, 0, rfl, by simp, by simp, by simp, by simp, by simp, .inl rfl⟩
  · refine ⟨_, _, rfl, h1, by simpa [maxLen] using h2, hl, hb, by simp, .inr ⟨g, 0, rfl, (Array.getElem?_eq_some_iff.1 hh).1, fun j hj => ?_⟩⟩
    rw [Nat.zero_add]
    exact ownSp h hj

theorem Spans.src {w : World} {v : Value} {l : List Sp} (h : Spans w v l) : Src w v l.length (l.flatMap encSp) 2 := by
  obtain ⟨a, cap, rfl, h1, h2, h3, h5, h6, h4⟩ := h
  refine ⟨a, cap, rfl, rowLen encSp_len l, rowOne encSp_one l, ?_⟩
  rcases h4 with rfl | ⟨b, off, rfl, hlt, hc⟩
  · exact .inl ⟨rfl, h6⟩
  · refine .inr ⟨_, rfl, fun j u hu => ?_⟩
    have hj : j < (l.flatMap encSp).length := (List.getElem?_eq_some_iff.1 hu).1
    rw [rowLen encSp_len] at hj
    have hq : j / 2 < l.length := by omega
    obtain ⟨c1, c2⟩ := hc (j / 2) hq
    obtain ⟨r1, r2⟩ := rowSp hq
    rw [Addr.add_lit]
    rcases Nat.mod_two_eq_zero_or_one j with hm | hm
    · have e : j / 2 * 2 = j := by omega
      rw [e] at c1 r1
      rw [c1, ← r1]; exact hu
    · have e : j / 2 * 2 + 1 = j := by omega
      rw [Nat.add_assoc, e] at c2
      rw [e] at r2
      rw [c2, ← r2]; exact hu

/-- Spans that the walk has laid in a new block. -/
theorem Spans.new {w : World} {t : TypeId} (l : List Sp) (hl : l.length ≤ 8796093022208) (hb : ∀ s ∈ l, I64 s.1 ∧ I64 s.2) :
    Spans (w.alloc (.cells (l.flatMap encSp).toArray t)) (.slice (some ⟨w.heap.size, 0, none⟩) l.length l.length) l :=
  ⟨_, _, rfl, Nat.le_refl _, by omega, hl, hb, by simp, .inr ⟨w.heap.size, 0, rfl, by simp, fun j hj => by
    rw [World.cell?_alloc_at _ _ _ _ rfl, World.cell?_alloc_at _ _ _ _ rfl, Nat.zero_add]
    have := rowSp hj
    simpa using this⟩⟩


end

/-! ### W2 -/
section
open Go.RowKit Go.Shelf
open Sched (Sp bad)

theorem isNaN_any (x : Int) (w : World) : Calls Try.prog 62 #[.int .i64 x] w fun e w' => e = .returned (.bool false) ∧ w = w' := by
  go_enter Try.func62, Try.ntmps62
  go_wp2
  go_ret
  exact ⟨ret_bool (by simp), rfl⟩
def cmpI (x y : Int) : Int := if x < y then -1 else if y < x then 1 else 0
theorem compare_any (x y : Int) (w : World) : Calls Try.prog 58 #[.int .i64 x, .int .i64 y] w fun e w' => e = .returned (.int .i64 (cmpI x y)) ∧ w = w' := by
  go_enter Try.func58, Try.ntmps58
  go_wp2_with (go_at_call 62; refine (isNaN_any _ _).mono ?_; rintro e w' ⟨rfl, rfl⟩)
  all_goals go_ret
  all_goals refine ⟨ret_int ?_, rfl⟩
  all_goals (unfold cmpI; first | (rw [if_pos (by omega)]) | (rw [if_neg (by omega), if_pos (by omega)]) | (rw [if_neg (by omega), if_neg (by omega)]))

theorem closure_any (x y : Sp) (W : World) : Calls Try.prog 57 #[.agg (encSp x).toArray, .agg (encSp y).toArray] W fun e w' => e = .returned (.int .i64 (cmpI x.1 y.1)) ∧ ∃ q os', w' = Sort.grow (W.drewN q) os' := by
  have hcon := fun W' => compare_any x.1 y.1 W'
  unfold encSp
  generalize cmpI x.1 y.1 = r at hcon ⊢
  go_enter Try.func57, Try.ntmps57
  go_wp2_with (go_at_call 58; refine (hcon _).mono ?_; rintro e w' ⟨rfl, rfl⟩)
  go_ret
  exact ⟨rfl, 0, _, by rw [Sort.alloc_eq_grow, Sort.alloc_eq_grow, Sort.grow_grow]; rfl⟩

theorem ltSp (x y : Sp) : ltOf (fun x y : Sp => cmpI x.1 y.1) x y = decide (x.1 < y.1) := by
  unfold ltOf cmpI
  by_cases h1 : x.1 < y.1
  · simp [h1]
  · by_cases h2 : y.1 < x.1 <;> simp [h1, h2]
theorem swoSp : Sort.SWO (ltOf fun x y : Sp => cmpI x.1 y.1) where
  irrefl x := by rw [ltSp]; simp
  trans x y z h1 h2 := by rw [ltSp] at *; simp at *; omega
  ntrans x y z h1 h2 := by rw [ltSp] at *; simp at *; omega

/-- The sort of spans by where they begin. -/
theorem sort_any (l : List Sp) (v : Value) (B : Nat) (w0 w : World) (hb : Below B w0 w) (hB : B ≤ w.heap.size) (hl : l.length ≤ 8796093022208)
    (h : w.ownsRow B 23 2 v l.length (l.flatMap encSp)) :
    Calls Try.prog 56 #[v, .func (.func 57) #[] #[]] w fun r w' =>
      r = .returned (.tuple #[]) ∧ (∃ m : List Sp, m.Perm l ∧ m.Pairwise (fun a b => a.1 ≤ b.1) ∧ w'.ownsRow B 23 2 v l.length (m.flatMap encSp)) ∧ Below B w0 w' := by
  have := sort_ownK Try.sortSp Try.isAgg23 Try.sizeOf23 encSp_len (by decide) encSp_one (fun x y => cmpI x.1 y.1) swoSp 57 (enters_of Try.func57 (by kernel_rfl) rfl) closure_any l 23 v B w0 w hb hB (by omega) h
  refine this.mono fun r w' ⟨he, ⟨m, hp, hs, ho⟩, hb'⟩ => ⟨he, ⟨m, hp, ?_, ho⟩, hb'⟩
  refine hs.imp fun {a b} hab => ?_
  rw [ltSp] at hab
  simpa using hab

theorem ow_below {w w' : World} {base : Nat} {e : TypeId} {size : Nat} {v : Value} {n : Nat} {xs : List Value} (h : w.ownsRow base e size v n xs) (hb : Below w.heap.size w w') : w'.ownsRow base e size v n xs :=
  h.kept (row := none) ⟨hb.os, hb.tape, hb.output, hb.size, fun k hk _ => hb.block k hk⟩ (by cases hv : v.ownBlock <;> simp)
theorem owns_base {w : World} {base base' : Nat} {e : TypeId} {size : Nat} {v : Value} {n : Nat} {xs : List Value} (h : w.ownsRow base e size v n xs) (hb : base' ≤ base) : w.ownsRow base' e size v n xs := by
  refine ⟨h.1, ?_⟩
  rcases h.2 with h | ⟨g, cap, cur, h1, h2, r⟩
  · exact .inl h
  · exact .inr ⟨g, cap, cur, h1, Nat.le_trans hb h2, r⟩
theorem cells2 {u v : Value} (hu : u.oneCell' = true) (hv : v.oneCell' = true) : ∀ x ∈ [u, v], x.oneCell' = true := by
  intro x hx
  simp at hx
  rcases hx with rfl | rfl
  · exact hu
  · exact hv
theorem solid_step (l : List Sp) (k : Nat) (h : k < l.length) : Sched.solid (l.take (k + 1)) = if (l.getD k (0, 0)).1 < (l.getD k (0, 0)).2 then Sched.solid (l.take k) ++ [l.getD k (0, 0)] else Sched.solid (l.take k) := by
  rw [take_getD l k h]
  unfold Sched.solid
  rw [List.filter_append]
  split <;> rename_i hc <;> simpa using hc
theorem solid_le (l : List Sp) (k : Nat) : (Sched.solid (l.take k)).length ≤ k := Nat.le_trans (List.length_filter_le _ _) (List.length_take_le _ _)
theorem fm_snoc (l : List Sp) (s : Sp) : (l ++ [s]).flatMap encSp = l.flatMap encSp ++ [.int .i64 s.1, .int .i64 s.2] := by simp [encSp]

theorem owns_shape {w : World} {base : Nat} {e : TypeId} {size : Nat} {v : Value} {n : Nat} {xs : List Value} (h : w.ownsRow base e size v n xs) :
    ∃ a cap, v = .slice a n cap ∧ n ≤ cap ∧ cap ≤ 9223372036854775807 ∧ (n ≠ 0 → ∃ g, a = some ⟨g, 0, none⟩ ∧ base ≤ g ∧ g < w.heap.size) := by
  rcases h.2 with ⟨rfl, h0⟩ | ⟨g, cap, cur, rfl, hg, hh, h1, h2, h3, h4⟩
  · subst h0; exact ⟨none, 0, rfl, by omega, by omega, fun h => absurd rfl h⟩
  · exact ⟨_, _, rfl, h1, by simpa [maxLen] using h2, fun _ => ⟨g, rfl, hg, (Array.getElem?_eq_some_iff.1 hh).1⟩⟩
theorem set_last (o : List Sp) (zf zt x : Int) : ((o ++ [(zf, zt)]).flatMap encSp).set (o.length * 2 + 1) (.int .i64 x) = (o ++ [(zf, x)]).flatMap encSp := by
  rw [List.flatMap_append, List.flatMap_append, List.set_append_right _ _ (by rw [rowLen encSp_len]; omega), rowLen encSp_len]
  simp [encSp]
theorem ite_max (x y : Int) : (if x < y then y else x) = max x y := by split <;> omega
theorem fold_step (m : List Sp) (k : Nat) (h : k < m.length) : (m.take (k + 1)).foldl Sched.step [] = Sched.step ((m.take k).foldl Sched.step []) (m.getD k (0, 0)) := by
  rw [take_getD m k h, List.foldl_append]
  rfl
theorem step_len (o : List Sp) (s : Sp) : (Sched.step o s).length ≤ o.length + 1 := by
  unfold Sched.step
  split
  · simp
  · simp
theorem fold_len (m : List Sp) (k : Nat) : ((m.take k).foldl Sched.step []).length ≤ k := by
  induction k with
  | zero => simp
  | succ k ih =>
    by_cases h : k < m.length
    · rw [fold_step m k h]
      have := step_len ((m.take k).foldl Sched.step []) (m.getD k (0, 0))
      omega
    · rw [List.take_of_length_le (show m.length ≤ k by omega)] at ih
      rw [List.take_of_length_le (show m.length ≤ k + 1 by omega)]
      omega

/-- What spans put together are, as an answer: nothing beside an error. -/
def nrmE (l : List Sp) : List Sp := if l.any bad then [] else Sched.nrm l
def errE (l : List Sp) : Int := if l.any bad then 60 else 0
def NormPost (l : List Sp) (w : World) (e : Ending) (w' : World) : Prop :=
  (∃ v', e = .returned (.tuple #[v', .int .i64 (errE l)]) ∧ w'.ownsRow w.heap.size 23 2 v' (nrmE l).length ((nrmE l).flatMap encSp)) ∧ Below w.heap.size w w'

set_option maxHeartbeats 1600000 in
/-- The program's Norm. -/
theorem norm_any (l : List Sp) (v : Value) (w : World) (h : Spans w v l) : Calls Try.prog 50 #[v] w (NormPost l w) := by
  have h0 := h
  obtain ⟨a, cap, rfl, h1, h2, h3⟩ := h.shape
  clear h
  go_enter Try.func50, Try.ntmps50
  go_wp2
  go_loopw [4, 14] (fun u i wr => ∃ k : Nat, k ≤ l.length ∧ i = .int .i64 k ∧ wr.ownsRow w.heap.size 23 2 u (Sched.solid (l.take k)).length ((Sched.solid (l.take k)).flatMap encSp) ∧ Hid ((l.take k).any bad = false) ∧ Below w.heap.size w wr) (fun _ i _ => l.length - (intOf i).toNat)
  case atStart => exact ⟨0, Nat.zero_le _, rfl, by simpa [Sched.solid] using World.ownsRow_nil _ _ _ _, rfl, Below.refl _ _⟩
  case round =>
    obtain ⟨k, hk, rfl, hown, hbad, hb⟩ := hrel
    by_cases hlt : k < l.length
    · obtain ⟨b, off, rfl, hbl, hc⟩ := h0.row (by rintro rfl; simp at hlt)
      obtain ⟨c1, c2⟩ := hc k hlt
      rw [← hb.cell (p := ⟨b, off + k * 2, none⟩) hbl] at c1
      rw [← hb.cell (p := ⟨b, off + k * 2 + 1, none⟩) hbl] at c2
      have HS := Lib.hid (solid_step l k hlt)
      have HB : Hid ((l.take (k + 1)).any bad = ((l.take k).any bad || bad (l.getD k (0, 0)))) := by show _ = _; rw [take_getD l k hlt]; simp
      have HA : Hid (bad (l.getD k (0, 0)) = true → l.any bad = true) := fun h => List.any_eq_true.2 ⟨_, getD_mem hlt, h⟩
      have hsl := solid_le l k
      clear hc h0
      generalize l.getD k (0, 0) = s at *
      obtain ⟨f, t⟩ := s
      simp only at c1 c2
      have hal : Below w.heap.size w (wr.alloc (.cells #[.int .i64 f, .int .i64 t] 23)) := hb.alloc hb.size _
      have hck := check_any f t (wr.alloc (.cells #[.int .i64 f, .int .i64 t] 23))
      have hown1 := hown.alloc (.cells #[.int .i64 f, .int .i64 t] 23)
      clear hown
      unfold spv at hck
      by_cases hbd : bad (f, t) = true
      · have hz : chk (f, t) = 60 := if_pos hbd
        have HX : Hid (l.any bad = true) := HA.out hbd
        rw [hz] at hck
        clear hbd hz HA HB
        go_wp2_with fail
        refine hck.mono ?_
        rintro e w1 ⟨rfl, hb1⟩
        go_wp2
        go_ret2
        refine ⟨⟨.slice none 0 0, by unfold errE; rw [HX.out]; rfl, ?_⟩, hal.trans (hb1.mono hal.size)⟩
        unfold nrmE
        rw [HX.out]
        exact World.ownsRow_nil _ _ _ _
      · have hz : chk (f, t) = 0 := if_neg hbd
        have HB2 : Hid ((l.take (k + 1)).any bad = false) := by show _ = _; rw [HB.out, hbad.out]; simpa using hbd
        rw [hz] at hck
        clear hbd hz HA HB
        go_wp2_with fail
        refine hck.mono ?_
        rintro e w1 ⟨rfl, hb1⟩
        have hown2 := ow_below hown1 hb1
        have hb2 := hal.trans (hb1.mono hal.size)
        have hc1 := bcell hb1
        by_cases hft : f < t
        · have HS2 : Hid (Sched.solid (l.take (k + 1)) = Sched.solid (l.take k) ++ [(f, t)]) := HS.out.trans (if_pos hft)
          clear HS hown1
          go_wp2_with (at_builtin; refine wpList_app1 E29 rfl _ _ rfl hown2 [.int .i64 f, .int .i64 t] rfl (cells2 rfl rfl) rfl rfl (by omega) hb2.size ?_; intro v' w3 hown3 hgrow)
          go_roundw
          case rel => exact ⟨k + 1, by omega, by go_num, by rw [HS2.out, fm_snoc]; simpa using hown3, HB2, below_app hb2 (Nat.le_refl _) hown2 hgrow hb2.size⟩
          case measure => simp [intOf]; omega
        · have HS2 : Hid (Sched.solid (l.take (k + 1)) = Sched.solid (l.take k)) := HS.out.trans (if_neg hft)
          clear HS hown1
          go_wp2
          go_roundw
          case rel => exact ⟨k + 1, by omega, by go_num, by rw [HS2.out]; exact hown2, HB2, hb2⟩
          case measure => simp [intOf]; omega
    · rw [List.take_of_length_le (by omega)] at hown hbad
      have hsl : (Sched.solid l).length ≤ l.length := List.length_filter_le _ _
      have hsort := sort_any (Sched.solid l) _ w.heap.size w wr hb hb.size (by omega) hown
      have HX := hbad
      clear h0 hown hbad
      go_wp2_with fail
      refine hsort.mono ?_
      rintro e w1 ⟨rfl, ⟨m, hp, hs, hown⟩, hb1⟩
      have hm : m.length = (Sched.solid l).length := hp.length_eq
      have HME := Lib.hid (Sched.merge_eq hp hs)
      rw [← hm] at hown
      have hml : m.length ≤ 8796093022208 := by omega
      obtain ⟨am, capm, rfl, qm1, qm2, qm3⟩ := owns_shape hown
      have hbs := hb1.size
      clear hsort hp hs hsl hm
      go_wp2_with fail
      go_loopw [5, 37] (fun u i wr => ∃ j : Nat, j ≤ m.length ∧ i = .int .i64 j ∧ wr.ownsRow w1.heap.size 23 2 u ((m.take j).foldl Sched.step []).length (((m.take j).foldl Sched.step []).flatMap encSp) ∧ wr.ownsRow w.heap.size 23 2 (.slice am m.length capm) m.length (m.flatMap encSp) ∧ Below w.heap.size w wr ∧ w1.heap.size ≤ wr.heap.size) (fun _ i _ => m.length - (intOf i).toNat)
      case atStart => exact ⟨0, Nat.zero_le _, rfl, by simpa using World.ownsRow_nil _ _ _ _, hown, hb1, Nat.le_refl _⟩
      case round =>
        clear hown
        obtain ⟨j, hj, rfl, hout, hrow, hbr, hsz⟩ := hrel
        by_cases hlt : j < m.length
        · obtain ⟨gm, rfl, hgm, hgm2⟩ := qm3 (by omega)
          obtain ⟨c1, c2⟩ := ownSp hrow hlt
          have HS := Lib.hid (fold_step m j hlt)
          have hol := fold_len m j
          generalize m.getD j (0, 0) = s at *
          generalize (m.take j).foldl Sched.step [] = O at *
          obtain ⟨f, t⟩ := s
          simp only at c1 c2
          obtain ⟨ao, capo, rfl, qo1, qo2, qo3⟩ := owns_shape hout
          have hou1 := hout.alloc (.cells #[.int .i64 f, .int .i64 t] 23)
          have hrw1 := hrow.alloc (.cells #[.int .i64 f, .int .i64 t] 23)
          have hal : Below w.heap.size w (wr.alloc (.cells #[.int .i64 f, .int .i64 t] 23)) := hbr.alloc hbr.size _
          rcases Sched.nil_or_last O with rfl | ⟨o, z, rfl⟩
          · have HS2 : Hid ((m.take (j + 1)).foldl Sched.step [] = [(f, t)]) := HS.out
            clear hrow hout HS
            go_wp2_with fail
            go_quiet (fail)
            have hq := below_drewN (Below.refl (wr.alloc (.cells #[.int .i64 f, .int .i64 t] 23)).heap.size (wr.alloc (.cells #[.int .i64 f, .int .i64 t] 23))) nq
            have hou2 := ow_below hou1 hq
            have hrw2 := ow_below hrw1 hq
            have hal2 := hal.trans (hq.mono hal.size)
            have hcb := bcell hq
            have hqs : w1.heap.size ≤ ((wr.alloc (.cells #[.int .i64 f, .int .i64 t] 23)).drewN nq).heap.size := Nat.le_trans (by simp; omega) hq.size
            clear hq hou1 hrw1 hal c1 c2
            generalize (wr.alloc (.cells #[.int .i64 f, .int .i64 t] 23)).drewN nq = Wq at *
            simp only [List.length_nil, List.flatMap_nil] at hou2
            go_wp2_with (at_builtin; refine wpList_app1 E29 rfl _ _ rfl hou2 [.int .i64 f, .int .i64 t] rfl (cells2 rfl rfl) rfl rfl (by omega) hqs ?_; intro v' w3 hown3 hgrow)
            go_roundw
            case rel =>
              have r3 := (hrw2.alloc (.cells #[.int .i64 f, .int .i64 t] 23))
              exact ⟨j + 1, by omega, by go_num, by rw [HS2.out]; simpa [encSp] using hown3, hrw2.kept hgrow (.inr (fun e => by have := hou2.lt gm e.symm; omega)), below_app hal2 hb1.size hou2 hgrow hal2.size, Nat.le_trans hqs hgrow.size⟩
            case measure => simp [intOf]; omega
          · have e : (o ++ [z]).length = o.length + 1 := by simp
            rw [e] at hou1 hol qo1 qo3 ⊢
            obtain ⟨gg, rfl, hgo, hgo2⟩ := qo3 (by omega)
            have c34 := ownSp hou1 (j := o.length) (by simp)
            have hz : (o ++ [z]).getD o.length (0, 0) = z := by simp [List.getD_eq_getElem?_getD]
            rw [hz] at c34
            obtain ⟨c3, c4⟩ := c34
            obtain ⟨zf, zt⟩ := z
            simp only at c3 c4
            have hix : (0 : Int) ≤ o.length := by omega
            have hil : (o.length : Int) < ((o.length + 1 : Nat) : Int) := by omega
            clear hz hout hrow
            by_cases hm : f ≤ zt
            · have hd : decide (f ≤ zt) = true := by simpa using hm
              have HS2 : Hid ((m.take (j + 1)).foldl Sched.step [] = o ++ [(zf, max zt t)]) := by
                show _ = _
                rw [HS.out]; simp [Sched.step, hm]
              clear HS hm
              go_wp2_with fail
              go_quiet (fail)
              have hq := below_drewN (Below.refl (wr.alloc (.cells #[.int .i64 f, .int .i64 t] 23)).heap.size (wr.alloc (.cells #[.int .i64 f, .int .i64 t] 23))) nq
              have hou2 := ow_below hou1 hq
              have hrw2 := ow_below hrw1 hq
              have hal2 := hal.trans (hq.mono hal.size)
              have hqs : w1.heap.size ≤ ((wr.alloc (.cells #[.int .i64 f, .int .i64 t] 23)).drewN nq).heap.size := Nat.le_trans (by simp; omega) hq.size
              have hcb := bcell hq
              have d1 : ((wr.alloc (.cells #[.int .i64 f, .int .i64 t] 23)).drewN nq).cell? ⟨wr.heap.size, 1, none⟩ = some (.int .i64 t) := by rw [hcb _ _ (by simp)]; simp
              have d2 : ((wr.alloc (.cells #[.int .i64 f, .int .i64 t] 23)).drewN nq).cell? ⟨gg, o.length * 2 + 1, none⟩ = some (.int .i64 zt) := by rw [hcb _ _ (by simp; omega)]; exact c4
              have d3 : ((wr.alloc (.cells #[.int .i64 f, .int .i64 t] 23)).drewN nq).frozen? ⟨gg, o.length * 2 + 1, none⟩ = false := hou2.frozenAt _
              clear hcb hq hou1 hrw1 hal c1 c2 c3 c4
              generalize (wr.alloc (.cells #[.int .i64 f, .int .i64 t] 23)).drewN nq = Wq at *
              go_wp2_with fail
              go_region
              go_wp2_with fail
              go_roundw
              case rel =>
                have hst := hou2.stored (o.length * 2 + 1) (.int .i64 (max zt t))
                rw [set_last] at hst
                refine ⟨j + 1, by omega, by go_num, ?_, ?_, ?_, ?_⟩
                · rw [HS2.out]
                  first
                    | (rw [ite_max]; simpa using hst.1.drew)
                    | simpa using hst.1.drew
                · exact (hrw2.kept hst.2 (.inr (by simp [Value.ownBlock]; omega))).drew
                · exact (hal2.setCell (p := ⟨gg, o.length * 2 + 1, none⟩) (show w.heap.size ≤ gg by have := hb1.size; omega) _).drew
                · simpa using hqs
              case measure => simp [intOf]; omega
            · have hd : decide (f ≤ zt) = false := by simpa using hm
              have HS2 : Hid ((m.take (j + 1)).foldl Sched.step [] = (o ++ [(zf, zt)]) ++ [(f, t)]) := by
                show _ = _
                rw [HS.out]; simp [Sched.step, hm]
              clear HS hm
              go_wp2_with fail
              go_quiet (fail)
              have hq := below_drewN (Below.refl (wr.alloc (.cells #[.int .i64 f, .int .i64 t] 23)).heap.size (wr.alloc (.cells #[.int .i64 f, .int .i64 t] 23))) nq
              have hou2 := ow_below hou1 hq
              have hrw2 := ow_below hrw1 hq
              have hal2 := hal.trans (hq.mono hal.size)
              have hcb := bcell hq
              have hqs : w1.heap.size ≤ ((wr.alloc (.cells #[.int .i64 f, .int .i64 t] 23)).drewN nq).heap.size := Nat.le_trans (by simp; omega) hq.size
              clear hq hou1 hrw1 hal c1 c2 c3 c4
              generalize (wr.alloc (.cells #[.int .i64 f, .int .i64 t] 23)).drewN nq = Wq at *
              go_wp2_with (at_builtin; refine wpList_app1 E29 rfl _ _ rfl hou2 [.int .i64 f, .int .i64 t] rfl (cells2 rfl rfl) rfl rfl (by omega) hqs ?_; intro v' w3 hown3 hgrow)
              go_roundw
              case rel =>
                refine ⟨j + 1, by omega, by go_num, ?_, hrw2.kept hgrow (.inr (fun e => by have := hou2.lt gm e.symm; omega)), below_app hal2 hb1.size hou2 hgrow hal2.size, Nat.le_trans hqs hgrow.size⟩
                rw [HS2.out, fm_snoc, List.length_append, e]
                exact hown3
              case measure => simp [intOf]; omega
        · rw [List.take_of_length_le (by omega)] at hout
          have HR : Hid (nrmE l = m.foldl Sched.step [] ∧ errE l = 0) := by
            refine ⟨?_, ?_⟩
            · unfold nrmE; rw [HX.out]; exact HME.out.symm
            · unfold errE; rw [HX.out]; rfl
          have how := ow_below hout (Below.refl _ wr)
          clear hrow hout HME
          go_wp2_with fail
          go_ret2
          refine ⟨⟨_, by rw [HR.out.2]; rfl, ?_⟩, hbr⟩
          rw [HR.out.1]
          exact owns_base how hb1.size

end

/-! ### Bl -/
section
open Go.RowKit Go.Shelf
open Sched (Sp bad)

/-- A block that is known whole. -/
def Blk (w : World) (b : Nat) (t : TypeId) (cs : Array Value) : Prop := w.heap[b]? = some (.cells cs t (0, 0))
section
variable {w w' : World} {b : Nat} {t : TypeId} {cs : Array Value}
theorem Blk.lt (h : Blk w b t cs) : b < w.heap.size := (Array.getElem?_eq_some_iff.1 h).1
theorem Blk.cell (h : Blk w b t cs) (i : Nat) : w.cell? ⟨b, i, none⟩ = cs[i]? := cell_of_row w b i cs t (0, 0) h
theorem Blk.frozen (h : Blk w b t cs) (i : Nat) : w.frozen? ⟨b, i, none⟩ = false := by
  unfold Blk at h
  simp [World.frozen?, h]
theorem Blk.kept {row : Option Nat} (h : Blk w b t cs) (hg : w.grownBy w' row) (hne : some b ≠ row) : Blk w' b t cs := (hg.block b h.lt hne).trans h
theorem Blk.keep (h : Blk w b t cs) (hb : Below w.heap.size w w') : Blk w' b t cs := (hb.block _ h.lt).trans h
theorem Blk.set (h : Blk w b t cs) (i : Nat) (v : Value) : Blk (w.setCell ⟨b, i, none⟩ v) b t (cs.setIfInBounds i v) := by
  unfold Blk at h ⊢
  simp [World.setCell, Array.getElem?_modify, h]
theorem Blk.far (h : Blk w b t cs) {p : Addr} (hp : b ≠ p.block) (v : Value) : Blk (w.setCell p v) b t cs := (Below.heap_setCell w p v b hp).trans h
theorem Blk.new' (h : w.heap.size = b) : Blk (w.alloc (.cells cs t)) b t cs := by subst h; exact World.alloc_heap_new w _
theorem Blk.alloc (h : Blk w b t cs) (o : Obj) : Blk (w.alloc o) b t cs := h.kept (World.grownBy_alloc w o none) (by simp)
theorem Blk.own (b : Nat) (t : TypeId) (cs : Array Value) {β : Type} : ∀ (_ : β) W W' row, Blk W b t cs → W.grownBy W' row → (∀ r, row = some r → ∃ o : Obj, W.heap[r]? = some o ∧ o.isCells = false) → Blk W' b t cs := fun _ W W' row h hg hr => h.kept hg (fun e => by
  obtain ⟨o, ho, hc⟩ := hr b e.symm
  rw [show W.heap[b]? = _ from h] at ho; cases ho; cases hc)
theorem Blk.one {v0 : Value} (h : Blk w b t #[v0]) : w.cell? ⟨b, 0, none⟩ = some v0 := h.cell 0
theorem Blk.two {v0 v1 : Value} (h : Blk w b t #[v0, v1]) : w.cell? ⟨b, 0, none⟩ = some v0 ∧ w.cell? ⟨b, 1, none⟩ = some v1 := ⟨h.cell 0, h.cell 1⟩
theorem Blk.three {v0 v1 v2 : Value} (h : Blk w b t #[v0, v1, v2]) : w.cell? ⟨b, 0, none⟩ = some v0 ∧ w.cell? ⟨b, 1, none⟩ = some v1 ∧ w.cell? ⟨b, 2, none⟩ = some v2 := ⟨h.cell 0, h.cell 1, h.cell 2⟩
theorem Blk.four {v0 v1 v2 v3 : Value} (h : Blk w b t #[v0, v1, v2, v3]) : w.cell? ⟨b, 0, none⟩ = some v0 ∧ w.cell? ⟨b, 1, none⟩ = some v1 ∧ w.cell? ⟨b, 2, none⟩ = some v2 ∧ w.cell? ⟨b, 3, none⟩ = some v3 :=
  ⟨h.cell 0, h.cell 1, h.cell 2, h.cell 3⟩
theorem Blk.six {v0 v1 v2 v3 v4 v5 : Value} (h : Blk w b t #[v0, v1, v2, v3, v4, v5]) :
    w.cell? ⟨b, 0, none⟩ = some v0 ∧ w.cell? ⟨b, 1, none⟩ = some v1 ∧ w.cell? ⟨b, 2, none⟩ = some v2 ∧ w.cell? ⟨b, 3, none⟩ = some v3 ∧ w.cell? ⟨b, 4, none⟩ = some v4 ∧ w.cell? ⟨b, 5, none⟩ = some v5 :=
  ⟨h.cell 0, h.cell 1, h.cell 2, h.cell 3, h.cell 4, h.cell 5⟩
theorem Blk.eight {v0 v1 v2 v3 v4 v5 v6 v7 : Value} (h : Blk w b t #[v0, v1, v2, v3, v4, v5, v6, v7]) :
    w.cell? ⟨b, 0, none⟩ = some v0 ∧ w.cell? ⟨b, 1, none⟩ = some v1 ∧ w.cell? ⟨b, 2, none⟩ = some v2 ∧ w.cell? ⟨b, 3, none⟩ = some v3 ∧ w.cell? ⟨b, 4, none⟩ = some v4 ∧ w.cell? ⟨b, 5, none⟩ = some v5 ∧ w.cell? ⟨b, 6, none⟩ = some v6 ∧ w.cell? ⟨b, 7, none⟩ = some v7 :=
  ⟨h.cell 0, h.cell 1, h.cell 2, h.cell 3, h.cell 4, h.cell 5, h.cell 6, h.cell 7⟩
end

section
variable {w w' : World} {base : Nat} {e : TypeId} {size : Nat} {v : Value} {n : Nat} {xs : List Value}
theorem own_ne (h : w.ownsRow base e size v n xs) : v.ownBlock ≠ some w.heap.size := fun e' => by
  have := (h.lt _ e').2
  omega
theorem own_cells (h : w.ownsRow base e size v n xs) {j : Nat} {o : Obj} (hj : v.ownBlock = some j) (ho : w.heap[j]? = some o) : o.isCells = true := by
  rcases h.2 with ⟨rfl, _⟩ | ⟨g, cap, cur, rfl, hg, hh, _⟩
  · simp [Value.ownBlock] at hj
  · have : g = j := by simpa [Value.ownBlock] using hj
    subst this; rw [hh] at ho; cases ho; rfl
end
theorem grownBy_setCell (W : World) (p : Addr) (v : Value) : W.grownBy (W.setCell p v) (some p.block) :=
  ⟨rfl, rfl, rfl, by simp, fun k _ hk => Below.heap_setCell _ _ _ k (fun e => hk (by rw [e]))⟩

theorem run_equalIn_func_nil {P : Program} (w : World) (d : Nat) (t : TypeId) (ps rs : Array TypeId) (v : Bool) (f : Fn) (fi ca : Array Value) (h : P.underlying t = some (.func ps rs v)) :
    (Op.equalIn (d + 1) t (.func f fi ca) .nilFunc).run P w = .ok false w := by
  simp [Op.equalIn, run_underlying h]
/-- 'f == nil', f a function that is there. -/
theorem run_eql_func_nil {P : Program} (w : World) (t : TypeId) (ps rs : Array TypeId) (v : Bool) (f : Fn) (fi ca : Array Value) (h : P.underlying t = some (.func ps rs v)) :
    (binOp .eql t (.func f fi ca) .nilFunc).run P w = .ok (.bool false) w := by
  simp only [binOp]
  simp [Op.equal, Op.maxDepth, run_equalIn_func_nil w 9999 t ps rs v f fi ca h]

theorem ownsRow_mono {w : World} {base base' : Nat} {e : TypeId} {size : Nat} {v : Value} {n : Nat} {xs : List Value} (h : w.ownsRow base e size v n xs) (hb : base' ≤ base) : w.ownsRow base' e size v n xs := by
  refine ⟨h.1, ?_⟩
  rcases h.2 with h2 | ⟨g, cap, cur, rfl, hg, h3⟩
  · exact .inl h2
  · exact .inr ⟨g, cap, cur, rfl, Nat.le_trans hb hg, h3⟩
theorem ownsRow_ne {w : World} {base : Nat} {e : TypeId} {size : Nat} {v : Value} {n : Nat} {xs : List Value} (h : w.ownsRow base e size v n xs) {j : Nat} (hj : j < base) : v.ownBlock ≠ some j := by
  rcases h.2 with ⟨rfl, _⟩ | ⟨g, cap, cur, rfl, hg, _⟩
  · simp [Value.ownBlock]
  · simp [Value.ownBlock]; omega
theorem keptSet {w : World} {base : Nat} {e : TypeId} {size : Nat} {v : Value} {n : Nat} {xs : List Value} (h : w.ownsRow base e size v n xs) {b i : Nat} (hb : b < base) (x : Value) : (w.setCell ⟨b, i, none⟩ x).ownsRow base e size v n xs :=
  h.kept (grownBy_setCell w ⟨b, i, none⟩ x) (.inr (ownsRow_ne h hb))
theorem keptLow {w w' : World} {base : Nat} {e : TypeId} {size : Nat} {v : Value} {n : Nat} {xs : List Value} {b : Nat} {t : TypeId} {cs : Array Value} (h : Blk w b t cs) (hg : w.grownBy w' v.ownBlock) (ho : w.ownsRow base e size v n xs) (hb : b < base) : Blk w' b t cs :=
  h.kept hg fun e => ownsRow_ne ho hb e.symm
/-- Blocks that are known whole, and that nothing below w's end has changed. -/
def Bx (w W : World) (l : List (Nat × TypeId × Array Value)) : Prop := (∀ x ∈ l, Blk W x.1 x.2.1 x.2.2) ∧ Below w.heap.size w W
section
variable {w W W' : World} {l : List (Nat × TypeId × Array Value)}
theorem Bx.nil (w : World) : Bx w w [] := ⟨by simp, Below.refl _ _⟩
theorem Bx.get (h : Bx w W l) (i : Nat) {b : Nat} {t : TypeId} {cs : Array Value} (hi : l[i]? = some (b, t, cs)) : Blk W b t cs := h.1 _ (List.mem_of_getElem? hi)
theorem Bx.at (h : Bx w W l) (i j : Nat) {b : Nat} {t : TypeId} {cs : Array Value} {v : Value} (hi : l[i]? = some (b, t, cs)) (hj : cs[j]? = some v) : W.cell? ⟨b, j, none⟩ = some v := ((h.get i hi).cell j).trans hj
theorem Bx.fz (h : Bx w W l) (i j : Nat) {b : Nat} {t : TypeId} {cs : Array Value} (hi : l[i]? = some (b, t, cs)) : W.frozen? ⟨b, j, none⟩ = false := (h.get i hi).frozen j
theorem Bx.keep (h : Bx w W l) (hb : Below W.heap.size W W') : Bx w W' l := ⟨fun x hx => (h.1 x hx).keep hb, h.2.trans (hb.mono h.2.size)⟩
theorem Bx.drew (h : Bx w W l) : Bx w W.drew l := h.keep (Below.refl _ _).drew
theorem Bx.skip (h : Bx w W l) (o : Obj) : Bx w (W.alloc o) l := h.keep (below1 W o)
theorem Bx.new (h : Bx w W l) {b : Nat} (cs : Array Value) (t : TypeId) (hb : W.heap.size = b) : Bx w (W.alloc (.cells cs t)) (l ++ [(b, t, cs)]) := by
  refine ⟨fun x hx => ?_, (h.skip _).2⟩
  rcases List.mem_append.1 hx with hx | hx
  · exact (h.1 x hx).alloc _
  · obtain rfl := List.mem_singleton.1 hx
    exact Blk.new' hb
theorem Bx.set (h : Bx w W l) (k : Nat) {b : Nat} {t : TypeId} {cs : Array Value} (hk : l[k]? = some (b, t, cs)) (hd : ∀ x ∈ l.eraseIdx k, x.1 ≠ b) (hb : w.heap.size ≤ b) (i : Nat) (v : Value) :
    Bx w (W.setCell ⟨b, i, none⟩ v) (l.set k (b, t, cs.setIfInBounds i v)) := by
  refine ⟨fun x hx => ?_, h.2.setCell (by simpa using hb) _⟩
  obtain ⟨j, hj⟩ := List.getElem?_of_mem hx
  by_cases hjk : k = j
  · subst hjk
    have hlt := (List.getElem?_eq_some_iff.1 hk).1
    rw [List.getElem?_set_self hlt] at hj
    cases hj
    exact (h.get k hk).set i v
  · rw [List.getElem?_set_ne hjk] at hj
    have hm : x ∈ l.eraseIdx k := List.mem_iff_getElem?.2 (by
      rcases Nat.lt_or_gt_of_ne hjk with hlt | hlt
      · exact ⟨j - 1, by rw [List.getElem?_eraseIdx, if_neg (by omega), show j - 1 + 1 = j by omega]; exact hj⟩
      · exact ⟨j, by rw [List.getElem?_eraseIdx, if_pos hlt]; exact hj⟩)
    exact (h.1 x (List.mem_of_getElem? hj)).far (fun e => hd x hm e) v
theorem Bx.far (h : Bx w W l) {p : Addr} (hd : ∀ x ∈ l, x.1 ≠ p.block) (hb : w.heap.size ≤ p.block) (v : Value) : Bx w (W.setCell p v) l :=
  ⟨fun x hx => (h.1 x hx).far (hd x hx) v, h.2.setCell hb _⟩
theorem Bx.lt (h : Bx w W l) (i : Nat) {b : Nat} {t : TypeId} {cs : Array Value} (hi : l[i]? = some (b, t, cs)) : b < W.heap.size := (h.get i hi).lt
/-- Behind a turn of one row that the call owns. -/
theorem Bx.kept (h : Bx w W l) {base : Nat} {e : TypeId} {size : Nat} {v : Value} {n : Nat} {xs : List Value} (hg : W.grownBy W' v.ownBlock) (ho : W.ownsRow base e size v n xs)
    (hd : ∀ x ∈ l, v.ownBlock ≠ some x.1) (hb : w.heap.size ≤ base) : Bx w W' l :=
  ⟨fun x hx => (h.1 x hx).kept hg (fun e => hd x hx e.symm), below_app h.2 hb ho hg h.2.size⟩
end

end

/-! ### Q1 -/
section
open Go.RowKit Go.Shelf
open Sched (Sp bad)

def pcnt (st : List Sp × Sp × Bool) : Nat := st.1.length + (if st.2.2 then 0 else 1)
theorem pcnt_step (st : List Sp × Sp × Bool) (x : Sp) : pcnt (Sched.pstep st x) ≤ pcnt st + 1 := by
  obtain ⟨o, s, d⟩ := st
  unfold pcnt Sched.pstep
  dsimp only
  by_cases h1 : x.2 < s.1
  · rw [if_pos h1]; cases d <;> simp
  · rw [if_neg h1]
    by_cases h2 : s.2 < x.1
    · rw [if_pos h2]; cases d <;> simp
    · rw [if_neg h2]; cases d <;> simp
theorem pcnt_fold : ∀ (l : List Sp) (st : List Sp × Sp × Bool), pcnt (l.foldl Sched.pstep st) ≤ pcnt st + l.length
  | [], _ => by simp
  | x :: l, st => by
    have h1 := pcnt_fold l (Sched.pstep st x)
    have h2 := pcnt_step st x
    simp only [List.foldl_cons, List.length_cons]
    omega
theorem put_len' (l : List Sp) (s : Sp) : (Sched.put l s).length ≤ l.length + 1 := by
  have h := pcnt_fold l ([], s, false)
  unfold Sched.put
  unfold pcnt at h
  split <;> rename_i hd <;> simp [hd] at h ⊢ <;> omega
theorem pstep_I64 {st : List Sp × Sp × Bool} {x : Sp} (h : (∀ y ∈ st.1, I64 y.1 ∧ I64 y.2) ∧ I64 st.2.1.1 ∧ I64 st.2.1.2) (hx : I64 x.1 ∧ I64 x.2) :
    (∀ y ∈ (Sched.pstep st x).1, I64 y.1 ∧ I64 y.2) ∧ I64 (Sched.pstep st x).2.1.1 ∧ I64 (Sched.pstep st x).2.1.2 := by
  obtain ⟨o, s, d⟩ := st
  obtain ⟨h1, h2, h3⟩ := h
  unfold Sched.pstep
  dsimp only at *
  have app : ∀ {o : List Sp} {x : Sp}, (∀ y ∈ o, I64 y.1 ∧ I64 y.2) → (I64 x.1 ∧ I64 x.2) → ∀ y ∈ o ++ [x], I64 y.1 ∧ I64 y.2 := fun ho hx y hy => by
    rcases List.mem_append.1 hy with hy | hy
    · exact ho y hy
    · obtain rfl := List.mem_singleton.1 hy; exact hx
  by_cases c1 : x.2 < s.1
  · rw [if_pos c1]; exact ⟨app h1 hx, h2, h3⟩
  · rw [if_neg c1]
    by_cases c2 : s.2 < x.1
    · rw [if_pos c2]
      refine ⟨?_, h2, h3⟩
      cases d
      · exact app (app h1 ⟨h2, h3⟩) hx
      · exact app h1 hx
    · rw [if_neg c2]
      refine ⟨h1, ?_, ?_⟩
      · dsimp only; unfold I64 at *; omega
      · dsimp only; unfold I64 at *; omega
theorem pfold_I64 : ∀ (l : List Sp) (st : List Sp × Sp × Bool), ((∀ y ∈ st.1, I64 y.1 ∧ I64 y.2) ∧ I64 st.2.1.1 ∧ I64 st.2.1.2) → (∀ s ∈ l, I64 s.1 ∧ I64 s.2) →
    ((∀ y ∈ (l.foldl Sched.pstep st).1, I64 y.1 ∧ I64 y.2) ∧ I64 (l.foldl Sched.pstep st).2.1.1 ∧ I64 (l.foldl Sched.pstep st).2.1.2)
  | [], _, h, _ => h
  | x :: l, _, h, hl => pfold_I64 l _ (pstep_I64 h (hl x List.mem_cons_self)) fun s hs => hl s (List.mem_cons_of_mem _ hs)
theorem put_I64 {l : List Sp} {s : Sp} (hl : ∀ s ∈ l, I64 s.1 ∧ I64 s.2) (hs : I64 s.1 ∧ I64 s.2) : ∀ y ∈ Sched.put l s, I64 y.1 ∧ I64 y.2 := by
  obtain ⟨h1, h2⟩ := pfold_I64 l ([], s, false) ⟨by simp, hs⟩ hl
  unfold Sched.put
  split
  · exact h1
  · intro y hy
    rcases List.mem_append.1 hy with hy | hy
    · exact h1 y hy
    · obtain rfl := List.mem_singleton.1 hy; exact h2
theorem pfold_snoc {l : List Sp} {k : Nat} {x : Sp} (st : List Sp × Sp × Bool) (h : l[k]? = some x) : (l.take (k + 1)).foldl Sched.pstep st = Sched.pstep ((l.take k).foldl Sched.pstep st) x := by
  have hk := (List.getElem?_eq_some_iff.1 h).1
  rw [List.take_succ_eq_append_getElem hk, List.foldl_append, (List.getElem?_eq_some_iff.1 h).2]; rfl
theorem Spans.cell {w : World} {a : Option Addr} {n cap : Nat} {l : List Sp} (h : Spans w (.slice a n cap) l) {k : Nat} {x : Sp} (hx : l[k]? = some x) :
    ∃ b off, a = some ⟨b, off, none⟩ ∧ b < w.heap.size ∧ w.cell? ⟨b, off + k * 2, none⟩ = some (.int .i64 x.1) ∧ w.cell? ⟨b, off + k * 2 + 1, none⟩ = some (.int .i64 x.2) := by
  obtain ⟨b, off, rfl, hb, hc⟩ := h.row (by rintro rfl; simp at hx)
  have hk := (List.getElem?_eq_some_iff.1 hx).1
  obtain ⟨c1, c2⟩ := hc k hk
  have : l.getD k (0, 0) = x := by simp [List.getD_eq_getElem?_getD, hx]
  rw [this] at c1 c2
  exact ⟨b, off, rfl, hb, c1, c2⟩

set_option maxRecDepth 100000 in
set_option maxHeartbeats 3200000 in
theorem rput_any (l : List Sp) (v : Value) (s : Sp) (w : World) (h : Spans w v l) (hl : l.length ≤ 1000) :
    Calls Try.prog 59 #[v, spv s] w fun e w' => (∃ v', e = .returned v' ∧ w'.ownsRow w.heap.size 23 2 v' (Sched.put l s).length ((Sched.put l s).flatMap encSp)) ∧ Below w.heap.size w w' := by
  have HS := Lib.hid h
  obtain ⟨a, c, rfl, -⟩ := h.shape
  obtain ⟨P, hP⟩ : ∃ P : Nat → List Sp × Sp × Bool, P = fun k => (l.take k).foldl Sched.pstep ([], s, false) := ⟨_, rfl⟩
  have HP0 : Hid (P 0 = ([], s, false)) := by show _ = _; rw [hP]; rfl
  have HP1 : Hid (∀ k x, l[k]? = some x → P (k + 1) = Sched.pstep (P k) x) := fun k x hx => by rw [hP]; exact pfold_snoc _ hx
  have HPE : Hid (Sched.put l s = if (P l.length).2.2 then (P l.length).1 else (P l.length).1 ++ [(P l.length).2.1]) := by show _ = _; rw [hP]; simp only [List.take_length]; rfl
  have HPC : Hid (∀ k, (P k).1.length ≤ k + 1) := fun k => by
    have h1 := pcnt_fold (l.take k) ([], s, false)
    have h2 : (l.take k).length ≤ k := List.length_take_le _ _
    rw [hP]
    unfold pcnt at h1
    simp only [List.length_nil] at h1 ⊢
    split at h1 <;> simp at h1 <;> omega
  clear hP h
  generalize Sched.put l s = R at *
  obtain ⟨sf, st⟩ := s
  unfold spv
  generalize hn : l.length = n at *
  have HN := Lib.hid hn
  clear hn
  have HB : Hid (Blk (w.alloc (.cells #[.int .i64 sf, .int .i64 st] 23)) w.heap.size 23 #[.int .i64 sf, .int .i64 st]) := (Blk.new' rfl : Blk _ _ _ _)
  have HW := Lib.hid (below1 w (.cells #[.int .i64 sf, .int .i64 st] 23))
  go_enter Try.func59, Try.ntmps59
  go_wp2_with fail
  generalize hw1 : w.alloc (.cells #[.int .i64 sf, .int .i64 st] 23) = w1 at *
  have hs1 : w.heap.size + 1 ≤ w1.heap.size := by rw [← hw1]; simp
  clear hw1
  go_loopw [5, 6, 7] (fun u d i wr => ∃ k : Nat, k ≤ n ∧ i = .int .i64 k ∧ d = .bool (P k).2.2 ∧ Hid (wr.ownsRow (w.heap.size + 1) 23 2 u (P k).1.length ((P k).1.flatMap encSp)) ∧ Hid (Blk wr w.heap.size 23 #[.int .i64 (P k).2.1.1, .int .i64 (P k).2.1.2]) ∧ Hid (Below w.heap.size w wr ∧ w.heap.size + 1 ≤ wr.heap.size)) (fun _ _ i _ => n - (intOf i).toNat)
  case atStart => exact ⟨0, Nat.zero_le _, rfl, by rw [HP0.out], by rw [HP0.out]; exact World.ownsRow_nil _ _ _ _, by rw [HP0.out]; exact HB.out, HW.out, hs1⟩
  case round =>
    clear HB HW hs1
    obtain ⟨k, hk, rfl, rfl, HO, HB, HW⟩ := hrel
    by_cases hlt : k < n
    · obtain ⟨x, hx⟩ : ∃ x, l[k]? = some x := ⟨_, List.getElem?_eq_getElem (by rw [HN.out]; exact hlt)⟩
      have HQ := Lib.hid (HP1.out k x hx)
      have hc := HPC.out k
      obtain ⟨b, off, rfl, hbl, c1, c2⟩ := (HS.out.below HW.out.1).cell hx
      clear hx
      generalize P k = Pk at *
      obtain ⟨O, ⟨sf, st⟩, D⟩ := Pk
      obtain ⟨f, t⟩ := x
      simp only at c1 c2 hc
      have hsz := HW.out.2
      have HNX := Lib.hid (own_ne HO.out)
      have HX : Hid (Blk (wr.alloc (.cells #[.int .i64 f, .int .i64 t] 23)) wr.heap.size 23 #[.int .i64 f, .int .i64 t]) := (Blk.new' rfl : Blk _ _ _ _)
      have HBx : Hid (Below wr.heap.size wr (wr.alloc (.cells #[.int .i64 f, .int .i64 t] 23))) := below1 _ _
      go_upto_region 7 with fail
      replace HO := Lib.hid (ow_below HO.out HBx.out)
      replace HB := Lib.hid (HB.out.keep HBx.out)
      replace HW : Hid (Below w.heap.size w _ ∧ w.heap.size + 1 ≤ _) := ⟨HW.out.1.trans (HBx.out.mono HW.out.1.size), Nat.le_trans HW.out.2 HBx.out.size⟩
      clear c1 c2 HBx hbl
      generalize wr.heap.size = bx at *
      generalize wr.alloc (.cells #[.int .i64 f, .int .i64 t] 23) = w2 at *
      simp only at HO HB
      obtain ⟨x0, x1⟩ := HX.out.two
      obtain ⟨s0, s1⟩ := HB.out.two
      have hz := HX.out.lt
      have hsz2 := HW.out.2
      by_cases c1 : t < sf
      · have HQ2 : Hid (P (k + 1) = (O ++ [(f, t)], (sf, st), D)) := by show _ = _; rw [HQ.out]; simp [Sched.pstep, c1]
        clear HQ
        go_wp2_with (at_builtin; refine wpList_app1 E29 rfl _ _ rfl HO.out [.int .i64 f, .int .i64 t] rfl (cells2 rfl rfl) rfl rfl (by omega) hsz2 ?_; intro v' w3 ho hg)
        go_roundw
        case rel => exact ⟨k + 1, by omega, by go_num, by rw [HQ2.out], by rw [HQ2.out, fm_snoc]; show World.ownsRow _ _ _ _ _ _ _; simpa using ho, by rw [HQ2.out]; exact keptLow HB.out hg HO.out (by omega), below_app HW.out.1 (by omega) HO.out hg HW.out.1.size, Nat.le_trans hsz2 hg.size⟩
        case measure => simp [intOf]; omega
      · by_cases c2 : st < f
        · cases D
          · have HQ2 : Hid (P (k + 1) = (O ++ [(sf, st)] ++ [(f, t)], (sf, st), true)) := by show _ = _; rw [HQ.out]; simp [Sched.pstep, c1, c2]
            clear HQ
            go_upto_region 12 with (at_builtin; refine wpList_app1 E29 rfl _ _ rfl HO.out [.int .i64 sf, .int .i64 st] rfl (cells2 rfl rfl) rfl rfl (by omega) hsz2 ?_; intro v' w3 ho hg)
            have HO3 := Lib.hid ho
            have HB3 := Lib.hid (keptLow HB.out hg HO.out (by omega))
            have HW3 := Lib.hid (below_app HW.out.1 (by omega) HO.out hg HW.out.1.size)
            have HX3 := Lib.hid (HX.out.kept hg (fun e => HNX.out e.symm))
            have hsz3 : w.heap.size + 1 ≤ w3.heap.size := Nat.le_trans hsz2 hg.size
            clear ho hg x0 x1 s0 s1 hz HX HO HB HW HNX
            obtain ⟨x0, x1⟩ := HX3.out.two
            have hz := HX3.out.lt
            go_wp2_with (at_builtin; refine wpList_app1 E29 rfl _ _ rfl HO3.out [.int .i64 f, .int .i64 t] rfl (cells2 rfl rfl) rfl rfl (by omega) hsz3 ?_; intro v4 w4 ho hg)
            go_roundw
            case rel => exact ⟨k + 1, by omega, by go_num, by rw [HQ2.out], by rw [HQ2.out, fm_snoc, fm_snoc]; show World.ownsRow _ _ _ _ _ _ _; simpa using ho, by rw [HQ2.out]; exact keptLow HB3.out hg HO3.out (by omega), below_app HW3.out (by omega) HO3.out hg HW3.out.size, Nat.le_trans hsz3 hg.size⟩
            case measure => simp [intOf]; omega
          · have HQ2 : Hid (P (k + 1) = (O ++ [(f, t)], (sf, st), true)) := by show _ = _; rw [HQ.out]; simp [Sched.pstep, c1, c2]
            clear HQ
            go_wp2_with (at_builtin; refine wpList_app1 E29 rfl _ _ rfl HO.out [.int .i64 f, .int .i64 t] rfl (cells2 rfl rfl) rfl rfl (by omega) hsz2 ?_; intro v' w3 ho hg)
            go_roundw
            case rel => exact ⟨k + 1, by omega, by go_num, by rw [HQ2.out], by rw [HQ2.out, fm_snoc]; show World.ownsRow _ _ _ _ _ _ _; simpa using ho, by rw [HQ2.out]; exact keptLow HB.out hg HO.out (by omega), below_app HW.out.1 (by omega) HO.out hg HW.out.1.size, Nat.le_trans hsz2 hg.size⟩
            case measure => simp [intOf]; omega
        · have HQ2 : Hid (P (k + 1) = (O, (min sf f, max st t), D)) := by show _ = _; rw [HQ.out]; simp [Sched.pstep, c1, c2]
          clear HQ
          have fs0 := HB.out.frozen 0
          have fs1 := HB.out.frozen 1
          have HB2 : Hid (Blk ((w2.setCell ⟨w.heap.size, 0, none⟩ (.int .i64 (min sf f))).setCell ⟨w.heap.size, 1, none⟩ (.int .i64 (max st t))) w.heap.size 23 #[.int .i64 (min sf f), .int .i64 (max st t)]) := by show Blk _ _ _ _; simpa using (HB.out.set 0 (.int .i64 (min sf f))).set 1 (.int .i64 (max st t))
          have HO2 := Lib.hid (keptSet (keptSet HO.out (b := w.heap.size) (i := 0) (by omega) (.int .i64 (min sf f))) (b := w.heap.size) (i := 1) (by omega) (.int .i64 (max st t)))
          have HW2 := Lib.hid ((HW.out.1.setCell (p := ⟨w.heap.size, 0, none⟩) (by simp) (.int .i64 (min sf f))).setCell (p := ⟨w.heap.size, 1, none⟩) (by simp) (.int .i64 (max st t)))
          go_upto_region 5 with fail
          clear fs0 fs1 x0 x1 s0 s1 hz HX HO HB HNX
          have hsz3 : w.heap.size + 1 ≤ ((w2.setCell ⟨w.heap.size, 0, none⟩ (.int .i64 (min sf f))).setCell ⟨w.heap.size, 1, none⟩ (.int .i64 (max st t))).heap.size := by simpa using hsz2
          generalize (w2.setCell ⟨w.heap.size, 0, none⟩ (.int .i64 (min sf f))).setCell ⟨w.heap.size, 1, none⟩ (.int .i64 (max st t)) = w3 at *
          go_wp2
          go_roundw
          case rel => exact ⟨k + 1, by omega, by go_num, by rw [HQ2.out], by rw [HQ2.out]; exact HO2.out, by rw [HQ2.out]; exact HB2.out, HW2.out, hsz3⟩
          case measure => simp [intOf]; omega
    · obtain rfl : n = k := by omega
      have hc := HPC.out n
      generalize P n = Pk at *
      obtain ⟨O, ⟨sf, st⟩, D⟩ := Pk
      simp only at hc HO HB HPE
      obtain ⟨s0, s1⟩ := HB.out.two
      have hz := HB.out.lt
      have hsz2 := HW.out.2
      cases D
      · have HR : Hid (R = O ++ [(sf, st)]) := by show _ = _; rw [HPE.out]; rfl
        clear HPE
        go_wp2_with (at_builtin; refine wpList_app1 E29 rfl _ _ rfl HO.out [.int .i64 sf, .int .i64 st] rfl (cells2 rfl rfl) rfl rfl (by omega) hsz2 ?_; intro v' w3 ho hg)
        go_ret
        refine ⟨⟨v', rfl, ?_⟩, below_app HW.out.1 (by omega) HO.out hg HW.out.1.size⟩
        rw [HR.out, fm_snoc]
        exact ownsRow_mono (by simpa using ho) (by omega)
      · have HR : Hid (R = O) := by show _ = _; rw [HPE.out]; rfl
        clear HPE
        go_wp2
        go_ret
        refine ⟨⟨_, rfl, ?_⟩, HW.out.1⟩
        rw [HR.out]
        exact ownsRow_mono HO.out (by omega)

def nto (l : List Sp) (k : Nat) : List Sp := (Sched.solid (l.take k)).foldl Sched.put []
theorem nto_step {l : List Sp} {k : Nat} {x : Sp} (h : l[k]? = some x) : nto l (k + 1) = if x.1 < x.2 then Sched.put (nto l k) x else nto l k := by
  have hk := (List.getElem?_eq_some_iff.1 h).1
  unfold nto Sched.solid
  rw [List.take_succ_eq_append_getElem hk, List.filter_append, (List.getElem?_eq_some_iff.1 h).2]
  by_cases hx : x.1 < x.2 <;> simp [hx]
theorem nto_good {l : List Sp} (hl : ∀ s ∈ l, I64 s.1 ∧ I64 s.2) : ∀ k, k ≤ l.length → (nto l k).length ≤ k ∧ ∀ s ∈ nto l k, I64 s.1 ∧ I64 s.2
  | 0, _ => by simp [nto, Sched.solid]
  | k + 1, hk => by
    obtain ⟨h1, h2⟩ := nto_good hl k (by omega)
    obtain ⟨x, hx⟩ : ∃ x, l[k]? = some x := ⟨_, List.getElem?_eq_getElem (by omega)⟩
    rw [nto_step hx]
    split
    · have := put_len' (nto l k) x
      exact ⟨by omega, put_I64 h2 (hl x (List.mem_of_getElem? hx))⟩
    · exact ⟨by omega, h2⟩
theorem any_snoc' {α : Type} {l : List α} {k : Nat} {s : α} (p : α → Bool) (h : l[k]? = some s) : (l.take (k + 1)).any p = ((l.take k).any p || p s) := by
  have hk := (List.getElem?_eq_some_iff.1 h).1
  rw [List.take_succ_eq_append_getElem hk, List.any_append, (List.getElem?_eq_some_iff.1 h).2]; simp

set_option maxRecDepth 100000 in
set_option maxHeartbeats 3200000 in
theorem rnorm_any (l : List Sp) (v : Value) (w : World) (h : Spans w v l) (hl : l.length ≤ 1000) : Calls Try.prog 51 #[v] w (NormPost l w) := by
  have HS := Lib.hid h
  have HI := Lib.hid h.bd
  obtain ⟨a, c, rfl, -⟩ := h.shape
  have HN1 := Lib.hid (fun k x => @nto_step l k x)
  have HNG := Lib.hid (nto_good h.bd)
  have HNE : Hid (nto l l.length = Sched.nrm l) := by show _ = _; unfold nto Sched.nrm; rw [List.take_length]
  have HN0 : Hid (nto l 0 = []) := by show _ = _; simp [nto, Sched.solid]
  clear h
  generalize nto l = N at *
  generalize hn : l.length = n at *
  have HN := Lib.hid hn
  clear hn
  go_enter Try.func51, Try.ntmps51
  go_wp2_with fail
  go_loopw [5] (fun i wr => ∃ k : Nat, k ≤ n ∧ i = .int .i64 k ∧ Hid ((l.take k).any bad = false) ∧ Hid (Below w.heap.size w wr)) (fun i _ => n - (intOf i).toNat)
  case atStart => exact ⟨0, Nat.zero_le _, rfl, by show _ = _; simp, Below.refl _ _⟩
  case round =>
    obtain ⟨k, hk, rfl, HB, HW⟩ := hrel
    by_cases hlt : k < n
    · obtain ⟨x, hx⟩ : ∃ x, l[k]? = some x := ⟨_, List.getElem?_eq_getElem (by rw [HN.out]; exact hlt)⟩
      have HQ := Lib.hid (any_snoc' bad hx)
      have HA : Hid (bad x = true → l.any bad = true) := fun h => List.any_eq_true.2 ⟨_, List.mem_of_getElem? hx, h⟩
      obtain ⟨b, off, rfl, hbl, c1, c2⟩ := (HS.out.below HW.out).cell hx
      clear hx
      obtain ⟨f, t⟩ := x
      simp only at c1 c2
      have hck := rcheck_any f t wr
      unfold spv at hck
      by_cases hbd : bad (f, t) = true
      · have hz : chk (f, t) = 60 := if_pos hbd
        have HX : Hid (l.any bad = true) := HA.out hbd
        rw [hz] at hck
        clear hbd hz HA
        go_wp2_with fail
        refine hck.mono ?_
        rintro e w1 ⟨rfl, hb1⟩
        clear hck
        go_wp2
        go_ret2
        refine ⟨⟨.slice none 0 0, by unfold errE; rw [HX.out]; rfl, ?_⟩, HW.out.trans (hb1.mono HW.out.size)⟩
        unfold nrmE
        rw [HX.out]
        exact World.ownsRow_nil _ _ _ _
      · have hz : chk (f, t) = 0 := if_neg hbd
        have HB2 : Hid ((l.take (k + 1)).any bad = false) := by show _ = _; rw [HQ.out, HB.out]; simpa using hbd
        rw [hz] at hck
        clear hbd hz HA
        go_wp2_with fail
        refine hck.mono ?_
        rintro e w1 ⟨rfl, hb1⟩
        clear hck
        go_wp2
        go_roundw
        case rel => exact ⟨k + 1, by omega, by go_num, HB2, HW.out.trans (hb1.mono HW.out.size)⟩
        case measure => simp [intOf]; omega
    · obtain rfl : n = k := by omega
      have HX : Hid (l.any bad = false) := by have := HB.out; rwa [← HN.out, List.take_length] at this
      clear HB
      go_wp2_with fail
      go_loopw [4, 6] (fun u i wz => ∃ k : Nat, k ≤ n ∧ i = .int .i64 k ∧ Hid (wz.ownsRow w.heap.size 23 2 u (N k).length ((N k).flatMap encSp)) ∧ Hid (Below w.heap.size w wz)) (fun _ i _ => n - (intOf i).toNat)
      case atStart => exact ⟨0, Nat.zero_le _, rfl, by rw [HN0.out]; exact World.ownsRow_nil _ _ _ _, HW⟩
      case round =>
        clear HW
        obtain ⟨k, hk, rfl, HO, HW⟩ := hrel
        by_cases hlt2 : k < n
        · obtain ⟨x, hx⟩ : ∃ x, l[k]? = some x := ⟨_, List.getElem?_eq_getElem (by rw [HN.out]; exact hlt2)⟩
          have HQ := Lib.hid (HN1.out k x hx)
          have hxi := HI.out x (List.mem_of_getElem? hx)
          obtain ⟨b, off, rfl, hbl, c1, c2⟩ := (HS.out.below HW.out).cell hx
          obtain ⟨hg1, hg2⟩ := HNG.out k hk
          obtain ⟨ao, co, rfl, -⟩ := owns_shape HO.out
          clear hx
          obtain ⟨f, t⟩ := x
          simp only at c1 c2 HQ
          go_upto_region 10 with fail
          by_cases hft : f < t
          · go_quiet (fail)
            generalize hW : World.drewN _ _ = w2 at *
            have hb2 : Below wr.heap.size wr w2 := by rw [← hW]; exact below_drewN (Below.refl _ _) _
            clear hW
            have d1 := (bcell hb2 b (off + k * 2) hbl).trans c1
            have d2 := (bcell hb2 b (off + k * 2 + 1) hbl).trans c2
            replace HO := Lib.hid (ow_below HO.out hb2)
            replace HW := Lib.hid (HW.out.trans (hb2.mono HW.out.size))
            clear c1 c2 hb2
            have hput := rput_any (N k) _ (f, t) w2 (Spans.of_owns HO.out (by omega) hg2) (by omega)
            have HQ2 : Hid (N (k + 1) = Sched.put (N k) (f, t)) := HQ.out.trans (if_pos hft)
            clear HQ hg2
            unfold spv at hput
            go_wp2_with fail
            refine hput.mono ?_
            rintro e w3 ⟨⟨v3, rfl, ho⟩, hb3⟩
            clear hput d1 d2
            have hsz := HW.out.size
            go_wp2
            go_roundw
            case rel => exact ⟨k + 1, by omega, by go_num, by rw [HQ2.out]; exact ownsRow_mono ho hsz, HW.out.trans (hb3.mono hsz)⟩
            case measure => simp [intOf]; omega
          · have hd : decide (f < t) = false := by simpa using hft
            have HQ2 : Hid (N (k + 1) = N k) := HQ.out.trans (if_neg hft)
            go_quiet (fail)
            generalize hW : World.drewN _ _ = w2 at *
            have hb2 : Below wr.heap.size wr w2 := by rw [← hW]; exact below_drewN (Below.refl _ _) _
            clear hW
            replace HO := Lib.hid (ow_below HO.out hb2)
            replace HW := Lib.hid (HW.out.trans (hb2.mono HW.out.size))
            clear c1 c2 hb2 HQ
            go_wp2
            go_roundw
            case rel => exact ⟨k + 1, by omega, by go_num, by rw [HQ2.out]; exact HO.out, HW⟩
            case measure => simp [intOf]; omega
        · obtain rfl : n = k := by omega
          rw [HNE.out] at HO
          go_wp2
          go_ret2
          refine ⟨⟨_, by unfold errE; rw [HX.out]; rfl, ?_⟩, HW.out⟩
          unfold nrmE
          rw [HX.out]
          exact HO.out

end
end Go.Proofs.Ytehgiagefiakkaa.Nm
