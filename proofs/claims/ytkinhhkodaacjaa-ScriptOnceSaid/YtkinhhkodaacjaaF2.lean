/- cmp.Compare, cmp.Or. Faults: their cells, which comes ahead. -/
import Derived.Test.YtkinhhkodaacjaaLA
import Derived.Sort.CutIn
import Derived.Test.YtkinhhkodaacjaaProg
import Derived.OwnWalk
import Derived.Sort.Grow
import Derived.Deep.Draws
namespace Go.Proofs.Ytkinhhkodaacjaa
open Go.RowKit

theorem isNaN_any (x : Int) (w : World) : Calls Try.prog 64 #[.int .i64 x] w fun e w' => e = .returned (.bool false) ∧ w = w' := by
  go_enter Try.func64, Try.ntmps64
  go_wp2
  go_ret
  exact ⟨ret_bool (by simp), rfl⟩
def cmpI (x y : Int) : Int := if x < y then -1 else if y < x then 1 else 0
theorem compareI_any (x y : Int) (w : World) : Calls Try.prog 32 #[.int .i64 x, .int .i64 y] w fun e w' => e = .returned (.int .i64 (cmpI x y)) ∧ w = w' := by
  go_enter Try.func32, Try.ntmps32
  go_wp2_with (go_at_call 64; refine (isNaN_any _ _).mono ?_; rintro e w' ⟨rfl, rfl⟩)
  all_goals go_ret
  all_goals refine ⟨ret_int ?_, rfl⟩
  all_goals (unfold cmpI; first | (rw [if_pos (by omega)]) | (rw [if_neg (by omega), if_pos (by omega)]) | (rw [if_neg (by omega), if_neg (by omega)]))

/-- The first number that is not 0. -/
def orL : List Int → Int
  | [] => 0
  | x :: l => if x = 0 then orL l else x
set_option maxHeartbeats 1600000 in
theorem or_any (v : Value) (l : List Int) (w : World) (h : Rd (encI .i64) 1 w v l) :
    Calls Try.prog 31 #[v] w fun e w' => e = .returned (.int .i64 (orL l)) ∧ w = w' := by
  obtain ⟨a, c, rfl, h1, h2, h3⟩ := h.shape
  have HR := Lib.hid h
  clear h
  go_enter Try.func31, Try.ntmps31
  go_wp2
  go_loop [8, 5] (fun i _ => ∃ k : Nat, k ≤ l.length ∧ i = .int .i64 k ∧ Hid (orL l = orL (l.drop k))) (fun i _ => l.length - (intOf i).toNat)
  case atStart => exact ⟨0, Nat.zero_le _, rfl, rfl⟩
  case round =>
    obtain ⟨k, hk, rfl, HI⟩ := hrel
    by_cases hlt : k < l.length
    · obtain ⟨y, hy⟩ : ∃ y, l[k]? = some y := ⟨_, List.getElem?_eq_getElem hlt⟩
      obtain ⟨b, off, rfl, hbl, hc⟩ := HR.out.row (by rintro rfl; simp at hlt)
      have c0 : w.cell? ⟨b, off + k, none⟩ = some (.int .i64 y) := hc.one (f := fun x => .int .i64 x) hy
      have HD : Hid (l.drop k = y :: l.drop (k + 1)) := by
        have := List.drop_eq_getElem_cons hlt
        rw [List.getElem?_eq_getElem hlt] at hy
        cases hy
        exact this
      clear hy hc
      by_cases hxy : y = 0
      · subst hxy
        go_wp2
        go_round
        case rel =>
          refine ⟨k + 1, by omega, by go_num, ?_⟩
          have := HI.out
          rw [HD.out, orL, if_pos rfl] at this
          exact this
        case measure => simp [intOf]; omega
      · have hne : (y != 0) = true := by simpa using hxy
        have HN := Lib.hid hxy
        clear hxy
        go_wp2
        go_ret
        refine ⟨ret_int ?_, rfl⟩
        rw [HI.out, HD.out, orL, if_neg HN.out]
    · obtain rfl : k = l.length := by omega
      go_wp2
      go_ret
      refine ⟨ret_int ?_, rfl⟩
      rw [HI.out, List.drop_length]
      rfl
end Go.Proofs.Ytkinhhkodaacjaa
namespace Go.Proofs.Ytkinhhkodaacjaa
open Go.RowKit

theorem F3 : Flat Try.prog 3 := ⟨⟨_, Try.underlying3, rfl⟩, by kernel_rfl⟩
theorem W33 : Wide Try.prog 39 7 := ⟨⟨_, Try.underlying39, rfl⟩, by kernel_rfl⟩
/-- A fault: kind, node, channel, round, slot, a, b. -/
structure Fa where
  k : Int
  n : Int
  c : Int
  r : Int
  s : Int
  a : Int
  b : Int
deriving DecidableEq
def encF (e : Fa) : List Value := [.int .i64 e.k, .int .i64 e.n, .int .i64 e.c, .int .i64 e.r, .int .i64 e.s, .int .i64 e.a, .int .i64 e.b]
theorem encF_len (e : Fa) : (encF e).length = 7 := rfl
theorem encF_one (e : Fa) : ∀ u ∈ encF e, u.oneCell' = true := by
  intro u hu
  simp only [encF, List.mem_cons, List.not_mem_nil, or_false] at hu
  rcases hu with rfl | rfl | rfl | rfl | rfl | rfl | rfl <;> rfl
def cmpF (x y : Fa) : Int := orL [cmpI x.r y.r, cmpI x.s y.s, cmpI x.k y.k, cmpI x.n y.n, cmpI x.c y.c, cmpI x.a y.a, cmpI x.b y.b]
theorem exec_slice7 {w : World} {o : Oper} {ac : Act} {x0 x1 x2 x3 x4 x5 x6 : Operand} {p0 p1 p2 p3 p4 p5 p6 : Int} (ho : o.op = .buildSlice 26 7 #[(0, x0), (1, x1), (2, x2), (3, x3), (4, x4), (5, x5), (6, x6)]) (h0 : ac.eval x0 = .int .i64 p0) (h1 : ac.eval x1 = .int .i64 p1) (h2 : ac.eval x2 = .int .i64 p2) (h3 : ac.eval x3 = .int .i64 p3) (h4 : ac.eval x4 = .int .i64 p4) (h5 : ac.eval x5 = .int .i64 p5) (h6 : ac.eval x6 = .int .i64 p6) :
    (execOp ac.eval o).run Try.prog w = .ok (.value (.slice (some ⟨w.heap.size, 0, none⟩) 7 7)) (w.alloc (.cells #[.int .i64 p0, .int .i64 p1, .int .i64 p2, .int .i64 p3, .int .i64 p4, .int .i64 p5, .int .i64 p6] 3)) := by
  have hrun : (Instr.buildSlice 26 7 #[(0, .int .i64 p0), (1, .int .i64 p1), (2, .int .i64 p2), (3, .int .i64 p3), (4, .int .i64 p4), (5, .int .i64 p5), (6, .int .i64 p6)]).run Try.prog w = .ok (.slice (some ⟨w.heap.size, 0, none⟩) 7 7) (w.alloc (.cells #[.int .i64 p0, .int .i64 p1, .int .i64 p2, .int .i64 p3, .int .i64 p4, .int .i64 p5, .int .i64 p6] 3)) := by
    unfold Instr.buildSlice
    go_simp
  simp [execOp, ho, h0, h1, h2, h3, h4, h5, h6, hrun, Result.andThen]
theorem row7 {w : World} {b : Nat} (hb : w.heap.size = b) (p0 p1 p2 p3 p4 p5 p6 : Int) : Rd (encI .i64) 1 (w.alloc (.cells #[.int .i64 p0, .int .i64 p1, .int .i64 p2, .int .i64 p3, .int .i64 p4, .int .i64 p5, .int .i64 p6] 3)) (.slice (some ⟨b, 0, none⟩) 7 7) [p0, p1, p2, p3, p4, p5, p6] := by
  subst hb
  refine ⟨_, _, rfl, by simp, by simp, by simp, by simp, .inr ⟨_, 0, rfl, by simp, ?_⟩⟩
  intro j x hx i u hu
  have hj : j < 7 := (List.getElem?_eq_some_iff.1 hx).1
  have hi : i = 0 := by have := (List.getElem?_eq_some_iff.1 hu).1; simp [encI] at this; exact this
  subst hi
  rw [World.cell?_alloc_at _ _ _ _ rfl]
  rcases j with _ | _ | _ | _ | _ | _ | _ | j <;> first | omega | (simp at hx; subst hx; simp [encI] at hu; subst hu; rfl)

set_option maxRecDepth 100000 in
set_option maxHeartbeats 1600000 in
theorem compare_any (x y : Fa) (w : World) : Calls Try.prog 60 #[.agg (encF x).toArray, .agg (encF y).toArray] w fun e w' => e = .returned (.int .i64 (cmpF x y)) ∧ ∃ q os', w' = Sort.grow (w.drewN q) os' := by
  have HCI := Lib.hid compareI_any
  have HE : Hid (cmpF x y = orL [cmpI x.r y.r, cmpI x.s y.s, cmpI x.k y.k, cmpI x.n y.n, cmpI x.c y.c, cmpI x.a y.a, cmpI x.b y.b]) := rfl
  have hS : Hid (Blk ((w.alloc (.cells (encF x).toArray 39)).alloc (.cells (encF y).toArray 39)).drew w.heap.size 39 (encF x).toArray) ∧ Hid (Blk ((w.alloc (.cells (encF x).toArray 39)).alloc (.cells (encF y).toArray 39)).drew (w.heap.size + 1) 39 (encF y).toArray) :=
    ⟨(Blk.alloc (Blk.new' rfl) _ : Blk _ _ _ _), (Blk.new' (by simp) : Blk _ _ _ _)⟩
  go_enter Try.func60, Try.ntmps60
  go_upto_region 1 with fail
  change Code.wp _ _ _ _ ((w.alloc (.cells (encF x).toArray 39)).alloc (.cells (encF y).toArray 39))
  refine wp_region_held_drew (S := fun X => Hid (Blk X w.heap.size 39 (encF x).toArray) ∧ Hid (Blk X (w.heap.size + 1) 39 (encF y).toArray)) (by kernel_rfl) hS (fun hHeld => ?_)
  (refine takeW (i := 0) (v := ?_) rfl (by kernel_rfl) (by kernel_rfl) (by kernel_rfl) (fun _ _ _ h => h) (by rfl) (by assumption) ?_ ?_; rotate_left; (intro W hW; (try dsimp only at hW); go_simp; try with_reducible rfl); (try simp only [Act.put, List.setIfInBounds_toArray, List.set_cons_zero, List.set_cons_succ]))
  (refine takeW (i := 1) rfl (by kernel_rfl) (by kernel_rfl) (by kernel_rfl) (fun _ _ _ h => h) (by rfl) (by assumption) (fun W hW => exec_load1 (v := .int .i64 x.r) F3 rfl rfl (hW.1.out.list0 (j := 3) rfl)) ?_; (try simp only [Act.put, List.setIfInBounds_toArray, List.set_cons_zero, List.set_cons_succ]))
  (refine takeW (i := 2) (v := ?_) rfl (by kernel_rfl) (by kernel_rfl) (by kernel_rfl) (fun _ _ _ h => h) (by rfl) (by assumption) ?_ ?_; rotate_left; (intro W hW; (try dsimp only at hW); go_simp; try with_reducible rfl); (try simp only [Act.put, List.setIfInBounds_toArray, List.set_cons_zero, List.set_cons_succ]))
  (refine takeW (i := 3) rfl (by kernel_rfl) (by kernel_rfl) (by kernel_rfl) (fun _ _ _ h => h) (by rfl) (by assumption) (fun W hW => exec_load1 (v := .int .i64 y.r) F3 rfl rfl (hW.2.out.list0 (j := 3) rfl)) ?_; (try simp only [Act.put, List.setIfInBounds_toArray, List.set_cons_zero, List.set_cons_succ]))
  (refine takeW (i := 5) (v := ?_) rfl (by kernel_rfl) (by kernel_rfl) (by kernel_rfl) (fun _ _ _ h => h) (by rfl) (by assumption) ?_ ?_; rotate_left; (intro W hW; (try dsimp only at hW); go_simp; try with_reducible rfl); (try simp only [Act.put, List.setIfInBounds_toArray, List.set_cons_zero, List.set_cons_succ]))
  (refine takeW (i := 6) rfl (by kernel_rfl) (by kernel_rfl) (by kernel_rfl) (fun _ _ _ h => h) (by rfl) (by assumption) (fun W hW => exec_load1 (v := .int .i64 x.s) F3 rfl rfl (hW.1.out.list0 (j := 4) rfl)) ?_; (try simp only [Act.put, List.setIfInBounds_toArray, List.set_cons_zero, List.set_cons_succ]))
  (refine takeW (i := 7) (v := ?_) rfl (by kernel_rfl) (by kernel_rfl) (by kernel_rfl) (fun _ _ _ h => h) (by rfl) (by assumption) ?_ ?_; rotate_left; (intro W hW; (try dsimp only at hW); go_simp; try with_reducible rfl); (try simp only [Act.put, List.setIfInBounds_toArray, List.set_cons_zero, List.set_cons_succ]))
  (refine takeW (i := 8) rfl (by kernel_rfl) (by kernel_rfl) (by kernel_rfl) (fun _ _ _ h => h) (by rfl) (by assumption) (fun W hW => exec_load1 (v := .int .i64 y.s) F3 rfl rfl (hW.2.out.list0 (j := 4) rfl)) ?_; (try simp only [Act.put, List.setIfInBounds_toArray, List.set_cons_zero, List.set_cons_succ]))
  (refine takeW (i := 10) (v := ?_) rfl (by kernel_rfl) (by kernel_rfl) (by kernel_rfl) (fun _ _ _ h => h) (by rfl) (by assumption) ?_ ?_; rotate_left; (intro W hW; (try dsimp only at hW); go_simp; try with_reducible rfl); (try simp only [Act.put, List.setIfInBounds_toArray, List.set_cons_zero, List.set_cons_succ]))
  (refine takeW (i := 11) rfl (by kernel_rfl) (by kernel_rfl) (by kernel_rfl) (fun _ _ _ h => h) (by rfl) (by assumption) (fun W hW => exec_load1 (v := .int .i64 x.k) F3 rfl rfl (hW.1.out.list0 (j := 0) rfl)) ?_; (try simp only [Act.put, List.setIfInBounds_toArray, List.set_cons_zero, List.set_cons_succ]))
  (refine takeW (i := 12) (v := ?_) rfl (by kernel_rfl) (by kernel_rfl) (by kernel_rfl) (fun _ _ _ h => h) (by rfl) (by assumption) ?_ ?_; rotate_left; (intro W hW; (try dsimp only at hW); go_simp; try with_reducible rfl); (try simp only [Act.put, List.setIfInBounds_toArray, List.set_cons_zero, List.set_cons_succ]))
  (refine takeW (i := 13) rfl (by kernel_rfl) (by kernel_rfl) (by kernel_rfl) (fun _ _ _ h => h) (by rfl) (by assumption) (fun W hW => exec_load1 (v := .int .i64 y.k) F3 rfl rfl (hW.2.out.list0 (j := 0) rfl)) ?_; (try simp only [Act.put, List.setIfInBounds_toArray, List.set_cons_zero, List.set_cons_succ]))
  (refine takeW (i := 15) (v := ?_) rfl (by kernel_rfl) (by kernel_rfl) (by kernel_rfl) (fun _ _ _ h => h) (by rfl) (by assumption) ?_ ?_; rotate_left; (intro W hW; (try dsimp only at hW); go_simp; try with_reducible rfl); (try simp only [Act.put, List.setIfInBounds_toArray, List.set_cons_zero, List.set_cons_succ]))
  (refine takeW (i := 16) rfl (by kernel_rfl) (by kernel_rfl) (by kernel_rfl) (fun _ _ _ h => h) (by rfl) (by assumption) (fun W hW => exec_load1 (v := .int .i64 x.n) F3 rfl rfl (hW.1.out.list0 (j := 1) rfl)) ?_; (try simp only [Act.put, List.setIfInBounds_toArray, List.set_cons_zero, List.set_cons_succ]))
  (refine takeW (i := 17) (v := ?_) rfl (by kernel_rfl) (by kernel_rfl) (by kernel_rfl) (fun _ _ _ h => h) (by rfl) (by assumption) ?_ ?_; rotate_left; (intro W hW; (try dsimp only at hW); go_simp; try with_reducible rfl); (try simp only [Act.put, List.setIfInBounds_toArray, List.set_cons_zero, List.set_cons_succ]))
  (refine takeW (i := 18) rfl (by kernel_rfl) (by kernel_rfl) (by kernel_rfl) (fun _ _ _ h => h) (by rfl) (by assumption) (fun W hW => exec_load1 (v := .int .i64 y.n) F3 rfl rfl (hW.2.out.list0 (j := 1) rfl)) ?_; (try simp only [Act.put, List.setIfInBounds_toArray, List.set_cons_zero, List.set_cons_succ]))
  (refine takeW (i := 20) (v := ?_) rfl (by kernel_rfl) (by kernel_rfl) (by kernel_rfl) (fun _ _ _ h => h) (by rfl) (by assumption) ?_ ?_; rotate_left; (intro W hW; (try dsimp only at hW); go_simp; try with_reducible rfl); (try simp only [Act.put, List.setIfInBounds_toArray, List.set_cons_zero, List.set_cons_succ]))
  (refine takeW (i := 21) rfl (by kernel_rfl) (by kernel_rfl) (by kernel_rfl) (fun _ _ _ h => h) (by rfl) (by assumption) (fun W hW => exec_load1 (v := .int .i64 x.c) F3 rfl rfl (hW.1.out.list0 (j := 2) rfl)) ?_; (try simp only [Act.put, List.setIfInBounds_toArray, List.set_cons_zero, List.set_cons_succ]))
  (refine takeW (i := 22) (v := ?_) rfl (by kernel_rfl) (by kernel_rfl) (by kernel_rfl) (fun _ _ _ h => h) (by rfl) (by assumption) ?_ ?_; rotate_left; (intro W hW; (try dsimp only at hW); go_simp; try with_reducible rfl); (try simp only [Act.put, List.setIfInBounds_toArray, List.set_cons_zero, List.set_cons_succ]))
  (refine takeW (i := 23) rfl (by kernel_rfl) (by kernel_rfl) (by kernel_rfl) (fun _ _ _ h => h) (by rfl) (by assumption) (fun W hW => exec_load1 (v := .int .i64 y.c) F3 rfl rfl (hW.2.out.list0 (j := 2) rfl)) ?_; (try simp only [Act.put, List.setIfInBounds_toArray, List.set_cons_zero, List.set_cons_succ]))
  (refine takeW (i := 25) (v := ?_) rfl (by kernel_rfl) (by kernel_rfl) (by kernel_rfl) (fun _ _ _ h => h) (by rfl) (by assumption) ?_ ?_; rotate_left; (intro W hW; (try dsimp only at hW); go_simp; try with_reducible rfl); (try simp only [Act.put, List.setIfInBounds_toArray, List.set_cons_zero, List.set_cons_succ]))
  (refine takeW (i := 26) rfl (by kernel_rfl) (by kernel_rfl) (by kernel_rfl) (fun _ _ _ h => h) (by rfl) (by assumption) (fun W hW => exec_load1 (v := .int .i64 x.a) F3 rfl rfl (hW.1.out.list0 (j := 5) rfl)) ?_; (try simp only [Act.put, List.setIfInBounds_toArray, List.set_cons_zero, List.set_cons_succ]))
  (refine takeW (i := 27) (v := ?_) rfl (by kernel_rfl) (by kernel_rfl) (by kernel_rfl) (fun _ _ _ h => h) (by rfl) (by assumption) ?_ ?_; rotate_left; (intro W hW; (try dsimp only at hW); go_simp; try with_reducible rfl); (try simp only [Act.put, List.setIfInBounds_toArray, List.set_cons_zero, List.set_cons_succ]))
  (refine takeW (i := 28) rfl (by kernel_rfl) (by kernel_rfl) (by kernel_rfl) (fun _ _ _ h => h) (by rfl) (by assumption) (fun W hW => exec_load1 (v := .int .i64 y.a) F3 rfl rfl (hW.2.out.list0 (j := 5) rfl)) ?_; (try simp only [Act.put, List.setIfInBounds_toArray, List.set_cons_zero, List.set_cons_succ]))
  (refine takeW (i := 30) (v := ?_) rfl (by kernel_rfl) (by kernel_rfl) (by kernel_rfl) (fun _ _ _ h => h) (by rfl) (by assumption) ?_ ?_; rotate_left; (intro W hW; (try dsimp only at hW); go_simp; try with_reducible rfl); (try simp only [Act.put, List.setIfInBounds_toArray, List.set_cons_zero, List.set_cons_succ]))
  (refine takeW (i := 31) rfl (by kernel_rfl) (by kernel_rfl) (by kernel_rfl) (fun _ _ _ h => h) (by rfl) (by assumption) (fun W hW => exec_load1 (v := .int .i64 x.b) F3 rfl rfl (hW.1.out.list0 (j := 6) rfl)) ?_; (try simp only [Act.put, List.setIfInBounds_toArray, List.set_cons_zero, List.set_cons_succ]))
  (refine takeW (i := 32) (v := ?_) rfl (by kernel_rfl) (by kernel_rfl) (by kernel_rfl) (fun _ _ _ h => h) (by rfl) (by assumption) ?_ ?_; rotate_left; (intro W hW; (try dsimp only at hW); go_simp; try with_reducible rfl); (try simp only [Act.put, List.setIfInBounds_toArray, List.set_cons_zero, List.set_cons_succ]))
  (refine takeW (i := 33) rfl (by kernel_rfl) (by kernel_rfl) (by kernel_rfl) (fun _ _ _ h => h) (by rfl) (by assumption) (fun W hW => exec_load1 (v := .int .i64 y.b) F3 rfl rfl (hW.2.out.list0 (j := 6) rfl)) ?_; (try simp only [Act.put, List.setIfInBounds_toArray, List.set_cons_zero, List.set_cons_succ]))
  refine takeC (i := 4) rfl (by kernel_rfl) (by rfl) (fun K hK => ?_)
  go_simp
  refine (HCI.out _ _ _).mono ?_
  rintro e w' ⟨rfl, rfl⟩
  refine hK.out _ _ hHeld (fun hHeld => ?_)
  clear hK K
  try simp only [Act.put, List.setIfInBounds_toArray, List.set_cons_zero, List.set_cons_succ]
  refine takeC (i := 9) rfl (by kernel_rfl) (by rfl) (fun K hK => ?_)
  go_simp
  refine (HCI.out _ _ _).mono ?_
  rintro e w' ⟨rfl, rfl⟩
  refine hK.out _ _ hHeld (fun hHeld => ?_)
  clear hK K
  try simp only [Act.put, List.setIfInBounds_toArray, List.set_cons_zero, List.set_cons_succ]
  refine takeC (i := 14) rfl (by kernel_rfl) (by rfl) (fun K hK => ?_)
  go_simp
  refine (HCI.out _ _ _).mono ?_
  rintro e w' ⟨rfl, rfl⟩
  refine hK.out _ _ hHeld (fun hHeld => ?_)
  clear hK K
  try simp only [Act.put, List.setIfInBounds_toArray, List.set_cons_zero, List.set_cons_succ]
  refine takeC (i := 19) rfl (by kernel_rfl) (by rfl) (fun K hK => ?_)
  go_simp
  refine (HCI.out _ _ _).mono ?_
  rintro e w' ⟨rfl, rfl⟩
  refine hK.out _ _ hHeld (fun hHeld => ?_)
  clear hK K
  try simp only [Act.put, List.setIfInBounds_toArray, List.set_cons_zero, List.set_cons_succ]
  refine takeC (i := 24) rfl (by kernel_rfl) (by rfl) (fun K hK => ?_)
  go_simp
  refine (HCI.out _ _ _).mono ?_
  rintro e w' ⟨rfl, rfl⟩
  refine hK.out _ _ hHeld (fun hHeld => ?_)
  clear hK K
  try simp only [Act.put, List.setIfInBounds_toArray, List.set_cons_zero, List.set_cons_succ]
  refine takeC (i := 29) rfl (by kernel_rfl) (by rfl) (fun K hK => ?_)
  go_simp
  refine (HCI.out _ _ _).mono ?_
  rintro e w' ⟨rfl, rfl⟩
  refine hK.out _ _ hHeld (fun hHeld => ?_)
  clear hK K
  try simp only [Act.put, List.setIfInBounds_toArray, List.set_cons_zero, List.set_cons_succ]
  refine takeC (i := 34) rfl (by kernel_rfl) (by rfl) (fun K hK => ?_)
  go_simp
  refine (HCI.out _ _ _).mono ?_
  rintro e w' ⟨rfl, rfl⟩
  refine hK.out _ _ hHeld (fun hHeld => ?_)
  clear hK K
  try simp only [Act.put, List.setIfInBounds_toArray, List.set_cons_zero, List.set_cons_succ]
  refine takeV (i := 35) rfl (by kernel_rfl) (by rfl) (exec_slice7 rfl rfl rfl rfl rfl rfl rfl rfl) (⟨Lib.hid (hHeld.1.out.alloc _), Lib.hid (hHeld.2.out.alloc _)⟩) ?_
  (try simp only [Act.put, List.setIfInBounds_toArray, List.set_cons_zero, List.set_cons_succ])
  have hHeld : Hid (Blk (((w.alloc (.cells (encF x).toArray 39)).alloc (.cells (encF y).toArray 39)).drew.alloc (.cells #[.int .i64 (cmpI x.r y.r), .int .i64 (cmpI x.s y.s), .int .i64 (cmpI x.k y.k), .int .i64 (cmpI x.n y.n), .int .i64 (cmpI x.c y.c), .int .i64 (cmpI x.a y.a), .int .i64 (cmpI x.b y.b)] 3)) w.heap.size 39 (encF x).toArray) ∧ Hid (Blk (((w.alloc (.cells (encF x).toArray 39)).alloc (.cells (encF y).toArray 39)).drew.alloc (.cells #[.int .i64 (cmpI x.r y.r), .int .i64 (cmpI x.s y.s), .int .i64 (cmpI x.k y.k), .int .i64 (cmpI x.n y.n), .int .i64 (cmpI x.c y.c), .int .i64 (cmpI x.a y.a), .int .i64 (cmpI x.b y.b)] 3)) (w.heap.size + 1) 39 (encF y).toArray) := ⟨Lib.hid (hHeld.1.out.alloc _), Lib.hid (hHeld.2.out.alloc _)⟩
  refine takeC (i := 36) rfl (by kernel_rfl) (by rfl) (fun K hK => ?_)
  go_simp
  refine (or_any _ _ _ (row7 (w := ((w.alloc (.cells (encF x).toArray 39)).alloc (.cells (encF y).toArray 39)).drew) (by simp) _ _ _ _ _ _ _)).mono ?_
  rintro e w' ⟨rfl, rfl⟩
  rw [← HE.out]
  refine hK.out _ _ hHeld (fun hHeld => ?_)
  clear hK K
  try simp only [Act.put, List.setIfInBounds_toArray, List.set_cons_zero, List.set_cons_succ]
  (refine takeW (i := 37) (v := ?_) rfl (by kernel_rfl) (by kernel_rfl) (by kernel_rfl) (fun _ _ _ h => h) (by rfl) (by assumption) ?_ ?_; rotate_left; (intro W hW; (try dsimp only at hW); go_simp; try with_reducible rfl); (try simp only [Act.put, List.setIfInBounds_toArray, List.set_cons_zero, List.set_cons_succ]))
  refine wpAnyH_done (by kernel_rfl) ?_ _
  go_wp2
  go_ret
  exact ⟨rfl, 1, _, by rw [Sort.alloc_eq_grow, Sort.alloc_eq_grow, Sort.alloc_eq_grow, Sort.drew_grow, Sort.drew_grow, Sort.grow_grow, Sort.grow_grow]; rfl⟩
end Go.Proofs.Ytkinhhkodaacjaa
