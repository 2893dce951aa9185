/- The document's truths. The document's lines of a script, and its text. -/
import Derived.Test.YtkinhhkodaacjaaGreatDoorN4
import Derived.Test.YtkinhhkodaacjaaGreatDoorR6
import Derived.Test.YtkinhhkodaacjaaGreatDoorR7
import Derived.Test.YtkinhhkodaacjaaGreatDoorOx
namespace Go.Proofs.YtkinhhkodaacjaaGreatDoor
open Go.RowKit Go.Shelf
open Md

theorem b2i_map_inj {l m : List Bool} : l.map b2i = m.map b2i ↔ l = m := by
  constructor
  · intro h
    induction l generalizing m with
    | nil => cases m with
      | nil => rfl
      | cons y m => cases h
    | cons x l ih => cases m with
      | nil => cases h
      | cons y m =>
        simp only [List.map_cons, List.cons.injEq] at h
        rw [ih h.2]
        have : x = y := by cases x <;> cases y <;> simp_all [b2i]
        rw [this]
  · rintro rfl; rfl
set_option maxRecDepth 100000 in
set_option maxHeartbeats 1600000 in
theorem rtruths_any (v : Value) (l : List Bool) (w : World) (h : Rd encB 1 w v l) (hl : l.length ≤ 16384) :
    Calls Tryz.prog 33 #[v] w fun e w' => (∃ a c, e = .returned (.slice a l.length c) ∧ Rd (encI .i64) 1 w' (.slice a l.length c) (l.map b2i)) ∧ Below w.heap.size w w' := by
  have HPO : Hid (∀ g w', Below w.heap.size w w' → w'.ownsRow w.heap.size 3 1 g l.length ((l.map b2i).map (Value.int .i64)) → (fun e w' => (∃ a c, e = Ending.returned (.slice a l.length c) ∧ Rd (encI .i64) 1 w' (.slice a l.length c) (l.map b2i)) ∧ Below w.heap.size w w') (.returned g) w') := fun g w' hb hg => by
    obtain ⟨a, c, rfl, -⟩ := owns_shape hg
    exact ⟨⟨_, _, rfl, Rd.of_owns (e := 3) (base := w.heap.size) (encI_len .i64) (by rw [encI_flat, List.length_map]; exact hg) (by simp; omega)⟩, hb⟩
  generalize (fun e w' => (∃ a c, e = Ending.returned (.slice a l.length c) ∧ Rd (encI .i64) 1 w' (.slice a l.length c) (l.map b2i)) ∧ Below w.heap.size w w') = POST at *
  have HV := Lib.hid h
  obtain ⟨ad, c, rfl, q1, q2, q3⟩ := h.shape
  clear h
  obtain ⟨n, hn⟩ : ∃ n, l.length = n := ⟨_, rfl⟩
  have HN := Lib.hid hn
  rw [hn] at HPO hl q1 q3 HV ⊢
  clear hn
  go_enter Tryz.func33, Tryz.ntmps33
  go_wp2_with fail
  go_loopw [3, 4] (fun u i wr => ∃ k : Nat, k ≤ n ∧ i = .int .i64 k ∧ Hid (wr.ownsRow w.heap.size 3 1 u k (((l.take k).map b2i).map (Value.int .i64))) ∧ Hid (Below w.heap.size w wr)) (fun _ i _ => n - (intOf i).toNat)
  case atStart => exact ⟨0, Nat.zero_le _, rfl, World.ownsRow_nil _ _ _ _, Below.refl _ _⟩
  case round =>
    obtain ⟨k, hk, rfl, HO, HW⟩ := hrel
    by_cases hlt : k < n
    · obtain ⟨x, hx⟩ : ∃ x, l[k]? = some x := ⟨_, List.getElem?_eq_getElem (by rw [HN.out]; exact hlt)⟩
      have HT : Hid (((l.take (k + 1)).map b2i).map (Value.int .i64) = ((l.take k).map b2i).map (Value.int .i64) ++ [.int .i64 (b2i x)]) := by show _ = _; rw [take_snoc hx]; simp
      obtain ⟨b, off, rfl, hbl, hc⟩ := (HV.out.below HW.out).row (by rintro rfl; simp at hx)
      have c0 : wr.cell? ⟨b, off + k, none⟩ = some (.bool x) := CellsAt.one (f := fun x => .bool x) hc hx
      have hsz := HW.out.size
      clear hc hx
      cases x with
      | true =>
        go_wp2_with (at_builtin; refine wpList_app1 E3 rfl _ _ rfl HO.out [.int .i64 1] rfl (by simp [Value.oneCell']) rfl rfl (by omega) hsz ?_; intro v' w3 ho hg)
        go_roundw
        case rel => exact ⟨k + 1, by omega, by go_num, by rw [HT.out]; exact ho, below_app HW.out (Nat.le_refl _) HO.out hg hsz⟩
        case measure => simp [intOf]; omega
      | false =>
        go_wp2_with (at_builtin; refine wpList_app1 E3 rfl _ _ rfl HO.out [.int .i64 0] rfl (by simp [Value.oneCell']) rfl rfl (by omega) hsz ?_; intro v' w3 ho hg)
        go_roundw
        case rel => exact ⟨k + 1, by omega, by go_num, by rw [HT.out]; exact ho, below_app HW.out (Nat.le_refl _) HO.out hg hsz⟩
        case measure => simp [intOf]; omega
    · obtain rfl : n = k := by omega
      have HF1 := HO.out
      rw [List.take_of_length_le (by rw [HN.out]; omega)] at HF1
      have HF := Lib.hid HF1
      clear HF1
      clear HO
      go_wp2
      exact HPO.out _ _ HW.out HF.out
end Go.Proofs.YtkinhhkodaacjaaGreatDoor
namespace Go.Proofs.YtkinhhkodaacjaaGreatDoor
open Go.RowKit Go.Shelf
open Md

theorem rd_new (w : World) (ns : List Int) (hl : ns.length ≤ 1000) : Rd (encI .i64) 1 (w.alloc (.cells (ns.map (Value.int .i64)).toArray 3)) (.slice (some ⟨w.heap.size, 0, none⟩) ns.length ns.length) ns := by
  refine ⟨_, _, rfl, Nat.le_refl _, by omega, by omega, fun h => (by cases h), .inr ⟨w.heap.size, 0, rfl, by simp, fun j x hj i u hu => ?_⟩⟩
  have hi : i = 0 := by
    cases i with
    | zero => rfl
    | succ i => simp [encI] at hu
  subst hi
  simp only [encI, List.getElem?_cons_zero, Option.some.injEq] at hu
  subst hu
  rw [World.cell?_alloc_at _ _ _ _ rfl]
  simpa using hj
theorem own_newS (w : World) (ls : List (List UInt8)) (n : Nat) (hn : ls.length = n) (hl : n ≤ 1000) : (w.alloc (.cells (ls.map strV).toArray 9)).ownsRow w.heap.size 9 1 (.slice (some ⟨w.heap.size, 0, none⟩) n n) n (ls.map strV) := by
  subst hn
  exact ⟨by simp, .inr ⟨w.heap.size, ls.length, (ls.map strV).toArray, rfl, Nat.le_refl _, (Blk.new' rfl : Blk _ w.heap.size 9 (ls.map strV).toArray), Nat.le_refl _, by unfold maxLen; omega, by simp, by simp [List.take_of_length_le]⟩⟩
theorem exec_bI1 {w : World} {o : Oper} {ac : Act} {X0 : Operand} {a0 : Int} (ho : o.op = .buildSlice 23 1 #[(0, X0)]) (h0 : ac.eval X0 = .int .i64 a0) : ∃ v' w', (execOp ac.eval o).run Tryz.prog w = .ok (.value v') w' ∧ (Rd (encI .i64) 1 w' v' [a0] ∧ Below w.heap.size w w') := by
  have hrun : (Instr.buildSlice 23 1 #[(0, .int .i64 a0)]).run Tryz.prog w = .ok (.slice (some ⟨w.heap.size, 0, none⟩) 1 1) (w.alloc (.cells #[.int .i64 a0] 3)) := by
    unfold Instr.buildSlice
    go_simp
    try rfl
  exact ⟨_, _, by simp [execOp, ho, h0, hrun, Result.andThen], rd_new w [a0] (by simp), below1 _ _⟩
theorem exec_bI5 {w : World} {o : Oper} {ac : Act} {X0 X1 X2 X3 X4 : Operand} {a0 a1 a2 a3 a4 : Int} (ho : o.op = .buildSlice 23 5 #[(0, X0), (1, X1), (2, X2), (3, X3), (4, X4)]) (h0 : ac.eval X0 = .int .i64 a0) (h1 : ac.eval X1 = .int .i64 a1) (h2 : ac.eval X2 = .int .i64 a2) (h3 : ac.eval X3 = .int .i64 a3) (h4 : ac.eval X4 = .int .i64 a4) : ∃ v' w', (execOp ac.eval o).run Tryz.prog w = .ok (.value v') w' ∧ (Rd (encI .i64) 1 w' v' [a0, a1, a2, a3, a4] ∧ Below w.heap.size w w') := by
  have hrun : (Instr.buildSlice 23 5 #[(0, .int .i64 a0), (1, .int .i64 a1), (2, .int .i64 a2), (3, .int .i64 a3), (4, .int .i64 a4)]).run Tryz.prog w = .ok (.slice (some ⟨w.heap.size, 0, none⟩) 5 5) (w.alloc (.cells #[.int .i64 a0, .int .i64 a1, .int .i64 a2, .int .i64 a3, .int .i64 a4] 3)) := by
    unfold Instr.buildSlice
    go_simp
    try rfl
  exact ⟨_, _, by simp [execOp, ho, h0, h1, h2, h3, h4, hrun, Result.andThen], rd_new w [a0, a1, a2, a3, a4] (by simp), below1 _ _⟩
theorem exec_bI7 {w : World} {o : Oper} {ac : Act} {X0 X1 X2 X3 X4 X5 X6 : Operand} {a0 a1 a2 a3 a4 a5 a6 : Int} (ho : o.op = .buildSlice 23 7 #[(0, X0), (1, X1), (2, X2), (3, X3), (4, X4), (5, X5), (6, X6)]) (h0 : ac.eval X0 = .int .i64 a0) (h1 : ac.eval X1 = .int .i64 a1) (h2 : ac.eval X2 = .int .i64 a2) (h3 : ac.eval X3 = .int .i64 a3) (h4 : ac.eval X4 = .int .i64 a4) (h5 : ac.eval X5 = .int .i64 a5) (h6 : ac.eval X6 = .int .i64 a6) : ∃ v' w', (execOp ac.eval o).run Tryz.prog w = .ok (.value v') w' ∧ (Rd (encI .i64) 1 w' v' [a0, a1, a2, a3, a4, a5, a6] ∧ Below w.heap.size w w') := by
  have hrun : (Instr.buildSlice 23 7 #[(0, .int .i64 a0), (1, .int .i64 a1), (2, .int .i64 a2), (3, .int .i64 a3), (4, .int .i64 a4), (5, .int .i64 a5), (6, .int .i64 a6)]).run Tryz.prog w = .ok (.slice (some ⟨w.heap.size, 0, none⟩) 7 7) (w.alloc (.cells #[.int .i64 a0, .int .i64 a1, .int .i64 a2, .int .i64 a3, .int .i64 a4, .int .i64 a5, .int .i64 a6] 3)) := by
    unfold Instr.buildSlice
    go_simp
    try rfl
  exact ⟨_, _, by simp [execOp, ho, h0, h1, h2, h3, h4, h5, h6, hrun, Result.andThen], rd_new w [a0, a1, a2, a3, a4, a5, a6] (by simp), below1 _ _⟩
theorem exec_bS6 {w : World} {o : Oper} {ac : Act} {X0 X1 X2 X3 X4 X5 : Operand} {a0 a1 a2 a3 a4 a5 : List UInt8} (ho : o.op = .buildSlice 47 6 #[(0, X0), (1, X1), (2, X2), (3, X3), (4, X4), (5, X5)]) (h0 : ac.eval X0 = strV a0) (h1 : ac.eval X1 = strV a1) (h2 : ac.eval X2 = strV a2) (h3 : ac.eval X3 = strV a3) (h4 : ac.eval X4 = strV a4) (h5 : ac.eval X5 = strV a5) : ∃ v' w', (execOp ac.eval o).run Tryz.prog w = .ok (.value v') w' ∧ (w'.ownsRow w.heap.size 9 1 v' 6 ([a0, a1, a2, a3, a4, a5].map strV) ∧ Below w.heap.size w w' ∧ w' = w.alloc (.cells #[strV a0, strV a1, strV a2, strV a3, strV a4, strV a5] 9) ∧ v' = .slice (some ⟨w.heap.size, 0, none⟩) 6 6) := by
  have hrun : (Instr.buildSlice 47 6 #[(0, strV a0), (1, strV a1), (2, strV a2), (3, strV a3), (4, strV a4), (5, strV a5)]).run Tryz.prog w = .ok (.slice (some ⟨w.heap.size, 0, none⟩) 6 6) (w.alloc (.cells #[strV a0, strV a1, strV a2, strV a3, strV a4, strV a5] 9)) := by
    unfold Instr.buildSlice strV
    go_simp
    try rfl
  exact ⟨_, _, by simp [execOp, ho, h0, h1, h2, h3, h4, h5, hrun, Result.andThen], own_newS w [a0, a1, a2, a3, a4, a5] 6 rfl (by decide), below1 _ _, rfl, rfl⟩
theorem exec_bS1 {w : World} {o : Oper} {ac : Act} {X0 : Operand} {a0 : List UInt8} (ho : o.op = .buildSlice 47 1 #[(0, X0)]) (h0 : ac.eval X0 = strV a0) : ∃ v' w', (execOp ac.eval o).run Tryz.prog w = .ok (.value v') w' ∧ (w'.ownsRow w.heap.size 9 1 v' 1 ([a0].map strV) ∧ Below w.heap.size w w' ∧ w' = w.alloc (.cells #[strV a0] 9) ∧ v' = .slice (some ⟨w.heap.size, 0, none⟩) 1 1) := by
  have hrun : (Instr.buildSlice 47 1 #[(0, strV a0)]).run Tryz.prog w = .ok (.slice (some ⟨w.heap.size, 0, none⟩) 1 1) (w.alloc (.cells #[strV a0] 9)) := by
    unfold Instr.buildSlice strV
    go_simp
    try rfl
  exact ⟨_, _, by simp [execOp, ho, h0, hrun, Result.andThen], own_newS w [a0] 1 rfl (by decide), below1 _ _, rfl, rfl⟩
theorem exec_oneTx {w : World} {o : Oper} {ac : Act} {X : Operand} {a : List UInt8} (ho : o.op = .buildSlice 47 1 #[(0, X)]) (hx : ac.eval X = strV a) : (execOp ac.eval o).run Tryz.prog w = .ok (.value (.slice (some ⟨w.heap.size, 0, none⟩) 1 1)) (w.alloc (.cells #[strV a] 9)) := by
  obtain ⟨v', w', h, -, -, rfl, rfl⟩ := exec_bS1 (w := w) ho hx
  exact h
theorem exec_catS {w : World} {o : Oper} {ac : Act} {X Y : Operand} {ty : TypeId} {x y : List UInt8} (ho : o.op = .binOp .add 9 X Y ty) (hx : ac.eval X = strV x) (hy : ac.eval Y = strV y) (hl : x.length + y.length ≤ 9223372036854775807) :
    (execOp ac.eval o).run Tryz.prog w = .ok (.value (strV (x ++ y))) w := exec_cat ho hx hy hl
theorem exec_catE {w : World} {o : Oper} {ac : Act} {X Y : Operand} {ty : TypeId} {x y z : List UInt8} {n : Nat} (h : Hid (x ++ y = z ∧ z.length ≤ n)) (hn : n ≤ 1000000000) (ho : o.op = .binOp .add 9 X Y ty) (hx : ac.eval X = strV x) (hy : ac.eval Y = strV y) :
    (execOp ac.eval o).run Tryz.prog w = .ok (.value (strV z)) w := by
  obtain ⟨h1, h2⟩ := h.out
  subst h1
  exact exec_cat ho hx hy (by simp at h2; omega)
theorem cat_ex (x y : List UInt8) (n : Nat) (h : x.length + y.length ≤ n) : ∃ z, Hid (x ++ y = z ∧ z.length ≤ n) := ⟨_, rfl, by simpa using h⟩
theorem joinB_len (first : List UInt8) (ns : List Int) (hn : ∀ n ∈ ns, inI n) : (lineN first ns).length ≤ first.length + 21 * ns.length := by
  have h : ∀ k, k ≤ ns.length → (lineN first (ns.take k)).length ≤ first.length + 21 * k := by
    intro k
    induction k with
    | zero => intro _; simp [lineN, joinB]
    | succ k ih =>
      intro hk
      have hs := List.getElem?_eq_getElem (l := ns) (i := k) (by omega)
      rw [lineN_snoc hs]
      have hi := hn _ (List.mem_of_getElem? hs)
      have := decZ_len hi.1 hi.2
      have := ih (by omega)
      simp
      omega
  have := h ns.length (Nat.le_refl _)
  rwa [List.take_of_length_le (Nat.le_refl _)] at this
theorem hexW_len (l : List UInt8) : (hexW l).length = 2 * l.length + 1 := by unfold hexW; simp [hexL_len]
def headLn (x : Scr) (n : Nat) : List UInt8 := lineN (hdW n) (headN x n)
def opLn (o : Ok) : List UInt8 := (lineN wOp o.ints ++ [32]) ++ hexW o.d
def ftLn (f : Fk) : List UInt8 := lineN wFault f.ints
def linesL (x : Scr) : List (List UInt8) := [headLn x 0, headLn x 1, headLn x 2, headLn x 3, headLn x 4, headLn x 5] ++ x.ops.map opLn ++ x.fts.map ftLn
theorem opLn_eq (o : Ok) : opLn o ++ [10] = opT o := by
  unfold opLn opT lineN lineW
  rw [joinB_snoc]
  simp
theorem printS_lines (x : Scr) : (linesL x).flatMap (· ++ [10]) = printS x := by
  unfold linesL printS restT preT preT preT preT preT preT preT
  have h : ∀ n, headLn x n ++ [10] = headT x n := fun n => rfl
  rw [List.flatMap_append, List.flatMap_append, List.flatMap_map, List.flatMap_map]
  have ho : (fun o => opLn o ++ [10]) = opT := funext opLn_eq
  have hf : (fun f => ftLn f ++ [10]) = ftT := rfl
  rw [ho, hf]
  simp [h]
/-- What Lines asks of a script. -/
structure Lns (w : World) (x : Sc) : Prop where
  good : GoodSc w x
  fts : ∀ f ∈ x.faults, ∀ n ∈ f.fk.ints, inI n
  ups : x.ups.l.length ≤ 16384
  lens : x.offs.l.length ≤ 16384 ∧ x.gates.l.length ≤ 16384 ∧ x.guards.l.length ≤ 16384 ∧ x.drifts.l.length ≤ 16384
  ops : x.ops.length ≤ 20000 ∧ ∀ o ∈ x.ops, o.d.length ≤ 20000
  fl : x.faults.length ≤ 20000
/-- The script's box. -/
structure SL (x : Sc) (w X : World) : Prop where
  s : Blk X w.heap.size 27 (encSc x).toArray
  bel : Below w.heap.size w X
  c0 : X.cell? ⟨w.heap.size, 0, none⟩ = some (.int .i64 x.rounds)
  c1 : X.cell? ⟨w.heap.size, 1, none⟩ = some (.slice x.ups.a x.ups.l.length x.ups.c)
  c2 : X.cell? ⟨w.heap.size, 2, none⟩ = some (.slice x.offs.a x.offs.l.length x.offs.c)
  c3 : X.cell? ⟨w.heap.size, 3, none⟩ = some (.slice x.gates.a x.gates.l.length x.gates.c)
  c4 : X.cell? ⟨w.heap.size, 4, none⟩ = some (.slice x.guards.a x.guards.l.length x.guards.c)
  c5 : X.cell? ⟨w.heap.size, 5, none⟩ = some (.slice x.drifts.a x.drifts.l.length x.drifts.c)
  c6 : X.cell? ⟨w.heap.size, 6, none⟩ = some (.slice x.oa x.ops.length x.oc)
  c7 : X.cell? ⟨w.heap.size, 7, none⟩ = some (.slice x.fa x.faults.length x.fc)
theorem SL.of {x : Sc} {w X : World} (s : Blk X w.heap.size 27 (encSc x).toArray) (b : Below w.heap.size w X) : SL x w X :=
  ⟨s, b, s.list0 rfl, s.list0 rfl, s.list0 rfl, s.list0 rfl, s.list0 rfl, s.list0 rfl, s.list0 rfl, s.list0 rfl⟩
theorem SL.keep {x : Sc} {w X Y : World} (h : SL x w X) (hb : Below X.heap.size X Y) : SL x w Y := SL.of (h.s.keep hb) (h.bel.trans (hb.mono h.bel.size))
theorem FL22k : Flat Tryz.prog 22 := ⟨⟨_, Tryz.underlying22, rfl⟩, by kernel_rfl⟩
theorem FL23k : Flat Tryz.prog 23 := ⟨⟨_, Tryz.underlying23, rfl⟩, by kernel_rfl⟩
theorem FL24k : Flat Tryz.prog 24 := ⟨⟨_, Tryz.underlying24, rfl⟩, by kernel_rfl⟩
theorem FL25k : Flat Tryz.prog 25 := ⟨⟨_, Tryz.underlying25, rfl⟩, by kernel_rfl⟩
theorem FL44k : Flat Tryz.prog 44 := ⟨⟨_, Tryz.underlying44, rfl⟩, by kernel_rfl⟩
theorem ftLn_len {f : Fa} (h : ∀ n ∈ f.fk.ints, inI n) : (ftLn f.fk).length ≤ 1000 := by
  have := joinB_len wFault f.fk.ints h
  have h2 : wFault.length = 5 := rfl
  have h3 : f.fk.ints.length = 7 := rfl
  unfold ftLn; omega
theorem ho_ints {w : World} {o : Ho} (h : GoodH w o) : ∀ n ∈ o.ok.ints, inI n := by
  intro n hn
  simp only [Ok.ints, Ho.ok, List.mem_cons, List.not_mem_nil, or_false] at hn
  rcases hn with rfl | rfl | rfl | rfl | rfl
  · exact h.n
  · exact h.r
  · exact h.s
  · exact h.k
  · exact h.v
/-- The script's box and that of one of its SLO. -/
structure SLO (x : Sc) (o : Ho) (w : World) (bo : Nat) (X : World) : Prop where
  s : Blk X w.heap.size 27 (encSc x).toArray
  bel : Below w.heap.size w X
  b : Blk X bo 46 (encH o).toArray
theorem SLO.keep {x : Sc} {o : Ho} {w X Y : World} {bo : Nat} (h : SLO x o w bo X) (hb : Below X.heap.size X Y) : SLO x o w bo Y := ⟨h.s.keep hb, h.bel.trans (hb.mono h.bel.size), h.b.keep hb⟩
theorem SLO.toSL {x : Sc} {o : Ho} {w X : World} {bo : Nat} (h : SLO x o w bo X) : Hid (SL x w X) := SL.of h.s h.bel
theorem SLO.app {x : Sc} {o : Ho} {w X Y : World} {bo n : Nat} {v : Value} {xs : List Value} (h : SLO x o w bo X) (ho : X.ownsRow w.heap.size 9 1 v n xs) (hg : X.grownBy Y v.ownBlock) : SLO x o w bo Y :=
  ⟨h.s.kept hg (fun e => own_blk_ne ho h.s (by decide) e.symm), h.bel.grown hg h.bel.size (fun k hk => (ho.lt k hk).1), h.b.kept hg (fun e => own_blk_ne ho h.b (by decide) e.symm)⟩
/-- The script's box and that of one of its SLF. -/
structure SLF (x : Sc) (o : Fa) (w : World) (bo : Nat) (X : World) : Prop where
  s : Blk X w.heap.size 27 (encSc x).toArray
  bel : Below w.heap.size w X
  b : Blk X bo 81 (encF o).toArray
theorem SLF.keep {x : Sc} {o : Fa} {w X Y : World} {bo : Nat} (h : SLF x o w bo X) (hb : Below X.heap.size X Y) : SLF x o w bo Y := ⟨h.s.keep hb, h.bel.trans (hb.mono h.bel.size), h.b.keep hb⟩
theorem SLF.toSL {x : Sc} {o : Fa} {w X : World} {bo : Nat} (h : SLF x o w bo X) : Hid (SL x w X) := SL.of h.s h.bel
theorem SLF.app {x : Sc} {o : Fa} {w X Y : World} {bo n : Nat} {v : Value} {xs : List Value} (h : SLF x o w bo X) (ho : X.ownsRow w.heap.size 9 1 v n xs) (hg : X.grownBy Y v.ownBlock) : SLF x o w bo Y :=
  ⟨h.s.kept hg (fun e => own_blk_ne ho h.s (by decide) e.symm), h.bel.grown hg h.bel.size (fun k hk => (ho.lt k hk).1), h.b.kept hg (fun e => own_blk_ne ho h.b (by decide) e.symm)⟩
set_option maxRecDepth 100000 in
set_option maxHeartbeats 3200000 in
theorem rlines_any (x : Sc) (w : World) (h : Lns w x) : Calls Tryz.prog 31 #[.agg (encSc x).toArray] w fun e w' => (∃ v', e = .returned v' ∧ w'.ownsRow w.heap.size 9 1 v' (linesL x.k).length ((linesL x.k).map strV)) ∧ Below w.heap.size w w' := by
  have HPO : Hid (∀ w' v (l : List (List UInt8)), Below w.heap.size w w' → l = linesL x.k → w'.ownsRow w.heap.size 9 1 v l.length (l.map strV) → (fun e w' => (∃ v', e = Ending.returned v' ∧ w'.ownsRow w.heap.size 9 1 v' (linesL x.k).length ((linesL x.k).map strV)) ∧ Below w.heap.size w w') (.returned v) w') := fun w' v l h e ho => by subst e; exact ⟨⟨_, rfl, ho⟩, h⟩
  generalize (fun e w' => (∃ v', e = Ending.returned v' ∧ w'.ownsRow w.heap.size 9 1 v' (linesL x.k).length ((linesL x.k).map strV)) ∧ Below w.heap.size w w') = POST at *
  have HPR := Lib.hid h
  obtain ⟨L0, hL0⟩ : ∃ L, headLn x.k 0 = L := ⟨_, rfl⟩
  have HC0 : Hid (∀ (W : World) (v : Value), Rd (encI .i64) 1 W v [x.rounds] → Calls Tryz.prog 56 #[.string ⟨#[114, 111, 117, 110, 100, 115]⟩, v] W fun e w' => e = .returned (strV L0) ∧ Below W.heap.size W w') := fun W v hv => by rw [← hL0]; exact rline_any (hdW 0) [x.rounds] v W hv (fun n hn => by rw [List.mem_singleton.1 hn]; exact h.good.rounds) (by decide) (by simp)
  obtain ⟨L1, hL1⟩ : ∃ L, headLn x.k 1 = L := ⟨_, rfl⟩
  have HC1 : Hid (∀ (W : World) (v : Value), Rd (encI .i64) 1 W v (x.ups.l.map b2i) → Calls Tryz.prog 56 #[.string ⟨#[117, 112, 115]⟩, v] W fun e w' => e = .returned (strV L1) ∧ Below W.heap.size W w') := fun W v hv => by rw [← hL1]; exact rline_any (hdW 1) (x.ups.l.map b2i) v W hv (fun n hn => by obtain ⟨b, _, rfl⟩ := List.mem_map.1 hn; cases b <;> simp [b2i, inI]) (by decide) (by rw [List.length_map]; have := h.ups; omega)
  obtain ⟨L2, hL2⟩ : ∃ L, headLn x.k 2 = L := ⟨_, rfl⟩
  have HC2 : Hid (∀ (W : World) (v : Value), Rd (encI .i64) 1 W v x.offs.l → Calls Tryz.prog 56 #[.string ⟨#[111, 102, 102, 115]⟩, v] W fun e w' => e = .returned (strV L2) ∧ Below W.heap.size W w') := fun W v hv => by rw [← hL2]; exact rline_any (hdW 2) x.offs.l v W hv (h.good.offs.2) (by decide) (by have := h.lens.1; omega)
  obtain ⟨L3, hL3⟩ : ∃ L, headLn x.k 3 = L := ⟨_, rfl⟩
  have HC3 : Hid (∀ (W : World) (v : Value), Rd (encI .i64) 1 W v x.gates.l → Calls Tryz.prog 56 #[.string ⟨#[103, 97, 116, 101, 115]⟩, v] W fun e w' => e = .returned (strV L3) ∧ Below W.heap.size W w') := fun W v hv => by rw [← hL3]; exact rline_any (hdW 3) x.gates.l v W hv (h.good.gates.2) (by decide) (by have := h.lens.2.1; omega)
  obtain ⟨L4, hL4⟩ : ∃ L, headLn x.k 4 = L := ⟨_, rfl⟩
  have HC4 : Hid (∀ (W : World) (v : Value), Rd (encI .i64) 1 W v x.guards.l → Calls Tryz.prog 56 #[.string ⟨#[103, 117, 97, 114, 100, 115]⟩, v] W fun e w' => e = .returned (strV L4) ∧ Below W.heap.size W w') := fun W v hv => by rw [← hL4]; exact rline_any (hdW 4) x.guards.l v W hv (h.good.guards.2) (by decide) (by have := h.lens.2.2.1; omega)
  obtain ⟨L5, hL5⟩ : ∃ L, headLn x.k 5 = L := ⟨_, rfl⟩
  have HC5 : Hid (∀ (W : World) (v : Value), Rd (encI .i64) 1 W v x.drifts.l → Calls Tryz.prog 56 #[.string ⟨#[100, 114, 105, 102, 116, 115]⟩, v] W fun e w' => e = .returned (strV L5) ∧ Below W.heap.size W w') := fun W v hv => by rw [← hL5]; exact rline_any (hdW 5) x.drifts.l v W hv (h.good.drifts.2) (by decide) (by have := h.lens.2.2.2; omega)
  have HLL : Hid (linesL x.k = [L0, L1, L2, L3, L4, L5] ++ x.ops.map (fun o : Ho => opLn o.ok) ++ x.faults.map (fun f : Fa => ftLn f.fk)) := by
    show _ = _
    unfold linesL
    rw [← hL0, ← hL1, ← hL2, ← hL3, ← hL4, ← hL5]
    show _ ++ (x.ops.map Ho.ok).map opLn ++ (x.faults.map Fa.fk).map ftLn = _
    rw [List.map_map, List.map_map]
    rfl
  clear h hL0 hL1 hL2 hL3 hL4 hL5
  have HBX : Hid (SL x w (w.alloc (.cells (encSc x).toArray 27))) := SL.of (Blk.new' rfl) (below1 _ _)
  go_enter Tryz.func31, Tryz.ntmps31
  go_upto_region 1 with fail
  change Code.wp _ _ _ _ (w.alloc (.cells (encSc x).toArray 27))
  generalize w.alloc (.cells (encSc x).toArray 27) = W0 at *
  have hS : Hid (SL x w W0.drew) := HBX.out.keep (Below.refl _ _).drew
  clear HBX
  refine wp_region_held_drew (S := fun X => Hid (SL x w X)) (by kernel_rfl) hS (fun hHeld => ?_)
  (refine takeW (i := 0) (v := ?_) rfl (by kernel_rfl) (by kernel_rfl) (by kernel_rfl) (fun _ _ _ h => h) (by rfl) (by assumption) ?_ ?_; rotate_left; (intro W hW; (try dsimp only at hW); go_simp; try with_reducible rfl); (try simp only [Act.put, List.setIfInBounds_toArray, List.set_cons_zero, List.set_cons_succ]))
  (refine takeW (i := 1) rfl (by kernel_rfl) (by kernel_rfl) (by kernel_rfl) (fun _ _ _ h => h) (by rfl) (by assumption) (fun W hW => exec_load1 FL3 rfl rfl hW.out.c0) ?_; (try simp only [Act.put, List.setIfInBounds_toArray, List.set_cons_zero, List.set_cons_succ]))
  (refine takeW (i := 4) (v := ?_) rfl (by kernel_rfl) (by kernel_rfl) (by kernel_rfl) (fun _ _ _ h => h) (by rfl) (by assumption) ?_ ?_; rotate_left; (intro W hW; (try dsimp only at hW); go_simp; try with_reducible rfl); (try simp only [Act.put, List.setIfInBounds_toArray, List.set_cons_zero, List.set_cons_succ]))
  (refine takeW (i := 5) rfl (by kernel_rfl) (by kernel_rfl) (by kernel_rfl) (fun _ _ _ h => h) (by rfl) (by assumption) (fun W hW => exec_load1 FL22k rfl rfl hW.out.c1) ?_; (try simp only [Act.put, List.setIfInBounds_toArray, List.set_cons_zero, List.set_cons_succ]))
  (refine takeW (i := 8) (v := ?_) rfl (by kernel_rfl) (by kernel_rfl) (by kernel_rfl) (fun _ _ _ h => h) (by rfl) (by assumption) ?_ ?_; rotate_left; (intro W hW; (try dsimp only at hW); go_simp; try with_reducible rfl); (try simp only [Act.put, List.setIfInBounds_toArray, List.set_cons_zero, List.set_cons_succ]))
  (refine takeW (i := 9) rfl (by kernel_rfl) (by kernel_rfl) (by kernel_rfl) (fun _ _ _ h => h) (by rfl) (by assumption) (fun W hW => exec_load1 FL23k rfl rfl hW.out.c2) ?_; (try simp only [Act.put, List.setIfInBounds_toArray, List.set_cons_zero, List.set_cons_succ]))
  (refine takeW (i := 11) (v := ?_) rfl (by kernel_rfl) (by kernel_rfl) (by kernel_rfl) (fun _ _ _ h => h) (by rfl) (by assumption) ?_ ?_; rotate_left; (intro W hW; (try dsimp only at hW); go_simp; try with_reducible rfl); (try simp only [Act.put, List.setIfInBounds_toArray, List.set_cons_zero, List.set_cons_succ]))
  (refine takeW (i := 12) rfl (by kernel_rfl) (by kernel_rfl) (by kernel_rfl) (fun _ _ _ h => h) (by rfl) (by assumption) (fun W hW => exec_load1 FL23k rfl rfl hW.out.c3) ?_; (try simp only [Act.put, List.setIfInBounds_toArray, List.set_cons_zero, List.set_cons_succ]))
  (refine takeW (i := 14) (v := ?_) rfl (by kernel_rfl) (by kernel_rfl) (by kernel_rfl) (fun _ _ _ h => h) (by rfl) (by assumption) ?_ ?_; rotate_left; (intro W hW; (try dsimp only at hW); go_simp; try with_reducible rfl); (try simp only [Act.put, List.setIfInBounds_toArray, List.set_cons_zero, List.set_cons_succ]))
  (refine takeW (i := 15) rfl (by kernel_rfl) (by kernel_rfl) (by kernel_rfl) (fun _ _ _ h => h) (by rfl) (by assumption) (fun W hW => exec_load1 FL23k rfl rfl hW.out.c4) ?_; (try simp only [Act.put, List.setIfInBounds_toArray, List.set_cons_zero, List.set_cons_succ]))
  (refine takeW (i := 17) (v := ?_) rfl (by kernel_rfl) (by kernel_rfl) (by kernel_rfl) (fun _ _ _ h => h) (by rfl) (by assumption) ?_ ?_; rotate_left; (intro W hW; (try dsimp only at hW); go_simp; try with_reducible rfl); (try simp only [Act.put, List.setIfInBounds_toArray, List.set_cons_zero, List.set_cons_succ]))
  (refine takeW (i := 18) rfl (by kernel_rfl) (by kernel_rfl) (by kernel_rfl) (fun _ _ _ h => h) (by rfl) (by assumption) (fun W hW => exec_load1 FL23k rfl rfl hW.out.c5) ?_; (try simp only [Act.put, List.setIfInBounds_toArray, List.set_cons_zero, List.set_cons_succ]))
  refine takeE (i := 2) rfl (by kernel_rfl) (by rfl) (exec_bI1 rfl rfl) ?_
  rintro v2 W2 ⟨hr2, hb⟩
  have HR2 := Lib.hid hr2
  clear hr2
  have HS2 : Hid (SL x w W2) := Lib.hid (hHeld.out.keep hb)
  clear hHeld
  refine ⟨HS2, ?_⟩
  try simp only [Act.put, List.setIfInBounds_toArray, List.set_cons_zero, List.set_cons_succ]
  have hHeld := HS2
  clear HS2
  refine takeC (i := 3) rfl (by kernel_rfl) (by rfl) (fun K hK => ?_)
  go_simp
  refine (HC0.out _ _ HR2.out).mono ?_
  rintro e W3 ⟨rfl, hb⟩
  clear HR2
  have HS3 : Hid (SL x w W3) := Lib.hid (hHeld.out.keep hb)
  clear hHeld hb
  refine hK.out _ _ HS3 (fun hHeld => ?_)
  clear hK K HS3
  try simp only [Act.put, List.setIfInBounds_toArray, List.set_cons_zero, List.set_cons_succ]
  refine takeC (i := 6) rfl (by kernel_rfl) (by rfl) (fun K hK => ?_)
  go_simp
  refine (rtruths_any _ x.ups.l _ (HPR.out.good.ups.below hHeld.out.bel) HPR.out.ups).mono ?_
  rintro e W6 ⟨⟨ta, tc, rfl, hrt⟩, hb⟩
  have HRT := Lib.hid hrt
  clear hrt
  have HS6 : Hid (SL x w W6) := Lib.hid (hHeld.out.keep hb)
  clear hHeld hb
  refine hK.out _ _ HS6 (fun hHeld => ?_)
  clear hK K HS6
  try simp only [Act.put, List.setIfInBounds_toArray, List.set_cons_zero, List.set_cons_succ]
  refine takeC (i := 7) rfl (by kernel_rfl) (by rfl) (fun K hK => ?_)
  go_simp
  refine (HC1.out _ _ HRT.out).mono ?_
  rintro e W7 ⟨rfl, hb⟩
  clear HRT
  have HS7 : Hid (SL x w W7) := Lib.hid (hHeld.out.keep hb)
  clear hHeld hb
  refine hK.out _ _ HS7 (fun hHeld => ?_)
  clear hK K HS7
  try simp only [Act.put, List.setIfInBounds_toArray, List.set_cons_zero, List.set_cons_succ]
  refine takeC (i := 10) rfl (by kernel_rfl) (by rfl) (fun K hK => ?_)
  go_simp
  refine (HC2.out _ _ (HPR.out.good.offs.1.below hHeld.out.bel)).mono ?_
  rintro e W10 ⟨rfl, hb⟩
  have HS10 : Hid (SL x w W10) := Lib.hid (hHeld.out.keep hb)
  clear hHeld hb
  refine hK.out _ _ HS10 (fun hHeld => ?_)
  clear hK K HS10
  try simp only [Act.put, List.setIfInBounds_toArray, List.set_cons_zero, List.set_cons_succ]
  refine takeC (i := 13) rfl (by kernel_rfl) (by rfl) (fun K hK => ?_)
  go_simp
  refine (HC3.out _ _ (HPR.out.good.gates.1.below hHeld.out.bel)).mono ?_
  rintro e W13 ⟨rfl, hb⟩
  have HS13 : Hid (SL x w W13) := Lib.hid (hHeld.out.keep hb)
  clear hHeld hb
  refine hK.out _ _ HS13 (fun hHeld => ?_)
  clear hK K HS13
  try simp only [Act.put, List.setIfInBounds_toArray, List.set_cons_zero, List.set_cons_succ]
  refine takeC (i := 16) rfl (by kernel_rfl) (by rfl) (fun K hK => ?_)
  go_simp
  refine (HC4.out _ _ (HPR.out.good.guards.1.below hHeld.out.bel)).mono ?_
  rintro e W16 ⟨rfl, hb⟩
  have HS16 : Hid (SL x w W16) := Lib.hid (hHeld.out.keep hb)
  clear hHeld hb
  refine hK.out _ _ HS16 (fun hHeld => ?_)
  clear hK K HS16
  try simp only [Act.put, List.setIfInBounds_toArray, List.set_cons_zero, List.set_cons_succ]
  refine takeC (i := 19) rfl (by kernel_rfl) (by rfl) (fun K hK => ?_)
  go_simp
  refine (HC5.out _ _ (HPR.out.good.drifts.1.below hHeld.out.bel)).mono ?_
  rintro e W19 ⟨rfl, hb⟩
  have HS19 : Hid (SL x w W19) := Lib.hid (hHeld.out.keep hb)
  clear hHeld hb
  refine hK.out _ _ HS19 (fun hHeld => ?_)
  clear hK K HS19
  try simp only [Act.put, List.setIfInBounds_toArray, List.set_cons_zero, List.set_cons_succ]
  refine takeE (i := 20) rfl (by kernel_rfl) (by rfl) (exec_bS6 rfl rfl rfl rfl rfl rfl rfl) ?_
  rintro v20 W20 ⟨hr20, hb, -, -⟩
  have HO20 := Lib.hid (own_le hr20 hHeld.out.bel.size)
  clear hr20
  have HS20 : Hid (SL x w W20) := Lib.hid (hHeld.out.keep hb)
  clear hHeld
  refine ⟨HS20, ?_⟩
  try simp only [Act.put, List.setIfInBounds_toArray, List.set_cons_zero, List.set_cons_succ]
  have hHeld := HS20
  clear HS20
  (refine takeW (i := 21) (v := ?_) rfl (by kernel_rfl) (by kernel_rfl) (by kernel_rfl) (fun _ _ _ h => h) (by rfl) (by assumption) ?_ ?_; rotate_left; (intro W hW; (try dsimp only at hW); go_simp; try with_reducible rfl); (try simp only [Act.put, List.setIfInBounds_toArray, List.set_cons_zero, List.set_cons_succ]))
  refine wpAnyH_done (by kernel_rfl) ?_ _
  have HS20 := hHeld
  clear hHeld
  obtain ⟨L6, hL6⟩ : ∃ L6, L6 = [L0, L1, L2, L3, L4, L5] := ⟨_, rfl⟩
  replace HO20 : Hid (W20.ownsRow w.heap.size 9 1 v20 L6.length (L6.map strV)) := by rw [hL6]; exact HO20
  have HL0 : Hid (L6.length = 6) := by rw [hL6]; rfl
  rw [← hL6] at HLL
  obtain ⟨a20, c20, rfl, -⟩ := owns_shape HO20.out
  clear hL6 HC0 HC1 HC2 HC3 HC4 HC5
  obtain ⟨q, hq⟩ : ∃ q, x.ops.length = q := ⟨_, rfl⟩
  have HQ := Lib.hid hq
  have HQ2 : Hid (q ≤ 20000) := by show _ ≤ _; rw [← hq]; exact HPR.out.ops.1
  have HCQ : Hid (∀ X, SL x w X → X.cell? ⟨w.heap.size, 6, none⟩ = some (.slice x.oa q x.oc)) := fun X hX => by rw [← hq]; exact hX.c6
  have HSNN : Hid (∀ (k : Nat) (o : Ho), x.ops[k]? = some o → L6 ++ (x.ops.take (k + 1)).map (fun o : Ho => opLn o.ok) = (L6 ++ (x.ops.take k).map (fun o : Ho => opLn o.ok)) ++ [opLn o.ok]) := fun k o h => by
    show _ = _
    rw [take_snoc h, List.map_append, ← List.append_assoc]
    rfl
  clear hq
  go_wp2_with fail
  go_loopw [3, 4] (fun u i wr => ∃ k : Nat, k ≤ q ∧ i = .int .i64 k ∧ Hid (wr.ownsRow w.heap.size 9 1 u (L6 ++ (x.ops.take k).map (fun o : Ho => opLn o.ok)).length ((L6 ++ (x.ops.take k).map (fun o : Ho => opLn o.ok)).map strV)) ∧ Hid (SL x w wr)) (fun _ i _ => q - (intOf i).toNat)
  case atStart => exact ⟨0, Nat.zero_le _, rfl, by simpa using HO20, HS20⟩
  case round =>
    clear HO20 HS20
    obtain ⟨k, hk, rfl, HOW, HSL⟩ := hrel
    obtain ⟨wo, rfl⟩ : ∃ wo : World, wo = wr := ⟨_, rfl⟩
    obtain ⟨va, vc, rfl, -⟩ := owns_shape HOW.out
    have cq : wo.cell? ⟨w.heap.size, 6, none⟩ = some (.slice x.oa q x.oc) := HCQ.out _ HSL.out
    have hq20 : q ≤ 20000 := HQ2.out
    by_cases hlt : k < q
    · obtain ⟨o, hs⟩ : ∃ o, x.ops[k]? = some o := ⟨_, List.getElem?_eq_getElem (by rw [HQ.out]; exact hlt)⟩
      have HSG := HPR.out.good.ops.below HSL.out.bel
      obtain ⟨b, off, hba, hbl, hc⟩ := HSG.row (by intro e; rw [e] at hs; simp at hs)
      have HC : Hid (∀ j u, (encH o)[j]? = some u → wo.cell? ⟨b, off + k * 6 + j, none⟩ = some u) := hc k o hs
      rw [hba] at cq
      obtain ⟨LN, hLN⟩ : ∃ LN, LN = opLn o.ok := ⟨_, rfl⟩
      obtain ⟨q9, hq9⟩ : ∃ q9, q9 = (L6 ++ (x.ops.take k).map (fun o : Ho => opLn o.ok)).length := ⟨_, rfl⟩
      have HQQ : Hid (q9 ≤ 30000) := by show _ ≤ _; have := HL0.out; have := HQ2.out; rw [hq9]; simp only [List.length_append, List.length_map, List.length_take]; omega
      have HSN : Hid (∀ (W : World) (v : Value), Hid (W.ownsRow w.heap.size 9 1 v (q9 + 1) ((L6 ++ (x.ops.take k).map (fun o : Ho => opLn o.ok)).map strV ++ [strV LN])) → Hid (W.ownsRow w.heap.size 9 1 v (L6 ++ (x.ops.take (k + 1)).map (fun o : Ho => opLn o.ok)).length ((L6 ++ (x.ops.take (k + 1)).map (fun o : Ho => opLn o.ok)).map strV))) := fun W v h => by
        rw [HSNN.out k o hs, ← hLN]
        have h' := h.out
        rw [hq9] at h'
        exact Lib.hid (by simpa [Nat.add_assoc] using h')
      rw [← hq9] at HOW ⊢
      generalize (L6 ++ (x.ops.take k).map (fun o : Ho => opLn o.ok)).map strV = XS at *
      have HG := Lib.hid (HPR.out.good.opg o (List.mem_of_getElem? hs))
      have HDL : Hid (o.d.length ≤ 20000) := HPR.out.ops.2 o (List.mem_of_getElem? hs)
      obtain ⟨A, hA⟩ : ∃ A, A = lineN wOp o.ok.ints := ⟨_, rfl⟩
      have HAL : Hid (A.length ≤ 200) := by
        have := joinB_len wOp o.ok.ints (ho_ints HG.out)
        have h2 : wOp.length = 2 := rfl
        have h3 : o.ok.ints.length = 5 := rfl
        show _ ≤ _
        rw [hA]; omega
      obtain ⟨Z1, HZ1⟩ := cat_ex A [32] 300 (by have := HAL.out; simp; omega)
      obtain ⟨H, hH⟩ : ∃ H, H = hexW o.ok.d := ⟨_, rfl⟩
      have HZ2 : Hid (Z1 ++ H = LN ∧ LN.length ≤ 100000) := by
        have e1 := HZ1.out.1
        have e2 : Z1 ++ H = LN := by rw [← e1, hA, hH, hLN]; rfl
        refine ⟨e2, ?_⟩
        have h5 := HZ1.out.2; have h6 := HDL.out
        have h7 : H.length = 2 * o.d.length + 1 := by rw [hH, hexW_len]; show 2 * (bytesOf o.d).length + 1 = _; rw [bytesOf_len]
        rw [← e2, List.length_append]; omega
      replace HZ1 := Lib.hid HZ1
      replace HZ2 := Lib.hid HZ2
      have HCL : Hid (∀ (W : World) (v : Value), Rd (encI .i64) 1 W v o.ok.ints → Calls Tryz.prog 56 #[.string ⟨#[111, 112]⟩, v] W fun e w' => e = .returned (strV A) ∧ Below W.heap.size W w') := fun W v h => by rw [hA]; exact rline_any wOp _ v W h (ho_ints HG.out) (by decide) (by show 5 ≤ 100000; decide)
      have HCX : Hid (∀ W, Below w.heap.size w W → Calls Tryz.prog 57 #[.slice o.a o.d.length o.c] W fun e w' => e = .returned (strV H) ∧ Below W.heap.size W w') := fun W hW => by rw [hH]; exact rhex_any _ _ W (bys_of (HG.out.d.below hW)) (by show (bytesOf o.d).length ≤ _; rw [bytesOf_len]; have := HDL.out; omega)
      clear hA hH HG HDL HAL
      clear hc hs HSG hba hLN hq9 hbl
      go_upto_region 6 with (first | ((with_reducible show wpList _ _ _ (Oper.mk (some 40) _ _ _ _ _ :: _) _ _); refine wpList_loadW W43 rfl rfl rfl (encH o) rfl HC.out ?_) | ((with_reducible show wpList _ _ _ (Oper.mk none _ _ _ _ _ :: _) _ _); refine wpList_boxW W43 rfl rfl rfl (encH o) rfl rfl (encH_one _) rfl ?_; go_must (intro W1 HZ hal hz1; have HZ := Lib.hid HZ; have HAL := Lib.hid hal; clear hal hz1)))
      obtain ⟨bo, hbo⟩ : ∃ bo, bo = wo.heap.size := ⟨_, rfl⟩
      rw [← hbo] at HZ ⊢
      have hS : Hid (SLO x o w bo W1.drew) := (⟨(HSL.out.keep HAL.out).s, (HSL.out.keep HAL.out).bel, HZ.out⟩ : SLO x o w bo W1).keep (Below.refl _ _).drew
      have HOW1 := Lib.hid (ow_below (ow_below HOW.out HAL.out) (Below.refl _ W1).drew)
      clear HOW HZ HAL hbo HSL HC cq
      have HOW := HOW1
      clear HOW1
      refine wp_region_held_drew (S := fun X => Hid (SLO x o w bo X)) (by kernel_rfl) hS (fun hHeld => ?_)
      (refine takeW (i := 0) (v := ?_) rfl (by kernel_rfl) (by kernel_rfl) (by kernel_rfl) (fun _ _ _ h => h) (by rfl) (by assumption) ?_ ?_; rotate_left; (intro W hW; (try dsimp only at hW); go_simp; try with_reducible rfl); (try simp only [Act.put, List.setIfInBounds_toArray, List.set_cons_zero, List.set_cons_succ]))
      (refine takeW (i := 1) (v := ?_) rfl (by kernel_rfl) (by kernel_rfl) (by kernel_rfl) (fun _ _ _ h => h) (by rfl) (by assumption) ?_ ?_; rotate_left; (intro W hW; (try dsimp only at hW); go_simp; try with_reducible rfl); (try simp only [Act.put, List.setIfInBounds_toArray, List.set_cons_zero, List.set_cons_succ]))
      (refine takeW (i := 2) rfl (by kernel_rfl) (by kernel_rfl) (by kernel_rfl) (fun _ _ _ h => h) (by rfl) (by assumption) (fun W hW => exec_load1 FL3 rfl rfl (hW.out.b.list0 rfl)) ?_; (try simp only [Act.put, List.setIfInBounds_toArray, List.set_cons_zero, List.set_cons_succ]))
      (refine takeW (i := 3) (v := ?_) rfl (by kernel_rfl) (by kernel_rfl) (by kernel_rfl) (fun _ _ _ h => h) (by rfl) (by assumption) ?_ ?_; rotate_left; (intro W hW; (try dsimp only at hW); go_simp; try with_reducible rfl); (try simp only [Act.put, List.setIfInBounds_toArray, List.set_cons_zero, List.set_cons_succ]))
      (refine takeW (i := 4) rfl (by kernel_rfl) (by kernel_rfl) (by kernel_rfl) (fun _ _ _ h => h) (by rfl) (by assumption) (fun W hW => exec_load1 FL3 rfl rfl (hW.out.b.list0 rfl)) ?_; (try simp only [Act.put, List.setIfInBounds_toArray, List.set_cons_zero, List.set_cons_succ]))
      (refine takeW (i := 5) (v := ?_) rfl (by kernel_rfl) (by kernel_rfl) (by kernel_rfl) (fun _ _ _ h => h) (by rfl) (by assumption) ?_ ?_; rotate_left; (intro W hW; (try dsimp only at hW); go_simp; try with_reducible rfl); (try simp only [Act.put, List.setIfInBounds_toArray, List.set_cons_zero, List.set_cons_succ]))
      (refine takeW (i := 6) rfl (by kernel_rfl) (by kernel_rfl) (by kernel_rfl) (fun _ _ _ h => h) (by rfl) (by assumption) (fun W hW => exec_load1 FL3 rfl rfl (hW.out.b.list0 rfl)) ?_; (try simp only [Act.put, List.setIfInBounds_toArray, List.set_cons_zero, List.set_cons_succ]))
      (refine takeW (i := 7) (v := ?_) rfl (by kernel_rfl) (by kernel_rfl) (by kernel_rfl) (fun _ _ _ h => h) (by rfl) (by assumption) ?_ ?_; rotate_left; (intro W hW; (try dsimp only at hW); go_simp; try with_reducible rfl); (try simp only [Act.put, List.setIfInBounds_toArray, List.set_cons_zero, List.set_cons_succ]))
      (refine takeW (i := 8) rfl (by kernel_rfl) (by kernel_rfl) (by kernel_rfl) (fun _ _ _ h => h) (by rfl) (by assumption) (fun W hW => exec_load1 FL3 rfl rfl (hW.out.b.list0 rfl)) ?_; (try simp only [Act.put, List.setIfInBounds_toArray, List.set_cons_zero, List.set_cons_succ]))
      (refine takeW (i := 9) (v := ?_) rfl (by kernel_rfl) (by kernel_rfl) (by kernel_rfl) (fun _ _ _ h => h) (by rfl) (by assumption) ?_ ?_; rotate_left; (intro W hW; (try dsimp only at hW); go_simp; try with_reducible rfl); (try simp only [Act.put, List.setIfInBounds_toArray, List.set_cons_zero, List.set_cons_succ]))
      (refine takeW (i := 10) rfl (by kernel_rfl) (by kernel_rfl) (by kernel_rfl) (fun _ _ _ h => h) (by rfl) (by assumption) (fun W hW => exec_load1 FL3 rfl rfl (hW.out.b.list0 rfl)) ?_; (try simp only [Act.put, List.setIfInBounds_toArray, List.set_cons_zero, List.set_cons_succ]))
      (refine takeW (i := 14) (v := ?_) rfl (by kernel_rfl) (by kernel_rfl) (by kernel_rfl) (fun _ _ _ h => h) (by rfl) (by assumption) ?_ ?_; rotate_left; (intro W hW; (try dsimp only at hW); go_simp; try with_reducible rfl); (try simp only [Act.put, List.setIfInBounds_toArray, List.set_cons_zero, List.set_cons_succ]))
      (refine takeW (i := 15) rfl (by kernel_rfl) (by kernel_rfl) (by kernel_rfl) (fun _ _ _ h => h) (by rfl) (by assumption) (fun W hW => exec_load1 FL44k rfl rfl (hW.out.b.list0 rfl)) ?_; (try simp only [Act.put, List.setIfInBounds_toArray, List.set_cons_zero, List.set_cons_succ]))
      refine takeE (i := 11) rfl (by kernel_rfl) (by rfl) (exec_bI5 rfl rfl rfl rfl rfl rfl) ?_
      rintro v11 W11 ⟨hr11, hb⟩
      have HR11 := Lib.hid hr11
      clear hr11
      have HS11 : Hid (SLO x o w bo W11) := Lib.hid (hHeld.out.keep hb)
      have HOW11 := Lib.hid (ow_below HOW.out hb)
      clear HOW
      have HOW := HOW11
      clear hHeld HOW11
      refine ⟨HS11, ?_⟩
      try simp only [Act.put, List.setIfInBounds_toArray, List.set_cons_zero, List.set_cons_succ]
      have hHeld := HS11
      clear HS11
      refine takeC (i := 12) rfl (by kernel_rfl) (by rfl) (fun K hK => ?_)
      go_simp
      refine (HCL.out _ _ HR11.out).mono ?_
      rintro e W12 ⟨rfl, hb⟩
      clear HR11
      have HS12 : Hid (SLO x o w bo W12) := Lib.hid (hHeld.out.keep hb)
      have HOW12 := Lib.hid (ow_below HOW.out hb)
      clear HOW
      have HOW := HOW12
      clear hHeld hb HOW12
      refine hK.out _ _ HS12 (fun hHeld => ?_)
      clear hK K HS12
      try simp only [Act.put, List.setIfInBounds_toArray, List.set_cons_zero, List.set_cons_succ]
      (refine takeW (i := 13) rfl (by kernel_rfl) (by kernel_rfl) (by kernel_rfl) (fun _ _ _ h => h) (by rfl) (by assumption) (fun W hW => exec_catE HZ1.out (by decide) rfl rfl rfl) ?_; (try simp only [Act.put, List.setIfInBounds_toArray, List.set_cons_zero, List.set_cons_succ]))
      refine takeC (i := 16) rfl (by kernel_rfl) (by rfl) (fun K hK => ?_)
      go_simp
      refine (HCX.out _ hHeld.out.bel).mono ?_
      rintro e W16 ⟨rfl, hb⟩
      have HS16 : Hid (SLO x o w bo W16) := Lib.hid (hHeld.out.keep hb)
      have HOW16 := Lib.hid (ow_below HOW.out hb)
      clear HOW
      have HOW := HOW16
      clear hHeld hb HOW16
      refine hK.out _ _ HS16 (fun hHeld => ?_)
      clear hK K HS16
      try simp only [Act.put, List.setIfInBounds_toArray, List.set_cons_zero, List.set_cons_succ]
      (refine takeW (i := 17) rfl (by kernel_rfl) (by kernel_rfl) (by kernel_rfl) (fun _ _ _ h => h) (by rfl) (by assumption) (fun W hW => exec_catE HZ2.out (by decide) rfl rfl rfl) ?_; (try simp only [Act.put, List.setIfInBounds_toArray, List.set_cons_zero, List.set_cons_succ]))
      refine takeE (i := 18) rfl (by kernel_rfl) (by rfl) (exec_bS1 (a0 := LN) rfl rfl) ?_
      rintro v18 W18 ⟨-, hb, hw9, rfl⟩
      have HNW : Hid (∀ (j : Nat) (u : Value), ([strV LN] : List Value)[j]? = some u → W18.cell? ((⟨W16.heap.size, 0, none⟩ : Addr).add j) = some u) := Lib.hid (by rw [hw9]; exact fun j u hj => by rw [Addr.add_lit, World.cell?_alloc_at _ _ _ _ rfl]; simpa using hj)
      clear hw9
      have HS18 : Hid (SLO x o w bo W18) := Lib.hid (hHeld.out.keep hb)
      have HOW18 := Lib.hid (ow_below HOW.out hb)
      clear HOW
      have HOW := HOW18
      clear hHeld HOW18
      refine ⟨HS18, ?_⟩
      try simp only [Act.put, List.setIfInBounds_toArray, List.set_cons_zero, List.set_cons_succ]
      have hHeld := HS18
      clear HS18
      refine takeApp (i := 19) (m := 1) E80 rfl (by kernel_rfl) (by rfl) rfl HOW.out (news := [strV LN]) rfl HNW.out (by simp [Value.oneCell', strV]) rfl rfl (by have := HQQ.out; omega) hHeld.out.bel.size ?_
      intro v19 W19 ho hg hpl
      have HS19 : Hid (SLO x o w bo W19) := Lib.hid (hHeld.out.app HOW.out hg)
      have HO19 := Lib.hid ho
      obtain ⟨a19, c19, rfl, -⟩ := owns_shape ho
      clear ho hg hpl HOW HNW hHeld
      refine ⟨HS19, ?_⟩
      try simp only [Act.put, List.setIfInBounds_toArray, List.set_cons_zero, List.set_cons_succ]
      have hHeld := HS19
      (refine takeW (i := 20) (v := ?_) rfl (by kernel_rfl) (by kernel_rfl) (by kernel_rfl) (fun _ _ _ h => h) (by rfl) (by assumption) ?_ ?_; rotate_left; (intro W hW; (try dsimp only at hW); go_simp; try with_reducible rfl); (try simp only [Act.put, List.setIfInBounds_toArray, List.set_cons_zero, List.set_cons_succ]))
      refine wpAnyH_done (by kernel_rfl) ?_ _
      have HS := hHeld
      clear hHeld
      go_wp2
      go_roundw
      case rel => exact ⟨k + 1, by omega, by go_num, HSN.out _ _ (Lib.hid (HO19.out)), HS.out.toSL⟩
      case measure => simp [intOf]; omega
    · obtain rfl : k = q := by omega
      have HO20 : Hid (wo.ownsRow w.heap.size 9 1 (.slice va (L6 ++ (x.ops.take k).map (fun o : Ho => opLn o.ok)).length vc) (L6 ++ x.ops.map (fun o : Ho => opLn o.ok)).length ((L6 ++ x.ops.map (fun o : Ho => opLn o.ok)).map strV)) := by
        have := HOW
        rw [List.take_of_length_le (by rw [HQ.out]; exact Nat.le_refl _)] at this ⊢
        exact this
      have HS20 := HSL
      obtain ⟨L7, hL7⟩ : ∃ L7, L7 = L6 ++ x.ops.map (fun o : Ho => opLn o.ok) := ⟨_, rfl⟩
      rw [← hL7] at HLL HO20
      have HL0' : Hid (L7.length ≤ 20006) := by show _ ≤ _; rw [hL7, List.length_append, List.length_map, HQ.out]; have := HL0.out; have := HQ2.out; omega
      clear HOW HSL hL7 HL0 HSNN
      have HL0 := HL0'
      clear HL0'
      generalize (L6 ++ (x.ops.take k).map (fun o : Ho => opLn o.ok)).length = n20 at *
      have HQo := HQ
      have HCQo := HCQ
      clear HQ HQ2 HCQ
      obtain ⟨q, hq⟩ : ∃ q, x.faults.length = q := ⟨_, rfl⟩
      have HQ := Lib.hid hq
      have HQ2 : Hid (q ≤ 20000) := by show _ ≤ _; rw [← hq]; exact HPR.out.fl
      have HCQ : Hid (∀ X, SL x w X → X.cell? ⟨w.heap.size, 7, none⟩ = some (.slice x.fa q x.fc)) := fun X hX => by rw [← hq]; exact hX.c7
      have HSNN : Hid (∀ (k : Nat) (f : Fa), x.faults[k]? = some f → L7 ++ (x.faults.take (k + 1)).map (fun f : Fa => ftLn f.fk) = (L7 ++ (x.faults.take k).map (fun f : Fa => ftLn f.fk)) ++ [ftLn f.fk]) := fun k f h => by
        show _ = _
        rw [take_snoc h, List.map_append, ← List.append_assoc]
        rfl
      clear hq
      go_wp2_with fail
      go_loopw [3, 6] (fun u i wr => ∃ k : Nat, k ≤ q ∧ i = .int .i64 k ∧ Hid (wr.ownsRow w.heap.size 9 1 u (L7 ++ (x.faults.take k).map (fun f : Fa => ftLn f.fk)).length ((L7 ++ (x.faults.take k).map (fun f : Fa => ftLn f.fk)).map strV)) ∧ Hid (SL x w wr)) (fun _ i _ => q - (intOf i).toNat)
      case atStart => exact ⟨0, Nat.zero_le _, rfl, by simpa using HO20, HS20⟩
      case round =>
        clear HO20 HS20
        obtain ⟨k, hk, rfl, HOW, HSL⟩ := hrel
        obtain ⟨wo, rfl⟩ : ∃ wo : World, wo = wr := ⟨_, rfl⟩
        obtain ⟨va, vc, rfl, -⟩ := owns_shape HOW.out
        have cq : wo.cell? ⟨w.heap.size, 7, none⟩ = some (.slice x.fa q x.fc) := HCQ.out _ HSL.out
        have hq20 : q ≤ 20000 := HQ2.out
        by_cases hlt : k < q
        · obtain ⟨f, hs⟩ : ∃ f, x.faults[k]? = some f := ⟨_, List.getElem?_eq_getElem (by rw [HQ.out]; exact hlt)⟩
          have HSG := HPR.out.good.faults.below HSL.out.bel
          obtain ⟨b, off, hba, hbl, hc⟩ := HSG.row (by intro e; rw [e] at hs; simp at hs)
          have HC : Hid (∀ j u, (encF f)[j]? = some u → wo.cell? ⟨b, off + k * 7 + j, none⟩ = some u) := hc k f hs
          rw [hba] at cq
          obtain ⟨LN, hLN⟩ : ∃ LN, LN = ftLn f.fk := ⟨_, rfl⟩
          obtain ⟨q9, hq9⟩ : ∃ q9, q9 = (L7 ++ (x.faults.take k).map (fun f : Fa => ftLn f.fk)).length := ⟨_, rfl⟩
          have HQQ : Hid (q9 ≤ 60000) := by show _ ≤ _; have := HL0.out; have := HQ2.out; rw [hq9]; simp only [List.length_append, List.length_map, List.length_take]; omega
          have HSN : Hid (∀ (W : World) (v : Value), Hid (W.ownsRow w.heap.size 9 1 v (q9 + 1) ((L7 ++ (x.faults.take k).map (fun f : Fa => ftLn f.fk)).map strV ++ [strV LN])) → Hid (W.ownsRow w.heap.size 9 1 v (L7 ++ (x.faults.take (k + 1)).map (fun f : Fa => ftLn f.fk)).length ((L7 ++ (x.faults.take (k + 1)).map (fun f : Fa => ftLn f.fk)).map strV))) := fun W v h => by
            rw [HSNN.out k f hs, ← hLN]
            have h' := h.out
            rw [hq9] at h'
            exact Lib.hid (by simpa [Nat.add_assoc] using h')
          rw [← hq9] at HOW ⊢
          generalize (L7 ++ (x.faults.take k).map (fun f : Fa => ftLn f.fk)).map strV = XS at *
          have HCL : Hid (∀ (W : World) (v : Value), Rd (encI .i64) 1 W v f.fk.ints → Calls Tryz.prog 56 #[.string ⟨#[102, 97, 117, 108, 116]⟩, v] W fun e w' => e = .returned (strV LN) ∧ Below W.heap.size W w') := fun W v h => by rw [hLN]; exact rline_any wFault _ v W h (HPR.out.fts f (List.mem_of_getElem? hs)) (by decide) (by show 7 ≤ 100000; decide)
          clear hc hs HSG hba hLN hq9 hbl
          go_upto_region 11 with (first | ((with_reducible show wpList _ _ _ (Oper.mk (some 72) _ _ _ _ _ :: _) _ _); refine wpList_loadW W39 rfl rfl rfl (encF f) rfl HC.out ?_) | ((with_reducible show wpList _ _ _ (Oper.mk none _ _ _ _ _ :: _) _ _); refine wpList_boxW W39 rfl rfl rfl (encF f) rfl rfl (encF_one _) rfl ?_; go_must (intro W1 HZ hal hz1; have HZ := Lib.hid HZ; have HAL := Lib.hid hal; clear hal hz1)))
          obtain ⟨bo, hbo⟩ : ∃ bo, bo = wo.heap.size := ⟨_, rfl⟩
          rw [← hbo] at HZ ⊢
          have HS1x : Hid (SLF x f w bo W1) := ⟨(HSL.out.keep HAL.out).s, (HSL.out.keep HAL.out).bel, HZ.out⟩
          have HOW1 := Lib.hid (ow_below HOW.out HAL.out)
          clear HOW HZ HAL hbo HSL HC cq
          have HOW := HOW1
          clear HOW1
          have HS1 := HS1x
          clear HS1x
          have d0 : W1.cell? ⟨bo, 0, none⟩ = some (.int .i64 f.k) := HS1.out.b.list0 rfl
          have d1 : W1.cell? ⟨bo, 1, none⟩ = some (.int .i64 f.n) := HS1.out.b.list0 rfl
          have d2 : W1.cell? ⟨bo, 2, none⟩ = some (.int .i64 f.c) := HS1.out.b.list0 rfl
          have d3 : W1.cell? ⟨bo, 3, none⟩ = some (.int .i64 f.r) := HS1.out.b.list0 rfl
          have d4 : W1.cell? ⟨bo, 4, none⟩ = some (.int .i64 f.s) := HS1.out.b.list0 rfl
          have d5 : W1.cell? ⟨bo, 5, none⟩ = some (.int .i64 f.a) := HS1.out.b.list0 rfl
          have d6 : W1.cell? ⟨bo, 6, none⟩ = some (.int .i64 f.b) := HS1.out.b.list0 rfl
          go_wp2_with ((with_reducible show wpList _ _ _ (Oper.mk (some 88) _ _ _ _ _ :: _) _ _); refine wpList_ex rfl (exec_bI7 rfl rfl rfl rfl rfl rfl rfl rfl) ?_; rintro v15 W15 ⟨hr15, hb15⟩; have HR15 := Lib.hid hr15; have HB15 := Lib.hid hb15; clear hr15 hb15)
          have HS15 := Lib.hid (HS1.out.keep HB15.out)
          have HOW15 := Lib.hid (ow_below HOW.out HB15.out)
          clear HS1 HOW HB15 d0 d1 d2 d3 d4 d5 d6
          refine (HCL.out _ _ HR15.out).mono ?_
          rintro e W16 ⟨rfl, hb⟩
          have HS16 := Lib.hid (HS15.out.keep hb)
          have HOW16 := Lib.hid (ow_below HOW15.out hb)
          have hsz : w.heap.size ≤ W16.heap.size := HS16.out.bel.size
          have hq9 : q9 ≤ 60000 := HQQ.out
          clear hb HS15 HOW15 HR15
          go_wp2_with (first | ((with_reducible show wpList _ _ _ (Oper.mk (some 90) _ _ _ _ _ :: _) _ _); refine wpList_val rfl (exec_oneTx rfl rfl) ?_) | ((with_reducible show wpList _ _ _ (Oper.mk (some 91) _ _ _ _ _ :: _) _ _); refine wpList_app1 E80 rfl _ _ rfl HOW16.out [strV LN] rfl (by simp [Value.oneCell', strV]) rfl rfl (by omega) hsz ?_; intro v18 W18 ho18 hg18; have HS18 := Lib.hid (HS16.out.app HOW16.out hg18); have HO18 := Lib.hid ho18; clear ho18 hg18))
          go_roundw
          case rel => exact ⟨k + 1, by omega, by go_num, HSN.out _ _ (Lib.hid (HO18.out)), HS18.out.toSL⟩
          case measure => simp [intOf]; omega
        · obtain rfl : k = q := by omega
          have HF : Hid (L7 ++ (x.faults.take k).map (fun f : Fa => ftLn f.fk) = linesL x.k) := by
            rw [List.take_of_length_le (by rw [HQ.out]; exact Nat.le_refl _)]
            exact Lib.hid HLL.out.symm
          have HB := Lib.hid HSL.out.bel
          clear HSL HSNN
          go_wp2
          exact HPO.out _ _ _ HB.out HF.out HOW.out
end Go.Proofs.YtkinhhkodaacjaaGreatDoor
