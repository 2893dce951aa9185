/- The program's head: one of the first lines, read into a script. -/
import Derived.Test.YtkinhhkodaacjaaGreatDoorOx
import Derived.Test.YtkinhhkodaacjaaGreatDoorN4
namespace Go.Proofs.YtkinhhkodaacjaaGreatDoor
open Go.RowKit Go.Shelf
open Md

def headV (x : Scr) (n : Nat) (l : List Int) : Option Scr := match n with
  | 0 => (match l with
    | [v] => some { x with rounds := v }
    | _ => none)
  | 1 => (bitS l).map fun b => { x with ups := x.ups ++ b }
  | 2 => some { x with offs := l }
  | 3 => some { x with gates := l }
  | 4 => some { x with guards := l }
  | _ => some { x with drifts := l }
theorem headS_cons (x : Scr) (n : Nat) (w : List UInt8) (r : List (List UInt8)) : headS x n (w :: r) = match numsS r with
    | none => none
    | some l => if w = hdW n then headV x n l else none := rfl
theorem bitS_snoc : ∀ {l : List Int} {b : List Bool} {v : Int}, bitS l = some b → (v = 0 ∨ v = 1) → bitS (l ++ [v]) = some (b ++ [decide (v = 1)])
  | [], b, v, h, hv => by
    simp only [bitS, Option.some.injEq] at h
    subst h
    simp [bitS, hv]
  | u :: l, b, v, h, hv => by
    unfold bitS at h
    split at h
    · next hu =>
      obtain ⟨c, hc, rfl⟩ := Option.map_eq_some_iff.1 h
      rw [List.cons_append, bitS, if_pos hu, bitS_snoc hc hv]
      rfl
    · cases h
theorem bitS_bad : ∀ {l : List Int} {k : Nat} {v : Int}, l[k]? = some v → ¬ (v = 0 ∨ v = 1) → bitS l = none
  | [], k, v, h, _ => by simp at h
  | u :: l, 0, v, h, hv => by
    simp only [List.getElem?_cons_zero, Option.some.injEq] at h
    subst h
    rw [bitS, if_neg hv]
  | u :: l, k + 1, v, h, hv => by
    rw [List.getElem?_cons_succ] at h
    rw [bitS, bitS_bad h hv]
    split <;> rfl
theorem headsL_at (n : Nat) (hn : n < 6) : (headsL.map strV)[n]? = some (strV (hdW n)) := by
  match n, hn with
  | 0, _ => rfl
  | 1, _ => rfl
  | 2, _ => rfl
  | 3, _ => rfl
  | 4, _ => rfl
  | 5, _ => rfl
theorem FL22h : Flat Tryz.prog 22 := ⟨⟨_, Tryz.underlying22, rfl⟩, by kernel_rfl⟩
theorem FL23h : Flat Tryz.prog 23 := ⟨⟨_, Tryz.underlying23, rfl⟩, by kernel_rfl⟩
theorem exec_neB {w : World} {o : Oper} {ac : Act} {X Y : Operand} {ty : TypeId} {x y : List UInt8} {b : Bool} (hb : (!decide (x = y)) = b) (ho : o.op = .binOp .neq 9 X Y ty) (hx : ac.eval X = strV x) (hy : ac.eval Y = strV y) : (execOp ac.eval o).run Tryz.prog w = .ok (.value (.bool b)) w := by
  subst hb
  exact exec_neS ho hx hy
theorem exec_oneB {w : World} {o : Oper} {ac : Act} {X : Operand} {x : Bool} (ho : o.op = .buildSlice 22 1 #[(0, X)]) (hx : ac.eval X = .bool x) : (execOp ac.eval o).run Tryz.prog w = .ok (.value (.slice (some ⟨w.heap.size, 0, none⟩) 1 1)) (w.alloc (.cells #[.bool x] 4)) := by
  have hrun : (Instr.buildSlice 22 1 #[(0, .bool x)]).run Tryz.prog w = .ok (.slice (some ⟨w.heap.size, 0, none⟩) 1 1) (w.alloc (.cells #[.bool x] 4)) := by
    unfold Instr.buildSlice
    go_simp
    try rfl
  simp [execOp, ho, hx, hrun, Result.andThen]
set_option maxRecDepth 100000 in
theorem exec_bld103 {w : World} {o : Oper} {a : Act} {X0 X1 X2 X3 : Operand} {p0 p1 p2 p3 : Option Addr} (ho : o.op = .build 103 #[(0, X0), (1, X1), (2, X2), (3, X3)]) (h0 : a.eval X0 = .pointer p0) (h1 : a.eval X1 = .pointer p1) (h2 : a.eval X2 = .pointer p2) (h3 : a.eval X3 = .pointer p3) :
    (execOp a.eval o).run Tryz.prog w = .ok (.value (.agg #[.pointer p0, .pointer p1, .pointer p2, .pointer p3])) w := by
  have hb : Tryz.prog.built 103 #[(0, Value.pointer p0), (1, .pointer p1), (2, .pointer p2), (3, .pointer p3)].toList = some #[.pointer p0, .pointer p1, .pointer p2, .pointer p3] := by kernel_rfl
  simp [execOp, ho, h0, h1, h2, h3, run_build w 103 #[(0, Value.pointer p0), (1, .pointer p1), (2, .pointer p2), (3, .pointer p3)] _ hb, Result.andThen]
set_option maxRecDepth 100000 in
theorem idx103 (p0 p1 p2 p3 : Option Addr) (k : Nat) (hk : k < 4) (w : World) : (Instr.index 103 (.agg #[.pointer p0, .pointer p1, .pointer p2, .pointer p3]) (.int .i64 (k : Int))).run Tryz.prog w = .ok (.pointer (match k with | 0 => p0 | 1 => p1 | 2 => p2 | _ => p3)) w := by
  match k with
  | 0 => rfl
  | 1 => rfl
  | 2 => rfl
  | 3 => rfl
  | k + 4 => omega
theorem exec_ixv {w : World} {o : Oper} {a : Act} {X Y : Operand} {x y v : Value} {t : TypeId} (h : (Instr.index t x y).run Tryz.prog w = .ok v w) (ho : o.op = .index t X Y) (hx : a.eval X = x) (hy : a.eval Y = y) : (execOp a.eval o).run Tryz.prog w = .ok (.value v) w := by
  subst hx hy
  simp [execOp, ho, h, Result.andThen]
theorem len1 {l : List Int} (h : l.length = 1) : ∃ v, l = [v] := by
  match l, h with
  | [v], _ => exact ⟨v, rfl⟩
def HeadP (B b : Nat) (x : Sc) (n : Nat) (ws : List (List UInt8)) (W : World) (e : Ending) (w' : World) : Prop :=
  Below B W w' ∧ ∃ ok, e = .returned (.bool ok) ∧ match headS x.k n ws with
    | none => ok = false
    | some y => ok = true ∧ ∃ x' : Sc, x'.k = y ∧ Blk w' b 27 (encSc x').toArray ∧ OwnS B w' x'
set_option maxRecDepth 100000 in
set_option maxHeartbeats 3200000 in
theorem head_any (B b : Nat) (x : Sc) (n : Nat) (wv : Value) (w1 : List UInt8) (ws : List (List UInt8)) (W : World) (hb : Blk W b 27 (encSc x).toArray) (hx : OwnS B W x) (hBb : B ≤ b) (hw : Wds W wv (w1 :: ws)) (hl : ∀ y ∈ w1 :: ws, y.length ≤ 1000000000) (hn : n < 6) (hlen : x.ups.l.length + ws.length ≤ 1000000000) :
    Calls Tryz.prog 18 #[.pointer (some ⟨b, 0, none⟩), .int .i64 (n : Int), wv] W (HeadP B b x n (w1 :: ws) W) := by
  have HPB : Hid (∀ w', Below B W w' → headS x.k n (w1 :: ws) = none → HeadP B b x n (w1 :: ws) W (.returned (.bool false)) w') := fun w' h1 h2 => ⟨h1, false, rfl, by rw [h2]⟩
  have HPG : Hid (∀ w' (x' : Sc), Below B W w' → headS x.k n (w1 :: ws) = some x'.k → Blk w' b 27 (encSc x').toArray → OwnS B w' x' → HeadP B b x n (w1 :: ws) W (.returned (.bool true)) w') := fun w' x' h1 h2 h3 h4 => ⟨h1, true, rfl, by rw [h2]; exact ⟨rfl, x', rfl, h3, h4⟩⟩
  have HS0 : Hid (headS x.k n (w1 :: ws) = match numsS ws with
    | none => none
    | some l => if w1 = hdW n then headV x.k n l else none) := headS_cons _ _ _ _
  generalize HeadP B b x n (w1 :: ws) W = POST at *
  generalize headS x.k n (w1 :: ws) = RES at *
  have HBX := Lib.hid hb
  have HOX := Lib.hid hx
  have HBb : Hid (B ≤ b) := hBb
  have HBs : Hid (B ≤ W.heap.size) := Nat.le_trans hBb (Nat.le_of_lt hb.lt)
  have HN6 : Hid (n < 6) := hn
  have HUL : Hid (x.ups.l.length + ws.length ≤ 1000000000) := hlen
  obtain ⟨v13, hrun, hrd⟩ := run_slice_from (P := Tryz.prog) (t := 47) (by kernel_rfl) (fun W => by rw [show Tryz.prog.elem 47 = 9 by kernel_rfl]; exact Tryz.sizeOf9 W) hw (k := 1) (by simp) .i64
  have HRUN : Hid (∀ X, (Instr.sliceAt 47 wv (some (.int .i64 1)) none none).run Tryz.prog X = .ok v13 X) := hrun
  have HWT : Hid (Wds W v13 ws) := Lib.hid (by have := hrd W hw; simpa using this)
  have HCP := Lib.hid (parseAll_any ws v13 W HWT.out (fun y hy => hl y (by simp [hy])) (by omega))
  have hlm := hw.shape
  obtain ⟨wa, wc, hwv, hwc, hwcm, hwne⟩ := hlm
  subst hwv
  obtain ⟨gw, off, hba, hbl, hc⟩ := hw.row (by simp)
  have HC0 : Hid (W.cell? ⟨gw, off, none⟩ = some (strV w1)) := by
    have := hc 0 w1 rfl 0 _ rfl
    show _ = _
    simpa using this
  have HGL0 : Hid (gw < W.heap.size) := hbl
  subst hba
  have hlw : (w1 :: ws).length ≤ 1000000001 := by simp only [List.length_cons]; omega
  obtain ⟨wn, hwn⟩ : ∃ wn, wn = (w1 :: ws).length := ⟨_, rfl⟩
  have hwn1 : 0 < wn := by rw [hwn]; simp
  rw [← hwn] at hwc HRUN ⊢
  obtain ⟨z, hz⟩ : ∃ z : Int, z = (n : Int) := ⟨_, rfl⟩
  have HZ := Lib.hid hz
  have hz6 : z < 6 := by omega
  have hz0 : 0 ≤ z := by omega
  rw [← hz]
  clear hb hx hBb hw hl hn hlen hrun hrd hc hbl HWT hwne hlw hwn hz
  go_enter Tryz.func18, Tryz.ntmps18
  go_wp2_with ((with_reducible show wpList _ _ _ (Oper.mk (some 13) _ _ _ _ _ :: _) _ _); refine wpList_val rfl (exec_slice rfl rfl rfl rfl (HRUN.out _)) ?_)
  refine HCP.out.mono ?_
  rintro e W1 ⟨⟨v7, b8, rfl, hg, hbad⟩, hb1⟩
  have HG := Lib.hid hg
  have HBD := Lib.hid hbad
  have HB1 := Lib.hid (hb1.mono HBs.out)
  have HBX1 := Lib.hid (HBX.out.keep hb1)
  have HOX1 := Lib.hid (HOX.out.below hb1)
  have HC1 : Hid (W1.drew.cell? ⟨gw, off, none⟩ = some (strV w1)) := Lib.hid ((hb1.cell HGL0.out).trans HC0.out)
  have HGL : Hid (gw < W1.drew.heap.size) := Lib.hid (Nat.lt_of_lt_of_le HGL0.out hb1.size)
  clear hg hbad hb1 HCP HRUN HC0 HGL0 HBX HOX
  cases b8 with
  | false =>
    have HNN : Hid (numsS ws = none) := by
      show _ = _
      cases h : numsS ws with
      | none => rfl
      | some l => have := (HG.out l h).1; cases this
    have HRN : Hid (RES = none) := by show _ = _; rw [HS0.out, HNN.out]
    clear HG HBD HS0
    go_upto_region 2 with fail
    refine wp_region_held_drew (S := (fun X : World => X.cell? ⟨gw, off, none⟩ = some (strV w1))) (by kernel_rfl) HC1.out (fun hHeld => ?_)
    (refine takeW (i := 0) (v := ?_) rfl (by kernel_rfl) (by kernel_rfl) (by kernel_rfl) (fun _ _ _ h => h) (by rfl) (by assumption) ?_ ?_; rotate_left; (intro W hW; (try dsimp only at hW); go_simp; try with_reducible rfl); (try simp only [Act.put, List.setIfInBounds_toArray, List.set_cons_zero, List.set_cons_succ]))
    (refine takeW (i := 1) (v := ?_) rfl (by kernel_rfl) (by kernel_rfl) (by kernel_rfl) (fun _ _ _ h => h) (by rfl) (by assumption) ?_ ?_; rotate_left; (intro W hW; (try dsimp only at hW); go_simp; try with_reducible rfl); (try simp only [Act.put, List.setIfInBounds_toArray, List.set_cons_zero, List.set_cons_succ]))
    (refine takeW (i := 2) (v := ?_) rfl (by kernel_rfl) (by kernel_rfl) (by kernel_rfl) (fun _ _ _ h => h) (by rfl) (by assumption) ?_ ?_; rotate_left; (intro W hW; (try dsimp only at hW); go_simp; try with_reducible rfl); (try simp only [Act.put, List.setIfInBounds_toArray, List.set_cons_zero, List.set_cons_succ]))
    (refine takeU (i := 3) rfl (by kernel_rfl) (by kernel_rfl) (by kernel_rfl) (fun _ _ _ h => h) (by rfl) (by assumption) ?_; (try simp only [Act.put, List.setIfInBounds_toArray, List.set_cons_zero, List.set_cons_succ]))
    (refine takeU (i := 4) rfl (by kernel_rfl) (by kernel_rfl) (by kernel_rfl) (fun _ _ _ h => h) (by rfl) (by assumption) ?_; (try simp only [Act.put, List.setIfInBounds_toArray, List.set_cons_zero, List.set_cons_succ]))
    (refine takeU (i := 5) rfl (by kernel_rfl) (by kernel_rfl) (by kernel_rfl) (fun _ _ _ h => h) (by rfl) (by assumption) ?_; (try simp only [Act.put, List.setIfInBounds_toArray, List.set_cons_zero, List.set_cons_succ]))
    (refine takeU (i := 6) rfl (by kernel_rfl) (by kernel_rfl) (by kernel_rfl) (fun _ _ _ h => h) (by rfl) (by assumption) ?_; (try simp only [Act.put, List.setIfInBounds_toArray, List.set_cons_zero, List.set_cons_succ]))
    (refine takeU (i := 7) rfl (by kernel_rfl) (by kernel_rfl) (by kernel_rfl) (fun _ _ _ h => h) (by rfl) (by assumption) ?_; (try simp only [Act.put, List.setIfInBounds_toArray, List.set_cons_zero, List.set_cons_succ]))
    (refine takeU (i := 8) rfl (by kernel_rfl) (by kernel_rfl) (by kernel_rfl) (fun _ _ _ h => h) (by rfl) (by assumption) ?_; (try simp only [Act.put, List.setIfInBounds_toArray, List.set_cons_zero, List.set_cons_succ]))
    (refine takeU (i := 9) rfl (by kernel_rfl) (by kernel_rfl) (by kernel_rfl) (fun _ _ _ h => h) (by rfl) (by assumption) ?_; (try simp only [Act.put, List.setIfInBounds_toArray, List.set_cons_zero, List.set_cons_succ]))
    (refine takeU (i := 10) rfl (by kernel_rfl) (by kernel_rfl) (by kernel_rfl) (fun _ _ _ h => h) (by rfl) (by assumption) ?_; (try simp only [Act.put, List.setIfInBounds_toArray, List.set_cons_zero, List.set_cons_succ]))
    (refine takeW (i := 11) (v := ?_) rfl (by kernel_rfl) (by kernel_rfl) (by kernel_rfl) (fun _ _ _ h => h) (by rfl) (by assumption) ?_ ?_; rotate_left; (intro W hW; (try dsimp only at hW); go_simp; try with_reducible rfl); (try simp only [Act.put, List.setIfInBounds_toArray, List.set_cons_zero, List.set_cons_succ]))
    refine wpAnyH_done (by kernel_rfl) ?_ _
    clear hHeld
    go_wp2
    exact HPB.out _ HB1.out.drew HRN.out
  | true =>
    obtain ⟨l, hll⟩ : ∃ l, numsS ws = some l := by
      cases h : numsS ws with
      | none => have := (HBD.out h).1; cases this
      | some l => exact ⟨l, rfl⟩
    have ho := (HG.out l hll).2
    obtain ⟨la, lc, rfl, hlc, hlcm, -⟩ := owns_shape ho
    have HOL1 := Lib.hid (own_le ho HBs.out)
    have HSV : Hid (RES = if w1 = hdW n then headV x.k n l else none) := by show _ = _; rw [HS0.out, hll]
    have HLL : Hid (l.length ≤ ws.length) := by
      have := congrArg List.length (numsS_iff.1 hll).1
      rw [List.length_map] at this
      show _ ≤ _; omega
    obtain ⟨nb, hnb⟩ : ∃ nb, (!decide (w1 = hdW n)) = nb := ⟨_, rfl⟩
    have HNB := Lib.hid hnb
    clear hll ho hnb HG HBD HS0
    go_upto_region 2 with fail
    refine wp_region_held_drew (S := (fun X : World => X.cell? ⟨gw, off, none⟩ = some (strV w1))) (by kernel_rfl) HC1.out (fun hHeld => ?_)
    (refine takeW (i := 0) (v := ?_) rfl (by kernel_rfl) (by kernel_rfl) (by kernel_rfl) (fun _ _ _ h => h) (by rfl) (by assumption) ?_ ?_; rotate_left; (intro W hW; (try dsimp only at hW); go_simp; try with_reducible rfl); (try simp only [Act.put, List.setIfInBounds_toArray, List.set_cons_zero, List.set_cons_succ]))
    (refine takeW (i := 1) (v := ?_) rfl (by kernel_rfl) (by kernel_rfl) (by kernel_rfl) (fun _ _ _ h => h) (by rfl) (by assumption) ?_ ?_; rotate_left; (intro W hW; (try dsimp only at hW); go_simp; try with_reducible rfl); (try simp only [Act.put, List.setIfInBounds_toArray, List.set_cons_zero, List.set_cons_succ]))
    (refine takeW (i := 2) (v := ?_) rfl (by kernel_rfl) (by kernel_rfl) (by kernel_rfl) (fun _ _ _ h => h) (by rfl) (by assumption) ?_ ?_; rotate_left; (intro W hW; (try dsimp only at hW); go_simp; try with_reducible rfl); (try simp only [Act.put, List.setIfInBounds_toArray, List.set_cons_zero, List.set_cons_succ]))
    (refine takeW (i := 3) (v := ?_) rfl (by kernel_rfl) (by kernel_rfl) (by kernel_rfl) (fun _ _ _ h => h) (by rfl) (by assumption) ?_ ?_; rotate_left; (intro W hW; (try dsimp only at hW); go_simp; try with_reducible rfl); (try simp only [Act.put, List.setIfInBounds_toArray, List.set_cons_zero, List.set_cons_succ]))
    (refine takeW (i := 4) (v := ?_) rfl (by kernel_rfl) (by kernel_rfl) (by kernel_rfl) (fun _ _ _ h => h) (by rfl) (by assumption) ?_ ?_; rotate_left; (intro W hW; (try dsimp only at hW); go_simp; try with_reducible rfl); (try simp only [Act.put, List.setIfInBounds_toArray, List.set_cons_zero, List.set_cons_succ]))
    (refine takeW (i := 5) rfl (by kernel_rfl) (by kernel_rfl) (by kernel_rfl) (fun _ _ _ h => h) (by rfl) (by assumption) (fun W hW => exec_load1 (v := strV w1) FL9 rfl rfl hW) ?_; (try simp only [Act.put, List.setIfInBounds_toArray, List.set_cons_zero, List.set_cons_succ]))
    (refine takeW (i := 7) (v := ?_) rfl (by kernel_rfl) (by kernel_rfl) (by kernel_rfl) (fun _ _ _ h => h) (by rfl) (by assumption) ?_ ?_; rotate_left; (intro W hW; (try dsimp only at hW); go_simp; try with_reducible rfl); (try simp only [Act.put, List.setIfInBounds_toArray, List.set_cons_zero, List.set_cons_succ]))
    refine takeC (i := 6) rfl (by kernel_rfl) (by rfl) (fun K hK => ?_)
    go_simp
    refine (heads_any _).mono ?_
    rintro e W2 ⟨rfl, hw2⟩
    have HBE : Hid (Below W1.drew.heap.size W1.drew W2) := Lib.hid (by rw [← hw2]; exact below1 _ _)
    have HGH : Hid (Blk W2 W1.drew.heap.size 9 (headsL.map strV).toArray) := Lib.hid (by rw [← hw2]; exact Blk.new' rfl)
    clear hw2
    have HC2 : Hid (W2.cell? ⟨gw, off, none⟩ = some (strV w1)) := Lib.hid ((HBE.out.cell HGL.out).trans HC1.out)
    refine hK.out _ _ HC2.out (fun hHeld => ?_)
    clear hK K hHeld
    (try simp only [Act.put, List.setIfInBounds_toArray, List.set_cons_zero, List.set_cons_succ])
    generalize W1.drew.heap.size = gh at HGH ⊢
    have hHeld : (fun X : World => X.cell? ⟨gw, off, none⟩ = some (strV w1)) W2 := HC2.out
    (refine takeW (i := 8) (v := ?_) rfl (by kernel_rfl) (by kernel_rfl) (by kernel_rfl) (fun _ _ _ h => h) (by rfl) (by assumption) ?_ ?_; rotate_left; (intro W hW; (try dsimp only at hW); go_simp; try with_reducible rfl); (try simp only [Act.put, List.setIfInBounds_toArray, List.set_cons_zero, List.set_cons_succ]))
    have HHN : Hid (W2.cell? ⟨gh, z.toNat, none⟩ = some (strV (hdW n))) := Lib.hid (by rw [show z.toNat = n by have := HZ.out; omega, HGH.out.cell, List.getElem?_toArray, headsL_at n HN6.out])
    refine takeV (i := 9) rfl (by kernel_rfl) (by rfl) (exec_load1 (v := strV (hdW n)) FL9 rfl rfl HHN.out) (HC2.out) ?_
    (try simp only [Act.put, List.setIfInBounds_toArray, List.set_cons_zero, List.set_cons_succ])
    have hHeld : (fun X : World => X.cell? ⟨gw, off, none⟩ = some (strV w1)) W2 := HC2.out
    (refine takeW (i := 10) rfl (by kernel_rfl) (by kernel_rfl) (by kernel_rfl) (fun _ _ _ h => h) (by rfl) (by assumption) (fun W hW => exec_neB HNB.out rfl rfl rfl) ?_; (try simp only [Act.put, List.setIfInBounds_toArray, List.set_cons_zero, List.set_cons_succ]))
    (refine takeW (i := 11) (v := ?_) rfl (by kernel_rfl) (by kernel_rfl) (by kernel_rfl) (fun _ _ _ h => h) (by rfl) (by assumption) ?_ ?_; rotate_left; (intro W hW; (try dsimp only at hW); go_simp; try with_reducible rfl); (try simp only [Act.put, List.setIfInBounds_toArray, List.set_cons_zero, List.set_cons_succ]))
    refine wpAnyH_done (by kernel_rfl) ?_ _
    clear hHeld
    have HB2 := Lib.hid (HB1.out.drew.trans (HBE.out.mono (Nat.le_trans HBs.out (by have := HB1.out.size; exact this))))
    have HBX2 := Lib.hid ((HBX1.out.keep (Below.refl _ _).drew).keep HBE.out)
    have HOX2 := Lib.hid (HOX1.out.drew.below HBE.out)
    have HOL := Lib.hid (ow_below (ow_below HOL1.out (Below.refl _ _).drew) HBE.out)
    clear HB1 HBX1 HOX1 HOL1 HBE HGH HC1 HC2 HGL HHN
    cases nb with
    | true =>
      have HRN : Hid (RES = none) := by
        have h := HNB.out
        rw [Bool.not_eq_true', decide_eq_false_iff_not] at h
        show _ = _; rw [HSV.out, if_neg h]
      go_wp2
      exact HPB.out _ HB2.out HRN.out
    | false =>
      replace HSV : Hid (RES = headV x.k n l) := by
        have h := HNB.out
        rw [Bool.not_eq_false', decide_eq_true_eq] at h
        show _ = _; rw [HSV.out, if_pos h]
      clear HNB
      rcases (show n = 0 ∨ n = 1 ∨ n = 2 ∨ n = 3 ∨ n = 4 ∨ n = 5 by have := HN6.out; omega) with rfl | rfl | rfl | rfl | rfl | rfl
      · as_aux_lemma =>
        have hz : z = 0 := by have := HZ.out; omega
        subst hz
        by_cases h1 : l.length = 1
        · obtain ⟨v, rfl⟩ := len1 h1
          obtain ⟨g7, c7, e7, -, -, -, -, hc7⟩ := own_cellsV (xs := [.int .i64 v]) HOL.out (by simp)
          simp only [List.length_cons, List.length_nil, Nat.zero_add, Value.slice.injEq] at e7
          obtain ⟨rfl, -, rfl⟩ := e7
          have c7v : W2.cell? ⟨g7, 0, none⟩ = some (.int .i64 v) := hc7 0 _ rfl
          have d0 : W2.cell? ⟨b, 0, none⟩ = some (.int .i64 x.rounds) := HBX2.out.list0 rfl
          have f0 : W2.frozen? ⟨b, 0, none⟩ = false := HBX2.out.frozen 0
          have HBX3 : Hid (Blk (W2.setCell ⟨b, 0, none⟩ (.int .i64 v)) b 27 (encSc { x with rounds := v }).toArray) := Lib.hid (HBX2.out.setL 0 (.int .i64 v))
          have HOX3 : Hid (OwnS B (W2.setCell ⟨b, 0, none⟩ (.int .i64 v)) { x with rounds := v }) := Lib.hid (OwnS.set (x := { x with rounds := v }) ⟨HOX2.out.ups, HOX2.out.offs, HOX2.out.gates, HOX2.out.guards, HOX2.out.drifts, HOX2.out.ops, HOX2.out.each, HOX2.out.fts⟩ HBX2.out)
          have HB3 : Hid (Below B W (W2.setCell ⟨b, 0, none⟩ (.int .i64 v))) := Lib.hid (HB2.out.setCell (p := ⟨b, 0, none⟩) HBb.out _)
          clear hc7 h1
          go_wp2
          exact HPG.out _ { x with rounds := v } HB3.out (by rw [HSV.out]; rfl) HBX3.out HOX3.out
        · have h1z : ((l.length : Int) != 1) = true := by simp; omega
          have h1y : ¬ ((l.length : Int) = 1) := by omega
          have HRN : Hid (RES = none) := by
            show _ = _
            rw [HSV.out]
            match l, h1 with
            | [], _ => rfl
            | [v], h => exact absurd rfl h
            | _ :: _ :: _, _ => rfl
          clear h1
          go_wp2
          exact HPB.out _ HB2.out HRN.out
      · as_aux_lemma =>
        have hz : z = 1 := by have := HZ.out; omega
        subst hz
        obtain ⟨q, hq⟩ : ∃ q, q = l.length := ⟨_, rfl⟩
        have HQ := Lib.hid hq
        have HQM : Hid (x.ups.l.length + q ≤ 1000000000) := by have := HUL.out; have := HLL.out; show _ ≤ _; omega
        rw [← hq] at hlc ⊢
        have HOLQ : Hid (W2.ownsRow B 3 1 (.slice la q lc) q (l.map (Value.int .i64))) := by rw [hq]; exact HOL.out
        have HBSN := Lib.hid (fun (k : Nat) (v : Int) (bl : List Bool) (h : l[k]? = some v) (hb : bitS (l.take k) = some bl) (hv : v = 0 ∨ v = 1) => (by rw [take_snoc h]; exact bitS_snoc hb hv : bitS (l.take (k + 1)) = some (bl ++ [decide (v = 1)])))
        have HBBD := Lib.hid (fun (k : Nat) (v : Int) (h : l[k]? = some v) (hv : ¬ (v = 0 ∨ v = 1)) => bitS_bad h hv)
        clear hq HOL
        go_wp2_with fail
        go_loopw [63] (fun i wr => ∃ (k : Nat) (y : Sc) (bl : List Bool), k ≤ q ∧ i = .int .i64 (k : Int) ∧ Hid (bitS (l.take k) = some bl ∧ bl.length = k) ∧ Hid (y.k = { x.k with ups := x.k.ups ++ bl }) ∧ Hid (y.ups.l.length = x.ups.l.length + k) ∧ Hid (Blk wr b 27 (encSc y).toArray) ∧ Hid (OwnS B wr y) ∧ Hid (wr.ownsRow B 3 1 (.slice la q lc) q (l.map (Value.int .i64))) ∧ Hid (Below B W wr)) (fun i _ => q - (intOf i).toNat)
        case atStart => exact ⟨0, x, [], Nat.zero_le _, rfl, ⟨rfl, rfl⟩, Lib.hid (by simp), rfl, HBX2, HOX2, HOLQ, HB2⟩
        case round =>
          clear HBX2 HOX2 HOLQ HB2
          obtain ⟨k, y, bl, hk, rfl, HBL, HYK, HYL, HBY, HOY, HOQ, HB⟩ := hrel
          obtain ⟨wo, rfl⟩ : ∃ wo : World, wo = wr := ⟨_, rfl⟩
          by_cases hlt : k < q
          · obtain ⟨v, hv⟩ : ∃ v, l[k]? = some v := ⟨_, List.getElem?_eq_getElem (by rw [← HQ.out]; exact hlt)⟩
            obtain ⟨gq, cq, eq, -, -, -, -, hcq⟩ := own_cellsV HOQ.out (by omega)
            simp only [Value.slice.injEq] at eq
            obtain ⟨rfl, -, rfl⟩ := eq
            have cv : wo.cell? ⟨gq, k, none⟩ = some (.int .i64 v) := hcq k _ (by rw [List.getElem?_map, hv]; rfl)
            have HV := Lib.hid hv
            clear hcq hv
            by_cases h01 : v = 0 ∨ v = 1
            · obtain ⟨vb, hvb⟩ : ∃ vb, vb = decide (v = 1) := ⟨_, rfl⟩
              have HBL2 : Hid (bitS (l.take (k + 1)) = some (bl ++ [vb]) ∧ (bl ++ [vb]).length = k + 1) := ⟨by rw [hvb]; exact HBSN.out k v bl HV.out HBL.out.1 h01, by simp [HBL.out.2]⟩
              have hbool : (v == 1) = vb := by rw [hvb]; by_cases h : v = 1 <;> simp [h]
              obtain ⟨n0, n1, hn0, hn1, hn01⟩ : ∃ n0 n1 : Bool, (v != 0) = n0 ∧ (v != 1) = n1 ∧ (n0 = false ∨ n1 = false) := ⟨_, _, rfl, rfl, by rcases h01 with rfl | rfl <;> simp⟩
              have d1 : wo.cell? ⟨b, 1, none⟩ = some (.slice y.ups.a y.ups.l.length y.ups.c) := HBY.out.list0 rfl
              have HSZ : Hid (B ≤ wo.heap.size) := Nat.le_trans HBs.out HB.out.size
              have hul : y.ups.l.length ≤ 1000000000 := by have := HYL.out; have := HQM.out; omega
              have HAPP : Hid (∀ (a5 : Option Addr) (c5 : Nat) (W5 : World), W5.ownsRow B 4 1 (.slice a5 (y.ups.l.length + 1) c5) (y.ups.l.length + 1) (y.ups.l.map Value.bool ++ [Value.bool vb]) → wo.grownBy W5 (Value.slice y.ups.a y.ups.l.length y.ups.c).ownBlock →
                  Blk W5 b 27 (encSc y).toArray ∧ OwnS B (W5.setCell ⟨b, 1, none⟩ (.slice a5 (y.ups.l.length + 1) c5)) { y with ups := ⟨a5, c5, y.ups.l ++ [vb]⟩ } ∧ Blk (W5.setCell ⟨b, 1, none⟩ (.slice a5 (y.ups.l.length + 1) c5)) b 27 (encSc { y with ups := ⟨a5, c5, y.ups.l ++ [vb]⟩ }).toArray ∧ (W5.setCell ⟨b, 1, none⟩ (.slice a5 (y.ups.l.length + 1) c5)).ownsRow B 3 1 (.slice (some ⟨gq, 0, none⟩) q lc) q (l.map (Value.int .i64)) ∧ Below B W (W5.setCell ⟨b, 1, none⟩ (.slice a5 (y.ups.l.length + 1) c5))) := fun a5 c5 W5 ho hg => by
                have hb5 : Blk W5 b 27 (encSc y).toArray := HBY.out.fr (Fr.grownO hg) (fun e => own_blk_ne HOY.out.ups HBY.out (by decide) e)
                refine ⟨hb5, (HOY.out.addUp hg ho).set hb5, ?_, ?_, ?_⟩
                · have := hb5.setL 1 (.slice a5 (y.ups.l.length + 1) c5)
                  have e : (encSc y).set 1 (.slice a5 (y.ups.l.length + 1) c5) = encSc { y with ups := ⟨a5, c5, y.ups.l ++ [vb]⟩ } := by simp [encSc]
                  rw [e] at this
                  exact this
                · refine own_fr (own_fr HOQ.out (Fr.grownO hg) (fun g hg' e => own_own HOQ.out HOY.out.ups (by decide) g hg' e)) (Fr.setCell _ _ _) (fun g hg' e => ?_)
                  exact own_apart (own_fr HOQ.out (Fr.grownO hg) (fun g hg' e => own_own HOQ.out HOY.out.ups (by decide) g hg' e)) hb5 (by decide) g hg' e
                · exact (HB.out.grown hg HSZ.out (fun k hk => (HOY.out.ups.lt k hk).1)).setCell (p := ⟨b, 1, none⟩) HBb.out _
              have HUP := Lib.hid HOY.out.ups
              have HYK2 : Hid (∀ (a5 : Option Addr) (c5 : Nat), (({ y with ups := ⟨a5, c5, y.ups.l ++ [vb]⟩ } : Sc).k = { x.k with ups := x.k.ups ++ (bl ++ [vb]) }) ∧ (({ y with ups := ⟨a5, c5, y.ups.l ++ [vb]⟩ } : Sc).ups.l.length = x.ups.l.length + (k + 1))) := fun a5 c5 => by
                have e1 := HYK.out
                refine ⟨?_, by have := HYL.out; simp; omega⟩
                have e2 : y.ups.l = x.k.ups ++ bl := congrArg Scr.ups e1
                have e3 : ({ y with ups := ⟨a5, c5, y.ups.l ++ [vb]⟩ } : Sc).k = { y.k with ups := y.ups.l ++ [vb] } := rfl
                rw [e3, e1, e2]
                simp
              clear h01 hvb
              cases n0 with
              | false =>
                have hv0 : v = 0 := by simpa using hn0
                obtain rfl : vb = false := by rw [← hbool, hv0]; rfl
                subst hv0
                clear hn0 hn1 hn01 hbool
                go_wp2_with (first | ((with_reducible show wpList _ _ _ (Oper.mk (some 80) _ _ _ _ _ :: _) _ _); refine wpList_val rfl (exec_oneB (x := false) rfl rfl) ?_) | ((with_reducible show wpList _ _ _ (Oper.mk (some 81) _ _ _ _ _ :: _) _ _); refine wpList_app1 E4 rfl _ _ rfl HUP.out [.bool false] rfl (by simp [Value.oneCell']) rfl rfl (by omega) HSZ.out ?_; intro v5 W5 ho5 hg5; obtain ⟨a5, c5, rfl, -⟩ := owns_shape ho5; have H5 := Lib.hid (HAPP.out a5 c5 W5 ho5 hg5); have d5 : W5.cell? ⟨b, 1, none⟩ = some (.slice y.ups.a y.ups.l.length y.ups.c) := H5.out.1.list0 rfl; have f5 : W5.frozen? ⟨b, 1, none⟩ = false := H5.out.1.frozen 1; clear ho5 hg5))
                go_roundw
                case rel => exact ⟨k + 1, { y with ups := ⟨a5, c5, y.ups.l ++ [false]⟩ }, bl ++ [false], by omega, by go_num, HBL2, Lib.hid (HYK2.out a5 c5).1, Lib.hid (HYK2.out a5 c5).2, Lib.hid H5.out.2.2.1, Lib.hid H5.out.2.1, Lib.hid H5.out.2.2.2.1, Lib.hid H5.out.2.2.2.2⟩
                case measure => simp [intOf]; omega
              | true =>
                have hn1' : n1 = false := by
                  rcases hn01 with h | h
                  · cases h
                  · exact h
                subst hn1'
                have hv1 : v = 1 := by simpa using hn1
                obtain rfl : vb = true := by rw [← hbool, hv1]; rfl
                subst hv1
                clear hn0 hn1 hn01 hbool
                go_wp2_with (first | ((with_reducible show wpList _ _ _ (Oper.mk (some 80) _ _ _ _ _ :: _) _ _); refine wpList_val rfl (exec_oneB (x := true) rfl rfl) ?_) | ((with_reducible show wpList _ _ _ (Oper.mk (some 81) _ _ _ _ _ :: _) _ _); refine wpList_app1 E4 rfl _ _ rfl HUP.out [.bool true] rfl (by simp [Value.oneCell']) rfl rfl (by omega) HSZ.out ?_; intro v5 W5 ho5 hg5; obtain ⟨a5, c5, rfl, -⟩ := owns_shape ho5; have H5 := Lib.hid (HAPP.out a5 c5 W5 ho5 hg5); have d5 : W5.cell? ⟨b, 1, none⟩ = some (.slice y.ups.a y.ups.l.length y.ups.c) := H5.out.1.list0 rfl; have f5 : W5.frozen? ⟨b, 1, none⟩ = false := H5.out.1.frozen 1; clear ho5 hg5))
                go_roundw
                case rel => exact ⟨k + 1, { y with ups := ⟨a5, c5, y.ups.l ++ [true]⟩ }, bl ++ [true], by omega, by go_num, HBL2, Lib.hid (HYK2.out a5 c5).1, Lib.hid (HYK2.out a5 c5).2, Lib.hid H5.out.2.2.1, Lib.hid H5.out.2.1, Lib.hid H5.out.2.2.2.1, Lib.hid H5.out.2.2.2.2⟩
                case measure => simp [intOf]; omega
            · have HRN : Hid (RES = none) := by
                show _ = _
                rw [HSV.out]
                show (bitS l).map _ = none
                rw [HBBD.out k v HV.out h01]
                rfl
              have hn0 : (v != 0) = true := by simp; omega
              have hn1 : (v != 1) = true := by simp; omega
              have hv0 : ¬ v = 0 := fun e => h01 (.inl e)
              have hv1 : ¬ v = 1 := fun e => h01 (.inr e)
              clear h01
              go_wp2
              exact HPB.out _ HB.out HRN.out
          · obtain rfl : k = q := by omega
            have HRS : Hid (RES = some y.k) := by
              have h1 := HBL.out.1
              rw [List.take_of_length_le (by rw [← HQ.out]; exact Nat.le_refl _)] at h1
              show _ = _
              rw [HSV.out, HYK.out]
              show (bitS l).map _ = _
              rw [h1]
              rfl
            clear HBL HYK HYL
            go_wp2
            exact HPG.out _ y HB.out HRS.out HBY.out HOY.out
      · as_aux_lemma =>
        have hz : z = 2 := by have := HZ.out; omega
        subst hz
        go_upto_region 5 with fail
        have HFS : Hid (W2.drew.cell? ⟨b, 2, none⟩ = some (.slice x.offs.a x.offs.l.length x.offs.c)) := HBX2.out.list0 rfl
        refine wp_region_held_drew (S := fun _ => True) (by kernel_rfl) trivial (fun hHeld => ?_)
        (refine takeW (i := 0) (v := ?_) rfl (by kernel_rfl) (by kernel_rfl) (by kernel_rfl) (fun _ _ _ h => h) (by rfl) (by assumption) ?_ ?_; rotate_left; (intro W hW; (try dsimp only at hW); go_simp; try with_reducible rfl); (try simp only [Act.put, List.setIfInBounds_toArray, List.set_cons_zero, List.set_cons_succ]))
        (refine takeW (i := 1) (v := ?_) rfl (by kernel_rfl) (by kernel_rfl) (by kernel_rfl) (fun _ _ _ h => h) (by rfl) (by assumption) ?_ ?_; rotate_left; (intro W hW; (try dsimp only at hW); go_simp; try with_reducible rfl); (try simp only [Act.put, List.setIfInBounds_toArray, List.set_cons_zero, List.set_cons_succ]))
        (refine takeW (i := 2) (v := ?_) rfl (by kernel_rfl) (by kernel_rfl) (by kernel_rfl) (fun _ _ _ h => h) (by rfl) (by assumption) ?_ ?_; rotate_left; (intro W hW; (try dsimp only at hW); go_simp; try with_reducible rfl); (try simp only [Act.put, List.setIfInBounds_toArray, List.set_cons_zero, List.set_cons_succ]))
        (refine takeW (i := 3) (v := ?_) rfl (by kernel_rfl) (by kernel_rfl) (by kernel_rfl) (fun _ _ _ h => h) (by rfl) (by assumption) ?_ ?_; rotate_left; (intro W hW; (try dsimp only at hW); go_simp; try with_reducible rfl); (try simp only [Act.put, List.setIfInBounds_toArray, List.set_cons_zero, List.set_cons_succ]))
        (refine takeW (i := 4) (v := ?_) rfl (by kernel_rfl) (by kernel_rfl) (by kernel_rfl) (fun _ _ _ h => h) (by rfl) (by assumption) ?_ ?_; rotate_left; (intro W hW; (try dsimp only at hW); go_simp; try with_reducible rfl); (try simp only [Act.put, List.setIfInBounds_toArray, List.set_cons_zero, List.set_cons_succ]))
        (refine takeW (i := 5) (v := ?_) rfl (by kernel_rfl) (by kernel_rfl) (by kernel_rfl) (fun _ _ _ h => h) (by rfl) (by assumption) ?_ ?_; rotate_left; (intro W hW; (try dsimp only at hW); go_simp; try with_reducible rfl); (try simp only [Act.put, List.setIfInBounds_toArray, List.set_cons_zero, List.set_cons_succ]))
        (refine takeW (i := 6) (v := ?_) rfl (by kernel_rfl) (by kernel_rfl) (by kernel_rfl) (fun _ _ _ h => h) (by rfl) (by assumption) ?_ ?_; rotate_left; (intro W hW; (try dsimp only at hW); go_simp; try with_reducible rfl); (try simp only [Act.put, List.setIfInBounds_toArray, List.set_cons_zero, List.set_cons_succ]))
        (refine takeW (i := 7) (v := ?_) rfl (by kernel_rfl) (by kernel_rfl) (by kernel_rfl) (fun _ _ _ h => h) (by rfl) (by assumption) ?_ ?_; rotate_left; (intro W hW; (try dsimp only at hW); go_simp; try with_reducible rfl); (try simp only [Act.put, List.setIfInBounds_toArray, List.set_cons_zero, List.set_cons_succ]))
        (refine takeW (i := 8) (v := ?_) rfl (by kernel_rfl) (by kernel_rfl) (by kernel_rfl) (fun _ _ _ h => h) (by rfl) (by assumption) ?_ ?_; rotate_left; (intro W hW; (try dsimp only at hW); go_simp; try with_reducible rfl); (try simp only [Act.put, List.setIfInBounds_toArray, List.set_cons_zero, List.set_cons_succ]))
        (refine takeW (i := 9) (v := ?_) rfl (by kernel_rfl) (by kernel_rfl) (by kernel_rfl) (fun _ _ _ h => h) (by rfl) (by assumption) ?_ ?_; rotate_left; (intro W hW; (try dsimp only at hW); go_simp; try with_reducible rfl); (try simp only [Act.put, List.setIfInBounds_toArray, List.set_cons_zero, List.set_cons_succ]))
        (refine takeW (i := 10) (v := ?_) rfl (by kernel_rfl) (by kernel_rfl) (by kernel_rfl) (fun _ _ _ h => h) (by rfl) (by assumption) ?_ ?_; rotate_left; (intro W hW; (try dsimp only at hW); go_simp; try with_reducible rfl); (try simp only [Act.put, List.setIfInBounds_toArray, List.set_cons_zero, List.set_cons_succ]))
        (refine takeW (i := 11) (v := ?_) rfl (by kernel_rfl) (by kernel_rfl) (by kernel_rfl) (fun _ _ _ h => h) (by rfl) (by assumption) ?_ ?_; rotate_left; (intro W hW; (try dsimp only at hW); go_simp; try with_reducible rfl); (try simp only [Act.put, List.setIfInBounds_toArray, List.set_cons_zero, List.set_cons_succ]))
        (refine takeW (i := 12) rfl (by kernel_rfl) (by kernel_rfl) (by kernel_rfl) (fun _ _ _ h => h) (by rfl) (by assumption) (fun W hW => exec_bld103 rfl rfl rfl rfl rfl) ?_; (try simp only [Act.put, List.setIfInBounds_toArray, List.set_cons_zero, List.set_cons_succ]))
        (refine takeW (i := 13) (v := ?_) rfl (by kernel_rfl) (by kernel_rfl) (by kernel_rfl) (fun _ _ _ h => h) (by rfl) (by assumption) ?_ ?_; rotate_left; (intro W hW; (try dsimp only at hW); go_simp; try with_reducible rfl); (try simp only [Act.put, List.setIfInBounds_toArray, List.set_cons_zero, List.set_cons_succ]))
        (refine takeW (i := 14) (v := ?_) rfl (by kernel_rfl) (by kernel_rfl) (by kernel_rfl) (fun _ _ _ h => h) (by rfl) (by assumption) ?_ ?_; rotate_left; (intro W hW; (try dsimp only at hW); go_simp; try with_reducible rfl); (try simp only [Act.put, List.setIfInBounds_toArray, List.set_cons_zero, List.set_cons_succ]))
        (refine takeW (i := 15) rfl (by kernel_rfl) (by kernel_rfl) (by kernel_rfl) (fun _ _ _ h => h) (by rfl) (by assumption) (fun W hW => exec_ixv (v := .pointer (some ⟨b, 2, none⟩)) (idx103 _ _ _ _ 0 (by decide) _) rfl rfl rfl) ?_; (try simp only [Act.put, List.setIfInBounds_toArray, List.set_cons_zero, List.set_cons_succ]))
        (refine takeW (i := 16) (v := ?_) rfl (by kernel_rfl) (by kernel_rfl) (by kernel_rfl) (fun _ _ _ h => h) (by rfl) (by assumption) ?_ ?_; rotate_left; (intro W hW; (try dsimp only at hW); go_simp; try with_reducible rfl); (try simp only [Act.put, List.setIfInBounds_toArray, List.set_cons_zero, List.set_cons_succ]))
        (refine takeW (i := 17) (v := ?_) rfl (by kernel_rfl) (by kernel_rfl) (by kernel_rfl) (fun _ _ _ h => h) (by rfl) (by assumption) ?_ ?_; rotate_left; (intro W hW; (try dsimp only at hW); go_simp; try with_reducible rfl); (try simp only [Act.put, List.setIfInBounds_toArray, List.set_cons_zero, List.set_cons_succ]))
        refine takeVs (i := 18) rfl (by kernel_rfl) (by rfl) (exec_store1 FL23h rfl rfl rfl rfl rfl HFS.out (HBX2.out.frozen 2)) trivial ?_
        (try simp only [Act.put])
        refine wpAnyH_done (by kernel_rfl) ?_ _
        clear hHeld
        have HBX3 : Hid (Blk ((W2.setCell ⟨b, 2, none⟩ (.slice la l.length lc)).drew) b 27 (encSc { x with offs := ⟨la, lc, l⟩ }).toArray) := Lib.hid (((HBX2.out.keep (Below.refl _ _).drew).setL 2 (.slice la l.length lc)))
        have HOX3 : Hid (OwnS B (W2.setCell ⟨b, 2, none⟩ (.slice la l.length lc)).drew { x with offs := ⟨la, lc, l⟩ }) := Lib.hid (OwnS.set (x := { x with offs := ⟨la, lc, l⟩ }) ⟨HOX2.out.drew.ups, ow_below HOL.out (Below.refl _ _).drew, HOX2.out.drew.gates, HOX2.out.drew.guards, HOX2.out.drew.drifts, HOX2.out.drew.ops, HOX2.out.drew.each, HOX2.out.drew.fts⟩ (HBX2.out.keep (Below.refl _ _).drew))
        have HB3 : Hid (Below B W (W2.setCell ⟨b, 2, none⟩ (.slice la l.length lc)).drew) := Lib.hid (HB2.out.drew.setCell (p := ⟨b, 2, none⟩) HBb.out _)
        go_wp2
        exact HPG.out _ { x with offs := ⟨la, lc, l⟩ } HB3.out (by rw [HSV.out]; rfl) HBX3.out HOX3.out
      · as_aux_lemma =>
        have hz : z = 3 := by have := HZ.out; omega
        subst hz
        go_upto_region 5 with fail
        have HFS : Hid (W2.drew.cell? ⟨b, 3, none⟩ = some (.slice x.gates.a x.gates.l.length x.gates.c)) := HBX2.out.list0 rfl
        refine wp_region_held_drew (S := fun _ => True) (by kernel_rfl) trivial (fun hHeld => ?_)
        (refine takeW (i := 0) (v := ?_) rfl (by kernel_rfl) (by kernel_rfl) (by kernel_rfl) (fun _ _ _ h => h) (by rfl) (by assumption) ?_ ?_; rotate_left; (intro W hW; (try dsimp only at hW); go_simp; try with_reducible rfl); (try simp only [Act.put, List.setIfInBounds_toArray, List.set_cons_zero, List.set_cons_succ]))
        (refine takeW (i := 1) (v := ?_) rfl (by kernel_rfl) (by kernel_rfl) (by kernel_rfl) (fun _ _ _ h => h) (by rfl) (by assumption) ?_ ?_; rotate_left; (intro W hW; (try dsimp only at hW); go_simp; try with_reducible rfl); (try simp only [Act.put, List.setIfInBounds_toArray, List.set_cons_zero, List.set_cons_succ]))
        (refine takeW (i := 2) (v := ?_) rfl (by kernel_rfl) (by kernel_rfl) (by kernel_rfl) (fun _ _ _ h => h) (by rfl) (by assumption) ?_ ?_; rotate_left; (intro W hW; (try dsimp only at hW); go_simp; try with_reducible rfl); (try simp only [Act.put, List.setIfInBounds_toArray, List.set_cons_zero, List.set_cons_succ]))
        (refine takeW (i := 3) (v := ?_) rfl (by kernel_rfl) (by kernel_rfl) (by kernel_rfl) (fun _ _ _ h => h) (by rfl) (by assumption) ?_ ?_; rotate_left; (intro W hW; (try dsimp only at hW); go_simp; try with_reducible rfl); (try simp only [Act.put, List.setIfInBounds_toArray, List.set_cons_zero, List.set_cons_succ]))
        (refine takeW (i := 4) (v := ?_) rfl (by kernel_rfl) (by kernel_rfl) (by kernel_rfl) (fun _ _ _ h => h) (by rfl) (by assumption) ?_ ?_; rotate_left; (intro W hW; (try dsimp only at hW); go_simp; try with_reducible rfl); (try simp only [Act.put, List.setIfInBounds_toArray, List.set_cons_zero, List.set_cons_succ]))
        (refine takeW (i := 5) (v := ?_) rfl (by kernel_rfl) (by kernel_rfl) (by kernel_rfl) (fun _ _ _ h => h) (by rfl) (by assumption) ?_ ?_; rotate_left; (intro W hW; (try dsimp only at hW); go_simp; try with_reducible rfl); (try simp only [Act.put, List.setIfInBounds_toArray, List.set_cons_zero, List.set_cons_succ]))
        (refine takeW (i := 6) (v := ?_) rfl (by kernel_rfl) (by kernel_rfl) (by kernel_rfl) (fun _ _ _ h => h) (by rfl) (by assumption) ?_ ?_; rotate_left; (intro W hW; (try dsimp only at hW); go_simp; try with_reducible rfl); (try simp only [Act.put, List.setIfInBounds_toArray, List.set_cons_zero, List.set_cons_succ]))
        (refine takeW (i := 7) (v := ?_) rfl (by kernel_rfl) (by kernel_rfl) (by kernel_rfl) (fun _ _ _ h => h) (by rfl) (by assumption) ?_ ?_; rotate_left; (intro W hW; (try dsimp only at hW); go_simp; try with_reducible rfl); (try simp only [Act.put, List.setIfInBounds_toArray, List.set_cons_zero, List.set_cons_succ]))
        (refine takeW (i := 8) (v := ?_) rfl (by kernel_rfl) (by kernel_rfl) (by kernel_rfl) (fun _ _ _ h => h) (by rfl) (by assumption) ?_ ?_; rotate_left; (intro W hW; (try dsimp only at hW); go_simp; try with_reducible rfl); (try simp only [Act.put, List.setIfInBounds_toArray, List.set_cons_zero, List.set_cons_succ]))
        (refine takeW (i := 9) (v := ?_) rfl (by kernel_rfl) (by kernel_rfl) (by kernel_rfl) (fun _ _ _ h => h) (by rfl) (by assumption) ?_ ?_; rotate_left; (intro W hW; (try dsimp only at hW); go_simp; try with_reducible rfl); (try simp only [Act.put, List.setIfInBounds_toArray, List.set_cons_zero, List.set_cons_succ]))
        (refine takeW (i := 10) (v := ?_) rfl (by kernel_rfl) (by kernel_rfl) (by kernel_rfl) (fun _ _ _ h => h) (by rfl) (by assumption) ?_ ?_; rotate_left; (intro W hW; (try dsimp only at hW); go_simp; try with_reducible rfl); (try simp only [Act.put, List.setIfInBounds_toArray, List.set_cons_zero, List.set_cons_succ]))
        (refine takeW (i := 11) (v := ?_) rfl (by kernel_rfl) (by kernel_rfl) (by kernel_rfl) (fun _ _ _ h => h) (by rfl) (by assumption) ?_ ?_; rotate_left; (intro W hW; (try dsimp only at hW); go_simp; try with_reducible rfl); (try simp only [Act.put, List.setIfInBounds_toArray, List.set_cons_zero, List.set_cons_succ]))
        (refine takeW (i := 12) rfl (by kernel_rfl) (by kernel_rfl) (by kernel_rfl) (fun _ _ _ h => h) (by rfl) (by assumption) (fun W hW => exec_bld103 rfl rfl rfl rfl rfl) ?_; (try simp only [Act.put, List.setIfInBounds_toArray, List.set_cons_zero, List.set_cons_succ]))
        (refine takeW (i := 13) (v := ?_) rfl (by kernel_rfl) (by kernel_rfl) (by kernel_rfl) (fun _ _ _ h => h) (by rfl) (by assumption) ?_ ?_; rotate_left; (intro W hW; (try dsimp only at hW); go_simp; try with_reducible rfl); (try simp only [Act.put, List.setIfInBounds_toArray, List.set_cons_zero, List.set_cons_succ]))
        (refine takeW (i := 14) (v := ?_) rfl (by kernel_rfl) (by kernel_rfl) (by kernel_rfl) (fun _ _ _ h => h) (by rfl) (by assumption) ?_ ?_; rotate_left; (intro W hW; (try dsimp only at hW); go_simp; try with_reducible rfl); (try simp only [Act.put, List.setIfInBounds_toArray, List.set_cons_zero, List.set_cons_succ]))
        (refine takeW (i := 15) rfl (by kernel_rfl) (by kernel_rfl) (by kernel_rfl) (fun _ _ _ h => h) (by rfl) (by assumption) (fun W hW => exec_ixv (v := .pointer (some ⟨b, 3, none⟩)) (idx103 _ _ _ _ 1 (by decide) _) rfl rfl rfl) ?_; (try simp only [Act.put, List.setIfInBounds_toArray, List.set_cons_zero, List.set_cons_succ]))
        (refine takeW (i := 16) (v := ?_) rfl (by kernel_rfl) (by kernel_rfl) (by kernel_rfl) (fun _ _ _ h => h) (by rfl) (by assumption) ?_ ?_; rotate_left; (intro W hW; (try dsimp only at hW); go_simp; try with_reducible rfl); (try simp only [Act.put, List.setIfInBounds_toArray, List.set_cons_zero, List.set_cons_succ]))
        (refine takeW (i := 17) (v := ?_) rfl (by kernel_rfl) (by kernel_rfl) (by kernel_rfl) (fun _ _ _ h => h) (by rfl) (by assumption) ?_ ?_; rotate_left; (intro W hW; (try dsimp only at hW); go_simp; try with_reducible rfl); (try simp only [Act.put, List.setIfInBounds_toArray, List.set_cons_zero, List.set_cons_succ]))
        refine takeVs (i := 18) rfl (by kernel_rfl) (by rfl) (exec_store1 FL23h rfl rfl rfl rfl rfl HFS.out (HBX2.out.frozen 3)) trivial ?_
        (try simp only [Act.put])
        refine wpAnyH_done (by kernel_rfl) ?_ _
        clear hHeld
        have HBX3 : Hid (Blk ((W2.setCell ⟨b, 3, none⟩ (.slice la l.length lc)).drew) b 27 (encSc { x with gates := ⟨la, lc, l⟩ }).toArray) := Lib.hid (((HBX2.out.keep (Below.refl _ _).drew).setL 3 (.slice la l.length lc)))
        have HOX3 : Hid (OwnS B (W2.setCell ⟨b, 3, none⟩ (.slice la l.length lc)).drew { x with gates := ⟨la, lc, l⟩ }) := Lib.hid (OwnS.set (x := { x with gates := ⟨la, lc, l⟩ }) ⟨HOX2.out.drew.ups, HOX2.out.drew.offs, ow_below HOL.out (Below.refl _ _).drew, HOX2.out.drew.guards, HOX2.out.drew.drifts, HOX2.out.drew.ops, HOX2.out.drew.each, HOX2.out.drew.fts⟩ (HBX2.out.keep (Below.refl _ _).drew))
        have HB3 : Hid (Below B W (W2.setCell ⟨b, 3, none⟩ (.slice la l.length lc)).drew) := Lib.hid (HB2.out.drew.setCell (p := ⟨b, 3, none⟩) HBb.out _)
        go_wp2
        exact HPG.out _ { x with gates := ⟨la, lc, l⟩ } HB3.out (by rw [HSV.out]; rfl) HBX3.out HOX3.out
      · as_aux_lemma =>
        have hz : z = 4 := by have := HZ.out; omega
        subst hz
        go_upto_region 5 with fail
        have HFS : Hid (W2.drew.cell? ⟨b, 4, none⟩ = some (.slice x.guards.a x.guards.l.length x.guards.c)) := HBX2.out.list0 rfl
        refine wp_region_held_drew (S := fun _ => True) (by kernel_rfl) trivial (fun hHeld => ?_)
        (refine takeW (i := 0) (v := ?_) rfl (by kernel_rfl) (by kernel_rfl) (by kernel_rfl) (fun _ _ _ h => h) (by rfl) (by assumption) ?_ ?_; rotate_left; (intro W hW; (try dsimp only at hW); go_simp; try with_reducible rfl); (try simp only [Act.put, List.setIfInBounds_toArray, List.set_cons_zero, List.set_cons_succ]))
        (refine takeW (i := 1) (v := ?_) rfl (by kernel_rfl) (by kernel_rfl) (by kernel_rfl) (fun _ _ _ h => h) (by rfl) (by assumption) ?_ ?_; rotate_left; (intro W hW; (try dsimp only at hW); go_simp; try with_reducible rfl); (try simp only [Act.put, List.setIfInBounds_toArray, List.set_cons_zero, List.set_cons_succ]))
        (refine takeW (i := 2) (v := ?_) rfl (by kernel_rfl) (by kernel_rfl) (by kernel_rfl) (fun _ _ _ h => h) (by rfl) (by assumption) ?_ ?_; rotate_left; (intro W hW; (try dsimp only at hW); go_simp; try with_reducible rfl); (try simp only [Act.put, List.setIfInBounds_toArray, List.set_cons_zero, List.set_cons_succ]))
        (refine takeW (i := 3) (v := ?_) rfl (by kernel_rfl) (by kernel_rfl) (by kernel_rfl) (fun _ _ _ h => h) (by rfl) (by assumption) ?_ ?_; rotate_left; (intro W hW; (try dsimp only at hW); go_simp; try with_reducible rfl); (try simp only [Act.put, List.setIfInBounds_toArray, List.set_cons_zero, List.set_cons_succ]))
        (refine takeW (i := 4) (v := ?_) rfl (by kernel_rfl) (by kernel_rfl) (by kernel_rfl) (fun _ _ _ h => h) (by rfl) (by assumption) ?_ ?_; rotate_left; (intro W hW; (try dsimp only at hW); go_simp; try with_reducible rfl); (try simp only [Act.put, List.setIfInBounds_toArray, List.set_cons_zero, List.set_cons_succ]))
        (refine takeW (i := 5) (v := ?_) rfl (by kernel_rfl) (by kernel_rfl) (by kernel_rfl) (fun _ _ _ h => h) (by rfl) (by assumption) ?_ ?_; rotate_left; (intro W hW; (try dsimp only at hW); go_simp; try with_reducible rfl); (try simp only [Act.put, List.setIfInBounds_toArray, List.set_cons_zero, List.set_cons_succ]))
        (refine takeW (i := 6) (v := ?_) rfl (by kernel_rfl) (by kernel_rfl) (by kernel_rfl) (fun _ _ _ h => h) (by rfl) (by assumption) ?_ ?_; rotate_left; (intro W hW; (try dsimp only at hW); go_simp; try with_reducible rfl); (try simp only [Act.put, List.setIfInBounds_toArray, List.set_cons_zero, List.set_cons_succ]))
        (refine takeW (i := 7) (v := ?_) rfl (by kernel_rfl) (by kernel_rfl) (by kernel_rfl) (fun _ _ _ h => h) (by rfl) (by assumption) ?_ ?_; rotate_left; (intro W hW; (try dsimp only at hW); go_simp; try with_reducible rfl); (try simp only [Act.put, List.setIfInBounds_toArray, List.set_cons_zero, List.set_cons_succ]))
        (refine takeW (i := 8) (v := ?_) rfl (by kernel_rfl) (by kernel_rfl) (by kernel_rfl) (fun _ _ _ h => h) (by rfl) (by assumption) ?_ ?_; rotate_left; (intro W hW; (try dsimp only at hW); go_simp; try with_reducible rfl); (try simp only [Act.put, List.setIfInBounds_toArray, List.set_cons_zero, List.set_cons_succ]))
        (refine takeW (i := 9) (v := ?_) rfl (by kernel_rfl) (by kernel_rfl) (by kernel_rfl) (fun _ _ _ h => h) (by rfl) (by assumption) ?_ ?_; rotate_left; (intro W hW; (try dsimp only at hW); go_simp; try with_reducible rfl); (try simp only [Act.put, List.setIfInBounds_toArray, List.set_cons_zero, List.set_cons_succ]))
        (refine takeW (i := 10) (v := ?_) rfl (by kernel_rfl) (by kernel_rfl) (by kernel_rfl) (fun _ _ _ h => h) (by rfl) (by assumption) ?_ ?_; rotate_left; (intro W hW; (try dsimp only at hW); go_simp; try with_reducible rfl); (try simp only [Act.put, List.setIfInBounds_toArray, List.set_cons_zero, List.set_cons_succ]))
        (refine takeW (i := 11) (v := ?_) rfl (by kernel_rfl) (by kernel_rfl) (by kernel_rfl) (fun _ _ _ h => h) (by rfl) (by assumption) ?_ ?_; rotate_left; (intro W hW; (try dsimp only at hW); go_simp; try with_reducible rfl); (try simp only [Act.put, List.setIfInBounds_toArray, List.set_cons_zero, List.set_cons_succ]))
        (refine takeW (i := 12) rfl (by kernel_rfl) (by kernel_rfl) (by kernel_rfl) (fun _ _ _ h => h) (by rfl) (by assumption) (fun W hW => exec_bld103 rfl rfl rfl rfl rfl) ?_; (try simp only [Act.put, List.setIfInBounds_toArray, List.set_cons_zero, List.set_cons_succ]))
        (refine takeW (i := 13) (v := ?_) rfl (by kernel_rfl) (by kernel_rfl) (by kernel_rfl) (fun _ _ _ h => h) (by rfl) (by assumption) ?_ ?_; rotate_left; (intro W hW; (try dsimp only at hW); go_simp; try with_reducible rfl); (try simp only [Act.put, List.setIfInBounds_toArray, List.set_cons_zero, List.set_cons_succ]))
        (refine takeW (i := 14) (v := ?_) rfl (by kernel_rfl) (by kernel_rfl) (by kernel_rfl) (fun _ _ _ h => h) (by rfl) (by assumption) ?_ ?_; rotate_left; (intro W hW; (try dsimp only at hW); go_simp; try with_reducible rfl); (try simp only [Act.put, List.setIfInBounds_toArray, List.set_cons_zero, List.set_cons_succ]))
        (refine takeW (i := 15) rfl (by kernel_rfl) (by kernel_rfl) (by kernel_rfl) (fun _ _ _ h => h) (by rfl) (by assumption) (fun W hW => exec_ixv (v := .pointer (some ⟨b, 4, none⟩)) (idx103 _ _ _ _ 2 (by decide) _) rfl rfl rfl) ?_; (try simp only [Act.put, List.setIfInBounds_toArray, List.set_cons_zero, List.set_cons_succ]))
        (refine takeW (i := 16) (v := ?_) rfl (by kernel_rfl) (by kernel_rfl) (by kernel_rfl) (fun _ _ _ h => h) (by rfl) (by assumption) ?_ ?_; rotate_left; (intro W hW; (try dsimp only at hW); go_simp; try with_reducible rfl); (try simp only [Act.put, List.setIfInBounds_toArray, List.set_cons_zero, List.set_cons_succ]))
        (refine takeW (i := 17) (v := ?_) rfl (by kernel_rfl) (by kernel_rfl) (by kernel_rfl) (fun _ _ _ h => h) (by rfl) (by assumption) ?_ ?_; rotate_left; (intro W hW; (try dsimp only at hW); go_simp; try with_reducible rfl); (try simp only [Act.put, List.setIfInBounds_toArray, List.set_cons_zero, List.set_cons_succ]))
        refine takeVs (i := 18) rfl (by kernel_rfl) (by rfl) (exec_store1 FL23h rfl rfl rfl rfl rfl HFS.out (HBX2.out.frozen 4)) trivial ?_
        (try simp only [Act.put])
        refine wpAnyH_done (by kernel_rfl) ?_ _
        clear hHeld
        have HBX3 : Hid (Blk ((W2.setCell ⟨b, 4, none⟩ (.slice la l.length lc)).drew) b 27 (encSc { x with guards := ⟨la, lc, l⟩ }).toArray) := Lib.hid (((HBX2.out.keep (Below.refl _ _).drew).setL 4 (.slice la l.length lc)))
        have HOX3 : Hid (OwnS B (W2.setCell ⟨b, 4, none⟩ (.slice la l.length lc)).drew { x with guards := ⟨la, lc, l⟩ }) := Lib.hid (OwnS.set (x := { x with guards := ⟨la, lc, l⟩ }) ⟨HOX2.out.drew.ups, HOX2.out.drew.offs, HOX2.out.drew.gates, ow_below HOL.out (Below.refl _ _).drew, HOX2.out.drew.drifts, HOX2.out.drew.ops, HOX2.out.drew.each, HOX2.out.drew.fts⟩ (HBX2.out.keep (Below.refl _ _).drew))
        have HB3 : Hid (Below B W (W2.setCell ⟨b, 4, none⟩ (.slice la l.length lc)).drew) := Lib.hid (HB2.out.drew.setCell (p := ⟨b, 4, none⟩) HBb.out _)
        go_wp2
        exact HPG.out _ { x with guards := ⟨la, lc, l⟩ } HB3.out (by rw [HSV.out]; rfl) HBX3.out HOX3.out
      · as_aux_lemma =>
        have hz : z = 5 := by have := HZ.out; omega
        subst hz
        go_upto_region 5 with fail
        have HFS : Hid (W2.drew.cell? ⟨b, 5, none⟩ = some (.slice x.drifts.a x.drifts.l.length x.drifts.c)) := HBX2.out.list0 rfl
        refine wp_region_held_drew (S := fun _ => True) (by kernel_rfl) trivial (fun hHeld => ?_)
        (refine takeW (i := 0) (v := ?_) rfl (by kernel_rfl) (by kernel_rfl) (by kernel_rfl) (fun _ _ _ h => h) (by rfl) (by assumption) ?_ ?_; rotate_left; (intro W hW; (try dsimp only at hW); go_simp; try with_reducible rfl); (try simp only [Act.put, List.setIfInBounds_toArray, List.set_cons_zero, List.set_cons_succ]))
        (refine takeW (i := 1) (v := ?_) rfl (by kernel_rfl) (by kernel_rfl) (by kernel_rfl) (fun _ _ _ h => h) (by rfl) (by assumption) ?_ ?_; rotate_left; (intro W hW; (try dsimp only at hW); go_simp; try with_reducible rfl); (try simp only [Act.put, List.setIfInBounds_toArray, List.set_cons_zero, List.set_cons_succ]))
        (refine takeW (i := 2) (v := ?_) rfl (by kernel_rfl) (by kernel_rfl) (by kernel_rfl) (fun _ _ _ h => h) (by rfl) (by assumption) ?_ ?_; rotate_left; (intro W hW; (try dsimp only at hW); go_simp; try with_reducible rfl); (try simp only [Act.put, List.setIfInBounds_toArray, List.set_cons_zero, List.set_cons_succ]))
        (refine takeW (i := 3) (v := ?_) rfl (by kernel_rfl) (by kernel_rfl) (by kernel_rfl) (fun _ _ _ h => h) (by rfl) (by assumption) ?_ ?_; rotate_left; (intro W hW; (try dsimp only at hW); go_simp; try with_reducible rfl); (try simp only [Act.put, List.setIfInBounds_toArray, List.set_cons_zero, List.set_cons_succ]))
        (refine takeW (i := 4) (v := ?_) rfl (by kernel_rfl) (by kernel_rfl) (by kernel_rfl) (fun _ _ _ h => h) (by rfl) (by assumption) ?_ ?_; rotate_left; (intro W hW; (try dsimp only at hW); go_simp; try with_reducible rfl); (try simp only [Act.put, List.setIfInBounds_toArray, List.set_cons_zero, List.set_cons_succ]))
        (refine takeW (i := 5) (v := ?_) rfl (by kernel_rfl) (by kernel_rfl) (by kernel_rfl) (fun _ _ _ h => h) (by rfl) (by assumption) ?_ ?_; rotate_left; (intro W hW; (try dsimp only at hW); go_simp; try with_reducible rfl); (try simp only [Act.put, List.setIfInBounds_toArray, List.set_cons_zero, List.set_cons_succ]))
        (refine takeW (i := 6) (v := ?_) rfl (by kernel_rfl) (by kernel_rfl) (by kernel_rfl) (fun _ _ _ h => h) (by rfl) (by assumption) ?_ ?_; rotate_left; (intro W hW; (try dsimp only at hW); go_simp; try with_reducible rfl); (try simp only [Act.put, List.setIfInBounds_toArray, List.set_cons_zero, List.set_cons_succ]))
        (refine takeW (i := 7) (v := ?_) rfl (by kernel_rfl) (by kernel_rfl) (by kernel_rfl) (fun _ _ _ h => h) (by rfl) (by assumption) ?_ ?_; rotate_left; (intro W hW; (try dsimp only at hW); go_simp; try with_reducible rfl); (try simp only [Act.put, List.setIfInBounds_toArray, List.set_cons_zero, List.set_cons_succ]))
        (refine takeW (i := 8) (v := ?_) rfl (by kernel_rfl) (by kernel_rfl) (by kernel_rfl) (fun _ _ _ h => h) (by rfl) (by assumption) ?_ ?_; rotate_left; (intro W hW; (try dsimp only at hW); go_simp; try with_reducible rfl); (try simp only [Act.put, List.setIfInBounds_toArray, List.set_cons_zero, List.set_cons_succ]))
        (refine takeW (i := 9) (v := ?_) rfl (by kernel_rfl) (by kernel_rfl) (by kernel_rfl) (fun _ _ _ h => h) (by rfl) (by assumption) ?_ ?_; rotate_left; (intro W hW; (try dsimp only at hW); go_simp; try with_reducible rfl); (try simp only [Act.put, List.setIfInBounds_toArray, List.set_cons_zero, List.set_cons_succ]))
        (refine takeW (i := 10) (v := ?_) rfl (by kernel_rfl) (by kernel_rfl) (by kernel_rfl) (fun _ _ _ h => h) (by rfl) (by assumption) ?_ ?_; rotate_left; (intro W hW; (try dsimp only at hW); go_simp; try with_reducible rfl); (try simp only [Act.put, List.setIfInBounds_toArray, List.set_cons_zero, List.set_cons_succ]))
        (refine takeW (i := 11) (v := ?_) rfl (by kernel_rfl) (by kernel_rfl) (by kernel_rfl) (fun _ _ _ h => h) (by rfl) (by assumption) ?_ ?_; rotate_left; (intro W hW; (try dsimp only at hW); go_simp; try with_reducible rfl); (try simp only [Act.put, List.setIfInBounds_toArray, List.set_cons_zero, List.set_cons_succ]))
        (refine takeW (i := 12) rfl (by kernel_rfl) (by kernel_rfl) (by kernel_rfl) (fun _ _ _ h => h) (by rfl) (by assumption) (fun W hW => exec_bld103 rfl rfl rfl rfl rfl) ?_; (try simp only [Act.put, List.setIfInBounds_toArray, List.set_cons_zero, List.set_cons_succ]))
        (refine takeW (i := 13) (v := ?_) rfl (by kernel_rfl) (by kernel_rfl) (by kernel_rfl) (fun _ _ _ h => h) (by rfl) (by assumption) ?_ ?_; rotate_left; (intro W hW; (try dsimp only at hW); go_simp; try with_reducible rfl); (try simp only [Act.put, List.setIfInBounds_toArray, List.set_cons_zero, List.set_cons_succ]))
        (refine takeW (i := 14) (v := ?_) rfl (by kernel_rfl) (by kernel_rfl) (by kernel_rfl) (fun _ _ _ h => h) (by rfl) (by assumption) ?_ ?_; rotate_left; (intro W hW; (try dsimp only at hW); go_simp; try with_reducible rfl); (try simp only [Act.put, List.setIfInBounds_toArray, List.set_cons_zero, List.set_cons_succ]))
        (refine takeW (i := 15) rfl (by kernel_rfl) (by kernel_rfl) (by kernel_rfl) (fun _ _ _ h => h) (by rfl) (by assumption) (fun W hW => exec_ixv (v := .pointer (some ⟨b, 5, none⟩)) (idx103 _ _ _ _ 3 (by decide) _) rfl rfl rfl) ?_; (try simp only [Act.put, List.setIfInBounds_toArray, List.set_cons_zero, List.set_cons_succ]))
        (refine takeW (i := 16) (v := ?_) rfl (by kernel_rfl) (by kernel_rfl) (by kernel_rfl) (fun _ _ _ h => h) (by rfl) (by assumption) ?_ ?_; rotate_left; (intro W hW; (try dsimp only at hW); go_simp; try with_reducible rfl); (try simp only [Act.put, List.setIfInBounds_toArray, List.set_cons_zero, List.set_cons_succ]))
        (refine takeW (i := 17) (v := ?_) rfl (by kernel_rfl) (by kernel_rfl) (by kernel_rfl) (fun _ _ _ h => h) (by rfl) (by assumption) ?_ ?_; rotate_left; (intro W hW; (try dsimp only at hW); go_simp; try with_reducible rfl); (try simp only [Act.put, List.setIfInBounds_toArray, List.set_cons_zero, List.set_cons_succ]))
        refine takeVs (i := 18) rfl (by kernel_rfl) (by rfl) (exec_store1 FL23h rfl rfl rfl rfl rfl HFS.out (HBX2.out.frozen 5)) trivial ?_
        (try simp only [Act.put])
        refine wpAnyH_done (by kernel_rfl) ?_ _
        clear hHeld
        have HBX3 : Hid (Blk ((W2.setCell ⟨b, 5, none⟩ (.slice la l.length lc)).drew) b 27 (encSc { x with drifts := ⟨la, lc, l⟩ }).toArray) := Lib.hid (((HBX2.out.keep (Below.refl _ _).drew).setL 5 (.slice la l.length lc)))
        have HOX3 : Hid (OwnS B (W2.setCell ⟨b, 5, none⟩ (.slice la l.length lc)).drew { x with drifts := ⟨la, lc, l⟩ }) := Lib.hid (OwnS.set (x := { x with drifts := ⟨la, lc, l⟩ }) ⟨HOX2.out.drew.ups, HOX2.out.drew.offs, HOX2.out.drew.gates, HOX2.out.drew.guards, ow_below HOL.out (Below.refl _ _).drew, HOX2.out.drew.ops, HOX2.out.drew.each, HOX2.out.drew.fts⟩ (HBX2.out.keep (Below.refl _ _).drew))
        have HB3 : Hid (Below B W (W2.setCell ⟨b, 5, none⟩ (.slice la l.length lc)).drew) := Lib.hid (HB2.out.drew.setCell (p := ⟨b, 5, none⟩) HBb.out _)
        go_wp2
        exact HPG.out _ { x with drifts := ⟨la, lc, l⟩ } HB3.out (by rw [HSV.out]; rfl) HBX3.out HOX3.out
end Go.Proofs.YtkinhhkodaacjaaGreatDoor
