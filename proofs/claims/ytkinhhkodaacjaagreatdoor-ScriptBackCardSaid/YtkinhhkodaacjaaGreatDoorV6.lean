/- The program's tail: a line behind the first ones, read into a script. -/
import Derived.Test.YtkinhhkodaacjaaGreatDoorV4
import Derived.Test.YtkinhhkodaacjaaGreatDoorR7
namespace Go.Proofs.YtkinhhkodaacjaaGreatDoor
open Go.RowKit Go.Shelf
open Md

noncomputable def zFt : Value := ((Tryz.prog.info? 81).bind (fun i => i.zero)).getD (.bool false)
theorem E25t : Elem Tryz.prog 25 81 zFt 7 56 := ⟨Tryz.underlying25, by kernel_rfl, by kernel_rfl, by decide, by decide⟩
theorem FL24t : Flat Tryz.prog 24 := ⟨⟨_, Tryz.underlying24, rfl⟩, by kernel_rfl⟩
theorem FL25t : Flat Tryz.prog 25 := ⟨⟨_, Tryz.underlying25, rfl⟩, by kernel_rfl⟩
theorem exec_eqB {w : World} {o : Oper} {ac : Act} {X Y : Operand} {ty : TypeId} {x y : List UInt8} {b : Bool} (hb : decide (x = y) = b) (ho : o.op = .binOp .eql 9 X Y ty) (hx : ac.eval X = strV x) (hy : ac.eval Y = strV y) : (execOp ac.eval o).run Tryz.prog w = .ok (.value (.bool b)) w := by
  subst hb
  exact exec_eqS ho hx hy
theorem own_cellL {W : World} {B : Nat} {e : TypeId} {g n c m : Nat} {xs : List Value} (h : W.ownsRow B e 1 (.slice (some ⟨g, 0, none⟩) n c) m xs) {j : Nat} {u : Value} (hj : xs[j]? = some u) : W.cell? ⟨g, j, none⟩ = some u := by
  rcases h.2 with ⟨e0, _⟩ | ⟨g', cap', cur', e0, hb, hh, h1, h2, h3, h4⟩
  · cases e0
  · simp only [Value.slice.injEq, Option.some.injEq, Addr.mk.injEq, and_true] at e0
    obtain ⟨rfl, -, -⟩ := e0
    rw [Lib.cell_of_heap hh]
    have e2 : (cur'.toList.take (m * 1))[j]? = some u := by rw [h4]; exact hj
    rw [List.getElem?_take] at e2
    split at e2
    · simpa using e2
    · cases e2
set_option maxRecDepth 100000 in
theorem exec_bld46 {w : World} {o : Oper} {a : Act} {X0 X1 X2 X3 X4 X5 : Operand} {q : Ho} (ho : o.op = .build 46 #[(0, X0), (1, X1), (2, X2), (3, X3), (4, X4), (5, X5)]) (h0 : a.eval X0 = .int .i64 q.n) (h1 : a.eval X1 = .int .i64 q.r) (h2 : a.eval X2 = .int .i64 q.s) (h3 : a.eval X3 = .int .i64 q.k) (h4 : a.eval X4 = .int .i64 q.v) (h5 : a.eval X5 = .slice q.a q.d.length q.c) :
    (execOp a.eval o).run Tryz.prog w = .ok (.value (.agg (encH q).toArray)) w := by
  obtain ⟨n, r, s, k, v, qa, qc, qd⟩ := q
  simp only at h0 h1 h2 h3 h4 h5
  have hb : Tryz.prog.built 46 #[(0, Value.int .i64 n), (1, .int .i64 r), (2, .int .i64 s), (3, .int .i64 k), (4, .int .i64 v), (5, .slice qa qd.length qc)].toList = some (encH ⟨n, r, s, k, v, qa, qc, qd⟩).toArray := by kernel_rfl
  simp [execOp, ho, h0, h1, h2, h3, h4, h5, run_build w 46 #[(0, Value.int .i64 n), (1, .int .i64 r), (2, .int .i64 s), (3, .int .i64 k), (4, .int .i64 v), (5, .slice qa qd.length qc)] _ hb, Result.andThen]
set_option maxRecDepth 100000 in
theorem exec_bld81 {w : World} {o : Oper} {a : Act} {X0 X1 X2 X3 X4 X5 X6 : Operand} {q : Fa} (ho : o.op = .build 81 #[(0, X0), (1, X1), (2, X2), (3, X3), (4, X4), (5, X5), (6, X6)]) (h0 : a.eval X0 = .int .i64 q.k) (h1 : a.eval X1 = .int .i64 q.n) (h2 : a.eval X2 = .int .i64 q.c) (h3 : a.eval X3 = .int .i64 q.r) (h4 : a.eval X4 = .int .i64 q.s) (h5 : a.eval X5 = .int .i64 q.a) (h6 : a.eval X6 = .int .i64 q.b) :
    (execOp a.eval o).run Tryz.prog w = .ok (.value (.agg (encF q).toArray)) w := by
  obtain ⟨k, n, c, r, s, qa, qb⟩ := q
  simp only at h0 h1 h2 h3 h4 h5 h6
  have hb : Tryz.prog.built 81 #[(0, Value.int .i64 k), (1, .int .i64 n), (2, .int .i64 c), (3, .int .i64 r), (4, .int .i64 s), (5, .int .i64 qa), (6, .int .i64 qb)].toList = some (encF ⟨k, n, c, r, s, qa, qb⟩).toArray := by kernel_rfl
  simp [execOp, ho, h0, h1, h2, h3, h4, h5, h6, run_build w 81 #[(0, Value.int .i64 k), (1, .int .i64 n), (2, .int .i64 c), (3, .int .i64 r), (4, .int .i64 s), (5, .int .i64 qa), (6, .int .i64 qb)] _ hb, Result.andThen]
theorem numsS_len : ∀ {ws : List (List UInt8)} {ns : List Int}, numsS ws = some ns → ns.length = ws.length := fun h => by rw [(numsS_iff.1 h).1, List.length_map]
theorem words7 {l : List (List UInt8)} (h : l.length = 7) : ∃ a b c d e f g, l = [a, b, c, d, e, f, g] := by
  match l, h with
  | [a, b, c, d, e, f, g], _ => exact ⟨a, b, c, d, e, f, g, rfl⟩
theorem words8 {l : List (List UInt8)} (h : l.length = 8) : ∃ a b c d e f g i, l = [a, b, c, d, e, f, g, i] := by
  match l, h with
  | [a, b, c, d, e, f, g, i], _ => exact ⟨a, b, c, d, e, f, g, i, rfl⟩
theorem tailS_no {x : Scr} {w : List UInt8} {r : List (List UInt8)} (h1 : ¬ (w = wOp ∧ (w :: r).length = 7 ∧ x.fts = [])) (h2 : ¬ (w = wFault ∧ (w :: r).length = 8)) : tailS x (w :: r) = none := by
  unfold tailS
  split
  · next e =>
    cases e
    rw [if_neg (fun h => h1 ⟨h.1, rfl, h.2⟩)]
  · next e =>
    cases e
    rw [if_neg (fun h => h2 ⟨h, rfl⟩)]
  · rfl
theorem tailS_opn {x : Scr} {a b c d e h : List UInt8} (hx : numsS [a, b, c, d, e] = none ∨ unhexW h = none) : tailS x [wOp, a, b, c, d, e, h] = none := by
  unfold tailS
  simp only
  split
  · split
    · next h1 h2 =>
      rcases hx with hx | hx
      · rw [hx] at h1; cases h1
      · rw [hx] at h2; cases h2
    · rfl
  · rfl
theorem tailS_ops {x : Scr} {a b c d e h : List UInt8} {p0 p1 p2 p3 p4 : Int} {q : List UInt8} (hf : x.fts = []) (h1 : numsS [a, b, c, d, e] = some [p0, p1, p2, p3, p4]) (h2 : unhexW h = some q) : tailS x [wOp, a, b, c, d, e, h] = some { x with ops := x.ops ++ [⟨p0, p1, p2, p3, p4, q⟩] } := by
  unfold tailS
  simp only
  rw [if_pos ⟨trivial, hf⟩, h1, h2]
theorem tailS_ftn {x : Scr} {a b c d e f g : List UInt8} (hx : numsS [a, b, c, d, e, f, g] = none) : tailS x [wFault, a, b, c, d, e, f, g] = none := by
  unfold tailS
  simp only
  rw [if_pos trivial, hx]
theorem tailS_fts {x : Scr} {a b c d e f g : List UInt8} {p0 p1 p2 p3 p4 p5 p6 : Int} (h1 : numsS [a, b, c, d, e, f, g] = some [p0, p1, p2, p3, p4, p5, p6]) : tailS x [wFault, a, b, c, d, e, f, g] = some { x with fts := x.fts ++ [⟨p0, p1, p2, p3, p4, p5, p6⟩] } := by
  unfold tailS
  simp only
  rw [if_pos trivial, h1]
def TailP (B b : Nat) (x : Sc) (ws : List (List UInt8)) (W : World) (e : Ending) (w' : World) : Prop :=
  Below B W w' ∧ ∃ ok, e = .returned (.bool ok) ∧ match tailS x.k ws with
    | none => ok = false
    | some y => ok = true ∧ ∃ x' : Sc, x'.k = y ∧ Blk w' b 27 (encSc x').toArray ∧ OwnS B w' x'
set_option maxRecDepth 100000 in
set_option maxHeartbeats 3200000 in
theorem tail_any (B b : Nat) (x : Sc) (wv : Value) (w1 : List UInt8) (ws : List (List UInt8)) (W : World) (hb : Blk W b 27 (encSc x).toArray) (hx : OwnS B W x) (hBb : B ≤ b) (hw : Wds W wv (w1 :: ws)) (hl : ∀ y ∈ w1 :: ws, y.length ≤ 1000000000) (hol : x.ops.length ≤ 1000000000) (hfl : x.faults.length ≤ 1000000000) :
    Calls Tryz.prog 19 #[.pointer (some ⟨b, 0, none⟩), wv] W (TailP B b x (w1 :: ws) W) := by
  have HPB : Hid (∀ w', Below B W w' → tailS x.k (w1 :: ws) = none → TailP B b x (w1 :: ws) W (.returned (.bool false)) w') := fun w' h1 h2 => ⟨h1, false, rfl, by rw [h2]⟩
  have HPG : Hid (∀ w' (x' : Sc), Below B W w' → tailS x.k (w1 :: ws) = some x'.k → Blk w' b 27 (encSc x').toArray → OwnS B w' x' → TailP B b x (w1 :: ws) W (.returned (.bool true)) w') := fun w' x' h1 h2 h3 h4 => ⟨h1, true, rfl, by rw [h2]; exact ⟨rfl, x', rfl, h3, h4⟩⟩
  generalize TailP B b x (w1 :: ws) W = POST at *
  have HBX := Lib.hid hb
  have HOX := Lib.hid hx
  have HBb : Hid (B ≤ b) := hBb
  have HBs : Hid (B ≤ W.heap.size) := Nat.le_trans hBb (Nat.le_of_lt hb.lt)
  have HW := Lib.hid hw
  have HLW := Lib.hid hl
  have HOL := Lib.hid hol
  have HFL := Lib.hid hfl
  obtain ⟨wa, kc, rfl, hwc, hwcm, hwne⟩ := hw.shape
  obtain ⟨gw, off, rfl, hbl, hc⟩ := hw.row (by simp)
  have HCW : Hid (∀ j y, (w1 :: ws)[j]? = some y → W.cell? ⟨gw, off + j, none⟩ = some (strV y)) := fun j y hj => by
    have := hc j y hj 0 _ rfl
    simpa using this
  have HGW : Hid (gw < W.heap.size) := hbl
  have c0 : W.cell? ⟨gw, off, none⟩ = some (strV w1) := HCW.out 0 w1 rfl
  obtain ⟨wn, hwn⟩ : ∃ wn, wn = (w1 :: ws).length := ⟨_, rfl⟩
  have HWN := Lib.hid hwn
  have hwn1 : 0 < wn := by rw [hwn]; simp
  rw [← hwn] at hwc ⊢
  have c7 : W.cell? ⟨b, 7, none⟩ = some (.slice x.fa x.faults.length x.fc) := HBX.out.list0 rfl
  obtain ⟨p1, hp1⟩ : ∃ p1, decide (w1 = wOp) = p1 := ⟨_, rfl⟩
  obtain ⟨p2, hp2⟩ : ∃ p2, ((wn : Int) == 7) = p2 := ⟨_, rfl⟩
  obtain ⟨p3, hp3⟩ : ∃ p3, ((x.faults.length : Int) == 0) = p3 := ⟨_, rfl⟩
  obtain ⟨f1, hf1⟩ : ∃ f1, decide (w1 = wFault) = f1 := ⟨_, rfl⟩
  obtain ⟨f2, hf2⟩ : ∃ f2, ((wn : Int) == 8) = f2 := ⟨_, rfl⟩
  have HP1 := Lib.hid hp1
  have HP2 := Lib.hid hp2
  have HP3 := Lib.hid hp3
  have HF1 := Lib.hid hf1
  have HF2 := Lib.hid hf2
  obtain ⟨cb, hcb⟩ : ∃ cb, (p1 && p2 && p3) = cb := ⟨_, rfl⟩
  obtain ⟨cf, hcf⟩ : ∃ cf, (f1 && f2) = cf := ⟨_, rfl⟩
  have HCB := Lib.hid hcb
  have HCF := Lib.hid hcf
  clear hb hx hBb hw hl hol hfl hwn hbl hc hwne hp1 hf1 hcb hcf
  go_enter Tryz.func19, Tryz.ntmps19
  go_upto_region 1 with fail
  go_cut [11] from 12 to 29 (fun s wx => s = .bool cb ∧ wx = W)
  case first =>
    cases p1 with
    | false =>
      go_wp2_with (first | ((with_reducible show wpList _ _ _ (Oper.mk (some 14) _ _ _ _ _ :: _) _ _); refine wpList_val rfl (exec_load1 (v := strV w1) FL9 rfl rfl c0) ?_) | ((with_reducible show wpList _ _ _ (Oper.mk (some 15) _ _ _ _ _ :: _) _ _); refine wpList_val rfl (exec_eqB (y := wOp) HP1.out rfl rfl rfl) ?_))
      go_meet
      exact ⟨by rw [← HCB.out]; rfl, rfl⟩
    | true =>
      cases p2 with
      | false =>
        have hz : ¬ ((wn : Int) = 7) := by simpa using hp2
        go_wp2_with (first | ((with_reducible show wpList _ _ _ (Oper.mk (some 14) _ _ _ _ _ :: _) _ _); refine wpList_val rfl (exec_load1 (v := strV w1) FL9 rfl rfl c0) ?_) | ((with_reducible show wpList _ _ _ (Oper.mk (some 15) _ _ _ _ _ :: _) _ _); refine wpList_val rfl (exec_eqB (y := wOp) HP1.out rfl rfl rfl) ?_))
        go_meet
        exact ⟨by rw [← HCB.out]; rfl, rfl⟩
      | true =>
        have hz : (wn : Int) = 7 := by simpa using hp2
        have HZ := Lib.hid hz
        cases p3 with
        | false =>
          have hz3 : ¬ ((x.faults.length : Int) = 0) := by simpa using hp3
          go_wp2_with (first | ((with_reducible show wpList _ _ _ (Oper.mk (some 14) _ _ _ _ _ :: _) _ _); refine wpList_val rfl (exec_load1 (v := strV w1) FL9 rfl rfl c0) ?_) | ((with_reducible show wpList _ _ _ (Oper.mk (some 15) _ _ _ _ _ :: _) _ _); refine wpList_val rfl (exec_eqB (y := wOp) HP1.out rfl rfl rfl) ?_))
          go_meet
          exact ⟨by rw [← HCB.out]; rfl, rfl⟩
        | true =>
          have hz3 : (x.faults.length : Int) = 0 := by simpa using hp3
          go_wp2_with (first | ((with_reducible show wpList _ _ _ (Oper.mk (some 14) _ _ _ _ _ :: _) _ _); refine wpList_val rfl (exec_load1 (v := strV w1) FL9 rfl rfl c0) ?_) | ((with_reducible show wpList _ _ _ (Oper.mk (some 15) _ _ _ _ _ :: _) _ _); refine wpList_val rfl (exec_eqB (y := wOp) HP1.out rfl rfl rfl) ?_))
          go_meet
          exact ⟨by rw [← HCB.out]; rfl, rfl⟩
  case rest =>
  obtain ⟨rfl, hwc2⟩ := hcut
  replace hwc2 := hwc2.symm
  subst hwc2
  clear hp2 hp3
  cases cb with
  | true =>
    have hq1 := HCB.out
    simp only [Bool.and_eq_true] at hq1
    obtain ⟨⟨q1, q2⟩, q3⟩ := hq1
    have e1 : w1 = wOp := of_decide_eq_true (HP1.out.trans q1)
    have e2 : (w1 :: ws).length = 7 := by have := HP2.out.trans q2; have h := HWN.out; simp at this; omega
    have e3 : x.faults = [] := by have := HP3.out.trans q3; simp at this; exact this
    obtain ⟨v0, v1, v2, v3, v4, v5, v6, hws⟩ := words7 e2
    simp only [List.cons.injEq] at hws
    obtain ⟨rfl, rfl⟩ := hws
    obtain rfl : wn = 7 := by have := HWN.out; simp at this; exact this
    subst e1
    have HFT : Hid (x.k.fts = []) := by show x.faults.map Fa.fk = []; rw [e3]; rfl
    obtain ⟨v31, hrun, hrd⟩ := run_slice_mid (P := Tryz.prog) (t := 47) (by kernel_rfl) (fun W => by rw [show Tryz.prog.elem 47 = 9 by kernel_rfl]; exact Tryz.sizeOf9 W) HW.out (i := 1) (k := 6) (by decide) (by simp) .i64 .i64
    have HRUN : Hid (∀ X, (Instr.sliceAt 47 (.slice (some ⟨gw, off, none⟩) 7 kc) (some (.int .i64 1)) (some (.int .i64 6)) none).run Tryz.prog X = .ok v31 X) := hrun
    have HWT : Hid (Wds W v31 [v1, v2, v3, v4, v5]) := Lib.hid (hrd W HW.out)
    have HCP := Lib.hid (parseAll_any [v1, v2, v3, v4, v5] v31 W HWT.out (fun y hy => HLW.out y (by simp only [List.mem_cons, List.not_mem_nil, or_false] at hy; rcases hy with rfl | rfl | rfl | rfl | rfl <;> simp)) (by simp))
    clear hrun hrd HWT e2 e3 q1 q2 q3 c7
    go_wp2_with ((with_reducible show wpList _ _ _ (Oper.mk (some 31) _ _ _ _ _ :: _) _ _); refine wpList_val rfl (exec_slice rfl rfl rfl rfl (HRUN.out _)) ?_)
    refine HCP.out.mono ?_
    rintro e W1 ⟨⟨v5', b6, rfl, hg, hbad⟩, hb1⟩
    have HG := Lib.hid hg
    have HBD := Lib.hid hbad
    have HBZ1 := Lib.hid hb1
    have c6 : W1.cell? ⟨gw, off + 6, none⟩ = some (strV v6) := (hb1.cell HGW.out).trans (HCW.out 6 v6 rfl)
    clear hg hbad hb1 HCP HRUN
    have HCD := Lib.hid (data_any v6 W1 (HLW.out v6 (by simp)))
    go_wp2_with ((with_reducible show wpList _ _ _ (Oper.mk (some 38) _ _ _ _ _ :: _) _ _); refine wpList_val rfl (exec_load1 (v := strV v6) FL9 rfl rfl c6) ?_)
    refine HCD.out.mono ?_
    rintro e W2 ⟨⟨v7, b8, rfl, hg2, hbad2⟩, hb2⟩
    have HG2 := Lib.hid hg2
    have HBD2 := Lib.hid hbad2
    have HBZ2 := Lib.hid hb2
    have HBW := Lib.hid ((HBZ1.out.mono HBs.out).trans (HBZ2.out.mono (Nat.le_trans HBs.out HBZ1.out.size)))
    clear hg2 hbad2 hb2 HCD c6 c0
    cases b6 with
    | false =>
      have HRN : Hid (tailS x.k [wOp, v1, v2, v3, v4, v5, v6] = none) := by
        refine Lib.hid (tailS_opn (.inl ?_))
        cases h : numsS [v1, v2, v3, v4, v5] with
        | none => rfl
        | some l => have := (HG.out l h).1; cases this
      clear HG HBD HG2 HBD2
      go_wp2
      exact HPB.out _ HBW.out HRN.out
    | true =>
      cases b8 with
      | false =>
        have HRN : Hid (tailS x.k [wOp, v1, v2, v3, v4, v5, v6] = none) := by
          refine Lib.hid (tailS_opn (.inr ?_))
          cases h : unhexW v6 with
          | none => rfl
          | some l => have := (HG2.out l h).1; cases this
        clear HG HBD HG2 HBD2
        go_wp2
        exact HPB.out _ HBW.out HRN.out
      | true =>
        obtain ⟨l, hl⟩ : ∃ l, numsS [v1, v2, v3, v4, v5] = some l := by
          cases h : numsS [v1, v2, v3, v4, v5] with
          | none => have := (HBD.out h).1; cases this
          | some l => exact ⟨l, rfl⟩
        obtain ⟨d, hd⟩ : ∃ d, unhexW v6 = some d := by
          cases h : unhexW v6 with
          | none => have := (HBD2.out h).1; cases this
          | some l => exact ⟨l, rfl⟩
        obtain ⟨n0, n1, n2, n3, n4, rfl⟩ := len5 (numsS_len hl)
        obtain ⟨g5, c5, e5, -, -, -, -, -⟩ := own_cellsV (HG.out _ hl).2 (by simp)
        subst e5
        have hn5 := (HG.out _ hl).2
        obtain ⟨da, dc, dl, hdv, hdo, hdb, hdd⟩ := bytes_out (Nat.le_trans HBs.out HBZ1.out.size) (HG2.out d hd).2
        subst hdv
        obtain ⟨q, hq⟩ : ∃ q : Ho, q = ⟨n0, n1, n2, n3, n4, da, dc, dl⟩ := ⟨_, rfl⟩
        have HRN : Hid (tailS x.k [wOp, v1, v2, v3, v4, v5, v6] = some { x.k with ops := x.k.ops ++ [q.ok] }) := by
          refine Lib.hid ?_
          rw [tailS_ops HFT.out hl hd, hq, ← hdd]
          rfl
        obtain ⟨p0, hp0⟩ : ∃ p0, p0 = q.n := ⟨_, rfl⟩
        obtain ⟨p1', hp1'⟩ : ∃ p1', p1' = q.r := ⟨_, rfl⟩
        obtain rfl : n0 = q.n := by rw [hq]
        obtain rfl : n1 = q.r := by rw [hq]
        obtain rfl : n2 = q.s := by rw [hq]
        obtain rfl : n3 = q.k := by rw [hq]
        obtain rfl : n4 = q.v := by rw [hq]
        obtain rfl : da = q.a := by rw [hq]
        obtain rfl : dc = q.c := by rw [hq]
        obtain rfl : dl = q.d := by rw [hq]
        have HN5 : Hid (W2.drew.ownsRow B 3 1 (.slice (some ⟨g5, 0, none⟩) 5 c5) 5 ([q.n, q.r, q.s, q.k, q.v].map (Value.int .i64))) := Lib.hid (ow_below (ow_below (own_le hn5 HBs.out) HBZ2.out) (Below.refl _ _).drew)
        have HBY : Hid (W2.drew.ownsRow B 5 1 (.slice q.a q.d.length q.c) q.d.length (q.d.map (Value.int .u8)) ∧ ∀ c ∈ q.d, 0 ≤ c ∧ c ≤ 255) := ⟨ow_below hdo (Below.refl _ _).drew, hdb⟩
        have HBDX : Hid (Blk W2.drew b 27 (encSc x).toArray) := Lib.hid (((HBX.out.keep HBZ1.out).keep HBZ2.out).keep (Below.refl _ _).drew)
        have HOD := Lib.hid ((HOX.out.below HBZ1.out).below HBZ2.out).drew
        have HWC : Hid (B ≤ W2.drew.heap.size) := Lib.hid (Nat.le_trans HBs.out HBW.out.size)
        have HOWI : Hid ((W2.drew.alloc (.cells (encH q).toArray 46)).ownsRow B 46 6 (.slice x.oa x.ops.length x.oc) x.ops.length (x.ops.flatMap encH)) := Lib.hid (ow_below HOD.out.ops (below1 _ _))
        have HKL := HOL
        clear hl hd hn5 hdo hdb hdd hq HG HBD HG2 HBD2 hp0 hp1' p0 p1'
        have HBD := HBDX
        clear HBDX
        go_upto_region 6 with fail
        refine wp_region_held_drew (S := (fun X : World => X.ownsRow B 3 1 (.slice (some ⟨g5, 0, none⟩) 5 c5) 5 ([q.n, q.r, q.s, q.k, q.v].map (Value.int .i64)))) (by kernel_rfl) HN5.out (fun hHeld => ?_)
        (refine takeW (i := 0) (v := ?_) rfl (by kernel_rfl) (by kernel_rfl) (by kernel_rfl) (fun _ _ _ h => h) (by rfl) (by assumption) ?_ ?_; rotate_left; (intro W hW; (try dsimp only at hW); go_simp; try with_reducible rfl); (try simp only [Act.put, List.setIfInBounds_toArray, List.set_cons_zero, List.set_cons_succ]))
        (refine takeW (i := 1) (v := ?_) rfl (by kernel_rfl) (by kernel_rfl) (by kernel_rfl) (fun _ _ _ h => h) (by rfl) (by assumption) ?_ ?_; rotate_left; (intro W hW; (try dsimp only at hW); go_simp; try with_reducible rfl); (try simp only [Act.put, List.setIfInBounds_toArray, List.set_cons_zero, List.set_cons_succ]))
        (refine takeW (i := 2) (v := ?_) rfl (by kernel_rfl) (by kernel_rfl) (by kernel_rfl) (fun _ _ _ h => h) (by rfl) (by assumption) ?_ ?_; rotate_left; (intro W hW; (try dsimp only at hW); go_simp; try with_reducible rfl); (try simp only [Act.put, List.setIfInBounds_toArray, List.set_cons_zero, List.set_cons_succ]))
        (refine takeW (i := 3) (v := ?_) rfl (by kernel_rfl) (by kernel_rfl) (by kernel_rfl) (fun _ _ _ h => h) (by rfl) (by assumption) ?_ ?_; rotate_left; (intro W hW; (try dsimp only at hW); go_simp; try with_reducible rfl); (try simp only [Act.put, List.setIfInBounds_toArray, List.set_cons_zero, List.set_cons_succ]))
        (refine takeW (i := 5) (v := ?_) rfl (by kernel_rfl) (by kernel_rfl) (by kernel_rfl) (fun _ _ _ h => h) (by rfl) (by assumption) ?_ ?_; rotate_left; (intro W hW; (try dsimp only at hW); go_simp; try with_reducible rfl); (try simp only [Act.put, List.setIfInBounds_toArray, List.set_cons_zero, List.set_cons_succ]))
        (refine takeW (i := 6) (v := ?_) rfl (by kernel_rfl) (by kernel_rfl) (by kernel_rfl) (fun _ _ _ h => h) (by rfl) (by assumption) ?_ ?_; rotate_left; (intro W hW; (try dsimp only at hW); go_simp; try with_reducible rfl); (try simp only [Act.put, List.setIfInBounds_toArray, List.set_cons_zero, List.set_cons_succ]))
        (refine takeW (i := 7) rfl (by kernel_rfl) (by kernel_rfl) (by kernel_rfl) (fun _ _ _ h => h) (by rfl) (by assumption) (fun W hW => exec_load1 FL3 rfl rfl (own_cellL hW (j := 0) rfl)) ?_; (try simp only [Act.put, List.setIfInBounds_toArray, List.set_cons_zero, List.set_cons_succ]))
        (refine takeW (i := 8) (v := ?_) rfl (by kernel_rfl) (by kernel_rfl) (by kernel_rfl) (fun _ _ _ h => h) (by rfl) (by assumption) ?_ ?_; rotate_left; (intro W hW; (try dsimp only at hW); go_simp; try with_reducible rfl); (try simp only [Act.put, List.setIfInBounds_toArray, List.set_cons_zero, List.set_cons_succ]))
        (refine takeW (i := 9) (v := ?_) rfl (by kernel_rfl) (by kernel_rfl) (by kernel_rfl) (fun _ _ _ h => h) (by rfl) (by assumption) ?_ ?_; rotate_left; (intro W hW; (try dsimp only at hW); go_simp; try with_reducible rfl); (try simp only [Act.put, List.setIfInBounds_toArray, List.set_cons_zero, List.set_cons_succ]))
        (refine takeW (i := 10) rfl (by kernel_rfl) (by kernel_rfl) (by kernel_rfl) (fun _ _ _ h => h) (by rfl) (by assumption) (fun W hW => exec_load1 FL3 rfl rfl (own_cellL hW (j := 1) rfl)) ?_; (try simp only [Act.put, List.setIfInBounds_toArray, List.set_cons_zero, List.set_cons_succ]))
        (refine takeW (i := 11) (v := ?_) rfl (by kernel_rfl) (by kernel_rfl) (by kernel_rfl) (fun _ _ _ h => h) (by rfl) (by assumption) ?_ ?_; rotate_left; (intro W hW; (try dsimp only at hW); go_simp; try with_reducible rfl); (try simp only [Act.put, List.setIfInBounds_toArray, List.set_cons_zero, List.set_cons_succ]))
        (refine takeW (i := 12) (v := ?_) rfl (by kernel_rfl) (by kernel_rfl) (by kernel_rfl) (fun _ _ _ h => h) (by rfl) (by assumption) ?_ ?_; rotate_left; (intro W hW; (try dsimp only at hW); go_simp; try with_reducible rfl); (try simp only [Act.put, List.setIfInBounds_toArray, List.set_cons_zero, List.set_cons_succ]))
        (refine takeW (i := 13) rfl (by kernel_rfl) (by kernel_rfl) (by kernel_rfl) (fun _ _ _ h => h) (by rfl) (by assumption) (fun W hW => exec_load1 FL3 rfl rfl (own_cellL hW (j := 2) rfl)) ?_; (try simp only [Act.put, List.setIfInBounds_toArray, List.set_cons_zero, List.set_cons_succ]))
        (refine takeW (i := 14) (v := ?_) rfl (by kernel_rfl) (by kernel_rfl) (by kernel_rfl) (fun _ _ _ h => h) (by rfl) (by assumption) ?_ ?_; rotate_left; (intro W hW; (try dsimp only at hW); go_simp; try with_reducible rfl); (try simp only [Act.put, List.setIfInBounds_toArray, List.set_cons_zero, List.set_cons_succ]))
        (refine takeW (i := 15) (v := ?_) rfl (by kernel_rfl) (by kernel_rfl) (by kernel_rfl) (fun _ _ _ h => h) (by rfl) (by assumption) ?_ ?_; rotate_left; (intro W hW; (try dsimp only at hW); go_simp; try with_reducible rfl); (try simp only [Act.put, List.setIfInBounds_toArray, List.set_cons_zero, List.set_cons_succ]))
        (refine takeW (i := 16) rfl (by kernel_rfl) (by kernel_rfl) (by kernel_rfl) (fun _ _ _ h => h) (by rfl) (by assumption) (fun W hW => exec_load1 FL3 rfl rfl (own_cellL hW (j := 3) rfl)) ?_; (try simp only [Act.put, List.setIfInBounds_toArray, List.set_cons_zero, List.set_cons_succ]))
        (refine takeW (i := 17) (v := ?_) rfl (by kernel_rfl) (by kernel_rfl) (by kernel_rfl) (fun _ _ _ h => h) (by rfl) (by assumption) ?_ ?_; rotate_left; (intro W hW; (try dsimp only at hW); go_simp; try with_reducible rfl); (try simp only [Act.put, List.setIfInBounds_toArray, List.set_cons_zero, List.set_cons_succ]))
        (refine takeW (i := 18) (v := ?_) rfl (by kernel_rfl) (by kernel_rfl) (by kernel_rfl) (fun _ _ _ h => h) (by rfl) (by assumption) ?_ ?_; rotate_left; (intro W hW; (try dsimp only at hW); go_simp; try with_reducible rfl); (try simp only [Act.put, List.setIfInBounds_toArray, List.set_cons_zero, List.set_cons_succ]))
        (refine takeW (i := 19) rfl (by kernel_rfl) (by kernel_rfl) (by kernel_rfl) (fun _ _ _ h => h) (by rfl) (by assumption) (fun W hW => exec_load1 FL3 rfl rfl (own_cellL hW (j := 4) rfl)) ?_; (try simp only [Act.put, List.setIfInBounds_toArray, List.set_cons_zero, List.set_cons_succ]))
        (refine takeW (i := 20) (v := ?_) rfl (by kernel_rfl) (by kernel_rfl) (by kernel_rfl) (fun _ _ _ h => h) (by rfl) (by assumption) ?_ ?_; rotate_left; (intro W hW; (try dsimp only at hW); go_simp; try with_reducible rfl); (try simp only [Act.put, List.setIfInBounds_toArray, List.set_cons_zero, List.set_cons_succ]))
        (refine takeW (i := 21) rfl (by kernel_rfl) (by kernel_rfl) (by kernel_rfl) (fun _ _ _ h => h) (by rfl) (by assumption) (fun W hW => exec_bld46 (q := q) rfl rfl rfl rfl rfl rfl rfl) ?_; (try simp only [Act.put, List.setIfInBounds_toArray, List.set_cons_zero, List.set_cons_succ]))
        refine takeV2 (i := 4) (j := 22) rfl rfl (by kernel_rfl) (by rfl) (by rfl) (exec_load1 (v := .slice x.oa x.ops.length x.oc) FL24t rfl rfl (by first | exact HBD.out.list0 rfl | exact (HBD.out.alloc _).list0 rfl)) ((by first | exact HN5.out | exact ow_below HN5.out (below1 _ _))) (exec_sliceW E27 (by decide) rfl rfl rfl) (ow_below HN5.out (below1 _ _)) ?_ ?_
        · (try simp only [Act.put, List.setIfInBounds_toArray, List.set_cons_zero, List.set_cons_succ])
          have hHeld : W2.drew.ownsRow B 3 1 (.slice (some ⟨g5, 0, none⟩) 5 c5) 5 ([q.n, q.r, q.s, q.k, q.v].map (Value.int .i64)) := (by first | exact HN5.out | exact ow_below HN5.out (below1 _ _))
          refine takeV (i := 22) rfl (by kernel_rfl) (by rfl) (exec_sliceW E27 (by decide) rfl rfl rfl) (ow_below HN5.out (below1 _ _)) ?_
          (try simp only [Act.put, List.setIfInBounds_toArray, List.set_cons_zero, List.set_cons_succ])
          have hHeld : (W2.drew.alloc (.cells (encH q).toArray 46)).ownsRow B 3 1 (.slice (some ⟨g5, 0, none⟩) 5 c5) 5 ([q.n, q.r, q.s, q.k, q.v].map (Value.int .i64)) := ow_below HN5.out (below1 _ _)
          refine takeApp (i := 23) (m := 1) E27 rfl (by kernel_rfl) (by rfl) rfl HOWI.out (news := encH q) rfl (news_wide _ _ _) (encH_one _) rfl rfl (by have := HKL.out; omega) (by have := HWC.out; simp at this ⊢; omega) ?_
          intro v9 W9 ho9 hg9 hpl
          obtain ⟨a9, c9, rfl, -⟩ := owns_shape ho9
          have HBX9 : Hid (Blk W9 b 27 (encSc x).toArray) := Lib.hid ((HBD.out.alloc _).fr (Fr.grownO hg9) (fun e => own_blk_ne HOWI.out (HBD.out.alloc _) (by decide) e))
          have HN9 : Hid (W9.ownsRow B 3 1 (.slice (some ⟨g5, 0, none⟩) 5 c5) 5 ([q.n, q.r, q.s, q.k, q.v].map (Value.int .i64))) := Lib.hid (own_fr (ow_below HN5.out (below1 _ _)) (Fr.grownO hg9) (fun g hg e => own_own (ow_below HN5.out (below1 _ _)) HOWI.out (by decide) g hg e))
          have HOX9 := Lib.hid (OwnS.addOp (HOD.out.below (below1 _ _)) hg9 ho9 ⟨ow_below HBY.out.1 (below1 _ _), HBY.out.2⟩)
          have HB9 := Lib.hid ((HBW.out.drew.alloc HWC.out _).grown hg9 (by have := HWC.out; simp at this ⊢; omega) (fun k hk => (HOWI.out.lt k hk).1))
          clear ho9 hg9 hpl
          refine ⟨HN9.out, ?_⟩
          (try simp only [Act.put, List.setIfInBounds_toArray, List.set_cons_zero, List.set_cons_succ])
          have hHeld : W9.ownsRow B 3 1 (.slice (some ⟨g5, 0, none⟩) 5 c5) 5 ([q.n, q.r, q.s, q.k, q.v].map (Value.int .i64)) := HN9.out
          (refine takeW (i := 24) (v := ?_) rfl (by kernel_rfl) (by kernel_rfl) (by kernel_rfl) (fun _ _ _ h => h) (by rfl) (by assumption) ?_ ?_; rotate_left; (intro W hW; (try dsimp only at hW); go_simp; try with_reducible rfl); (try simp only [Act.put, List.setIfInBounds_toArray, List.set_cons_zero, List.set_cons_succ]))
          (refine takeW (i := 25) (v := ?_) rfl (by kernel_rfl) (by kernel_rfl) (by kernel_rfl) (fun _ _ _ h => h) (by rfl) (by assumption) ?_ ?_; rotate_left; (intro W hW; (try dsimp only at hW); go_simp; try with_reducible rfl); (try simp only [Act.put, List.setIfInBounds_toArray, List.set_cons_zero, List.set_cons_succ]))
          refine takeVs (i := 26) rfl (by kernel_rfl) (by rfl) (exec_store1 FL24t rfl rfl rfl rfl rfl (HBX9.out.list0 rfl) (HBX9.out.frozen 6)) (own_fr HN9.out (Fr.setCell _ _ _) (fun g hg e => own_apart HN9.out HBX9.out (by decide) g hg e)) ?_
          have hHeld : (W9.setCell ⟨b, 6, none⟩ (.slice a9 (x.ops.length + 1) c9)).ownsRow B 3 1 (.slice (some ⟨g5, 0, none⟩) 5 c5) 5 ([q.n, q.r, q.s, q.k, q.v].map (Value.int .i64)) := own_fr HN9.out (Fr.setCell _ _ _) (fun g hg e => own_apart HN9.out HBX9.out (by decide) g hg e)
          refine wpAnyH_done (by kernel_rfl) ?_ _
          clear hHeld
          have HBXZ : Hid (Blk (W9.setCell ⟨b, 6, none⟩ (.slice a9 (x.ops.length + 1) c9)) b 27 (encSc { x with oa := a9, oc := c9, ops := x.ops ++ [q] }).toArray) := Lib.hid (by have h := HBX9.out.setL 6 (.slice a9 (x.ops.length + 1) c9); have e : (encSc x).set 6 (.slice a9 (x.ops.length + 1) c9) = encSc { x with oa := a9, oc := c9, ops := x.ops ++ [q] } := (by simp [encSc]); rw [e] at h; exact h)
          have HOXZ : Hid (OwnS B (W9.setCell ⟨b, 6, none⟩ (.slice a9 (x.ops.length + 1) c9)) { x with oa := a9, oc := c9, ops := x.ops ++ [q] }) := Lib.hid (HOX9.out.set HBX9.out)
          have HBZ : Hid (Below B W (W9.setCell ⟨b, 6, none⟩ (.slice a9 (x.ops.length + 1) c9))) := Lib.hid (HB9.out.setCell (p := ⟨b, 6, none⟩) HBb.out _)
          clear HBX9 HOX9 HB9 HN9
          go_wp2
          exact HPG.out _ { x with oa := a9, oc := c9, ops := x.ops ++ [q] } HBZ.out (HRN.out.trans (by simp [Sc.k])) HBXZ.out HOXZ.out
        · (try simp only [Act.put, List.setIfInBounds_toArray, List.set_cons_zero, List.set_cons_succ])
          have hHeld : (W2.drew.alloc (.cells (encH q).toArray 46)).ownsRow B 3 1 (.slice (some ⟨g5, 0, none⟩) 5 c5) 5 ([q.n, q.r, q.s, q.k, q.v].map (Value.int .i64)) := ow_below HN5.out (below1 _ _)
          refine takeV (i := 4) rfl (by kernel_rfl) (by rfl) (exec_load1 (v := .slice x.oa x.ops.length x.oc) FL24t rfl rfl (by first | exact HBD.out.list0 rfl | exact (HBD.out.alloc _).list0 rfl)) ((by first | exact HN5.out | exact ow_below HN5.out (below1 _ _))) ?_
          (try simp only [Act.put, List.setIfInBounds_toArray, List.set_cons_zero, List.set_cons_succ])
          have hHeld : (W2.drew.alloc (.cells (encH q).toArray 46)).ownsRow B 3 1 (.slice (some ⟨g5, 0, none⟩) 5 c5) 5 ([q.n, q.r, q.s, q.k, q.v].map (Value.int .i64)) := (by first | exact HN5.out | exact ow_below HN5.out (below1 _ _))
          refine takeApp (i := 23) (m := 1) E27 rfl (by kernel_rfl) (by rfl) rfl HOWI.out (news := encH q) rfl (news_wide _ _ _) (encH_one _) rfl rfl (by have := HKL.out; omega) (by have := HWC.out; simp at this ⊢; omega) ?_
          intro v9 W9 ho9 hg9 hpl
          obtain ⟨a9, c9, rfl, -⟩ := owns_shape ho9
          have HBX9 : Hid (Blk W9 b 27 (encSc x).toArray) := Lib.hid ((HBD.out.alloc _).fr (Fr.grownO hg9) (fun e => own_blk_ne HOWI.out (HBD.out.alloc _) (by decide) e))
          have HN9 : Hid (W9.ownsRow B 3 1 (.slice (some ⟨g5, 0, none⟩) 5 c5) 5 ([q.n, q.r, q.s, q.k, q.v].map (Value.int .i64))) := Lib.hid (own_fr (ow_below HN5.out (below1 _ _)) (Fr.grownO hg9) (fun g hg e => own_own (ow_below HN5.out (below1 _ _)) HOWI.out (by decide) g hg e))
          have HOX9 := Lib.hid (OwnS.addOp (HOD.out.below (below1 _ _)) hg9 ho9 ⟨ow_below HBY.out.1 (below1 _ _), HBY.out.2⟩)
          have HB9 := Lib.hid ((HBW.out.drew.alloc HWC.out _).grown hg9 (by have := HWC.out; simp at this ⊢; omega) (fun k hk => (HOWI.out.lt k hk).1))
          clear ho9 hg9 hpl
          refine ⟨HN9.out, ?_⟩
          (try simp only [Act.put, List.setIfInBounds_toArray, List.set_cons_zero, List.set_cons_succ])
          have hHeld : W9.ownsRow B 3 1 (.slice (some ⟨g5, 0, none⟩) 5 c5) 5 ([q.n, q.r, q.s, q.k, q.v].map (Value.int .i64)) := HN9.out
          (refine takeW (i := 24) (v := ?_) rfl (by kernel_rfl) (by kernel_rfl) (by kernel_rfl) (fun _ _ _ h => h) (by rfl) (by assumption) ?_ ?_; rotate_left; (intro W hW; (try dsimp only at hW); go_simp; try with_reducible rfl); (try simp only [Act.put, List.setIfInBounds_toArray, List.set_cons_zero, List.set_cons_succ]))
          (refine takeW (i := 25) (v := ?_) rfl (by kernel_rfl) (by kernel_rfl) (by kernel_rfl) (fun _ _ _ h => h) (by rfl) (by assumption) ?_ ?_; rotate_left; (intro W hW; (try dsimp only at hW); go_simp; try with_reducible rfl); (try simp only [Act.put, List.setIfInBounds_toArray, List.set_cons_zero, List.set_cons_succ]))
          refine takeVs (i := 26) rfl (by kernel_rfl) (by rfl) (exec_store1 FL24t rfl rfl rfl rfl rfl (HBX9.out.list0 rfl) (HBX9.out.frozen 6)) (own_fr HN9.out (Fr.setCell _ _ _) (fun g hg e => own_apart HN9.out HBX9.out (by decide) g hg e)) ?_
          have hHeld : (W9.setCell ⟨b, 6, none⟩ (.slice a9 (x.ops.length + 1) c9)).ownsRow B 3 1 (.slice (some ⟨g5, 0, none⟩) 5 c5) 5 ([q.n, q.r, q.s, q.k, q.v].map (Value.int .i64)) := own_fr HN9.out (Fr.setCell _ _ _) (fun g hg e => own_apart HN9.out HBX9.out (by decide) g hg e)
          refine wpAnyH_done (by kernel_rfl) ?_ _
          clear hHeld
          have HBXZ : Hid (Blk (W9.setCell ⟨b, 6, none⟩ (.slice a9 (x.ops.length + 1) c9)) b 27 (encSc { x with oa := a9, oc := c9, ops := x.ops ++ [q] }).toArray) := Lib.hid (by have h := HBX9.out.setL 6 (.slice a9 (x.ops.length + 1) c9); have e : (encSc x).set 6 (.slice a9 (x.ops.length + 1) c9) = encSc { x with oa := a9, oc := c9, ops := x.ops ++ [q] } := (by simp [encSc]); rw [e] at h; exact h)
          have HOXZ : Hid (OwnS B (W9.setCell ⟨b, 6, none⟩ (.slice a9 (x.ops.length + 1) c9)) { x with oa := a9, oc := c9, ops := x.ops ++ [q] }) := Lib.hid (HOX9.out.set HBX9.out)
          have HBZ : Hid (Below B W (W9.setCell ⟨b, 6, none⟩ (.slice a9 (x.ops.length + 1) c9))) := Lib.hid (HB9.out.setCell (p := ⟨b, 6, none⟩) HBb.out _)
          clear HBX9 HOX9 HB9 HN9
          go_wp2
          exact HPG.out _ { x with oa := a9, oc := c9, ops := x.ops ++ [q] } HBZ.out (HRN.out.trans (by simp [Sc.k])) HBXZ.out HOXZ.out
  | false =>
    have HN1 : Hid (¬ (w1 = wOp ∧ (w1 :: ws).length = 7 ∧ x.k.fts = [])) := by
      rintro ⟨e1, e2, e3⟩
      have q1 : p1 = true := by rw [← HP1.out, decide_eq_true e1]
      have q2 : p2 = true := by rw [← HP2.out, beq_iff_eq]; have := HWN.out; omega
      have q3 : p3 = true := by
        have e4 : x.faults = [] := List.map_eq_nil_iff.1 e3
        rw [← HP3.out, e4]; rfl
      have := HCB.out
      rw [q1, q2, q3] at this
      cases this
    clear c7
    go_upto_region 8 with fail
    go_cut [74] from 75 to 84 (fun s wx => s = .bool cf ∧ wx = W)
    case first =>
      cases f1 with
      | false =>
        go_wp2_with (first | ((with_reducible show wpList _ _ _ (Oper.mk (some 77) _ _ _ _ _ :: _) _ _); refine wpList_val rfl (exec_load1 (v := strV w1) FL9 rfl rfl c0) ?_) | ((with_reducible show wpList _ _ _ (Oper.mk (some 78) _ _ _ _ _ :: _) _ _); refine wpList_val rfl (exec_eqB (y := wFault) HF1.out rfl rfl rfl) ?_))
        go_meet
        exact ⟨by rw [← HCF.out]; rfl, rfl⟩
      | true =>
        cases f2 with
        | false =>
          have hz : ¬ ((wn : Int) = 8) := by simpa using hf2
          go_wp2_with (first | ((with_reducible show wpList _ _ _ (Oper.mk (some 77) _ _ _ _ _ :: _) _ _); refine wpList_val rfl (exec_load1 (v := strV w1) FL9 rfl rfl c0) ?_) | ((with_reducible show wpList _ _ _ (Oper.mk (some 78) _ _ _ _ _ :: _) _ _); refine wpList_val rfl (exec_eqB (y := wFault) HF1.out rfl rfl rfl) ?_))
          go_meet
          exact ⟨by rw [← HCF.out]; rfl, rfl⟩
        | true =>
          have hz : (wn : Int) = 8 := by simpa using hf2
          go_wp2_with (first | ((with_reducible show wpList _ _ _ (Oper.mk (some 77) _ _ _ _ _ :: _) _ _); refine wpList_val rfl (exec_load1 (v := strV w1) FL9 rfl rfl c0) ?_) | ((with_reducible show wpList _ _ _ (Oper.mk (some 78) _ _ _ _ _ :: _) _ _); refine wpList_val rfl (exec_eqB (y := wFault) HF1.out rfl rfl rfl) ?_))
          go_meet
          exact ⟨by rw [← HCF.out]; rfl, rfl⟩
    case rest =>
    obtain ⟨rfl, hwc2⟩ := hcut
    replace hwc2 := hwc2.symm
    subst hwc2
    clear hf2
    cases cf with
    | true =>
      have hq1 := HCF.out
      simp only [Bool.and_eq_true] at hq1
      obtain ⟨q1, q2⟩ := hq1
      have e1 : w1 = wFault := of_decide_eq_true (HF1.out.trans q1)
      have e2 : (w1 :: ws).length = 8 := by have := HF2.out.trans q2; have h := HWN.out; simp at this; omega
      obtain ⟨v0, v1, v2, v3, v4, v5, v6, v7, hws⟩ := words8 e2
      simp only [List.cons.injEq] at hws
      obtain ⟨rfl, rfl⟩ := hws
      obtain rfl : wn = 8 := by have := HWN.out; simp at this; exact this
      subst e1
      obtain ⟨v31, hrun, hrd⟩ := run_slice_from (P := Tryz.prog) (t := 47) (by kernel_rfl) (fun W => by rw [show Tryz.prog.elem 47 = 9 by kernel_rfl]; exact Tryz.sizeOf9 W) HW.out (k := 1) (by simp) .i64
      have HRUN : Hid (∀ X, (Instr.sliceAt 47 (.slice (some ⟨gw, off, none⟩) 8 kc) (some (.int .i64 1)) none none).run Tryz.prog X = .ok v31 X) := hrun
      have HWT : Hid (Wds W v31 [v1, v2, v3, v4, v5, v6, v7]) := Lib.hid (by have := hrd W HW.out; simpa using this)
      have HCP := Lib.hid (parseAll_any [v1, v2, v3, v4, v5, v6, v7] v31 W HWT.out (fun y hy => HLW.out y (List.mem_cons_of_mem _ hy)) (by simp))
      clear hrun hrd HWT e2 q1 q2 c0
      go_wp2_with ((with_reducible show wpList _ _ _ (Oper.mk (some 86) _ _ _ _ _ :: _) _ _); refine wpList_val rfl (exec_slice rfl rfl rfl rfl (HRUN.out _)) ?_)
      refine HCP.out.mono ?_
      rintro e W2 ⟨⟨v5', b6, rfl, hg, hbad⟩, hb1⟩
      have HG := Lib.hid hg
      have HBD := Lib.hid hbad
      have HBZ1 := Lib.hid hb1
      have HBW := Lib.hid (HBZ1.out.mono HBs.out)
      clear hg hbad hb1 HCP HRUN
      cases b6 with
      | false =>
        have HRN : Hid (tailS x.k [wFault, v1, v2, v3, v4, v5, v6, v7] = none) := by
          refine Lib.hid (tailS_ftn ?_)
          cases h : numsS [v1, v2, v3, v4, v5, v6, v7] with
          | none => rfl
          | some l => have := (HG.out l h).1; cases this
        clear HG HBD
        go_wp2
        exact HPB.out _ HBW.out HRN.out
      | true =>
        obtain ⟨l, hl⟩ : ∃ l, numsS [v1, v2, v3, v4, v5, v6, v7] = some l := by
          cases h : numsS [v1, v2, v3, v4, v5, v6, v7] with
          | none => have := (HBD.out h).1; cases this
          | some l => exact ⟨l, rfl⟩
        obtain ⟨n0, n1, n2, n3, n4, n5, n6, rfl⟩ := len7 (numsS_len hl)
        obtain ⟨g5, c5, e5, -, -, -, -, -⟩ := own_cellsV (HG.out _ hl).2 (by simp)
        subst e5
        have hn5 := (HG.out _ hl).2
        obtain ⟨q, hq⟩ : ∃ q : Fa, q = ⟨n0, n1, n2, n3, n4, n5, n6⟩ := ⟨_, rfl⟩
        have HRN : Hid (tailS x.k [wFault, v1, v2, v3, v4, v5, v6, v7] = some { x.k with fts := x.k.fts ++ [q.fk] }) := by
          refine Lib.hid ?_
          rw [tailS_fts hl, hq]
          rfl
        obtain rfl : n0 = q.k := by rw [hq]
        obtain rfl : n1 = q.n := by rw [hq]
        obtain rfl : n2 = q.c := by rw [hq]
        obtain rfl : n3 = q.r := by rw [hq]
        obtain rfl : n4 = q.s := by rw [hq]
        obtain rfl : n5 = q.a := by rw [hq]
        obtain rfl : n6 = q.b := by rw [hq]
        have HN5 : Hid (W2.drew.ownsRow B 3 1 (.slice (some ⟨g5, 0, none⟩) 7 c5) 7 ([q.k, q.n, q.c, q.r, q.s, q.a, q.b].map (Value.int .i64))) := Lib.hid (ow_below (own_le hn5 HBs.out) (Below.refl _ _).drew)
        have HBDX : Hid (Blk W2.drew b 27 (encSc x).toArray) := Lib.hid ((HBX.out.keep HBZ1.out).keep (Below.refl _ _).drew)
        have HOD := Lib.hid (HOX.out.below HBZ1.out).drew
        have HWC : Hid (B ≤ W2.drew.heap.size) := Lib.hid (Nat.le_trans HBs.out HBW.out.size)
        have HOWI : Hid ((W2.drew.alloc (.cells (encF q).toArray 81)).ownsRow B 81 7 (.slice x.fa x.faults.length x.fc) x.faults.length (x.faults.flatMap encF)) := Lib.hid (ow_below HOD.out.fts (below1 _ _))
        have HKL := HFL
        clear hl hn5 hq HG HBD
        have HBD := HBDX
        clear HBDX
        go_upto_region 12 with fail
        refine wp_region_held_drew (S := (fun X : World => X.ownsRow B 3 1 (.slice (some ⟨g5, 0, none⟩) 7 c5) 7 ([q.k, q.n, q.c, q.r, q.s, q.a, q.b].map (Value.int .i64)))) (by kernel_rfl) HN5.out (fun hHeld => ?_)
        (refine takeW (i := 0) (v := ?_) rfl (by kernel_rfl) (by kernel_rfl) (by kernel_rfl) (fun _ _ _ h => h) (by rfl) (by assumption) ?_ ?_; rotate_left; (intro W hW; (try dsimp only at hW); go_simp; try with_reducible rfl); (try simp only [Act.put, List.setIfInBounds_toArray, List.set_cons_zero, List.set_cons_succ]))
        (refine takeW (i := 1) (v := ?_) rfl (by kernel_rfl) (by kernel_rfl) (by kernel_rfl) (fun _ _ _ h => h) (by rfl) (by assumption) ?_ ?_; rotate_left; (intro W hW; (try dsimp only at hW); go_simp; try with_reducible rfl); (try simp only [Act.put, List.setIfInBounds_toArray, List.set_cons_zero, List.set_cons_succ]))
        (refine takeW (i := 2) (v := ?_) rfl (by kernel_rfl) (by kernel_rfl) (by kernel_rfl) (fun _ _ _ h => h) (by rfl) (by assumption) ?_ ?_; rotate_left; (intro W hW; (try dsimp only at hW); go_simp; try with_reducible rfl); (try simp only [Act.put, List.setIfInBounds_toArray, List.set_cons_zero, List.set_cons_succ]))
        (refine takeW (i := 3) (v := ?_) rfl (by kernel_rfl) (by kernel_rfl) (by kernel_rfl) (fun _ _ _ h => h) (by rfl) (by assumption) ?_ ?_; rotate_left; (intro W hW; (try dsimp only at hW); go_simp; try with_reducible rfl); (try simp only [Act.put, List.setIfInBounds_toArray, List.set_cons_zero, List.set_cons_succ]))
        (refine takeW (i := 5) (v := ?_) rfl (by kernel_rfl) (by kernel_rfl) (by kernel_rfl) (fun _ _ _ h => h) (by rfl) (by assumption) ?_ ?_; rotate_left; (intro W hW; (try dsimp only at hW); go_simp; try with_reducible rfl); (try simp only [Act.put, List.setIfInBounds_toArray, List.set_cons_zero, List.set_cons_succ]))
        (refine takeW (i := 6) (v := ?_) rfl (by kernel_rfl) (by kernel_rfl) (by kernel_rfl) (fun _ _ _ h => h) (by rfl) (by assumption) ?_ ?_; rotate_left; (intro W hW; (try dsimp only at hW); go_simp; try with_reducible rfl); (try simp only [Act.put, List.setIfInBounds_toArray, List.set_cons_zero, List.set_cons_succ]))
        (refine takeW (i := 7) rfl (by kernel_rfl) (by kernel_rfl) (by kernel_rfl) (fun _ _ _ h => h) (by rfl) (by assumption) (fun W hW => exec_load1 FL3 rfl rfl (own_cellL hW (j := 0) rfl)) ?_; (try simp only [Act.put, List.setIfInBounds_toArray, List.set_cons_zero, List.set_cons_succ]))
        (refine takeW (i := 8) (v := ?_) rfl (by kernel_rfl) (by kernel_rfl) (by kernel_rfl) (fun _ _ _ h => h) (by rfl) (by assumption) ?_ ?_; rotate_left; (intro W hW; (try dsimp only at hW); go_simp; try with_reducible rfl); (try simp only [Act.put, List.setIfInBounds_toArray, List.set_cons_zero, List.set_cons_succ]))
        (refine takeW (i := 9) (v := ?_) rfl (by kernel_rfl) (by kernel_rfl) (by kernel_rfl) (fun _ _ _ h => h) (by rfl) (by assumption) ?_ ?_; rotate_left; (intro W hW; (try dsimp only at hW); go_simp; try with_reducible rfl); (try simp only [Act.put, List.setIfInBounds_toArray, List.set_cons_zero, List.set_cons_succ]))
        (refine takeW (i := 10) rfl (by kernel_rfl) (by kernel_rfl) (by kernel_rfl) (fun _ _ _ h => h) (by rfl) (by assumption) (fun W hW => exec_load1 FL3 rfl rfl (own_cellL hW (j := 1) rfl)) ?_; (try simp only [Act.put, List.setIfInBounds_toArray, List.set_cons_zero, List.set_cons_succ]))
        (refine takeW (i := 11) (v := ?_) rfl (by kernel_rfl) (by kernel_rfl) (by kernel_rfl) (fun _ _ _ h => h) (by rfl) (by assumption) ?_ ?_; rotate_left; (intro W hW; (try dsimp only at hW); go_simp; try with_reducible rfl); (try simp only [Act.put, List.setIfInBounds_toArray, List.set_cons_zero, List.set_cons_succ]))
        (refine takeW (i := 12) (v := ?_) rfl (by kernel_rfl) (by kernel_rfl) (by kernel_rfl) (fun _ _ _ h => h) (by rfl) (by assumption) ?_ ?_; rotate_left; (intro W hW; (try dsimp only at hW); go_simp; try with_reducible rfl); (try simp only [Act.put, List.setIfInBounds_toArray, List.set_cons_zero, List.set_cons_succ]))
        (refine takeW (i := 13) rfl (by kernel_rfl) (by kernel_rfl) (by kernel_rfl) (fun _ _ _ h => h) (by rfl) (by assumption) (fun W hW => exec_load1 FL3 rfl rfl (own_cellL hW (j := 2) rfl)) ?_; (try simp only [Act.put, List.setIfInBounds_toArray, List.set_cons_zero, List.set_cons_succ]))
        (refine takeW (i := 14) (v := ?_) rfl (by kernel_rfl) (by kernel_rfl) (by kernel_rfl) (fun _ _ _ h => h) (by rfl) (by assumption) ?_ ?_; rotate_left; (intro W hW; (try dsimp only at hW); go_simp; try with_reducible rfl); (try simp only [Act.put, List.setIfInBounds_toArray, List.set_cons_zero, List.set_cons_succ]))
        (refine takeW (i := 15) (v := ?_) rfl (by kernel_rfl) (by kernel_rfl) (by kernel_rfl) (fun _ _ _ h => h) (by rfl) (by assumption) ?_ ?_; rotate_left; (intro W hW; (try dsimp only at hW); go_simp; try with_reducible rfl); (try simp only [Act.put, List.setIfInBounds_toArray, List.set_cons_zero, List.set_cons_succ]))
        (refine takeW (i := 16) rfl (by kernel_rfl) (by kernel_rfl) (by kernel_rfl) (fun _ _ _ h => h) (by rfl) (by assumption) (fun W hW => exec_load1 FL3 rfl rfl (own_cellL hW (j := 3) rfl)) ?_; (try simp only [Act.put, List.setIfInBounds_toArray, List.set_cons_zero, List.set_cons_succ]))
        (refine takeW (i := 17) (v := ?_) rfl (by kernel_rfl) (by kernel_rfl) (by kernel_rfl) (fun _ _ _ h => h) (by rfl) (by assumption) ?_ ?_; rotate_left; (intro W hW; (try dsimp only at hW); go_simp; try with_reducible rfl); (try simp only [Act.put, List.setIfInBounds_toArray, List.set_cons_zero, List.set_cons_succ]))
        (refine takeW (i := 18) (v := ?_) rfl (by kernel_rfl) (by kernel_rfl) (by kernel_rfl) (fun _ _ _ h => h) (by rfl) (by assumption) ?_ ?_; rotate_left; (intro W hW; (try dsimp only at hW); go_simp; try with_reducible rfl); (try simp only [Act.put, List.setIfInBounds_toArray, List.set_cons_zero, List.set_cons_succ]))
        (refine takeW (i := 19) rfl (by kernel_rfl) (by kernel_rfl) (by kernel_rfl) (fun _ _ _ h => h) (by rfl) (by assumption) (fun W hW => exec_load1 FL3 rfl rfl (own_cellL hW (j := 4) rfl)) ?_; (try simp only [Act.put, List.setIfInBounds_toArray, List.set_cons_zero, List.set_cons_succ]))
        (refine takeW (i := 20) (v := ?_) rfl (by kernel_rfl) (by kernel_rfl) (by kernel_rfl) (fun _ _ _ h => h) (by rfl) (by assumption) ?_ ?_; rotate_left; (intro W hW; (try dsimp only at hW); go_simp; try with_reducible rfl); (try simp only [Act.put, List.setIfInBounds_toArray, List.set_cons_zero, List.set_cons_succ]))
        (refine takeW (i := 21) (v := ?_) rfl (by kernel_rfl) (by kernel_rfl) (by kernel_rfl) (fun _ _ _ h => h) (by rfl) (by assumption) ?_ ?_; rotate_left; (intro W hW; (try dsimp only at hW); go_simp; try with_reducible rfl); (try simp only [Act.put, List.setIfInBounds_toArray, List.set_cons_zero, List.set_cons_succ]))
        (refine takeW (i := 22) rfl (by kernel_rfl) (by kernel_rfl) (by kernel_rfl) (fun _ _ _ h => h) (by rfl) (by assumption) (fun W hW => exec_load1 FL3 rfl rfl (own_cellL hW (j := 5) rfl)) ?_; (try simp only [Act.put, List.setIfInBounds_toArray, List.set_cons_zero, List.set_cons_succ]))
        (refine takeW (i := 23) (v := ?_) rfl (by kernel_rfl) (by kernel_rfl) (by kernel_rfl) (fun _ _ _ h => h) (by rfl) (by assumption) ?_ ?_; rotate_left; (intro W hW; (try dsimp only at hW); go_simp; try with_reducible rfl); (try simp only [Act.put, List.setIfInBounds_toArray, List.set_cons_zero, List.set_cons_succ]))
        (refine takeW (i := 24) (v := ?_) rfl (by kernel_rfl) (by kernel_rfl) (by kernel_rfl) (fun _ _ _ h => h) (by rfl) (by assumption) ?_ ?_; rotate_left; (intro W hW; (try dsimp only at hW); go_simp; try with_reducible rfl); (try simp only [Act.put, List.setIfInBounds_toArray, List.set_cons_zero, List.set_cons_succ]))
        (refine takeW (i := 25) rfl (by kernel_rfl) (by kernel_rfl) (by kernel_rfl) (fun _ _ _ h => h) (by rfl) (by assumption) (fun W hW => exec_load1 FL3 rfl rfl (own_cellL hW (j := 6) rfl)) ?_; (try simp only [Act.put, List.setIfInBounds_toArray, List.set_cons_zero, List.set_cons_succ]))
        (refine takeW (i := 26) rfl (by kernel_rfl) (by kernel_rfl) (by kernel_rfl) (fun _ _ _ h => h) (by rfl) (by assumption) (fun W hW => exec_bld81 (q := q) rfl rfl rfl rfl rfl rfl rfl rfl) ?_; (try simp only [Act.put, List.setIfInBounds_toArray, List.set_cons_zero, List.set_cons_succ]))
        refine takeV2 (i := 4) (j := 27) rfl rfl (by kernel_rfl) (by rfl) (by rfl) (exec_load1 (v := .slice x.fa x.faults.length x.fc) FL25t rfl rfl (by first | exact HBD.out.list0 rfl | exact (HBD.out.alloc _).list0 rfl)) ((by first | exact HN5.out | exact ow_below HN5.out (below1 _ _))) (exec_sliceW E25t (by decide) rfl rfl rfl) (ow_below HN5.out (below1 _ _)) ?_ ?_
        · (try simp only [Act.put, List.setIfInBounds_toArray, List.set_cons_zero, List.set_cons_succ])
          have hHeld : W2.drew.ownsRow B 3 1 (.slice (some ⟨g5, 0, none⟩) 7 c5) 7 ([q.k, q.n, q.c, q.r, q.s, q.a, q.b].map (Value.int .i64)) := (by first | exact HN5.out | exact ow_below HN5.out (below1 _ _))
          refine takeV (i := 27) rfl (by kernel_rfl) (by rfl) (exec_sliceW E25t (by decide) rfl rfl rfl) (ow_below HN5.out (below1 _ _)) ?_
          (try simp only [Act.put, List.setIfInBounds_toArray, List.set_cons_zero, List.set_cons_succ])
          have hHeld : (W2.drew.alloc (.cells (encF q).toArray 81)).ownsRow B 3 1 (.slice (some ⟨g5, 0, none⟩) 7 c5) 7 ([q.k, q.n, q.c, q.r, q.s, q.a, q.b].map (Value.int .i64)) := ow_below HN5.out (below1 _ _)
          refine takeApp (i := 28) (m := 1) E25t rfl (by kernel_rfl) (by rfl) rfl HOWI.out (news := encF q) rfl (news_wide _ _ _) (encF_one _) rfl rfl (by have := HKL.out; omega) (by have := HWC.out; simp at this ⊢; omega) ?_
          intro v9 W9 ho9 hg9 hpl
          obtain ⟨a9, c9, rfl, -⟩ := owns_shape ho9
          have HBX9 : Hid (Blk W9 b 27 (encSc x).toArray) := Lib.hid ((HBD.out.alloc _).fr (Fr.grownO hg9) (fun e => own_blk_ne HOWI.out (HBD.out.alloc _) (by decide) e))
          have HN9 : Hid (W9.ownsRow B 3 1 (.slice (some ⟨g5, 0, none⟩) 7 c5) 7 ([q.k, q.n, q.c, q.r, q.s, q.a, q.b].map (Value.int .i64))) := Lib.hid (own_fr (ow_below HN5.out (below1 _ _)) (Fr.grownO hg9) (fun g hg e => own_own (ow_below HN5.out (below1 _ _)) HOWI.out (by decide) g hg e))
          have HOX9 := Lib.hid (OwnS.addFt (HOD.out.below (below1 _ _)) hg9 ho9)
          have HB9 := Lib.hid ((HBW.out.drew.alloc HWC.out _).grown hg9 (by have := HWC.out; simp at this ⊢; omega) (fun k hk => (HOWI.out.lt k hk).1))
          clear ho9 hg9 hpl
          refine ⟨HN9.out, ?_⟩
          (try simp only [Act.put, List.setIfInBounds_toArray, List.set_cons_zero, List.set_cons_succ])
          have hHeld : W9.ownsRow B 3 1 (.slice (some ⟨g5, 0, none⟩) 7 c5) 7 ([q.k, q.n, q.c, q.r, q.s, q.a, q.b].map (Value.int .i64)) := HN9.out
          (refine takeW (i := 29) (v := ?_) rfl (by kernel_rfl) (by kernel_rfl) (by kernel_rfl) (fun _ _ _ h => h) (by rfl) (by assumption) ?_ ?_; rotate_left; (intro W hW; (try dsimp only at hW); go_simp; try with_reducible rfl); (try simp only [Act.put, List.setIfInBounds_toArray, List.set_cons_zero, List.set_cons_succ]))
          (refine takeW (i := 30) (v := ?_) rfl (by kernel_rfl) (by kernel_rfl) (by kernel_rfl) (fun _ _ _ h => h) (by rfl) (by assumption) ?_ ?_; rotate_left; (intro W hW; (try dsimp only at hW); go_simp; try with_reducible rfl); (try simp only [Act.put, List.setIfInBounds_toArray, List.set_cons_zero, List.set_cons_succ]))
          refine takeVs (i := 31) rfl (by kernel_rfl) (by rfl) (exec_store1 FL25t rfl rfl rfl rfl rfl (HBX9.out.list0 rfl) (HBX9.out.frozen 7)) (own_fr HN9.out (Fr.setCell _ _ _) (fun g hg e => own_apart HN9.out HBX9.out (by decide) g hg e)) ?_
          have hHeld : (W9.setCell ⟨b, 7, none⟩ (.slice a9 (x.faults.length + 1) c9)).ownsRow B 3 1 (.slice (some ⟨g5, 0, none⟩) 7 c5) 7 ([q.k, q.n, q.c, q.r, q.s, q.a, q.b].map (Value.int .i64)) := own_fr HN9.out (Fr.setCell _ _ _) (fun g hg e => own_apart HN9.out HBX9.out (by decide) g hg e)
          refine wpAnyH_done (by kernel_rfl) ?_ _
          clear hHeld
          have HBXZ : Hid (Blk (W9.setCell ⟨b, 7, none⟩ (.slice a9 (x.faults.length + 1) c9)) b 27 (encSc { x with fa := a9, fc := c9, faults := x.faults ++ [q] }).toArray) := Lib.hid (by have h := HBX9.out.setL 7 (.slice a9 (x.faults.length + 1) c9); have e : (encSc x).set 7 (.slice a9 (x.faults.length + 1) c9) = encSc { x with fa := a9, fc := c9, faults := x.faults ++ [q] } := (by simp [encSc]); rw [e] at h; exact h)
          have HOXZ : Hid (OwnS B (W9.setCell ⟨b, 7, none⟩ (.slice a9 (x.faults.length + 1) c9)) { x with fa := a9, fc := c9, faults := x.faults ++ [q] }) := Lib.hid (HOX9.out.set HBX9.out)
          have HBZ : Hid (Below B W (W9.setCell ⟨b, 7, none⟩ (.slice a9 (x.faults.length + 1) c9))) := Lib.hid (HB9.out.setCell (p := ⟨b, 7, none⟩) HBb.out _)
          clear HBX9 HOX9 HB9 HN9
          go_wp2
          exact HPG.out _ { x with fa := a9, fc := c9, faults := x.faults ++ [q] } HBZ.out (HRN.out.trans (by simp [Sc.k])) HBXZ.out HOXZ.out
        · (try simp only [Act.put, List.setIfInBounds_toArray, List.set_cons_zero, List.set_cons_succ])
          have hHeld : (W2.drew.alloc (.cells (encF q).toArray 81)).ownsRow B 3 1 (.slice (some ⟨g5, 0, none⟩) 7 c5) 7 ([q.k, q.n, q.c, q.r, q.s, q.a, q.b].map (Value.int .i64)) := ow_below HN5.out (below1 _ _)
          refine takeV (i := 4) rfl (by kernel_rfl) (by rfl) (exec_load1 (v := .slice x.fa x.faults.length x.fc) FL25t rfl rfl (by first | exact HBD.out.list0 rfl | exact (HBD.out.alloc _).list0 rfl)) ((by first | exact HN5.out | exact ow_below HN5.out (below1 _ _))) ?_
          (try simp only [Act.put, List.setIfInBounds_toArray, List.set_cons_zero, List.set_cons_succ])
          have hHeld : (W2.drew.alloc (.cells (encF q).toArray 81)).ownsRow B 3 1 (.slice (some ⟨g5, 0, none⟩) 7 c5) 7 ([q.k, q.n, q.c, q.r, q.s, q.a, q.b].map (Value.int .i64)) := (by first | exact HN5.out | exact ow_below HN5.out (below1 _ _))
          refine takeApp (i := 28) (m := 1) E25t rfl (by kernel_rfl) (by rfl) rfl HOWI.out (news := encF q) rfl (news_wide _ _ _) (encF_one _) rfl rfl (by have := HKL.out; omega) (by have := HWC.out; simp at this ⊢; omega) ?_
          intro v9 W9 ho9 hg9 hpl
          obtain ⟨a9, c9, rfl, -⟩ := owns_shape ho9
          have HBX9 : Hid (Blk W9 b 27 (encSc x).toArray) := Lib.hid ((HBD.out.alloc _).fr (Fr.grownO hg9) (fun e => own_blk_ne HOWI.out (HBD.out.alloc _) (by decide) e))
          have HN9 : Hid (W9.ownsRow B 3 1 (.slice (some ⟨g5, 0, none⟩) 7 c5) 7 ([q.k, q.n, q.c, q.r, q.s, q.a, q.b].map (Value.int .i64))) := Lib.hid (own_fr (ow_below HN5.out (below1 _ _)) (Fr.grownO hg9) (fun g hg e => own_own (ow_below HN5.out (below1 _ _)) HOWI.out (by decide) g hg e))
          have HOX9 := Lib.hid (OwnS.addFt (HOD.out.below (below1 _ _)) hg9 ho9)
          have HB9 := Lib.hid ((HBW.out.drew.alloc HWC.out _).grown hg9 (by have := HWC.out; simp at this ⊢; omega) (fun k hk => (HOWI.out.lt k hk).1))
          clear ho9 hg9 hpl
          refine ⟨HN9.out, ?_⟩
          (try simp only [Act.put, List.setIfInBounds_toArray, List.set_cons_zero, List.set_cons_succ])
          have hHeld : W9.ownsRow B 3 1 (.slice (some ⟨g5, 0, none⟩) 7 c5) 7 ([q.k, q.n, q.c, q.r, q.s, q.a, q.b].map (Value.int .i64)) := HN9.out
          (refine takeW (i := 29) (v := ?_) rfl (by kernel_rfl) (by kernel_rfl) (by kernel_rfl) (fun _ _ _ h => h) (by rfl) (by assumption) ?_ ?_; rotate_left; (intro W hW; (try dsimp only at hW); go_simp; try with_reducible rfl); (try simp only [Act.put, List.setIfInBounds_toArray, List.set_cons_zero, List.set_cons_succ]))
          (refine takeW (i := 30) (v := ?_) rfl (by kernel_rfl) (by kernel_rfl) (by kernel_rfl) (fun _ _ _ h => h) (by rfl) (by assumption) ?_ ?_; rotate_left; (intro W hW; (try dsimp only at hW); go_simp; try with_reducible rfl); (try simp only [Act.put, List.setIfInBounds_toArray, List.set_cons_zero, List.set_cons_succ]))
          refine takeVs (i := 31) rfl (by kernel_rfl) (by rfl) (exec_store1 FL25t rfl rfl rfl rfl rfl (HBX9.out.list0 rfl) (HBX9.out.frozen 7)) (own_fr HN9.out (Fr.setCell _ _ _) (fun g hg e => own_apart HN9.out HBX9.out (by decide) g hg e)) ?_
          have hHeld : (W9.setCell ⟨b, 7, none⟩ (.slice a9 (x.faults.length + 1) c9)).ownsRow B 3 1 (.slice (some ⟨g5, 0, none⟩) 7 c5) 7 ([q.k, q.n, q.c, q.r, q.s, q.a, q.b].map (Value.int .i64)) := own_fr HN9.out (Fr.setCell _ _ _) (fun g hg e => own_apart HN9.out HBX9.out (by decide) g hg e)
          refine wpAnyH_done (by kernel_rfl) ?_ _
          clear hHeld
          have HBXZ : Hid (Blk (W9.setCell ⟨b, 7, none⟩ (.slice a9 (x.faults.length + 1) c9)) b 27 (encSc { x with fa := a9, fc := c9, faults := x.faults ++ [q] }).toArray) := Lib.hid (by have h := HBX9.out.setL 7 (.slice a9 (x.faults.length + 1) c9); have e : (encSc x).set 7 (.slice a9 (x.faults.length + 1) c9) = encSc { x with fa := a9, fc := c9, faults := x.faults ++ [q] } := (by simp [encSc]); rw [e] at h; exact h)
          have HOXZ : Hid (OwnS B (W9.setCell ⟨b, 7, none⟩ (.slice a9 (x.faults.length + 1) c9)) { x with fa := a9, fc := c9, faults := x.faults ++ [q] }) := Lib.hid (HOX9.out.set HBX9.out)
          have HBZ : Hid (Below B W (W9.setCell ⟨b, 7, none⟩ (.slice a9 (x.faults.length + 1) c9))) := Lib.hid (HB9.out.setCell (p := ⟨b, 7, none⟩) HBb.out _)
          clear HBX9 HOX9 HB9 HN9
          go_wp2
          exact HPG.out _ { x with fa := a9, fc := c9, faults := x.faults ++ [q] } HBZ.out (HRN.out.trans (by simp [Sc.k])) HBXZ.out HOXZ.out
    | false =>
      have HN2 : Hid (¬ (w1 = wFault ∧ (w1 :: ws).length = 8)) := by
        rintro ⟨e1, e2⟩
        have q1 : f1 = true := by rw [← HF1.out, decide_eq_true e1]
        have q2 : f2 = true := by rw [← HF2.out, beq_iff_eq]; have := HWN.out; omega
        have := HCF.out
        rw [q1, q2] at this
        cases this
      have HRN := Lib.hid (tailS_no HN1.out HN2.out)
      go_wp2
      exact HPB.out _ (Below.refl _ _) HRN.out
end Go.Proofs.YtkinhhkodaacjaaGreatDoor
