/- The program's Parse: a script out of a text. -/
import Derived.Test.YtkinhhkodaacjaaGreatDoorV6
import Derived.Test.YtkinhhkodaacjaaGreatDoorPl
namespace Go.Proofs.YtkinhhkodaacjaaGreatDoor
open Go.RowKit Go.Shelf
open Md

theorem results_cell3v {fn : Func} {a t s : Tmp} {ty : TypeId} {n : Nat} {w : World} {P : Program} {tmps : Array Value} (h : fn.results = #[.cell a ty, .tmp t, .tmp s]) (hw : Wide P ty n) {b : Nat} (hp : tmps.getD a undef = .pointer (some ⟨b, 0, none⟩)) {cs : List Value} (hl : cs.length = n)
    (hc : ∀ j u, cs[j]? = some u → w.cell? ⟨b, 0 + j, none⟩ = some u) {v u : Value} (hv : tmps.getD t undef = v) (hu : tmps.getD s undef = u) : (results fn tmps).run P w = .ok (.tuple #[.agg cs.toArray, v, u]) w := by
  subst hv hu
  have hld := run_loadW (P := P) hw hl hc
  have hp' : tmps[a]?.getD undef = .pointer (some ⟨b, 0, none⟩) := by simpa using hp
  unfold results
  simp [h, hp', asAddr, hld]
theorem exec_bld27z {w : World} {o : Oper} {a : Act} (ho : o.op = .build 27 #[]) : (execOp a.eval o).run Tryz.prog w = .ok (.value (.agg (encSc sc0).toArray)) w := by
  have hb : Tryz.prog.built 27 (#[] : Array (Nat × Value)).toList = some (encSc sc0).toArray := by kernel_rfl
  simp [execOp, ho, run_build w 27 #[] _ hb, Result.andThen]
theorem below_setRowP {B b : Nat} {w W : World} {cs : Array Value} (h : Below B w W) (hB : B ≤ b) : Below B w (W.setRow b cs) :=
  ⟨h.os, h.tape, h.output, by have := h.size; simpa [World.setRow] using this, fun j hj => by
    simp only [World.setRow, Array.getElem?_modify, if_neg (show ¬ b = j by omega)]
    exact h.block j hj⟩
def ParseP (t : List UInt8) (w : World) (e : Ending) (w' : World) : Prop :=
  Below w.heap.size w w' ∧ ∃ (y : Sc) (n : Nat) (c : Int), e = .returned (.tuple #[.agg (encSc y).toArray, .int .i64 (n : Int), .int .i64 c]) ∧ GoodSc w' y ∧ ((c = 0 ∧ n = 0 ∧ parseS t = (some y.k, 0)) ∨ (c = 160 ∧ y = sc0 ∧ parseS t = (none, n)))
theorem OwnS.read {B : Nat} {W : World} {y : Sc} {t : List UInt8} (h : OwnS B W y) (hp : parseS t = (some y.k, 0)) (ht : t.length ≤ 100000000) : GoodSc W y := by
  obtain ⟨e1, e2, _⟩ := print_parseS hp
  obtain ⟨l1, l2, l3, l4, l5, l6, l7, l8⟩ := printS_ge y.k
  rw [e1] at l1 l2 l3 l4 l5 l6 l7 l8
  have q6 : y.k.ops.length = y.ops.length := List.length_map _
  have q8 : y.k.fts.length = y.faults.length := List.length_map _
  have k1 : y.k.ups.length = y.ups.l.length := rfl
  have k2 : y.k.offs.length = y.offs.l.length := rfl
  have k3 : y.k.gates.length = y.gates.l.length := rfl
  have k4 : y.k.guards.length = y.guards.l.length := rfl
  have k5 : y.k.drifts.length = y.drifts.l.length := rfl
  exact h.good e2 ⟨by omega, by omega, by omega, by omega, by omega, by omega, fun o ho => by
    have := l7 o.ok (List.mem_map_of_mem ho)
    have e : o.ok.d.length = o.d.length := bytesOf_len _
    omega, by omega⟩
theorem good0 (W : World) : GoodSc W sc0 := (OwnS.zero 0 W).good ⟨fun k hk n hn => by
    match k, hk with
    | 0, _ => simp [headN, sc0, Sc.k] at hn; subst hn; exact ⟨by decide, by decide⟩
    | 1, _ => simp [headN, sc0, Sc.k] at hn
    | 2, _ => simp [headN, sc0, Sc.k] at hn
    | 3, _ => simp [headN, sc0, Sc.k] at hn
    | 4, _ => simp [headN, sc0, Sc.k] at hn
    | 5, _ => simp [headN, sc0, Sc.k] at hn, by simp [sc0, Sc.k], by simp [sc0, Sc.k]⟩ ⟨by simp [sc0], by simp [sc0], by simp [sc0], by simp [sc0], by simp [sc0], by simp [sc0], by simp [sc0], by simp [sc0]⟩
set_option maxRecDepth 100000 in
set_option maxHeartbeats 3200000 in
theorem parse_any (t : List UInt8) (w : World) (hm : MaxLen w) (ht : t.length ≤ 100000000) : Calls Tryz.prog 7 #[strV t] w (ParseP t w) := by
  obtain ⟨b5, hb5⟩ : ∃ b5, b5 = w.heap.size + 1 := ⟨_, rfl⟩
  obtain ⟨B, hB⟩ : ∃ B, B = w.heap.size + 1 := ⟨_, rfl⟩
  obtain ⟨b2, hb2⟩ : ∃ b2, b2 = w.heap.size := ⟨_, rfl⟩
  have HPF : Hid (∀ (X : World) (n : Nat), Below w.heap.size w X → parseS t = (none, n) → Blk X b2 27 (encSc sc0).toArray → ParseP t w (.returned (.tuple #[.agg (encSc sc0).toArray, .int .i64 (n : Int), .int .i64 160])) (X.setRow b2 (encSc sc0).toArray)) := fun X n h1 h2 _ => ⟨below_setRowP h1 (by omega), sc0, n, 160, rfl, good0 _, .inr ⟨rfl, rfl, h2⟩⟩
  have HPG : Hid (∀ (X : World) (y : Sc), Below w.heap.size w X → parseS t = (some y.k, 0) → OwnS B X y → Blk X b2 27 (encSc sc0).toArray → ParseP t w (.returned (.tuple #[.agg (encSc y).toArray, .int .i64 0, .int .i64 0])) (X.setRow b2 (encSc y).toArray)) := fun X y h1 h2 h3 h4 => ⟨below_setRowP h1 (by omega), y, 0, 0, rfl, (h3.setRow h4).read h2 ht, .inl ⟨rfl, rfl, h2⟩⟩
  generalize ParseP t w = POST at *
  have HM := Lib.hid hm
  have HT : Hid (t.length ≤ 100000000) := ht
  obtain ⟨W0, hW0⟩ : ∃ W0, W0 = (w.alloc (.cells (encSc sc0).toArray 27)).alloc (.cells (encSc sc0).toArray 27) := ⟨_, rfl⟩
  have HBE : Hid (Below w.heap.size w W0) := by rw [hW0]; exact below2 w _ _
  have HB20 : Hid (Blk W0 b2 27 (encSc sc0).toArray) := by rw [hW0, hb2]; exact (Blk.new' rfl : Blk _ _ _ _).alloc _
  have HB50 : Hid (Blk W0 b5 27 (encSc sc0).toArray) := by rw [hW0, hb5]; exact Blk.new' (by simp)
  have HOX0 : Hid (OwnS B W0 sc0) := OwnS.zero _ _
  have HB5B : Hid (B ≤ b5) := by show _ ≤ _; omega
  have HNE : Hid (b2 ≠ b5) := by show _ ≠ _; omega
  have HP0 : Hid (PAt t sc0.k 0 t) := PAt.start t
  have HG1 : Hid (w.heap.size + 1 = b5) := hb5.symm
  have HG0 : Hid (w.heap.size = b2) := hb2.symm
  have HBQ : Hid (w.heap.size ≤ B ∧ b2 < B ∧ B = b5) := ⟨by omega, by omega, by omega⟩
  have HW00 := Lib.hid hW0
  clear hm ht hb5 hb2 hW0 hB
  go_enter Tryz.func7, Tryz.ntmps7
  go_upto_region 2 with fail
  change Code.wp _ _ _ _ ((w.alloc (.cells (encSc sc0).toArray 27)).alloc (.cells (encSc sc0).toArray 27))
  rw [← HW00.out, HG1.out, HG0.out]
  clear HW00 HG1 HG0
  go_wp2_with fail
  go_loopg [6, 7] t.length (fun kx v i wr => ∃ (y : Sc) (n : Nat) (r : List UInt8), v = strV r ∧ r.length ≤ kx ∧ i = .int .i64 (n : Int) ∧ Hid (Blk wr b5 27 (encSc y).toArray) ∧ Hid (Blk wr b2 27 (encSc sc0).toArray) ∧ Hid (OwnS B wr y) ∧ Hid (Below w.heap.size w wr) ∧ Hid (PAt t y.k n r))
  case atStart => exact ⟨sc0, 0, t, rfl, Nat.le_refl _, rfl, HB50, HB20, HOX0, HBE, HP0⟩
  case round =>
    clear HB50 HB20 HOX0 HBE HP0
    obtain ⟨y, n, r, rfl, hkx, rfl, HB5, HB2, HOX, HB, HP⟩ := hrel
    obtain ⟨wo, rfl⟩ : ∃ wo : World, wo = wr := ⟨_, rfl⟩
    have hrt : n ≤ 100000000 := by have := HP.out.2.2.1; have := HT.out; omega
    have HRT : Hid (r.length ≤ 1000000000) := by have := HP.out.2.2.1; have := HT.out; show _ ≤ _; omega
    have HSM := Lib.hid HP.out.small
    by_cases hdone : 6 ≤ n ∧ r = []
    · have hn6 : ¬ ((n : Int) < 6) := by omega
      have hne : (!decide (r = [])) = false := by rw [decide_eq_true hdone.2]; rfl
      have HNE2 := Lib.hid hne
      have HD := Lib.hid (HP.out.done hdone.2 hdone.1)
      have hd6 : decide ((n : Int) < 6) = false := by simp; omega
      clear hdone hne HP
      go_wp2_with fail
      refine (heads_any wo).mono ?_
      rintro e W1 ⟨rfl, hw1⟩
      have HA1 : Hid (Below wo.heap.size wo W1) := Lib.hid (by rw [← hw1]; exact below1 _ _)
      have HB51 := Lib.hid (HB5.out.keep HA1.out)
      have HB21 := Lib.hid (HB2.out.keep HA1.out)
      have HOX1 := Lib.hid (HOX.out.below HA1.out)
      have HB1 := Lib.hid (HB.out.trans (HA1.out.mono HB.out.size))
      clear hw1 HB5 HB2 HOX HB HA1
      go_wp2_with (first | ((with_reducible show wpList _ _ _ (Oper.mk (some 19) _ _ _ _ _ :: _) _ _); refine wpList_val rfl (exec_neB (x := r) (y := []) HNE2.out rfl rfl rfl) ?_) | ((with_reducible show wpList _ _ _ (Oper.mk (some 50) _ _ _ _ _ :: _) _ _); refine wpList_loadW W27 rfl rfl (x := .tmp 5) rfl (encSc y) rfl (Blk.list HB51.out) ?_) | ((with_reducible show wpList _ _ _ (Oper.mk none (Op.store 27 _ _) _ _ _ _ :: _) _ _); refine wpList_skipped rfl (exec_storeW W27 rfl rfl rfl rfl (encSc_one _) HB21.out rfl) ?_))
      exact bodyPost_ret (results_cell3v rfl W27 rfl rfl (Blk.list (Blk.part HB21.out)) (v := .int .i64 0) (u := .int .i64 0) rfl rfl) rfl (HPG.out _ _ HB1.out HD.out HOX1.out HB21.out)
    · have HGU := Lib.hid hdone
      go_upto_region 4 with fail
      go_cut [20] from 13 to 21 (fun s wx => s = .bool true ∧ Hid (Below wo.heap.size wo wx))
      case first =>
        go_wp2_with (go_at_call 15; refine (heads_any wo).mono ?_)
        rintro e W1 ⟨rfl, hw1⟩
        have HA1 : Hid (Below wo.heap.size wo W1) := Lib.hid (by rw [← hw1]; exact below1 _ _)
        clear hw1
        by_cases hn6 : n < 6
        · have hn6' : ((n : Int) < 6) := by omega
          go_wp2_with fail
          go_meet
          exact ⟨rfl, HA1⟩
        · have hn6' : ¬ ((n : Int) < 6) := by omega
          have hd6 : decide ((n : Int) < 6) = false := by simp; omega
          have hne : (!decide (r = [])) = true := by rw [decide_eq_false (fun e => hdone ⟨by omega, e⟩)]; rfl
          have HNE2 := Lib.hid hne
          clear hne
          go_wp2_with ((with_reducible show wpList _ _ _ (Oper.mk (some 19) _ _ _ _ _ :: _) _ _); refine wpList_val rfl (exec_neB (x := r) (y := []) HNE2.out rfl rfl rfl) ?_)
          go_meet
          exact ⟨rfl, HA1⟩
      case rest =>
      obtain ⟨rfl, HA⟩ := hcut
      rename World => W1
      have HB51 := Lib.hid (HB5.out.keep HA.out)
      have HB21 := Lib.hid (HB2.out.keep HA.out)
      have HOX1 := Lib.hid (HOX.out.below HA.out)
      have HB1 := Lib.hid (HB.out.trans (HA.out.mono HB.out.size))
      have HM1 : Hid (MaxLen W1) := HM.out.below HB1.out
      clear HB5 HB2 HOX HB HA hdone
      cases hc : cutB 10 r with
      | none =>
        as_aux_lemma =>
        have HCC := cut_any r W1 HM1.out HRT.out
        rw [show cutV r = .tuple #[strV r, strV [], .bool false] by unfold cutV; rw [hc]] at HCC
        have HNX : Hid (parseS t = (none, n + 1)) := HP.out.cutNone HGU.out (by unfold nextW; rw [hc]; rfl)
        clear hc
        go_wp2_with fail
        refine HCC.mono ?_
        rintro e W2 ⟨rfl, hb2⟩
        have HB22 := Lib.hid (HB21.out.keep hb2)
        have HBW2 := Lib.hid (HB1.out.trans (hb2.mono HB1.out.size))
        have HSP := split_any r W2 (HM1.out.below hb2) HRT.out
        clear hb2
        go_wp2_with fail
        refine HSP.mono ?_
        rintro e W3 ⟨rfl, hw3⟩
        have hb3 : Below W2.heap.size W2 W3 := by rw [hw3]; exact below1 _ _
        have HB23 := Lib.hid (HB22.out.keep hb3)
        have HBW3 := Lib.hid (HBW2.out.trans (hb3.mono HBW2.out.size))
        clear hw3 hb3 HB22 HBW2
        go_wp2_with (first | ((with_reducible show wpList _ _ _ (Oper.mk (some 46) _ _ _ _ _ :: _) _ _); refine wpList_val rfl (exec_bld27z rfl) ?_) | ((with_reducible show wpList _ _ _ (Oper.mk none (Op.store 27 _ _) _ _ _ _ :: _) _ _); refine wpList_skipped rfl (exec_storeW W27 rfl rfl rfl rfl (encSc_one _) HB23.out rfl) ?_))
        exact bodyPost_ret (results_cell3v rfl W27 rfl rfl (Blk.list (Blk.part HB23.out)) (v := .int .i64 ((n : Int) + 1)) (u := .int .i64 160) rfl rfl) rfl (HPF.out _ (n + 1) HBW3.out (HNX.out) HB23.out)
      | some p =>
        have HCC := cut_any r W1 HM1.out HRT.out
        rw [show cutV r = .tuple #[strV p.1, strV p.2, .bool true] by unfold cutV; rw [hc]] at HCC
        have HNX : Hid (nextW r = some (splitB 32 p.1, p.2)) := Lib.hid (by unfold nextW; rw [hc]; rfl)
        have HNW := Lib.hid (next_words HNX.out)
        have HPL : Hid (p.1.length ≤ 1000000000) := by
          have := congrArg List.length (cutB_some hc).1
          rw [List.length_append] at this
          have := HRT.out
          show _ ≤ _; omega
        obtain ⟨l1, r'⟩ := p
        simp only at HCC HNX HPL HNW
        clear hc
        go_wp2_with fail
        refine HCC.mono ?_
        rintro e W2 ⟨rfl, hb2⟩
        have HB22 := Lib.hid (HB21.out.keep hb2)
        have HB52 := Lib.hid (HB51.out.keep hb2)
        have HOX2 := Lib.hid (HOX1.out.below hb2)
        have HBW2 := Lib.hid (HB1.out.trans (hb2.mono HB1.out.size))
        have HSP := split_any l1 W2 (HM1.out.below hb2) HPL.out
        obtain ⟨w1, ws, hws⟩ : ∃ w1 ws, splitB 32 l1 = w1 :: ws := by
          cases h : splitB 32 l1 with
          | nil => exact absurd h HNW.out.1
          | cons a l => exact ⟨a, l, rfl⟩
        rw [hws] at HSP HNX HNW
        clear hb2 HB51 HB21 HOX1 HB1 HM1 hws
        go_wp2_with fail
        refine HSP.mono ?_
        rintro e W3 ⟨rfl, hw3⟩
        have hb3 : Below W2.heap.size W2 W3 := by rw [hw3]; exact below1 _ _
        have HB23 := Lib.hid (HB22.out.keep hb3)
        have HB53 := Lib.hid (HB52.out.keep hb3)
        have HOX3 := Lib.hid (HOX2.out.below hb3)
        have HBW3 := Lib.hid (HBW2.out.trans (hb3.mono HBW2.out.size))
        have HWL : Hid (ws.length ≤ 500000000) := by
          have := HNW.out.2.1
          have := HSM.out.2.2.2
          have := HT.out
          simp only [List.length_cons] at *
          show _ ≤ _; omega
        have HWD : Hid (Wds W3 (.slice (some ⟨W2.heap.size, 0, none⟩) (w1 :: ws).length (w1 :: ws).length) (w1 :: ws)) := Lib.hid (by rw [hw3]; exact wds_new (by have := HWL.out; simp; omega))
        have HWY : Hid (∀ z ∈ w1 :: ws, z.length ≤ 1000000000) := fun z hz => Nat.le_trans (HNW.out.2.2.1 z hz) HRT.out
        obtain ⟨gw, hgw⟩ : ∃ gw, gw = W2.heap.size := ⟨_, rfl⟩
        obtain ⟨wn, hwn⟩ : ∃ wn, wn = (w1 :: ws).length := ⟨_, rfl⟩
        rw [← hgw, ← hwn] at HWD ⊢
        clear hw3 hb3 HB22 HB52 HOX2 HBW2 HNW hgw hwn
        by_cases hn6 : n < 6
        · have HLS : Hid (lineS y.k n (w1 :: ws) = headS y.k n (w1 :: ws)) := Lib.hid (by unfold lineS; rw [if_pos hn6])
          have HN6 := Lib.hid hn6
          have hn6' : (n : Int) < 6 := by omega
          have hd6 : decide ((n : Int) < 6) = true := by simp; omega
          clear hn6
          go_wp2_with fail
          refine (heads_any W3).mono ?_
          rintro e W4 ⟨rfl, hw4⟩
          have hb4 : Below W3.heap.size W3 W4 := by rw [← hw4]; exact below1 _ _
          have HB24 := Lib.hid (HB23.out.keep hb4)
          have HB54 := Lib.hid (HB53.out.keep hb4)
          have HOX4 := Lib.hid (HOX3.out.below hb4)
          have HBW4 := Lib.hid (HBW3.out.trans (hb4.mono HBW3.out.size))
          have HWD4 := Lib.hid (HWD.out.below hb4)
          have HHD := Lib.hid (head_any B b5 y n _ w1 ws W4 HB54.out HOX4.out HB5B.out HWD4.out HWY.out HN6.out (by have h1 := HSM.out.1; have h2 := HWL.out; have h3 := HT.out; have h4 : y.k.ups.length = y.ups.l.length := rfl; omega))
          clear hw4 hb4 HB23 HB53 HOX3 HBW3 HWD HWD4
          go_wp2_with fail
          refine HHD.out.mono ?_
          rintro e W5 ⟨hb5, ok, rfl, hm5⟩
          have HBW5 := Lib.hid (HBW4.out.trans (hb5.mono HBQ.out.1))
          have HM5 := Lib.hid hm5
          have HB25 : Hid (Blk W5 b2 27 (encSc sc0).toArray) := Lib.hid ((hb5.block b2 HBQ.out.2.1).trans HB24.out)
          clear hb5 hm5 HHD HB54 HOX4 HBW4
          cases ok with
          | false =>
            as_aux_lemma =>
            have HNX2 : Hid (parseS t = (none, n + 1)) := HP.out.lineNone HGU.out HNX.out (by
              have h := HM5.out
              rw [HLS.out]
              cases hq : headS y.k n (w1 :: ws) with
              | none => rfl
              | some k => rw [hq] at h; cases h.1)
            clear HM5
            go_wp2_with (first | ((with_reducible show wpList _ _ _ (Oper.mk (some 46) _ _ _ _ _ :: _) _ _); refine wpList_val rfl (exec_bld27z rfl) ?_) | ((with_reducible show wpList _ _ _ (Oper.mk none (Op.store 27 _ _) _ _ _ _ :: _) _ _); refine wpList_skipped rfl (exec_storeW W27 rfl rfl rfl rfl (encSc_one _) HB25.out rfl) ?_))
            exact bodyPost_ret (results_cell3v rfl W27 rfl rfl (Blk.list (Blk.part HB25.out)) (v := .int .i64 ((n : Int) + 1)) (u := .int .i64 160) rfl rfl) rfl (HPF.out _ (n + 1) HBW5.out (HNX2.out) HB25.out)
          | true =>
            as_aux_lemma =>
            obtain ⟨y', HY1, HY2, HY3⟩ : ∃ y' : Sc, Hid (lineS y.k n (w1 :: ws) = some y'.k) ∧ Hid (Blk W5 b5 27 (encSc y').toArray) ∧ Hid (OwnS B W5 y') := by
              have h := HM5.out
              cases hq : headS y.k n (w1 :: ws) with
              | none => rw [hq] at h; cases h
              | some k =>
                rw [hq] at h
                obtain ⟨_, y', rfl, h2, h3⟩ := h
                exact ⟨y', HLS.out.trans hq, h2, h3⟩
            have HST := Lib.hid (HP.out.step HGU.out HNX.out HY1.out)
            clear HM5 HY1
            go_wp2
            go_roundg r'.length
            case measure => have := HST.out.2; omega
            case rel => exact ⟨y', n + 1, r', rfl, Nat.le_refl _, by go_num, HY2, HB25, HY3, HBW5, Lib.hid HST.out.1⟩
        · have HLS : Hid (lineS y.k n (w1 :: ws) = tailS y.k (w1 :: ws)) := Lib.hid (by unfold lineS; rw [if_neg hn6])
          have hn6' : ¬ (n : Int) < 6 := by omega
          have hd6 : decide ((n : Int) < 6) = false := by simp; omega
          clear hn6
          go_wp2_with fail
          refine (heads_any W3).mono ?_
          rintro e W4 ⟨rfl, hw4⟩
          have hb4 : Below W3.heap.size W3 W4 := by rw [← hw4]; exact below1 _ _
          have HB24 := Lib.hid (HB23.out.keep hb4)
          have HB54 := Lib.hid (HB53.out.keep hb4)
          have HOX4 := Lib.hid (HOX3.out.below hb4)
          have HBW4 := Lib.hid (HBW3.out.trans (hb4.mono HBW3.out.size))
          have HWD4 := Lib.hid (HWD.out.below hb4)
          have HHD := Lib.hid (tail_any B b5 y _ w1 ws W4 HB54.out HOX4.out HB5B.out HWD4.out HWY.out (by have h1 := HSM.out.2.1; have h3 := HT.out; have h4 : y.k.ops.length = y.ops.length := List.length_map _; omega) (by have h1 := HSM.out.2.2.1; have h3 := HT.out; have h4 : y.k.fts.length = y.faults.length := List.length_map _; omega))
          clear hw4 hb4 HB23 HB53 HOX3 HBW3 HWD HWD4
          go_wp2_with fail
          refine HHD.out.mono ?_
          rintro e W5 ⟨hb5, ok, rfl, hm5⟩
          have HBW5 := Lib.hid (HBW4.out.trans (hb5.mono HBQ.out.1))
          have HM5 := Lib.hid hm5
          have HB25 : Hid (Blk W5 b2 27 (encSc sc0).toArray) := Lib.hid ((hb5.block b2 HBQ.out.2.1).trans HB24.out)
          clear hb5 hm5 HHD HB54 HOX4 HBW4
          cases ok with
          | false =>
            as_aux_lemma =>
            have HNX2 : Hid (parseS t = (none, n + 1)) := HP.out.lineNone HGU.out HNX.out (by
              have h := HM5.out
              rw [HLS.out]
              cases hq : tailS y.k (w1 :: ws) with
              | none => rfl
              | some k => rw [hq] at h; cases h.1)
            clear HM5
            go_wp2_with (first | ((with_reducible show wpList _ _ _ (Oper.mk (some 46) _ _ _ _ _ :: _) _ _); refine wpList_val rfl (exec_bld27z rfl) ?_) | ((with_reducible show wpList _ _ _ (Oper.mk none (Op.store 27 _ _) _ _ _ _ :: _) _ _); refine wpList_skipped rfl (exec_storeW W27 rfl rfl rfl rfl (encSc_one _) HB25.out rfl) ?_))
            exact bodyPost_ret (results_cell3v rfl W27 rfl rfl (Blk.list (Blk.part HB25.out)) (v := .int .i64 ((n : Int) + 1)) (u := .int .i64 160) rfl rfl) rfl (HPF.out _ (n + 1) HBW5.out (HNX2.out) HB25.out)
          | true =>
            as_aux_lemma =>
            obtain ⟨y', HY1, HY2, HY3⟩ : ∃ y' : Sc, Hid (lineS y.k n (w1 :: ws) = some y'.k) ∧ Hid (Blk W5 b5 27 (encSc y').toArray) ∧ Hid (OwnS B W5 y') := by
              have h := HM5.out
              cases hq : tailS y.k (w1 :: ws) with
              | none => rw [hq] at h; cases h
              | some k =>
                rw [hq] at h
                obtain ⟨_, y', rfl, h2, h3⟩ := h
                exact ⟨y', HLS.out.trans hq, h2, h3⟩
            have HST := Lib.hid (HP.out.step HGU.out HNX.out HY1.out)
            clear HM5 HY1
            go_wp2
            go_roundg r'.length
            case measure => have := HST.out.2; omega
            case rel => exact ⟨y', n + 1, r', rfl, Nat.le_refl _, by go_num, HY2, HB25, HY3, HBW5, Lib.hid HST.out.1⟩
end Go.Proofs.YtkinhhkodaacjaaGreatDoor
