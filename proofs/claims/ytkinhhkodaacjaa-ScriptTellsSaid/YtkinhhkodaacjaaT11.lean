/- The walk of ScriptTells. -/
import Derived.Test.YtkinhhkodaacjaaT9
import Derived.Test.YtkinhhkodaacjaaT10
namespace Go.Proofs.Ytkinhhkodaacjaa
open Go.RowKit Go.Shelf
open Md

theorem told_ops' (l : List Ho) (n r s most : Int) (v : Value) (W : World) (g h : Nat) (hl : l.length ≤ 300) (h1 : Blk W g 27 #[v]) (h2 : Blk W (h + 1) 3 #[.int .i64 n]) (h3 : Blk W (h + 2) 3 #[.int .i64 r]) (h4 : Blk W (h + 3) 3 #[.int .i64 s]) (hh : Hos W v l) :
    Calls Try.prog 15 #[.func (.func 41) #[] #[.pointer (some ⟨g, 0, none⟩), .pointer (some ⟨h + 1, 0, none⟩), .pointer (some ⟨h + 2, 0, none⟩), .pointer (some ⟨h + 3, 0, none⟩)], .int .i64 most] W (ToldPost (ofH l n r s l.length) most W) :=
  told_ops l n r s most v W g (h + 1) hl h1 h2 h3 h4 hh
def S4 (x y : Sc) (w X : World) : Prop := Blk X w.heap.size 30 (encSc x).toArray ∧ Blk X (w.heap.size + 1) 30 (encSc y).toArray
theorem SB2.s4 {x y : Sc} {w X : World} (h : SB2 x y w X) : Hid (S4 x y w X) := ⟨h.bx, h.by'⟩
theorem hos_of {W : World} {base : Nat} {v : Value} {l : List Ho} (h : W.ownsRow base 43 6 v l.length (l.flatMap encH)) (hl : l.length ≤ 300) : Hos W v l := Rd.of_owns (e := 43) encH_len h (by omega)
theorem exec_slice27 {w : World} {o : Oper} {ac : Act} {x y : Operand} {a : Option Addr} {q m c : Nat} (ho : o.op = .slice 27 x none (some y) none) (hx : ac.eval x = .slice a q c) (hy : ac.eval y = .int .i64 (m : Int)) (h1 : m ≤ c) (h2 : a = none → c = 0) : (execOp ac.eval o).run Try.prog w = .ok (.value (.slice a m c)) w := by
  generalize ac.eval = ev at *
  cases a with
  | none =>
    obtain rfl := h2 rfl
    obtain rfl : m = 0 := by omega
    unfold execOp
    simp only [ho, hx]
    go_simp
    try rfl
  | some p =>
    unfold execOp
    simp only [ho, hx]
    go_simp
    try rfl
set_option maxRecDepth 100000 in
set_option maxHeartbeats 3200000 in
theorem tells_any (x y : Sc) (n r s k : Int) (b : Nat) (w : World) (hx : GoodSc w x) (hy : GoodSc w y) (hb : b ≤ 255) :
    Calls Try.prog 4 #[.agg (encSc x).toArray, .agg (encSc y).toArray, .int .i64 n, .int .i64 r, .int .i64 s, .int .i64 k, .int .u8 (b : Int)] w fun e w' => e = .returned (.bool true) ∧ Below w.heap.size w w' := by
  have HP : Hid (∀ w', Below w.heap.size w w' → (fun e w' => e = Ending.returned (.bool true) ∧ Below w.heap.size w w') (.returned (.bool true)) w') := fun w' hb => ⟨rfl, hb⟩
  generalize (fun e w' => e = Ending.returned (.bool true) ∧ Below w.heap.size w w') = POST at *
  have HS : Hid (SB2 x y w ((w.alloc (.cells (encSc x).toArray 30)).alloc (.cells (encSc y).toArray 30))) := Lib.hid (
    have hb := below2 w (.cells (encSc x).toArray 30) (.cells (encSc y).toArray 30)
    ⟨hb, hx.below hb, hy.below hb, (Blk.new' rfl : Blk _ _ _ _).alloc _, Blk.new' (by simp)⟩)
  clear hx hy
  go_enter Try.func4, Try.ntmps4
  go_upto_region 1 with fail
  change Code.wp _ _ _ _ ((w.alloc (.cells (encSc x).toArray 30)).alloc (.cells (encSc y).toArray 30))
  generalize ((w.alloc (.cells (encSc x).toArray 30)).alloc (.cells (encSc y).toArray 30)) = W0 at *
  go_wp2_with fail
  refine (begun_any W0).mono ?_
  rintro e W1 ⟨rfl, hb1⟩
  replace HS := Lib.hid (HS.out.keep hb1)
  clear hb1
  go_wp2_with ((with_reducible show wpList _ _ _ (Oper.mk (some 19) _ _ _ _ _ :: _) _ _); refine wpList_loadW W30 rfl rfl rfl (encSc x) rfl HS.out.bx.list ?_)
  refine (few_any x W1 HS.out.gx).mono ?_
  rintro e W2 ⟨⟨bx, rfl, hbx⟩, hb1⟩
  replace HS := Lib.hid (HS.out.keep hb1)
  have HBX := Lib.hid hbx
  clear hb1 hbx
  cases bx with
  | false =>
    go_wp2_with fail
    refine (begun_any W2).mono ?_
    rintro e W3 ⟨rfl, hb1⟩
    replace HS := Lib.hid (HS.out.keep hb1)
    clear hb1
    go_wp2
    exact HP.out _ HS.out.bel
  | true =>
    have HSX : Hid (Small x) := HBX.out rfl
    clear HBX
    go_wp2_with ((with_reducible show wpList _ _ _ (Oper.mk (some 24) _ _ _ _ _ :: _) _ _); refine wpList_loadW W30 rfl rfl rfl (encSc y) rfl HS.out.by'.list ?_)
    refine (few_any y W2 HS.out.gy).mono ?_
    rintro e W3 ⟨⟨by', rfl, hby⟩, hb1⟩
    replace HS := Lib.hid (HS.out.keep hb1)
    have HBY := Lib.hid hby
    clear hb1 hby
    cases by' with
    | false =>
      go_wp2_with fail
      refine (begun_any W3).mono ?_
      rintro e W4 ⟨rfl, hb1⟩
      replace HS := Lib.hid (HS.out.keep hb1)
      clear hb1
      go_wp2
      exact HP.out _ HS.out.bel
    | true =>
      have HSY : Hid (Small y) := HBY.out rfl
      clear HBY
      go_wp2_with ((with_reducible show wpList _ _ _ (Oper.mk (some 29) _ _ _ _ _ :: _) _ _); refine wpList_loadW W30 rfl rfl rfl (encSc x) rfl HS.out.bx.list ?_)
      refine (rops_any x n r s W3 HS.out.gx HSX.out.l6).mono ?_
      rintro e W4 ⟨⟨v', rfl, ho⟩, hb1⟩
      replace HS := Lib.hid (HS.out.keep hb1)
      have HLL : Hid ((ofH x.ops n r s x.ops.length).length ≤ 300) := Nat.le_trans (ofH_len _ _ _ _ _) HSX.out.l6
      have HLM : Hid (∀ z ∈ ofH x.ops n r s x.ops.length, z ∈ x.ops) := fun z hz => List.mem_of_mem_take (List.mem_filter.1 hz).1
      have HRO := Lib.hid (hos_of ho HLL.out)
      clear hb1
      obtain ⟨ra, rc, rfl, hrc, hrm, -⟩ := owns_shape ho
      clear ho
      have HTO := Lib.hid (fun (most : Int) (v : Value) (W : World) (g h : Nat) => told_ops' x.ops n r s most v W g h HSX.out.l6)
      generalize hL : ofH x.ops n r s x.ops.length = L at *
      clear hL
      have HTA : Hid (L.take (Int.toNat 999) = L) := List.take_of_length_le (by have := HLL.out; omega)
      have hwb : IntKind.i64.wrap (b : Int) = (b : Int) := IntWalk.i64_in _ (by omega)
      obtain ⟨q, hq⟩ : ∃ q, L.length = q := ⟨_, rfl⟩
      obtain ⟨m, hm⟩ : ∃ m : Nat, imin (q : Int) (b : Int) = (m : Int) := ⟨(imin (q : Int) (b : Int)).toNat, by have := imin_le (q : Int) (b : Int); omega⟩
      have hmq : m ≤ q := by have := imin_le (q : Int) (b : Int); omega
      have HTB : Hid (L.take (Int.toNat (b : Int)) = L.take m) := by
        show _ = _
        rw [Int.toNat_natCast]
        have := imin_le (q : Int) (b : Int)
        rcases Nat.le_total b q with h | h
        · rw [show m = b by omega]
        · rw [List.take_of_length_le (by omega), List.take_of_length_le (by omega)]
      have HMX := Lib.hid (fun (o : Oper) (a : Act) (w : World) (x1 y1 : Operand) (ts : Array TypeId) (ho : o.op = .call { callee := .builtin .min, args := #[x1, y1], argTypes := ts }) (hx : a.eval x1 = .int .i64 (q : Int)) (hy : a.eval y1 = .int .i64 (b : Int)) => exec_min (P := Try.prog) (w := w) ho hx hy)
      rw [hm] at HMX
      rw [hq] at hrc HRO HLL ⊢
      have HQ := Lib.hid hq
      clear hq hm
      have hq300 : q ≤ 300 := HLL.out
      have HN0 : Hid (ra = none → rc = 0) := fun e => by have h := HRO.out; rw [e] at h; exact h.none_.2.2
      have HSL : Hid (m ≤ rc) := Nat.le_trans hmq hrc
      go_upto_region 4 with fail
      replace HS := Lib.hid (HS.out.keep (Below.refl _ _).drew)
      replace HRO : Hid (Hos W4.drew (.slice ra q rc) L) := Lib.hid (HRO.out.below (Below.refl _ _).drew)
      have hS := HS.out.s4
      refine wp_region_held_drew (S := fun X => Hid (S4 x y w X)) (by kernel_rfl) hS (fun hHeld => ?_)
      (refine takeW (i := 0) rfl (by kernel_rfl) (by kernel_rfl) (by kernel_rfl) (fun _ _ _ h => h) (by rfl) (by assumption) (fun W hW => exec_loadW W30 rfl rfl (cs := encSc x) rfl hW.out.1.list) ?_; (try simp only [Act.put, List.setIfInBounds_toArray, List.set_cons_zero, List.set_cons_succ]))
      (refine takeW (i := 1) (v := ?_) rfl (by kernel_rfl) (by kernel_rfl) (by kernel_rfl) (fun _ _ _ h => h) (by rfl) (by assumption) ?_ ?_; rotate_left; (intro W hW; (try dsimp only at hW); go_simp; try with_reducible rfl); (try simp only [Act.put, List.setIfInBounds_toArray, List.set_cons_zero, List.set_cons_succ]))
      (refine takeW (i := 2) (v := ?_) rfl (by kernel_rfl) (by kernel_rfl) (by kernel_rfl) (fun _ _ _ h => h) (by rfl) (by assumption) ?_ ?_; rotate_left; (intro W hW; (try dsimp only at hW); go_simp; try with_reducible rfl); (try simp only [Act.put, List.setIfInBounds_toArray, List.set_cons_zero, List.set_cons_succ]))
      (refine takeW (i := 3) (v := ?_) rfl (by kernel_rfl) (by kernel_rfl) (by kernel_rfl) (fun _ _ _ h => h) (by rfl) (by assumption) ?_ ?_; rotate_left; (intro W hW; (try dsimp only at hW); go_simp; try with_reducible rfl); (try simp only [Act.put, List.setIfInBounds_toArray, List.set_cons_zero, List.set_cons_succ]))
      (refine takeW (i := 6) (v := ?_) rfl (by kernel_rfl) (by kernel_rfl) (by kernel_rfl) (fun _ _ _ h => h) (by rfl) (by assumption) ?_ ?_; rotate_left; (intro W hW; (try dsimp only at hW); go_simp; try with_reducible rfl); (try simp only [Act.put, List.setIfInBounds_toArray, List.set_cons_zero, List.set_cons_succ]))
      refine takeC (i := 4) rfl (by kernel_rfl) (by rfl) (fun K hK => ?_)
      go_simp
      refine (ops_any x n r s W4.drew HS.out.gx HSX.out.l6).mono ?_
      rintro e W104 ⟨g38, u38, rfl, hB1, hB2, hB3, hB4, hOW, hb, hge⟩
      replace HS := Lib.hid (HS.out.keep hb)
      replace HRO := Lib.hid (HRO.out.below hb)
      (try replace HTR := Lib.hid (HTR.out.below hb))
      have HB1 := Lib.hid hB1
      have HB2 := Lib.hid hB2
      have HB3 := Lib.hid hB3
      have HB4 := Lib.hid hB4
      have HOW := Lib.hid (hos_of (l := x.ops) hOW HSX.out.l6)
      clear hB1 hB2 hB3 hB4 hOW hge
      generalize W4.drew.heap.size = h38 at *
      clear hb hHeld
      refine hK.out _ _ HS.out.s4 (fun hHeld => ?_)
      clear hK K
      (try simp only [Act.put, List.setIfInBounds_toArray, List.set_cons_zero, List.set_cons_succ])
      refine takeC (i := 5) rfl (by kernel_rfl) (by rfl) (fun K hK => ?_)
      go_simp
      refine (HTO.out 999 _ W104 _ _ HB1.out HB2.out HB3.out HB4.out HOW.out).mono ?_
      rintro e W105 ⟨⟨u39, rfl, ho⟩, hb⟩
      replace HS := Lib.hid (HS.out.keep hb)
      replace HRO := Lib.hid (HRO.out.below hb)
      (try replace HTR := Lib.hid (HTR.out.below hb))
      clear HB1 HB2 HB3 HB4 HOW
      rw [HTA.out] at ho
      have HTR := Lib.hid (hos_of ho (by have := HLL.out; have := HQ.out; omega))
      clear ho
      clear hb hHeld
      refine hK.out _ _ HS.out.s4 (fun hHeld => ?_)
      clear hK K
      (try simp only [Act.put, List.setIfInBounds_toArray, List.set_cons_zero, List.set_cons_succ])
      refine takeC (i := 7) rfl (by kernel_rfl) (by rfl) (fun K hK => ?_)
      go_simp
      refine (sameOps_any _ _ L L W105 HTR.out HRO.out (fun z hz => HS.out.gx.opg z (HLM.out z hz)) (fun z hz => HS.out.gx.opg z (HLM.out z hz))).mono ?_
      rintro e W107 ⟨rfl, hb⟩
      replace HS := Lib.hid (HS.out.keep hb)
      replace HRO := Lib.hid (HRO.out.below hb)
      (try replace HTR := Lib.hid (HTR.out.below hb))
      clear HTR
      rw [decide_eq_true rfl]
      clear hb hHeld
      refine hK.out _ _ HS.out.s4 (fun hHeld => ?_)
      clear hK K
      (try simp only [Act.put, List.setIfInBounds_toArray, List.set_cons_zero, List.set_cons_succ])
      (refine takeW (i := 8) (v := ?_) rfl (by kernel_rfl) (by kernel_rfl) (by kernel_rfl) (fun _ _ _ h => h) (by rfl) (by assumption) ?_ ?_; rotate_left; (intro W hW; (try dsimp only at hW); go_simp; try with_reducible rfl); (try simp only [Act.put, List.setIfInBounds_toArray, List.set_cons_zero, List.set_cons_succ]))
      (refine takeW (i := 9) rfl (by kernel_rfl) (by kernel_rfl) (by kernel_rfl) (fun _ _ _ h => h) (by rfl) (by assumption) (fun W hW => exec_loadW W30 rfl rfl (cs := encSc x) rfl hW.out.1.list) ?_; (try simp only [Act.put, List.setIfInBounds_toArray, List.set_cons_zero, List.set_cons_succ]))
      (refine takeW (i := 10) (v := ?_) rfl (by kernel_rfl) (by kernel_rfl) (by kernel_rfl) (fun _ _ _ h => h) (by rfl) (by assumption) ?_ ?_; rotate_left; (intro W hW; (try dsimp only at hW); go_simp; try with_reducible rfl); (try simp only [Act.put, List.setIfInBounds_toArray, List.set_cons_zero, List.set_cons_succ]))
      (refine takeW (i := 11) (v := ?_) rfl (by kernel_rfl) (by kernel_rfl) (by kernel_rfl) (fun _ _ _ h => h) (by rfl) (by assumption) ?_ ?_; rotate_left; (intro W hW; (try dsimp only at hW); go_simp; try with_reducible rfl); (try simp only [Act.put, List.setIfInBounds_toArray, List.set_cons_zero, List.set_cons_succ]))
      (refine takeW (i := 12) (v := ?_) rfl (by kernel_rfl) (by kernel_rfl) (by kernel_rfl) (fun _ _ _ h => h) (by rfl) (by assumption) ?_ ?_; rotate_left; (intro W hW; (try dsimp only at hW); go_simp; try with_reducible rfl); (try simp only [Act.put, List.setIfInBounds_toArray, List.set_cons_zero, List.set_cons_succ]))
      (refine takeW (i := 14) (v := ?_) rfl (by kernel_rfl) (by kernel_rfl) (by kernel_rfl) (fun _ _ _ h => h) (by rfl) (by assumption) ?_ ?_; rotate_left; (intro W hW; (try dsimp only at hW); go_simp; try with_reducible rfl); (try simp only [Act.put, List.setIfInBounds_toArray, List.set_cons_zero, List.set_cons_succ]))
      (refine takeW (i := 15) (v := ?_) rfl (by kernel_rfl) (by kernel_rfl) (by kernel_rfl) (fun _ _ _ h => h) (by rfl) (by assumption) ?_ ?_; rotate_left; (intro W hW; (try dsimp only at hW); go_simp; try with_reducible rfl); (try simp only [Act.put, List.setIfInBounds_toArray, List.set_cons_zero, List.set_cons_succ]))
      (refine takeW (i := 17) (v := ?_) rfl (by kernel_rfl) (by kernel_rfl) (by kernel_rfl) (fun _ _ _ h => h) (by rfl) (by assumption) ?_ ?_; rotate_left; (intro W hW; (try dsimp only at hW); go_simp; try with_reducible rfl); (try simp only [Act.put, List.setIfInBounds_toArray, List.set_cons_zero, List.set_cons_succ]))
      (refine takeW (i := 18) (v := ?_) rfl (by kernel_rfl) (by kernel_rfl) (by kernel_rfl) (fun _ _ _ h => h) (by rfl) (by assumption) ?_ ?_; rotate_left; (intro W hW; (try dsimp only at hW); go_simp; try with_reducible rfl); (try simp only [Act.put, List.setIfInBounds_toArray, List.set_cons_zero, List.set_cons_succ]))
      (refine takeW (i := 19) (v := ?_) rfl (by kernel_rfl) (by kernel_rfl) (by kernel_rfl) (fun _ _ _ h => h) (by rfl) (by assumption) ?_ ?_; rotate_left; (intro W hW; (try dsimp only at hW); go_simp; try with_reducible rfl); (try simp only [Act.put, List.setIfInBounds_toArray, List.set_cons_zero, List.set_cons_succ]))
      (refine takeW (i := 20) (v := ?_) rfl (by kernel_rfl) (by kernel_rfl) (by kernel_rfl) (fun _ _ _ h => h) (by rfl) (by assumption) ?_ ?_; rotate_left; (intro W hW; (try dsimp only at hW); go_simp; try with_reducible rfl); (try simp only [Act.put, List.setIfInBounds_toArray, List.set_cons_zero, List.set_cons_succ]))
      (refine takeW (i := 21) (v := ?_) rfl (by kernel_rfl) (by kernel_rfl) (by kernel_rfl) (fun _ _ _ h => h) (by rfl) (by assumption) ?_ ?_; rotate_left; (intro W hW; (try dsimp only at hW); go_simp; try with_reducible rfl); (try simp only [Act.put, List.setIfInBounds_toArray, List.set_cons_zero, List.set_cons_succ]))
      (refine takeW (i := 22) rfl (by kernel_rfl) (by kernel_rfl) (by kernel_rfl) (fun _ _ _ h => h) (by rfl) (by assumption) (fun W hW => HMX.out _ _ _ _ _ _ rfl rfl rfl) ?_; (try simp only [Act.put, List.setIfInBounds_toArray, List.set_cons_zero, List.set_cons_succ]))
      (refine takeW (i := 23) rfl (by kernel_rfl) (by kernel_rfl) (by kernel_rfl) (fun _ _ _ h => h) (by rfl) (by assumption) (fun W hW => exec_slice27 rfl rfl rfl HSL.out HN0.out) ?_; (try simp only [Act.put, List.setIfInBounds_toArray, List.set_cons_zero, List.set_cons_succ]))
      refine takeC (i := 13) rfl (by kernel_rfl) (by rfl) (fun K hK => ?_)
      go_simp
      refine (ops_any x n r s W107 HS.out.gx HSX.out.l6).mono ?_
      rintro e W113 ⟨g47, u47, rfl, hB1, hB2, hB3, hB4, hOW, hb, hge⟩
      replace HS := Lib.hid (HS.out.keep hb)
      replace HRO := Lib.hid (HRO.out.below hb)
      (try replace HTR := Lib.hid (HTR.out.below hb))
      have HB1 := Lib.hid hB1
      have HB2 := Lib.hid hB2
      have HB3 := Lib.hid hB3
      have HB4 := Lib.hid hB4
      have HOW := Lib.hid (hos_of (l := x.ops) hOW HSX.out.l6)
      clear hB1 hB2 hB3 hB4 hOW hge
      generalize W107.heap.size = h47 at *
      clear hb hHeld
      refine hK.out _ _ HS.out.s4 (fun hHeld => ?_)
      clear hK K
      (try simp only [Act.put, List.setIfInBounds_toArray, List.set_cons_zero, List.set_cons_succ])
      refine takeC (i := 16) rfl (by kernel_rfl) (by rfl) (fun K hK => ?_)
      go_simp
      refine (HTO.out (b : Int) _ W113 _ _ HB1.out HB2.out HB3.out HB4.out HOW.out).mono ?_
      rintro e W116 ⟨⟨u50, rfl, ho⟩, hb⟩
      replace HS := Lib.hid (HS.out.keep hb)
      replace HRO := Lib.hid (HRO.out.below hb)
      (try replace HTR := Lib.hid (HTR.out.below hb))
      clear HB1 HB2 HB3 HB4 HOW
      rw [HTB.out] at ho
      have HTR := Lib.hid (hos_of ho (by have := HLL.out; have := HQ.out; rw [List.length_take]; omega))
      clear ho
      clear hb hHeld
      refine hK.out _ _ HS.out.s4 (fun hHeld => ?_)
      clear hK K
      (try simp only [Act.put, List.setIfInBounds_toArray, List.set_cons_zero, List.set_cons_succ])
      refine takeC (i := 24) rfl (by kernel_rfl) (by rfl) (fun K hK => ?_)
      go_simp
      refine (sameOps_any _ _ (L.take m) (L.take m) W116 HTR.out (HRO.out.take m (by have := HQ.out; omega)) (fun z hz => HS.out.gx.opg z (HLM.out z (List.mem_of_mem_take hz))) (fun z hz => HS.out.gx.opg z (HLM.out z (List.mem_of_mem_take hz)))).mono ?_
      rintro e W124 ⟨rfl, hb⟩
      replace HS := Lib.hid (HS.out.keep hb)
      replace HRO := Lib.hid (HRO.out.below hb)
      (try replace HTR := Lib.hid (HTR.out.below hb))
      clear HTR
      rw [decide_eq_true rfl]
      clear hb hHeld
      refine hK.out _ _ HS.out.s4 (fun hHeld => ?_)
      clear hK K
      (try simp only [Act.put, List.setIfInBounds_toArray, List.set_cons_zero, List.set_cons_succ])
      (refine takeW (i := 25) (v := ?_) rfl (by kernel_rfl) (by kernel_rfl) (by kernel_rfl) (fun _ _ _ h => h) (by rfl) (by assumption) ?_ ?_; rotate_left; (intro W hW; (try dsimp only at hW); go_simp; try with_reducible rfl); (try simp only [Act.put, List.setIfInBounds_toArray, List.set_cons_zero, List.set_cons_succ]))
      (refine takeW (i := 26) (v := ?_) rfl (by kernel_rfl) (by kernel_rfl) (by kernel_rfl) (fun _ _ _ h => h) (by rfl) (by assumption) ?_ ?_; rotate_left; (intro W hW; (try dsimp only at hW); go_simp; try with_reducible rfl); (try simp only [Act.put, List.setIfInBounds_toArray, List.set_cons_zero, List.set_cons_succ]))
      (refine takeW (i := 27) rfl (by kernel_rfl) (by kernel_rfl) (by kernel_rfl) (fun _ _ _ h => h) (by rfl) (by assumption) (fun W hW => exec_loadW W30 rfl rfl (cs := encSc x) rfl hW.out.1.list) ?_; (try simp only [Act.put, List.setIfInBounds_toArray, List.set_cons_zero, List.set_cons_succ]))
      (refine takeW (i := 28) (v := ?_) rfl (by kernel_rfl) (by kernel_rfl) (by kernel_rfl) (fun _ _ _ h => h) (by rfl) (by assumption) ?_ ?_; rotate_left; (intro W hW; (try dsimp only at hW); go_simp; try with_reducible rfl); (try simp only [Act.put, List.setIfInBounds_toArray, List.set_cons_zero, List.set_cons_succ]))
      (refine takeW (i := 29) (v := ?_) rfl (by kernel_rfl) (by kernel_rfl) (by kernel_rfl) (fun _ _ _ h => h) (by rfl) (by assumption) ?_ ?_; rotate_left; (intro W hW; (try dsimp only at hW); go_simp; try with_reducible rfl); (try simp only [Act.put, List.setIfInBounds_toArray, List.set_cons_zero, List.set_cons_succ]))
      (refine takeW (i := 30) (v := ?_) rfl (by kernel_rfl) (by kernel_rfl) (by kernel_rfl) (fun _ _ _ h => h) (by rfl) (by assumption) ?_ ?_; rotate_left; (intro W hW; (try dsimp only at hW); go_simp; try with_reducible rfl); (try simp only [Act.put, List.setIfInBounds_toArray, List.set_cons_zero, List.set_cons_succ]))
      (refine takeW (i := 32) rfl (by kernel_rfl) (by kernel_rfl) (by kernel_rfl) (fun _ _ _ h => h) (by rfl) (by assumption) (fun W hW => exec_loadW W30 rfl rfl (cs := encSc x) rfl hW.out.1.list) ?_; (try simp only [Act.put, List.setIfInBounds_toArray, List.set_cons_zero, List.set_cons_succ]))
      (refine takeW (i := 33) (v := ?_) rfl (by kernel_rfl) (by kernel_rfl) (by kernel_rfl) (fun _ _ _ h => h) (by rfl) (by assumption) ?_ ?_; rotate_left; (intro W hW; (try dsimp only at hW); go_simp; try with_reducible rfl); (try simp only [Act.put, List.setIfInBounds_toArray, List.set_cons_zero, List.set_cons_succ]))
      (refine takeW (i := 34) (v := ?_) rfl (by kernel_rfl) (by kernel_rfl) (by kernel_rfl) (fun _ _ _ h => h) (by rfl) (by assumption) ?_ ?_; rotate_left; (intro W hW; (try dsimp only at hW); go_simp; try with_reducible rfl); (try simp only [Act.put, List.setIfInBounds_toArray, List.set_cons_zero, List.set_cons_succ]))
      (refine takeW (i := 35) (v := ?_) rfl (by kernel_rfl) (by kernel_rfl) (by kernel_rfl) (fun _ _ _ h => h) (by rfl) (by assumption) ?_ ?_; rotate_left; (intro W hW; (try dsimp only at hW); go_simp; try with_reducible rfl); (try simp only [Act.put, List.setIfInBounds_toArray, List.set_cons_zero, List.set_cons_succ]))
      refine takeC (i := 31) rfl (by kernel_rfl) (by rfl) (fun K hK => ?_)
      go_simp
      refine (drift_any x k s n W124 HS.out.gx).mono ?_
      rintro e W131 ⟨rfl, hb⟩
      replace HS := Lib.hid (HS.out.keep hb)
      replace HRO := Lib.hid (HRO.out.below hb)
      (try replace HTR := Lib.hid (HTR.out.below hb))
      clear hb hHeld
      refine hK.out _ _ HS.out.s4 (fun hHeld => ?_)
      clear hK K
      (try simp only [Act.put, List.setIfInBounds_toArray, List.set_cons_zero, List.set_cons_succ])
      refine takeC (i := 36) rfl (by kernel_rfl) (by rfl) (fun K hK => ?_)
      go_simp
      refine (rdrift_any x k s n W131 HS.out.gx).mono ?_
      rintro e W136 ⟨rfl, hb⟩
      replace HS := Lib.hid (HS.out.keep hb)
      replace HRO := Lib.hid (HRO.out.below hb)
      (try replace HTR := Lib.hid (HTR.out.below hb))
      generalize drV x k s n = dv at *
      clear hb hHeld
      refine hK.out _ _ HS.out.s4 (fun hHeld => ?_)
      clear hK K
      (try simp only [Act.put, List.setIfInBounds_toArray, List.set_cons_zero, List.set_cons_succ])
      (refine takeW (i := 37) (v := ?_) rfl (by kernel_rfl) (by kernel_rfl) (by kernel_rfl) (fun _ _ _ h => h) (by rfl) (by assumption) ?_ ?_; rotate_left; (intro W hW; (try dsimp only at hW); go_simp; try with_reducible rfl); (try simp only [Act.put, List.setIfInBounds_toArray, List.set_cons_zero, List.set_cons_succ]))
      (refine takeW (i := 38) (v := ?_) rfl (by kernel_rfl) (by kernel_rfl) (by kernel_rfl) (fun _ _ _ h => h) (by rfl) (by assumption) ?_ ?_; rotate_left; (intro W hW; (try dsimp only at hW); go_simp; try with_reducible rfl); (try simp only [Act.put, List.setIfInBounds_toArray, List.set_cons_zero, List.set_cons_succ]))
      (refine takeW (i := 39) (v := ?_) rfl (by kernel_rfl) (by kernel_rfl) (by kernel_rfl) (fun _ _ _ h => h) (by rfl) (by assumption) ?_ ?_; rotate_left; (intro W hW; (try dsimp only at hW); go_simp; try with_reducible rfl); (try simp only [Act.put, List.setIfInBounds_toArray, List.set_cons_zero, List.set_cons_succ]))
      (refine takeW (i := 40) rfl (by kernel_rfl) (by kernel_rfl) (by kernel_rfl) (fun _ _ _ h => h) (by rfl) (by assumption) (fun W hW => exec_loadW W30 rfl rfl (cs := encSc x) rfl hW.out.1.list) ?_; (try simp only [Act.put, List.setIfInBounds_toArray, List.set_cons_zero, List.set_cons_succ]))
      (refine takeW (i := 41) rfl (by kernel_rfl) (by kernel_rfl) (by kernel_rfl) (fun _ _ _ h => h) (by rfl) (by assumption) (fun W hW => exec_loadW W30 rfl rfl (cs := encSc y) rfl hW.out.2.list) ?_; (try simp only [Act.put, List.setIfInBounds_toArray, List.set_cons_zero, List.set_cons_succ]))
      (refine takeW (i := 43) rfl (by kernel_rfl) (by kernel_rfl) (by kernel_rfl) (fun _ _ _ h => h) (by rfl) (by assumption) (fun W hW => exec_loadW W30 rfl rfl (cs := encSc x) rfl hW.out.1.list) ?_; (try simp only [Act.put, List.setIfInBounds_toArray, List.set_cons_zero, List.set_cons_succ]))
      (refine takeW (i := 44) rfl (by kernel_rfl) (by kernel_rfl) (by kernel_rfl) (fun _ _ _ h => h) (by rfl) (by assumption) (fun W hW => exec_loadW W30 rfl rfl (cs := encSc y) rfl hW.out.2.list) ?_; (try simp only [Act.put, List.setIfInBounds_toArray, List.set_cons_zero, List.set_cons_succ]))
      refine takeC (i := 42) rfl (by kernel_rfl) (by rfl) (fun K hK => ?_)
      go_simp
      refine (sameSc_any x y W136 HS.out.gx HS.out.gy).mono ?_
      rintro e W142 ⟨rfl, hb⟩
      replace HS := Lib.hid (HS.out.keep hb)
      replace HRO := Lib.hid (HRO.out.below hb)
      (try replace HTR := Lib.hid (HTR.out.below hb))
      clear hb hHeld
      refine hK.out _ _ HS.out.s4 (fun hHeld => ?_)
      clear hK K
      (try simp only [Act.put, List.setIfInBounds_toArray, List.set_cons_zero, List.set_cons_succ])
      refine takeC (i := 45) rfl (by kernel_rfl) (by rfl) (fun K hK => ?_)
      go_simp
      refine (rsameSc_any x y W142 HS.out.gx HS.out.gy (by have := HSX.out.l1; omega) (by have := HSY.out.l1; omega)).mono ?_
      rintro e W145 ⟨rfl, hb⟩
      replace HS := Lib.hid (HS.out.keep hb)
      replace HRO := Lib.hid (HRO.out.below hb)
      (try replace HTR := Lib.hid (HTR.out.below hb))
      generalize decide (SameSc x y) = sb at *
      clear hb hHeld
      refine hK.out _ _ HS.out.s4 (fun hHeld => ?_)
      clear hK K
      (try simp only [Act.put, List.setIfInBounds_toArray, List.set_cons_zero, List.set_cons_succ])
      (refine takeW (i := 46) (v := ?_) rfl (by kernel_rfl) (by kernel_rfl) (by kernel_rfl) (fun _ _ _ h => h) (by rfl) (by assumption) ?_ ?_; rotate_left; (intro W hW; (try dsimp only at hW); go_simp; try with_reducible rfl); (try simp only [Act.put, List.setIfInBounds_toArray, List.set_cons_zero, List.set_cons_succ]))
      (refine takeW (i := 47) (v := ?_) rfl (by kernel_rfl) (by kernel_rfl) (by kernel_rfl) (fun _ _ _ h => h) (by rfl) (by assumption) ?_ ?_; rotate_left; (intro W hW; (try dsimp only at hW); go_simp; try with_reducible rfl); (try simp only [Act.put, List.setIfInBounds_toArray, List.set_cons_zero, List.set_cons_succ]))
      (refine takeW (i := 48) (v := ?_) rfl (by kernel_rfl) (by kernel_rfl) (by kernel_rfl) (fun _ _ _ h => h) (by rfl) (by assumption) ?_ ?_; rotate_left; (intro W hW; (try dsimp only at hW); go_simp; try with_reducible rfl); (try simp only [Act.put, List.setIfInBounds_toArray, List.set_cons_zero, List.set_cons_succ]))
      (refine takeW (i := 49) rfl (by kernel_rfl) (by kernel_rfl) (by kernel_rfl) (fun _ _ _ h => h) (by rfl) (by assumption) (fun W hW => exec_loadW W30 rfl rfl (cs := encSc x) rfl hW.out.1.list) ?_; (try simp only [Act.put, List.setIfInBounds_toArray, List.set_cons_zero, List.set_cons_succ]))
      (refine takeW (i := 50) rfl (by kernel_rfl) (by kernel_rfl) (by kernel_rfl) (fun _ _ _ h => h) (by rfl) (by assumption) (fun W hW => exec_loadW W30 rfl rfl (cs := encSc x) rfl hW.out.1.list) ?_; (try simp only [Act.put, List.setIfInBounds_toArray, List.set_cons_zero, List.set_cons_succ]))
      refine takeC (i := 51) rfl (by kernel_rfl) (by rfl) (fun K hK => ?_)
      go_simp
      refine (sameSc_any x x W145 HS.out.gx HS.out.gx).mono ?_
      rintro e W151 ⟨rfl, hb⟩
      replace HS := Lib.hid (HS.out.keep hb)
      replace HRO := Lib.hid (HRO.out.below hb)
      (try replace HTR := Lib.hid (HTR.out.below hb))
      rw [decide_eq_true (same_refl x)]
      clear hb hHeld
      refine hK.out _ _ HS.out.s4 (fun hHeld => ?_)
      clear hK K
      (try simp only [Act.put, List.setIfInBounds_toArray, List.set_cons_zero, List.set_cons_succ])
      (refine takeW (i := 52) (v := ?_) rfl (by kernel_rfl) (by kernel_rfl) (by kernel_rfl) (fun _ _ _ h => h) (by rfl) (by assumption) ?_ ?_; rotate_left; (intro W hW; (try dsimp only at hW); go_simp; try with_reducible rfl); (try simp only [Act.put, List.setIfInBounds_toArray, List.set_cons_zero, List.set_cons_succ]))
      (refine takeW (i := 53) (v := ?_) rfl (by kernel_rfl) (by kernel_rfl) (by kernel_rfl) (fun _ _ _ h => h) (by rfl) (by assumption) ?_ ?_; rotate_left; (intro W hW; (try dsimp only at hW); go_simp; try with_reducible rfl); (try simp only [Act.put, List.setIfInBounds_toArray, List.set_cons_zero, List.set_cons_succ]))
      refine wpAnyH_done (by kernel_rfl) ?_ _
      clear hHeld hS
      go_wp2
      exact HP.out _ HS.out.bel
end Go.Proofs.Ytkinhhkodaacjaa
