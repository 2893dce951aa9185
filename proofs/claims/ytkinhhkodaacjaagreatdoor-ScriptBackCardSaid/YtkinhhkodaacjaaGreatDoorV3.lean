/- The program's number of a word, and its numbers of words. The program's bytes of a word. -/
import Derived.Test.YtkinhhkodaacjaaGreatDoorQ1
namespace Go.Proofs.YtkinhhkodaacjaaGreatDoor
open Go.RowKit Go.Shelf

set_option maxRecDepth 100000 in
set_option maxHeartbeats 1600000 in
theorem parse_num (x : List UInt8) (w : World) (hl : x.length ≤ 1000000000) : Calls Tryz.prog 75 #[strV x] w (RNum x w) := by
  have HPB : Hid (∀ (w' : World) (v : Int), Below w.heap.size w w' → numS x = none → RNum x w (.returned (.tuple #[.int .i64 v, .bool false])) w') := fun w' v hb h => ⟨⟨v, false, rfl, fun n hn => (by rw [h] at hn; cases hn), fun _ => rfl⟩, hb⟩
  have HPG : Hid (∀ (w' : World) (v : Int), Below w.heap.size w w' → numS x = some v → RNum x w (.returned (.tuple #[.int .i64 v, .bool true])) w') := fun w' v hb h => ⟨⟨v, true, rfl, fun n hn => (by rw [h] at hn; exact ⟨rfl, Option.some.inj hn⟩), fun hn => (by rw [h] at hn; cases hn)⟩, hb⟩
  have HPR := Lib.hid (prefix_any x w)
  obtain ⟨r, hr⟩ : ∃ r, r = unsign x := ⟨_, rfl⟩
  obtain ⟨ng, hng⟩ : ∃ ng, ng = decide (x.head? = some 45) := ⟨_, rfl⟩
  have HX1 : Hid ((∃ c ∈ r, isDig c = false) ∨ 19 < r.length → numS x = none) := fun h => num_bad (by rw [← hr]; exact h)
  have HX2 : Hid (∀ v : Int, (∀ c ∈ r, isDig c = true) → r.length ≤ 19 → v = (if ng = true then wrap64 (-(wrap64 (valN r))) else wrap64 (valN r)) → numS x = if decZ v = x then some v else none) := fun v h1 h2 h3 => by
    refine num_prog (by rw [← hr]; exact h1) (by rw [← hr]; exact h2) ?_
    rw [h3, hng, ← hr]
    simp only [decide_eq_true_eq]
  rw [← hr, ← hng] at HPR
  have hrl : r.length ≤ 1000000000 := by
    rw [hr]; unfold unsign
    split
    · simp; omega
    · exact hl
  generalize RNum x w = POST at *
  clear hr hng
  go_enter Tryz.func75, Tryz.ntmps75
  go_wp2_with fail
  refine HPR.out.mono ?_
  rintro e W1 ⟨rfl, hW⟩
  subst hW
  clear HPR
  obtain ⟨m, hm⟩ : ∃ m, m = r.length := ⟨_, rfl⟩
  have HMR := Lib.hid hm
  have hm6 : m ≤ 1000000000 := by omega
  have HLEN := Lib.hid (fun (w : World) (o : Oper) (ac : Act) (X : Operand) (ho : o.op = .call { callee := .builtin .len, args := #[X], argTypes := #[9] }) (hx : ac.eval X = strV r) => exec_lenS (w := w) ho hx)
  rw [← hm] at HLEN
  clear hm
  go_wp2_with ((with_reducible show wpList _ _ _ (Oper.mk (some 15) _ _ _ _ _ :: _) _ _); refine wpList_val rfl (HLEN.out _ _ _ _ rfl rfl) ?_)
  go_loopw [6, 16] (fun u i wr => ∃ k : Nat, k ≤ m ∧ k ≤ 19 ∧ i = .int .i64 k ∧ (∃ q : Nat, u = .int .u64 (q : Int) ∧ Hid (q = valN (r.take k))) ∧ Hid (∀ c ∈ r.take k, isDig c = true) ∧ wr = W1) (fun _ i _ => m - (intOf i).toNat)
  case atStart => exact ⟨0, Nat.zero_le _, Nat.zero_le _, rfl, ⟨0, rfl, rfl⟩, Lib.hid (by simp), rfl⟩
  case round =>
    obtain ⟨k, hk, hk19, rfl, ⟨q, rfl, HQ⟩, HD, hw⟩ := hrel
    obtain ⟨wo, rfl⟩ : ∃ wo : World, wo = wr := ⟨_, rfl⟩
    subst hw
    by_cases hlt : k < m
    · obtain ⟨c, hc⟩ : ∃ c, r[k]? = some c := ⟨_, List.getElem?_eq_getElem (by rw [← HMR.out]; exact hlt)⟩
      have HC := Lib.hid hc
      have hc8 := c.toNat_lt
      obtain ⟨cn, hcn⟩ : ∃ cn : Nat, cn = c.toNat := ⟨_, rfl⟩
      have HCN := Lib.hid hcn
      have hIX := fun (w : World) (o : Oper) (ac : Act) (X Y : Operand) (ho : o.op = .index 9 X Y) (hx : ac.eval X = strV r) (hy : ac.eval Y = .int .i64 (k : Int)) => exec_ix (w := w) ho hx hy hc
      rw [← hcn] at hIX
      have HIX := Lib.hid hIX
      clear hc hIX hcn
      by_cases h1 : cn < 48
      · as_aux_lemma =>
        have HBD : Hid (numS x = none) := HX1.out (.inl ⟨c, List.mem_of_getElem? HC.out, by unfold isDig; simp; have := HCN.out; omega⟩)
        have h1z : (cn : Int) < 48 := by omega
        go_wp2_with (first | ((with_reducible show wpList _ _ _ (Oper.mk (some 21) _ _ _ _ _ :: _) _ _); refine wpList_val rfl (HIX.out _ _ _ _ _ rfl rfl rfl) ?_) | ((with_reducible show wpList _ _ _ (Oper.mk (some 26) _ _ _ _ _ :: _) _ _); refine wpList_val rfl (HIX.out _ _ _ _ _ rfl rfl rfl) ?_) | ((with_reducible show wpList _ _ _ (Oper.mk (some 37) _ _ _ _ _ :: _) _ _); refine wpList_val rfl (HIX.out _ _ _ _ _ rfl rfl rfl) ?_))
        exact HPB.out _ _ (Below.refl _ _) HBD.out
      · have h1z : ¬ (cn : Int) < 48 := by omega
        by_cases h2 : 57 < cn
        · as_aux_lemma =>
          have HBD : Hid (numS x = none) := HX1.out (.inl ⟨c, List.mem_of_getElem? HC.out, by unfold isDig; simp; have := HCN.out; omega⟩)
          have h2z : (57 : Int) < (cn : Int) := by omega
          go_wp2_with (first | ((with_reducible show wpList _ _ _ (Oper.mk (some 21) _ _ _ _ _ :: _) _ _); refine wpList_val rfl (HIX.out _ _ _ _ _ rfl rfl rfl) ?_) | ((with_reducible show wpList _ _ _ (Oper.mk (some 26) _ _ _ _ _ :: _) _ _); refine wpList_val rfl (HIX.out _ _ _ _ _ rfl rfl rfl) ?_) | ((with_reducible show wpList _ _ _ (Oper.mk (some 37) _ _ _ _ _ :: _) _ _); refine wpList_val rfl (HIX.out _ _ _ _ _ rfl rfl rfl) ?_))
          exact HPB.out _ _ (Below.refl _ _) HBD.out
        · have h2z : ¬ (57 : Int) < (cn : Int) := by omega
          by_cases h3 : 18 < k
          · as_aux_lemma =>
            have HBD : Hid (numS x = none) := HX1.out (.inr (by rw [← HMR.out]; omega))
            have h3z : (18 : Int) < (k : Int) := by omega
            go_wp2_with (first | ((with_reducible show wpList _ _ _ (Oper.mk (some 21) _ _ _ _ _ :: _) _ _); refine wpList_val rfl (HIX.out _ _ _ _ _ rfl rfl rfl) ?_) | ((with_reducible show wpList _ _ _ (Oper.mk (some 26) _ _ _ _ _ :: _) _ _); refine wpList_val rfl (HIX.out _ _ _ _ _ rfl rfl rfl) ?_) | ((with_reducible show wpList _ _ _ (Oper.mk (some 37) _ _ _ _ _ :: _) _ _); refine wpList_val rfl (HIX.out _ _ _ _ _ rfl rfl rfl) ?_))
            exact HPB.out _ _ (Below.refl _ _) HBD.out
          · as_aux_lemma =>
            have h3z : ¬ (18 : Int) < (k : Int) := by omega
            have hq19 : q < 1000000000000000000 := by
              have hv := valN_lt (l := r) k HD.out
              rw [← HQ.out] at hv
              have hp : (10 : Nat) ^ k ≤ 10 ^ 18 := Nat.pow_le_pow_right (by omega) (by omega)
              have : (10 : Nat) ^ 18 = 1000000000000000000 := rfl
              omega
            obtain ⟨dg, hdg⟩ : ∃ dg : Nat, dg = cn - 48 := ⟨_, rfl⟩
            have hd9 : dg ≤ 9 := by omega
            have hw1 : IntKind.u64.wrap (10 * (q : Int)) = 10 * (q : Int) := by simp [IntKind.wrap, IntKind.signed, IntKind.bits]; omega
            have hw2 : IntKind.u8.wrap ((cn : Int) - 48) = (dg : Int) := by simp [IntKind.wrap, IntKind.signed, IntKind.bits]; omega
            have hw3 : IntKind.u64.wrap (dg : Int) = (dg : Int) := by simp [IntKind.wrap, IntKind.signed, IntKind.bits]; omega
            have hw4 : IntKind.u64.wrap (10 * (q : Int) + (dg : Int)) = 10 * (q : Int) + (dg : Int) := by simp [IntKind.wrap, IntKind.signed, IntKind.bits]; omega
            have HQ2 : Hid (10 * q + dg = valN (r.take (k + 1))) := by
              show _ = _
              rw [valN_take HC.out, ← HCN.out, ← HQ.out, hdg]
            have HD2 : Hid (∀ y ∈ r.take (k + 1), isDig y = true) := fun y hy => by
              rw [take_snocB HC.out] at hy
              rcases List.mem_append.1 hy with hy | hy
              · exact HD.out y hy
              · rw [List.mem_singleton.1 hy]
                unfold isDig
                rw [← HCN.out]
                simp; omega
            clear hdg
            go_wp2_with (first | ((with_reducible show wpList _ _ _ (Oper.mk (some 21) _ _ _ _ _ :: _) _ _); refine wpList_val rfl (HIX.out _ _ _ _ _ rfl rfl rfl) ?_) | ((with_reducible show wpList _ _ _ (Oper.mk (some 26) _ _ _ _ _ :: _) _ _); refine wpList_val rfl (HIX.out _ _ _ _ _ rfl rfl rfl) ?_) | ((with_reducible show wpList _ _ _ (Oper.mk (some 37) _ _ _ _ _ :: _) _ _); refine wpList_val rfl (HIX.out _ _ _ _ _ rfl rfl rfl) ?_))
            go_roundw
            case rel => exact ⟨k + 1, by omega, by omega, by go_num, ⟨10 * q + dg, by first | rfl | (congr 1; omega), HQ2⟩, HD2, (by first | trivial | rfl)⟩
            case measure => simp [intOf]; omega
    · obtain rfl : k = m := by omega
      have HDA : Hid (∀ c ∈ r, isDig c = true) := by
        have h := HD.out
        rw [List.take_of_length_le (by rw [← HMR.out]; exact Nat.le_refl _)] at h
        exact h
      have HQA : Hid (q = valN r) := by
        have h := HQ.out
        rw [List.take_of_length_le (by rw [← HMR.out]; exact Nat.le_refl _)] at h
        exact h
      have HR19 : Hid (r.length ≤ 19) := by show _ ≤ _; rw [← HMR.out]; exact hk19
      clear HD HQ
      obtain ⟨v, hv⟩ : ∃ v : Int, v = if ng = true then wrap64 (-(wrap64 q)) else wrap64 q := ⟨_, rfl⟩
      have HV : Hid (numS x = if decZ v = x then some v else none) := HX2.out v HDA.out HR19.out (by rw [hv, HQA.out])
      have hvb : -9223372036854775808 ≤ v ∧ v ≤ 9223372036854775807 := by rw [hv]; unfold wrap64; split <;> omega
      have hN := number_any v wo hvb.1 hvb.2
      clear HX1 HX2 HDA HQA HR19
      have key : ∀ (u : Bool), ng = u → True := fun _ _ => trivial
      cases ng with
      | true => as_aux_lemma =>
        have hv2 : wrap64 (-(wrap64 (q : Int))) = v := by rw [hv, if_pos (Eq.refl true)]
        clear hv
        go_wp2_with fail
        refine hN.mono ?_
        rintro e W2 ⟨rfl, hb2⟩
        have HB2 := Lib.hid hb2
        rw [show (Value.string ⟨(decZ v).toArray⟩) = strV (decZ v) from rfl]
        clear hb2 hN
        by_cases hz : decZ v = x
        · have HS : Hid (numS x = some v) := by show _ = _; rw [HV.out, if_pos hz]
          have hdz : decide (decZ v = x) = true := by simp [hz]
          clear hz HV
          go_wp2_with ((with_reducible show wpList _ _ _ (Oper.mk (some 51) _ _ _ _ _ :: _) _ _); refine wpList_val rfl (exec_eqS (x := decZ v) (y := x) rfl rfl rfl) ?_; rw [hdz])
          exact HPG.out _ _ HB2.out HS.out
        · have HS : Hid (numS x = none) := by show _ = _; rw [HV.out, if_neg hz]
          have hdz : decide (decZ v = x) = false := by simp [hz]
          clear hz HV
          go_wp2_with ((with_reducible show wpList _ _ _ (Oper.mk (some 51) _ _ _ _ _ :: _) _ _); refine wpList_val rfl (exec_eqS (x := decZ v) (y := x) rfl rfl rfl) ?_; rw [hdz])
          exact HPB.out _ _ HB2.out HS.out
      | false => as_aux_lemma =>
        have hv2 : wrap64 (q : Int) = v := by rw [hv, if_neg Bool.false_ne_true]
        clear hv
        go_wp2_with fail
        refine hN.mono ?_
        rintro e W2 ⟨rfl, hb2⟩
        have HB2 := Lib.hid hb2
        rw [show (Value.string ⟨(decZ v).toArray⟩) = strV (decZ v) from rfl]
        clear hb2 hN
        by_cases hz : decZ v = x
        · have HS : Hid (numS x = some v) := by show _ = _; rw [HV.out, if_pos hz]
          have hdz : decide (decZ v = x) = true := by simp [hz]
          clear hz HV
          go_wp2_with ((with_reducible show wpList _ _ _ (Oper.mk (some 51) _ _ _ _ _ :: _) _ _); refine wpList_val rfl (exec_eqS (x := decZ v) (y := x) rfl rfl rfl) ?_; rw [hdz])
          exact HPG.out _ _ HB2.out HS.out
        · have HS : Hid (numS x = none) := by show _ = _; rw [HV.out, if_neg hz]
          have hdz : decide (decZ v = x) = false := by simp [hz]
          clear hz HV
          go_wp2_with ((with_reducible show wpList _ _ _ (Oper.mk (some 51) _ _ _ _ _ :: _) _ _); refine wpList_val rfl (exec_eqS (x := decZ v) (y := x) rfl rfl rfl) ?_; rw [hdz])
          exact HPB.out _ _ HB2.out HS.out
set_option maxRecDepth 100000 in
set_option maxHeartbeats 1600000 in
theorem parseAll_any (ws : List (List UInt8)) (lv : Value) (w : World) (hw : Wds w lv ws) (hws : ∀ x ∈ ws, x.length ≤ 1000000000) (hl : ws.length ≤ 1000000000) :
    Calls Tryz.prog 48 #[lv] w (NumsV ws w) := by
  have HPB : Hid (∀ (w' : World), Below w.heap.size w w' → numsS ws = none → NumsV ws w (.returned (.tuple #[.slice none 0 0, .bool false])) w') := fun w' hb h => ⟨⟨_, false, rfl, fun n hn => (by rw [h] at hn; cases hn), fun _ => ⟨rfl, rfl⟩⟩, hb⟩
  have HPG : Hid (∀ (w' : World) (v : Value) (ns : List Int), Below w.heap.size w w' → numsS ws = some ns → w'.ownsRow w.heap.size 3 1 v ns.length (ns.map (.int .i64)) → NumsV ws w (.returned (.tuple #[v, .bool true])) w') := fun w' v ns hb h ho => ⟨⟨v, true, rfl, fun n hn => (by rw [h] at hn; cases hn; exact ⟨rfl, ho⟩), fun hn => (by rw [h] at hn; cases hn)⟩, hb⟩
  generalize NumsV ws w = POST at *
  have HW := Lib.hid hw
  have HWS := Lib.hid hws
  obtain ⟨la, lc, rfl, hlc, hlcm, hlen⟩ := hw.shape
  obtain ⟨q, hq⟩ : ∃ q, q = ws.length := ⟨_, rfl⟩
  rw [← hq] at hlc hlen HW hl ⊢
  have HQ := Lib.hid hq
  clear hw hws hq
  go_enter Tryz.func48, Tryz.ntmps48
  go_wp2
  go_loopw [4, 11] (fun u i wr => ∃ (j : Nat) (ns : List Int), j ≤ q ∧ i = .int .i64 (j : Int) ∧ Hid (numsS (ws.take j) = some ns ∧ ns.length = j) ∧ Hid (wr.ownsRow w.heap.size 3 1 u ns.length (ns.map (.int .i64))) ∧ Hid (Below w.heap.size w wr)) (fun _ i _ => q - (intOf i).toNat)
  case atStart => exact ⟨0, [], Nat.zero_le _, rfl, ⟨rfl, rfl⟩, World.ownsRow_nil _ _ _ _, Below.refl _ _⟩
  case round =>
    obtain ⟨j, ns, hjq, rfl, HN, HO, HB⟩ := hrel
    obtain ⟨wo, rfl⟩ : ∃ wo : World, wo = wr := ⟨_, rfl⟩
    obtain ⟨av, ac0, rfl, -⟩ := owns_shape HO.out
    by_cases hlt : j < q
    · obtain ⟨x, hx⟩ : ∃ x, ws[j]? = some x := ⟨_, List.getElem?_eq_getElem (by rw [← HQ.out]; exact hlt)⟩
      obtain ⟨bb, off, hba, hbl, hc⟩ := HW.out.row (by rintro rfl; simp at hx)
      subst hba
      have HC1 : Hid (wo.cell? ⟨bb, off + j, none⟩ = some (strV x)) := by
        show _ = _
        rw [HB.out.cell hbl]
        simpa using hc j x hx 0 _ rfl
      have HX := Lib.hid hx
      have hnum := Lib.hid (parse_num x wo (HWS.out x (List.mem_of_getElem? hx)))
      clear hx hc
      go_wp2_with (first | ((with_reducible show wpList _ _ _ (Oper.mk (some 14) _ _ _ _ _ :: _) _ _); refine wpList_val rfl (exec_load1 (v := strV x) FL9 rfl rfl HC1.out) ?_) | (go_at_call 75; refine (hnum.out).mono ?_))
      rintro e W2 ⟨⟨v, b, rfl, hg, hbad⟩, hb2⟩
      have HG := Lib.hid hg
      have HBD := Lib.hid hbad
      have HB2 := Lib.hid (HB.out.trans (hb2.mono HB.out.size))
      have HO2 := Lib.hid (ow_below HO.out hb2)
      have HL2 : Hid (ns.length = j) := HN.out.2
      clear hg hbad hb2 HO HB hnum HC1
      cases b with
      | false =>
        have HNN : Hid (numS x = none) := by
          show _ = _
          cases h : numS x with
          | none => rfl
          | some z => have := (HG.out z h).1; cases this
        have HRN : Hid (numsS ws = none) := by
          show _ = _
          obtain ⟨hk, e⟩ := List.getElem?_eq_some_iff.1 HX.out
          have hsp : ws = ws.take j ++ x :: ws.drop (j + 1) := by
            conv => lhs; rw [← List.take_append_drop j ws, List.drop_eq_getElem_cons hk, e]
          rw [hsp]
          exact numsS_bad HNN.out
        clear HG HBD HN
        go_wp2
        exact HPB.out _ HB2.out HRN.out
      | true =>
        obtain ⟨z, hz⟩ : ∃ z, numS x = some z := by
          cases h : numS x with
          | none => have := HBD.out h; cases this
          | some z => exact ⟨z, rfl⟩
        have hvz := (HG.out z hz).2
        subst hvz
        have HN2 : Hid (numsS (ws.take (j + 1)) = some (ns ++ [v]) ∧ (ns ++ [v]).length = j + 1) := ⟨by rw [take_snocB HX.out]; exact numsS_snoc HN.out.1 hz, by simp [HL2.out]⟩
        have HSZ : Hid (w.heap.size ≤ W2.heap.size) := HB2.out.size
        have hnl : ns.length ≤ 1000000000 := by rw [HL2.out]; omega
        clear hz HG HBD HN
        go_wp2_with (first | ((with_reducible show wpList _ _ _ (Oper.mk (some 24) _ _ _ _ _ :: _) _ _); refine wpList_val rfl (exec_oneI rfl rfl) ?_) | ((with_reducible show wpList _ _ _ (Oper.mk (some 25) _ _ _ _ _ :: _) _ _); refine wpList_app1 E67 rfl _ _ rfl HO2.out [.int .i64 v] rfl (by simp [Value.oneCell']) rfl rfl (by omega) HSZ.out ?_; intro v7 W5 ho5 hg5; have HO5 := Lib.hid ho5; have HB5 := Lib.hid (below_app HB2.out (Nat.le_refl _) HO2.out hg5 HSZ.out); clear ho5 hg5))
        go_roundw
        case rel => exact ⟨j + 1, ns ++ [v], by omega, by go_num, HN2, Lib.hid (by have := HO5.out; simpa using this), HB5⟩
        case measure => simp [intOf]; omega
    · obtain rfl : j = q := by omega
      have HRN : Hid (numsS ws = some ns) := by
        show _ = _
        have := HN.out.1
        rwa [List.take_of_length_le (by rw [← HQ.out]; exact Nat.le_refl _)] at this
      clear HN
      go_wp2
      exact HPG.out _ _ _ HB.out HRN.out HO.out
end Go.Proofs.YtkinhhkodaacjaaGreatDoor
namespace Go.Proofs.YtkinhhkodaacjaaGreatDoor
open Go.RowKit Go.Shelf

theorem exec_shl4z {w : World} {o : Oper} {ac : Act} {X : Operand} {x : Nat} {ty : TypeId} (ho : o.op = .binOp .shl 3 X (.const (.int .u64 4)) ty) (hx : ac.eval X = .int .i64 (x : Int)) (h : x < 16) : (execOp ac.eval o).run Tryz.prog w = .ok (.value (.int .i64 ((16 * x : Nat) : Int))) w := by
  have e : IntKind.i64.wrap ((x : Int) * 16) = 16 * (x : Int) := by rw [IntKind.wrap_i64]; omega
  have hc : ac.eval (.const (.int .u64 4)) = .int .u64 4 := rfl
  generalize ac.eval = ev at *
  unfold execOp
  simp only [ho, hx, hc]
  go_simp
  try simp [e]
  try exact e
set_option maxRecDepth 100000 in
set_option maxHeartbeats 1600000 in
theorem data_any (x : List UInt8) (w : World) (hl : x.length ≤ 1000000000) : Calls Tryz.prog 49 #[strV x] w (RBytes x w) := by
  have HPB : Hid (∀ (w' : World), Below w.heap.size w w' → unhexW x = none → RBytes x w (.returned (.tuple #[.slice none 0 0, .bool false])) w') := fun w' hb h => ⟨⟨_, false, rfl, fun n hn => (by rw [h] at hn; cases hn), fun _ => ⟨rfl, rfl⟩⟩, hb⟩
  have HPG : Hid (∀ (w' : World) (v : Value) (l : List UInt8), Below w.heap.size w w' → unhexW x = some l → w'.ownsRow w.heap.size 5 1 v l.length (l.map u8c) → RBytes x w (.returned (.tuple #[v, .bool true])) w') := fun w' v l hb h ho => ⟨⟨v, true, rfl, fun n hn => (by rw [h] at hn; cases hn; exact ⟨rfl, ho⟩), fun hn => (by rw [h] at hn; cases hn)⟩, hb⟩
  have HPR := Lib.hid (prefixX_any x w)
  generalize RBytes x w = POST at *
  by_cases hx0 : x.head? = some 120
  · have HUW : Hid (unhexW x = unhexL x.tail) := by show _ = _; unfold unhexW; rw [if_pos hx0]
    rw [if_pos hx0, decide_eq_true hx0] at HPR
    obtain ⟨r, hr⟩ : ∃ r, r = x.tail := ⟨_, rfl⟩
    rw [← hr] at HUW HPR
    have hrl : r.length ≤ 1000000000 := by rw [hr]; simp; omega
    obtain ⟨q, hq⟩ : ∃ q, q = r.length := ⟨_, rfl⟩
    have HLEN := Lib.hid (fun (w : World) (o : Oper) (ac : Act) (X : Operand) (ho : o.op = .call { callee := .builtin .len, args := #[X], argTypes := #[9] }) (hx : ac.eval X = strV r) => exec_lenS (w := w) ho hx)
    rw [← hq] at HLEN
    have HQ := Lib.hid hq
    have hq6 : q ≤ 1000000000 := by omega
    clear hr hq hx0
    by_cases hodd : q % 2 = 1
    · have HBD : Hid (unhexW x = none) := by show _ = _; rw [HUW.out]; exact unhexL_odd (by rw [← HQ.out]; exact hodd)
      have hm1 : (q : Int) % 2 = 1 := by omega
      have hm2 : (q : Int).tmod 2 = 1 := by rw [Int.tmod_eq_emod_of_nonneg (by omega)]; exact hm1
      clear hodd
      go_enter Tryz.func49, Tryz.ntmps49
      go_wp2_with fail
      refine HPR.out.mono ?_
      rintro e W1 ⟨rfl, hW⟩
      subst hW
      go_wp2_with ((with_reducible show wpList _ _ _ (Oper.mk (some 18) _ _ _ _ _ :: _) _ _); refine wpList_val rfl (HLEN.out _ _ _ _ rfl rfl) ?_)
      exact HPB.out _ (Below.refl _ _) HBD.out
    · have hev : q % 2 = 0 := by omega
      have hm1 : (q : Int) % 2 = 0 := by omega
      have hm2 : (q : Int).tmod 2 = 0 := by rw [Int.tmod_eq_emod_of_nonneg (by omega)]; exact hm1
      have HEV : Hid (r.length % 2 = 0) := by show _ = _; rw [← HQ.out]; exact hev
      clear hodd hev
      go_enter Tryz.func49, Tryz.ntmps49
      go_wp2_with fail
      refine HPR.out.mono ?_
      rintro e W1 ⟨rfl, hW⟩
      subst hW
      go_wp2_with ((with_reducible show wpList _ _ _ (Oper.mk (some 18) _ _ _ _ _ :: _) _ _); refine wpList_val rfl (HLEN.out _ _ _ _ rfl rfl) ?_)
      go_loopg [4, 6] q (fun kx s5 s7 wr => ∃ (l acc : List UInt8), s5 = strV l ∧ l.length ≤ kx ∧ Hid (l.length % 2 = 0 ∧ acc.length + l.length ≤ 1000000000) ∧ Hid (wr.ownsRow W1.heap.size 5 1 s7 acc.length (acc.map u8c)) ∧ Hid (Below W1.heap.size W1 wr) ∧ Hid (unhexL r = (unhexL l).map (acc ++ ·)))
      case atStart => exact ⟨r, [], rfl, by rw [HQ.out]; exact Nat.le_refl _, ⟨HEV.out, by simpa using hrl⟩, World.ownsRow_nil _ _ _ _, Below.refl _ _, Lib.hid (by cases unhexL r <;> simp)⟩
      case round =>
        obtain ⟨l, acc, rfl, hkx, HL, HO, HW, HU⟩ := hrel
        obtain ⟨av, ac0, rfl, -⟩ := owns_shape HO.out
        have hcw : IntKind.i64.wrap 2 = 2 := rfl
        cases l with
        | nil =>
          have HF : Hid (unhexW x = some acc) := by show _ = _; rw [HUW.out, HU.out]; simp [unhexL]
          have hdz : (!decide (([] : List UInt8) = [])) = false := rfl
          clear HL HU
          go_wp2_with ((with_reducible show wpList _ _ _ (Oper.mk (some 23) _ _ _ _ _ :: _) _ _); refine wpList_val rfl (exec_neS (x := []) (y := []) rfl rfl rfl) ?_; rw [hdz])
          exact HPG.out _ _ _ HW.out HF.out HO.out
        | cons a l1 =>
          cases l1 with
          | nil => exact absurd HL.out.1 (by simp)
          | cons b l2 =>
            have hdz : (!decide ((a :: b :: l2 : List UInt8) = [])) = true := rfl
            have HI0 := Lib.hid (fun (w : World) (o : Oper) (ac : Act) (X Y : Operand) (ho : o.op = .index 9 X Y) (hx : ac.eval X = strV (a :: b :: l2)) (hy : ac.eval Y = .int .i64 0) => exec_ixl (k := 0) (c := a) (w := w) ho hx hy rfl rfl)
            have HI1 := Lib.hid (fun (w : World) (o : Oper) (ac : Act) (X Y : Operand) (ho : o.op = .index 9 X Y) (hx : ac.eval X = strV (a :: b :: l2)) (hy : ac.eval Y = .int .i64 1) => exec_ixl (k := 1) (c := b) (w := w) ho hx hy rfl rfl)
            have HC0 := Lib.hid (fun w => ixbyte_any a w)
            have HC1 := Lib.hid (fun w => ixbyte_any b w)
            have HWD := Lib.hid HW.out.drew
            have HOD := Lib.hid (ow_below HO.out (Below.refl _ wr).drew)
            have hacc : acc.length + l2.length + 2 ≤ 1000000000 := by have := HL.out.2; simp only [List.length_cons] at this; omega
            have hkx2 := hkx
            simp only [List.length_cons] at hkx2
            have HL2 : Hid (l2.length % 2 = 0) := by have := HL.out.1; simp only [List.length_cons] at this; show _ = _; omega
            have HUA : Hid (∀ (i j : Nat) (rr : Option (List UInt8)), hexV a = some i → hexV b = some j → unhexL l2 = rr → unhexL (a :: b :: l2) = rr.map (UInt8.ofNat (16 * i + j) :: ·)) := fun i j rr h1 h2 h3 => by
              rw [unhexL, h1, h2, h3]
              cases rr <;> rfl
            have HUB : Hid (hexV a = none ∨ hexV b = none → unhexL (a :: b :: l2) = none) := fun h => by
              rw [unhexL]
              rcases h with h | h
              · rw [h]
              · rw [h]; cases hexV a <;> rfl
            clear HL hkx HW HO
            go_upto_region 7 with ((with_reducible show wpList _ _ _ (Oper.mk (some 23) _ _ _ _ _ :: _) _ _); refine wpList_val rfl (exec_neS (x := a :: b :: l2) (y := []) rfl rfl rfl) ?_; rw [hdz])
            try simp only [Act.put, List.setIfInBounds_toArray, List.set_cons_zero, List.set_cons_succ]
            go_cut [7, 8] from 26 to 32 (fun s8 s9 wx => s8 = .int .i64 (ixZ a) ∧ s9 = .int .i64 (ixZ b) ∧ wx = wr.drew)
            case first =>
              refine wp_region_held_drew (S := fun _ => True) (by kernel_rfl) trivial (fun hHeld => ?_)
              (refine takeW (i := 0) (v := ?_) rfl (by kernel_rfl) (by kernel_rfl) (by kernel_rfl) (fun _ _ _ h => h) (by rfl) (by assumption) ?_ ?_; rotate_left; (intro W hW; (try dsimp only at hW); go_simp; try with_reducible rfl); (try simp only [Act.put, List.setIfInBounds_toArray, List.set_cons_zero, List.set_cons_succ]))
              (refine takeW (i := 1) rfl (by kernel_rfl) (by kernel_rfl) (by kernel_rfl) (fun _ _ _ h => h) (by rfl) (by assumption) (fun W hW => HI0.out _ _ _ _ _ rfl rfl rfl) ?_; (try simp only [Act.put, List.setIfInBounds_toArray, List.set_cons_zero, List.set_cons_succ]))
              (refine takeW (i := 3) (v := ?_) rfl (by kernel_rfl) (by kernel_rfl) (by kernel_rfl) (fun _ _ _ h => h) (by rfl) (by assumption) ?_ ?_; rotate_left; (intro W hW; (try dsimp only at hW); go_simp; try with_reducible rfl); (try simp only [Act.put, List.setIfInBounds_toArray, List.set_cons_zero, List.set_cons_succ]))
              (refine takeW (i := 4) rfl (by kernel_rfl) (by kernel_rfl) (by kernel_rfl) (fun _ _ _ h => h) (by rfl) (by assumption) (fun W hW => HI1.out _ _ _ _ _ rfl rfl rfl) ?_; (try simp only [Act.put, List.setIfInBounds_toArray, List.set_cons_zero, List.set_cons_succ]))
              refine takeC (i := 2) rfl (by kernel_rfl) (by rfl) (fun K hK => ?_)
              go_simp
              refine (HC0.out _).mono ?_
              rintro e w1 ⟨rfl, hw1⟩
              subst hw1
              refine hK.out _ _ hHeld (fun hHeld => ?_)
              clear hK K
              (try simp only [Act.put, List.setIfInBounds_toArray, List.set_cons_zero, List.set_cons_succ])
              refine takeC (i := 5) rfl (by kernel_rfl) (by rfl) (fun K hK => ?_)
              go_simp
              refine (HC1.out _).mono ?_
              rintro e w1 ⟨rfl, hw1⟩
              subst hw1
              refine hK.out _ _ hHeld (fun hHeld => ?_)
              clear hK K
              (try simp only [Act.put, List.setIfInBounds_toArray, List.set_cons_zero, List.set_cons_succ])
              (refine takeW (i := 6) (v := ?_) rfl (by kernel_rfl) (by kernel_rfl) (by kernel_rfl) (fun _ _ _ h => h) (by rfl) (by assumption) ?_ ?_; rotate_left; (intro W hW; (try dsimp only at hW); go_simp; try with_reducible rfl); (try simp only [Act.put, List.setIfInBounds_toArray, List.set_cons_zero, List.set_cons_succ]))
              (refine takeW (i := 7) (v := ?_) rfl (by kernel_rfl) (by kernel_rfl) (by kernel_rfl) (fun _ _ _ h => h) (by rfl) (by assumption) ?_ ?_; rotate_left; (intro W hW; (try dsimp only at hW); go_simp; try with_reducible rfl); (try simp only [Act.put, List.setIfInBounds_toArray, List.set_cons_zero, List.set_cons_succ]))
              refine wpAnyH_done (by kernel_rfl) ?_ _
              clear hHeld
              go_wp2_with fail
              go_meet
              exact ⟨rfl, rfl, rfl⟩
            case rest =>
            obtain ⟨rfl, rfl, hwc⟩ := hcut
            subst hwc
            clear HI0 HI1 HC0 HC1
            cases ha : hexV a with
            | none =>
              have HBD : Hid (unhexW x = none) := by show _ = _; rw [HUW.out, HU.out, HUB.out (.inl ha)]; rfl
              rw [show ixZ a = -1 by unfold ixZ; rw [ha]]
              clear ha HUA HUB HU
              go_wp2
              exact HPB.out _ HWD.out HBD.out
            | some i =>
              rw [show ixZ a = (i : Int) by unfold ixZ; rw [ha]]
              cases hb : hexV b with
              | none =>
                have HBD : Hid (unhexW x = none) := by show _ = _; rw [HUW.out, HU.out, HUB.out (.inr hb)]; rfl
                rw [show ixZ b = -1 by unfold ixZ; rw [hb]]
                have hi0 : ¬ ((i : Int) < 0) := by omega
                clear ha hb HUA HUB HU
                go_wp2
                exact HPB.out _ HWD.out HBD.out
              | some j =>
                rw [show ixZ b = (j : Int) by unfold ixZ; rw [hb]]
                have hi := (hexC_hexV ha).2
                have hj := (hexC_hexV hb).2
                have HU2 : Hid (unhexL r = (unhexL l2).map ((acc ++ [UInt8.ofNat (16 * i + j)]) ++ ·)) := by
                  show _ = _
                  rw [HU.out, HUA.out i j _ ha hb rfl]
                  cases unhexL l2 <;> simp
                have hi0 : ¬ ((i : Int) < 0) := by omega
                have hj0 : ¬ ((j : Int) < 0) := by omega
                have h256 : 16 * i + j < 256 := by omega
                have HSZ : Hid (W1.heap.size ≤ wr.drew.heap.size) := HWD.out.size
                clear ha hb HUA HUB HU
                generalize wr.drew = wd at *
                go_wp2_with (first | ((with_reducible show wpList _ _ _ (Oper.mk (some 40) _ _ _ _ _ :: _) _ _); refine wpList_val rfl (exec_shl4z (x := i) rfl rfl hi) ?_) | ((with_reducible show wpList _ _ _ (Oper.mk (some 42) _ _ _ _ _ :: _) _ _); refine wpList_val rfl (exec_orh (x := i) (y := j) rfl rfl rfl hi hj) ?_) | ((with_reducible show wpList _ _ _ (Oper.mk (some 43) _ _ _ _ _ :: _) _ _); refine wpList_val rfl (exec_cv8 (q := 16 * i + j) rfl rfl h256) ?_) | ((with_reducible show wpList _ _ _ (Oper.mk (some 44) _ _ _ _ _ :: _) _ _); refine wpList_val rfl (exec_oneS exec_one1 rfl rfl) ?_) | ((with_reducible show wpList _ _ _ (Oper.mk (some 25) _ _ _ _ _ :: _) _ _); refine wpList_val rfl (exec_slice rfl rfl rfl rfl (run_tail2 a b l2 _)) ?_) | (at_builtin; refine wpList_app1 E36 rfl _ _ rfl HOD.out [u8c (UInt8.ofNat (16 * i + j))] rfl (by simp [u8c, Value.oneCell']) rfl rfl (by omega) HSZ.out ?_; intro v7 W5 ho5 hg5; have HO5 := Lib.hid ho5; have HW5 := Lib.hid (below_app HWD.out (Nat.le_refl _) HOD.out hg5 HSZ.out); clear ho5 hg5))
                go_roundg l2.length
                case measure => omega
                case rel => exact ⟨l2, acc ++ [UInt8.ofNat (16 * i + j)], rfl, Nat.le_refl _, ⟨HL2.out, by simp; omega⟩, (by have := HO5.out; show World.ownsRow _ _ _ _ _ _ _; simpa using this), HW5, HU2⟩
  · have HBD : Hid (unhexW x = none) := by show _ = _; unfold unhexW; rw [if_neg hx0]
    rw [if_neg hx0, decide_eq_false hx0] at HPR
    clear hx0
    go_enter Tryz.func49, Tryz.ntmps49
    go_wp2_with fail
    refine HPR.out.mono ?_
    rintro e W1 ⟨rfl, hW⟩
    subst hW
    go_wp2_with fail
    exact HPB.out _ (Below.refl _ _) HBD.out
end Go.Proofs.YtkinhhkodaacjaaGreatDoor
