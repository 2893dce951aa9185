/- The document's number. The document's next line, and a line of numbers. -/
import Derived.Test.YtkinhhkodaacjaaGreatDoorZ6
namespace Go.Proofs.YtkinhhkodaacjaaGreatDoor
open Go.RowKit Go.Shelf

theorem valN_le (l : List UInt8) : ∀ (k : Nat), valN (l.take k) ≤ valN l := by
  have h : ∀ (m l : List UInt8), valN l ≤ valN (l ++ m) := by
    intro m
    induction m with
    | nil => intro l; simp
    | cons c m ih =>
      intro l
      have := ih (l ++ [c])
      rw [valN_snoc] at this
      have e : l ++ c :: m = l ++ [c] ++ m := by simp
      rw [e]; omega
  intro k
  have := h (l.drop k) (l.take k)
  rwa [List.take_append_drop] at this
def RNum (x : List UInt8) (w : World) (e : Ending) (w' : World) : Prop :=
  (∃ (v : Int) (b : Bool), e = .returned (.tuple #[.int .i64 v, .bool b]) ∧ (∀ n, numS x = some n → b = true ∧ v = n) ∧ (numS x = none → b = false)) ∧ Below w.heap.size w w'
theorem exec_eqS {w : World} {o : Oper} {ac : Act} {X Y : Operand} {ty : TypeId} {x y : List UInt8} (ho : o.op = .binOp .eql 9 X Y ty) (hx : ac.eval X = strV x) (hy : ac.eval Y = strV y) : (execOp ac.eval o).run Tryz.prog w = .ok (.value (.bool (decide (x = y)))) w := by
  generalize ac.eval = ev at *
  unfold execOp
  simp only [ho, hx, hy, strV]
  by_cases h : x = y
  · subst h
    go_simp
    try simp
  · have h2 : ¬ (⟨x.toArray⟩ : ByteArray) = ⟨y.toArray⟩ := fun e => h (by have := congrArg (fun b : ByteArray => b.data.toList) e; simpa using this)
    go_simp
    try simp [h, h2]
set_option maxRecDepth 100000 in
set_option maxHeartbeats 1600000 in
theorem rnum46_any (x : List UInt8) (w : World) (hl : x.length ≤ 1000000000) : Calls Tryz.prog 78 #[strV x] w (RNum x w) := by
  have HPB : Hid (∀ (w' : World) (v : Int), Below w.heap.size w w' → numS x = none → RNum x w (.returned (.tuple #[.int .i64 v, .bool false])) w') := fun w' v hb h => ⟨⟨v, false, rfl, fun n hn => (by rw [h] at hn; cases hn), fun _ => rfl⟩, hb⟩
  have HPG : Hid (∀ (w' : World) (v : Int), Below w.heap.size w w' → numS x = some v → RNum x w (.returned (.tuple #[.int .i64 v, .bool true])) w') := fun w' v hb h => ⟨⟨v, true, rfl, fun n hn => (by rw [h] at hn; exact ⟨rfl, Option.some.inj hn⟩), fun hn => (by rw [h] at hn; cases hn)⟩, hb⟩
  generalize RNum x w = POST at *
  obtain ⟨q, hq⟩ : ∃ q, q = x.length := ⟨_, rfl⟩
  have HLEN := Lib.hid (fun (w : World) (o : Oper) (ac : Act) (X : Operand) (ho : o.op = .call { callee := .builtin .len, args := #[X], argTypes := #[9] }) (hx : ac.eval X = strV x) => exec_lenS (w := w) ho hx)
  rw [← hq] at HLEN
  have HQ := Lib.hid hq
  have hq6 : q ≤ 1000000000 := by omega
  obtain ⟨r, hr⟩ : ∃ r, r = unsign x := ⟨_, rfl⟩
  obtain ⟨ng, hng⟩ : ∃ ng, ng = decide (x.head? = some 45) := ⟨_, rfl⟩
  obtain ⟨sg, hsg⟩ : ∃ sg : Nat, sg = if ng = true then 1 else 0 := ⟨_, rfl⟩
  have HRX : Hid (∀ k, sg ≤ k → x[k]? = r[k - sg]?) := fun k hk => by
    rw [hr, hsg, hng]
    unfold unsign
    by_cases h : x.head? = some 45
    · rw [if_pos h, decide_eq_true h, if_pos rfl]
      rw [hsg, hng, decide_eq_true h, if_pos rfl] at hk
      rw [List.getElem?_tail]
      congr 1; omega
    · rw [if_neg h, decide_eq_false h, if_neg (by simp)]; rfl
  have HRL : Hid (sg + r.length = q) := by
    show _ = _
    rw [hr, hsg, hng, hq]
    unfold unsign
    by_cases h : x.head? = some 45
    · rw [if_pos h, decide_eq_true h, if_pos rfl]
      cases x with
      | nil => cases h
      | cons a l => simp; omega
    · rw [if_neg h, decide_eq_false h, if_neg (by simp)]; omega
  have HHD : Hid (ng = true → ∃ l, x = 45 :: l) := fun h => by
    rw [hng, decide_eq_true_eq] at h
    cases x with
    | nil => cases h
    | cons a l => simp only [List.head?_cons, Option.some.injEq] at h; exact ⟨l, by rw [h]⟩
  have HHN : Hid (ng = false → ∀ a, x[0]? = some a → a ≠ 45) := fun h a ha => by
    rw [hng, decide_eq_false_iff_not] at h
    rintro rfl
    refine h ?_
    cases x with
    | nil => simp at ha
    | cons b l => simpa using ha
  have HBADD : Hid (∀ c ∈ r, isDig c = false → numS x = none) := fun c hc h => num_bad (.inl ⟨c, by rw [← hr]; exact hc, h⟩)
  have HBIG : Hid (∀ k, 9223372036854775808 < valN (r.take k) → numS x = none) := fun k h => num_big (.inl (by have := valN_le r k; rw [hr] at this h; rw [hr] at *; omega))
  have HEND : Hid (∀ v : Int, (∀ c ∈ r, isDig c = true) → valN r ≤ 9223372036854775808 → (ng = false → valN r ≠ 9223372036854775808) → v = (if ng = true then -(valN r : Int) else (valN r : Int)) → numS x = if decZ v = x then some v else none) := fun v h1 h2 h3 h4 => by
    refine num_ref (by rw [← hr]; exact h1) (by rw [← hr]; exact h2) (fun h => by rw [← hr]; exact h3 (by rw [hng]; exact decide_eq_false h)) ?_
    rw [h4, hng, ← hr]
    simp only [decide_eq_true_eq]
  have HQN : Hid (ng = false → valN r = 9223372036854775808 → numS x = none) := fun h1 h2 => num_big (.inr ⟨by rw [hng] at h1; exact of_decide_eq_false h1, by rw [← hr]; exact h2⟩)
  have hsg1 : sg ≤ 1 := by rw [hsg]; split <;> omega
  have HSG := Lib.hid hsg
  clear hq hr hng hsg
  go_enter Tryz.func78, Tryz.ntmps78
  go_upto_region 2 with fail
  go_cut [5] from 7 to 15 (fun s wx => s = .bool ng ∧ wx = w)
  case first =>
    by_cases h0 : q = 0
    · have hz : ¬ ((0 : Int) < (q : Int)) := by omega
      have HN0 : Hid (ng = false) := by
        cases ng with
        | false => rfl
        | true =>
          obtain ⟨l, hl2⟩ := HHD.out rfl
          have := HQ.out
          rw [hl2] at this
          simp at this
          omega
      clear h0
      go_wp2_with ((with_reducible show wpList _ _ _ (Oper.mk (some 8) _ _ _ _ _ :: _) _ _); refine wpList_val rfl (HLEN.out _ _ _ _ rfl rfl) ?_)
      go_meet
      exact ⟨by rw [HN0.out], rfl⟩
    · have hz : (0 : Int) < (q : Int) := by omega
      obtain ⟨c, hc⟩ : ∃ c, x[0]? = some c := ⟨_, List.getElem?_eq_getElem (by have := HQ.out; omega)⟩
      have HIX := Lib.hid (fun (w : World) (o : Oper) (ac : Act) (X Y : Operand) (ho : o.op = .index 9 X Y) (hx : ac.eval X = strV x) (hy : ac.eval Y = .int .i64 0) => exec_ixl (k := 0) (w := w) ho hx hy rfl hc)
      obtain ⟨cn, hcn⟩ : ∃ cn, cn = c.toNat := ⟨_, rfl⟩
      rw [← hcn] at HIX
      have HCN := Lib.hid hcn
      have HC := Lib.hid hc
      clear hc hcn h0
      cases ng with
      | false =>
        have hb : ((cn : Int) == 45) = false := by
          have := HHN.out rfl c HC.out
          have h2 : c.toNat ≠ 45 := fun e => this (UInt8.toNat_inj.1 (by rw [e]; rfl))
          have := HCN.out
          simp; omega
        go_wp2_with (first | ((with_reducible show wpList _ _ _ (Oper.mk (some 8) _ _ _ _ _ :: _) _ _); refine wpList_val rfl (HLEN.out _ _ _ _ rfl rfl) ?_) | ((with_reducible show wpList _ _ _ (Oper.mk (some 12) _ _ _ _ _ :: _) _ _); refine wpList_val rfl (HIX.out _ _ _ _ _ rfl rfl rfl) ?_))
        go_meet
        exact ⟨rfl, rfl⟩
      | true =>
        have hb : ((cn : Int) == 45) = true := by
          obtain ⟨l, hl2⟩ := HHD.out rfl
          have h2 := HC.out
          rw [hl2] at h2
          simp at h2
          have := HCN.out
          rw [← h2] at this
          have e : (45 : UInt8).toNat = 45 := rfl
          simp; omega
        go_wp2_with (first | ((with_reducible show wpList _ _ _ (Oper.mk (some 8) _ _ _ _ _ :: _) _ _); refine wpList_val rfl (HLEN.out _ _ _ _ rfl rfl) ?_) | ((with_reducible show wpList _ _ _ (Oper.mk (some 12) _ _ _ _ _ :: _) _ _); refine wpList_val rfl (HIX.out _ _ _ _ _ rfl rfl rfl) ?_))
        go_meet
        exact ⟨rfl, rfl⟩
  case rest =>
  obtain ⟨rfl, hw⟩ := hcut
  subst hw
  go_wp2_with fail
  go_loopw [4, 6] (fun n i wr => ∃ (k V : Nat), k ≤ q ∧ i = .int .i64 k ∧ n = .int .i64 (-(V : Int)) ∧ V ≤ 9223372036854775808 ∧ Hid (V = valN (r.take (k - sg)) ∧ ∀ c ∈ r.take (k - sg), isDig c = true) ∧ wr = wc) (fun _ i _ => q - (intOf i).toNat)
  case atStart => exact ⟨0, 0, Nat.zero_le _, rfl, rfl, by omega, Lib.hid (by simp [valN]), rfl⟩
  case round =>
    obtain ⟨k, V, hk, rfl, rfl, hV, HV, hw⟩ := hrel
    subst hw
    by_cases hlt : k < q
    · go_upto_region 6 with ((with_reducible show wpList _ _ _ (Oper.mk (some 17) _ _ _ _ _ :: _) _ _); refine wpList_val rfl (HLEN.out _ _ _ _ rfl rfl) ?_)
      obtain ⟨sk, hsk⟩ : ∃ sk, sk = decide (k < sg) := ⟨_, rfl⟩
      have HSK := Lib.hid hsk
      clear hsk
      go_cut [25] from 21 to 26 (fun s wx => s = .bool sk ∧ wx = wr)
      case first =>
        by_cases hk0 : k = 0
        · have hb : ((k : Int) == 0) = true := by simp [hk0]
          have HE : Hid (sk = ng) := by
            show _ = _
            rw [HSK.out, HSG.out, hk0]
            cases ng <;> rfl
          clear hk0
          go_wp2_with fail
          go_meet
          exact ⟨by rw [HE.out], rfl⟩
        · have hb : ((k : Int) == 0) = false := by simp; omega
          have HE : Hid (sk = false) := by show _ = _; rw [HSK.out]; exact decide_eq_false (by omega)
          clear hk0
          go_wp2_with fail
          go_meet
          exact ⟨by rw [HE.out], rfl⟩
      case rest =>
      obtain ⟨rfl, hw⟩ := hcut
      subst hw
      cases sk with
      | true =>
        have hks : k < sg := of_decide_eq_true HSK.out.symm
        have HV2 : Hid (V = valN (r.take (k + 1 - sg)) ∧ ∀ c ∈ r.take (k + 1 - sg), isDig c = true) := by
          have := HV.out
          rw [show k - sg = 0 by omega] at this
          rw [show k + 1 - sg = 0 by omega]
          exact this
        clear hks HV
        go_wp2
        go_roundw
        case rel => exact ⟨k + 1, V, by omega, by go_num, rfl, hV, HV2, (by first | trivial | rfl)⟩
        case measure => simp [intOf]; omega
      | false =>
        have hks : ¬ k < sg := of_decide_eq_false HSK.out.symm
        obtain ⟨c, hc⟩ : ∃ c, x[k]? = some c := ⟨_, List.getElem?_eq_getElem (by have := HQ.out; omega)⟩
        have hrc : r[k - sg]? = some c := by rw [← HRX.out k (by omega)]; exact hc
        have HRC := Lib.hid hrc
        have hIX := fun (w : World) (o : Oper) (ac : Act) (X Y : Operand) (ho : o.op = .index 9 X Y) (hx : ac.eval X = strV x) (hy : ac.eval Y = .int .i64 (k : Int)) => exec_ix (w := w) ho hx hy hc
        obtain ⟨cn, hcn⟩ : ∃ cn, cn = c.toNat := ⟨_, rfl⟩
        rw [← hcn] at hIX
        have HIX := Lib.hid hIX
        have HCN := Lib.hid hcn
        have hc8 : cn < 256 := by rw [hcn]; exact c.toNat_lt
        have HKS := Lib.hid hks
        clear hc hrc hIX hcn hks
        by_cases h1 : cn < 48
        · as_aux_lemma =>
          have HBD : Hid (numS x = none) := HBADD.out c (List.mem_of_getElem? HRC.out) (by unfold isDig; simp; have := HCN.out; omega)
          have h1z : (cn : Int) < 48 := by omega
          go_wp2_with (first | ((with_reducible show wpList _ _ _ (Oper.mk (some 28) _ _ _ _ _ :: _) _ _); refine wpList_val rfl (HIX.out _ _ _ _ _ rfl rfl rfl) ?_) | ((with_reducible show wpList _ _ _ (Oper.mk (some 33) _ _ _ _ _ :: _) _ _); refine wpList_val rfl (HIX.out _ _ _ _ _ rfl rfl rfl) ?_) | ((with_reducible show wpList _ _ _ (Oper.mk (some 40) _ _ _ _ _ :: _) _ _); refine wpList_val rfl (HIX.out _ _ _ _ _ rfl rfl rfl) ?_) | ((with_reducible show wpList _ _ _ (Oper.mk (some 51) _ _ _ _ _ :: _) _ _); refine wpList_val rfl (HIX.out _ _ _ _ _ rfl rfl rfl) ?_))
          exact HPB.out _ _ (Below.refl _ _) HBD.out
        · have h1z : ¬ (cn : Int) < 48 := by omega
          by_cases h2 : 57 < cn
          · as_aux_lemma =>
            have HBD : Hid (numS x = none) := HBADD.out c (List.mem_of_getElem? HRC.out) (by unfold isDig; simp; have := HCN.out; omega)
            have h2z : (57 : Int) < (cn : Int) := by omega
            go_wp2_with (first | ((with_reducible show wpList _ _ _ (Oper.mk (some 28) _ _ _ _ _ :: _) _ _); refine wpList_val rfl (HIX.out _ _ _ _ _ rfl rfl rfl) ?_) | ((with_reducible show wpList _ _ _ (Oper.mk (some 33) _ _ _ _ _ :: _) _ _); refine wpList_val rfl (HIX.out _ _ _ _ _ rfl rfl rfl) ?_) | ((with_reducible show wpList _ _ _ (Oper.mk (some 40) _ _ _ _ _ :: _) _ _); refine wpList_val rfl (HIX.out _ _ _ _ _ rfl rfl rfl) ?_) | ((with_reducible show wpList _ _ _ (Oper.mk (some 51) _ _ _ _ _ :: _) _ _); refine wpList_val rfl (HIX.out _ _ _ _ _ rfl rfl rfl) ?_))
            exact HPB.out _ _ (Below.refl _ _) HBD.out
          · have h2z : ¬ (57 : Int) < (cn : Int) := by omega
            obtain ⟨dg, hdg⟩ : ∃ dg : Nat, dg = cn - 48 := ⟨_, rfl⟩
            have hd9 : dg ≤ 9 := by omega
            have hcd : cn = dg + 48 := by omega
            have hw2 : IntKind.u8.wrap ((cn : Int) - 48) = (dg : Int) := by simp [IntKind.wrap, IntKind.signed, IntKind.bits]; omega
            have hw3 : IntKind.i64.wrap (dg : Int) = (dg : Int) := IntWalk.i64_in _ (by omega)
            obtain ⟨P, hP⟩ : ∃ P : Int, P = -9223372036854775808 + (dg : Int) := ⟨_, rfl⟩
            have hw4 : IntKind.i64.wrap (-9223372036854775808 + (dg : Int)) = P := by rw [hP]; exact IntWalk.i64_in _ (by omega)
            obtain ⟨Q, hQ⟩ : ∃ Q : Int, Q = P.tdiv 10 := ⟨_, rfl⟩
            have hQb : -922337203685477581 ≤ Q ∧ Q ≤ 0 ∧ (Q : Int) = -((9223372036854775808 - (dg : Int)) / 10) := by
              have e : P = -(9223372036854775808 - (dg : Int)) := by omega
              rw [hQ, e, Int.neg_tdiv, Int.tdiv_eq_ediv_of_nonneg (by omega)]
              omega
            have hw5 : IntKind.i64.wrap (P.tdiv 10) = Q := by rw [← hQ]; exact IntWalk.i64_in _ (by omega)
            have HV10 : Hid (10 * V + dg = valN (r.take (k + 1 - sg))) := by
              show _ = _
              rw [show k + 1 - sg = (k - sg) + 1 by have := HKS.out; omega, valN_take HRC.out, ← HCN.out, ← HV.out.1, hdg]
            have HD2 : Hid (∀ y ∈ r.take (k + 1 - sg), isDig y = true) := fun y hy => by
              rw [show k + 1 - sg = (k - sg) + 1 by have := HKS.out; omega, take_snocB HRC.out] at hy
              rcases List.mem_append.1 hy with hy | hy
              · exact HV.out.2 y hy
              · rw [List.mem_singleton.1 hy]
                unfold isDig
                rw [← HCN.out]
                simp; omega
            have HQB := Lib.hid hQb
            clear hP hQ hdg hcd HV
            by_cases h3 : 9223372036854775808 < 10 * V + dg
            · as_aux_lemma =>
              have HBD : Hid (numS x = none) := HBIG.out _ (by rw [← HV10.out]; exact h3)
              have h3z : -(V : Int) < Q := by have := HQB.out; omega
              clear hQb
              go_wp2_with (first | ((with_reducible show wpList _ _ _ (Oper.mk (some 28) _ _ _ _ _ :: _) _ _); refine wpList_val rfl (HIX.out _ _ _ _ _ rfl rfl rfl) ?_) | ((with_reducible show wpList _ _ _ (Oper.mk (some 33) _ _ _ _ _ :: _) _ _); refine wpList_val rfl (HIX.out _ _ _ _ _ rfl rfl rfl) ?_) | ((with_reducible show wpList _ _ _ (Oper.mk (some 40) _ _ _ _ _ :: _) _ _); refine wpList_val rfl (HIX.out _ _ _ _ _ rfl rfl rfl) ?_) | ((with_reducible show wpList _ _ _ (Oper.mk (some 51) _ _ _ _ _ :: _) _ _); refine wpList_val rfl (HIX.out _ _ _ _ _ rfl rfl rfl) ?_))
              exact HPB.out _ _ (Below.refl _ _) HBD.out
            · as_aux_lemma =>
              have h3z : ¬ (-(V : Int) < Q) := by have := HQB.out; omega
              have hw6 : IntKind.i64.wrap (10 * -(V : Int)) = 10 * -(V : Int) := IntWalk.i64_in _ (by omega)
              have hw7 : IntKind.i64.wrap (10 * -(V : Int) - (dg : Int)) = 10 * -(V : Int) - (dg : Int) := IntWalk.i64_in _ (by omega)
              clear hQb
              go_wp2_with (first | ((with_reducible show wpList _ _ _ (Oper.mk (some 28) _ _ _ _ _ :: _) _ _); refine wpList_val rfl (HIX.out _ _ _ _ _ rfl rfl rfl) ?_) | ((with_reducible show wpList _ _ _ (Oper.mk (some 33) _ _ _ _ _ :: _) _ _); refine wpList_val rfl (HIX.out _ _ _ _ _ rfl rfl rfl) ?_) | ((with_reducible show wpList _ _ _ (Oper.mk (some 40) _ _ _ _ _ :: _) _ _); refine wpList_val rfl (HIX.out _ _ _ _ _ rfl rfl rfl) ?_) | ((with_reducible show wpList _ _ _ (Oper.mk (some 51) _ _ _ _ _ :: _) _ _); refine wpList_val rfl (HIX.out _ _ _ _ _ rfl rfl rfl) ?_))
              go_roundw
              case rel => exact ⟨k + 1, 10 * V + dg, by omega, by go_num, by congr 1; omega, by omega, ⟨HV10.out, HD2.out⟩, (by first | trivial | rfl)⟩
              case measure => simp [intOf]; omega
    · as_aux_lemma =>
      obtain rfl : k = q := by omega
      have HVA : Hid (V = valN r ∧ ∀ c ∈ r, isDig c = true) := by
        have := HV.out
        rwa [List.take_of_length_le (by have := HRL.out; omega)] at this
      clear HV
      cases ng with
      | false =>
        by_cases hz : V = 9223372036854775808
        · have HBD : Hid (numS x = none) := HQN.out rfl (by rw [← HVA.out.1, hz])
          have hb : (-(V : Int) == -9223372036854775808) = true := by simp [hz]
          clear hz HEND
          go_wp2_with ((with_reducible show wpList _ _ _ (Oper.mk (some 17) _ _ _ _ _ :: _) _ _); refine wpList_val rfl (HLEN.out _ _ _ _ rfl rfl) ?_)
          exact HPB.out _ _ (Below.refl _ _) HBD.out
        · have hb : (-(V : Int) == -9223372036854775808) = false := by simp; omega
          have hwn : IntKind.i64.wrap (-(-(V : Int))) = (V : Int) := by rw [Int.neg_neg]; exact IntWalk.i64_in _ (by omega)
          have hwn2 : IntKind.i64.wrap (V : Int) = (V : Int) := IntWalk.i64_in _ (by omega)
          have HS : Hid (numS x = if decZ (V : Int) = x then some (V : Int) else none) := HEND.out _ HVA.out.2 (by rw [← HVA.out.1]; omega) (fun _ => by rw [← HVA.out.1]; exact hz) (by rw [if_neg Bool.false_ne_true, HVA.out.1])
          have hN := rnum_any _ (V : Int) wr rfl (by omega) (by omega)
          clear hz HEND
          go_wp2_with ((with_reducible show wpList _ _ _ (Oper.mk (some 17) _ _ _ _ _ :: _) _ _); refine wpList_val rfl (HLEN.out _ _ _ _ rfl rfl) ?_)
          refine hN.mono ?_
          rintro e W2 ⟨rfl, hb2⟩
          have HB2 := Lib.hid hb2
          rw [show (Value.string ⟨(decZ (V : Int)).toArray⟩) = strV (decZ (V : Int)) from rfl]
          clear hb2 hN
          by_cases hz : decZ (V : Int) = x
          · have HE : Hid (numS x = some (V : Int)) := by show _ = _; rw [HS.out, if_pos hz]
            have hdz : decide (decZ (V : Int) = x) = true := decide_eq_true hz
            clear hz HS
            go_wp2_with ((with_reducible show wpList _ _ _ (Oper.mk (some 69) _ _ _ _ _ :: _) _ _); refine wpList_val rfl (exec_eqS (x := decZ (V : Int)) (y := x) rfl rfl rfl) ?_; rw [hdz])
            exact HPG.out _ _ HB2.out HE.out
          · have HE : Hid (numS x = none) := by show _ = _; rw [HS.out, if_neg hz]
            have hdz : decide (decZ (V : Int) = x) = false := decide_eq_false hz
            clear hz HS
            go_wp2_with ((with_reducible show wpList _ _ _ (Oper.mk (some 69) _ _ _ _ _ :: _) _ _); refine wpList_val rfl (exec_eqS (x := decZ (V : Int)) (y := x) rfl rfl rfl) ?_; rw [hdz])
            exact HPB.out _ _ HB2.out HE.out
      | true =>
        have HS : Hid (numS x = if decZ (-(V : Int)) = x then some (-(V : Int)) else none) := HEND.out _ HVA.out.2 (by rw [← HVA.out.1]; omega) (fun h => by cases h) (by rw [if_pos (Eq.refl true), HVA.out.1])
        have hN := rnum_any _ (-(V : Int)) wr rfl (by omega) (by omega)
        clear HEND
        go_wp2_with ((with_reducible show wpList _ _ _ (Oper.mk (some 17) _ _ _ _ _ :: _) _ _); refine wpList_val rfl (HLEN.out _ _ _ _ rfl rfl) ?_)
        refine hN.mono ?_
        rintro e W2 ⟨rfl, hb2⟩
        have HB2 := Lib.hid hb2
        rw [show (Value.string ⟨(decZ (-(V : Int))).toArray⟩) = strV (decZ (-(V : Int))) from rfl]
        clear hb2 hN
        by_cases hz : decZ (-(V : Int)) = x
        · have HE : Hid (numS x = some (-(V : Int))) := by show _ = _; rw [HS.out, if_pos hz]
          have hdz : decide (decZ (-(V : Int)) = x) = true := decide_eq_true hz
          clear hz HS
          go_wp2_with ((with_reducible show wpList _ _ _ (Oper.mk (some 69) _ _ _ _ _ :: _) _ _); refine wpList_val rfl (exec_eqS (x := decZ (-(V : Int))) (y := x) rfl rfl rfl) ?_; rw [hdz])
          exact HPG.out _ _ HB2.out HE.out
        · have HE : Hid (numS x = none) := by show _ = _; rw [HS.out, if_neg hz]
          have hdz : decide (decZ (-(V : Int)) = x) = false := decide_eq_false hz
          clear hz HS
          go_wp2_with ((with_reducible show wpList _ _ _ (Oper.mk (some 69) _ _ _ _ _ :: _) _ _); refine wpList_val rfl (exec_eqS (x := decZ (-(V : Int))) (y := x) rfl rfl rfl) ?_; rw [hdz])
          exact HPB.out _ _ HB2.out HE.out
end Go.Proofs.YtkinhhkodaacjaaGreatDoor
namespace Go.Proofs.YtkinhhkodaacjaaGreatDoor
open Go.RowKit Go.Shelf

theorem FL9 : Flat Tryz.prog 9 := ⟨⟨_, Tryz.underlying9, rfl⟩, by kernel_rfl⟩
theorem FL3 : Flat Tryz.prog 3 := ⟨⟨_, Tryz.underlying3, rfl⟩, by kernel_rfl⟩
def rfC (s : List UInt8) (at' n : Nat) : List Value := [strV s, .int .i64 (at' : Int), .int .i64 (n : Int)]
theorem next_hit {s : List UInt8} {a k : Nat} (hak : a ≤ k) (hk : s[k]? = some 10) (hn : (10 : UInt8) ∉ (s.take k).drop a) : nextW (s.drop a) = some (splitB 32 ((s.take k).drop a), s.drop (k + 1)) := by
  obtain ⟨h1, h2⟩ := List.getElem?_eq_some_iff.1 hk
  have e : s.drop a = (s.take k).drop a ++ 10 :: s.drop (k + 1) := by
    have e1 : s.drop a = ((s.take k) ++ s.drop k).drop a := by rw [List.take_append_drop]
    have e2 : s.drop k = 10 :: s.drop (k + 1) := by rw [← h2]; exact List.drop_eq_getElem_cons h1
    rw [e1, List.drop_append_of_le_length (by rw [List.length_take]; omega), e2]
  unfold nextW
  rw [e, cutB_of hn]
  rfl
theorem next_miss {s : List UInt8} {a : Nat} (hn : (10 : UInt8) ∉ s.drop a) : nextW (s.drop a) = none := by
  unfold nextW
  rw [cutB_none.2 hn]
  rfl
def RowP (first : List UInt8) (k : Nat) (ws : List (List UInt8)) (w : World) (e : Ending) (w' : World) : Prop :=
  (∃ (v : Value) (b : Bool), e = .returned (.tuple #[v, .bool b]) ∧ (∀ ns, rowS first k ws = some ns → b = true ∧ w'.ownsRow w.heap.size 3 1 v ns.length (ns.map (.int .i64))) ∧ (rowS first k ws = none → b = false)) ∧ Below w.heap.size w w'
theorem E67 : Elem Tryz.prog 23 3 (.int .i64 0) 1 8 := ⟨Tryz.underlying23, by kernel_rfl, rfl, by decide, by decide⟩
theorem run_oneI (x : Int) (w : World) : (Instr.buildSlice 23 1 #[(0, .int .i64 x)]).run Tryz.prog w = .ok (.slice (some ⟨w.heap.size, 0, none⟩) 1 1) (w.alloc (.cells #[.int .i64 x] 3)) := by
  unfold Instr.buildSlice
  go_simp
  try rfl
theorem exec_oneI {w : World} {o : Oper} {ac : Act} {X : Operand} {x : Int} (ho : o.op = .buildSlice 23 1 #[(0, X)]) (hx : ac.eval X = .int .i64 x) : (execOp ac.eval o).run Tryz.prog w = .ok (.value (.slice (some ⟨w.heap.size, 0, none⟩) 1 1)) (w.alloc (.cells #[.int .i64 x] 3)) := by
  simp [execOp, ho, hx, run_oneI, Result.andThen]
end Go.Proofs.YtkinhhkodaacjaaGreatDoor
