/- The reader's bytes. The document's hexadecimal digit, and a line's words. -/
import Derived.Test.YtkinhhkodaacjaaGreatDoorZ3
import Derived.Test.YtkinhhkodaacjaaGreatDoorD2
namespace Go.Proofs.YtkinhhkodaacjaaGreatDoor
open Go.RowKit Go.Shelf

def digsL : List UInt8 := [48, 49, 50, 51, 52, 53, 54, 55, 56, 57, 97, 98, 99, 100, 101, 102]
def ixZ (c : UInt8) : Int := match hexV c with
  | some k => (k : Int)
  | none => -1
theorem ix_hex (c : UInt8) : Lib.indexByte digsL c = ixZ c := by
  have h : ∀ n < 256, Lib.indexByte digsL (UInt8.ofNat n) = ixZ (UInt8.ofNat n) := by decide +kernel
  have := h c.toNat c.toNat_lt
  simpa using this
theorem ixbyte_any (c : UInt8) (w : World) : Calls Tryz.prog 77 #[.string ⟨#[48, 49, 50, 51, 52, 53, 54, 55, 56, 57, 97, 98, 99, 100, 101, 102]⟩, .int .u8 (c.toNat : Int)] w fun e w' => e = .returned (.int .i64 (ixZ c)) ∧ w' = w := by
  refine (Tryz.strings_IndexByte ⟨#[48, 49, 50, 51, 52, 53, 54, 55, 56, 57, 97, 98, 99, 100, 101, 102]⟩ (c.toNat : Int) w).mono ?_
  rintro e w' ⟨rfl, rfl⟩
  refine ⟨?_, rfl⟩
  rw [← ix_hex]
  have : ((c.toNat : Int)).toNat.toUInt8 = c := by simp
  rw [this]
  rfl
theorem or_hex : ∀ x < 16, ∀ y < 16, bits .or .i64 ((16 * x : Nat) : Int) ((y : Nat) : Int) = ((16 * x + y : Nat) : Int) := by decide +kernel
theorem trim_x (s : List UInt8) : Lib.trimPrefix s [120] = if s.head? = some 120 then s.tail else s := by
  unfold Lib.trimPrefix Lib.hasPrefix
  cases s with
  | nil => simp [List.isPrefixOf]
  | cons a l =>
    by_cases h : a = 120
    · subst h; simp [List.isPrefixOf]
    · simp [List.isPrefixOf, h, Ne.symm h]
theorem has_x (s : List UInt8) : Lib.hasPrefix s [120] = decide (s.head? = some 120) := by
  unfold Lib.hasPrefix
  cases s with
  | nil => simp [List.isPrefixOf]
  | cons a l =>
    by_cases h : a = 120
    · subst h; simp [List.isPrefixOf]
    · simp [List.isPrefixOf, h, Ne.symm h]
theorem prefixX_any (s : List UInt8) (w : World) : Calls Tryz.prog 76 #[strV s, .string ⟨#[120]⟩] w fun e w' => e = .returned (.tuple #[strV (if s.head? = some 120 then s.tail else s), .bool (decide (s.head? = some 120))]) ∧ w' = w := by
  refine (Tryz.strings_CutPrefix ⟨s.toArray⟩ ⟨#[120]⟩ w).mono ?_
  rintro e w' ⟨rfl, rfl⟩
  refine ⟨?_, rfl⟩
  have e1 := trim_x s
  have e2 := has_x s
  simp only [e1, e2, strV]
theorem str_tail2 (a b : UInt8) (l : List UInt8) : Value.string ((⟨(a :: b :: l).toArray⟩ : ByteArray).extract 2 (⟨(a :: b :: l).toArray⟩ : ByteArray).size) = strV l := by
  rw [str_back, Lib.extract_to_end]
  rfl
theorem run_tail2 (a b : UInt8) (l : List UInt8) (w : World) : (Instr.sliceAt 9 (strV (a :: b :: l)) (some (.int .i64 2)) none none).run Tryz.prog w = .ok (strV l) w := by
  have hz : (2 : Int) ≤ ((⟨(a :: b :: l).toArray⟩ : ByteArray).size : Int) := by rw [str_size]; simp; omega
  have h1 := run_slice_string_l (P := Tryz.prog) (w := w) (t := 9) (s := ⟨(a :: b :: l).toArray⟩) Tryz.underlying9 .i64 2 (by decide) hz
  have h2 := run_sliceAt_string (P := Tryz.prog) (w := w) 9 (.string ⟨(a :: b :: l).toArray⟩) (some (.int .i64 2)) none none Tryz.underlying9
  rw [h1, show (2 : Int).toNat = 2 from rfl, str_tail2] at h2
  exact h2
theorem exec_shl4 {w : World} {o : Oper} {ac : Act} {X : Operand} {x : Nat} (ho : o.op = .binOp .shl 3 X (.const (.int .u64 4)) 95) (hx : ac.eval X = .int .i64 (x : Int)) (h : x < 16) : (execOp ac.eval o).run Tryz.prog w = .ok (.value (.int .i64 ((16 * x : Nat) : Int))) w := by
  have e : IntKind.i64.wrap ((x : Int) * 16) = 16 * (x : Int) := by rw [IntKind.wrap_i64]; omega
  have hc : ac.eval (.const (.int .u64 4)) = .int .u64 4 := rfl
  generalize ac.eval = ev at *
  unfold execOp
  simp only [ho, hx, hc]
  go_simp
  try simp [e]
  try exact e
theorem exec_orh {w : World} {o : Oper} {ac : Act} {X Y : Operand} {ty : TypeId} {x y : Nat} (ho : o.op = .binOp .or 3 X Y ty) (hx : ac.eval X = .int .i64 ((16 * x : Nat) : Int)) (hy : ac.eval Y = .int .i64 (y : Int)) (h : x < 16) (h2 : y < 16) : (execOp ac.eval o).run Tryz.prog w = .ok (.value (.int .i64 ((16 * x + y : Nat) : Int))) w := by
  have e := or_hex x h y h2
  generalize ((16 * x : Nat) : Int) = p at *
  generalize ((16 * x + y : Nat) : Int) = q at *
  generalize ac.eval = ev at *
  unfold execOp
  simp only [ho, hx, hy]
  go_simp
  try simp [e]
theorem exec_cv8 {w : World} {o : Oper} {ac : Act} {X : Operand} {q : Nat} (ho : o.op = .convert 3 5 X) (hx : ac.eval X = .int .i64 (q : Int)) (h : q < 256) : (execOp ac.eval o).run Tryz.prog w = .ok (.value (u8c (UInt8.ofNat q))) w := by
  have e : IntKind.u8.wrap (q : Int) = (q : Int) := by simp [IntKind.wrap, IntKind.signed, IntKind.bits]; omega
  have e2 : (UInt8.ofNat q).toNat = q := by rw [UInt8.toNat_ofNat']; omega
  unfold u8c
  rw [e2]
  generalize ac.eval = ev at *
  unfold execOp
  simp only [ho, hx]
  go_simp
  try simp [e]
theorem exec_ixl {w : World} {o : Oper} {ac : Act} {X Y : Operand} {l : List UInt8} {k : Nat} {z : Int} {c : UInt8} (ho : o.op = .index 9 X Y) (hx : ac.eval X = strV l) (hy : ac.eval Y = .int .i64 z) (hz : z = (k : Int)) (h : l[k]? = some c) : (execOp ac.eval o).run Tryz.prog w = .ok (.value (.int .u8 c.toNat)) w := by
  subst hz
  exact exec_ix ho hx hy h
theorem unhexL_odd : ∀ {l : List UInt8}, l.length % 2 = 1 → unhexL l = none
  | [], h => by simp at h
  | [_], _ => rfl
  | a :: b :: l, h => by
    rw [unhexL, unhexL_odd (l := l) (by simp only [List.length_cons] at h; omega)]
    cases hexV a <;> cases hexV b <;> rfl
theorem E36 : Elem Tryz.prog 44 5 (.int .u8 0) 1 1 := ⟨Tryz.underlying44, by kernel_rfl, rfl, by decide, by decide⟩
end Go.Proofs.YtkinhhkodaacjaaGreatDoor
namespace Go.Proofs.YtkinhhkodaacjaaGreatDoor
open Go.RowKit Go.Shelf

theorem ix_at_digs : ∀ k : Nat, k < 16 → ∀ c ∈ digsL, digsL[k]? = some c → ixZ c = (k : Int) := by decide +kernel
theorem ix_not {c : UInt8} (h : ∀ j < 16, digsL[j]? ≠ some c) : ixZ c = -1 := by
  have h0 : ∀ n < 256, (∀ j < 16, digsL[j]? ≠ some (UInt8.ofNat n)) → ixZ (UInt8.ofNat n) = -1 := by decide +kernel
  have := h0 c.toNat c.toNat_lt (by simpa using h)
  simpa using this
set_option maxRecDepth 100000 in
set_option maxHeartbeats 1600000 in
theorem value_any (c : UInt8) (w : World) : Calls Tryz.prog 79 #[.int .u8 (c.toNat : Int)] w fun e w' => e = .returned (.int .i64 (ixZ c)) ∧ w' = w := by
  have HP : Hid (∀ v, v = ixZ c → (fun e w' => e = Ending.returned (.int .i64 (ixZ c)) ∧ w' = w) (.returned (.int .i64 v)) w) := fun v h => by subst h; exact ⟨rfl, rfl⟩
  generalize (fun e w' => e = Ending.returned (.int .i64 (ixZ c)) ∧ w' = w) = POST at *
  obtain ⟨cn, hcn⟩ : ∃ cn, cn = c.toNat := ⟨_, rfl⟩
  rw [← hcn]
  have HCN := Lib.hid hcn
  clear hcn
  go_enter Tryz.func79, Tryz.ntmps79
  go_wp2_with fail
  go_loopw [3] (fun i wr => ∃ k : Nat, k ≤ 16 ∧ i = .int .i64 k ∧ Hid (∀ j < k, digsL[j]? ≠ some c) ∧ w = wr) (fun i _ => 16 - (intOf i).toNat)
  case atStart => exact ⟨0, by omega, rfl, Lib.hid (by intro j hj; omega), rfl⟩
  case round =>
    obtain ⟨k, hk, rfl, HD, hw⟩ := hrel
    subst hw
    by_cases hlt : k < 16
    · obtain ⟨d, hd⟩ : ∃ d, digsL[k]? = some d := ⟨_, List.getElem?_eq_getElem (show k < digsL.length from hlt)⟩
      have HIX := Lib.hid (fun (w : World) (o : Oper) (ac : Act) (X Y : Operand) (ho : o.op = .index 9 X Y) (hx : ac.eval X = strV digsL) (hy : ac.eval Y = .int .i64 (k : Int)) => exec_ix (w := w) ho hx hy hd)
      have HD2 := Lib.hid hd
      have hlt2 : (k : Int) < 16 := by omega
      obtain ⟨dn, hdn⟩ : ∃ dn, dn = d.toNat := ⟨_, rfl⟩
      rw [← hdn] at HIX
      have HDN := Lib.hid hdn
      clear hd hdn
      by_cases he : dn = cn
      · have hdc : d = c := by
          apply UInt8.toNat_inj.1
          rw [← HDN.out, ← HCN.out, he]
        have HV : Hid ((k : Int) = ixZ c) := by
          have h2 := HD2.out
          rw [hdc] at h2
          exact (ix_at_digs k hlt c (List.mem_of_getElem? h2) h2).symm
        have hb : ((dn : Int) == (cn : Int)) = true := by simp [he]
        clear he hdc HD
        go_wp2_with ((with_reducible show wpList _ _ _ (Oper.mk (some 9) _ _ _ _ _ :: _) _ _); refine wpList_val rfl (HIX.out _ _ _ _ _ rfl rfl rfl) ?_)
        exact HP.out _ HV.out
      · have hb : ((dn : Int) == (cn : Int)) = false := by simp; omega
        have HDD : Hid (∀ j < k + 1, digsL[j]? ≠ some c) := fun j hj => by
          rcases Nat.lt_succ_iff_lt_or_eq.1 hj with h | rfl
          · exact HD.out j h
          · rw [HD2.out]
            intro e
            simp only [Option.some.injEq] at e
            subst e
            exact he (by rw [HDN.out, HCN.out])
        clear he HD
        go_wp2_with ((with_reducible show wpList _ _ _ (Oper.mk (some 9) _ _ _ _ _ :: _) _ _); refine wpList_val rfl (HIX.out _ _ _ _ _ rfl rfl rfl) ?_)
        go_roundw
        case rel => exact ⟨k + 1, by omega, by go_num, HDD, (by first | trivial | rfl)⟩
        case measure => simp [intOf]; omega
    · obtain rfl : k = 16 := by omega
      have HV : Hid (-1 = ixZ c) := (ix_not HD.out).symm
      clear HD
      go_wp2
      exact HP.out _ HV.out
theorem run_mid (s : List UInt8) {a b : Nat} (hab : a ≤ b) (hb : b ≤ s.length) (w : World) : (Instr.sliceAt 9 (strV s) (some (.int .i64 (a : Int))) (some (.int .i64 (b : Int))) none).run Tryz.prog w = .ok (strV ((s.take b).drop a)) w := by
  have h1 := run_slice_string (P := Tryz.prog) (w := w) 9 ⟨s.toArray⟩ .i64 .i64 (a : Int) (b : Int) Tryz.underlying9 (by omega) (by omega) (by rw [str_size]; omega)
  have h2 := run_sliceAt_string (P := Tryz.prog) (w := w) 9 (.string ⟨s.toArray⟩) (some (.int .i64 (a : Int))) (some (.int .i64 (b : Int))) none Tryz.underlying9
  have e : Value.string ((⟨s.toArray⟩ : ByteArray).extract (a : Int).toNat (b : Int).toNat) = strV ((s.take b).drop a) := by
    rw [str_back, Lib.extract_data]
    simp [List.drop_take]
  rw [h1, e] at h2
  exact h2
theorem run_from (s : List UInt8) {a : Nat} (ha : a ≤ s.length) (w : World) : (Instr.sliceAt 9 (strV s) (some (.int .i64 (a : Int))) none none).run Tryz.prog w = .ok (strV (s.drop a)) w := by
  have h1 := run_slice_string_l (P := Tryz.prog) (w := w) (t := 9) (s := ⟨s.toArray⟩) Tryz.underlying9 .i64 (a : Int) (by omega) (by rw [str_size]; omega)
  have h2 := run_sliceAt_string (P := Tryz.prog) (w := w) 9 (.string ⟨s.toArray⟩) (some (.int .i64 (a : Int))) none none Tryz.underlying9
  have e : Value.string ((⟨s.toArray⟩ : ByteArray).extract (a : Int).toNat (⟨s.toArray⟩ : ByteArray).size) = strV (s.drop a) := by
    rw [str_back, Lib.extract_to_end]
    simp
  rw [h1, e] at h2
  exact h2
theorem E80 : Elem Tryz.prog 47 9 (.string ⟨#[]⟩) 1 16 := ⟨Tryz.underlying47, by kernel_rfl, rfl, by decide, by decide⟩
theorem run_oneT (x : List UInt8) (w : World) : (Instr.buildSlice 47 1 #[(0, strV x)]).run Tryz.prog w = .ok (.slice (some ⟨w.heap.size, 0, none⟩) 1 1) (w.alloc (.cells #[strV x] 9)) := by
  unfold strV Instr.buildSlice
  go_simp
  try rfl
theorem exec_oneT {w : World} {o : Oper} {ac : Act} {X : Operand} {x : List UInt8} (ho : o.op = .buildSlice 47 1 #[(0, X)]) (hx : ac.eval X = strV x) : (execOp ac.eval o).run Tryz.prog w = .ok (.value (.slice (some ⟨w.heap.size, 0, none⟩) 1 1)) (w.alloc (.cells #[strV x] 9)) := by
  simp [execOp, ho, hx, run_oneT, Result.andThen]
/-- The word under way, ahead of the words behind it. -/
def preW (p : List UInt8) : List (List UInt8) → List (List UInt8)
  | [] => [p]
  | x :: r => (p ++ x) :: r
theorem preW_nil {l : List (List UInt8)} (h : l ≠ []) : preW [] l = l := by cases l with
  | nil => exact absurd rfl h
  | cons x r => rfl
set_option maxRecDepth 100000 in
set_option maxHeartbeats 1600000 in
theorem rwords_any (s : List UInt8) (w : World) (hl : s.length ≤ 1000000000) : Calls Tryz.prog 20 #[strV s] w fun e w' => (∃ v, e = .returned v ∧ w'.ownsRow w.heap.size 9 1 v (splitB 32 s).length ((splitB 32 s).map strV)) ∧ Below w.heap.size w w' := by
  have HPO : Hid (∀ (w' : World) (v : Value) (ws : List (List UInt8)), Below w.heap.size w w' → ws = splitB 32 s → w'.ownsRow w.heap.size 9 1 v ws.length (ws.map strV) → (fun e w' => (∃ v, e = Ending.returned v ∧ w'.ownsRow w.heap.size 9 1 v (splitB 32 s).length ((splitB 32 s).map strV)) ∧ Below w.heap.size w w') (.returned v) w') := fun w' v ws h1 h2 h3 => by
    subst h2
    exact ⟨⟨_, rfl, h3⟩, h1⟩
  generalize (fun e w' => (∃ v, e = Ending.returned v ∧ w'.ownsRow w.heap.size 9 1 v (splitB 32 s).length ((splitB 32 s).map strV)) ∧ Below w.heap.size w w') = POST at *
  obtain ⟨q, hq⟩ : ∃ q, q = s.length := ⟨_, rfl⟩
  have HLEN := Lib.hid (fun (w : World) (o : Oper) (ac : Act) (X : Operand) (ho : o.op = .call { callee := .builtin .len, args := #[X], argTypes := #[9] }) (hx : ac.eval X = strV s) => exec_lenS (w := w) ho hx)
  rw [← hq] at HLEN
  have HQ := Lib.hid hq
  have hq6 : q ≤ 1000000000 := by omega
  clear hq
  go_enter Tryz.func20, Tryz.ntmps20
  go_wp2_with fail
  go_loopw [3, 4, 5] (fun u f i wr => ∃ (k m : Nat) (acc : List (List UInt8)), k ≤ q ∧ m ≤ k ∧ i = .int .i64 k ∧ f = .int .i64 m ∧ acc.length ≤ k ∧ Hid (wr.ownsRow w.heap.size 9 1 u acc.length (acc.map strV)) ∧ Hid (Below w.heap.size w wr) ∧ Hid (splitB 32 s = acc ++ preW ((s.take k).drop m) (splitB 32 (s.drop k)))) (fun _ _ i _ => q - (intOf i).toNat)
  case atStart => exact ⟨0, 0, [], Nat.zero_le _, Nat.le_refl _, rfl, rfl, Nat.le_refl _, World.ownsRow_nil _ _ _ _, Below.refl _ _, Lib.hid (by simp [preW_nil (splitB_ne 32 s)])⟩
  case round =>
    obtain ⟨k, m, acc, hk, hmk, rfl, rfl, hacc, HO, HW, HS⟩ := hrel
    obtain ⟨wo, rfl⟩ : ∃ wo : World, wo = wr := ⟨_, rfl⟩
    obtain ⟨av, ac0, rfl, -⟩ := owns_shape HO.out
    have HSZ : Hid (w.heap.size ≤ wo.heap.size) := HW.out.size
    by_cases hlt : k < q
    · obtain ⟨c, hc⟩ : ∃ c, s[k]? = some c := ⟨_, List.getElem?_eq_getElem (by rw [← HQ.out]; exact hlt)⟩
      have HIX := Lib.hid (fun (w : World) (o : Oper) (ac : Act) (X Y : Operand) (ho : o.op = .index 9 X Y) (hx : ac.eval X = strV s) (hy : ac.eval Y = .int .i64 (k : Int)) => exec_ix (w := w) ho hx hy hc)
      have HDR : Hid (s.drop k = c :: s.drop (k + 1)) := by
        show _ = _
        obtain ⟨h1, h2⟩ := List.getElem?_eq_some_iff.1 hc
        rw [← h2]
        exact List.drop_eq_getElem_cons h1
      have HTK := Lib.hid (take_snocB hc)
      have HTL : Hid ((s.take k).length = k) := by show _ = _; rw [List.length_take, ← HQ.out]; omega
      obtain ⟨cn, hcn⟩ : ∃ cn, cn = c.toNat := ⟨_, rfl⟩
      rw [← hcn] at HIX
      have HCN := Lib.hid hcn
      clear hc hcn
      by_cases h32 : cn = 32
      · have hc32 : c = 32 := UInt8.toNat_inj.1 (by rw [← HCN.out, h32]; rfl)
        have HS2 : Hid (splitB 32 s = (acc ++ [(s.take k).drop m]) ++ preW ((s.take (k + 1)).drop (k + 1)) (splitB 32 (s.drop (k + 1)))) := by
          show _ = _
          have e1 : (s.take (k + 1)).drop (k + 1) = [] := List.drop_eq_nil_of_le (by rw [List.length_take]; omega)
          rw [HS.out, HDR.out, hc32, splitB, if_pos rfl, e1, preW_nil (splitB_ne _ _)]
          simp [preW]
        have HMID := Lib.hid (fun w => run_mid s (a := m) (b := k) hmk (by rw [← HQ.out]; omega) w)
        have hb : ((cn : Int) == 32) = true := by simp [h32]
        clear h32 hc32 HS HTK HDR
        go_wp2_with (first | ((with_reducible show wpList _ _ _ (Oper.mk (some 8) _ _ _ _ _ :: _) _ _); refine wpList_val rfl (HLEN.out _ _ _ _ rfl rfl) ?_) | ((with_reducible show wpList _ _ _ (Oper.mk (some 14) _ _ _ _ _ :: _) _ _); refine wpList_val rfl (HIX.out _ _ _ _ _ rfl rfl rfl) ?_) | ((with_reducible show wpList _ _ _ (Oper.mk (some 20) _ _ _ _ _ :: _) _ _); refine wpList_val rfl (exec_slice rfl rfl rfl rfl (HMID.out _)) ?_) | ((with_reducible show wpList _ _ _ (Oper.mk (some 21) _ _ _ _ _ :: _) _ _); refine wpList_val rfl (exec_oneT rfl rfl) ?_) | (at_builtin; refine wpList_app1 E80 rfl _ _ rfl HO.out [strV ((s.take k).drop m)] rfl (by simp [strV, Value.oneCell']) rfl rfl (by omega) HSZ.out ?_; intro v7 W5 ho5 hg5; have HO5 := Lib.hid ho5; have HW5 := Lib.hid (below_app HW.out (Nat.le_refl _) HO.out hg5 HSZ.out); clear ho5 hg5))
        go_roundw
        case rel => exact ⟨k + 1, k + 1, acc ++ [(s.take k).drop m], by omega, Nat.le_refl _, by go_num, by go_num, by simp; omega, (by have := HO5.out; show World.ownsRow _ _ _ _ _ _ _; simpa using this), HW5, HS2⟩
        case measure => simp [intOf]; omega
      · have HS2 : Hid (splitB 32 s = acc ++ preW ((s.take (k + 1)).drop m) (splitB 32 (s.drop (k + 1)))) := by
          show _ = _
          have hne : c ≠ 32 := fun e => h32 (by rw [HCN.out, e]; rfl)
          rw [HS.out, HDR.out, HTK.out, splitB, if_neg hne, List.drop_append_of_le_length (by rw [HTL.out]; exact hmk)]
          cases hs : splitB 32 (s.drop (k + 1)) with
          | nil => exact absurd hs (splitB_ne _ _)
          | cons x r => simp [preW]
        have hb : ((cn : Int) == 32) = false := by simp; omega
        clear h32 HS HTK HDR
        go_wp2_with (first | ((with_reducible show wpList _ _ _ (Oper.mk (some 8) _ _ _ _ _ :: _) _ _); refine wpList_val rfl (HLEN.out _ _ _ _ rfl rfl) ?_) | ((with_reducible show wpList _ _ _ (Oper.mk (some 14) _ _ _ _ _ :: _) _ _); refine wpList_val rfl (HIX.out _ _ _ _ _ rfl rfl rfl) ?_))
        go_roundw
        case rel => exact ⟨k + 1, m, acc, by omega, by omega, by go_num, rfl, by omega, HO, HW, HS2⟩
        case measure => simp [intOf]; omega
    · obtain rfl : k = q := by omega
      have HS2 : Hid (acc ++ [s.drop m] = splitB 32 s) := by
        show _ = _
        have e1 : s.drop k = [] := List.drop_eq_nil_of_le (by rw [← HQ.out]; exact Nat.le_refl _)
        have e2 : s.take k = s := List.take_of_length_le (by rw [← HQ.out]; exact Nat.le_refl _)
        rw [HS.out, e1, e2]
        simp [splitB, preW]
      have HFR := Lib.hid (fun w => run_from s (a := m) (by rw [← HQ.out]; exact hmk) w)
      clear HS
      go_wp2_with (first | ((with_reducible show wpList _ _ _ (Oper.mk (some 8) _ _ _ _ _ :: _) _ _); refine wpList_val rfl (HLEN.out _ _ _ _ rfl rfl) ?_) | ((with_reducible show wpList _ _ _ (Oper.mk (some 28) _ _ _ _ _ :: _) _ _); refine wpList_val rfl (exec_slice rfl rfl rfl rfl (HFR.out _)) ?_) | ((with_reducible show wpList _ _ _ (Oper.mk (some 29) _ _ _ _ _ :: _) _ _); refine wpList_val rfl (exec_oneT rfl rfl) ?_) | (at_builtin; refine wpList_app1 E80 rfl _ _ rfl HO.out [strV (s.drop m)] rfl (by simp [strV, Value.oneCell']) rfl rfl (by omega) HSZ.out ?_; intro v7 W5 ho5 hg5; have HO5 := Lib.hid ho5; have HW5 := Lib.hid (below_app HW.out (Nat.le_refl _) HO.out hg5 HSZ.out); clear ho5 hg5))
      exact HPO.out _ _ (acc ++ [s.drop m]) HW5.out HS2.out (by simpa using HO5.out)
end Go.Proofs.YtkinhhkodaacjaaGreatDoor
