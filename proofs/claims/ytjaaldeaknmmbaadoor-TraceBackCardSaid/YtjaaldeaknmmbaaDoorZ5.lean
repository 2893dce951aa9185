/- The reader's bytes. -/
import Derived.Test.YtjaaldeaknmmbaaDoorZ3
import Derived.Test.YtjaaldeaknmmbaaDoorD2
namespace Go.Proofs.YtjaaldeaknmmbaaDoor
open Go.RowKit Go.Shelf

def digsL : List UInt8 := [48, 49, 50, 51, 52, 53, 54, 55, 56, 57, 97, 98, 99, 100, 101, 102]
def ixZ (c : UInt8) : Int := match hexV c with
  | some k => (k : Int)
  | none => -1
theorem ix_hex (c : UInt8) : Lib.indexByte digsL c = ixZ c := by
  have h : ∀ n < 256, Lib.indexByte digsL (UInt8.ofNat n) = ixZ (UInt8.ofNat n) := by decide +kernel
  have := h c.toNat c.toNat_lt
  simpa using this
theorem ixbyte_any (c : UInt8) (w : World) : Calls Tryd.prog 57 #[.string ⟨#[48, 49, 50, 51, 52, 53, 54, 55, 56, 57, 97, 98, 99, 100, 101, 102]⟩, .int .u8 (c.toNat : Int)] w fun e w' => e = .returned (.int .i64 (ixZ c)) ∧ w' = w := by
  refine (Tryd.strings_IndexByte ⟨#[48, 49, 50, 51, 52, 53, 54, 55, 56, 57, 97, 98, 99, 100, 101, 102]⟩ (c.toNat : Int) w).mono ?_
  rintro e w' ⟨rfl, rfl⟩
  refine ⟨?_, rfl⟩
  rw [← ix_hex]
  have : ((c.toNat : Int)).toNat.toUInt8 = c := by simp
  rw [this]
  rfl
theorem or_hex : ∀ x < 16, ∀ y < 16, bits .or .i64 ((16 * x : Nat) : Int) ((y : Nat) : Int) = ((16 * x + y : Nat) : Int) := by decide +kernel
theorem trim_x (s : List UInt8) : Lib.trimPrefix s [120] = if s.head? = some 120 then s.tail else s := by
  unfold Lib.trimPrefix Lib.hasPrefix
  cases s with
  | nil => simp [List.isPrefixOf]
  | cons a l =>
    by_cases h : a = 120
    · subst h; simp [List.isPrefixOf]
    · simp [List.isPrefixOf, h, Ne.symm h]
theorem has_x (s : List UInt8) : Lib.hasPrefix s [120] = decide (s.head? = some 120) := by
  unfold Lib.hasPrefix
  cases s with
  | nil => simp [List.isPrefixOf]
  | cons a l =>
    by_cases h : a = 120
    · subst h; simp [List.isPrefixOf]
    · simp [List.isPrefixOf, h, Ne.symm h]
theorem prefixX_any (s : List UInt8) (w : World) : Calls Tryd.prog 54 #[strV s, .string ⟨#[120]⟩] w fun e w' => e = .returned (.tuple #[strV (if s.head? = some 120 then s.tail else s), .bool (decide (s.head? = some 120))]) ∧ w' = w := by
  refine (Tryd.strings_CutPrefix ⟨s.toArray⟩ ⟨#[120]⟩ w).mono ?_
  rintro e w' ⟨rfl, rfl⟩
  refine ⟨?_, rfl⟩
  have e1 := trim_x s
  have e2 := has_x s
  simp only [e1, e2, strV]
theorem str_tail2 (a b : UInt8) (l : List UInt8) : Value.string ((⟨(a :: b :: l).toArray⟩ : ByteArray).extract 2 (⟨(a :: b :: l).toArray⟩ : ByteArray).size) = strV l := by
  rw [str_back, Lib.extract_to_end]
  rfl
theorem run_tail2 (a b : UInt8) (l : List UInt8) (w : World) : (Instr.sliceAt 9 (strV (a :: b :: l)) (some (.int .i64 2)) none none).run Tryd.prog w = .ok (strV l) w := by
  have hz : (2 : Int) ≤ ((⟨(a :: b :: l).toArray⟩ : ByteArray).size : Int) := by rw [str_size]; simp; omega
  have h1 := run_slice_string_l (P := Tryd.prog) (w := w) (t := 9) (s := ⟨(a :: b :: l).toArray⟩) Tryd.underlying9 .i64 2 (by decide) hz
  have h2 := run_sliceAt_string (P := Tryd.prog) (w := w) 9 (.string ⟨(a :: b :: l).toArray⟩) (some (.int .i64 2)) none none Tryd.underlying9
  rw [h1, show (2 : Int).toNat = 2 from rfl, str_tail2] at h2
  exact h2
theorem exec_shl4 {w : World} {o : Oper} {ac : Act} {X : Operand} {x : Nat} (ho : o.op = .binOp .shl 3 X (.const (.int .u64 4)) 95) (hx : ac.eval X = .int .i64 (x : Int)) (h : x < 16) : (execOp ac.eval o).run Tryd.prog w = .ok (.value (.int .i64 ((16 * x : Nat) : Int))) w := by
  have e : IntKind.i64.wrap ((x : Int) * 16) = 16 * (x : Int) := by rw [IntKind.wrap_i64]; omega
  have hc : ac.eval (.const (.int .u64 4)) = .int .u64 4 := rfl
  generalize ac.eval = ev at *
  unfold execOp
  simp only [ho, hx, hc]
  go_simp
  try simp [e]
  try exact e
theorem exec_orh {w : World} {o : Oper} {ac : Act} {X Y : Operand} {ty : TypeId} {x y : Nat} (ho : o.op = .binOp .or 3 X Y ty) (hx : ac.eval X = .int .i64 ((16 * x : Nat) : Int)) (hy : ac.eval Y = .int .i64 (y : Int)) (h : x < 16) (h2 : y < 16) : (execOp ac.eval o).run Tryd.prog w = .ok (.value (.int .i64 ((16 * x + y : Nat) : Int))) w := by
  have e := or_hex x h y h2
  generalize ((16 * x : Nat) : Int) = p at *
  generalize ((16 * x + y : Nat) : Int) = q at *
  generalize ac.eval = ev at *
  unfold execOp
  simp only [ho, hx, hy]
  go_simp
  try simp [e]
theorem exec_cv8 {w : World} {o : Oper} {ac : Act} {X : Operand} {q : Nat} (ho : o.op = .convert 3 5 X) (hx : ac.eval X = .int .i64 (q : Int)) (h : q < 256) : (execOp ac.eval o).run Tryd.prog w = .ok (.value (u8c (UInt8.ofNat q))) w := by
  have e : IntKind.u8.wrap (q : Int) = (q : Int) := by simp [IntKind.wrap, IntKind.signed, IntKind.bits]; omega
  have e2 : (UInt8.ofNat q).toNat = q := by rw [UInt8.toNat_ofNat']; omega
  unfold u8c
  rw [e2]
  generalize ac.eval = ev at *
  unfold execOp
  simp only [ho, hx]
  go_simp
  try simp [e]
theorem exec_ixl {w : World} {o : Oper} {ac : Act} {X Y : Operand} {l : List UInt8} {k : Nat} {z : Int} {c : UInt8} (ho : o.op = .index 9 X Y) (hx : ac.eval X = strV l) (hy : ac.eval Y = .int .i64 z) (hz : z = (k : Int)) (h : l[k]? = some c) : (execOp ac.eval o).run Tryd.prog w = .ok (.value (.int .u8 c.toNat)) w := by
  subst hz
  exact exec_ix ho hx hy h
theorem unhexL_odd : ∀ {l : List UInt8}, l.length % 2 = 1 → unhexL l = none
  | [], h => by simp at h
  | [_], _ => rfl
  | a :: b :: l, h => by
    rw [unhexL, unhexL_odd (l := l) (by simp only [List.length_cons] at h; omega)]
    cases hexV a <;> cases hexV b <;> rfl
theorem E36 : Elem Tryd.prog 36 5 (.int .u8 0) 1 1 := ⟨Tryd.underlying36, by kernel_rfl, rfl, by decide, by decide⟩
def BytesPost (br : Nat) (s : RdS) (x : List UInt8) (w : World) (e : Ending) (w' : World) : Prop :=
  ∃ v, e = .returned v ∧ (∀ b, unhexW x = some b → w'.ownsRow w.heap.size 5 1 v b.length (b.map u8c)) ∧ (unhexW x = none → v = .slice none 0 0) ∧ Blk w' br 52 (rdC ⟨s.rest, s.n, (unhexW x).isNone⟩).toArray ∧ w.grownBy w' (some br)
set_option maxRecDepth 100000 in
set_option maxHeartbeats 1600000 in
theorem rbytes_any (br : Nat) (rest x : List UInt8) (n : Nat) (W : World) (hb : Blk W br 52 (rdC ⟨rest, n, false⟩).toArray) (hl : x.length ≤ 1000000000) :
    Calls Tryd.prog 45 #[.pointer (some ⟨br, 0, none⟩), strV x] W (BytesPost br ⟨rest, n, false⟩ x W) := by
  have HB := Lib.hid hb
  have HPOB : Hid (∀ X : World, Blk X br 52 (rdC ⟨rest, n, false⟩).toArray → W.grownBy X (some br) → unhexW x = none → BytesPost br ⟨rest, n, false⟩ x W (.returned (.slice none 0 0)) (X.setCell ⟨br, 2, none⟩ (.bool true))) := fun X hx hg h =>
    ⟨_, rfl, fun m hm => (by rw [h] at hm; cases hm), fun _ => rfl, by rw [h]; have := hx.set 2 (.bool true); simpa [rdC] using this, hg.trans (grownBy_setCell _ _ _)⟩
  have HPOG : Hid (∀ (X : World) (v : Value) (b : List UInt8), Blk X br 52 (rdC ⟨rest, n, false⟩).toArray → W.grownBy X (some br) → unhexW x = some b → X.ownsRow W.heap.size 5 1 v b.length (b.map u8c) → BytesPost br ⟨rest, n, false⟩ x W (.returned v) X) := fun X v b hx hg h ho =>
    ⟨v, rfl, fun m hm => (by rw [h] at hm; cases hm; exact ho), fun h2 => (by rw [h] at h2; cases h2), by rw [h]; exact hx, hg⟩
  have HPR := Lib.hid (prefixX_any x W)
  have HG0 : Hid (W.grownBy W (some br)) := Lib.hid (World.grownBy.refl _ _)
  generalize BytesPost br ⟨rest, n, false⟩ x W = POST at *
  clear hb
  by_cases hx0 : x.head? = some 120
  · have HUW : Hid (unhexW x = unhexL x.tail) := by show _ = _; unfold unhexW; rw [if_pos hx0]
    rw [if_pos hx0, decide_eq_true hx0] at HPR
    obtain ⟨r, hr⟩ : ∃ r, r = x.tail := ⟨_, rfl⟩
    rw [← hr] at HUW HPR
    have hrl : r.length ≤ 1000000000 := by rw [hr]; simp; omega
    obtain ⟨q, hq⟩ : ∃ q, q = r.length := ⟨_, rfl⟩
    have HLEN := Lib.hid (fun (w : World) (o : Oper) (ac : Act) (X : Operand) (ho : o.op = .call { callee := .builtin .len, args := #[X], argTypes := #[9] }) (hx : ac.eval X = strV r) => exec_lenS (w := w) ho hx)
    rw [← hq] at HLEN
    have HQ := Lib.hid hq
    have hq6 : q ≤ 1000000000 := by omega
    clear hr hq hx0
    by_cases hodd : q % 2 = 1
    · have HBD : Hid (unhexW x = none) := by show _ = _; rw [HUW.out]; exact unhexL_odd (by rw [← HQ.out]; exact hodd)
      have d2 : W.cell? ⟨br, 2, none⟩ = some (.bool false) := HB.out.list0 rfl
      have fz2 : W.frozen? ⟨br, 2, none⟩ = false := HB.out.frozen 2
      have hm1 : (q : Int) % 2 = 1 := by omega
      have hm2 : (q : Int).tmod 2 = 1 := by rw [Int.tmod_eq_emod_of_nonneg (by omega)]; exact hm1
      clear hodd
      go_enter Tryd.func45, Tryd.ntmps45
      go_wp2_with fail
      refine HPR.out.mono ?_
      rintro e W1 ⟨rfl, hW⟩
      subst hW
      go_wp2_with ((with_reducible show wpList _ _ _ (Oper.mk (some 19) _ _ _ _ _ :: _) _ _); refine wpList_val rfl (HLEN.out _ _ _ _ rfl rfl) ?_)
      exact HPOB.out _ HB.out HG0.out HBD.out
    · have hev : q % 2 = 0 := by omega
      have hm1 : (q : Int) % 2 = 0 := by omega
      have hm2 : (q : Int).tmod 2 = 0 := by rw [Int.tmod_eq_emod_of_nonneg (by omega)]; exact hm1
      have HEV : Hid (r.length % 2 = 0) := by show _ = _; rw [← HQ.out]; exact hev
      clear hodd hev
      go_enter Tryd.func45, Tryd.ntmps45
      go_wp2_with fail
      refine HPR.out.mono ?_
      rintro e W1 ⟨rfl, hW⟩
      subst hW
      go_wp2_with ((with_reducible show wpList _ _ _ (Oper.mk (some 19) _ _ _ _ _ :: _) _ _); refine wpList_val rfl (HLEN.out _ _ _ _ rfl rfl) ?_)
      go_loopg [5, 7] q (fun kx s5 s7 wr => ∃ (l acc : List UInt8), s5 = strV l ∧ l.length ≤ kx ∧ Hid (l.length % 2 = 0 ∧ acc.length + l.length ≤ 1000000000) ∧ Hid (wr.ownsRow W1.heap.size 5 1 s7 acc.length (acc.map u8c)) ∧ Hid (Below W1.heap.size W1 wr) ∧ Hid (unhexL r = (unhexL l).map (acc ++ ·)))
      case atStart => exact ⟨r, [], rfl, by rw [HQ.out]; exact Nat.le_refl _, ⟨HEV.out, by simpa using hrl⟩, World.ownsRow_nil _ _ _ _, Below.refl _ _, Lib.hid (by cases unhexL r <;> simp)⟩
      case round =>
        obtain ⟨l, acc, rfl, hkx, HL, HO, HW, HU⟩ := hrel
        obtain ⟨av, ac0, rfl, -⟩ := owns_shape HO.out
        have hcw : IntKind.i64.wrap 2 = 2 := rfl
        cases l with
        | nil =>
          have HF : Hid (unhexW x = some acc) := by show _ = _; rw [HUW.out, HU.out]; simp [unhexL]
          have HB2 := Lib.hid (HB.out.keep HW.out)
          have HG2 : Hid (W1.grownBy wr (some br)) := Lib.hid ⟨HW.out.os, HW.out.tape, HW.out.output, HW.out.size, fun j hj _ => HW.out.block j hj⟩
          have hdz : (!decide (([] : List UInt8) = [])) = false := rfl
          clear HL HU
          go_wp2_with ((with_reducible show wpList _ _ _ (Oper.mk (some 27) _ _ _ _ _ :: _) _ _); refine wpList_val rfl (exec_neS (x := []) (y := []) rfl rfl rfl) ?_; rw [hdz])
          exact HPOG.out _ _ _ HB2.out HG2.out HF.out HO.out
        | cons a l1 =>
          cases l1 with
          | nil => exact absurd HL.out.1 (by simp)
          | cons b l2 =>
            have hdz : (!decide ((a :: b :: l2 : List UInt8) = [])) = true := rfl
            have HI0 := Lib.hid (fun (w : World) (o : Oper) (ac : Act) (X Y : Operand) (ho : o.op = .index 9 X Y) (hx : ac.eval X = strV (a :: b :: l2)) (hy : ac.eval Y = .int .i64 0) => exec_ixl (k := 0) (c := a) (w := w) ho hx hy rfl rfl)
            have HI1 := Lib.hid (fun (w : World) (o : Oper) (ac : Act) (X Y : Operand) (ho : o.op = .index 9 X Y) (hx : ac.eval X = strV (a :: b :: l2)) (hy : ac.eval Y = .int .i64 1) => exec_ixl (k := 1) (c := b) (w := w) ho hx hy rfl rfl)
            have HC0 := Lib.hid (fun w => ixbyte_any a w)
            have HC1 := Lib.hid (fun w => ixbyte_any b w)
            have HB2 := Lib.hid ((HB.out.keep HW.out).keep (Below.refl _ _).drew)
            have HWD := Lib.hid HW.out.drew
            have HOD := Lib.hid (ow_below HO.out (Below.refl _ wr).drew)
            have HG2 : Hid (W1.grownBy wr.drew (some br)) := Lib.hid ⟨HWD.out.os, HWD.out.tape, HWD.out.output, HWD.out.size, fun j hj _ => HWD.out.block j hj⟩
            have d2 : wr.drew.cell? ⟨br, 2, none⟩ = some (.bool false) := HB2.out.list0 rfl
            have fz2 : wr.drew.frozen? ⟨br, 2, none⟩ = false := HB2.out.frozen 2
            have hacc : acc.length + l2.length + 2 ≤ 1000000000 := by have := HL.out.2; simp only [List.length_cons] at this; omega
            have hkx2 := hkx
            simp only [List.length_cons] at hkx2
            have HL2 : Hid (l2.length % 2 = 0) := by have := HL.out.1; simp only [List.length_cons] at this; show _ = _; omega
            have HUA : Hid (∀ (i j : Nat) (rr : Option (List UInt8)), hexV a = some i → hexV b = some j → unhexL l2 = rr → unhexL (a :: b :: l2) = rr.map (UInt8.ofNat (16 * i + j) :: ·)) := fun i j rr h1 h2 h3 => by
              rw [unhexL, h1, h2, h3]
              cases rr <;> rfl
            have HUB : Hid (hexV a = none ∨ hexV b = none → unhexL (a :: b :: l2) = none) := fun h => by
              rw [unhexL]
              rcases h with h | h
              · rw [h]
              · rw [h]; cases hexV a <;> rfl
            clear HL hkx HW HO
            go_upto_region 8 with ((with_reducible show wpList _ _ _ (Oper.mk (some 27) _ _ _ _ _ :: _) _ _); refine wpList_val rfl (exec_neS (x := a :: b :: l2) (y := []) rfl rfl rfl) ?_; rw [hdz])
            try simp only [Act.put, List.setIfInBounds_toArray, List.set_cons_zero, List.set_cons_succ]
            go_cut [8, 9] from 30 to 36 (fun s8 s9 wx => s8 = .int .i64 (ixZ a) ∧ s9 = .int .i64 (ixZ b) ∧ wx = wr.drew)
            case first =>
              refine wp_region_held_drew (S := fun _ => True) (by kernel_rfl) trivial (fun hHeld => ?_)
              (refine takeW (i := 0) (v := ?_) rfl (by kernel_rfl) (by kernel_rfl) (by kernel_rfl) (fun _ _ _ h => h) (by rfl) (by assumption) ?_ ?_; rotate_left; (intro W hW; (try dsimp only at hW); go_simp; try with_reducible rfl); (try simp only [Act.put, List.setIfInBounds_toArray, List.set_cons_zero, List.set_cons_succ]))
              (refine takeW (i := 1) rfl (by kernel_rfl) (by kernel_rfl) (by kernel_rfl) (fun _ _ _ h => h) (by rfl) (by assumption) (fun W hW => HI0.out _ _ _ _ _ rfl rfl rfl) ?_; (try simp only [Act.put, List.setIfInBounds_toArray, List.set_cons_zero, List.set_cons_succ]))
              (refine takeW (i := 3) (v := ?_) rfl (by kernel_rfl) (by kernel_rfl) (by kernel_rfl) (fun _ _ _ h => h) (by rfl) (by assumption) ?_ ?_; rotate_left; (intro W hW; (try dsimp only at hW); go_simp; try with_reducible rfl); (try simp only [Act.put, List.setIfInBounds_toArray, List.set_cons_zero, List.set_cons_succ]))
              (refine takeW (i := 4) rfl (by kernel_rfl) (by kernel_rfl) (by kernel_rfl) (fun _ _ _ h => h) (by rfl) (by assumption) (fun W hW => HI1.out _ _ _ _ _ rfl rfl rfl) ?_; (try simp only [Act.put, List.setIfInBounds_toArray, List.set_cons_zero, List.set_cons_succ]))
              refine takeC (i := 2) rfl (by kernel_rfl) (by rfl) (fun K hK => ?_)
              go_simp
              refine (HC0.out _).mono ?_
              rintro e w1 ⟨rfl, hw1⟩
              subst hw1
              refine hK.out _ _ hHeld (fun hHeld => ?_)
              clear hK K
              (try simp only [Act.put, List.setIfInBounds_toArray, List.set_cons_zero, List.set_cons_succ])
              refine takeC (i := 5) rfl (by kernel_rfl) (by rfl) (fun K hK => ?_)
              go_simp
              refine (HC1.out _).mono ?_
              rintro e w1 ⟨rfl, hw1⟩
              subst hw1
              refine hK.out _ _ hHeld (fun hHeld => ?_)
              clear hK K
              (try simp only [Act.put, List.setIfInBounds_toArray, List.set_cons_zero, List.set_cons_succ])
              (refine takeW (i := 6) (v := ?_) rfl (by kernel_rfl) (by kernel_rfl) (by kernel_rfl) (fun _ _ _ h => h) (by rfl) (by assumption) ?_ ?_; rotate_left; (intro W hW; (try dsimp only at hW); go_simp; try with_reducible rfl); (try simp only [Act.put, List.setIfInBounds_toArray, List.set_cons_zero, List.set_cons_succ]))
              (refine takeW (i := 7) (v := ?_) rfl (by kernel_rfl) (by kernel_rfl) (by kernel_rfl) (fun _ _ _ h => h) (by rfl) (by assumption) ?_ ?_; rotate_left; (intro W hW; (try dsimp only at hW); go_simp; try with_reducible rfl); (try simp only [Act.put, List.setIfInBounds_toArray, List.set_cons_zero, List.set_cons_succ]))
              refine wpAnyH_done (by kernel_rfl) ?_ _
              clear hHeld
              go_wp2_with fail
              go_meet
              exact ⟨rfl, rfl, rfl⟩
            case rest =>
            obtain ⟨rfl, rfl, hwc⟩ := hcut
            subst hwc
            clear HI0 HI1 HC0 HC1
            cases ha : hexV a with
            | none =>
              have HBD : Hid (unhexW x = none) := by show _ = _; rw [HUW.out, HU.out, HUB.out (.inl ha)]; rfl
              rw [show ixZ a = -1 by unfold ixZ; rw [ha]]
              clear ha HUA HUB HU
              go_wp2
              exact HPOB.out _ HB2.out HG2.out HBD.out
            | some i =>
              rw [show ixZ a = (i : Int) by unfold ixZ; rw [ha]]
              cases hb : hexV b with
              | none =>
                have HBD : Hid (unhexW x = none) := by show _ = _; rw [HUW.out, HU.out, HUB.out (.inr hb)]; rfl
                rw [show ixZ b = -1 by unfold ixZ; rw [hb]]
                have hi0 : ¬ ((i : Int) < 0) := by omega
                clear ha hb HUA HUB HU
                go_wp2
                exact HPOB.out _ HB2.out HG2.out HBD.out
              | some j =>
                rw [show ixZ b = (j : Int) by unfold ixZ; rw [hb]]
                have hi := (hexC_hexV ha).2
                have hj := (hexC_hexV hb).2
                have HU2 : Hid (unhexL r = (unhexL l2).map ((acc ++ [UInt8.ofNat (16 * i + j)]) ++ ·)) := by
                  show _ = _
                  rw [HU.out, HUA.out i j _ ha hb rfl]
                  cases unhexL l2 <;> simp
                have hi0 : ¬ ((i : Int) < 0) := by omega
                have hj0 : ¬ ((j : Int) < 0) := by omega
                have h256 : 16 * i + j < 256 := by omega
                have HSZ : Hid (W1.heap.size ≤ wr.drew.heap.size) := HWD.out.size
                clear ha hb HUA HUB HU d2 fz2
                generalize wr.drew = wd at *
                go_wp2_with (first | ((with_reducible show wpList _ _ _ (Oper.mk (some 47) _ _ _ _ _ :: _) _ _); refine wpList_val rfl (exec_shl4 (x := i) rfl rfl hi) ?_) | ((with_reducible show wpList _ _ _ (Oper.mk (some 49) _ _ _ _ _ :: _) _ _); refine wpList_val rfl (exec_orh (x := i) (y := j) rfl rfl rfl hi hj) ?_) | ((with_reducible show wpList _ _ _ (Oper.mk (some 50) _ _ _ _ _ :: _) _ _); refine wpList_val rfl (exec_cv8 (q := 16 * i + j) rfl rfl h256) ?_) | ((with_reducible show wpList _ _ _ (Oper.mk (some 51) _ _ _ _ _ :: _) _ _); refine wpList_val rfl (exec_oneS exec_one1 rfl rfl) ?_) | ((with_reducible show wpList _ _ _ (Oper.mk (some 29) _ _ _ _ _ :: _) _ _); refine wpList_val rfl (exec_slice rfl rfl rfl rfl (run_tail2 a b l2 _)) ?_) | (at_builtin; refine wpList_app1 E36 rfl _ _ rfl HOD.out [u8c (UInt8.ofNat (16 * i + j))] rfl (by simp [u8c, Value.oneCell']) rfl rfl (by omega) HSZ.out ?_; intro v7 W5 ho5 hg5; have HO5 := Lib.hid ho5; have HW5 := Lib.hid (below_app HWD.out (Nat.le_refl _) HOD.out hg5 HSZ.out); clear ho5 hg5))
                go_roundg l2.length
                case measure => omega
                case rel => exact ⟨l2, acc ++ [UInt8.ofNat (16 * i + j)], rfl, Nat.le_refl _, ⟨HL2.out, by simp; omega⟩, (by have := HO5.out; show World.ownsRow _ _ _ _ _ _ _; simpa using this), HW5, HU2⟩
  · have HBD : Hid (unhexW x = none) := by show _ = _; unfold unhexW; rw [if_neg hx0]
    rw [if_neg hx0, decide_eq_false hx0] at HPR
    have d2 : W.cell? ⟨br, 2, none⟩ = some (.bool false) := HB.out.list0 rfl
    have fz2 : W.frozen? ⟨br, 2, none⟩ = false := HB.out.frozen 2
    clear hx0
    go_enter Tryd.func45, Tryd.ntmps45
    go_wp2_with fail
    refine HPR.out.mono ?_
    rintro e W1 ⟨rfl, hW⟩
    subst hW
    go_wp2_with fail
    exact HPOB.out _ HB.out HG0.out HBD.out
end Go.Proofs.YtjaaldeaknmmbaaDoor
