/- number: a number in decimal digits. num: the document's number in decimal digits. -/
import Derived.Test.YtkinhhkodaacjaaGreatDoorLA
import Derived.Test.YtkinhhkodaacjaaGreatDoorProg
import Derived.WalkKit
import Derived.IntWalk
import Derived.OwnWalkIn
import Derived.Deep.DeepCutAuto
import Derived.Deep.DeepMust
import Derived.Deep.QuietTactic
import Derived.WalkSpells
import Derived.WalkLawsBesides
import Derived.BigQuiet
import Derived.Lib.Hide
import Derived.Lib.SliceRun
import Derived.Laws.IdiomStrings
import Derived.Laws.Concat
namespace Go.Proofs.YtkinhhkodaacjaaGreatDoor
open Go.RowKit

def u8c (c : UInt8) : Value := .int .u8 c.toNat
/-- The array of 21 bytes, the last ones of which are digits. -/
def arr21 (acc : List UInt8) : Array Value := (List.replicate (21 - acc.length) (Value.int .u8 0) ++ acc.map u8c).toArray
theorem arr21_set (acc : List UInt8) (c : UInt8) (p : Nat) (h : acc.length + p = 20) : (arr21 acc).setIfInBounds p (u8c c) = arr21 (c :: acc) := by
  obtain ⟨m, hm⟩ : ∃ m, 21 - acc.length = m + 1 := ⟨20 - acc.length, by omega⟩
  have hm2 : 21 - (acc.length + 1) = m := by omega
  have hpm : p = m := by omega
  subst hpm
  unfold arr21
  rw [hm, List.length_cons, hm2, List.setIfInBounds_toArray]
  congr 1
  rw [List.replicate_succ', List.append_assoc, List.set_append, if_neg (by simp)]
  simp
theorem arr21_cells {w : World} {b : Nat} {acc : List UInt8} {p : Nat} (h : Blk w b 134 (arr21 acc)) (hp : acc.length + p = 21) : ∀ j (hj : j < acc.length), w.cell? ((⟨b, p, none⟩ : Addr).add j) = some (.int .u8 (acc[j].toNat : Int)) := by
  intro j hj
  rw [Addr.add_lit, h.cell (p + j)]
  simp only [arr21, List.getElem?_toArray, List.getElem?_append, List.length_replicate]
  rw [if_neg (by omega), show p + j - (21 - acc.length) = j by omega, List.getElem?_map, List.getElem?_eq_getElem hj]
  rfl
theorem exec_str {w : World} {o : Oper} {ac : Act} {x : Operand} {a : Addr} {cap : Nat} {l : List UInt8} (ho : o.op = .convert 44 9 x) (hx : ac.eval x = .slice (some a) l.length cap) (hc : ∀ j (hj : j < l.length), w.cell? (a.add j) = some (.int .u8 (l[j].toNat : Int))) :
    (execOp ac.eval o).run Tryz.prog w = .ok (.value (.string ⟨l.toArray⟩)) w := by
  simp [execOp, ho, hx, run_convert_bytes_back (P := Tryz.prog) w 44 9 5 a cap l Tryz.underlying44 Tryz.underlying5 Tryz.underlying9 hc, Result.andThen]

theorem slice21 (b p : Nat) (hp : p < 21) (w : World) : (Instr.sliceAt 134 (.pointer (some ⟨b, 0, none⟩)) (some (.int .i64 (p : Int))) none none).run Tryz.prog w = .ok (.slice (some ⟨b, p, none⟩) (21 - p) (21 - p)) w := by
  have hl : Tryz.prog.arrayLen 134 = 21 := by kernel_rfl
  rw [run_sliceAt_array_l (P := Tryz.prog) w 134 ⟨b, 0, none⟩ (by kernel_rfl) .i64 p (by omega) (by rw [hl]; omega), hl]
  have hz : (sizeOf (Tryz.prog.elem 134)).run Tryz.prog w = .ok 1 w := by rw [show Tryz.prog.elem 134 = 5 by kernel_rfl]; exact Tryz.sizeOf5 w
  rw [hz]
  simp [Result.andThen, slicedAt, Addr.add_lit, show ¬ (21 = p) by omega]
set_option maxRecDepth 100000 in
set_option maxHeartbeats 1600000 in
theorem number_any (n : Int) (w : World) (h1 : -9223372036854775808 ≤ n) (h2 : n ≤ 9223372036854775807) : Calls Tryz.prog 52 #[.int .i64 n] w fun e w' => e = .returned (.string ⟨(decZ n).toArray⟩) ∧ Below w.heap.size w w' := by
  have HPO : Hid (∀ w', Below w.heap.size w w' → (fun e w' => e = Ending.returned (.string ⟨(decZ n).toArray⟩) ∧ Below w.heap.size w w') (.returned (.string ⟨(decZ n).toArray⟩)) w') := fun w' h => ⟨rfl, h⟩
  have HBK : Hid (Blk (w.alloc (.cells (arr21 []) 134)) w.heap.size 134 (arr21 [])) := Blk.new' rfl
  have HB : Hid (Below w.heap.size w (w.alloc (.cells (arr21 []) 134))) := below1 w _
  generalize (fun e w' => e = Ending.returned (.string ⟨(decZ n).toArray⟩) ∧ Below w.heap.size w w') = POST at *
  by_cases hn : n < 0
  · obtain ⟨N, hNn⟩ : ∃ N, n.natAbs = N := ⟨_, rfl⟩
    rw [decZ_neg hn, hNn] at HPO
    have hN : N < 18446744073709551616 := by omega
    have hwn : IntKind.u64.wrap (-IntKind.u64.wrap n) = (N : Int) := by
      rw [show IntKind.u64.wrap n = n + 18446744073709551616 by simp [IntKind.wrap, IntKind.signed, IntKind.bits]; omega]
      simp [IntKind.wrap, IntKind.signed, IntKind.bits]; omega
    go_enter Tryz.func52, Tryz.ntmps52
    go_upto_region 5 with fail
    change Code.wp _ _ _ _ (w.alloc (.cells (arr21 []) 134))
    generalize w.alloc (.cells (arr21 []) 134) = W0 at *
    clear hwn hNn
    generalize hb0 : w.heap.size = b at *
    go_wp2_with fail
    go_loopw [3, 5] (fun u at' wr => ∃ (k P : Nat) (acc : List UInt8), u = .int .u64 k ∧ at' = .int .i64 P ∧ Hid (acc.length + P = 21 ∧ decN k ++ acc = decN N ∧ k < 18446744073709551616 ∧ Blk wr b 134 (arr21 acc) ∧ Below b w wr)) (fun u _ _ => (intOf u).toNat)
    case atStart => exact ⟨N, 21, [], rfl, rfl, rfl, by simp, hN, HBK.out, HB.out⟩
    case round =>
      clear HBK HB
      obtain ⟨k, P, acc, rfl, rfl, HJ⟩ := hrel
      obtain ⟨wo, rfl⟩ : ∃ wo : World, wo = wr := ⟨_, rfl⟩
      have hl20 : acc.length + 1 ≤ 20 := by
        have h := congrArg List.length HJ.out.2.1
        have := decN_len 20 N (by omega) (by have : (10:Nat) ^ 20 = 100000000000000000000 := rfl; omega)
        have : 0 < (decN k).length := List.length_pos_iff.2 (decN_ne k)
        simp at h; omega
      obtain ⟨p, hp⟩ : ∃ p, P = p + 1 := ⟨P - 1, by have := HJ.out.1; omega⟩
      have hPp : (P : Int) - 1 = p := by omega
      have hp21 : p < 21 := by have := HJ.out.1; omega
      have hp1 : 1 ≤ p := by have := HJ.out.1; omega
      have HP1 : Hid (acc.length + p = 20) := by have := HJ.out.1; show _ = _; omega
      obtain ⟨d, hd⟩ : ∃ d, k % 10 = d := ⟨_, rfl⟩
      obtain ⟨q, hq⟩ : ∃ q, k / 10 = q := ⟨_, rfl⟩
      have hd1 : (k : Int) % 10 = d := by omega
      have hd2 : d < 10 := by omega
      have hq1 : (k : Int) / 10 = q := by omega
      have HDR := Lib.hid (dec_round HJ.out.2.1)
      rw [hd, hq] at HDR
      have HKQ : Hid (q ≤ k ∧ (q ≠ 0 → q < k) ∧ k < 18446744073709551616) := by have := HJ.out.2.2.1; show _ ∧ _ ∧ _; omega
      have HDD : Hid (Value.int .u8 (48 + (d : Int)) = u8c (UInt8.ofNat (48 + d))) := by show Value.int .u8 _ = Value.int .u8 _; rw [dig_toNat hd2]; rfl
      clear hp hd hq
      generalize UInt8.ofNat (48 + d) = c at *
      have hk1 : k < 18446744073709551616 := HKQ.out.2.2
      have c1 : wo.cell? ⟨b, p, none⟩ = some (.int .u8 0) := by
        rw [HJ.out.2.2.2.1.cell p]
        have := HP1.out
        simp [arr21, List.getElem?_append, show p < 21 - acc.length by omega]
      have f1 : wo.frozen? ⟨b, p, none⟩ = false := HJ.out.2.2.2.1.frozen p
      go_upto_region 8 with fail
      rw [HDD.out]
      have HB2 : Hid (Blk (wo.setCell ⟨b, p, none⟩ (u8c c)) b 134 (arr21 (c :: acc)) ∧ Below b w (wo.setCell ⟨b, p, none⟩ (u8c c))) := by
        have h := HJ.out.2.2.2.1.set p (u8c c)
        rw [arr21_set _ _ _ HP1.out] at h
        exact ⟨h, HJ.out.2.2.2.2.setCell (p := ⟨b, p, none⟩) (Nat.le_refl _) _⟩
      generalize wo.setCell ⟨b, p, none⟩ (u8c c) = W1 at *
      clear c1 f1 hd1 HDD HJ
      by_cases hq0 : q = 0
      · subst hq0
        have HE : Hid (c :: acc = decN N) := by have := HDR.out; rwa [if_pos rfl] at this
        clear HDR
        obtain ⟨p2, hp2⟩ : ∃ p2, p = p2 + 1 := ⟨p - 1, by omega⟩
        have hpp : (p : Int) - 1 = p2 := by omega
        have hp221 : p2 < 21 := by omega
        have HP2 : Hid (acc.length + p2 = 19) := by have := HP1.out; show _ = _; omega
        clear hp2
        have c1 : W1.cell? ⟨b, p2, none⟩ = some (.int .u8 0) := by
          rw [HB2.out.1.cell p2]
          have := HP2.out
          have h3 : p2 < 20 - acc.length := by omega
          simp [arr21, List.getElem?_append, h3]
        have f1 : W1.frozen? ⟨b, p2, none⟩ = false := HB2.out.1.frozen p2
        go_upto_region 13 with fail
        change Code.wp _ _ _ _ (W1.setCell ⟨b, p2, none⟩ (u8c 45))
        have HB3 : Hid (Blk (W1.setCell ⟨b, p2, none⟩ (u8c 45)) b 134 (arr21 (45 :: c :: acc)) ∧ Below b w (W1.setCell ⟨b, p2, none⟩ (u8c 45))) := by
          have h := HB2.out.1.set p2 (u8c 45)
          rw [arr21_set _ _ _ (by have := HP2.out; simp; omega)] at h
          exact ⟨h, HB2.out.2.setCell (p := ⟨b, p2, none⟩) (Nat.le_refl _) _⟩
        generalize W1.setCell ⟨b, p2, none⟩ (u8c 45) = W2 at *
        have hsl := slice21 b p2 hp221 W2
        go_wp2_with ((with_reducible show wpList _ _ _ (Oper.mk (some 32) _ _ _ _ _ :: _) _ _); refine wpList_val rfl (exec_str (l := 45 :: c :: acc) rfl (by rw [show (45 :: c :: acc).length = 21 - p2 by have := HP2.out; simp; omega]; rfl) (arr21_cells HB3.out.1 (by have := HP2.out; simp; omega))) ?_)
        rw [← HE.out] at HPO
        exact HPO.out _ HB3.out.2
      · have HE : Hid (decN q ++ (c :: acc) = decN N) := by have := HDR.out; rwa [if_neg hq0] at this
        have hq01 : (q : Int) ≠ 0 := by omega
        clear HDR
        go_wp2_with fail
        go_roundw
        case rel => exact ⟨q, p, _, rfl, rfl, by have := HP1.out; simp; omega, HE.out, by have := HKQ.out; omega, HB2.out⟩
        case measure => have := HKQ.out; simp [intOf]; omega
  · obtain ⟨N, hNn⟩ : ∃ N, n.natAbs = N := ⟨_, rfl⟩
    rw [decZ_pos hn, hNn] at HPO
    have hN : N < 18446744073709551616 := by omega
    have hnN : n = (N : Int) := by omega
    subst hnN
    go_enter Tryz.func52, Tryz.ntmps52
    go_upto_region 5 with fail
    change Code.wp _ _ _ _ (w.alloc (.cells (arr21 []) 134))
    generalize w.alloc (.cells (arr21 []) 134) = W0 at *
    clear hNn
    generalize hb0 : w.heap.size = b at *
    go_wp2_with fail
    go_loopw [3, 5] (fun u at' wr => ∃ (k P : Nat) (acc : List UInt8), u = .int .u64 k ∧ at' = .int .i64 P ∧ Hid (acc.length + P = 21 ∧ decN k ++ acc = decN N ∧ k < 18446744073709551616 ∧ Blk wr b 134 (arr21 acc) ∧ Below b w wr)) (fun u _ _ => (intOf u).toNat)
    case atStart => exact ⟨N, 21, [], rfl, rfl, rfl, by simp, hN, HBK.out, HB.out⟩
    case round =>
      clear HBK HB
      obtain ⟨k, P, acc, rfl, rfl, HJ⟩ := hrel
      obtain ⟨wo, rfl⟩ : ∃ wo : World, wo = wr := ⟨_, rfl⟩
      have hl20 : acc.length + 1 ≤ 20 := by
        have h := congrArg List.length HJ.out.2.1
        have := decN_len 20 N (by omega) (by have : (10:Nat) ^ 20 = 100000000000000000000 := rfl; omega)
        have : 0 < (decN k).length := List.length_pos_iff.2 (decN_ne k)
        simp at h; omega
      obtain ⟨p, hp⟩ : ∃ p, P = p + 1 := ⟨P - 1, by have := HJ.out.1; omega⟩
      have hPp : (P : Int) - 1 = p := by omega
      have hp21 : p < 21 := by have := HJ.out.1; omega
      have hp1 : 1 ≤ p := by have := HJ.out.1; omega
      have HP1 : Hid (acc.length + p = 20) := by have := HJ.out.1; show _ = _; omega
      obtain ⟨d, hd⟩ : ∃ d, k % 10 = d := ⟨_, rfl⟩
      obtain ⟨q, hq⟩ : ∃ q, k / 10 = q := ⟨_, rfl⟩
      have hd1 : (k : Int) % 10 = d := by omega
      have hd2 : d < 10 := by omega
      have hq1 : (k : Int) / 10 = q := by omega
      have HDR := Lib.hid (dec_round HJ.out.2.1)
      rw [hd, hq] at HDR
      have HKQ : Hid (q ≤ k ∧ (q ≠ 0 → q < k) ∧ k < 18446744073709551616) := by have := HJ.out.2.2.1; show _ ∧ _ ∧ _; omega
      have HDD : Hid (Value.int .u8 (48 + (d : Int)) = u8c (UInt8.ofNat (48 + d))) := by show Value.int .u8 _ = Value.int .u8 _; rw [dig_toNat hd2]; rfl
      clear hp hd hq
      generalize UInt8.ofNat (48 + d) = c at *
      have hk1 : k < 18446744073709551616 := HKQ.out.2.2
      have c1 : wo.cell? ⟨b, p, none⟩ = some (.int .u8 0) := by
        rw [HJ.out.2.2.2.1.cell p]
        have := HP1.out
        simp [arr21, List.getElem?_append, show p < 21 - acc.length by omega]
      have f1 : wo.frozen? ⟨b, p, none⟩ = false := HJ.out.2.2.2.1.frozen p
      go_upto_region 8 with fail
      rw [HDD.out]
      have HB2 : Hid (Blk (wo.setCell ⟨b, p, none⟩ (u8c c)) b 134 (arr21 (c :: acc)) ∧ Below b w (wo.setCell ⟨b, p, none⟩ (u8c c))) := by
        have h := HJ.out.2.2.2.1.set p (u8c c)
        rw [arr21_set _ _ _ HP1.out] at h
        exact ⟨h, HJ.out.2.2.2.2.setCell (p := ⟨b, p, none⟩) (Nat.le_refl _) _⟩
      generalize wo.setCell ⟨b, p, none⟩ (u8c c) = W1 at *
      clear c1 f1 hd1 HDD HJ
      by_cases hq0 : q = 0
      · subst hq0
        have HE : Hid (c :: acc = decN N) := by have := HDR.out; rwa [if_pos rfl] at this
        clear HDR
        have hsl := slice21 b p hp21 W1
        go_wp2_with ((with_reducible show wpList _ _ _ (Oper.mk (some 32) _ _ _ _ _ :: _) _ _); refine wpList_val rfl (exec_str (l := c :: acc) rfl (by rw [show (c :: acc).length = 21 - p by have := HP1.out; simp; omega]; rfl) (arr21_cells HB2.out.1 (by have := HP1.out; simp; omega))) ?_)
        rw [← HE.out] at HPO
        exact HPO.out _ HB2.out.2
      · have HE : Hid (decN q ++ (c :: acc) = decN N) := by have := HDR.out; rwa [if_neg hq0] at this
        have hq01 : (q : Int) ≠ 0 := by omega
        clear HDR
        go_wp2_with fail
        go_roundw
        case rel => exact ⟨q, p, _, rfl, rfl, by have := HP1.out; simp; omega, HE.out, by have := HKQ.out; omega, HB2.out⟩
        case measure => have := HKQ.out; simp [intOf]; omega
end Go.Proofs.YtkinhhkodaacjaaGreatDoor
namespace Go.Proofs.YtkinhhkodaacjaaGreatDoor
open Go.RowKit

theorem exec_cat {w : World} {o : Oper} {ac : Act} {X Y : Operand} {ty : TypeId} {x y : List UInt8} (ho : o.op = .binOp .add 9 X Y ty) (hx : ac.eval X = .string ⟨x.toArray⟩) (hy : ac.eval Y = .string ⟨y.toArray⟩) (hl : x.length + y.length ≤ 9223372036854775807) :
    (execOp ac.eval o).run Tryz.prog w = .ok (.value (.string ⟨(x ++ y).toArray⟩)) w := by
  have h := run_string_add_sum (P := Tryz.prog) (w := w) ⟨x.toArray⟩ ⟨y.toArray⟩ (by show x.toArray.size + y.toArray.size ≤ _; simpa using hl)
  have h2 : (⟨x.toArray⟩ : ByteArray) ++ ⟨y.toArray⟩ = ⟨(x ++ y).toArray⟩ := by
    apply ByteArray.ext
    simp [ByteArray.data_append]
  rw [h2] at h
  have h3 : (binOp .add 9 (.string ⟨x.toArray⟩) (.string ⟨y.toArray⟩)).run Tryz.prog w = .ok (.string ⟨(x ++ y).toArray⟩) w := h
  have hg : (eqGuard .add 9 X Y (.string ⟨x.toArray⟩) (.string ⟨y.toArray⟩)).run Tryz.prog w = .ok () w := rfl
  simp only [execOp, ho, hx, hy, Sem.run_bind, hg, Result.andThen, h3, Sem.run_pure]
theorem exec_one1 {w : World} {c : UInt8} : (Instr.buildSlice 44 1 #[(0, u8c c)]).run Tryz.prog w = .ok (.slice (some ⟨w.heap.size, 0, none⟩) 1 1) (w.alloc (.cells #[u8c c] 5)) := by
  unfold Instr.buildSlice u8c
  go_simp
  try rfl
theorem exec_oneS {w W' : World} {v : Value} {o : Oper} {ac : Act} {X : Operand} {c : UInt8} (hrun : (Instr.buildSlice 44 1 #[(0, u8c c)]).run Tryz.prog w = .ok v W') (ho : o.op = .buildSlice 44 1 #[(0, X)]) (hx : ac.eval X = u8c c) :
    (execOp ac.eval o).run Tryz.prog w = .ok (.value v) W' := by
  simp [execOp, ho, hx, hrun, Result.andThen]
theorem row1_cells {w : World} {b : Nat} {c : UInt8} (h : Blk w b 5 #[u8c c]) : ∀ j (hj : j < [c].length), w.cell? ((⟨b, 0, none⟩ : Addr).add j) = some (.int .u8 ([c][j].toNat : Int)) := by
  intro j hj
  have : j = 0 := by simpa using hj
  subst this
  rw [Addr.add_lit, h.cell]
  rfl

set_option maxRecDepth 100000 in
set_option maxHeartbeats 1600000 in
theorem rnum_any : ∀ (N : Nat) (n : Int) (w : World), n.natAbs = N → -9223372036854775808 ≤ n → n ≤ 9223372036854775807 → Calls Tryz.prog 81 #[.int .i64 n] w fun e w' => e = .returned (.string ⟨(decZ n).toArray⟩) ∧ Below w.heap.size w w' := by
  intro N
  induction N using Nat.strongRecOn with
  | _ N ih =>
  intro n w hN h1 h2
  have HPO : Hid (∀ w', Below w.heap.size w w' → (fun e w' => e = Ending.returned (.string ⟨(decZ n).toArray⟩) ∧ Below w.heap.size w w') (.returned (.string ⟨(decZ n).toArray⟩)) w') := fun w' h => ⟨rfl, h⟩
  generalize (fun e w' => e = Ending.returned (.string ⟨(decZ n).toArray⟩) ∧ Below w.heap.size w w') = POST at *
  obtain ⟨d, hd⟩ : ∃ d, N % 10 = d := ⟨_, rfl⟩
  obtain ⟨q, hq⟩ : ∃ q, N / 10 = q := ⟨_, rfl⟩
  have hd2 : d < 10 := by omega
  have HQ : Hid (q ≤ N ∧ (10 ≤ N → q < N)) := by show _ ∧ _; omega
  have HLN : Hid ((decN q).length ≤ 20) := decN_len 20 q (by omega) (by have : (10:Nat) ^ 20 = 100000000000000000000 := rfl; omega)
  have HD1 : Hid (Value.int .u8 (48 + (d : Int)) = u8c (UInt8.ofNat (48 + d))) := by show Value.int .u8 _ = Value.int .u8 _; rw [dig_toNat hd2]; rfl
  have HR1 : Hid (N < 10 → decN N = [UInt8.ofNat (48 + d)]) := fun h => by rw [decN_small h]; congr 2; omega
  have HR2 : Hid (10 ≤ N → decN N = decN q ++ [UInt8.ofNat (48 + d)]) := fun h => by rw [decN_step (by omega), hd, hq]
  generalize UInt8.ofNat (48 + d) = c at *
  have HB1 : Hid (Below w.heap.size w (w.alloc (.cells #[u8c c] 5))) := below1 w _
  have HK1 : Hid (Blk (w.alloc (.cells #[u8c c] 5)) w.heap.size 5 #[u8c c]) := Blk.new' rfl
  by_cases hn : n < 0
  · have HIH : Hid (∀ W, q < N → Calls Tryz.prog 81 #[.int .i64 (-(q : Int))] W fun e w' => e = .returned (.string ⟨(decZ (-(q : Int))).toArray⟩) ∧ Below W.heap.size W w') := fun W h => ih q h (-(q : Int)) W (by omega) (by omega) (by omega)
    rw [decZ_neg hn, hN] at HPO
    clear ih
    by_cases hs : N < 10
    · have hgt : n > -10 := by omega
      have hcv : 48 - n = 48 + (d : Int) := by omega
      have HRES := Lib.hid (HR1.out hs)
      rw [HRES.out] at HPO
      clear HR1 HR2 HIH HRES hN hd hq hs
      go_enter Tryz.func81, Tryz.ntmps81
      go_wp2_with (first | ((with_reducible show wpList _ _ _ (Oper.mk (some 25) _ _ _ _ _ :: _) _ _); rw [HD1.out]; refine wpList_val rfl (exec_oneS exec_one1 rfl rfl) ?_) | ((with_reducible show wpList _ _ _ (Oper.mk (some 26) _ _ _ _ _ :: _) _ _); refine wpList_val rfl (exec_str (l := [c]) rfl rfl (row1_cells HK1.out)) ?_) | ((with_reducible show wpList _ _ _ (Oper.mk (some 27) _ _ _ _ _ :: _) _ _); refine wpList_val rfl (exec_cat (x := [45]) (y := [c]) rfl rfl rfl (by simp)) ?_))
      exact HPO.out _ HB1.out
    · have hq0 : 0 < q := by omega
      have hlt : ¬ n > -10 := by omega
      have HIH : Hid (∀ W, Calls Tryz.prog 81 #[.int .i64 (-(q : Int))] W fun e w' => e = .returned (.string ⟨(45 :: decN q).toArray⟩) ∧ Below W.heap.size W w') := fun W => by have := HIH.out W (HQ.out.2 (by omega)); rwa [decZ_neg (show -(q : Int) < 0 by omega), show (-(q : Int)).natAbs = q by omega] at this
      have HRES : Hid (45 :: decN N = (45 :: decN q) ++ [c]) := by have := HR2.out (by omega); show _ = _; rw [this]; rfl
      have HLX : Hid ((45 :: decN q).length ≤ 21) := by have := HLN.out; show _ ≤ _; simp; omega
      have ht1 : n.tdiv 10 = -(q : Int) := by
        obtain ⟨M, rfl⟩ : ∃ M : Nat, n = -(M : Int) := ⟨n.natAbs, by omega⟩
        rw [Int.neg_tdiv, Int.tdiv_eq_ediv_of_nonneg (by omega)]
        omega
      have ht2 : n.tmod 10 = -(d : Int) := by
        obtain ⟨M, rfl⟩ : ∃ M : Nat, n = -(M : Int) := ⟨n.natAbs, by omega⟩
        rw [Int.neg_tmod, Int.tmod_eq_emod_of_nonneg (by omega)]
        omega
      have hcv : 48 - -(d : Int) = 48 + (d : Int) := by omega
      have hw1 : IntKind.i64.wrap (-(q : Int)) = -(q : Int) := IntWalk.i64_in _ (by omega)
      have hw2 : IntKind.i64.wrap (48 + (d : Int)) = 48 + (d : Int) := IntWalk.i64_in _ (by omega)
      have hw3 : IntKind.u8.wrap (48 + (d : Int)) = 48 + (d : Int) := by simp [IntKind.wrap, IntKind.signed, IntKind.bits]; omega
      clear HR1 HR2 hN hd hq hs HB1 HK1 HLN HQ
      generalize 45 :: decN q = r at *
      go_enter Tryz.func81, Tryz.ntmps81
      go_upto_region 8 with fail
      have hS : Hid (Below w.heap.size w w.drew) := (Below.refl _ w).drew
      refine wp_region_held_drew (S := fun X => Hid (Below w.heap.size w X)) (by kernel_rfl) hS (fun hHeld => ?_)
      (refine takeW (i := 0) (v := ?_) rfl (by kernel_rfl) (by kernel_rfl) (by kernel_rfl) (fun _ _ _ h => h) (by rfl) (by assumption) ?_ ?_; rotate_left; (intro W hW; (try dsimp only at hW); go_simp; try with_reducible rfl); (try simp only [Act.put, List.setIfInBounds_toArray, List.set_cons_zero, List.set_cons_succ]))
      (refine takeW (i := 1) (v := ?_) rfl (by kernel_rfl) (by kernel_rfl) (by kernel_rfl) (fun _ _ _ h => h) (by rfl) (by assumption) ?_ ?_; rotate_left; (intro W hW; (try dsimp only at hW); go_simp; try with_reducible rfl); (try simp only [Act.put, List.setIfInBounds_toArray, List.set_cons_zero, List.set_cons_succ]))
      (refine takeW (i := 3) (v := ?_) rfl (by kernel_rfl) (by kernel_rfl) (by kernel_rfl) (fun _ _ _ h => h) (by rfl) (by assumption) ?_ ?_; rotate_left; (intro W hW; (try dsimp only at hW); go_simp; try with_reducible rfl); (try simp only [Act.put, List.setIfInBounds_toArray, List.set_cons_zero, List.set_cons_succ]))
      (refine takeW (i := 4) (v := ?_) rfl (by kernel_rfl) (by kernel_rfl) (by kernel_rfl) (fun _ _ _ h => h) (by rfl) (by assumption) ?_ ?_; rotate_left; (intro W hW; (try dsimp only at hW); go_simp; try with_reducible rfl); (try simp only [Act.put, List.setIfInBounds_toArray, List.set_cons_zero, List.set_cons_succ]))
      (refine takeW (i := 5) (v := ?_) rfl (by kernel_rfl) (by kernel_rfl) (by kernel_rfl) (fun _ _ _ h => h) (by rfl) (by assumption) ?_ ?_; rotate_left; (intro W hW; (try dsimp only at hW); go_simp; try with_reducible rfl); (try simp only [Act.put, List.setIfInBounds_toArray, List.set_cons_zero, List.set_cons_succ]))
      (refine takeW (i := 6) (v := ?_) rfl (by kernel_rfl) (by kernel_rfl) (by kernel_rfl) (fun _ _ _ h => h) (by rfl) (by assumption) ?_ ?_; rotate_left; (intro W hW; (try dsimp only at hW); go_simp; try with_reducible rfl); (try simp only [Act.put, List.setIfInBounds_toArray, List.set_cons_zero, List.set_cons_succ]))
      refine takeC2 (i := 2) (j := 7) rfl rfl (by kernel_rfl) (by rfl) (by rfl) (fun K hK => ?_) (fun K hK => ?_)
      · go_simp
        refine (HIH.out w.drew).mono ?_
        rintro e W2 ⟨rfl, hb⟩
        have hF : Hid (Below w.heap.size w W2) := Lib.hid (hHeld.out.trans (hb.mono hHeld.out.size))
        (try have HROW := Lib.hid (HROW.out.keep hb))
        clear hb hHeld
        refine hK.out _ _ hF (fun hHeld => ?_)
        clear hK K hF
        try simp only [Act.put, List.setIfInBounds_toArray, List.set_cons_zero, List.set_cons_succ]
        obtain ⟨W7, hW7⟩ : ∃ W7, W2.alloc (.cells #[u8c c] 5) = W7 := ⟨_, rfl⟩
        obtain ⟨g7, hg7⟩ : ∃ g7, W2.heap.size = g7 := ⟨_, rfl⟩
        have HROW : Hid (Blk W7 g7 5 #[u8c c]) := Lib.hid (by rw [← hW7]; exact Blk.new' hg7)
        have HB7 : Hid (Below w.heap.size w W7) := Lib.hid (by rw [← hW7]; exact hHeld.out.alloc hHeld.out.size _)
        have HX7 := Lib.hid (exec_one1 (w := W2) (c := c))
        rw [hW7, hg7] at HX7
        clear hW7 hg7
        refine takeV (i := 7) rfl (by kernel_rfl) (by rfl) (exec_oneS HX7.out rfl (by exact HD1.out)) (HB7) ?_
        (try simp only [Act.put, List.setIfInBounds_toArray, List.set_cons_zero, List.set_cons_succ])
        have hHeld : Hid (Below w.heap.size w W7) := HB7
        clear HB7 HX7
        refine takeV (i := 8) rfl (by kernel_rfl) (by rfl) (exec_str (l := [c]) rfl rfl (row1_cells HROW.out)) (hHeld) ?_
        (try simp only [Act.put, List.setIfInBounds_toArray, List.set_cons_zero, List.set_cons_succ])
        have hHeld : Hid (Below w.heap.size w W7) := hHeld
        (refine takeW (i := 9) rfl (by kernel_rfl) (by kernel_rfl) (by kernel_rfl) (fun _ _ _ h => h) (by rfl) (by assumption) (fun W hW => exec_cat (y := [c]) rfl rfl rfl (by have := HLX.out; simp; omega)) ?_; (try simp only [Act.put, List.setIfInBounds_toArray, List.set_cons_zero, List.set_cons_succ]))
        (refine takeW (i := 10) (v := ?_) rfl (by kernel_rfl) (by kernel_rfl) (by kernel_rfl) (fun _ _ _ h => h) (by rfl) (by assumption) ?_ ?_; rotate_left; (intro W hW; (try dsimp only at hW); go_simp; try with_reducible rfl); (try simp only [Act.put, List.setIfInBounds_toArray, List.set_cons_zero, List.set_cons_succ]))
        refine wpAnyH_done (by kernel_rfl) ?_ _
        have HBF := Lib.hid hHeld.out
        clear hHeld HROW HIH
        go_wp2
        rw [HRES.out] at HPO
        exact HPO.out _ HBF.out
      · obtain ⟨W7, hW7⟩ : ∃ W7, w.drew.alloc (.cells #[u8c c] 5) = W7 := ⟨_, rfl⟩
        obtain ⟨g7, hg7⟩ : ∃ g7, w.drew.heap.size = g7 := ⟨_, rfl⟩
        have HROW : Hid (Blk W7 g7 5 #[u8c c]) := Lib.hid (by rw [← hW7]; exact Blk.new' hg7)
        have HB7 : Hid (Below w.heap.size w W7) := Lib.hid (by rw [← hW7]; exact hHeld.out.alloc hHeld.out.size _)
        have HX7 := Lib.hid (exec_one1 (w := w.drew) (c := c))
        rw [hW7, hg7] at HX7
        clear hW7 hg7
        unfold Oper.wp
        rw [exec_oneS HX7.out rfl (by exact HD1.out)]
        refine hK.out _ _ (HB7) (fun hHeld => ?_)
        clear hK K
        (try simp only [Act.put, List.setIfInBounds_toArray, List.set_cons_zero, List.set_cons_succ])
        clear HB7 HX7
        refine takeC2 (i := 2) (j := 8) rfl rfl (by kernel_rfl) (by rfl) (by rfl) (fun K hK => ?_) (fun K hK => ?_)
        · go_simp
          refine (HIH.out W7).mono ?_
          rintro e W2 ⟨rfl, hb⟩
          have hF : Hid (Below w.heap.size w W2) := Lib.hid (hHeld.out.trans (hb.mono hHeld.out.size))
          (try have HROW := Lib.hid (HROW.out.keep hb))
          clear hb hHeld
          refine hK.out _ _ hF (fun hHeld => ?_)
          clear hK K hF
          try simp only [Act.put, List.setIfInBounds_toArray, List.set_cons_zero, List.set_cons_succ]
          refine takeV (i := 8) rfl (by kernel_rfl) (by rfl) (exec_str (l := [c]) rfl rfl (row1_cells HROW.out)) (hHeld) ?_
          (try simp only [Act.put, List.setIfInBounds_toArray, List.set_cons_zero, List.set_cons_succ])
          have hHeld : Hid (Below w.heap.size w W2) := hHeld
          (refine takeW (i := 9) rfl (by kernel_rfl) (by kernel_rfl) (by kernel_rfl) (fun _ _ _ h => h) (by rfl) (by assumption) (fun W hW => exec_cat (y := [c]) rfl rfl rfl (by have := HLX.out; simp; omega)) ?_; (try simp only [Act.put, List.setIfInBounds_toArray, List.set_cons_zero, List.set_cons_succ]))
          (refine takeW (i := 10) (v := ?_) rfl (by kernel_rfl) (by kernel_rfl) (by kernel_rfl) (fun _ _ _ h => h) (by rfl) (by assumption) ?_ ?_; rotate_left; (intro W hW; (try dsimp only at hW); go_simp; try with_reducible rfl); (try simp only [Act.put, List.setIfInBounds_toArray, List.set_cons_zero, List.set_cons_succ]))
          refine wpAnyH_done (by kernel_rfl) ?_ _
          have HBF := Lib.hid hHeld.out
          clear hHeld HROW HIH
          go_wp2
          rw [HRES.out] at HPO
          exact HPO.out _ HBF.out
        · unfold Oper.wp
          rw [exec_str (l := [c]) rfl rfl (row1_cells HROW.out)]
          refine hK.out _ _ (hHeld) (fun hHeld => ?_)
          clear hK K
          (try simp only [Act.put, List.setIfInBounds_toArray, List.set_cons_zero, List.set_cons_succ])
          refine takeC (i := 2) rfl (by kernel_rfl) (by rfl) (fun K hK => ?_)
          go_simp
          refine (HIH.out W7).mono ?_
          rintro e W2 ⟨rfl, hb⟩
          have hF : Hid (Below w.heap.size w W2) := Lib.hid (hHeld.out.trans (hb.mono hHeld.out.size))
          (try have HROW := Lib.hid (HROW.out.keep hb))
          clear hb hHeld
          refine hK.out _ _ hF (fun hHeld => ?_)
          clear hK K hF
          try simp only [Act.put, List.setIfInBounds_toArray, List.set_cons_zero, List.set_cons_succ]
          (refine takeW (i := 9) rfl (by kernel_rfl) (by kernel_rfl) (by kernel_rfl) (fun _ _ _ h => h) (by rfl) (by assumption) (fun W hW => exec_cat (y := [c]) rfl rfl rfl (by have := HLX.out; simp; omega)) ?_; (try simp only [Act.put, List.setIfInBounds_toArray, List.set_cons_zero, List.set_cons_succ]))
          (refine takeW (i := 10) (v := ?_) rfl (by kernel_rfl) (by kernel_rfl) (by kernel_rfl) (fun _ _ _ h => h) (by rfl) (by assumption) ?_ ?_; rotate_left; (intro W hW; (try dsimp only at hW); go_simp; try with_reducible rfl); (try simp only [Act.put, List.setIfInBounds_toArray, List.set_cons_zero, List.set_cons_succ]))
          refine wpAnyH_done (by kernel_rfl) ?_ _
          have HBF := Lib.hid hHeld.out
          clear hHeld HROW HIH
          go_wp2
          rw [HRES.out] at HPO
          exact HPO.out _ HBF.out
  · have hnN : n = (N : Int) := by omega
    subst hnN
    have HIH : Hid (∀ W, q < N → Calls Tryz.prog 81 #[.int .i64 (q : Int)] W fun e w' => e = .returned (.string ⟨(decN q).toArray⟩) ∧ Below W.heap.size W w') := fun W h => by
      have := ih q h (q : Int) W (by omega) (by omega) (by omega)
      rwa [decZ_pos (by omega), show ((q : Int)).natAbs = q by omega] at this
    rw [decZ_pos hn, hN] at HPO
    have hd1 : (N : Int) % 10 = d := by omega
    have hq1 : (N : Int) / 10 = q := by omega
    clear ih hN hd hq
    by_cases hs : N < 10
    · have hgt : ¬ (N : Int) ≥ 10 := by omega
      have HRES := Lib.hid (HR1.out hs)
      rw [HRES.out] at HPO
      clear HR1 HR2 HIH HRES hs
      go_enter Tryz.func81, Tryz.ntmps81
      go_wp2_with (first | ((with_reducible show wpList _ _ _ (Oper.mk (some 10) _ _ _ _ _ :: _) _ _); rw [HD1.out]; refine wpList_val rfl (exec_oneS exec_one1 rfl rfl) ?_) | ((with_reducible show wpList _ _ _ (Oper.mk (some 11) _ _ _ _ _ :: _) _ _); refine wpList_val rfl (exec_str (l := [c]) rfl rfl (row1_cells HK1.out)) ?_))
      exact HPO.out _ HB1.out
    · have hgt : (N : Int) ≥ 10 := by omega
      have HIH := Lib.hid (HIH.out (w.alloc (.cells #[u8c c] 5)) (HQ.out.2 (by omega)))
      have HRES : Hid (decN N = decN q ++ [c]) := HR2.out (by omega)
      clear HR1 HR2 HQ hs
      generalize decN q = r at *
      go_enter Tryz.func81, Tryz.ntmps81
      go_upto_region 4 with (first | ((with_reducible show wpList _ _ _ (Oper.mk (some 10) _ _ _ _ _ :: _) _ _); rw [HD1.out]; refine wpList_val rfl (exec_oneS exec_one1 rfl rfl) ?_) | ((with_reducible show wpList _ _ _ (Oper.mk (some 11) _ _ _ _ _ :: _) _ _); refine wpList_val rfl (exec_str (l := [c]) rfl rfl (row1_cells HK1.out)) ?_))
      go_wp2_with fail
      refine HIH.out.mono ?_
      rintro e w2 ⟨rfl, hb⟩
      have HBF := Lib.hid (HB1.out.trans (hb.mono HB1.out.size))
      clear hb HIH HB1 HK1
      go_wp2_with ((with_reducible show wpList _ _ _ (Oper.mk (some 18) _ _ _ _ _ :: _) _ _); refine wpList_val rfl (exec_cat (x := r) (y := [c]) rfl rfl rfl (by have := HLN.out; simp; omega)) ?_)
      rw [HRES.out] at HPO
      exact HPO.out _ HBF.out
end Go.Proofs.YtkinhhkodaacjaaGreatDoor
