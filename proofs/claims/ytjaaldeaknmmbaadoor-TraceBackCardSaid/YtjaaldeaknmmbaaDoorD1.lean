/- number: a number in decimal digits. -/
import Derived.Test.YtjaaldeaknmmbaaDoorLA
import Derived.Test.YtjaaldeaknmmbaaDoorProg
import Derived.WalkKit
import Derived.IntWalk
import Derived.OwnWalkIn
import Derived.Deep.DeepCutAuto
import Derived.Deep.DeepMust
import Derived.Deep.QuietTactic
import Derived.WalkSpells
import Derived.WalkLawsBesides
import Derived.BigQuiet
import Derived.Lib.Hide
import Derived.Lib.SliceRun
import Derived.Laws.IdiomStrings
namespace Go.Proofs.YtjaaldeaknmmbaaDoor
open Go.RowKit

def u8c (c : UInt8) : Value := .int .u8 c.toNat
/-- The array of 21 bytes, the last ones of which are digits. -/
def arr21 (acc : List UInt8) : Array Value := (List.replicate (21 - acc.length) (Value.int .u8 0) ++ acc.map u8c).toArray
theorem arr21_set (acc : List UInt8) (c : UInt8) (p : Nat) (h : acc.length + p = 20) : (arr21 acc).setIfInBounds p (u8c c) = arr21 (c :: acc) := by
  obtain ⟨m, hm⟩ : ∃ m, 21 - acc.length = m + 1 := ⟨20 - acc.length, by omega⟩
  have hm2 : 21 - (acc.length + 1) = m := by omega
  have hpm : p = m := by omega
  subst hpm
  unfold arr21
  rw [hm, List.length_cons, hm2, List.setIfInBounds_toArray]
  congr 1
  rw [List.replicate_succ', List.append_assoc, List.set_append, if_neg (by simp)]
  simp
theorem arr21_cells {w : World} {b : Nat} {acc : List UInt8} {p : Nat} (h : Blk w b 97 (arr21 acc)) (hp : acc.length + p = 21) : ∀ j (hj : j < acc.length), w.cell? ((⟨b, p, none⟩ : Addr).add j) = some (.int .u8 (acc[j].toNat : Int)) := by
  intro j hj
  rw [Addr.add_lit, h.cell (p + j)]
  simp only [arr21, List.getElem?_toArray, List.getElem?_append, List.length_replicate]
  rw [if_neg (by omega), show p + j - (21 - acc.length) = j by omega, List.getElem?_map, List.getElem?_eq_getElem hj]
  rfl
theorem exec_str {w : World} {o : Oper} {ac : Act} {x : Operand} {a : Addr} {cap : Nat} {l : List UInt8} (ho : o.op = .convert 36 9 x) (hx : ac.eval x = .slice (some a) l.length cap) (hc : ∀ j (hj : j < l.length), w.cell? (a.add j) = some (.int .u8 (l[j].toNat : Int))) :
    (execOp ac.eval o).run Tryd.prog w = .ok (.value (.string ⟨l.toArray⟩)) w := by
  simp [execOp, ho, hx, run_convert_bytes_back (P := Tryd.prog) w 36 9 5 a cap l Tryd.underlying36 Tryd.underlying5 Tryd.underlying9 hc, Result.andThen]

theorem slice21 (b p : Nat) (hp : p < 21) (w : World) : (Instr.sliceAt 97 (.pointer (some ⟨b, 0, none⟩)) (some (.int .i64 (p : Int))) none none).run Tryd.prog w = .ok (.slice (some ⟨b, p, none⟩) (21 - p) (21 - p)) w := by
  have hl : Tryd.prog.arrayLen 97 = 21 := by kernel_rfl
  rw [run_sliceAt_array_l (P := Tryd.prog) w 97 ⟨b, 0, none⟩ (by kernel_rfl) .i64 p (by omega) (by rw [hl]; omega), hl]
  have hz : (sizeOf (Tryd.prog.elem 97)).run Tryd.prog w = .ok 1 w := by rw [show Tryd.prog.elem 97 = 5 by kernel_rfl]; exact Tryd.sizeOf5 w
  rw [hz]
  simp [Result.andThen, slicedAt, Addr.add_lit, show ¬ (21 = p) by omega]
set_option maxRecDepth 100000 in
set_option maxHeartbeats 1600000 in
theorem number_any (n : Int) (w : World) (h1 : -9223372036854775808 ≤ n) (h2 : n ≤ 9223372036854775807) : Calls Tryd.prog 20 #[.int .i64 n] w fun e w' => e = .returned (.string ⟨(decZ n).toArray⟩) ∧ Below w.heap.size w w' := by
  have HPO : Hid (∀ w', Below w.heap.size w w' → (fun e w' => e = Ending.returned (.string ⟨(decZ n).toArray⟩) ∧ Below w.heap.size w w') (.returned (.string ⟨(decZ n).toArray⟩)) w') := fun w' h => ⟨rfl, h⟩
  have HBK : Hid (Blk (w.alloc (.cells (arr21 []) 97)) w.heap.size 97 (arr21 [])) := Blk.new' rfl
  have HB : Hid (Below w.heap.size w (w.alloc (.cells (arr21 []) 97))) := below1 w _
  generalize (fun e w' => e = Ending.returned (.string ⟨(decZ n).toArray⟩) ∧ Below w.heap.size w w') = POST at *
  by_cases hn : n < 0
  · obtain ⟨N, hNn⟩ : ∃ N, n.natAbs = N := ⟨_, rfl⟩
    rw [decZ_neg hn, hNn] at HPO
    have hN : N < 18446744073709551616 := by omega
    have hwn : IntKind.u64.wrap (-IntKind.u64.wrap n) = (N : Int) := by
      rw [show IntKind.u64.wrap n = n + 18446744073709551616 by simp [IntKind.wrap, IntKind.signed, IntKind.bits]; omega]
      simp [IntKind.wrap, IntKind.signed, IntKind.bits]; omega
    go_enter Tryd.func20, Tryd.ntmps20
    go_upto_region 5 with fail
    change Code.wp _ _ _ _ (w.alloc (.cells (arr21 []) 97))
    generalize w.alloc (.cells (arr21 []) 97) = W0 at *
    clear hwn hNn
    generalize hb0 : w.heap.size = b at *
    go_wp2_with fail
    go_loopw [3, 5] (fun u at' wr => ∃ (k P : Nat) (acc : List UInt8), u = .int .u64 k ∧ at' = .int .i64 P ∧ Hid (acc.length + P = 21 ∧ decN k ++ acc = decN N ∧ k < 18446744073709551616 ∧ Blk wr b 97 (arr21 acc) ∧ Below b w wr)) (fun u _ _ => (intOf u).toNat)
    case atStart => exact ⟨N, 21, [], rfl, rfl, rfl, by simp, hN, HBK.out, HB.out⟩
    case round =>
      clear HBK HB
      obtain ⟨k, P, acc, rfl, rfl, HJ⟩ := hrel
      obtain ⟨wo, rfl⟩ : ∃ wo : World, wo = wr := ⟨_, rfl⟩
      have hl20 : acc.length + 1 ≤ 20 := by
        have h := congrArg List.length HJ.out.2.1
        have := decN_len 20 N (by omega) (by have : (10:Nat) ^ 20 = 100000000000000000000 := rfl; omega)
        have : 0 < (decN k).length := List.length_pos_iff.2 (decN_ne k)
        simp at h; omega
      obtain ⟨p, hp⟩ : ∃ p, P = p + 1 := ⟨P - 1, by have := HJ.out.1; omega⟩
      have hPp : (P : Int) - 1 = p := by omega
      have hp21 : p < 21 := by have := HJ.out.1; omega
      have hp1 : 1 ≤ p := by have := HJ.out.1; omega
      have HP1 : Hid (acc.length + p = 20) := by have := HJ.out.1; show _ = _; omega
      obtain ⟨d, hd⟩ : ∃ d, k % 10 = d := ⟨_, rfl⟩
      obtain ⟨q, hq⟩ : ∃ q, k / 10 = q := ⟨_, rfl⟩
      have hd1 : (k : Int) % 10 = d := by omega
      have hd2 : d < 10 := by omega
      have hq1 : (k : Int) / 10 = q := by omega
      have HDR := Lib.hid (dec_round HJ.out.2.1)
      rw [hd, hq] at HDR
      have HKQ : Hid (q ≤ k ∧ (q ≠ 0 → q < k) ∧ k < 18446744073709551616) := by have := HJ.out.2.2.1; show _ ∧ _ ∧ _; omega
      have HDD : Hid (Value.int .u8 (48 + (d : Int)) = u8c (UInt8.ofNat (48 + d))) := by show Value.int .u8 _ = Value.int .u8 _; rw [dig_toNat hd2]; rfl
      clear hp hd hq
      generalize UInt8.ofNat (48 + d) = c at *
      have hk1 : k < 18446744073709551616 := HKQ.out.2.2
      have c1 : wo.cell? ⟨b, p, none⟩ = some (.int .u8 0) := by
        rw [HJ.out.2.2.2.1.cell p]
        have := HP1.out
        simp [arr21, List.getElem?_append, show p < 21 - acc.length by omega]
      have f1 : wo.frozen? ⟨b, p, none⟩ = false := HJ.out.2.2.2.1.frozen p
      go_upto_region 8 with fail
      rw [HDD.out]
      have HB2 : Hid (Blk (wo.setCell ⟨b, p, none⟩ (u8c c)) b 97 (arr21 (c :: acc)) ∧ Below b w (wo.setCell ⟨b, p, none⟩ (u8c c))) := by
        have h := HJ.out.2.2.2.1.set p (u8c c)
        rw [arr21_set _ _ _ HP1.out] at h
        exact ⟨h, HJ.out.2.2.2.2.setCell (p := ⟨b, p, none⟩) (Nat.le_refl _) _⟩
      generalize wo.setCell ⟨b, p, none⟩ (u8c c) = W1 at *
      clear c1 f1 hd1 HDD HJ
      by_cases hq0 : q = 0
      · subst hq0
        have HE : Hid (c :: acc = decN N) := by have := HDR.out; rwa [if_pos rfl] at this
        clear HDR
        obtain ⟨p2, hp2⟩ : ∃ p2, p = p2 + 1 := ⟨p - 1, by omega⟩
        have hpp : (p : Int) - 1 = p2 := by omega
        have hp221 : p2 < 21 := by omega
        have HP2 : Hid (acc.length + p2 = 19) := by have := HP1.out; show _ = _; omega
        clear hp2
        have c1 : W1.cell? ⟨b, p2, none⟩ = some (.int .u8 0) := by
          rw [HB2.out.1.cell p2]
          have := HP2.out
          have h3 : p2 < 20 - acc.length := by omega
          simp [arr21, List.getElem?_append, h3]
        have f1 : W1.frozen? ⟨b, p2, none⟩ = false := HB2.out.1.frozen p2
        go_upto_region 13 with fail
        change Code.wp _ _ _ _ (W1.setCell ⟨b, p2, none⟩ (u8c 45))
        have HB3 : Hid (Blk (W1.setCell ⟨b, p2, none⟩ (u8c 45)) b 97 (arr21 (45 :: c :: acc)) ∧ Below b w (W1.setCell ⟨b, p2, none⟩ (u8c 45))) := by
          have h := HB2.out.1.set p2 (u8c 45)
          rw [arr21_set _ _ _ (by have := HP2.out; simp; omega)] at h
          exact ⟨h, HB2.out.2.setCell (p := ⟨b, p2, none⟩) (Nat.le_refl _) _⟩
        generalize W1.setCell ⟨b, p2, none⟩ (u8c 45) = W2 at *
        have hsl := slice21 b p2 hp221 W2
        go_wp2_with ((with_reducible show wpList _ _ _ (Oper.mk (some 32) _ _ _ _ _ :: _) _ _); refine wpList_val rfl (exec_str (l := 45 :: c :: acc) rfl (by rw [show (45 :: c :: acc).length = 21 - p2 by have := HP2.out; simp; omega]; rfl) (arr21_cells HB3.out.1 (by have := HP2.out; simp; omega))) ?_)
        rw [← HE.out] at HPO
        exact HPO.out _ HB3.out.2
      · have HE : Hid (decN q ++ (c :: acc) = decN N) := by have := HDR.out; rwa [if_neg hq0] at this
        have hq01 : (q : Int) ≠ 0 := by omega
        clear HDR
        go_wp2_with fail
        go_roundw
        case rel => exact ⟨q, p, _, rfl, rfl, by have := HP1.out; simp; omega, HE.out, by have := HKQ.out; omega, HB2.out⟩
        case measure => have := HKQ.out; simp [intOf]; omega
  · obtain ⟨N, hNn⟩ : ∃ N, n.natAbs = N := ⟨_, rfl⟩
    rw [decZ_pos hn, hNn] at HPO
    have hN : N < 18446744073709551616 := by omega
    have hnN : n = (N : Int) := by omega
    subst hnN
    go_enter Tryd.func20, Tryd.ntmps20
    go_upto_region 5 with fail
    change Code.wp _ _ _ _ (w.alloc (.cells (arr21 []) 97))
    generalize w.alloc (.cells (arr21 []) 97) = W0 at *
    clear hNn
    generalize hb0 : w.heap.size = b at *
    go_wp2_with fail
    go_loopw [3, 5] (fun u at' wr => ∃ (k P : Nat) (acc : List UInt8), u = .int .u64 k ∧ at' = .int .i64 P ∧ Hid (acc.length + P = 21 ∧ decN k ++ acc = decN N ∧ k < 18446744073709551616 ∧ Blk wr b 97 (arr21 acc) ∧ Below b w wr)) (fun u _ _ => (intOf u).toNat)
    case atStart => exact ⟨N, 21, [], rfl, rfl, rfl, by simp, hN, HBK.out, HB.out⟩
    case round =>
      clear HBK HB
      obtain ⟨k, P, acc, rfl, rfl, HJ⟩ := hrel
      obtain ⟨wo, rfl⟩ : ∃ wo : World, wo = wr := ⟨_, rfl⟩
      have hl20 : acc.length + 1 ≤ 20 := by
        have h := congrArg List.length HJ.out.2.1
        have := decN_len 20 N (by omega) (by have : (10:Nat) ^ 20 = 100000000000000000000 := rfl; omega)
        have : 0 < (decN k).length := List.length_pos_iff.2 (decN_ne k)
        simp at h; omega
      obtain ⟨p, hp⟩ : ∃ p, P = p + 1 := ⟨P - 1, by have := HJ.out.1; omega⟩
      have hPp : (P : Int) - 1 = p := by omega
      have hp21 : p < 21 := by have := HJ.out.1; omega
      have hp1 : 1 ≤ p := by have := HJ.out.1; omega
      have HP1 : Hid (acc.length + p = 20) := by have := HJ.out.1; show _ = _; omega
      obtain ⟨d, hd⟩ : ∃ d, k % 10 = d := ⟨_, rfl⟩
      obtain ⟨q, hq⟩ : ∃ q, k / 10 = q := ⟨_, rfl⟩
      have hd1 : (k : Int) % 10 = d := by omega
      have hd2 : d < 10 := by omega
      have hq1 : (k : Int) / 10 = q := by omega
      have HDR := Lib.hid (dec_round HJ.out.2.1)
      rw [hd, hq] at HDR
      have HKQ : Hid (q ≤ k ∧ (q ≠ 0 → q < k) ∧ k < 18446744073709551616) := by have := HJ.out.2.2.1; show _ ∧ _ ∧ _; omega
      have HDD : Hid (Value.int .u8 (48 + (d : Int)) = u8c (UInt8.ofNat (48 + d))) := by show Value.int .u8 _ = Value.int .u8 _; rw [dig_toNat hd2]; rfl
      clear hp hd hq
      generalize UInt8.ofNat (48 + d) = c at *
      have hk1 : k < 18446744073709551616 := HKQ.out.2.2
      have c1 : wo.cell? ⟨b, p, none⟩ = some (.int .u8 0) := by
        rw [HJ.out.2.2.2.1.cell p]
        have := HP1.out
        simp [arr21, List.getElem?_append, show p < 21 - acc.length by omega]
      have f1 : wo.frozen? ⟨b, p, none⟩ = false := HJ.out.2.2.2.1.frozen p
      go_upto_region 8 with fail
      rw [HDD.out]
      have HB2 : Hid (Blk (wo.setCell ⟨b, p, none⟩ (u8c c)) b 97 (arr21 (c :: acc)) ∧ Below b w (wo.setCell ⟨b, p, none⟩ (u8c c))) := by
        have h := HJ.out.2.2.2.1.set p (u8c c)
        rw [arr21_set _ _ _ HP1.out] at h
        exact ⟨h, HJ.out.2.2.2.2.setCell (p := ⟨b, p, none⟩) (Nat.le_refl _) _⟩
      generalize wo.setCell ⟨b, p, none⟩ (u8c c) = W1 at *
      clear c1 f1 hd1 HDD HJ
      by_cases hq0 : q = 0
      · subst hq0
        have HE : Hid (c :: acc = decN N) := by have := HDR.out; rwa [if_pos rfl] at this
        clear HDR
        have hsl := slice21 b p hp21 W1
        go_wp2_with ((with_reducible show wpList _ _ _ (Oper.mk (some 32) _ _ _ _ _ :: _) _ _); refine wpList_val rfl (exec_str (l := c :: acc) rfl (by rw [show (c :: acc).length = 21 - p by have := HP1.out; simp; omega]; rfl) (arr21_cells HB2.out.1 (by have := HP1.out; simp; omega))) ?_)
        rw [← HE.out] at HPO
        exact HPO.out _ HB2.out.2
      · have HE : Hid (decN q ++ (c :: acc) = decN N) := by have := HDR.out; rwa [if_neg hq0] at this
        have hq01 : (q : Int) ≠ 0 := by omega
        clear HDR
        go_wp2_with fail
        go_roundw
        case rel => exact ⟨q, p, _, rfl, rfl, by have := HP1.out; simp; omega, HE.out, by have := HKQ.out; omega, HB2.out⟩
        case measure => have := HKQ.out; simp [intOf]; omega
end Go.Proofs.YtjaaldeaknmmbaaDoor
