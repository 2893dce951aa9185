/- each: its iterators, where a round writes into a builder. -/
import Derived.Test.YtkinhhkodaacjaaGreatDoorQ1
import Derived.Test.YtkinhhkodaacjaaGreatDoorR6
import Derived.Test.YtkinhhkodaacjaaGreatDoorBs
import Derived.RangeFuncNested
namespace Go.Proofs.YtkinhhkodaacjaaGreatDoor
open Go.RowKit Go.Shelf
attribute [local go_sem] Oper.semAt_some

theorem W43 : Wide Tryz.prog 46 6 := ⟨⟨_, Tryz.underlying46, rfl⟩, by kernel_rfl⟩
theorem W39 : Wide Tryz.prog 81 7 := ⟨⟨_, Tryz.underlying81, rfl⟩, by kernel_rfl⟩
def encV {α : Type} (enc : α → List Value) (x : α) : Array Value := #[.agg (enc x).toArray]

set_option maxRecDepth 100000 in
set_option maxHeartbeats 1600000 in
theorem eachO_in {α : Type} {enc : α → List Value} (h6 : ∀ x, (enc x).length = 6) (hone : ∀ x, ∀ u ∈ enc x, u.oneCell' = true) (n : Nat) (hn : 1 ≤ n) (y g1 n₀ : Nat) (p : Nat → Prop) (v : Value) (l : List α) (J Jx : List α → World → Prop) (W : World) (hJ : AbidesFrom W.heap.size J)
    (hY : ∀ pre x W1, J pre W1 → pre.length < l.length → YieldAt Fence.wide (n - 1) Tryz.prog y (encV enc x) W1 fun e W' =>
      (e = .returned (.bool true) ∧ J (pre ++ [x]) W' ∧ KQ n₀ p W1 W') ∨ (e = .returned (.bool false) ∧ Jx (pre ++ [x]) W'))
    (hn₀ : n₀ ≤ W.heap.size) (h1 : W.cell? ⟨g1, 0, none⟩ = some v) (hL : ∀ W', KQ n₀ p W W' → Rd enc 6 W' v l) (h0 : J [] W) :
    CallsIn Fence.wide n Tryz.prog 53 #[.func (.yield y) #[] #[], .pointer (some ⟨g1, 0, none⟩)] W fun e W' => (∃ v, e = .returned v) ∧
      ((∃ xs, xs = l ∧ J xs W') ∨ (∃ pre, pre <+: l ∧ Jx pre W')) := by
  obtain ⟨a, cap, rfl, q1, q2, q3⟩ := (hL W (KQ.refl _ _ _)).shape
  have HLL := Lib.hid hL
  clear hL
  generalize hnn : l.length = nn at *
  have HN := Lib.hid hnn
  clear hnn
  refine callsIn_of_wp Tryz.func53 rfl trivial ?_ rfl
  simp only [Tryz.ntmps53, List.size_toArray, List.length_cons, List.length_nil, Nat.reduceAdd, Nat.reduceSub, Array.replicate_succ, Array.replicate_zero, List.push_toArray, List.append_toArray, List.nil_append, List.cons_append]
  gi_wp2
  gi_loopw [7] (fun i wr => ∃ k : Nat, k ≤ nn ∧ i = .int .i64 k ∧ J (l.take k) wr ∧ KQ n₀ p W wr ∧ W.heap.size ≤ wr.heap.size)
    (fun i _ => nn - (intOf i).toNat)
  case atStart => exact ⟨0, Nat.zero_le _, rfl, h0, KQ.refl _ _ _, Nat.le_refl _⟩
  case round =>
    obtain ⟨k, hk, rfl, hJs, hnx, hsz⟩ := hrel
    by_cases hlt : k < nn
    · obtain ⟨x, hs⟩ : ∃ x, l[k]? = some x := ⟨_, List.getElem?_eq_getElem (by rw [HN.out]; exact hlt)⟩
      obtain ⟨b, off, rfl, hbl, hc⟩ := (HLL.out wr hnx).row (by rintro rfl; simp at hs)
      have HC := Lib.hid (hc k x hs)
      have HTK : Hid (l.take (k + 1) = l.take k ++ [x]) := take_snoc hs
      have hlen : (l.take k).length < nn := by rw [List.length_take, HN.out]; omega
      have HPX : Hid (l.take (k + 1) <+: l) := List.take_prefix _ _
      have HLN := Lib.hid hlen
      clear hc hs hlen
      gi_wp2_with (first
        | (refine wpListIn_loadW W43 rfl rfl rfl (enc x) (h6 x) HC.out ?_)
        | (refine wpListIn_boxW W43 rfl rfl rfl (enc x) rfl (h6 x) (hone x) rfl ?_; intro W1 HX hal hz1; have HK := Lib.hid HX.list; have zz : wr.heap.size < W1.heap.size := (by omega); obtain ⟨fn, tmps, assign, body, hy, hR⟩ := hY _ x W1 (hJ _ _ _ none hJs (grown_of_below hal) (by simp)) HLN.out; unfold encV at hy)
        | (refine wpListIn_loadW W43 rfl rfl rfl (enc x) (h6 x) HK.out ?_))
      refine hR.mono ?_
      rintro e W3 (⟨rfl, hJ3, hk3⟩ | ⟨rfl, hJx3⟩)
      · gi_wp2
        go_roundw
        case rel => exact ⟨k + 1, by omega, by go_num, by rw [HTK.out]; exact hJ3, (hnx.trans (KQ.of_below hal (Nat.le_trans hn₀ hsz))).trans hk3, Nat.le_trans hsz (Nat.le_trans hal.size hk3.1.size)⟩
        case measure => simp [intOf]; omega
      · gi_wp2
        refine bodyPost_ret (results_none rfl _ _ _) rfl ?_
        refine ⟨⟨_, rfl⟩, .inr ⟨_, ?_, hJx3⟩⟩
        rw [← HTK.out]
        exact HPX.out
    · obtain rfl : nn = k := by omega
      gi_wp2
      go_end0
      exact ⟨⟨_, rfl⟩, .inl ⟨_, by rw [List.take_of_length_le (by rw [HN.out]; exact Nat.le_refl _)], hJs⟩⟩
theorem eachO_stops {α : Type} {enc : α → List Value} (h6 : ∀ x, (enc x).length = 6) (hone : ∀ x, ∀ u ∈ enc x, u.oneCell' = true) (n : Nat) (hn : 1 ≤ n) (g1 n₀ : Nat) (p : Nat → Prop) (v : Value) (l : List α) (w : World)
    (hn₀ : n₀ ≤ w.heap.size) (h1 : w.cell? ⟨g1, 0, none⟩ = some v) (hL : ∀ W', KQ n₀ p w W' → Rd enc 6 W' v l) :
    SeqStopsK Fence.wide n Tryz.prog 53 #[.pointer (some ⟨g1, 0, none⟩)] (encV enc) (KQ n₀ p) (fun xs => xs = l) (fun pre => pre <+: l) l.length w :=
  fun y J Jx W hW hJ _ hY h0 => eachO_in h6 hone n hn y g1 n₀ p v l J Jx W hJ hY (Nat.le_trans hn₀ hW.size) (keepCell hW h1) (fun W' hW' => hL W' ((KQ.of_below hW hn₀).trans hW')) h0
theorem makeO_any (a : Option Addr) (n c : Nat) (w : World) : Calls Tryz.prog 26 #[.slice a n c] w fun e w' => e = .returned (.func (.func 53) #[] #[.pointer (some ⟨w.heap.size, 0, none⟩)]) ∧ w.alloc (.cells #[.slice a n c] 24) = w' := by
  go_enter Tryz.func26, Tryz.ntmps26
  go_wp2
  go_ret
  exact ⟨rfl, rfl⟩

set_option maxRecDepth 100000 in
set_option maxHeartbeats 1600000 in
theorem eachF_in {α : Type} {enc : α → List Value} (h6 : ∀ x, (enc x).length = 7) (hone : ∀ x, ∀ u ∈ enc x, u.oneCell' = true) (n : Nat) (hn : 1 ≤ n) (y g1 n₀ : Nat) (p : Nat → Prop) (v : Value) (l : List α) (J Jx : List α → World → Prop) (W : World) (hJ : AbidesFrom W.heap.size J)
    (hY : ∀ pre x W1, J pre W1 → pre.length < l.length → YieldAt Fence.wide (n - 1) Tryz.prog y (encV enc x) W1 fun e W' =>
      (e = .returned (.bool true) ∧ J (pre ++ [x]) W' ∧ KQ n₀ p W1 W') ∨ (e = .returned (.bool false) ∧ Jx (pre ++ [x]) W'))
    (hn₀ : n₀ ≤ W.heap.size) (h1 : W.cell? ⟨g1, 0, none⟩ = some v) (hL : ∀ W', KQ n₀ p W W' → Rd enc 7 W' v l) (h0 : J [] W) :
    CallsIn Fence.wide n Tryz.prog 55 #[.func (.yield y) #[] #[], .pointer (some ⟨g1, 0, none⟩)] W fun e W' => (∃ v, e = .returned v) ∧
      ((∃ xs, xs = l ∧ J xs W') ∨ (∃ pre, pre <+: l ∧ Jx pre W')) := by
  obtain ⟨a, cap, rfl, q1, q2, q3⟩ := (hL W (KQ.refl _ _ _)).shape
  have HLL := Lib.hid hL
  clear hL
  generalize hnn : l.length = nn at *
  have HN := Lib.hid hnn
  clear hnn
  refine callsIn_of_wp Tryz.func55 rfl trivial ?_ rfl
  simp only [Tryz.ntmps55, List.size_toArray, List.length_cons, List.length_nil, Nat.reduceAdd, Nat.reduceSub, Array.replicate_succ, Array.replicate_zero, List.push_toArray, List.append_toArray, List.nil_append, List.cons_append]
  gi_wp2
  gi_loopw [7] (fun i wr => ∃ k : Nat, k ≤ nn ∧ i = .int .i64 k ∧ J (l.take k) wr ∧ KQ n₀ p W wr ∧ W.heap.size ≤ wr.heap.size)
    (fun i _ => nn - (intOf i).toNat)
  case atStart => exact ⟨0, Nat.zero_le _, rfl, h0, KQ.refl _ _ _, Nat.le_refl _⟩
  case round =>
    obtain ⟨k, hk, rfl, hJs, hnx, hsz⟩ := hrel
    by_cases hlt : k < nn
    · obtain ⟨x, hs⟩ : ∃ x, l[k]? = some x := ⟨_, List.getElem?_eq_getElem (by rw [HN.out]; exact hlt)⟩
      obtain ⟨b, off, rfl, hbl, hc⟩ := (HLL.out wr hnx).row (by rintro rfl; simp at hs)
      have HC := Lib.hid (hc k x hs)
      have HTK : Hid (l.take (k + 1) = l.take k ++ [x]) := take_snoc hs
      have hlen : (l.take k).length < nn := by rw [List.length_take, HN.out]; omega
      have HPX : Hid (l.take (k + 1) <+: l) := List.take_prefix _ _
      have HLN := Lib.hid hlen
      clear hc hs hlen
      gi_wp2_with (first
        | (refine wpListIn_loadW W39 rfl rfl rfl (enc x) (h6 x) HC.out ?_)
        | (refine wpListIn_boxW W39 rfl rfl rfl (enc x) rfl (h6 x) (hone x) rfl ?_; intro W1 HX hal hz1; have HK := Lib.hid HX.list; have zz : wr.heap.size < W1.heap.size := (by omega); obtain ⟨fn, tmps, assign, body, hy, hR⟩ := hY _ x W1 (hJ _ _ _ none hJs (grown_of_below hal) (by simp)) HLN.out; unfold encV at hy)
        | (refine wpListIn_loadW W39 rfl rfl rfl (enc x) (h6 x) HK.out ?_))
      refine hR.mono ?_
      rintro e W3 (⟨rfl, hJ3, hk3⟩ | ⟨rfl, hJx3⟩)
      · gi_wp2
        go_roundw
        case rel => exact ⟨k + 1, by omega, by go_num, by rw [HTK.out]; exact hJ3, (hnx.trans (KQ.of_below hal (Nat.le_trans hn₀ hsz))).trans hk3, Nat.le_trans hsz (Nat.le_trans hal.size hk3.1.size)⟩
        case measure => simp [intOf]; omega
      · gi_wp2
        refine bodyPost_ret (results_none rfl _ _ _) rfl ?_
        refine ⟨⟨_, rfl⟩, .inr ⟨_, ?_, hJx3⟩⟩
        rw [← HTK.out]
        exact HPX.out
    · obtain rfl : nn = k := by omega
      gi_wp2
      go_end0
      exact ⟨⟨_, rfl⟩, .inl ⟨_, by rw [List.take_of_length_le (by rw [HN.out]; exact Nat.le_refl _)], hJs⟩⟩
theorem eachF_stops {α : Type} {enc : α → List Value} (h6 : ∀ x, (enc x).length = 7) (hone : ∀ x, ∀ u ∈ enc x, u.oneCell' = true) (n : Nat) (hn : 1 ≤ n) (g1 n₀ : Nat) (p : Nat → Prop) (v : Value) (l : List α) (w : World)
    (hn₀ : n₀ ≤ w.heap.size) (h1 : w.cell? ⟨g1, 0, none⟩ = some v) (hL : ∀ W', KQ n₀ p w W' → Rd enc 7 W' v l) :
    SeqStopsK Fence.wide n Tryz.prog 55 #[.pointer (some ⟨g1, 0, none⟩)] (encV enc) (KQ n₀ p) (fun xs => xs = l) (fun pre => pre <+: l) l.length w :=
  fun y J Jx W hW hJ _ hY h0 => eachF_in h6 hone n hn y g1 n₀ p v l J Jx W hJ hY (Nat.le_trans hn₀ hW.size) (keepCell hW h1) (fun W' hW' => hL W' ((KQ.of_below hW hn₀).trans hW')) h0
theorem makeF_any (a : Option Addr) (n c : Nat) (w : World) : Calls Tryz.prog 29 #[.slice a n c] w fun e w' => e = .returned (.func (.func 55) #[] #[.pointer (some ⟨w.heap.size, 0, none⟩)]) ∧ w.alloc (.cells #[.slice a n c] 25) = w' := by
  go_enter Tryz.func29, Tryz.ntmps29
  go_wp2
  go_ret
  exact ⟨rfl, rfl⟩
end Go.Proofs.YtkinhhkodaacjaaGreatDoor
