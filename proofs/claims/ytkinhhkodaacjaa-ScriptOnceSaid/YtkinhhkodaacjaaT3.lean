/- Ops: its iterator. -/
import Derived.Test.YtkinhhkodaacjaaT2
import Derived.Test.YtkinhhkodaacjaaLA
namespace Go.Proofs.Ytkinhhkodaacjaa
open Go.RowKit Go.Shelf
open Md
attribute [local go_sem] Oper.semAt_some

def encQ (x : Ho) : Array Value := #[.agg (encH x).toArray]
set_option maxRecDepth 100000 in
set_option maxHeartbeats 1600000 in
theorem ops1_in (m : Nat) (hn : 1 ≤ m) (y g1 g2 n₀ lo hi : Nat) (v : Value) (l : List Ho) (n r s : Int) (J Jx : List Ho → World → Prop) (W : World) (hJ : AbidesFrom W.heap.size J)
    (hY : ∀ pre x W1, J pre W1 → pre.length < l.length → YieldAt Fence.wide (m - 1) Try.prog y (encQ x) W1 fun e W' =>
      (e = .returned (.bool true) ∧ J (pre ++ [x]) W' ∧ KP n₀ lo hi W1 W') ∨ (e = .returned (.bool false) ∧ Jx (pre ++ [x]) W'))
    (hn₀ : n₀ ≤ W.heap.size) (h1 : W.cell? ⟨g1, 0, none⟩ = some v) (h2 : W.cell? ⟨g2, 0, none⟩ = some (.int .i64 n)) (h3 : W.cell? ⟨g2 + 1, 0, none⟩ = some (.int .i64 r)) (h4 : W.cell? ⟨g2 + 2, 0, none⟩ = some (.int .i64 s))
    (b2 : lo ≤ g2 ∧ g2 + 2 < hi) (hL : ∀ W', KP n₀ lo hi W W' → Hos W' v l) (h0 : J [] W) :
    CallsIn Fence.wide m Try.prog 41 #[.func (.yield y) #[] #[], .pointer (some ⟨g1, 0, none⟩), .pointer (some ⟨g2, 0, none⟩), .pointer (some ⟨g2 + 1, 0, none⟩), .pointer (some ⟨g2 + 2, 0, none⟩)] W fun e W' => (∃ v, e = .returned v) ∧
      ((∃ xs, xs = ofH l n r s l.length ∧ J xs W') ∨ (∃ pre, pre <+: ofH l n r s l.length ∧ Jx pre W')) := by
  obtain ⟨a, cap, rfl, q1, q2, q3⟩ := (hL W (KP.refl _ _ _ _)).shape
  have HLL := Lib.hid hL
  clear hL
  have hg1 := World.block_lt_of_cell? _ _ h1
  have HB1 := Lib.hid (fun k x => ofH_succ l n r s k x)
  have HBL := Lib.hid (fun k (hk : k < l.length) => show (ofH l n r s k).length < l.length by
    have h1 := List.length_filter_le (hit n r s) (l.take k)
    have h2 : (l.take k).length ≤ k := List.length_take_le k l
    unfold ofH
    omega)
  have HPX : Hid (∀ k, k ≤ l.length → ofH l n r s k <+: ofH l n r s l.length) := fun k hk => by unfold ofH; exact filter_prefix (hit n r s) l hk
  have HB0 : Hid (ofH l n r s 0 = []) := rfl
  generalize hbt : ofH l n r s = bt' at *
  clear hbt
  generalize hnn : l.length = nn at *
  have HN := Lib.hid hnn
  clear hnn
  refine callsIn_of_wp Try.func41 rfl trivial ?_ rfl
  simp only [Try.ntmps41, List.size_toArray, List.length_cons, List.length_nil, Nat.reduceAdd, Nat.reduceSub, Array.replicate_succ, Array.replicate_zero, List.push_toArray, List.append_toArray, List.nil_append, List.cons_append]
  gi_wp2
  gi_loopw [10] (fun i wr => ∃ k : Nat, k ≤ nn ∧ i = .int .i64 k ∧ J (bt' k) wr ∧ KP n₀ lo hi W wr ∧ W.heap.size ≤ wr.heap.size)
    (fun i _ => nn - (intOf i).toNat)
  case atStart => exact ⟨0, Nat.zero_le _, rfl, by rw [HB0.out]; exact h0, KP.refl _ _ _ _, Nat.le_refl _⟩
  case round =>
    obtain ⟨k, hk, rfl, hJs, hnx, hsz⟩ := hrel
    by_cases hlt : k < nn
    · obtain ⟨x, hs⟩ : ∃ x, l[k]? = some x := ⟨_, List.getElem?_eq_getElem (by rw [HN.out]; exact hlt)⟩
      obtain ⟨b, off, rfl, hbl, hc⟩ := (HLL.out wr hnx).row (by rintro rfl; simp at hs)
      have HC := Lib.hid (ho_at hc hs)
      have e2 := hnx.cell b2.1 (by omega) h2
      have e3 := hnx.cell (b := g2 + 1) (by omega) (by omega) h3
      have e4 := hnx.cell (b := g2 + 2) (by omega) (by omega) h4
      have l2 := World.block_lt_of_cell? _ _ e4
      have HQ := Lib.hid (HB1.out k x hs)
      have hlen := HBL.out k hlt
      have HP := Lib.hid (HPX.out (k + 1) hlt)
      clear hc hs
      by_cases hp : x.n = n
      · have hp1 : (x.n == n) = true := by simpa using hp
        by_cases hq : x.r = r
        · have hq1 : (x.r == r) = true := by simpa using hq
          by_cases ht : x.s = s
          · have ht1 : (x.s == s) = true := by simpa using ht
            have HQ2 : Hid (bt' (k + 1) = bt' k ++ [x]) := by show _ = _; rw [HQ.out, if_pos (by simp only [hit, decide_eq_true_eq]; exact ⟨hp, hq, ht⟩)]
            clear HQ hp hq ht
            gi_wp2_with (first | (refine wpListIn_loadW W43 rfl rfl rfl (encH x) rfl HC.out ?_) | (refine wpListIn_boxW W43 rfl rfl rfl (encH x) rfl rfl (encH_one x) rfl ?_; intro W1 HX hal hz1; have k0 : W1.cell? ⟨wr.heap.size, 0, none⟩ = some (.int .i64 x.n) := HX.list0 rfl; have k1 : W1.cell? ⟨wr.heap.size, 1, none⟩ = some (.int .i64 x.r) := HX.list0 rfl; have k2 : W1.cell? ⟨wr.heap.size, 2, none⟩ = some (.int .i64 x.s) := HX.list0 rfl; have q2 := keepCell hal e2; have q3 := keepCell hal e3; have q4 := keepCell hal e4; have HK := Lib.hid HX.list; have zz : wr.heap.size < W1.heap.size := (by omega); obtain ⟨fn, tmps, assign, body, hy, hR⟩ := hY _ x W1 (hJ _ _ _ none hJs (grown_of_below hal) (by simp)) hlen; unfold encQ at hy) | (refine wpListIn_loadW W43 rfl rfl rfl (encH x) rfl HK.out ?_))
            refine hR.mono ?_
            rintro e W3 (⟨rfl, hJ3, hk3⟩ | ⟨rfl, hJx3⟩)
            · gi_wp2
              go_roundw
              case rel => exact ⟨k + 1, by omega, by go_num, by rw [HQ2.out]; exact hJ3, (hnx.trans (KP.of_below hal (Nat.le_trans hn₀ hsz))).trans hk3, Nat.le_trans hsz (Nat.le_trans hal.size hk3.1.size)⟩
              case measure => simp [intOf]; omega
            · gi_wp2
              refine bodyPost_ret (results_none rfl _ _ _) rfl ?_
              refine ⟨⟨_, rfl⟩, .inr ⟨_, ?_, hJx3⟩⟩
              rw [← HQ2.out]
              exact HP.out
          · have ht1 : (x.s == s) = false := by simpa using ht
            have HQ2 : Hid (bt' (k + 1) = bt' k) := by show _ = _; rw [HQ.out, if_neg (by simp only [hit, decide_eq_true_eq]; rintro ⟨q1, q2, q3⟩; contradiction)]
            clear ht hq hp
            clear HQ
            gi_wp2_with (first | (refine wpListIn_loadW W43 rfl rfl rfl (encH x) rfl HC.out ?_) | (refine wpListIn_boxW W43 rfl rfl rfl (encH x) rfl rfl (encH_one x) rfl ?_; intro W1 HX hal hz1; have k0 : W1.cell? ⟨wr.heap.size, 0, none⟩ = some (.int .i64 x.n) := HX.list0 rfl; have k1 : W1.cell? ⟨wr.heap.size, 1, none⟩ = some (.int .i64 x.r) := HX.list0 rfl; have k2 : W1.cell? ⟨wr.heap.size, 2, none⟩ = some (.int .i64 x.s) := HX.list0 rfl; have q2 := keepCell hal e2; have q3 := keepCell hal e3; have q4 := keepCell hal e4; have HK := Lib.hid HX.list; have zz : wr.heap.size < W1.heap.size := (by omega)))
            refine ⟨fun _ h => (by cases h), ?_⟩
            gi_wp2
            go_roundw
            case rel => exact ⟨k + 1, by omega, by go_num, by rw [HQ2.out]; exact hJ _ _ _ none hJs (grown_of_below hal) (by simp), hnx.trans (KP.of_below hal (Nat.le_trans hn₀ hsz)), Nat.le_trans hsz hal.size⟩
            case measure => simp [intOf]; omega
        · have hq1 : (x.r == r) = false := by simpa using hq
          have HQ2 : Hid (bt' (k + 1) = bt' k) := by show _ = _; rw [HQ.out, if_neg (by simp only [hit, decide_eq_true_eq]; rintro ⟨q1, q2, q3⟩; contradiction)]
          clear hq hp
          clear HQ
          gi_wp2_with (first | (refine wpListIn_loadW W43 rfl rfl rfl (encH x) rfl HC.out ?_) | (refine wpListIn_boxW W43 rfl rfl rfl (encH x) rfl rfl (encH_one x) rfl ?_; intro W1 HX hal hz1; have k0 : W1.cell? ⟨wr.heap.size, 0, none⟩ = some (.int .i64 x.n) := HX.list0 rfl; have k1 : W1.cell? ⟨wr.heap.size, 1, none⟩ = some (.int .i64 x.r) := HX.list0 rfl; have k2 : W1.cell? ⟨wr.heap.size, 2, none⟩ = some (.int .i64 x.s) := HX.list0 rfl; have q2 := keepCell hal e2; have q3 := keepCell hal e3; have q4 := keepCell hal e4; have HK := Lib.hid HX.list; have zz : wr.heap.size < W1.heap.size := (by omega)))
          refine ⟨fun _ h => (by cases h), ?_⟩
          gi_wp2
          go_roundw
          case rel => exact ⟨k + 1, by omega, by go_num, by rw [HQ2.out]; exact hJ _ _ _ none hJs (grown_of_below hal) (by simp), hnx.trans (KP.of_below hal (Nat.le_trans hn₀ hsz)), Nat.le_trans hsz hal.size⟩
          case measure => simp [intOf]; omega
      · have hp1 : (x.n == n) = false := by simpa using hp
        have HQ2 : Hid (bt' (k + 1) = bt' k) := by show _ = _; rw [HQ.out, if_neg (by simp only [hit, decide_eq_true_eq]; rintro ⟨q1, q2, q3⟩; contradiction)]
        clear hp
        clear HQ
        gi_wp2_with (first | (refine wpListIn_loadW W43 rfl rfl rfl (encH x) rfl HC.out ?_) | (refine wpListIn_boxW W43 rfl rfl rfl (encH x) rfl rfl (encH_one x) rfl ?_; intro W1 HX hal hz1; have k0 : W1.cell? ⟨wr.heap.size, 0, none⟩ = some (.int .i64 x.n) := HX.list0 rfl; have k1 : W1.cell? ⟨wr.heap.size, 1, none⟩ = some (.int .i64 x.r) := HX.list0 rfl; have k2 : W1.cell? ⟨wr.heap.size, 2, none⟩ = some (.int .i64 x.s) := HX.list0 rfl; have q2 := keepCell hal e2; have q3 := keepCell hal e3; have q4 := keepCell hal e4; have HK := Lib.hid HX.list; have zz : wr.heap.size < W1.heap.size := (by omega)))
        refine ⟨fun _ h => (by cases h), ?_⟩
        gi_wp2
        go_roundw
        case rel => exact ⟨k + 1, by omega, by go_num, by rw [HQ2.out]; exact hJ _ _ _ none hJs (grown_of_below hal) (by simp), hnx.trans (KP.of_below hal (Nat.le_trans hn₀ hsz)), Nat.le_trans hsz hal.size⟩
        case measure => simp [intOf]; omega
    · obtain rfl : nn = k := by omega
      gi_wp2
      go_end0
      exact ⟨⟨_, rfl⟩, .inl ⟨_, rfl, hJs⟩⟩
end Go.Proofs.Ytkinhhkodaacjaa
