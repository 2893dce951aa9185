/- Round: its iterator. -/
import Derived.Test.YtjaaldeaknmmbaaDoorS4
import Derived.Test.YtjaaldeaknmmbaaDoorLA
namespace Go.Proofs.YtjaaldeaknmmbaaDoor
open Go.RowKit Go.Shelf
attribute [local go_sem] Oper.semAt_some

def encQ (x : Sn) : Array Value := #[.agg (encS x).toArray]

set_option maxRecDepth 100000 in
set_option maxHeartbeats 1600000 in
theorem round1_in (n : Nat) (hn : 1 ≤ n) (y g1 g2 n₀ lo hi : Nat) (v : Value) (l : List Sn) (r : Int) (J Jx : List Sn → World → Prop) (W : World) (hJ : AbidesFrom W.heap.size J)
    (hY : ∀ pre x W1, J pre W1 → pre.length < l.length → YieldAt Fence.wide (n - 1) Tryd.prog y (encQ x) W1 fun e W' =>
      (e = .returned (.bool true) ∧ J (pre ++ [x]) W' ∧ KP n₀ lo hi W1 W') ∨ (e = .returned (.bool false) ∧ Jx (pre ++ [x]) W'))
    (hn₀ : n₀ ≤ W.heap.size) (h1 : W.cell? ⟨g1, 0, none⟩ = some v) (h2 : W.cell? ⟨g2, 0, none⟩ = some (.int .i64 r))
    (b2 : lo ≤ g2 ∧ g2 < hi) (hL : ∀ W', KP n₀ lo hi W W' → Snaps W' v l) (h0 : J [] W) :
    CallsIn Fence.wide n Tryd.prog 52 #[.func (.yield y) #[] #[], .pointer (some ⟨g1, 0, none⟩), .pointer (some ⟨g2, 0, none⟩)] W fun e W' => (∃ v, e = .returned v) ∧
      ((∃ xs, xs = ofR l r l.length ∧ J xs W') ∨ (∃ pre, pre <+: ofR l r l.length ∧ Jx pre W')) := by
  obtain ⟨a, cap, rfl, q1, q2, q3⟩ := (hL W (KP.refl _ _ _ _)).shape
  have HLL := Lib.hid hL
  clear hL
  have hg1 := World.block_lt_of_cell? _ _ h1
  have HB1 := Lib.hid (fun k x => ofR_succ l r k x)
  have HBL := Lib.hid (fun k (hk : k < l.length) => show (ofR l r k).length < l.length by
    have h1 := List.length_filter_le (fun x : Sn => x.r == r) (l.take k)
    have h2 : (l.take k).length ≤ k := List.length_take_le k l
    unfold ofR
    omega)
  have HPX : Hid (∀ k, k ≤ l.length → ofR l r k <+: ofR l r l.length) := fun k hk => filter_prefix (fun x : Sn => x.r == r) l hk
  have HB0 : Hid (ofR l r 0 = []) := rfl
  generalize hbt : ofR l r = bt' at *
  clear hbt
  generalize hnn : l.length = nn at *
  have HN := Lib.hid hnn
  clear hnn
  refine callsIn_of_wp Tryd.func52 rfl trivial ?_ rfl
  simp only [Tryd.ntmps52, List.size_toArray, List.length_cons, List.length_nil, Nat.reduceAdd, Nat.reduceSub, Array.replicate_succ, Array.replicate_zero, List.push_toArray, List.append_toArray, List.nil_append, List.cons_append]
  gi_wp2
  gi_loopw [8] (fun i wr => ∃ k : Nat, k ≤ nn ∧ i = .int .i64 k ∧ J (bt' k) wr ∧ KP n₀ lo hi W wr ∧ W.heap.size ≤ wr.heap.size)
    (fun i _ => nn - (intOf i).toNat)
  case atStart => exact ⟨0, Nat.zero_le _, rfl, by rw [HB0.out]; exact h0, KP.refl _ _ _ _, Nat.le_refl _⟩
  case round =>
    obtain ⟨k, hk, rfl, hJs, hnx, hsz⟩ := hrel
    by_cases hlt : k < nn
    · obtain ⟨x, hs⟩ : ∃ x, l[k]? = some x := ⟨_, List.getElem?_eq_getElem (by rw [HN.out]; exact hlt)⟩
      obtain ⟨b, off, rfl, hbl, hc⟩ := (HLL.out wr hnx).row (by rintro rfl; simp at hs)
      have c0 := sn_r hc hs
      have HC := Lib.hid (sn_at hc hs)
      have e2 := hnx.cell b2.1 b2.2 h2
      have l2 := World.block_lt_of_cell? _ _ e2
      have HQ := Lib.hid (HB1.out k x hs)
      have hlen := HBL.out k hlt
      have HP := Lib.hid (HPX.out (k + 1) hlt)
      clear hc hs
      by_cases hp : x.r = r
      · have HQ2 : Hid (bt' (k + 1) = bt' k ++ [x]) := by show _ = _; rw [HQ.out]; simp [hp]
        have hp1 : (x.r == r) = true := by simpa using hp
        clear HQ hp
        gi_wp2_with (first
          | (refine wpListIn_loadW W41 rfl rfl rfl (encS x) rfl HC.out ?_)
          | (refine wpListIn_boxW W41 rfl rfl rfl (encS x) rfl rfl (encS_one x) rfl ?_; intro W1 HX hal hz1; have k0 : W1.cell? ⟨wr.heap.size, 0, none⟩ = some (.int .i64 x.r) := HX.list0 rfl; have k2 := keepCell hal e2; have HK := Lib.hid HX.list; have zz : wr.heap.size < W1.heap.size := (by omega); obtain ⟨fn, tmps, assign, body, hy, hR⟩ := hY _ x W1 (hJ _ _ _ none hJs (grown_of_below hal) (by simp)) hlen; unfold encQ at hy)
          | (refine wpListIn_loadW W41 rfl rfl rfl (encS x) rfl HK.out ?_))
        refine hR.mono ?_
        rintro e W3 (⟨rfl, hJ3, hk3⟩ | ⟨rfl, hJx3⟩)
        · gi_wp2
          go_roundw
          case rel => exact ⟨k + 1, by omega, by go_num, by rw [HQ2.out]; exact hJ3, (hnx.trans (KP.of_below hal (Nat.le_trans hn₀ hsz))).trans hk3, Nat.le_trans hsz (Nat.le_trans hal.size hk3.1.size)⟩
          case measure => simp [intOf]; omega
        · gi_wp2
          refine bodyPost_ret (results_none rfl _ _ _) rfl ?_
          refine ⟨⟨_, rfl⟩, .inr ⟨_, ?_, hJx3⟩⟩
          rw [← HQ2.out]
          exact HP.out
      · have HQ2 : Hid (bt' (k + 1) = bt' k) := by show _ = _; rw [HQ.out]; simp [hp]
        have hp1 : (x.r == r) = false := by simpa using hp
        clear HQ hp
        gi_wp2_with (first
          | (refine wpListIn_loadW W41 rfl rfl rfl (encS x) rfl HC.out ?_)
          | (refine wpListIn_boxW W41 rfl rfl rfl (encS x) rfl rfl (encS_one x) rfl ?_; intro W1 HX hal hz1; have k0 : W1.cell? ⟨wr.heap.size, 0, none⟩ = some (.int .i64 x.r) := HX.list0 rfl; have k2 := keepCell hal e2; have zz : wr.heap.size < W1.heap.size := (by omega)))
        refine ⟨fun _ h => (by cases h), ?_⟩
        gi_wp2
        go_roundw
        case rel => exact ⟨k + 1, by omega, by go_num, by rw [HQ2.out]; exact hJ _ _ _ none hJs (grown_of_below hal) (by simp), hnx.trans (KP.of_below hal (Nat.le_trans hn₀ hsz)), Nat.le_trans hsz hal.size⟩
        case measure => simp [intOf]; omega
    · obtain rfl : nn = k := by omega
      gi_wp2
      go_end0
      exact ⟨⟨_, rfl⟩, .inl ⟨_, rfl, hJs⟩⟩
end Go.Proofs.YtjaaldeaknmmbaaDoor
