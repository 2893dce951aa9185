/- The iterator of each. -/
import Derived.Test.YtmflnbdajaiahaaF16
import Derived.Test.YtmflnbdajaiahaaKt
namespace Go.Proofs.Ytmflnbdajaiahaa
open Go.RowKit Go.Shelf
attribute [local go_sem] Oper.semAt_some

/-- A fault of a round that there is. -/
structure FaB where
  f : Fa
  bd : 0 ≤ f.r ∧ f.r < 16
def encFB (x : FaB) : List Value := encF x.f
theorem encFB_len (x : FaB) : (encFB x).length = 7 := rfl
theorem with_bounds : ∀ (L : List Fa), (∀ x ∈ L, 0 ≤ x.r ∧ x.r < 16) → ∃ S : List FaB, S.map FaB.f = L ∧ S.length = L.length ∧ S.flatMap encFB = L.flatMap encF
  | [], _ => ⟨[], rfl, rfl, rfl⟩
  | x :: L, h => by
    obtain ⟨S, h1, h2, h3⟩ := with_bounds L fun y hy => h y (by simp [hy])
    exact ⟨⟨x, h x (by simp)⟩ :: S, by simp [h1], by simp [h2], by simp [h3, encFB]⟩
def encQ (x : FaB) : Array Value := #[.agg (encFB x).toArray]
set_option maxRecDepth 100000 in
set_option maxHeartbeats 1600000 in
theorem each1_in (n : Nat) (hn : 1 ≤ n) (y g1 n₀ bx B : Nat) (v : Value) (S : List FaB) (J Jx : List FaB → World → Prop) (W : World) (hJ : AbidesFrom W.heap.size J)
    (hY : ∀ pre x W1, J pre W1 → pre.length < S.length → YieldAt Fence.wide (n - 1) Try.prog y (encQ x) W1 fun e W' =>
      (e = .returned (.bool true) ∧ J (pre ++ [x]) W' ∧ KT n₀ bx W1 W') ∨ (e = .returned (.bool false) ∧ Jx (pre ++ [x]) W'))
    (h1 : W.cell? ⟨g1, 0, none⟩ = some v) (ho : W.ownsRow B 33 7 v S.length (S.flatMap encFB)) (hbB : bx < B) (hl : S.length ≤ 16384)
    (hbx : ∃ u, W.cell? ⟨bx, 0, none⟩ = some u ∧ ∀ g, v.ownBlock = some g → u.ownBlock ≠ some g) (h0 : J [] W) :
    CallsIn Fence.wide n Try.prog 36 #[.func (.yield y) #[] #[], .pointer (some ⟨g1, 0, none⟩)] W fun e W' => (∃ v, e = .returned v) ∧
      ((∃ xs, xs = S ∧ J xs W') ∨ (∃ pre, pre <+: S ∧ Jx pre W')) := by
  obtain ⟨a1, c1, rfl, hc1, hc2, -⟩ := owns_shape ho
  obtain ⟨nn, hnn⟩ : ∃ nn, S.length = nn := ⟨_, rfl⟩
  rw [hnn] at ho hbx hl hY h1 hc1
  have HN := Lib.hid hnn
  have HO0 := Lib.hid ho
  have HBX0 := Lib.hid hbx
  clear hnn ho hbx
  refine callsIn_of_wp Try.func36 rfl trivial ?_ rfl
  simp only [Try.ntmps36, List.size_toArray, List.length_cons, List.length_nil, Nat.reduceAdd, Nat.reduceSub, Array.replicate_succ, Array.replicate_zero, List.push_toArray, List.append_toArray, List.nil_append, List.cons_append]
  gi_wp2
  gi_loopw [7] (fun i wr => ∃ k : Nat, k ≤ nn ∧ i = .int .i64 k ∧ J (S.take k) wr ∧ Hid (wr.ownsRow B 33 7 (.slice a1 nn c1) nn (S.flatMap encFB)) ∧ Hid (∃ v, wr.cell? ⟨bx, 0, none⟩ = some v ∧ ∀ g, (Value.slice a1 nn c1).ownBlock = some g → v.ownBlock ≠ some g) ∧ W.heap.size ≤ wr.heap.size)
    (fun i _ => nn - (intOf i).toNat)
  case atStart => exact ⟨0, Nat.zero_le _, rfl, h0, HO0, HBX0, Nat.le_refl _⟩
  case round =>
    clear h0 HBX0 HO0
    obtain ⟨k, hk, rfl, hJs, HO, HBX, hsz⟩ := hrel
    by_cases hlt : k < nn
    · obtain ⟨x, hs⟩ : ∃ x, S[k]? = some x := ⟨_, List.getElem?_eq_getElem (by rw [HN.out]; exact hlt)⟩
      have hOr : wr.ownsRow B 33 7 (.slice a1 nn c1) S.length (S.flatMap encFB) := by rw [HN.out]; exact HO.out
      obtain ⟨b, off, e0, hbl2, hc⟩ := (Rd.of_owns (enc := encFB) encFB_len hOr (by rw [HN.out]; omega)).row (by rintro rfl; simp at hs)
      subst e0
      clear hOr
      have HC := Lib.hid (hc k x hs)
      have HTK : Hid (S.take (k + 1) = S.take k ++ [x]) := take_snoc hs
      have hlen : (S.take k).length < nn := by rw [List.length_take, HN.out]; omega
      have HLN := Lib.hid hlen
      have HPX : Hid (S.take (k + 1) <+: S) := List.take_prefix _ _
      clear hc hs hlen
      gi_wp2_with (first
        | (refine wpListIn_loadW W33 rfl rfl rfl (encFB x) rfl HC.out ?_)
        | (refine wpListIn_boxW W33 rfl rfl rfl (encFB x) rfl rfl (encF_one x.f) rfl ?_; intro W1 HX hal hz1; have HK := Lib.hid HX.list; have zz : wr.heap.size < W1.heap.size := (by omega); obtain ⟨fn, tmps, assign, body, hy, hR⟩ := hY _ x W1 (hJ _ _ _ none hJs (grown_of_below hal) (by simp)) HLN.out; unfold encQ at hy)
        | (refine wpListIn_loadW W33 rfl rfl rfl (encFB x) rfl HK.out ?_))
      have HAL := Lib.hid hal
      clear hal
      refine hR.mono ?_
      rintro e W3 (⟨rfl, hJ3, hk3⟩ | ⟨rfl, hJx3⟩)
      · have HO3 : Hid (W3.ownsRow B 33 7 (.slice (some ⟨b, off, none⟩) nn c1) nn (S.flatMap encFB) ∧ (∃ v, W3.cell? ⟨bx, 0, none⟩ = some v ∧ ∀ g, (Value.slice (some ⟨b, off, none⟩) nn c1).ownBlock = some g → v.ownBlock ≠ some g)) :=
          kt_round (ow_below HO.out HAL.out) (by obtain ⟨v, hv, hg⟩ := HBX.out; exact ⟨v, keepCell HAL.out hv, hg⟩) hk3 hbB
        have hz3 : W.heap.size ≤ W3.heap.size := Nat.le_trans hsz (Nat.le_trans HAL.out.size hk3.bel.size)
        clear hk3
        gi_wp2
        go_roundw
        case rel => exact ⟨k + 1, by omega, by go_num, by rw [HTK.out]; exact hJ3, HO3.out.1, HO3.out.2, hz3⟩
        case measure => simp [intOf]; omega
      · gi_wp2
        refine bodyPost_ret (results_none rfl _ _ _) rfl ?_
        refine ⟨⟨_, rfl⟩, .inr ⟨_, ?_, hJx3⟩⟩
        rw [← HTK.out]
        exact HPX.out
    · obtain rfl : nn = k := by omega
      have HJF : Hid (J S wr) := by
        show J S wr
        rw [← HN.out, List.take_length] at hJs
        exact hJs
      clear hJs HO HBX
      gi_wp2
      go_end0
      exact ⟨⟨_, rfl⟩, .inl ⟨_, rfl, HJF.out⟩⟩
end Go.Proofs.Ytmflnbdajaiahaa
