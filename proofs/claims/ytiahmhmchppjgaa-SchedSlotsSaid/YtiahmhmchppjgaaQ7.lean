/- Contracts: the slots within a span (an iterator of pairs). -/
import Derived.Test.YtiahmhmchppjgaaQ6
namespace Go.Proofs.Ytiahmhmchppjgaa
open Go.RowKit Go.Shelf
open Sched (Sp bad)
attribute [local go_sem] Oper.semAt_some

/-- Up to which slot they begin ahead of t. -/
def lim (s l t : Int) : Int := min ((1099511627776 - s) / l) ((t - s + l - 1) / l)
theorem lim_iff {s l t k : Int} (g3 : 1 ≤ l) : k < lim s l t ↔ k < (1099511627776 - s) / l ∧ s + k * l < t := by
  have h : k < (t - s + l - 1) / l ↔ s + k * l < t := by
    have h1 := Int.le_ediv_iff_mul_le (a := k + 1) (b := t - s + l - 1) (c := l) (by omega)
    rw [Int.add_mul, Int.one_mul] at h1
    omega
  unfold lim
  rw [← h]
  omega
theorem lim_bd {s l t : Int} (g1 : 0 ≤ s) (g3 : 1 ≤ l) (g2 : s ≤ 1099511627776) : lim s l t ≤ 1099511627776 := by
  have := (div_le_self' (a := 1099511627776 - s) (b := l) (by omega) g3).2
  unfold lim
  omega
/-- How many slots begin within a span. -/
def cntS (s l f t : Int) : Nat := (lim s l t - begins s l f).toNat
def slS (s l b : Int) (i : Nat) : Int × Sp := (b + i, (s + (b + i) * l, s + (b + i) * l + l))
def slotsS (s l n f t : Int) : List (Int × Sp) := if GBad s l n ∨ bad (f, t) = true then [] else (List.range (cntS s l f t)).map (slS s l (begins s l f))
def encP (x : Int × Sp) : Array Value := #[.int .i64 x.1, .agg #[.int .i64 x.2.1, .int .i64 x.2.2]]
theorem lowCell {n₀ : Nat} {W W' : World} (hb : Below n₀ W W') {g o : Nat} (hg : g < n₀) {v : Value} (h : W.cell? ⟨g, o, none⟩ = some v) : W'.cell? ⟨g, o, none⟩ = some v := by
  rw [hb.cell (p := ⟨g, o, none⟩) hg, h]
theorem slots_len {s l n f t : Int} : (slotsS s l n f t).length ≤ cntS s l f t := by
  unfold slotsS
  split <;> simp

set_option maxRecDepth 100000 in
set_option maxHeartbeats 3200000 in
theorem slots1_in (n : Nat) (hn : 1 ≤ n) (y g1 g2 n₀ : Nat) (s l nn f t : Int) (J Jx : List (Int × Sp) → World → Prop) (W : World) (hJ : AbidesFrom W.heap.size J)
    (hY : ∀ pre x W1, J pre W1 → pre.length < cntS s l f t → YieldAt Fence.wide (n - 1) Try.prog y (encP x) W1 fun e W' =>
      (e = .returned (.bool true) ∧ J (pre ++ [x]) W' ∧ Below n₀ W1 W') ∨ (e = .returned (.bool false) ∧ Jx (pre ++ [x]) W'))
    (hn₀ : n₀ ≤ W.heap.size) (h1 : W.cell? ⟨g1, 0, none⟩ = some (.int .i64 s) ∧ W.cell? ⟨g1, 1, none⟩ = some (.int .i64 l) ∧ W.cell? ⟨g1, 2, none⟩ = some (.int .i64 nn))
    (h2 : W.cell? ⟨g2, 0, none⟩ = some (.int .i64 f) ∧ W.cell? ⟨g2, 1, none⟩ = some (.int .i64 t)) (b1 : g1 < n₀) (b2 : g2 < n₀) (h0 : J [] W) :
    CallsIn Fence.wide n Try.prog 43 #[.func (.yield y) #[] #[], .pointer (some ⟨g1, 0, none⟩), .pointer (some ⟨g2, 0, none⟩)] W fun e W' => (∃ v, e = .returned v) ∧
      ((∃ xs, xs = slotsS s l nn f t ∧ J xs W') ∨ (∃ pre, pre <+: slotsS s l nn f t ∧ Jx pre W')) := by
  have hcg := checkGrid_any s l nn
  have hcs := check_any f t
  have HX : Hid (slotsS s l nn f t = if GBad s l nn ∨ bad (f, t) = true then [] else (List.range (cntS s l f t)).map (slS s l (begins s l f))) := rfl
  generalize slotsS s l nn f t = X at *
  obtain ⟨h1, h3, h4⟩ := h1
  obtain ⟨h2, h5⟩ := h2
  have hg1 : g1 < W.heap.size := by omega
  have hg2 : g2 < W.heap.size := by omega
  unfold grv spv at *
  by_cases hbg : GBad s l nn
  · have hz : chkG s l nn = 61 := if_pos hbg
    have HX2 : Hid (X = []) := HX.out.trans (if_pos (.inl hbg))
    rw [hz] at hcg
    clear hz hbg HX hY
    refine callsIn_of_wp Try.func43 rfl trivial ?_ rfl
    simp only [Try.ntmps43, List.size_toArray, List.length_cons, List.length_nil, Nat.reduceAdd, Nat.reduceSub, Array.replicate_succ, Array.replicate_zero, List.push_toArray, List.append_toArray, List.nil_append, List.cons_append]
    gi_wp2_with (refine ⟨trivial, ?_⟩; gi_at_call 29; refine (callsIn_wide.2 (hcg _)).mono ?_; rintro e w1 ⟨rfl, hb1⟩; have c2 := keepCell hb1 h2; have c5 := keepCell hb1 h5)
    refine ⟨trivial, ?_⟩
    gi_wp2
    refine bodyPost_ret (results_none rfl _ _ _) rfl ?_
    exact ⟨⟨_, rfl⟩, .inl ⟨_, HX2.out.symm, hJ _ _ _ none h0 (grown_of_below hb1) (by simp)⟩⟩
  have hz : chkG s l nn = 0 := if_neg hbg
  rw [hz] at hcg
  by_cases hbs : bad (f, t) = true
  · have hz2 : chk (f, t) = 60 := if_pos hbs
    have HX2 : Hid (X = []) := HX.out.trans (if_pos (.inr hbs))
    rw [hz2] at hcs
    clear hz hz2 hbg hbs HX hY
    refine callsIn_of_wp Try.func43 rfl trivial ?_ rfl
    simp only [Try.ntmps43, List.size_toArray, List.length_cons, List.length_nil, Nat.reduceAdd, Nat.reduceSub, Array.replicate_succ, Array.replicate_zero, List.push_toArray, List.append_toArray, List.nil_append, List.cons_append]
    gi_wp2_with (first | (refine ⟨trivial, ?_⟩; gi_at_call 29; refine (callsIn_wide.2 (hcg _)).mono ?_; rintro e w1 ⟨rfl, hb1⟩; have c2 := keepCell hb1 h2; have c5 := keepCell hb1 h5) | (refine ⟨trivial, ?_⟩; gi_at_call 12; refine (callsIn_wide.2 (hcs _)).mono ?_; rintro e w2 ⟨rfl, hb2⟩))
    refine bodyPost_ret (results_none rfl _ _ _) rfl ?_
    exact ⟨⟨_, rfl⟩, .inl ⟨_, HX2.out.symm, hJ _ _ _ none h0 (grown_of_below (bt hb1 hb2)) (by simp)⟩⟩
  have hz2 : chk (f, t) = 0 := if_neg hbs
  rw [hz2] at hcs
  have HX2 : Hid (X = (List.range (cntS s l f t)).map (slS s l (begins s l f))) := HX.out.trans (if_neg (by intro h; exact h.elim hbg hbs))
  have hbb : ¬ (f < 0 ∨ t < f ∨ 1099511627776 < t) := fun h' => hbs ((bad_iff f t).2 h')
  have HNG := Lib.hid hbg
  unfold GBad at hbg
  have q1 : 0 ≤ s := by omega
  have q2 : s ≤ 1099511627776 := by omega
  have q3 : 1 ≤ l := by omega
  have q4 : l ≤ 16777216 := by omega
  have q5 : 0 ≤ f := by omega
  have q6 : f ≤ t := by omega
  have q7 : t ≤ 1099511627776 := by omega
  have hbe := fun W => begins_any s l nn f W q1 q2 q3 q4 (by omega)
  obtain ⟨k1, k2⟩ := begins_bd (s := s) (l := l) (t := f) q1 q3 (by omega)
  have HLI := Lib.hid (fun k => @lim_iff s l t k q3)
  have HLB := Lib.hid (@lim_bd s l t q1 q3 q2)
  have HC : Hid (cntS s l f t = (lim s l t - begins s l f).toNat) := rfl
  have HSV := Lib.hid (fun k (h0 : 0 ≤ k) (h1 : k < (1099511627776 - s) / l) => slot_fit (s := s) (l := l) (k := k) q3 h0 h1)
  unfold grv at hbe
  clear hz hz2 hbs hbb HX hbg
  generalize begins s l f = b at *
  generalize cntS s l f t = N at *
  generalize lim s l t = L at *
  refine callsIn_of_wp Try.func43 rfl trivial ?_ rfl
  simp only [Try.ntmps43, List.size_toArray, List.length_cons, List.length_nil, Nat.reduceAdd, Nat.reduceSub, Array.replicate_succ, Array.replicate_zero, List.push_toArray, List.append_toArray, List.nil_append, List.cons_append]
  gi_wp2_with (first | (refine ⟨trivial, ?_⟩; gi_at_call 29; refine (callsIn_wide.2 (hcg _)).mono ?_; rintro e w1 ⟨rfl, hb1⟩; have c2 := keepCell hb1 h2; have c5 := keepCell hb1 h5) | (refine ⟨trivial, ?_⟩; gi_at_call 12; refine (callsIn_wide.2 (hcs _)).mono ?_; rintro e w2 ⟨rfl, hb2⟩; have d1 := keepCell (bt hb1 hb2) h1; have d3 := keepCell (bt hb1 hb2) h3; have d4 := keepCell (bt hb1 hb2) h4; have d2 := keepCell hb2 c2; have d5 := keepCell hb2 c5; clear c2 c5) | (refine ⟨trivial, ?_⟩; gi_at_call 42; refine (callsIn_wide.2 (hbe _)).mono ?_; rintro e w3 ⟨rfl, hb3⟩))
  have hB3 : Below W.heap.size W w3 := bt (bt hb1 hb2) hb3
  have hJ3 : J [] w3 := hJ _ _ _ none h0 (grown_of_below hB3) (by simp)
  have hsz := hB3.size
  clear hcg hcs hbe d1 d2 d3 d4 d5 h0 hb1 hb2 hb3
  gi_loopw [4] (fun i wr => ∃ j : Nat, j ≤ N ∧ i = .int .i64 (b + j) ∧ J (X.take j) wr ∧ Below n₀ W wr ∧ W.heap.size ≤ wr.heap.size)
    (fun i _ => (b + N - intOf i).toNat)
  case atStart => exact ⟨0, Nat.zero_le _, by simp, by simpa using hJ3, hB3.mono hn₀, hsz⟩
  case round =>
    clear hJ3 hB3 hsz
    obtain ⟨j, hj, rfl, hJs, hB, hsz⟩ := hrel
    have c1 := lowCell hB b1 h1
    have c3 := lowCell hB b1 h3
    have c4 := lowCell hB b1 h4
    have c2 := lowCell hB b2 h2
    have c5 := lowCell hB b2 h5
    have l1 := World.block_lt_of_cell? _ _ c1
    have l2 := World.block_lt_of_cell? _ _ c2
    have hli := HLI.out (b + j)
    have hlb := HLB.out
    have hc := HC.out
    by_cases hlt : j < N
    · have hv := hli.1 (by omega)
      have hfit := HSV.out (b + j) (by omega) hv.1
      have hS : slot s l nn (b + j) = ((s + (b + j) * l, s + (b + j) * l + l), 0) := by
        unfold slot
        rw [if_neg HNG.out, if_neg (by omega)]
      have HQ : Hid (X.take (j + 1) = X.take j ++ [(b + j, (s + (b + j) * l, s + (b + j) * l + l))] ∧ X.take (j + 1) <+: X ∧ (X.take j).length < N) := by
        have hl : j < X.length := by rw [HX2.out]; simpa using hlt
        refine ⟨?_, List.take_prefix _ _, by rw [List.length_take]; omega⟩
        rw [List.take_succ_eq_append_getElem hl]
        congr 1
        simp [HX2.out, slS]
      have hsl := slot_any s l nn (b + j)
      rw [hS] at hsl
      obtain ⟨hv1, hv2⟩ := hv
      obtain ⟨hf1, hf2⟩ := hfit
      have hm1 : b + (j : Int) ≤ 1099511627776 := by omega
      unfold grv spv at hsl
      clear hS hli hc hlb hv1
      generalize (b + (j : Int)) * l = p at *
      gi_wp2_with (first | (refine ⟨trivial, ?_⟩; gi_at_call 24; refine (callsIn_wide.2 (hsl _)).mono ?_; rintro e w1 ⟨rfl, hb1⟩; have e2 := keepCell hb1 c2; have e5 := keepCell hb1 c5; have l3 := World.block_lt_of_cell? _ _ e5; have hal := bt hb1 (below1 w1 (.cells #[.int .i64 (s + p), .int .i64 (s + p + l)] 23)); obtain ⟨fn, tmps, assign, body, hy, hR⟩ := hY _ (b + j, (s + p, s + p + l)) (w1.alloc (.cells #[.int .i64 (s + p), .int .i64 (s + p + l)] 23)) (hJ _ _ _ none hJs (grown_of_below hal) (by simp)) HQ.out.2.2; unfold encP at hy))
      refine hR.mono ?_
      rintro e W3 (⟨rfl, hJ4, hk4⟩ | ⟨rfl, hJx4⟩)
      · gi_wp2
        go_roundw
        case rel => exact ⟨j + 1, by omega, by simp; omega, by rw [HQ.out.1]; exact hJ4, (hB.trans (hal.mono (Nat.le_trans hn₀ hsz))).trans hk4, Nat.le_trans hsz (Nat.le_trans hal.size hk4.size)⟩
        case measure => simp [intOf]; omega
      · gi_wp2
        refine bodyPost_ret (results_none rfl _ _ _) rfl ?_
        refine ⟨⟨_, rfl⟩, .inr ⟨_, ?_, hJx4⟩⟩
        have := HQ.out.2.1
        rw [HQ.out.1] at this
        exact this
    · obtain rfl : N = j := by omega
      have HXJ : Hid (X.take N = X) := List.take_of_length_le (by rw [HX2.out]; simp)
      have hm1 : b + (N : Int) ≤ 1099511627777 + 1099511627776 := by omega
      by_cases hq : b + (N : Int) < (1099511627776 - s) / l
      · have hv : t ≤ s + (b + (N : Int)) * l := by
          have : ¬ (b + (N : Int) < L) := by omega
          rcases Int.lt_or_le (s + (b + (N : Int)) * l) t with h | h
          · exact absurd (hli.2 ⟨hq, h⟩) this
          · exact h
        have hfit := HSV.out (b + N) (by omega) hq
        have hS : slot s l nn (b + N) = ((s + (b + N) * l, s + (b + N) * l + l), 0) := by
          unfold slot
          rw [if_neg HNG.out, if_neg (by omega)]
        have hsl := slot_any s l nn (b + N)
        rw [hS] at hsl
        obtain ⟨hf1, hf2⟩ := hfit
        unfold grv spv at hsl
        clear hS hli hc hlb hq
        generalize (b + (N : Int)) * l = p at *
        gi_wp2_with (first | (refine ⟨trivial, ?_⟩; gi_at_call 24; refine (callsIn_wide.2 (hsl _)).mono ?_; rintro e w1 ⟨rfl, hb1⟩; have e2 := keepCell hb1 c2; have e5 := keepCell hb1 c5; have l3 := World.block_lt_of_cell? _ _ e5; have hal := bt hb1 (below1 w1 (.cells #[.int .i64 (s + p), .int .i64 (s + p + l)] 23))))
        refine ⟨fun _ h => (by cases h), ?_⟩
        gi_wp2
        refine bodyPost_ret (results_none rfl _ _ _) rfl ?_
        exact ⟨⟨_, rfl⟩, .inl ⟨_, rfl, hJ _ _ _ none (by rw [← HXJ.out]; exact hJs) (grown_of_below hal) (by simp)⟩⟩
      · have hS : slot s l nn (b + N) = ((0, 0), 2) := by
          unfold slot
          rw [if_neg HNG.out, if_pos (by omega)]
        have hsl := slot_any s l nn (b + N)
        rw [hS] at hsl
        unfold grv spv at hsl
        clear hS hli hc hlb hq
        gi_wp2_with (first | (refine ⟨trivial, ?_⟩; gi_at_call 24; refine (callsIn_wide.2 (hsl _)).mono ?_; rintro e w1 ⟨rfl, hb1⟩; have e2 := keepCell hb1 c2; have e5 := keepCell hb1 c5; have l3 := World.block_lt_of_cell? _ _ e5; have hal := bt hb1 (below1 w1 (.cells #[.int .i64 0, .int .i64 0] 23))))
        refine ⟨fun _ h => (by cases h), ?_⟩
        gi_wp2
        refine bodyPost_ret (results_none rfl _ _ _) rfl ?_
        exact ⟨⟨_, rfl⟩, .inl ⟨_, rfl, hJ _ _ _ none (by rw [← HXJ.out]; exact hJs) (grown_of_below hal) (by simp)⟩⟩
end Go.Proofs.Ytiahmhmchppjgaa
