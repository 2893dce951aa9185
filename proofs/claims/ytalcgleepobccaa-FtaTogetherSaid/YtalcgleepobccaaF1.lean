/- The walks of FtaRounds and FtaTogether. -/
import Derived.Test.YtalcgleepobccaaS1
namespace Go.Proofs.Ytalcgleepobccaa
open Go.RowKit Go.Shelf

theorem rndL_bd {cl : List Int} (M : List Rw) : (rndL cl M).length ≤ cl.length ∧ ∀ x ∈ rndL cl M, I64 x := by
  unfold rndL
  by_cases ha : argBad cl M = true
  · rw [if_pos ha]; simp
  · by_cases ho : offBad cl M = true
    · rw [if_neg ha, if_pos ho]; simp
    · rw [if_neg ha, if_neg ho]
      have ho : offBad cl M = false := by simpa using ho
      simp only [offBad, Bool.or_eq_false_iff] at ho
      refine ⟨by simp [rnd], fun x hx => ?_⟩
      obtain ⟨i, hi, rfl⟩ := List.mem_map.1 hx
      have h1 := notFar ho.1 (List.mem_range.1 hi)
      have h2 := Fta.mid_bd (rowOf cl i ((M.map (·.l)).getD i []))
      unfold rndAt I64
      omega
theorem setL_bd {cl : List Int} (r : Int) (h : ∀ x ∈ cl, I64 x) : (setL cl r).length ≤ cl.length ∧ ∀ x ∈ setL cl r, I64 x := by
  unfold setL
  by_cases ha : setBad cl r = true
  · rw [if_pos ha]; simp
  · by_cases ho : cl.any (Fta.far B38) = true
    · rw [if_neg ha, if_pos ho]; simp
    · rw [if_neg ha, if_neg ho]
      have ho : cl.any (Fta.far B38) = false := by simpa using ho
      refine ⟨by rw [its_len]; exact Nat.le_refl _, fun x hx => ?_⟩
      by_cases hn : cl = []
      · subst hn
        have hl := its_len [] r.toNat
        have : its [] r.toNat = [] := List.eq_nil_of_length_eq_zero hl
        rw [this] at hx
        cases hx
      · have := of_far (its_far hn ho r.toNat) x hx
        unfold I64; omega

set_option maxHeartbeats 800000 in
theorem rounds_walk (cl : List Int) (v : Value) (M : List Rw) (u : Value) (r : Int) (w : World) (h : Ints w v cl) (hM : Mat w u M) (hr1 : -9223372036854775808 ≤ r) (hr2 : r ≤ 9223372036854775807) :
    Calls Try.prog 7 #[v, u, .int .i64 r] w fun e w' => e = .returned (.bool true) ∧ Below w.heap.size w w' := by
  have hlen := h.len
  have hbd := h.bd
  have hr : I64 r := ⟨hr1, hr2⟩
  obtain ⟨hR1, hR2⟩ := rndL_bd (cl := cl) M
  obtain ⟨hS1, hS2⟩ := setL_bd r hbd
  go_enter Try.func7, Try.ntmps7
  go_wp2_with fail
  refine (round_any cl v M u w h hM).mono ?_
  rintro e w1 ⟨⟨av, rfl, ha⟩, hb1⟩
  have ia := Ints.of_owns ha (by omega) hR2
  have h1 := h.below hb1
  have hM1 := hM.below hb1
  clear ha
  go_wp2_with fail
  refine (rround_any cl v M u w1 h1 hM1).mono ?_
  rintro e w2 ⟨⟨bv, rfl, hb⟩, hb2⟩
  have ib := Ints.of_owns hb (by omega) hR2
  have ia2 := ia.below hb2
  have h2 := h1.below hb2
  have b2 := hb1.trans (hb2.mono hb1.size)
  clear hb ia h1 hM hM1 h
  go_wp2_with fail
  refine (settle_any cl v r w2 h2 hr).mono ?_
  rintro e w3 ⟨⟨cv, rfl, hc⟩, hb3⟩
  have ic := Ints.of_owns hc (by omega) hS2
  have ia3 := ia2.below hb3
  have ib3 := ib.below hb3
  have h3 := h2.below hb3
  have b3 := b2.trans (hb3.mono b2.size)
  clear hc ia2 ib h2
  go_wp2_with fail
  refine (rsettle_any cl v r w3 h3 hr).mono ?_
  rintro e w4 ⟨⟨dv, rfl, hd⟩, hb4⟩
  have id4 := Ints.of_owns hd (by omega) hS2
  have ia4 := ia3.below hb4
  have ib4 := ib3.below hb4
  have ic4 := ic.below hb4
  have b4 := b3.trans (hb4.mono b3.size)
  clear hd ia3 ib3 ic h3
  generalize rndL cl M = X at *
  generalize rndE cl M = xe at *
  generalize setL cl r = Y at *
  generalize setE cl r = ye at *
  clear hR1 hR2 hS1 hS2 hbd
  go_wp2_with fail
  refine (begun_any _).mono ?_
  rintro e w5 ⟨rfl, hb5⟩
  have ia5 := ia4.below hb5
  have ib5 := ib4.below hb5
  have ic5 := ic4.below hb5
  have id5 := id4.below hb5
  have b5 := b4.trans (hb5.mono b4.size)
  clear ia4 ib4 ic4 id4
  go_wp2_with fail
  refine (equal_any X X av bv w5 ia5 ib5).mono ?_
  rw [decide_eq_true rfl]
  rintro e w6 ⟨rfl, hb6⟩
  have ic6 := ic5.below hb6
  have id6 := id5.below hb6
  have b6 := b5.trans (hb6.mono b5.size)
  clear ia5 ib5 ic5 id5
  go_wp2_with fail
  refine (equal_any Y Y cv dv w6 ic6 id6).mono ?_
  rw [decide_eq_true rfl]
  rintro e w7 ⟨rfl, hb7⟩
  have b7 := b6.trans (hb7.mono b6.size)
  clear ic6 id6
  go_wp2
  go_ret
  exact ⟨ret_bool (by simp), b7⟩

theorem settle_shaped {cl : List Int} {r : Int} {w : World} {e : Ending} {w' : World} (hl : cl.length ≤ 17592186044416) (hb : ∀ x ∈ cl, I64 x) (h : SettlePost cl r w e w') :
    ∃ a cap, e = .returned (.tuple #[.slice a (setL cl r).length cap, .int .i64 (setE cl r)]) ∧ Ints w' (.slice a (setL cl r).length cap) (setL cl r) ∧ (setL cl r).length ≤ cap ∧ cap ≤ 9223372036854775807 ∧ Below w.heap.size w w' := by
  obtain ⟨⟨v', he, ho⟩, hb'⟩ := h
  obtain ⟨h1, h2⟩ := setL_bd r hb
  have hi := Ints.of_owns ho (by omega) h2
  obtain ⟨a, cap, rfl, h3, h4, h5⟩ := hi.shape
  exact ⟨a, cap, he, hi, h3, h4, hb'⟩
theorem round_shaped {cl : List Int} {M : List Rw} {w : World} {e : Ending} {w' : World} (hl : cl.length ≤ 17592186044416) (h : RoundPost cl M w e w') :
    ∃ a cap, e = .returned (.tuple #[.slice a (rndL cl M).length cap, .int .i64 (rndE cl M)]) ∧ Ints w' (.slice a (rndL cl M).length cap) (rndL cl M) ∧ (rndL cl M).length ≤ cap ∧ cap ≤ 9223372036854775807 ∧ Below w.heap.size w w' := by
  obtain ⟨⟨v', he, ho⟩, hb'⟩ := h
  obtain ⟨h1, h2⟩ := rndL_bd (cl := cl) M
  have hi := Ints.of_owns ho (by omega) h2
  obtain ⟨a, cap, rfl, h3, h4, h5⟩ := hi.shape
  exact ⟨a, cap, he, hi, h3, h4, hb'⟩

theorem rndE_rows {cl : List Int} {M : List Rw} (h : rndE cl M = 0) : ∀ r ∈ M, ∀ x ∈ r.l, -274877906944 ≤ x ∧ x ≤ 274877906944 := by
  intro r hr x hx
  unfold rndE at h
  cases hq : argBad cl M with
  | true => rw [hq] at h; simp at h
  | false =>
    rw [hq] at h
    cases hq2 : offBad cl M with
    | true => rw [hq2] at h; simp at h
    | false =>
      simp only [offBad, Bool.or_eq_false_iff] at hq2
      have := (List.any_eq_false.1 hq2.2) r hr
      exact of_far (by simpa [farRow] using this) x hx
theorem set_one {cl : List Int} (h0 : setE cl 1 = 0) : (setL cl 1).length = cl.length ∧ Fta.spread (setL cl 1) = 0 := by
  unfold setE at h0
  unfold setL
  by_cases ha : setBad cl 1 = true
  · rw [if_pos ha] at h0; simp at h0
  · rw [if_neg ha] at h0 ⊢
    by_cases ho : cl.any (Fta.far B38) = true
    · rw [if_pos ho] at h0; simp at h0
    · rw [if_neg ho]
      show (flat1 cl).length = _ ∧ Fta.spread (flat1 cl) = 0
      unfold flat1
      exact ⟨by simp, flat_spread⟩

set_option maxRecDepth 100000 in
set_option maxHeartbeats 1600000 in
theorem together_walk (cl : List Int) (v : Value) (M : List Rw) (u : Value) (w : World) (h : Ints w v cl) (hM : Mat w u M) :
    Calls Try.prog 8 #[v, u] w fun e w' => e = .returned (.bool true) ∧ Below w.heap.size w w' := by
  have hlen := h.len
  have hbd := h.bd
  have hset := (settle_any cl v 1 w h ⟨by omega, by omega⟩).mono (fun e w' => settle_shaped hlen hbd)
  have hrnd : ∀ W, Below w.heap.size w W → _ := fun W hW => (round_any cl v M u W (h.below hW) (hM.below hW)).mono (fun e w' => round_shaped hlen)
  have hMk : ∀ W, Below w.heap.size w W → Mat W u M := fun W hW => hM.below hW
  have HE : Hid (∀ e : Int, rndE cl M = 0 → (∀ r ∈ M, ∀ x ∈ r.l, -e ≤ x ∧ x ≤ e) → Fta.spread (rndL cl M) ≤ 2 * e + 1 ∧ 0 ≤ Fta.spread (rndL cl M) ∧ rndL cl M ≠ []) := fun e h1 h2 => rnd_apart h1 h2
  have HB := Lib.hid (@rndE_rows cl M)
  obtain ⟨va, vcap, rfl, hv1, hv2, hv3⟩ := h.shape
  obtain ⟨ua, ucap, rfl, hu1, hu2, hu3⟩ := hM.1.shape
  have HR := Lib.hid hM.1
  have hze : setE cl 1 = 0 ∨ (setE cl 1 == 0) = false := by
    by_cases hz : setE cl 1 = 0
    · exact .inl hz
    · exact .inr (by simpa using hz)
  rcases hze with hz | hz
  case' inl =>
    obtain ⟨z1, z2⟩ := set_one hz
    rw [z1, hz] at hset
    generalize hX : setL cl 1 = X at *
    clear hX hbd h hM hz
    go_enter Try.func8, Try.ntmps8
    go_wp2_with fail
    refine hset.mono ?_
    rintro e w1 ⟨xa, xcap, rfl, ix, hx1, hx2, hb1⟩
    clear hset
    go_wp2_with fail
    refine (begun_any _).mono ?_
    rintro e w2 ⟨rfl, hb2⟩
    have ix2 := ix.below hb2
    have b2 := hb1.trans (hb2.mono hb1.size)
    clear ix
    have hsp := spread_any X _ w2 ix2
    rw [z2, wrap_small 0 (by omega) (by omega)] at hsp
    clear ix2
    go_wp2_with fail
    refine hsp.mono ?_
    rintro e w' ⟨rfl, rfl⟩
    clear hsp z1 z2
    go_wp2_with fail
  case' inr =>
    generalize hX : setL cl 1 = X at *
    generalize hZ : setE cl 1 = z at *
    clear hX hZ hbd h hM
    go_enter Try.func8, Try.ntmps8
    go_wp2_with fail
    refine hset.mono ?_
    rintro e w1 ⟨xa, xcap, rfl, ix, hx1, hx2, hb1⟩
    clear hset ix
    go_wp2_with fail
    refine (begun_any _).mono ?_
    rintro e w2 ⟨rfl, hb2⟩
    have b2 := hb1.trans (hb2.mono hb1.size)
    go_wp2_with fail
  all_goals
    refine (hrnd w2 b2).mono ?_
    rintro e w3 ⟨ya, ycap, rfl, iy, hy1, hy2, hb3⟩
    have b3 := b2.trans (hb3.mono b2.size)
    have hM3 := hMk w3 b3
    clear hrnd hMk hb1 hb2 b2 hb3
    have hyz : rndE cl M = 0 ∨ (rndE cl M != 0) = true := by
      by_cases hz : rndE cl M = 0
      · exact .inl hz
      · exact .inr (by simpa using hz)
    rcases hyz with hy | hy
    · rw [hy]
      have HY := Lib.hid hy
      clear hy
      have hrow3 := hM3.1
      have HI := Lib.hid hM3.2
      have hsp := spread_any _ _ w3 iy
      clear iy hM3
      go_wp2_with fail
      go_loop [8, 46] (fun z i => ∃ k : Nat, k ≤ M.length ∧ i = .int .i64 k ∧ ∃ c : Int, z = .int .i64 c ∧ 0 ≤ c ∧ c ≤ 274877906944 ∧ Hid (∀ r ∈ M.take k, ∀ x ∈ r.l, -c ≤ x ∧ x ≤ c)) (fun _ i => M.length - (intOf i).toNat)
      case atStart => exact ⟨0, Nat.zero_le _, rfl, 0, rfl, by omega, by omega, fun r hr => by simp at hr⟩
      case round =>
        obtain ⟨k, hk, rfl, c, rfl, hc1, hc2, hc3⟩ := hrel
        by_cases hlt : k < M.length
        · obtain ⟨mb, moff, rfl, hmb, hmc⟩ := hrow3.row (by rintro rfl; simp at hlt)
          obtain ⟨r, hr⟩ : ∃ r, M[k]? = some r := ⟨_, List.getElem?_eq_getElem hlt⟩
          have hrm := List.mem_of_getElem? hr
          have hck : w3.cell? ⟨mb, moff + k, none⟩ = some (rwv r) := hmc.one (f := rwv) hr
          have hrI := HI.out r hrm
          have HS : Hid (∀ c' : Int, c ≤ c' → (∀ x ∈ r.l, -c' ≤ x ∧ x ≤ c') → ∀ r' ∈ M.take (k + 1), ∀ x ∈ r'.l, -c' ≤ x ∧ x ≤ c') := fun c' h1 h2 r' hr' x hx => by
            rw [take_snoc hr] at hr'
            rcases List.mem_append.1 hr' with hr' | hr'
            · have := hc3.out r' hr' x hx
              omega
            · simp at hr'
              subst hr'
              exact h2 x hx
          have HX : Hid (∀ x ∈ r.l, -274877906944 ≤ x ∧ x ≤ 274877906944) := HB.out HY.out r hrm
          have hrl := hrI.len
          clear hr hrm hmc hrow3
          unfold rwv at hck hrI
          obtain ⟨ra, rc, rl⟩ := r
          simp only at hck hrI HS HX hrl
          have hrs := hrI.shape
          obtain ⟨_, _, hrsE, hrs1, hrs2, _⟩ := hrs
          simp only [Value.slice.injEq] at hrsE
          obtain ⟨rfl, _, rfl⟩ := hrsE
          have HRI := Lib.hid hrI
          clear hrI
          go_wp2_with fail
          go_loop [8, 52] (fun z i => ∃ q : Nat, q ≤ rl.length ∧ i = .int .i64 q ∧ ∃ c' : Int, z = .int .i64 c' ∧ c ≤ c' ∧ c' ≤ 274877906944 ∧ Hid (∀ x ∈ rl.take q, -c' ≤ x ∧ x ≤ c')) (fun _ i => rl.length - (intOf i).toNat)
          case atStart => exact ⟨0, Nat.zero_le _, rfl, c, rfl, by omega, by omega, fun x hx => by simp at hx⟩
          case round =>
            obtain ⟨q, hq, rfl, c', rfl, hd1, hd2, hd3⟩ := hrel
            by_cases hlq : q < rl.length
            · obtain ⟨b, off, rfl, hbl, hcx⟩ := HRI.out.row (by rintro rfl; simp at hlq)
              have hcq := hcx q hlq
              have hxb := HX.out _ (getD_mem hlq)
              have HT := Lib.hid (take_getD rl q hlq)
              clear hcx
              generalize rl.getD q 0 = x at *
              obtain ⟨hx1', hx2'⟩ := hxb
              have HM3 : Hid (∀ c2 : Int, c' ≤ c2 → -c2 ≤ x → x ≤ c2 → ∀ y ∈ rl.take (q + 1), -c2 ≤ y ∧ y ≤ c2) := fun c2 h1 h2 h3 y hy => by
                rw [HT.out] at hy
                rcases List.mem_append.1 hy with hy | hy
                · have := hd3.out y hy
                  omega
                · simp at hy
                  subst hy
                  exact ⟨h2, h3⟩
              go_wp2
              go_round
              case rel => refine ⟨q + 1, by omega, by go_num, _, rfl, ?_, ?_, HM3.out _ ?_ ?_ ?_⟩ <;> (split <;> split <;> omega)
              case measure => simp [intOf]; omega
            · have HFin : Hid (∀ r' ∈ M.take (k + 1), ∀ x ∈ r'.l, -c' ≤ x ∧ x ≤ c') := by
                have h3 := hd3.out
                rw [List.take_of_length_le (by omega)] at h3
                exact HS.out c' hd1 h3
              go_wp2
              go_round
              case rel => exact ⟨k + 1, by omega, by go_num, c', rfl, by omega, by omega, HFin⟩
              case measure => simp [intOf]; omega
        · have h3 := hc3.out
          rw [List.take_of_length_le (by omega)] at h3
          obtain ⟨s1, s2, _⟩ := HE.out c HY.out h3
          rw [wrap_small _ (by omega) (by omega)] at hsp
          clear h3
          generalize Fta.spread (rndL cl M) = s at *
          generalize rndL cl M = L at *
          go_wp2_with fail
          refine hsp.mono ?_
          rintro e w' ⟨rfl, rfl⟩
          go_wp2
          go_ret
          exact ⟨ret_bool (by simp; try omega), b3⟩
    · generalize rndE cl M = z at *
      generalize rndL cl M = L at *
      clear iy
      go_wp2
      go_ret
      exact ⟨rfl, b3⟩
end Go.Proofs.Ytalcgleepobccaa
