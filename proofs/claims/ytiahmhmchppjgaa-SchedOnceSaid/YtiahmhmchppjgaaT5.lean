/- The walk of SchedOnce. -/
import Derived.Test.YtiahmhmchppjgaaTurn
import Derived.Test.YtiahmhmchppjgaaW5
import Derived.Deep.CutRange
namespace Go.Proofs.Ytiahmhmchppjgaa
open Go.RowKit Go.Shelf
open Sched (Sp bad)

def cnt (st : List Sp × Sp × Bool) : Nat := st.1.length + (if st.2.2 then 0 else 1)
theorem pstep_cnt (st : List Sp × Sp × Bool) (x : Sp) : cnt (Sched.pstep st x) ≤ cnt st + 1 := by
  obtain ⟨o, s, d⟩ := st
  unfold cnt Sched.pstep
  dsimp only
  by_cases h1 : x.2 < s.1
  · rw [if_pos h1]; cases d <;> simp
  · rw [if_neg h1]
    by_cases h2 : s.2 < x.1
    · rw [if_pos h2]; cases d <;> simp
    · rw [if_neg h2]; cases d <;> simp
theorem pfold_cnt : ∀ (l : List Sp) (st : List Sp × Sp × Bool), cnt (l.foldl Sched.pstep st) ≤ cnt st + l.length
  | [], _ => by simp
  | x :: l, st => by
    have h1 := pfold_cnt l (Sched.pstep st x)
    have h2 := pstep_cnt st x
    simp only [List.foldl_cons, List.length_cons]
    omega
theorem put_len (l : List Sp) (s : Sp) : (Sched.put l s).length ≤ l.length + 1 := by
  have h := pfold_cnt l ([], s, false)
  unfold Sched.put
  unfold cnt at h
  split <;> rename_i hd <;> simp [hd] at h ⊢ <;> omega
theorem fold_put_len : ∀ (l o : List Sp), (l.foldl Sched.put o).length ≤ o.length + l.length
  | [], _ => by simp
  | s :: l, o => by
    have h1 := fold_put_len l (Sched.put o s)
    have h2 := put_len o s
    simp only [List.foldl_cons, List.length_cons]
    omega
theorem nrm_len (l : List Sp) : (Sched.nrm l).length ≤ l.length := by
  have h := fold_put_len (Sched.solid l) []
  have h2 : (Sched.solid l).length ≤ l.length := List.length_filter_le _ _
  unfold Sched.nrm
  simp only [List.length_nil] at h
  omega

def Turned (l : List Sp) (W : World) (u : Value) (wx : World) : Prop := (∃ m : List Sp, m.Perm l ∧ Spans wx u m) ∧ Below W.heap.size W wx

theorem keepCell' {W W' : World} (hb : Below W.heap.size W W') (g o : Nat) (v : Value) (h : W.cell? ⟨g, o, none⟩ = some v) : W'.cell? ⟨g, o, none⟩ = some v := by
  rw [hb.cell (World.block_lt_of_cell? W _ h), h]

set_option maxRecDepth 100000 in
set_option maxHeartbeats 3200000 in
theorem once_walk (l0 : List Sp) (v0 : Value) (t j : Int) (w : World) (h : Spans w v0 l0) (j0 : 0 ≤ j) (j1 : j ≤ 255) :
    Calls Try.prog 4 #[v0, .int .i64 t, .int .u8 j] w fun e w' => e = .returned (.bool true) ∧ Below w.heap.size w w' := by
  go_enter Try.func4, Try.ntmps4
  go_wp2_with fail
  refine (few_any l0 v0 _ (h.below (below1 w _))).mono ?_
  rintro e w' ⟨⟨v, rfl, hv⟩, rfl⟩
  clear h
  have hlen : (l0.take 60).length ≤ 60 := by simp; omega
  generalize l0.take 60 = l at *
  go_wp2_with fail
  refine (norm_any l v _ hv).mono ?_
  rintro e w1 ⟨⟨x, rfl, hx⟩, hb1⟩
  have b1 := bt (below1 w _) hb1
  have hv1 := hv.below hb1
  have hcw := keepCell' hb1 w.heap.size 0 (.int .i64 t) (by rw [World.cell?_alloc_at _ _ _ _ rfl]; rfl)
  clear hv hb1
  by_cases hbad : l.any bad = true
  · rw [show errE l = 60 from if_pos hbad]
    clear hx hbad
    go_wp2_with fail
    refine (begun_any _).mono ?_
    rintro e w2 ⟨rfl, hb2⟩
    go_wp2_with fail
    refine (begun_any _).mono ?_
    rintro e w3 ⟨rfl, hb3⟩
    go_wp2_with fail
    go_ret
    exact ⟨rfl, bt (bt b1 hb2) hb3⟩
  · have hbad : l.any bad = false := by simpa using hbad
    rw [show errE l = 0 from if_neg (by simp [hbad])]
    rw [show nrmE l = Sched.nrm l from if_neg (by simp [hbad])] at hx
    go_wp2_with fail
    refine (begun_any _).mono ?_
    rintro e w2 ⟨rfl, hb2⟩
    have b2 := bt b1 hb2
    have hv2 := hv1.below hb2
    have hc2 := keepCell' hb2 _ _ _ hcw
    have hgood := nrm_good hbad
    have hbd := hv2.bd
    have hxs : (Sched.nrm l).length ≤ 8796093022208 := by have := nrm_len l; omega
    have hx2 := (Spans.of_owns hx hxs hgood.2).below hb2
    clear hx hv1 hcw hb2 b1
    go_wp2_with fail
    refine (clone_any l v _ hv2).mono ?_
    rintro e w3 ⟨⟨m, rfl, hm⟩, hb3⟩
    have b3 := bt b2 hb3
    have hv3 := hv2.below hb3
    have hx3 := hx2.below hb3
    have hc3 := keepCell' hb3 _ _ _ hc2
    have hm3 := Spans.of_owns hm hv3.len hbd
    obtain ⟨am, capm, rfl, hlc, hcapm, _⟩ := hm3.shape
    go_upto_if 35 with fail
    go_cut [10, 11] from 35 to 47 (fun u _ wx => Turned l w2 u wx)
    case first =>
      by_cases hn : l = []
      · subst hn
        go_wp2_with fail
        go_meet
        exact ⟨⟨[], List.Perm.refl _, hm3⟩, hb3⟩
      · have hp : 0 < l.length := List.length_pos_iff.2 hn
        obtain ⟨g, hgw, rfl⟩ : ∃ g, w2.heap.size ≤ g ∧ am = some ⟨g, 0, none⟩ := by
          rcases hm.2 with ⟨_, h0⟩ | ⟨g, cap, cur, e, hbg, _⟩
          · omega
          · simp only [Value.slice.injEq] at e
            exact ⟨g, hbg, e.1⟩
        obtain ⟨k, hk, hkl⟩ : ∃ k : Nat, j.tmod (l.length : Int) = k ∧ k < l.length := ⟨(j.tmod (l.length : Int)).toNat, by
          rw [Int.tmod_eq_emod_of_nonneg j0]
          have := Int.emod_nonneg j (show (l.length : Int) ≠ 0 by omega); omega, by
          rw [Int.tmod_eq_emod_of_nonneg j0]
          have h1 := Int.emod_nonneg j (show (l.length : Int) ≠ 0 by omega)
          have h2 := Int.emod_lt_of_pos j (show (0 : Int) < l.length by omega)
          omega⟩
        go_upto_region 9 with fail
        clear hk
        have hkle : k ≤ l.length := by omega
        have hcapk : ¬ capm = k := by omega
        have hkc : k ≤ capm := by omega
        have hdr : Below w3.heap.size w3 w3.drew := (Below.refl _ w3).drew
        have hmd : w3.drew.ownsRow w2.heap.size 23 2 (.slice (some ⟨g, 0, none⟩) l.length capm) l.length (l.flatMap encSp) := hm
        go_region_law (refine step_turn rfl _ _ rfl hmd hkl hlen hbd hb3.size rfl rfl ?_; intro u2 w4 hu2 hb4)
        go_wp2_with fail
        go_meet
        refine ⟨⟨_, ?_, hu2⟩, hb3.trans ((hdr.mono hb3.size).trans hb4)⟩
        exact List.perm_append_comm.trans (by rw [List.take_append_drop])
    case rest =>
      obtain ⟨⟨m', hperm, hm'⟩, hb4⟩ := hcut
      clear hm hm3 hv3 hx3 hc3 hb3 b3
      have b4 := b2.trans (hb4.mono b2.size)
      have hx4 := hx2.below hb4
      have hv4 := hv2.below hb4
      have hc4 := keepCell' hb4 _ _ _ hc2
      have n1 : ∀ W, Spans W x (Sched.nrm l) → Calls Try.prog 14 #[x] W fun e w' => (∃ y, e = .returned (.tuple #[y, .int .i64 0]) ∧ Spans w' y (Sched.nrm l)) ∧ Below W.heap.size W w' := fun W hW =>
        (norm_any (Sched.nrm l) x W hW).mono fun e w' ⟨⟨y, he, hy⟩, hb⟩ => by
          rw [show errE (Sched.nrm l) = 0 from if_neg (by simp [hgood.1])] at he
          rw [show nrmE (Sched.nrm l) = Sched.nrm l from (if_neg (by simp [hgood.1])).trans (Sched.nrm_again l)] at hy
          exact ⟨⟨y, he, Spans.of_owns hy hxs hgood.2⟩, hb⟩
      have hmb : m'.any bad = false := by
        rw [Bool.eq_false_iff] at hbad ⊢
        intro h
        obtain ⟨s, hs, hs2⟩ := List.any_eq_true.1 h
        exact hbad (List.any_eq_true.2 ⟨s, hperm.mem_iff.1 hs, hs2⟩)
      have n2 : ∀ W, Spans W u10 m' → Calls Try.prog 14 #[u10] W fun e w' => (∃ y, e = .returned (.tuple #[y, .int .i64 0]) ∧ Spans w' y (Sched.nrm l)) ∧ Below W.heap.size W w' := fun W hW =>
        (norm_any m' u10 W hW).mono fun e w' ⟨⟨y, he, hy⟩, hb⟩ => by
          rw [show errE m' = 0 from if_neg (by simp [hmb])] at he
          rw [show nrmE m' = Sched.nrm l from (if_neg (by simp [hmb])).trans (Sched.nrm_perm hperm)] at hy
          exact ⟨⟨y, he, Spans.of_owns hy hxs hgood.2⟩, hb⟩
      obtain ⟨o1, o2⟩ := once_count t l
      have ho2 : ((Sched.nrm l).countP (inside t) = 1 ∧ 0 < l.countP (inside t)) ∨ ((Sched.nrm l).countP (inside t) = 0 ∧ l.countP (inside t) = 0) := by omega
      have k1 : ∀ W, Spans W x (Sched.nrm l) → W.cell? ⟨w.heap.size, 0, none⟩ = some (.int .i64 t) → _ := fun W hW hc => count_any (Sched.nrm l) x w.heap.size t W hW hc
      have k2 : ∀ W, Spans W v l → W.cell? ⟨w.heap.size, 0, none⟩ = some (.int .i64 t) → _ := fun W hW hc => count_any l v w.heap.size t W hW hc
      have q1 : ∀ W y, Spans W x (Sched.nrm l) → Spans W y (Sched.nrm l) → Calls Try.prog 17 #[x, y] W fun e w' => e = .returned (.bool true) ∧ Below W.heap.size W w' := fun W y h1 h2 => by
        have := equal_any (Sched.nrm l) (Sched.nrm l) x y W h1 h2
        rwa [decide_eq_true rfl] at this
      generalize (Sched.nrm l).countP (inside t) = c1 at *
      generalize l.countP (inside t) = c2 at *
      generalize Sched.nrm l = N at *
      have HQ1 := Lib.hid q1
      have HK1 := Lib.hid k1
      have HK2 := Lib.hid k2
      have HN1 := Lib.hid n1
      have HN2 := Lib.hid n2
      clear q1 k1 k2 n1 n2 hmb hperm hgood hbd hxs hb4 hx2 hv2 hc2 o2 hbad
      go_wp2_with fail
      refine (HN1.out _ hx4).mono ?_
      rintro e w5 ⟨⟨y, rfl, hy⟩, hb5⟩
      have hm5 := hm'.below hb5
      have hx5 := hx4.below hb5
      have hv5 := hv4.below hb5
      have hc5 := keepCell' hb5 _ _ _ hc4
      have b5 := bt b4 hb5
      clear hm' hx4 hv4 hc4 b4 hb5
      go_wp2_with fail
      refine (HN2.out _ hm5).mono ?_
      rintro e w6 ⟨⟨z, rfl, hz⟩, hb6⟩
      have hy6 := hy.below hb6
      have hx6 := hx5.below hb6
      have hv6 := hv5.below hb6
      have hc6 := keepCell' hb6 _ _ _ hc5
      have b6 := bt b5 hb6
      clear hm5 hx5 hv5 hc5 b5 hb6 hy
      go_wp2_with fail
      refine (HQ1.out _ y hx6 hy6).mono ?_
      rintro e w7 ⟨rfl, hb7⟩
      have hz7 := hz.below hb7
      have hx7 := hx6.below hb7
      have hv7 := hv6.below hb7
      have hc7 := keepCell' hb7 _ _ _ hc6
      have b7 := bt b6 hb7
      clear hx6 hv6 hc6 b6 hb7 hy6 hz
      go_wp2_with fail
      refine (HQ1.out _ z hx7 hz7).mono ?_
      rintro e w8 ⟨rfl, hb8⟩
      have hx8 := hx7.below hb8
      have hv8 := hv7.below hb8
      have hc8 := keepCell' hb8 _ _ _ hc7
      have b8 := bt b7 hb8
      clear hx7 hv7 hc7 b7 hb8 hz7
      have hcc : ∃ p : Bool, ((c1 : Int) == 1) = p ∧ decide (0 < (c2 : Int)) = p := by
        rcases ho2 with ⟨h1, h2⟩ | ⟨h1, h2⟩
        · exact ⟨true, by simp; omega, by simp; omega⟩
        · exact ⟨false, by simp; omega, by simp; omega⟩
      obtain ⟨p, hp1, hp2⟩ := hcc
      have HP1 := Lib.hid hp1
      have HP2 := Lib.hid hp2
      have hc1 : (c1 : Int) ≤ 1 := by omega
      clear hp1 hp2 ho2 o1
      generalize (c1 : Int) = d1 at *
      generalize (c2 : Int) = d2 at *
      go_wp2_with fail
      refine (HK1.out _ hx8 hc8).mono ?_
      rintro e w9 ⟨rfl, hb9⟩
      have hx9 := hx8.below hb9
      have hv9 := hv8.below hb9
      have hc9 := keepCell' hb9 _ _ _ hc8
      have b9 := bt b8 hb9
      clear hx8 hv8 hc8 b8 hb9
      go_wp2_with fail
      refine (HK1.out _ hx9 hc9).mono ?_
      rintro e w10 ⟨rfl, hb10⟩
      have hv10 := hv9.below hb10
      have hc10 := keepCell' hb10 _ _ _ hc9
      have b10 := bt b9 hb10
      clear hx9 hv9 hc9 b9 hb10
      go_wp2_with fail
      refine (HK2.out _ hv10 hc10).mono ?_
      rintro e w11 ⟨rfl, hb11⟩
      have b11 := bt b10 hb11
      clear hv10 hc10 b10 hb11
      go_wp2_with fail
      go_ret
      exact ⟨ret_bool (by rw [HP1.out, HP2.out]; simp), b11⟩
end Go.Proofs.Ytiahmhmchppjgaa
