/- ClockTogether: the walk. -/
import Derived.Test.YtimcljlbjnhpnaaTp
import Derived.StillTailTactics
import Derived.Deep.QuietTactic
import Derived.BigQuiet
namespace Go.Proofs.Ytimcljlbjnhpnaa
open Go.RowKit Go.Shelf
open Md Tg

def offV (lo : List Int) (F : Int) (i : Nat) : Int := if lo.length = 0 then 0 else (lo.getD (i % lo.length) 0).tmod (F + 1)
def drV (ld : List Int) (n : Nat) (D : Int) (k i : Nat) : Int := if ld.length = 0 then 0 else (ld.getD ((k * n + i) % ld.length) 0).tmod (D + 1)
theorem tmod_bd {x y D : Int} (hD : 0 ≤ D) (hy : y = x.tmod (D + 1)) : -D ≤ y ∧ y ≤ D ∧ (0 ≤ x → 0 ≤ y) := by
  have h1 : y.natAbs < (D + 1).natAbs := by rw [hy, Int.natAbs_tmod]; exact Nat.mod_lt _ (by omega)
  have h2 : 0 ≤ x → 0 ≤ y := fun h => by rw [hy]; exact Int.tmod_nonneg _ h
  omega
theorem offV_bd {lo : List Int} {F : Int} (hF : 0 ≤ F) (h : ∀ x ∈ lo, 0 ≤ x ∧ x ≤ 65535) (i : Nat) : 0 ≤ offV lo F i ∧ offV lo F i ≤ F := by
  unfold offV
  by_cases h0 : lo.length = 0
  · rw [if_pos h0]; omega
  · rw [if_neg h0]
    have hm : lo.getD (i % lo.length) 0 ∈ lo := getD_mem (Nat.mod_lt _ (by omega))
    have := tmod_bd (x := lo.getD (i % lo.length) 0) hF rfl
    have := h _ hm
    omega
theorem drV_bd {ld : List Int} {D : Int} (n : Nat) (hD : 0 ≤ D) (k i : Nat) : -D ≤ drV ld n D k i ∧ drV ld n D k i ≤ D := by
  unfold drV
  by_cases h0 : ld.length = 0
  · rw [if_pos h0]; omega
  · rw [if_neg h0]
    have := tmod_bd (x := ld.getD ((k * n + i) % ld.length) 0) hD rfl
    omega

theorem upto_same {α : Type} {A B : Nat → α} {j : Nat} (h : B j = A j) (i : Nat) : (if i < j then A i else B i) = if i < j + 1 then A i else B i := by
  by_cases h1 : i = j
  · subst h1; rw [if_neg (Nat.lt_irrefl _), if_pos (Nat.lt_succ_self _), h]
  · by_cases h2 : i < j
    · rw [if_pos h2, if_pos (Nat.lt_succ_of_lt h2)]
    · rw [if_neg h2, if_neg (by omega)]
theorem GoodCk.apart {W : World} {c : Ck} {b : Nat} (h : GoodCk W c) (hb : W.heap.size ≤ b) : c.dl = [] ∨ ∀ p, c.da = some p → p.block ≠ b := by
  obtain ⟨⟨a', cap, e, h1, h2, h3, h5, h6, h4⟩, _⟩ := h
  simp only [Value.slice.injEq] at e
  obtain ⟨rfl, -, -⟩ := e
  rcases h4 with h4 | ⟨g, off, e, hlt, hc⟩
  · exact .inl h4
  · right
    intro p hp
    rw [e] at hp
    cases hp
    show g ≠ b
    omega
theorem Ints.far' {W : World} {a : Option Addr} {c b : Nat} {l : List Int} (h : Ints W (.slice a l.length c) l) (hne : l = [] ∨ ∀ p, a = some p → p.block ≠ b) (i : Nat) (x : Value) : Ints (W.setCell ⟨b, i, none⟩ x) (.slice a l.length c) l := by
  rcases hne with rfl | hne
  · obtain ⟨a', cap, e, h1, h2, h3, h5, h6, h4⟩ := h
    exact ⟨a', cap, e, h1, h2, h3, h5, h6, .inl rfl⟩
  · exact h.far hne i x
theorem GoodCk.far3' {W : World} {c : Ck} {b : Nat} (h : GoodCk W c) (hne : c.dl = [] ∨ ∀ p, c.da = some p → p.block ≠ b) (x y z : Value) : GoodCk (((W.setCell ⟨b, 0, none⟩ x).setCell ⟨b, 1, none⟩ y).setCell ⟨b, 2, none⟩ z) c :=
  ⟨((h.1.far' hne 0 x).far' hne 1 y).far' hne 2 z, h.2⟩
/-- A clock in a block of its own, behind a call in W0. -/
def Got (W0 : World) (v : Int × Int × List Int) (wx : World) (K : Nat) (a : Option Addr) (c : Nat) : Prop :=
  Blk wx K 28 #[.int .i64 v.1, .int .i64 v.2.1, .slice a v.2.2.length c] ∧ GoodCk wx ⟨v.1, v.2.1, a, c, v.2.2⟩ ∧ (∀ p, a = some p → W0.heap.size ≤ p.block) ∧ Below W0.heap.size W0 wx ∧ W0.heap.size ≤ K
theorem upto_succ {α : Type} {A B : Nat → α} {j : Nat} {V : α} (h : V = A j) (i : Nat) : (if i = j then V else if i < j then A i else B i) = if i < j + 1 then A i else B i := by
  by_cases h1 : i = j
  · subst h1; rw [if_pos rfl, if_pos (Nat.lt_succ_self _), h]
  · rw [if_neg h1]
    by_cases h2 : i < j
    · rw [if_pos h2, if_pos (Nat.lt_succ_of_lt h2)]
    · rw [if_neg h2, if_neg (by omega)]
theorem wpList_make_at {w : World} {ops : Array Oper} {rest : List Oper} {o : Oper} {a : Act} {Q : Exit → Act → World → Prop} (hgd : o.guard = none) (l c : Operand) (ho : o.op = Op.makeSlice 50 l c) {kl kc : IntKind} {L C : Int} {n : Nat}
    (hl : a.eval l = .int kl L) (hc : a.eval c = .int kc C) (hL : L = (n : Int)) (hC : C = (n : Int)) (hn : n ≤ 8)
    (h : ∀ w', At w' w.heap.size n (fun _ => (0, 0, [])) → Below w.heap.size w w' → wpList Try.prog ops Q rest (a.put o.dst (.slice (some ⟨w.heap.size, 0, none⟩) n n)) w') : wpList Try.prog ops Q (o :: rest) a w := by
  obtain ⟨i, hi, hz, hs, hb⟩ := info_parts E28.info
  refine wpList_make_full w hgd l c 50 ho w.heap.size 28 i _ 3 Try.underlying50 hi hz hs kl kc L C n hl hc hL hC (by rw [hb]; omega) (by unfold maxLen; omega) (Nat.le_refl _) fun w' hown hg => ?_
  refine h w' ?_ ((Below.refl w.heap.size w).grown hg (Nat.le_refl _) (by intro k hk; cases hk))
  obtain ⟨h1, h2 | ⟨g, cap, cur, he, hg', hh, h3, h4, h5, h6⟩⟩ := hown
  · cases h2.1
  · simp only [Value.slice.injEq, Option.some.injEq, Addr.mk.injEq, and_true, true_and] at he
    obtain ⟨rfl, rfl⟩ := he
    have : cur = madeCells #[.int .i64 0, .int .i64 0, .slice none 0 0] (n * 3) := by
      rw [List.take_of_length_le (by simp [h5])] at h6
      exact Array.toList_inj.1 h6
    subst this
    exact At.made w' hh

set_option maxRecDepth 100000 in
set_option maxHeartbeats 3200000 in
theorem together_walk (m : Me) (start : Int) (oa : Option Addr) (oc : Nat) (lo : List Int) (ga : Option Addr) (gc : Nat) (ld : List Int) (w : World) (h : GoodMe w m) (hs : I64 start)
    (ho : Rd (encI .u16) 1 w (.slice oa lo.length oc) lo ∧ ∀ x ∈ lo, 0 ≤ x ∧ x ≤ 65535) (hd : Rd (encI .i8) 1 w (.slice ga ld.length gc) ld ∧ ∀ x ∈ ld, -128 ≤ x ∧ x ≤ 127) :
    Calls Try.prog 7 #[mev m, .int .i64 start, .slice oa lo.length oc, .slice ga ld.length gc] w fun e w' => e = .returned (.bool true) ∧ Below w.heap.size w w' := by
  have hpr : ∀ W, Below w.heap.size w W → _ := fun W hW => precision_any m W (h.below hW)
  have HSE := Lib.hid (fun c W (hW : Below w.heap.size w W) hc => send_any m c W (h.below hW) hc)
  have HSA := Lib.hid (fun c x W (hW : Below w.heap.size w W) hc hx => see_any m c x W (h.below hW) hc hx)
  have HNX := Lib.hid (fun c x W (hW : Below w.heap.size w W) hc hx => next_any m c x W (h.below hW) hc hx)
  have HPV : Hid (errM m = 0 → precV m = 14 * m.nodes * m.drift + 8) := fun he => if_pos he
  have HOK := Lib.hid (@errM_ok m)
  have HRO := Lib.hid (fun (n : Nat) s0 dr hM hn h0 h1 hs hd => @rnd_of m n start s0 dr hM hn h0 h1 hs hd)
  have HER := Lib.hid (fun n s0 dr hM R i k j hk hj a c => @errC_at m n start s0 dr hM R i k j hk hj a c)
  have HS1 := Lib.hid (fun n s0 dr hM R k hk a c => @send_ok m n start s0 dr hM R k hk a c)
  have HS2 := Lib.hid (fun n s0 dr hM R i k hk hi a c => @see_ok m n start s0 dr hM R i k hk hi a c)
  have HS3 := Lib.hid (fun n s0 dr hM hn R i k hk a c => @next_ok' m n start s0 dr hM hn R i k hk a c)
  have HLO := Lib.hid ho
  have HLD := Lib.hid hd
  have HKM : Hid (okM m = true → okM m = true) := id
  obtain ⟨nodes, slot, gap, win, drift, delay, ⟨ca, cc, cl⟩, ma, mc, ml⟩ := m
  unfold mev at *
  simp only at *
  generalize precV _ = F at *
  generalize errM _ = ec at *
  have hll := ho.1.len
  have hdl := hd.1.len
  clear h ho hd
  have HL1 : Hid (∀ i, offV lo F i = if lo.length = 0 then 0 else (lo.getD (i % lo.length) 0).tmod (F + 1)) := fun i => rfl
  have HD1 : Hid (∀ n k i, drV ld n drift k i = if ld.length = 0 then 0 else (ld.getD ((k * n + i) % ld.length) 0).tmod (drift + 1)) := fun n k i => rfl
  have HJ : Hid (Bx w (w.alloc (.cells #[.int .i64 nodes, .int .i64 slot, .int .i64 gap, .int .i64 win, .int .i64 drift, .int .i64 delay, .slice ca cl.length cc, .slice ma ml.length mc] 25)) [(w.heap.size, 25, #[.int .i64 nodes, .int .i64 slot, .int .i64 gap, .int .i64 win, .int .i64 drift, .int .i64 delay, .slice ca cl.length cc, .slice ma ml.length mc])]) := ((Bx.nil w).new (b := w.heap.size) #[.int .i64 nodes, .int .i64 slot, .int .i64 gap, .int .i64 win, .int .i64 drift, .int .i64 delay, .slice ca cl.length cc, .slice ma ml.length mc] 25 (by simp))
  go_enter Try.func7, Try.ntmps7
  have cm_0 : (w.alloc (.cells #[.int .i64 nodes, .int .i64 slot, .int .i64 gap, .int .i64 win, .int .i64 drift, .int .i64 delay, .slice ca cl.length cc, .slice ma ml.length mc] 25)).cell? ⟨w.heap.size, 0, none⟩ = some (.int .i64 nodes) := HJ.out.at 0 0 rfl rfl; have cm_1 : (w.alloc (.cells #[.int .i64 nodes, .int .i64 slot, .int .i64 gap, .int .i64 win, .int .i64 drift, .int .i64 delay, .slice ca cl.length cc, .slice ma ml.length mc] 25)).cell? ⟨w.heap.size, 1, none⟩ = some (.int .i64 slot) := HJ.out.at 0 1 rfl rfl; have cm_2 : (w.alloc (.cells #[.int .i64 nodes, .int .i64 slot, .int .i64 gap, .int .i64 win, .int .i64 drift, .int .i64 delay, .slice ca cl.length cc, .slice ma ml.length mc] 25)).cell? ⟨w.heap.size, 2, none⟩ = some (.int .i64 gap) := HJ.out.at 0 2 rfl rfl; have cm_3 : (w.alloc (.cells #[.int .i64 nodes, .int .i64 slot, .int .i64 gap, .int .i64 win, .int .i64 drift, .int .i64 delay, .slice ca cl.length cc, .slice ma ml.length mc] 25)).cell? ⟨w.heap.size, 3, none⟩ = some (.int .i64 win) := HJ.out.at 0 3 rfl rfl; have cm_4 : (w.alloc (.cells #[.int .i64 nodes, .int .i64 slot, .int .i64 gap, .int .i64 win, .int .i64 drift, .int .i64 delay, .slice ca cl.length cc, .slice ma ml.length mc] 25)).cell? ⟨w.heap.size, 4, none⟩ = some (.int .i64 drift) := HJ.out.at 0 4 rfl rfl; have cm_5 : (w.alloc (.cells #[.int .i64 nodes, .int .i64 slot, .int .i64 gap, .int .i64 win, .int .i64 drift, .int .i64 delay, .slice ca cl.length cc, .slice ma ml.length mc] 25)).cell? ⟨w.heap.size, 5, none⟩ = some (.int .i64 delay) := HJ.out.at 0 5 rfl rfl; have cm_6 : (w.alloc (.cells #[.int .i64 nodes, .int .i64 slot, .int .i64 gap, .int .i64 win, .int .i64 drift, .int .i64 delay, .slice ca cl.length cc, .slice ma ml.length mc] 25)).cell? ⟨w.heap.size, 6, none⟩ = some (.slice ca cl.length cc) := HJ.out.at 0 6 rfl rfl; have cm_7 : (w.alloc (.cells #[.int .i64 nodes, .int .i64 slot, .int .i64 gap, .int .i64 win, .int .i64 drift, .int .i64 delay, .slice ca cl.length cc, .slice ma ml.length mc] 25)).cell? ⟨w.heap.size, 7, none⟩ = some (.slice ma ml.length mc) := HJ.out.at 0 7 rfl rfl; have zm : w.heap.size < (w.alloc (.cells #[.int .i64 nodes, .int .i64 slot, .int .i64 gap, .int .i64 win, .int .i64 drift, .int .i64 delay, .slice ca cl.length cc, .slice ma ml.length mc] 25)).heap.size := HJ.out.lt 0 rfl
  go_wp2_with fail
  refine (hpr (w.alloc (.cells #[.int .i64 nodes, .int .i64 slot, .int .i64 gap, .int .i64 win, .int .i64 drift, .int .i64 delay, .slice ca cl.length cc, .slice ma ml.length mc] 25)) HJ.out.2).mono ?_
  rintro e w1 ⟨rfl, hb⟩
  clear cm_0 cm_1 cm_2 cm_3 cm_4 cm_5 cm_6 cm_7 zm
  replace HJ := Lib.hid (HJ.out.keep hb)
  clear hpr
  clear hb
  have cm_0 : w1.cell? ⟨w.heap.size, 0, none⟩ = some (.int .i64 nodes) := HJ.out.at 0 0 rfl rfl; have cm_1 : w1.cell? ⟨w.heap.size, 1, none⟩ = some (.int .i64 slot) := HJ.out.at 0 1 rfl rfl; have cm_2 : w1.cell? ⟨w.heap.size, 2, none⟩ = some (.int .i64 gap) := HJ.out.at 0 2 rfl rfl; have cm_3 : w1.cell? ⟨w.heap.size, 3, none⟩ = some (.int .i64 win) := HJ.out.at 0 3 rfl rfl; have cm_4 : w1.cell? ⟨w.heap.size, 4, none⟩ = some (.int .i64 drift) := HJ.out.at 0 4 rfl rfl; have cm_5 : w1.cell? ⟨w.heap.size, 5, none⟩ = some (.int .i64 delay) := HJ.out.at 0 5 rfl rfl; have cm_6 : w1.cell? ⟨w.heap.size, 6, none⟩ = some (.slice ca cl.length cc) := HJ.out.at 0 6 rfl rfl; have cm_7 : w1.cell? ⟨w.heap.size, 7, none⟩ = some (.slice ma ml.length mc) := HJ.out.at 0 7 rfl rfl; have zm : w.heap.size < w1.heap.size := HJ.out.lt 0 rfl
  go_wp2_with fail
  refine (begun_any w1).mono ?_
  rintro e w2 ⟨rfl, hb⟩
  clear cm_0 cm_1 cm_2 cm_3 cm_4 cm_5 cm_6 cm_7 zm
  replace HJ := Lib.hid (HJ.out.keep hb)
  clear hb
  by_cases he : ec = 0
  rotate_left
  · have hne : (ec != 0) = true := by simpa using he
    clear he
    have cm_0 : w2.cell? ⟨w.heap.size, 0, none⟩ = some (.int .i64 nodes) := HJ.out.at 0 0 rfl rfl; have cm_1 : w2.cell? ⟨w.heap.size, 1, none⟩ = some (.int .i64 slot) := HJ.out.at 0 1 rfl rfl; have cm_2 : w2.cell? ⟨w.heap.size, 2, none⟩ = some (.int .i64 gap) := HJ.out.at 0 2 rfl rfl; have cm_3 : w2.cell? ⟨w.heap.size, 3, none⟩ = some (.int .i64 win) := HJ.out.at 0 3 rfl rfl; have cm_4 : w2.cell? ⟨w.heap.size, 4, none⟩ = some (.int .i64 drift) := HJ.out.at 0 4 rfl rfl; have cm_5 : w2.cell? ⟨w.heap.size, 5, none⟩ = some (.int .i64 delay) := HJ.out.at 0 5 rfl rfl; have cm_6 : w2.cell? ⟨w.heap.size, 6, none⟩ = some (.slice ca cl.length cc) := HJ.out.at 0 6 rfl rfl; have cm_7 : w2.cell? ⟨w.heap.size, 7, none⟩ = some (.slice ma ml.length mc) := HJ.out.at 0 7 rfl rfl; have zm : w.heap.size < w2.heap.size := HJ.out.lt 0 rfl
    go_wp2_with fail
    refine (begun_any w2).mono ?_
    rintro e w3 ⟨rfl, hb⟩
    clear cm_0 cm_1 cm_2 cm_3 cm_4 cm_5 cm_6 cm_7 zm
    replace HJ := Lib.hid (HJ.out.keep hb)
    clear hb
    go_wp2
    go_ret
    exact ⟨rfl, HJ.out.2⟩
  subst he
  by_cases h0 : start < 0
  · skip
    have cm_0 : w2.cell? ⟨w.heap.size, 0, none⟩ = some (.int .i64 nodes) := HJ.out.at 0 0 rfl rfl; have cm_1 : w2.cell? ⟨w.heap.size, 1, none⟩ = some (.int .i64 slot) := HJ.out.at 0 1 rfl rfl; have cm_2 : w2.cell? ⟨w.heap.size, 2, none⟩ = some (.int .i64 gap) := HJ.out.at 0 2 rfl rfl; have cm_3 : w2.cell? ⟨w.heap.size, 3, none⟩ = some (.int .i64 win) := HJ.out.at 0 3 rfl rfl; have cm_4 : w2.cell? ⟨w.heap.size, 4, none⟩ = some (.int .i64 drift) := HJ.out.at 0 4 rfl rfl; have cm_5 : w2.cell? ⟨w.heap.size, 5, none⟩ = some (.int .i64 delay) := HJ.out.at 0 5 rfl rfl; have cm_6 : w2.cell? ⟨w.heap.size, 6, none⟩ = some (.slice ca cl.length cc) := HJ.out.at 0 6 rfl rfl; have cm_7 : w2.cell? ⟨w.heap.size, 7, none⟩ = some (.slice ma ml.length mc) := HJ.out.at 0 7 rfl rfl; have zm : w.heap.size < w2.heap.size := HJ.out.lt 0 rfl
    go_wp2_with fail
    refine (begun_any w2).mono ?_
    rintro e w3 ⟨rfl, hb⟩
    clear cm_0 cm_1 cm_2 cm_3 cm_4 cm_5 cm_6 cm_7 zm
    replace HJ := Lib.hid (HJ.out.keep hb)
    clear hb
    go_wp2
    go_ret
    exact ⟨rfl, HJ.out.2⟩
  by_cases h1 : 549755813888 < start
  · skip
    have cm_0 : w2.cell? ⟨w.heap.size, 0, none⟩ = some (.int .i64 nodes) := HJ.out.at 0 0 rfl rfl; have cm_1 : w2.cell? ⟨w.heap.size, 1, none⟩ = some (.int .i64 slot) := HJ.out.at 0 1 rfl rfl; have cm_2 : w2.cell? ⟨w.heap.size, 2, none⟩ = some (.int .i64 gap) := HJ.out.at 0 2 rfl rfl; have cm_3 : w2.cell? ⟨w.heap.size, 3, none⟩ = some (.int .i64 win) := HJ.out.at 0 3 rfl rfl; have cm_4 : w2.cell? ⟨w.heap.size, 4, none⟩ = some (.int .i64 drift) := HJ.out.at 0 4 rfl rfl; have cm_5 : w2.cell? ⟨w.heap.size, 5, none⟩ = some (.int .i64 delay) := HJ.out.at 0 5 rfl rfl; have cm_6 : w2.cell? ⟨w.heap.size, 6, none⟩ = some (.slice ca cl.length cc) := HJ.out.at 0 6 rfl rfl; have cm_7 : w2.cell? ⟨w.heap.size, 7, none⟩ = some (.slice ma ml.length mc) := HJ.out.at 0 7 rfl rfl; have zm : w.heap.size < w2.heap.size := HJ.out.lt 0 rfl
    go_wp2_with fail
    refine (begun_any w2).mono ?_
    rintro e w3 ⟨rfl, hb⟩
    clear cm_0 cm_1 cm_2 cm_3 cm_4 cm_5 cm_6 cm_7 zm
    replace HJ := Lib.hid (HJ.out.keep hb)
    clear hb
    go_wp2
    go_ret
    exact ⟨rfl, HJ.out.2⟩
  have hst0 : 0 ≤ start := by omega
  have hst1 : start ≤ 549755813888 := by omega
  clear h0 h1
  have hM := HOK.out rfl
  have hF := HPV.out rfl
  have hbd := okM_bd hM
  simp only at hbd
  obtain ⟨⟨n0, n1⟩, ⟨dr0, dr1⟩, ⟨de0, de1⟩, ⟨wi0, wi1⟩, ⟨ga0, ga1⟩, ⟨so0, so1⟩, _, _, _, _⟩ := hbd
  obtain ⟨n, rfl⟩ : ∃ n : Nat, nodes = (n : Int) := ⟨nodes.toNat, by omega⟩
  have hnd := nd_bd n0 n1 dr0 dr1
  have hF1 : 14 * (n : Int) * drift = 14 * ((n : Int) * drift) := Int.mul_assoc ..
  have hF2 : 16 * (n : Int) * drift = 16 * ((n : Int) * drift) := Int.mul_assoc ..
  have F0 : 0 ≤ F := by omega
  have F1 : F ≤ 8000 := by omega
  have hn4 : 4 ≤ n := by omega
  have hn8 : n ≤ 8 := by omega
  obtain ⟨s0, hs0⟩ : ∃ s0 : Nat → Int, s0 = fun i => start + offV lo F i := ⟨_, rfl⟩
  obtain ⟨dr, hdr⟩ : ∃ dr : Nat → Nat → Int, dr = drV ld n drift := ⟨_, rfl⟩
  have HS0 : Hid (∀ i, s0 i = start + offV lo F i) := fun i => by rw [hs0]
  have HDR : Hid (∀ k i, dr k i = if ld.length = 0 then 0 else (ld.getD ((k * n + i) % ld.length) 0).tmod (drift + 1)) := fun k i => by rw [hdr]; exact HD1.out n k i
  have hR := HRO.out n s0 dr hM rfl hst0 hst1 (fun i => by have := offV_bd F0 HLO.out.2 i; have := HS0.out i; omega) (fun k i => by rw [hdr]; exact drV_bd n dr0 k i)
  clear hs0 hdr HD1
  have HR := Lib.hid hR
  have HM := Lib.hid hM
  clear hM hR hF hF1 hF2 HRO HOK HPV hnd
  have cm_0 : w2.cell? ⟨w.heap.size, 0, none⟩ = some (.int .i64 (n : Int)) := HJ.out.at 0 0 rfl rfl; have cm_1 : w2.cell? ⟨w.heap.size, 1, none⟩ = some (.int .i64 slot) := HJ.out.at 0 1 rfl rfl; have cm_2 : w2.cell? ⟨w.heap.size, 2, none⟩ = some (.int .i64 gap) := HJ.out.at 0 2 rfl rfl; have cm_3 : w2.cell? ⟨w.heap.size, 3, none⟩ = some (.int .i64 win) := HJ.out.at 0 3 rfl rfl; have cm_4 : w2.cell? ⟨w.heap.size, 4, none⟩ = some (.int .i64 drift) := HJ.out.at 0 4 rfl rfl; have cm_5 : w2.cell? ⟨w.heap.size, 5, none⟩ = some (.int .i64 delay) := HJ.out.at 0 5 rfl rfl; have cm_6 : w2.cell? ⟨w.heap.size, 6, none⟩ = some (.slice ca cl.length cc) := HJ.out.at 0 6 rfl rfl; have cm_7 : w2.cell? ⟨w.heap.size, 7, none⟩ = some (.slice ma ml.length mc) := HJ.out.at 0 7 rfl rfl; have zm : w.heap.size < w2.heap.size := HJ.out.lt 0 rfl
  go_wp2_with (at_make; refine wpList_make_at rfl _ _ rfl rfl rfl rfl rfl hn8 ?_; intro w3 ha3 hb3)
  clear cm_0 cm_1 cm_2 cm_3 cm_4 cm_5 cm_6 cm_7 zm
  have hg : w.heap.size < w2.heap.size := HJ.out.lt 0 rfl
  have HA := Lib.hid ha3
  replace HJ := Lib.hid (HJ.out.keep hb3)
  clear ha3 hb3
  generalize w2.heap.size = g at *
  generalize hLo : lo.length = Lo at *
  generalize hLd : ld.length = Ld at *
  have HLo := Lib.hid hLo
  have HLd := Lib.hid hLd
  clear hLo hLd
  go_loopw [52] (fun i wr => ∃ j : Nat, j ≤ n ∧ i = .int .i64 j ∧ Hid (At wr g n (fun t => if t < j then (s0 t, 0, []) else (0, 0, []))) ∧ Hid (Bx w wr [(w.heap.size, 25, #[.int .i64 (n : Int), .int .i64 slot, .int .i64 gap, .int .i64 win, .int .i64 drift, .int .i64 delay, .slice ca cl.length cc, .slice ma ml.length mc])])) (fun i _ => n - (intOf i).toNat)
  case atStart => exact ⟨0, Nat.zero_le _, rfl, HA.out.congr (fun i _ => by simp), HJ⟩
  case round =>
    clear HJ HA
    obtain ⟨j, hj, rfl, HA, HJ⟩ := hrel
    by_cases hlt : j < n
    · skip
      obtain ⟨a0, c0, e0, e1, e2, -, -⟩ := HA.out.get hlt
      simp only [Nat.lt_irrefl, if_false] at e0 e1 e2
      have f0 := HA.out.fz (j * 3)
      have HA2 := Lib.hid (HA.out.set1 hlt start hs)
      have HJ2 : Hid (Bx w (wr.setCell ⟨g, j * 3, none⟩ (.int .i64 start)) [(w.heap.size, 25, #[.int .i64 (n : Int), .int .i64 slot, .int .i64 gap, .int .i64 win, .int .i64 drift, .int .i64 delay, .slice ca cl.length cc, .slice ma ml.length mc])]) := HJ.out.far (by simp; omega) (by simp; omega) _
      have cm_0 : wr.cell? ⟨w.heap.size, 0, none⟩ = some (.int .i64 (n : Int)) := HJ.out.at 0 0 rfl rfl; have cm_1 : wr.cell? ⟨w.heap.size, 1, none⟩ = some (.int .i64 slot) := HJ.out.at 0 1 rfl rfl; have cm_2 : wr.cell? ⟨w.heap.size, 2, none⟩ = some (.int .i64 gap) := HJ.out.at 0 2 rfl rfl; have cm_3 : wr.cell? ⟨w.heap.size, 3, none⟩ = some (.int .i64 win) := HJ.out.at 0 3 rfl rfl; have cm_4 : wr.cell? ⟨w.heap.size, 4, none⟩ = some (.int .i64 drift) := HJ.out.at 0 4 rfl rfl; have cm_5 : wr.cell? ⟨w.heap.size, 5, none⟩ = some (.int .i64 delay) := HJ.out.at 0 5 rfl rfl; have cm_6 : wr.cell? ⟨w.heap.size, 6, none⟩ = some (.slice ca cl.length cc) := HJ.out.at 0 6 rfl rfl; have cm_7 : wr.cell? ⟨w.heap.size, 7, none⟩ = some (.slice ma ml.length mc) := HJ.out.at 0 7 rfl rfl; have zm : w.heap.size < wr.heap.size := HJ.out.lt 0 rfl
      go_upto_region 9 with fail
      clear cm_0 cm_1 cm_2 cm_3 cm_4 cm_5 cm_6 cm_7 zm
      clear HJ HA e0 e1 e2 f0
      generalize wr.setCell ⟨g, j * 3, none⟩ (.int .i64 start) = w4 at *
      have HA := HA2
      have HJ := HJ2
      clear HA2 HJ2
      by_cases hpos : 0 < Lo
      rotate_left
      · obtain rfl : Lo = 0 := by omega
        have cm_0 : w4.cell? ⟨w.heap.size, 0, none⟩ = some (.int .i64 (n : Int)) := HJ.out.at 0 0 rfl rfl; have cm_1 : w4.cell? ⟨w.heap.size, 1, none⟩ = some (.int .i64 slot) := HJ.out.at 0 1 rfl rfl; have cm_2 : w4.cell? ⟨w.heap.size, 2, none⟩ = some (.int .i64 gap) := HJ.out.at 0 2 rfl rfl; have cm_3 : w4.cell? ⟨w.heap.size, 3, none⟩ = some (.int .i64 win) := HJ.out.at 0 3 rfl rfl; have cm_4 : w4.cell? ⟨w.heap.size, 4, none⟩ = some (.int .i64 drift) := HJ.out.at 0 4 rfl rfl; have cm_5 : w4.cell? ⟨w.heap.size, 5, none⟩ = some (.int .i64 delay) := HJ.out.at 0 5 rfl rfl; have cm_6 : w4.cell? ⟨w.heap.size, 6, none⟩ = some (.slice ca cl.length cc) := HJ.out.at 0 6 rfl rfl; have cm_7 : w4.cell? ⟨w.heap.size, 7, none⟩ = some (.slice ma ml.length mc) := HJ.out.at 0 7 rfl rfl; have zm : w.heap.size < w4.heap.size := HJ.out.lt 0 rfl
        go_wp2
        go_roundw
        case rel => exact ⟨j + 1, by omega, by go_num, (by refine HA.out.congr fun i _ => upto_succ (A := fun t => (s0 t, (0 : Int), ([] : List Int))) (B := fun _ => (0, 0, [])) ?_ i; have := HL1.out j; simp only [if_true] at this; simp [this, HS0.out]), HJ⟩
        case measure => simp [intOf]; omega
      obtain ⟨x, hx⟩ : ∃ x, lo[j % Lo]? = some x := ⟨_, List.getElem?_eq_getElem (by rw [HLo.out]; exact Nat.mod_lt _ hpos)⟩
      have hxb := HLO.out.2 x (List.mem_of_getElem? hx)
      obtain ⟨b, off, rfl, hbl, hcc⟩ := (HLO.out.1.below HJ.out.2).row (by rintro rfl; simp at hx)
      have e4 : w4.cell? ⟨b, off + j % Lo, none⟩ = some (.int .u16 x) := hcc.one (f := fun x => .int .u16 x) hx
      have hx2 : offV lo F j = x.tmod (F + 1) := by have := HL1.out j; rw [if_neg (by omega), List.getD_eq_getElem?_getD, hx] at this; exact this
      have hob := offV_bd F0 HLO.out.2 j
      have hrm : (j : Int).tmod (Lo : Int) = ((j % Lo : Nat) : Int) := by rw [Int.tmod_eq_emod_of_nonneg (by omega)]; rfl
      have hrl : j % Lo < Lo := Nat.mod_lt _ hpos
      generalize j % Lo = r at *
      generalize hy : offV lo F j = y at *
      have HY := Lib.hid hy
      clear hx hcc hbl hy
      obtain ⟨a0, c0, e0, e1, e2, -, -⟩ := HA.out.get hlt
      simp only [if_true] at e0 e1 e2
      have f0 := HA.out.fz (j * 3)
      go_upto_region 10 with fail
      have hw1 : IntKind.i64.wrap (F + 1) = F + 1 := IntWalk.i64_in _ (by omega)
      have hw2 : IntKind.i64.wrap (start + y) = start + y := IntWalk.i64_in _ (by omega)
      have hx3 := hx2.symm
      have hx4 : x % (F + 1) = y := by rw [← Int.tmod_eq_emod_of_nonneg hxb.1]; exact hx3
      have hz1 : ¬ Lo = 0 := by omega
      have hz2 : ¬ F + 1 = 0 := by omega
      have hz3 : ((Lo : Int) == 0) = false := by simpa using hz1
      have hz4 : ((F + 1) == 0) = false := by simpa using hz2
      clear hx2
      go_still_tail 19, (by kernel_rfl)
      change wpList _ _ _ _ _ w4.drew
      rw [IntWalk.i64_in x (by omega), hx3, hw2]
      have HA2 : Hid (At w4.drew g n _) := HA.out.keep (Below.refl _ w4).drew
      replace HJ := Lib.hid HJ.out.drew
      clear e0 e1 e2 f0 e4 HA hx3 hx4 hw1 hz1 hz2 hz3 hz4 hrm
      generalize w4.drew = w5 at *
      have HA := HA2
      clear HA2
      obtain ⟨a0, c0, e0, e1, e2, -, -⟩ := HA.out.get hlt
      simp only [if_true] at e0 e1 e2
      have f0 := HA.out.fz (j * 3)
      go_upto_region 11 with fail
      have HA2 := Lib.hid (HA.out.set1 hlt (start + y) (by unfold I64; omega))
      have HJ2 : Hid (Bx w (w5.setCell ⟨g, j * 3, none⟩ (.int .i64 (start + y))) [(w.heap.size, 25, #[.int .i64 (n : Int), .int .i64 slot, .int .i64 gap, .int .i64 win, .int .i64 drift, .int .i64 delay, .slice ca cl.length cc, .slice ma ml.length mc])]) := HJ.out.far (by simp; omega) (by simp; omega) _
      clear e0 e1 e2 f0 HA HJ hw2
      generalize w5.setCell ⟨g, j * 3, none⟩ (.int .i64 (start + y)) = w6 at *
      have HA := HA2
      have HJ := HJ2
      clear HA2 HJ2
      have cm_0 : w6.cell? ⟨w.heap.size, 0, none⟩ = some (.int .i64 (n : Int)) := HJ.out.at 0 0 rfl rfl; have cm_1 : w6.cell? ⟨w.heap.size, 1, none⟩ = some (.int .i64 slot) := HJ.out.at 0 1 rfl rfl; have cm_2 : w6.cell? ⟨w.heap.size, 2, none⟩ = some (.int .i64 gap) := HJ.out.at 0 2 rfl rfl; have cm_3 : w6.cell? ⟨w.heap.size, 3, none⟩ = some (.int .i64 win) := HJ.out.at 0 3 rfl rfl; have cm_4 : w6.cell? ⟨w.heap.size, 4, none⟩ = some (.int .i64 drift) := HJ.out.at 0 4 rfl rfl; have cm_5 : w6.cell? ⟨w.heap.size, 5, none⟩ = some (.int .i64 delay) := HJ.out.at 0 5 rfl rfl; have cm_6 : w6.cell? ⟨w.heap.size, 6, none⟩ = some (.slice ca cl.length cc) := HJ.out.at 0 6 rfl rfl; have cm_7 : w6.cell? ⟨w.heap.size, 7, none⟩ = some (.slice ma ml.length mc) := HJ.out.at 0 7 rfl rfl; have zm : w.heap.size < w6.heap.size := HJ.out.lt 0 rfl
      go_wp2
      go_roundw
      case rel => exact ⟨j + 1, by omega, by go_num, (by refine HA.out.congr fun i _ => ?_; have h0 := HS0.out j; rw [HY.out] at h0; by_cases h1 : i = j; (subst h1; simp [h0]); (by_cases h2 : i < j; (simp [h1, h2, Nat.lt_succ_of_lt h2]); (simp [h1, h2, show ¬ i < j + 1 by omega]))), HJ⟩
      case measure => simp [intOf]; omega
    · obtain rfl : n = j := by omega
      have HA2 : Hid (At wr g n (Qk n slot s0 dr 0)) := HA.out.congr fun i hi => by
        unfold Qk
        rw [if_pos hi, if_neg (by omega), sk_zero, dv_zero]
        rfl
      clear HA HL1
      have HA := HA2
      clear HA2
      have HG : Hid (g < wr.heap.size) := HA.out.lt
      generalize wr = w7 at *
      have cm_0 : w7.cell? ⟨w.heap.size, 0, none⟩ = some (.int .i64 (n : Int)) := HJ.out.at 0 0 rfl rfl; have cm_1 : w7.cell? ⟨w.heap.size, 1, none⟩ = some (.int .i64 slot) := HJ.out.at 0 1 rfl rfl; have cm_2 : w7.cell? ⟨w.heap.size, 2, none⟩ = some (.int .i64 gap) := HJ.out.at 0 2 rfl rfl; have cm_3 : w7.cell? ⟨w.heap.size, 3, none⟩ = some (.int .i64 win) := HJ.out.at 0 3 rfl rfl; have cm_4 : w7.cell? ⟨w.heap.size, 4, none⟩ = some (.int .i64 drift) := HJ.out.at 0 4 rfl rfl; have cm_5 : w7.cell? ⟨w.heap.size, 5, none⟩ = some (.int .i64 delay) := HJ.out.at 0 5 rfl rfl; have cm_6 : w7.cell? ⟨w.heap.size, 6, none⟩ = some (.slice ca cl.length cc) := HJ.out.at 0 6 rfl rfl; have cm_7 : w7.cell? ⟨w.heap.size, 7, none⟩ = some (.slice ma ml.length mc) := HJ.out.at 0 7 rfl rfl; have zm : w.heap.size < w7.heap.size := HJ.out.lt 0 rfl
      go_wp2_with fail
      clear cm_0 cm_1 cm_2 cm_3 cm_4 cm_5 cm_6 cm_7 zm
      go_loopw [85] (fun i wr => ∃ k : Nat, k ≤ n ∧ i = .int .i64 k ∧ Hid (At wr g n (Qk n slot s0 dr k)) ∧ Hid (Bx w wr [(w.heap.size, 25, #[.int .i64 (n : Int), .int .i64 slot, .int .i64 gap, .int .i64 win, .int .i64 drift, .int .i64 delay, .slice ca cl.length cc, .slice ma ml.length mc])])) (fun i _ => n - (intOf i).toNat)
      case atStart => exact ⟨0, Nat.zero_le _, rfl, HA, HJ⟩
      case round =>
        clear HJ HA
        obtain ⟨k, hk, rfl, HA, HJ⟩ := hrel
        by_cases hlt : k < n
        · skip
          have HA2 : Hid (At wr g n (fun t => (sk slot s0 dr t k, (k : Int), dv slot s0 dr t k))) := HA.out.congr fun i hi => by unfold Qk; rw [if_neg (by omega)]
          clear HA
          have HA := HA2
          clear HA2
          generalize wr = w8 at *
          obtain ⟨a0, c0, e0, e1, e2, hgd, -⟩ := HA.out.get hlt
          simp only at e0 e1 e2 hgd
          have hsend : ∀ W, Below w8.heap.size w8 W → Calls Try.prog 12 #[.agg #[.int .i64 (n : Int), .int .i64 slot, .int .i64 gap, .int .i64 win, .int .i64 drift, .int .i64 delay, .slice ca cl.length cc, .slice ma ml.length mc], .agg #[.int .i64 (sk slot s0 dr k k), .int .i64 (k : Int), .slice a0 (dv slot s0 dr k k).length c0]] W fun e w' => e = .returned (.tuple #[.int .i64 (sk slot s0 dr k k + gap), .int .i64 0]) ∧ Below W.heap.size W w' := fun W hW => by
            have := HSE.out ⟨sk slot s0 dr k k, k, a0, c0, dv slot s0 dr k k⟩ W (HJ.out.2.trans (hW.mono HJ.out.2.size)) (hgd.below hW)
            rw [HS1.out n s0 dr HM.out HR.out k hlt a0 c0, HER.out n s0 dr HM.out HR.out k k k (by omega) (by omega) a0 c0] at this
            exact this
          have HX0 := Lib.hid (HR.out.at (i := k) (k := k) (by omega))
          have hdl := Ints.len hgd.1
          simp only at hdl
          clear hgd
          have cm_0 : w8.cell? ⟨w.heap.size, 0, none⟩ = some (.int .i64 (n : Int)) := HJ.out.at 0 0 rfl rfl; have cm_1 : w8.cell? ⟨w.heap.size, 1, none⟩ = some (.int .i64 slot) := HJ.out.at 0 1 rfl rfl; have cm_2 : w8.cell? ⟨w.heap.size, 2, none⟩ = some (.int .i64 gap) := HJ.out.at 0 2 rfl rfl; have cm_3 : w8.cell? ⟨w.heap.size, 3, none⟩ = some (.int .i64 win) := HJ.out.at 0 3 rfl rfl; have cm_4 : w8.cell? ⟨w.heap.size, 4, none⟩ = some (.int .i64 drift) := HJ.out.at 0 4 rfl rfl; have cm_5 : w8.cell? ⟨w.heap.size, 5, none⟩ = some (.int .i64 delay) := HJ.out.at 0 5 rfl rfl; have cm_6 : w8.cell? ⟨w.heap.size, 6, none⟩ = some (.slice ca cl.length cc) := HJ.out.at 0 6 rfl rfl; have cm_7 : w8.cell? ⟨w.heap.size, 7, none⟩ = some (.slice ma ml.length mc) := HJ.out.at 0 7 rfl rfl; have zm : w.heap.size < w8.heap.size := HJ.out.lt 0 rfl
          go_upto_region 15 with fail
          have H1 : w8.drew.cell? ⟨w.heap.size, 0, none⟩ = some (.int .i64 (n : Int)) ∧ w8.drew.cell? ⟨w.heap.size, 1, none⟩ = some (.int .i64 slot) ∧ w8.drew.cell? ⟨w.heap.size, 2, none⟩ = some (.int .i64 gap) ∧ w8.drew.cell? ⟨w.heap.size, 3, none⟩ = some (.int .i64 win) ∧ w8.drew.cell? ⟨w.heap.size, 4, none⟩ = some (.int .i64 drift) ∧ w8.drew.cell? ⟨w.heap.size, 5, none⟩ = some (.int .i64 delay) ∧ w8.drew.cell? ⟨w.heap.size, 6, none⟩ = some (.slice ca cl.length cc) ∧ w8.drew.cell? ⟨w.heap.size, 7, none⟩ = some (.slice ma ml.length mc) ∧ w8.drew.cell? ⟨g, k * 3, none⟩ = some (.int .i64 (sk slot s0 dr k k)) ∧ w8.drew.cell? ⟨g, k * 3 + 1, none⟩ = some (.int .i64 (k : Int)) ∧ w8.drew.cell? ⟨g, k * 3 + 2, none⟩ = some (.slice a0 (dv slot s0 dr k k).length c0) ∧ Below w8.heap.size w8 w8.drew := ⟨cm_0, cm_1, cm_2, cm_3, cm_4, cm_5, cm_6, cm_7, e0, e1, e2, (Below.refl _ _).drew⟩
          refine wp_region_held_drew (S := (fun W => W.cell? ⟨w.heap.size, 0, none⟩ = some (.int .i64 (n : Int)) ∧ W.cell? ⟨w.heap.size, 1, none⟩ = some (.int .i64 slot) ∧ W.cell? ⟨w.heap.size, 2, none⟩ = some (.int .i64 gap) ∧ W.cell? ⟨w.heap.size, 3, none⟩ = some (.int .i64 win) ∧ W.cell? ⟨w.heap.size, 4, none⟩ = some (.int .i64 drift) ∧ W.cell? ⟨w.heap.size, 5, none⟩ = some (.int .i64 delay) ∧ W.cell? ⟨w.heap.size, 6, none⟩ = some (.slice ca cl.length cc) ∧ W.cell? ⟨w.heap.size, 7, none⟩ = some (.slice ma ml.length mc) ∧ W.cell? ⟨g, k * 3, none⟩ = some (.int .i64 (sk slot s0 dr k k)) ∧ W.cell? ⟨g, k * 3 + 1, none⟩ = some (.int .i64 (k : Int)) ∧ W.cell? ⟨g, k * 3 + 2, none⟩ = some (.slice a0 (dv slot s0 dr k k).length c0) ∧ Below w8.heap.size w8 W)) (by kernel_rfl) (by assumption) (fun hHeld => ?_)
          generalize w8.drew = Wd at *
          (refine takeW (i := 0) (v := ?_) rfl (by kernel_rfl) (by kernel_rfl) (by kernel_rfl) (fun _ _ _ h => h) (by rfl) (by assumption) ?_ ?_; rotate_left; (intro W hW; (try dsimp only at hW); go_simp; try with_reducible rfl); (try simp only [Act.put, List.setIfInBounds_toArray, List.set_cons_zero, List.set_cons_succ]))
          (refine takeW (i := 1) (v := ?_) rfl (by kernel_rfl) (by kernel_rfl) (by kernel_rfl) (fun _ _ _ h => h) (by rfl) (by assumption) ?_ ?_; rotate_left; (intro W hW; (try dsimp only at hW); go_simp; try with_reducible rfl); (try simp only [Act.put, List.setIfInBounds_toArray, List.set_cons_zero, List.set_cons_succ]))
          (refine takeW (i := 2) (v := ?_) rfl (by kernel_rfl) (by kernel_rfl) (by kernel_rfl) (fun _ _ _ h => h) (by rfl) (by assumption) ?_ ?_; rotate_left; (intro W hW; (try dsimp only at hW); go_simp; try with_reducible rfl); (try simp only [Act.put, List.setIfInBounds_toArray, List.set_cons_zero, List.set_cons_succ]))
          (refine takeW (i := 3) (v := ?_) rfl (by kernel_rfl) (by kernel_rfl) (by kernel_rfl) (fun _ _ _ h => h) (by rfl) (by assumption) ?_ ?_; rotate_left; (intro W hW; (try dsimp only at hW); go_simp; try with_reducible rfl); (try simp only [Act.put, List.setIfInBounds_toArray, List.set_cons_zero, List.set_cons_succ]))
          (refine takeW (i := 4) (v := ?_) rfl (by kernel_rfl) (by kernel_rfl) (by kernel_rfl) (fun _ _ _ h => h) (by rfl) (by assumption) ?_ ?_; rotate_left; (intro W hW; (try dsimp only at hW); go_simp; try with_reducible rfl); (try simp only [Act.put, List.setIfInBounds_toArray, List.set_cons_zero, List.set_cons_succ]))
          (refine takeC (i := 5) rfl (by kernel_rfl) (by rfl) (fun K hK => ?_); go_simp; (refine (hsend _ hHeld.2.2.2.2.2.2.2.2.2.2.2).mono ?_; rintro e W5 ⟨rfl, hb⟩; have hB : Below w8.heap.size w8 W5 := hHeld.2.2.2.2.2.2.2.2.2.2.2.trans (hb.mono hHeld.2.2.2.2.2.2.2.2.2.2.2.size); have hs : W5.cell? ⟨w.heap.size, 0, none⟩ = some (.int .i64 (n : Int)) ∧ W5.cell? ⟨w.heap.size, 1, none⟩ = some (.int .i64 slot) ∧ W5.cell? ⟨w.heap.size, 2, none⟩ = some (.int .i64 gap) ∧ W5.cell? ⟨w.heap.size, 3, none⟩ = some (.int .i64 win) ∧ W5.cell? ⟨w.heap.size, 4, none⟩ = some (.int .i64 drift) ∧ W5.cell? ⟨w.heap.size, 5, none⟩ = some (.int .i64 delay) ∧ W5.cell? ⟨w.heap.size, 6, none⟩ = some (.slice ca cl.length cc) ∧ W5.cell? ⟨w.heap.size, 7, none⟩ = some (.slice ma ml.length mc) ∧ W5.cell? ⟨g, k * 3, none⟩ = some (.int .i64 (sk slot s0 dr k k)) ∧ W5.cell? ⟨g, k * 3 + 1, none⟩ = some (.int .i64 (k : Int)) ∧ W5.cell? ⟨g, k * 3 + 2, none⟩ = some (.slice a0 (dv slot s0 dr k k).length c0) ∧ Below w8.heap.size w8 W5 := ⟨keepCell hB cm_0, keepCell hB cm_1, keepCell hB cm_2, keepCell hB cm_3, keepCell hB cm_4, keepCell hB cm_5, keepCell hB cm_6, keepCell hB cm_7, keepCell hB e0, keepCell hB e1, keepCell hB e2, hB⟩; clear hB hb); refine hK.out _ _ hs (fun hHeld => ?_); clear hK K; (try simp only [Act.put, List.setIfInBounds_toArray, List.set_cons_zero, List.set_cons_succ]))
          (refine takeW (i := 6) (v := ?_) rfl (by kernel_rfl) (by kernel_rfl) (by kernel_rfl) (fun _ _ _ h => h) (by rfl) (by assumption) ?_ ?_; rotate_left; (intro W hW; (try dsimp only at hW); go_simp; try with_reducible rfl); (try simp only [Act.put, List.setIfInBounds_toArray, List.set_cons_zero, List.set_cons_succ]))
          (refine takeW (i := 7) (v := ?_) rfl (by kernel_rfl) (by kernel_rfl) (by kernel_rfl) (fun _ _ _ h => h) (by rfl) (by assumption) ?_ ?_; rotate_left; (intro W hW; (try dsimp only at hW); go_simp; try with_reducible rfl); (try simp only [Act.put, List.setIfInBounds_toArray, List.set_cons_zero, List.set_cons_succ]))
          (refine takeW (i := 8) (v := ?_) rfl (by kernel_rfl) (by kernel_rfl) (by kernel_rfl) (fun _ _ _ h => h) (by rfl) (by assumption) ?_ ?_; rotate_left; (intro W hW; (try dsimp only at hW); go_simp; try with_reducible rfl); (try simp only [Act.put, List.setIfInBounds_toArray, List.set_cons_zero, List.set_cons_succ]))
          (refine takeW (i := 9) (v := ?_) rfl (by kernel_rfl) (by kernel_rfl) (by kernel_rfl) (fun _ _ _ h => h) (by rfl) (by assumption) ?_ ?_; rotate_left; (intro W hW; (try dsimp only at hW); go_simp; try with_reducible rfl); (try simp only [Act.put, List.setIfInBounds_toArray, List.set_cons_zero, List.set_cons_succ]))
          (refine takeW (i := 10) (v := ?_) rfl (by kernel_rfl) (by kernel_rfl) (by kernel_rfl) (fun _ _ _ h => h) (by rfl) (by assumption) ?_ ?_; rotate_left; (intro W hW; (try dsimp only at hW); go_simp; try with_reducible rfl); (try simp only [Act.put, List.setIfInBounds_toArray, List.set_cons_zero, List.set_cons_succ]))
          refine wpAnyH_done (by kernel_rfl) ?_ _
          skip
          have HB := Lib.hid hHeld.2.2.2.2.2.2.2.2.2.2.2
          clear hHeld H1 e0 e1 e2 hsend hdl
          clear cm_0 cm_1 cm_2 cm_3 cm_4 cm_5 cm_6 cm_7 zm
          replace HA := Lib.hid (HA.out.keep HB.out)
          replace HJ := Lib.hid (HJ.out.keep HB.out)
          clear HB
          generalize W5 = w9 at *
          have HG : Hid (g < w9.heap.size) := HA.out.lt
          have cm_0 : w9.cell? ⟨w.heap.size, 0, none⟩ = some (.int .i64 (n : Int)) := HJ.out.at 0 0 rfl rfl; have cm_1 : w9.cell? ⟨w.heap.size, 1, none⟩ = some (.int .i64 slot) := HJ.out.at 0 1 rfl rfl; have cm_2 : w9.cell? ⟨w.heap.size, 2, none⟩ = some (.int .i64 gap) := HJ.out.at 0 2 rfl rfl; have cm_3 : w9.cell? ⟨w.heap.size, 3, none⟩ = some (.int .i64 win) := HJ.out.at 0 3 rfl rfl; have cm_4 : w9.cell? ⟨w.heap.size, 4, none⟩ = some (.int .i64 drift) := HJ.out.at 0 4 rfl rfl; have cm_5 : w9.cell? ⟨w.heap.size, 5, none⟩ = some (.int .i64 delay) := HJ.out.at 0 5 rfl rfl; have cm_6 : w9.cell? ⟨w.heap.size, 6, none⟩ = some (.slice ca cl.length cc) := HJ.out.at 0 6 rfl rfl; have cm_7 : w9.cell? ⟨w.heap.size, 7, none⟩ = some (.slice ma ml.length mc) := HJ.out.at 0 7 rfl rfl; have zm : w.heap.size < w9.heap.size := HJ.out.lt 0 rfl
          go_wp2_with fail
          clear cm_0 cm_1 cm_2 cm_3 cm_4 cm_5 cm_6 cm_7 zm
          go_loopw [101] (fun i wr => ∃ j : Nat, j ≤ n ∧ i = .int .i64 j ∧ Hid (At wr g n (fun t => if t < j then Vk slot s0 dr k t else (sk slot s0 dr t k, (k : Int), dv slot s0 dr t k))) ∧ Hid (Bx w wr [(w.heap.size, 25, #[.int .i64 (n : Int), .int .i64 slot, .int .i64 gap, .int .i64 win, .int .i64 drift, .int .i64 delay, .slice ca cl.length cc, .slice ma ml.length mc])])) (fun i _ => n - (intOf i).toNat)
          case atStart => exact ⟨0, Nat.zero_le _, rfl, HA.out.congr (fun i _ => by simp), HJ⟩
          case round =>
            clear HJ HA
            obtain ⟨j, hj, rfl, HA, HJ⟩ := hrel
            by_cases hlt2 : j < n
            · skip
              by_cases hjk : j = k
              · subst hjk
                have cm_0 : wr.cell? ⟨w.heap.size, 0, none⟩ = some (.int .i64 (n : Int)) := HJ.out.at 0 0 rfl rfl; have cm_1 : wr.cell? ⟨w.heap.size, 1, none⟩ = some (.int .i64 slot) := HJ.out.at 0 1 rfl rfl; have cm_2 : wr.cell? ⟨w.heap.size, 2, none⟩ = some (.int .i64 gap) := HJ.out.at 0 2 rfl rfl; have cm_3 : wr.cell? ⟨w.heap.size, 3, none⟩ = some (.int .i64 win) := HJ.out.at 0 3 rfl rfl; have cm_4 : wr.cell? ⟨w.heap.size, 4, none⟩ = some (.int .i64 drift) := HJ.out.at 0 4 rfl rfl; have cm_5 : wr.cell? ⟨w.heap.size, 5, none⟩ = some (.int .i64 delay) := HJ.out.at 0 5 rfl rfl; have cm_6 : wr.cell? ⟨w.heap.size, 6, none⟩ = some (.slice ca cl.length cc) := HJ.out.at 0 6 rfl rfl; have cm_7 : wr.cell? ⟨w.heap.size, 7, none⟩ = some (.slice ma ml.length mc) := HJ.out.at 0 7 rfl rfl; have zm : w.heap.size < wr.heap.size := HJ.out.lt 0 rfl
                go_wp2
                go_roundw
                case rel => exact ⟨j + 1, by omega, by go_num, (by refine HA.out.congr fun i _ => upto_same (A := fun t => Vk slot s0 dr j t) (B := fun t => (sk slot s0 dr t j, (j : Int), dv slot s0 dr t j)) ?_ i; simp [Vk, dv_self]), HJ⟩
                case measure => simp [intOf]; omega
              generalize wr = w8 at *
              have HG8 : Hid (g < w8.heap.size) := HA.out.lt
              obtain ⟨a0, c0, e0, e1, e2, hgd, -⟩ := HA.out.get hlt2
              simp only [Nat.lt_irrefl, if_false] at e0 e1 e2 hgd
              have hxb := HX0.out
              have hcon : ∀ W, Below w8.heap.size w8 W → Calls Try.prog 25 #[.agg #[.int .i64 (n : Int), .int .i64 slot, .int .i64 gap, .int .i64 win, .int .i64 drift, .int .i64 delay, .slice ca cl.length cc, .slice ma ml.length mc], .agg #[.int .i64 (sk slot s0 dr j k), .int .i64 (k : Int), .slice a0 (dv slot s0 dr j k).length c0], .int .i64 (sk slot s0 dr k k + gap + delay)] W fun e w' => CkOut W (Vk slot s0 dr k j, 0) e w' := fun W hW => by
                have := HSA.out ⟨sk slot s0 dr j k, k, a0, c0, dv slot s0 dr j k⟩ (sk slot s0 dr k k + gap + delay) W (HJ.out.2.trans (hW.mono HJ.out.2.size)) (hgd.below hW) (by unfold I64; omega)
                rw [HS2.out n s0 dr HM.out HR.out j k hlt hjk a0 c0] at this
                exact this
              have hdl := Ints.len hgd.1
              simp only at hdl
              have hw1 : IntKind.i64.wrap (sk slot s0 dr k k + gap + delay) = sk slot s0 dr k k + gap + delay := IntWalk.i64_in _ (by omega)
              have hjk2 : ((j : Int) == (k : Int)) = false := by simp; omega
              clear hgd
              obtain ⟨⟨v0, v1, vl⟩, hv⟩ : ∃ v, v = Vk slot s0 dr k j := ⟨_, rfl⟩
              rw [← hv] at hcon
              have HV := Lib.hid hv
              clear hv
              have cm_0 : w8.cell? ⟨w.heap.size, 0, none⟩ = some (.int .i64 (n : Int)) := HJ.out.at 0 0 rfl rfl; have cm_1 : w8.cell? ⟨w.heap.size, 1, none⟩ = some (.int .i64 slot) := HJ.out.at 0 1 rfl rfl; have cm_2 : w8.cell? ⟨w.heap.size, 2, none⟩ = some (.int .i64 gap) := HJ.out.at 0 2 rfl rfl; have cm_3 : w8.cell? ⟨w.heap.size, 3, none⟩ = some (.int .i64 win) := HJ.out.at 0 3 rfl rfl; have cm_4 : w8.cell? ⟨w.heap.size, 4, none⟩ = some (.int .i64 drift) := HJ.out.at 0 4 rfl rfl; have cm_5 : w8.cell? ⟨w.heap.size, 5, none⟩ = some (.int .i64 delay) := HJ.out.at 0 5 rfl rfl; have cm_6 : w8.cell? ⟨w.heap.size, 6, none⟩ = some (.slice ca cl.length cc) := HJ.out.at 0 6 rfl rfl; have cm_7 : w8.cell? ⟨w.heap.size, 7, none⟩ = some (.slice ma ml.length mc) := HJ.out.at 0 7 rfl rfl; have zm : w.heap.size < w8.heap.size := HJ.out.lt 0 rfl
              go_upto_region 22 with fail
              go_cut [17, 18] from 107 to 119 (fun s e wx => e = .int .i64 0 ∧ ∃ K a c, s = .pointer (some ⟨K, 0, none⟩) ∧ Hid (Got w8 (v0, v1, vl) wx K a c))
              case first =>
                have H1 : w8.drew.cell? ⟨w.heap.size, 0, none⟩ = some (.int .i64 (n : Int)) ∧ w8.drew.cell? ⟨w.heap.size, 1, none⟩ = some (.int .i64 slot) ∧ w8.drew.cell? ⟨w.heap.size, 2, none⟩ = some (.int .i64 gap) ∧ w8.drew.cell? ⟨w.heap.size, 3, none⟩ = some (.int .i64 win) ∧ w8.drew.cell? ⟨w.heap.size, 4, none⟩ = some (.int .i64 drift) ∧ w8.drew.cell? ⟨w.heap.size, 5, none⟩ = some (.int .i64 delay) ∧ w8.drew.cell? ⟨w.heap.size, 6, none⟩ = some (.slice ca cl.length cc) ∧ w8.drew.cell? ⟨w.heap.size, 7, none⟩ = some (.slice ma ml.length mc) ∧ w8.drew.cell? ⟨g, j * 3, none⟩ = some (.int .i64 (sk slot s0 dr j k)) ∧ w8.drew.cell? ⟨g, j * 3 + 1, none⟩ = some (.int .i64 (k : Int)) ∧ w8.drew.cell? ⟨g, j * 3 + 2, none⟩ = some (.slice a0 (dv slot s0 dr j k).length c0) ∧ Below w8.heap.size w8 w8.drew := ⟨cm_0, cm_1, cm_2, cm_3, cm_4, cm_5, cm_6, cm_7, e0, e1, e2, (Below.refl _ _).drew⟩
                refine wp_region_held_drew (S := (fun W => W.cell? ⟨w.heap.size, 0, none⟩ = some (.int .i64 (n : Int)) ∧ W.cell? ⟨w.heap.size, 1, none⟩ = some (.int .i64 slot) ∧ W.cell? ⟨w.heap.size, 2, none⟩ = some (.int .i64 gap) ∧ W.cell? ⟨w.heap.size, 3, none⟩ = some (.int .i64 win) ∧ W.cell? ⟨w.heap.size, 4, none⟩ = some (.int .i64 drift) ∧ W.cell? ⟨w.heap.size, 5, none⟩ = some (.int .i64 delay) ∧ W.cell? ⟨w.heap.size, 6, none⟩ = some (.slice ca cl.length cc) ∧ W.cell? ⟨w.heap.size, 7, none⟩ = some (.slice ma ml.length mc) ∧ W.cell? ⟨g, j * 3, none⟩ = some (.int .i64 (sk slot s0 dr j k)) ∧ W.cell? ⟨g, j * 3 + 1, none⟩ = some (.int .i64 (k : Int)) ∧ W.cell? ⟨g, j * 3 + 2, none⟩ = some (.slice a0 (dv slot s0 dr j k).length c0) ∧ Below w8.heap.size w8 W)) (by kernel_rfl) (by assumption) (fun hHeld => ?_)
                generalize w8.drew = Wd at *
                (refine takeW (i := 0) (v := ?_) rfl (by kernel_rfl) (by kernel_rfl) (by kernel_rfl) (fun _ _ _ h => h) (by rfl) (by assumption) ?_ ?_; rotate_left; (intro W hW; (try dsimp only at hW); go_simp; try with_reducible rfl); (try simp only [Act.put, List.setIfInBounds_toArray, List.set_cons_zero, List.set_cons_succ]))
                (refine takeW (i := 1) (v := ?_) rfl (by kernel_rfl) (by kernel_rfl) (by kernel_rfl) (fun _ _ _ h => h) (by rfl) (by assumption) ?_ ?_; rotate_left; (intro W hW; (try dsimp only at hW); go_simp; try with_reducible rfl); (try simp only [Act.put, List.setIfInBounds_toArray, List.set_cons_zero, List.set_cons_succ]))
                (refine takeW (i := 2) (v := ?_) rfl (by kernel_rfl) (by kernel_rfl) (by kernel_rfl) (fun _ _ _ h => h) (by rfl) (by assumption) ?_ ?_; rotate_left; (intro W hW; (try dsimp only at hW); go_simp; try with_reducible rfl); (try simp only [Act.put, List.setIfInBounds_toArray, List.set_cons_zero, List.set_cons_succ]))
                (refine takeW (i := 3) (v := ?_) rfl (by kernel_rfl) (by kernel_rfl) (by kernel_rfl) (fun _ _ _ h => h) (by rfl) (by assumption) ?_ ?_; rotate_left; (intro W hW; (try dsimp only at hW); go_simp; try with_reducible rfl); (try simp only [Act.put, List.setIfInBounds_toArray, List.set_cons_zero, List.set_cons_succ]))
                (refine takeW (i := 4) (v := ?_) rfl (by kernel_rfl) (by kernel_rfl) (by kernel_rfl) (fun _ _ _ h => h) (by rfl) (by assumption) ?_ ?_; rotate_left; (intro W hW; (try dsimp only at hW); go_simp; try with_reducible rfl); (try simp only [Act.put, List.setIfInBounds_toArray, List.set_cons_zero, List.set_cons_succ]))
                (refine takeW (i := 5) (v := ?_) rfl (by kernel_rfl) (by kernel_rfl) (by kernel_rfl) (fun _ _ _ h => h) (by rfl) (by assumption) ?_ ?_; rotate_left; (intro W hW; (try dsimp only at hW); go_simp; try with_reducible rfl); (try simp only [Act.put, List.setIfInBounds_toArray, List.set_cons_zero, List.set_cons_succ]))
                (refine takeW (i := 6) (v := ?_) rfl (by kernel_rfl) (by kernel_rfl) (by kernel_rfl) (fun _ _ _ h => h) (by rfl) (by assumption) ?_ ?_; rotate_left; (intro W hW; (try dsimp only at hW); go_simp; try with_reducible rfl); (try simp only [Act.put, List.setIfInBounds_toArray, List.set_cons_zero, List.set_cons_succ]))
                (refine takeW (i := 7) (v := ?_) rfl (by kernel_rfl) (by kernel_rfl) (by kernel_rfl) (fun _ _ _ h => h) (by rfl) (by assumption) ?_ ?_; rotate_left; (intro W hW; (try dsimp only at hW); go_simp; try with_reducible rfl); (try simp only [Act.put, List.setIfInBounds_toArray, List.set_cons_zero, List.set_cons_succ]))
                (refine takeW (i := 8) (v := ?_) rfl (by kernel_rfl) (by kernel_rfl) (by kernel_rfl) (fun _ _ _ h => h) (by rfl) (by assumption) ?_ ?_; rotate_left; (intro W hW; (try dsimp only at hW); go_simp; try with_reducible rfl); (try simp only [Act.put, List.setIfInBounds_toArray, List.set_cons_zero, List.set_cons_succ]))
                refine takeC2 (i := 9) (j := 13) rfl rfl (by kernel_rfl) (by rfl) (by rfl) (fun K hK => ?_) (fun K hK => ?_)
                · go_simp; ((with_reducible refine (hcon _ hHeld.2.2.2.2.2.2.2.2.2.2.2).mono ?_); rintro e W9 ⟨⟨⟨x0, x1, xa, xc, xl⟩, rfl, hcu, hx0, hx1, hx2, hfr⟩, hb⟩; simp only at hx0 hx1 hx2 hfr; have hx0 := hx0.symm; have hx1 := hx1.symm; have hx2 := hx2.symm; subst hx0 hx1 hx2; unfold clv; have hB : Below w8.heap.size w8 W9 := hHeld.2.2.2.2.2.2.2.2.2.2.2.trans (hb.mono hHeld.2.2.2.2.2.2.2.2.2.2.2.size); have HG := Lib.hid hcu; have HF : Hid (∀ p, xa = some p → w8.heap.size ≤ p.block) := fun p hp => Nat.le_trans hHeld.2.2.2.2.2.2.2.2.2.2.2.size (hfr p hp); (try have HNE : Hid (vl = [] ∨ ∀ p, xa = some p → p.block ≠ KB) := Or.inr (fun p hp => by have := hfr p hp; have := HK.out.lt; omega)); (try replace HK := Lib.hid (HK.out.keep hb)); have hs : W9.cell? ⟨w.heap.size, 0, none⟩ = some (.int .i64 (n : Int)) ∧ W9.cell? ⟨w.heap.size, 1, none⟩ = some (.int .i64 slot) ∧ W9.cell? ⟨w.heap.size, 2, none⟩ = some (.int .i64 gap) ∧ W9.cell? ⟨w.heap.size, 3, none⟩ = some (.int .i64 win) ∧ W9.cell? ⟨w.heap.size, 4, none⟩ = some (.int .i64 drift) ∧ W9.cell? ⟨w.heap.size, 5, none⟩ = some (.int .i64 delay) ∧ W9.cell? ⟨w.heap.size, 6, none⟩ = some (.slice ca cl.length cc) ∧ W9.cell? ⟨w.heap.size, 7, none⟩ = some (.slice ma ml.length mc) ∧ W9.cell? ⟨g, j * 3, none⟩ = some (.int .i64 (sk slot s0 dr j k)) ∧ W9.cell? ⟨g, j * 3 + 1, none⟩ = some (.int .i64 (k : Int)) ∧ W9.cell? ⟨g, j * 3 + 2, none⟩ = some (.slice a0 (dv slot s0 dr j k).length c0) ∧ Below w8.heap.size w8 W9 := ⟨keepCell hB cm_0, keepCell hB cm_1, keepCell hB cm_2, keepCell hB cm_3, keepCell hB cm_4, keepCell hB cm_5, keepCell hB cm_6, keepCell hB cm_7, keepCell hB e0, keepCell hB e1, keepCell hB e2, hB⟩; clear hb hcu hfr hHeld; clear hB); refine hK.out _ _ hs (fun hHeld => ?_); clear hK K
                  (refine takeW (i := 10) (v := ?_) rfl (by kernel_rfl) (by kernel_rfl) (by kernel_rfl) (fun _ _ _ h => h) (by rfl) (by assumption) ?_ ?_; rotate_left; (intro W hW; (try dsimp only at hW); go_simp; try with_reducible rfl); (try simp only [Act.put, List.setIfInBounds_toArray, List.set_cons_zero, List.set_cons_succ]))
                  (refine takeW (i := 11) (v := ?_) rfl (by kernel_rfl) (by kernel_rfl) (by kernel_rfl) (fun _ _ _ h => h) (by rfl) (by assumption) ?_ ?_; rotate_left; (intro W hW; (try dsimp only at hW); go_simp; try with_reducible rfl); (try simp only [Act.put, List.setIfInBounds_toArray, List.set_cons_zero, List.set_cons_succ]))
                  (refine takeW (i := 12) (v := ?_) rfl (by kernel_rfl) (by kernel_rfl) (by kernel_rfl) (fun _ _ _ h => h) (by rfl) (by assumption) ?_ ?_; rotate_left; (intro W hW; (try dsimp only at hW); go_simp; try with_reducible rfl); (try simp only [Act.put, List.setIfInBounds_toArray, List.set_cons_zero, List.set_cons_succ]))
                  (refine takeC (i := 13) rfl (by kernel_rfl) (by rfl) (fun K hK => ?_); go_simp; (have HK : Hid (Blk (W9.alloc (.cells #[.int .i64 0, .int .i64 0, .slice none 0 0] 28)) W9.heap.size 28 #[.int .i64 0, .int .i64 0, .slice none 0 0]) := (Blk.new' rfl : Blk _ _ _ _); have hb : Below W9.heap.size W9 (W9.alloc (.cells #[.int .i64 0, .int .i64 0, .slice none 0 0] 28)) := below1 _ _; have hKlo : w8.heap.size ≤ W9.heap.size := hHeld.2.2.2.2.2.2.2.2.2.2.2.size; (try have HNE := Lib.hid (GoodCk.apart (b := W9.heap.size) HG.out (Nat.le_refl _))); (try replace HG := Lib.hid (HG.out.below hb)); have hB : Below w8.heap.size w8 (W9.alloc (.cells #[.int .i64 0, .int .i64 0, .slice none 0 0] 28)) := hHeld.2.2.2.2.2.2.2.2.2.2.2.trans (hb.mono hHeld.2.2.2.2.2.2.2.2.2.2.2.size); clear hb hHeld; generalize W9.heap.size = KB at *; generalize W9.alloc (.cells #[.int .i64 0, .int .i64 0, .slice none 0 0] 28) = W13 at *; have hs : W13.cell? ⟨w.heap.size, 0, none⟩ = some (.int .i64 (n : Int)) ∧ W13.cell? ⟨w.heap.size, 1, none⟩ = some (.int .i64 slot) ∧ W13.cell? ⟨w.heap.size, 2, none⟩ = some (.int .i64 gap) ∧ W13.cell? ⟨w.heap.size, 3, none⟩ = some (.int .i64 win) ∧ W13.cell? ⟨w.heap.size, 4, none⟩ = some (.int .i64 drift) ∧ W13.cell? ⟨w.heap.size, 5, none⟩ = some (.int .i64 delay) ∧ W13.cell? ⟨w.heap.size, 6, none⟩ = some (.slice ca cl.length cc) ∧ W13.cell? ⟨w.heap.size, 7, none⟩ = some (.slice ma ml.length mc) ∧ W13.cell? ⟨g, j * 3, none⟩ = some (.int .i64 (sk slot s0 dr j k)) ∧ W13.cell? ⟨g, j * 3 + 1, none⟩ = some (.int .i64 (k : Int)) ∧ W13.cell? ⟨g, j * 3 + 2, none⟩ = some (.slice a0 (dv slot s0 dr j k).length c0) ∧ Below w8.heap.size w8 W13 := ⟨keepCell hB cm_0, keepCell hB cm_1, keepCell hB cm_2, keepCell hB cm_3, keepCell hB cm_4, keepCell hB cm_5, keepCell hB cm_6, keepCell hB cm_7, keepCell hB e0, keepCell hB e1, keepCell hB e2, hB⟩; clear hB); refine hK.out _ _ hs (fun hHeld => ?_); clear hK K; (try simp only [Act.put, List.setIfInBounds_toArray, List.set_cons_zero, List.set_cons_succ]))
                  (refine takeC (i := 14) rfl (by kernel_rfl) (by rfl) (fun K hK => ?_); obtain ⟨k0, k1, k2⟩ := HK.out.three; have fk0 := HK.out.frozen 0; have fk1 := HK.out.frozen 1; have fk2 := HK.out.frozen 2; go_simp; (have HKX : Hid (Blk (((W13.setCell ⟨KB, 0, none⟩ (.int .i64 v0)).setCell ⟨KB, 1, none⟩ (.int .i64 v1)).setCell ⟨KB, 2, none⟩ (.slice xa vl.length xc)) KB 28 #[.int .i64 v0, .int .i64 v1, .slice xa vl.length xc]) := (by show Blk _ _ _ _; simpa using ((HK.out.set 0 (.int .i64 v0)).set 1 (.int .i64 v1)).set 2 (.slice xa vl.length xc)); have HGX := Lib.hid (GoodCk.far3' HG.out HNE.out (.int .i64 v0) (.int .i64 v1) (.slice xa vl.length xc)); have hB : Below w8.heap.size w8 (((W13.setCell ⟨KB, 0, none⟩ (.int .i64 v0)).setCell ⟨KB, 1, none⟩ (.int .i64 v1)).setCell ⟨KB, 2, none⟩ (.slice xa vl.length xc)) := ((hHeld.2.2.2.2.2.2.2.2.2.2.2.setCell (p := ⟨KB, 0, none⟩) hKlo _).setCell (p := ⟨KB, 1, none⟩) hKlo _).setCell (p := ⟨KB, 2, none⟩) hKlo _; clear k0 k1 k2 fk0 fk1 fk2 hHeld HK HG HNE; generalize (((W13.setCell ⟨KB, 0, none⟩ (.int .i64 v0)).setCell ⟨KB, 1, none⟩ (.int .i64 v1)).setCell ⟨KB, 2, none⟩ (.slice xa vl.length xc)) = W14 at *; have HBE := Lib.hid hB; have hs : W14.cell? ⟨w.heap.size, 0, none⟩ = some (.int .i64 (n : Int)) ∧ W14.cell? ⟨w.heap.size, 1, none⟩ = some (.int .i64 slot) ∧ W14.cell? ⟨w.heap.size, 2, none⟩ = some (.int .i64 gap) ∧ W14.cell? ⟨w.heap.size, 3, none⟩ = some (.int .i64 win) ∧ W14.cell? ⟨w.heap.size, 4, none⟩ = some (.int .i64 drift) ∧ W14.cell? ⟨w.heap.size, 5, none⟩ = some (.int .i64 delay) ∧ W14.cell? ⟨w.heap.size, 6, none⟩ = some (.slice ca cl.length cc) ∧ W14.cell? ⟨w.heap.size, 7, none⟩ = some (.slice ma ml.length mc) ∧ W14.cell? ⟨g, j * 3, none⟩ = some (.int .i64 (sk slot s0 dr j k)) ∧ W14.cell? ⟨g, j * 3 + 1, none⟩ = some (.int .i64 (k : Int)) ∧ W14.cell? ⟨g, j * 3 + 2, none⟩ = some (.slice a0 (dv slot s0 dr j k).length c0) ∧ Below w8.heap.size w8 W14 := ⟨keepCell hB cm_0, keepCell hB cm_1, keepCell hB cm_2, keepCell hB cm_3, keepCell hB cm_4, keepCell hB cm_5, keepCell hB cm_6, keepCell hB cm_7, keepCell hB e0, keepCell hB e1, keepCell hB e2, hB⟩; clear hB); refine hK.out _ _ hs (fun hHeld => ?_); clear hK K)
                  (refine takeW (i := 15) (v := ?_) rfl (by kernel_rfl) (by kernel_rfl) (by kernel_rfl) (fun _ _ _ h => h) (by rfl) (by assumption) ?_ ?_; rotate_left; (intro W hW; (try dsimp only at hW); go_simp; try with_reducible rfl); (try simp only [Act.put, List.setIfInBounds_toArray, List.set_cons_zero, List.set_cons_succ]))
                  refine wpAnyH_done (by kernel_rfl) ?_ _
                  go_wp2_with fail
                  go_meet
                  exact ⟨rfl, KB, xa, xc, rfl, ⟨HKX.out, HGX.out, HF.out, HBE.out, hKlo⟩⟩
                · go_simp; (have HK : Hid (Blk (Wd.alloc (.cells #[.int .i64 0, .int .i64 0, .slice none 0 0] 28)) Wd.heap.size 28 #[.int .i64 0, .int .i64 0, .slice none 0 0]) := (Blk.new' rfl : Blk _ _ _ _); have hb : Below Wd.heap.size Wd (Wd.alloc (.cells #[.int .i64 0, .int .i64 0, .slice none 0 0] 28)) := below1 _ _; have hKlo : w8.heap.size ≤ Wd.heap.size := hHeld.2.2.2.2.2.2.2.2.2.2.2.size; (try have HNE := Lib.hid (GoodCk.apart (b := Wd.heap.size) HG.out (Nat.le_refl _))); (try replace HG := Lib.hid (HG.out.below hb)); have hB : Below w8.heap.size w8 (Wd.alloc (.cells #[.int .i64 0, .int .i64 0, .slice none 0 0] 28)) := hHeld.2.2.2.2.2.2.2.2.2.2.2.trans (hb.mono hHeld.2.2.2.2.2.2.2.2.2.2.2.size); clear hb hHeld; generalize Wd.heap.size = KB at *; generalize Wd.alloc (.cells #[.int .i64 0, .int .i64 0, .slice none 0 0] 28) = W13 at *; have hs : W13.cell? ⟨w.heap.size, 0, none⟩ = some (.int .i64 (n : Int)) ∧ W13.cell? ⟨w.heap.size, 1, none⟩ = some (.int .i64 slot) ∧ W13.cell? ⟨w.heap.size, 2, none⟩ = some (.int .i64 gap) ∧ W13.cell? ⟨w.heap.size, 3, none⟩ = some (.int .i64 win) ∧ W13.cell? ⟨w.heap.size, 4, none⟩ = some (.int .i64 drift) ∧ W13.cell? ⟨w.heap.size, 5, none⟩ = some (.int .i64 delay) ∧ W13.cell? ⟨w.heap.size, 6, none⟩ = some (.slice ca cl.length cc) ∧ W13.cell? ⟨w.heap.size, 7, none⟩ = some (.slice ma ml.length mc) ∧ W13.cell? ⟨g, j * 3, none⟩ = some (.int .i64 (sk slot s0 dr j k)) ∧ W13.cell? ⟨g, j * 3 + 1, none⟩ = some (.int .i64 (k : Int)) ∧ W13.cell? ⟨g, j * 3 + 2, none⟩ = some (.slice a0 (dv slot s0 dr j k).length c0) ∧ Below w8.heap.size w8 W13 := ⟨keepCell hB cm_0, keepCell hB cm_1, keepCell hB cm_2, keepCell hB cm_3, keepCell hB cm_4, keepCell hB cm_5, keepCell hB cm_6, keepCell hB cm_7, keepCell hB e0, keepCell hB e1, keepCell hB e2, hB⟩; clear hB); refine hK.out _ _ hs (fun hHeld => ?_); clear hK K; (try simp only [Act.put, List.setIfInBounds_toArray, List.set_cons_zero, List.set_cons_succ])
                  (refine takeC (i := 9) rfl (by kernel_rfl) (by rfl) (fun K hK => ?_); go_simp; ((with_reducible refine (hcon _ hHeld.2.2.2.2.2.2.2.2.2.2.2).mono ?_); rintro e W9 ⟨⟨⟨x0, x1, xa, xc, xl⟩, rfl, hcu, hx0, hx1, hx2, hfr⟩, hb⟩; simp only at hx0 hx1 hx2 hfr; have hx0 := hx0.symm; have hx1 := hx1.symm; have hx2 := hx2.symm; subst hx0 hx1 hx2; unfold clv; have hB : Below w8.heap.size w8 W9 := hHeld.2.2.2.2.2.2.2.2.2.2.2.trans (hb.mono hHeld.2.2.2.2.2.2.2.2.2.2.2.size); have HG := Lib.hid hcu; have HF : Hid (∀ p, xa = some p → w8.heap.size ≤ p.block) := fun p hp => Nat.le_trans hHeld.2.2.2.2.2.2.2.2.2.2.2.size (hfr p hp); (try have HNE : Hid (vl = [] ∨ ∀ p, xa = some p → p.block ≠ KB) := Or.inr (fun p hp => by have := hfr p hp; have := HK.out.lt; omega)); (try replace HK := Lib.hid (HK.out.keep hb)); have hs : W9.cell? ⟨w.heap.size, 0, none⟩ = some (.int .i64 (n : Int)) ∧ W9.cell? ⟨w.heap.size, 1, none⟩ = some (.int .i64 slot) ∧ W9.cell? ⟨w.heap.size, 2, none⟩ = some (.int .i64 gap) ∧ W9.cell? ⟨w.heap.size, 3, none⟩ = some (.int .i64 win) ∧ W9.cell? ⟨w.heap.size, 4, none⟩ = some (.int .i64 drift) ∧ W9.cell? ⟨w.heap.size, 5, none⟩ = some (.int .i64 delay) ∧ W9.cell? ⟨w.heap.size, 6, none⟩ = some (.slice ca cl.length cc) ∧ W9.cell? ⟨w.heap.size, 7, none⟩ = some (.slice ma ml.length mc) ∧ W9.cell? ⟨g, j * 3, none⟩ = some (.int .i64 (sk slot s0 dr j k)) ∧ W9.cell? ⟨g, j * 3 + 1, none⟩ = some (.int .i64 (k : Int)) ∧ W9.cell? ⟨g, j * 3 + 2, none⟩ = some (.slice a0 (dv slot s0 dr j k).length c0) ∧ Below w8.heap.size w8 W9 := ⟨keepCell hB cm_0, keepCell hB cm_1, keepCell hB cm_2, keepCell hB cm_3, keepCell hB cm_4, keepCell hB cm_5, keepCell hB cm_6, keepCell hB cm_7, keepCell hB e0, keepCell hB e1, keepCell hB e2, hB⟩; clear hb hcu hfr hHeld; clear hB); refine hK.out _ _ hs (fun hHeld => ?_); clear hK K)
                  (refine takeW (i := 10) (v := ?_) rfl (by kernel_rfl) (by kernel_rfl) (by kernel_rfl) (fun _ _ _ h => h) (by rfl) (by assumption) ?_ ?_; rotate_left; (intro W hW; (try dsimp only at hW); go_simp; try with_reducible rfl); (try simp only [Act.put, List.setIfInBounds_toArray, List.set_cons_zero, List.set_cons_succ]))
                  (refine takeW (i := 11) (v := ?_) rfl (by kernel_rfl) (by kernel_rfl) (by kernel_rfl) (fun _ _ _ h => h) (by rfl) (by assumption) ?_ ?_; rotate_left; (intro W hW; (try dsimp only at hW); go_simp; try with_reducible rfl); (try simp only [Act.put, List.setIfInBounds_toArray, List.set_cons_zero, List.set_cons_succ]))
                  (refine takeW (i := 12) (v := ?_) rfl (by kernel_rfl) (by kernel_rfl) (by kernel_rfl) (fun _ _ _ h => h) (by rfl) (by assumption) ?_ ?_; rotate_left; (intro W hW; (try dsimp only at hW); go_simp; try with_reducible rfl); (try simp only [Act.put, List.setIfInBounds_toArray, List.set_cons_zero, List.set_cons_succ]))
                  (refine takeC (i := 14) rfl (by kernel_rfl) (by rfl) (fun K hK => ?_); obtain ⟨k0, k1, k2⟩ := HK.out.three; have fk0 := HK.out.frozen 0; have fk1 := HK.out.frozen 1; have fk2 := HK.out.frozen 2; go_simp; (have HKX : Hid (Blk (((W9.setCell ⟨KB, 0, none⟩ (.int .i64 v0)).setCell ⟨KB, 1, none⟩ (.int .i64 v1)).setCell ⟨KB, 2, none⟩ (.slice xa vl.length xc)) KB 28 #[.int .i64 v0, .int .i64 v1, .slice xa vl.length xc]) := (by show Blk _ _ _ _; simpa using ((HK.out.set 0 (.int .i64 v0)).set 1 (.int .i64 v1)).set 2 (.slice xa vl.length xc)); have HGX := Lib.hid (GoodCk.far3' HG.out HNE.out (.int .i64 v0) (.int .i64 v1) (.slice xa vl.length xc)); have hB : Below w8.heap.size w8 (((W9.setCell ⟨KB, 0, none⟩ (.int .i64 v0)).setCell ⟨KB, 1, none⟩ (.int .i64 v1)).setCell ⟨KB, 2, none⟩ (.slice xa vl.length xc)) := ((hHeld.2.2.2.2.2.2.2.2.2.2.2.setCell (p := ⟨KB, 0, none⟩) hKlo _).setCell (p := ⟨KB, 1, none⟩) hKlo _).setCell (p := ⟨KB, 2, none⟩) hKlo _; clear k0 k1 k2 fk0 fk1 fk2 hHeld HK HG HNE; generalize (((W9.setCell ⟨KB, 0, none⟩ (.int .i64 v0)).setCell ⟨KB, 1, none⟩ (.int .i64 v1)).setCell ⟨KB, 2, none⟩ (.slice xa vl.length xc)) = W14 at *; have HBE := Lib.hid hB; have hs : W14.cell? ⟨w.heap.size, 0, none⟩ = some (.int .i64 (n : Int)) ∧ W14.cell? ⟨w.heap.size, 1, none⟩ = some (.int .i64 slot) ∧ W14.cell? ⟨w.heap.size, 2, none⟩ = some (.int .i64 gap) ∧ W14.cell? ⟨w.heap.size, 3, none⟩ = some (.int .i64 win) ∧ W14.cell? ⟨w.heap.size, 4, none⟩ = some (.int .i64 drift) ∧ W14.cell? ⟨w.heap.size, 5, none⟩ = some (.int .i64 delay) ∧ W14.cell? ⟨w.heap.size, 6, none⟩ = some (.slice ca cl.length cc) ∧ W14.cell? ⟨w.heap.size, 7, none⟩ = some (.slice ma ml.length mc) ∧ W14.cell? ⟨g, j * 3, none⟩ = some (.int .i64 (sk slot s0 dr j k)) ∧ W14.cell? ⟨g, j * 3 + 1, none⟩ = some (.int .i64 (k : Int)) ∧ W14.cell? ⟨g, j * 3 + 2, none⟩ = some (.slice a0 (dv slot s0 dr j k).length c0) ∧ Below w8.heap.size w8 W14 := ⟨keepCell hB cm_0, keepCell hB cm_1, keepCell hB cm_2, keepCell hB cm_3, keepCell hB cm_4, keepCell hB cm_5, keepCell hB cm_6, keepCell hB cm_7, keepCell hB e0, keepCell hB e1, keepCell hB e2, hB⟩; clear hB); refine hK.out _ _ hs (fun hHeld => ?_); clear hK K)
                  (refine takeW (i := 15) (v := ?_) rfl (by kernel_rfl) (by kernel_rfl) (by kernel_rfl) (fun _ _ _ h => h) (by rfl) (by assumption) ?_ ?_; rotate_left; (intro W hW; (try dsimp only at hW); go_simp; try with_reducible rfl); (try simp only [Act.put, List.setIfInBounds_toArray, List.set_cons_zero, List.set_cons_succ]))
                  refine wpAnyH_done (by kernel_rfl) ?_ _
                  go_wp2_with fail
                  go_meet
                  exact ⟨rfl, KB, xa, xc, rfl, ⟨HKX.out, HGX.out, HF.out, HBE.out, hKlo⟩⟩
              case rest =>
                clear cm_0 cm_1 cm_2 cm_3 cm_4 cm_5 cm_6 cm_7 zm
                obtain ⟨rfl, K, xa, xc, rfl, HGO⟩ := hcut
                obtain ⟨hkb, hkg, hkf, hkB, hK0⟩ := HGO.out
                simp only at hkb hkg
                clear e0 e1 e2 hcon HGO
                (try clear hw1)
                replace HA := Lib.hid (HA.out.keep hkB)
                replace HJ := Lib.hid (HJ.out.keep hkB)
                obtain ⟨k0, k1, k2⟩ := hkb.three
                obtain ⟨a0, c0, e0, e1, e2, -, -⟩ := HA.out.get hlt2
                simp only [Nat.lt_irrefl, if_false] at e0 e1 e2
                have f0 := HA.out.fz (j * 3)
                have f1 := HA.out.fz (j * 3 + 1)
                have f2 := HA.out.fz (j * 3 + 2)
                have HA2 := Lib.hid (HA.out.set3 hlt2 hkg (fun p hp => by have := hkf p hp; have := HG8.out; omega))
                have HJ2 : Hid (Bx w (((wc.setCell ⟨g, j * 3, none⟩ (.int .i64 v0)).setCell ⟨g, j * 3 + 1, none⟩ (.int .i64 v1)).setCell ⟨g, j * 3 + 2, none⟩ (.slice xa vl.length xc)) [(w.heap.size, 25, #[.int .i64 (n : Int), .int .i64 slot, .int .i64 gap, .int .i64 win, .int .i64 drift, .int .i64 delay, .slice ca cl.length cc, .slice ma ml.length mc])]) := ((HJ.out.far (by simp; omega) (by simp; omega) _).far (by simp; omega) (by simp; omega) _).far (by simp; omega) (by simp; omega) _
                clear hkg hkf hkB hK0
                have cm_0 : wc.cell? ⟨w.heap.size, 0, none⟩ = some (.int .i64 (n : Int)) := HJ.out.at 0 0 rfl rfl; have cm_1 : wc.cell? ⟨w.heap.size, 1, none⟩ = some (.int .i64 slot) := HJ.out.at 0 1 rfl rfl; have cm_2 : wc.cell? ⟨w.heap.size, 2, none⟩ = some (.int .i64 gap) := HJ.out.at 0 2 rfl rfl; have cm_3 : wc.cell? ⟨w.heap.size, 3, none⟩ = some (.int .i64 win) := HJ.out.at 0 3 rfl rfl; have cm_4 : wc.cell? ⟨w.heap.size, 4, none⟩ = some (.int .i64 drift) := HJ.out.at 0 4 rfl rfl; have cm_5 : wc.cell? ⟨w.heap.size, 5, none⟩ = some (.int .i64 delay) := HJ.out.at 0 5 rfl rfl; have cm_6 : wc.cell? ⟨w.heap.size, 6, none⟩ = some (.slice ca cl.length cc) := HJ.out.at 0 6 rfl rfl; have cm_7 : wc.cell? ⟨w.heap.size, 7, none⟩ = some (.slice ma ml.length mc) := HJ.out.at 0 7 rfl rfl; have zm : w.heap.size < wc.heap.size := HJ.out.lt 0 rfl
                go_upto_region 26 with fail
                clear cm_0 cm_1 cm_2 cm_3 cm_4 cm_5 cm_6 cm_7 zm
                clear k0 k1 k2 e0 e1 e2 f0 f1 f2 HA HJ
                generalize ((wc.setCell ⟨g, j * 3, none⟩ (.int .i64 v0)).setCell ⟨g, j * 3 + 1, none⟩ (.int .i64 v1)).setCell ⟨g, j * 3 + 2, none⟩ (.slice xa vl.length xc) = wd at *
                have HA := HA2
                have HJ := HJ2
                clear HA2 HJ2
                have cm_0 : wd.cell? ⟨w.heap.size, 0, none⟩ = some (.int .i64 (n : Int)) := HJ.out.at 0 0 rfl rfl; have cm_1 : wd.cell? ⟨w.heap.size, 1, none⟩ = some (.int .i64 slot) := HJ.out.at 0 1 rfl rfl; have cm_2 : wd.cell? ⟨w.heap.size, 2, none⟩ = some (.int .i64 gap) := HJ.out.at 0 2 rfl rfl; have cm_3 : wd.cell? ⟨w.heap.size, 3, none⟩ = some (.int .i64 win) := HJ.out.at 0 3 rfl rfl; have cm_4 : wd.cell? ⟨w.heap.size, 4, none⟩ = some (.int .i64 drift) := HJ.out.at 0 4 rfl rfl; have cm_5 : wd.cell? ⟨w.heap.size, 5, none⟩ = some (.int .i64 delay) := HJ.out.at 0 5 rfl rfl; have cm_6 : wd.cell? ⟨w.heap.size, 6, none⟩ = some (.slice ca cl.length cc) := HJ.out.at 0 6 rfl rfl; have cm_7 : wd.cell? ⟨w.heap.size, 7, none⟩ = some (.slice ma ml.length mc) := HJ.out.at 0 7 rfl rfl; have zm : w.heap.size < wd.heap.size := HJ.out.lt 0 rfl
                go_wp2
                go_roundw
                case rel => exact ⟨j + 1, by omega, by go_num, HA.out.congr (fun i _ => upto_succ (A := fun t => Vk slot s0 dr k t) (B := fun t => (sk slot s0 dr t k, (k : Int), dv slot s0 dr t k)) (V := (v0, v1, vl)) HV.out i), HJ⟩
                case measure => simp [intOf]; omega
            · have hjn : j = n := by omega
              have HA2 : Hid (At wr g n (Vk slot s0 dr k)) := HA.out.congr fun i hi => by rw [if_pos (by omega)]
              have hlj : ¬ j < n := by omega
              clear HA
              have HA := HA2
              clear HA2
              generalize wr = w10 at *
              have cm_0 : w10.cell? ⟨w.heap.size, 0, none⟩ = some (.int .i64 (n : Int)) := HJ.out.at 0 0 rfl rfl; have cm_1 : w10.cell? ⟨w.heap.size, 1, none⟩ = some (.int .i64 slot) := HJ.out.at 0 1 rfl rfl; have cm_2 : w10.cell? ⟨w.heap.size, 2, none⟩ = some (.int .i64 gap) := HJ.out.at 0 2 rfl rfl; have cm_3 : w10.cell? ⟨w.heap.size, 3, none⟩ = some (.int .i64 win) := HJ.out.at 0 3 rfl rfl; have cm_4 : w10.cell? ⟨w.heap.size, 4, none⟩ = some (.int .i64 drift) := HJ.out.at 0 4 rfl rfl; have cm_5 : w10.cell? ⟨w.heap.size, 5, none⟩ = some (.int .i64 delay) := HJ.out.at 0 5 rfl rfl; have cm_6 : w10.cell? ⟨w.heap.size, 6, none⟩ = some (.slice ca cl.length cc) := HJ.out.at 0 6 rfl rfl; have cm_7 : w10.cell? ⟨w.heap.size, 7, none⟩ = some (.slice ma ml.length mc) := HJ.out.at 0 7 rfl rfl; have zm : w.heap.size < w10.heap.size := HJ.out.lt 0 rfl
              go_wp2_with fail
              clear cm_0 cm_1 cm_2 cm_3 cm_4 cm_5 cm_6 cm_7 zm
              clear hlt2 hjn hlj hj
              go_loopw [129] (fun i wr => ∃ j : Nat, j ≤ n ∧ i = .int .i64 j ∧ Hid (At wr g n (fun t => if t < j then Qk n slot s0 dr (k + 1) t else Vk slot s0 dr k t)) ∧ Hid (Bx w wr [(w.heap.size, 25, #[.int .i64 (n : Int), .int .i64 slot, .int .i64 gap, .int .i64 win, .int .i64 drift, .int .i64 delay, .slice ca cl.length cc, .slice ma ml.length mc])])) (fun i _ => n - (intOf i).toNat)
              case atStart => exact ⟨0, Nat.zero_le _, rfl, HA.out.congr (fun i _ => by simp), HJ⟩
              case round =>
                clear HJ HA
                obtain ⟨j, hj, rfl, HA, HJ⟩ := hrel
                by_cases hlt2 : j < n
                · skip
                  generalize wr = w8 at *
                  have HG8 : Hid (g < w8.heap.size) := HA.out.lt
                  have cm_0 : w8.cell? ⟨w.heap.size, 0, none⟩ = some (.int .i64 (n : Int)) := HJ.out.at 0 0 rfl rfl; have cm_1 : w8.cell? ⟨w.heap.size, 1, none⟩ = some (.int .i64 slot) := HJ.out.at 0 1 rfl rfl; have cm_2 : w8.cell? ⟨w.heap.size, 2, none⟩ = some (.int .i64 gap) := HJ.out.at 0 2 rfl rfl; have cm_3 : w8.cell? ⟨w.heap.size, 3, none⟩ = some (.int .i64 win) := HJ.out.at 0 3 rfl rfl; have cm_4 : w8.cell? ⟨w.heap.size, 4, none⟩ = some (.int .i64 drift) := HJ.out.at 0 4 rfl rfl; have cm_5 : w8.cell? ⟨w.heap.size, 5, none⟩ = some (.int .i64 delay) := HJ.out.at 0 5 rfl rfl; have cm_6 : w8.cell? ⟨w.heap.size, 6, none⟩ = some (.slice ca cl.length cc) := HJ.out.at 0 6 rfl rfl; have cm_7 : w8.cell? ⟨w.heap.size, 7, none⟩ = some (.slice ma ml.length mc) := HJ.out.at 0 7 rfl rfl; have zm : w.heap.size < w8.heap.size := HJ.out.lt 0 rfl
                  go_upto_if 134 with (fail)
                  go_cut [20] from 135 to 151 (fun d wx => d = .int .i64 (dr k j) ∧ Hid (Below w8.heap.size w8 wx))
                  case first =>
                    by_cases hpos : 0 < Ld
                    rotate_left
                    · obtain rfl : Ld = 0 := by omega
                      have hd0 := HDR.out k j
                      simp only [if_true] at hd0
                      go_wp2_with fail
                      go_meet
                      exact ⟨by rw [hd0], Below.refl _ _⟩
                    obtain ⟨x, hx⟩ : ∃ x, ld[(k * n + j) % Ld]? = some x := ⟨_, List.getElem?_eq_getElem (by rw [HLd.out]; exact Nat.mod_lt _ hpos)⟩
                    have hxb := HLD.out.2 x (List.mem_of_getElem? hx)
                    obtain ⟨b, off, rfl, hbl, hcc⟩ := (HLD.out.1.below HJ.out.2).row (by rintro rfl; simp at hx)
                    have e4 : w8.cell? ⟨b, off + (k * n + j) % Ld, none⟩ = some (.int .i8 x) := hcc.one (f := fun x => .int .i8 x) hx
                    have hx2 : dr k j = x.tmod (drift + 1) := by have := HDR.out k j; rw [if_neg (by omega), List.getD_eq_getElem?_getD, hx] at this; exact this
                    have hob := HR.out.hdr k j
                    have hkn : k * n ≤ 8 * 8 := Nat.mul_le_mul (by omega) hn8
                    generalize hkn1 : k * n = kn at *
                    have hw1 : IntKind.i64.wrap ((k : Int) * (n : Int)) = (kn : Int) := by rw [← Int.natCast_mul, hkn1]; exact IntWalk.i64_in _ (by omega)
                    generalize hq1 : kn + j = q at *
                    have hw2 : IntKind.i64.wrap ((kn : Int) + (j : Int)) = (q : Int) := by rw [← Int.natCast_add, hq1]; exact IntWalk.i64_in _ (by omega)
                    have hrm : (q : Int).tmod (Ld : Int) = ((q % Ld : Nat) : Int) := by rw [Int.tmod_eq_emod_of_nonneg (by omega)]; rfl
                    have hrl : q % Ld < Ld := Nat.mod_lt _ hpos
                    have hw3 : IntKind.i64.wrap x = x := IntWalk.i64_in _ (by omega)
                    have hw4 : IntKind.i64.wrap (drift + 1) = drift + 1 := IntWalk.i64_in _ (by omega)
                    have hx3 := hx2.symm
                    generalize dr k j = y at *
                    have hz1 : ¬ Ld = 0 := by omega
                    have hz2 : ¬ drift + 1 = 0 := by omega
                    have hz3 : ((Ld : Int) == 0) = false := by simpa using hz1
                    have hz4 : ((drift + 1) == 0) = false := by simpa using hz2
                    generalize q % Ld = r at *
                    clear hx hx2 hcc hbl hkn1 hq1
                    go_upto_region 32 with fail
                    go_quiet (fail)
                    go_wp2_with fail
                    go_meet
                    exact ⟨rfl, below_drewN (Below.refl _ _) _⟩
                  case rest =>
                    clear cm_0 cm_1 cm_2 cm_3 cm_4 cm_5 cm_6 cm_7 zm
                    obtain ⟨rfl, HBQ⟩ := hcut
                    replace HA := Lib.hid (HA.out.keep HBQ.out)
                    replace HJ := Lib.hid (HJ.out.keep HBQ.out)
                    clear HBQ HG8
                    generalize wc = w8 at *
                    have HG8 : Hid (g < w8.heap.size) := HA.out.lt
                    obtain ⟨a0, c0, e0, e1, e2, hgd, -⟩ := HA.out.get hlt2
                    simp only [Nat.lt_irrefl, if_false, Vk] at e0 e1 e2 hgd
                    have hob := HR.out.hdr k j
                    have hcon : ∀ W, Below w8.heap.size w8 W → Calls Try.prog 16 #[.agg #[.int .i64 (n : Int), .int .i64 slot, .int .i64 gap, .int .i64 win, .int .i64 drift, .int .i64 delay, .slice ca cl.length cc, .slice ma ml.length mc], .agg #[.int .i64 (sk slot s0 dr j k), .int .i64 (k : Int), .slice a0 (dv slot s0 dr j (k + 1)).length c0], .int .i64 (dr k j)] W fun e w' => CkOut W (Qk n slot s0 dr (k + 1) j, 0) e w' := fun W hW => by
                      have := HNX.out ⟨sk slot s0 dr j k, k, a0, c0, dv slot s0 dr j (k + 1)⟩ (dr k j) W (HJ.out.2.trans (hW.mono HJ.out.2.size)) (hgd.below hW) (by unfold I64; omega)
                      rw [HS3.out n s0 dr HM.out rfl HR.out j k hlt a0 c0] at this
                      exact this
                    have hdl := Ints.len hgd.1
                    simp only at hdl
                    clear hgd hob
                    obtain ⟨⟨v0, v1, vl⟩, hv⟩ : ∃ v, v = Qk n slot s0 dr (k + 1) j := ⟨_, rfl⟩
                    rw [← hv] at hcon
                    have HV := Lib.hid hv
                    clear hv
                    have cm_0 : w8.cell? ⟨w.heap.size, 0, none⟩ = some (.int .i64 (n : Int)) := HJ.out.at 0 0 rfl rfl; have cm_1 : w8.cell? ⟨w.heap.size, 1, none⟩ = some (.int .i64 slot) := HJ.out.at 0 1 rfl rfl; have cm_2 : w8.cell? ⟨w.heap.size, 2, none⟩ = some (.int .i64 gap) := HJ.out.at 0 2 rfl rfl; have cm_3 : w8.cell? ⟨w.heap.size, 3, none⟩ = some (.int .i64 win) := HJ.out.at 0 3 rfl rfl; have cm_4 : w8.cell? ⟨w.heap.size, 4, none⟩ = some (.int .i64 drift) := HJ.out.at 0 4 rfl rfl; have cm_5 : w8.cell? ⟨w.heap.size, 5, none⟩ = some (.int .i64 delay) := HJ.out.at 0 5 rfl rfl; have cm_6 : w8.cell? ⟨w.heap.size, 6, none⟩ = some (.slice ca cl.length cc) := HJ.out.at 0 6 rfl rfl; have cm_7 : w8.cell? ⟨w.heap.size, 7, none⟩ = some (.slice ma ml.length mc) := HJ.out.at 0 7 rfl rfl; have zm : w.heap.size < w8.heap.size := HJ.out.lt 0 rfl
                    go_upto_region 33 with fail
                    go_cut [21, 22] from 152 to 161 (fun s e wx => e = .int .i64 0 ∧ ∃ K a c, s = .pointer (some ⟨K, 0, none⟩) ∧ Hid (Got w8 (v0, v1, vl) wx K a c))
                    case first =>
                      have H1 : w8.drew.cell? ⟨w.heap.size, 0, none⟩ = some (.int .i64 (n : Int)) ∧ w8.drew.cell? ⟨w.heap.size, 1, none⟩ = some (.int .i64 slot) ∧ w8.drew.cell? ⟨w.heap.size, 2, none⟩ = some (.int .i64 gap) ∧ w8.drew.cell? ⟨w.heap.size, 3, none⟩ = some (.int .i64 win) ∧ w8.drew.cell? ⟨w.heap.size, 4, none⟩ = some (.int .i64 drift) ∧ w8.drew.cell? ⟨w.heap.size, 5, none⟩ = some (.int .i64 delay) ∧ w8.drew.cell? ⟨w.heap.size, 6, none⟩ = some (.slice ca cl.length cc) ∧ w8.drew.cell? ⟨w.heap.size, 7, none⟩ = some (.slice ma ml.length mc) ∧ w8.drew.cell? ⟨g, j * 3, none⟩ = some (.int .i64 (sk slot s0 dr j k)) ∧ w8.drew.cell? ⟨g, j * 3 + 1, none⟩ = some (.int .i64 (k : Int)) ∧ w8.drew.cell? ⟨g, j * 3 + 2, none⟩ = some (.slice a0 (dv slot s0 dr j (k + 1)).length c0) ∧ Below w8.heap.size w8 w8.drew := ⟨cm_0, cm_1, cm_2, cm_3, cm_4, cm_5, cm_6, cm_7, e0, e1, e2, (Below.refl _ _).drew⟩
                      refine wp_region_held_drew (S := (fun W => W.cell? ⟨w.heap.size, 0, none⟩ = some (.int .i64 (n : Int)) ∧ W.cell? ⟨w.heap.size, 1, none⟩ = some (.int .i64 slot) ∧ W.cell? ⟨w.heap.size, 2, none⟩ = some (.int .i64 gap) ∧ W.cell? ⟨w.heap.size, 3, none⟩ = some (.int .i64 win) ∧ W.cell? ⟨w.heap.size, 4, none⟩ = some (.int .i64 drift) ∧ W.cell? ⟨w.heap.size, 5, none⟩ = some (.int .i64 delay) ∧ W.cell? ⟨w.heap.size, 6, none⟩ = some (.slice ca cl.length cc) ∧ W.cell? ⟨w.heap.size, 7, none⟩ = some (.slice ma ml.length mc) ∧ W.cell? ⟨g, j * 3, none⟩ = some (.int .i64 (sk slot s0 dr j k)) ∧ W.cell? ⟨g, j * 3 + 1, none⟩ = some (.int .i64 (k : Int)) ∧ W.cell? ⟨g, j * 3 + 2, none⟩ = some (.slice a0 (dv slot s0 dr j (k + 1)).length c0) ∧ Below w8.heap.size w8 W)) (by kernel_rfl) (by assumption) (fun hHeld => ?_)
                      generalize w8.drew = Wd at *
                      (refine takeW (i := 0) (v := ?_) rfl (by kernel_rfl) (by kernel_rfl) (by kernel_rfl) (fun _ _ _ h => h) (by rfl) (by assumption) ?_ ?_; rotate_left; (intro W hW; (try dsimp only at hW); go_simp; try with_reducible rfl); (try simp only [Act.put, List.setIfInBounds_toArray, List.set_cons_zero, List.set_cons_succ]))
                      (refine takeW (i := 1) (v := ?_) rfl (by kernel_rfl) (by kernel_rfl) (by kernel_rfl) (fun _ _ _ h => h) (by rfl) (by assumption) ?_ ?_; rotate_left; (intro W hW; (try dsimp only at hW); go_simp; try with_reducible rfl); (try simp only [Act.put, List.setIfInBounds_toArray, List.set_cons_zero, List.set_cons_succ]))
                      (refine takeW (i := 2) (v := ?_) rfl (by kernel_rfl) (by kernel_rfl) (by kernel_rfl) (fun _ _ _ h => h) (by rfl) (by assumption) ?_ ?_; rotate_left; (intro W hW; (try dsimp only at hW); go_simp; try with_reducible rfl); (try simp only [Act.put, List.setIfInBounds_toArray, List.set_cons_zero, List.set_cons_succ]))
                      (refine takeW (i := 3) (v := ?_) rfl (by kernel_rfl) (by kernel_rfl) (by kernel_rfl) (fun _ _ _ h => h) (by rfl) (by assumption) ?_ ?_; rotate_left; (intro W hW; (try dsimp only at hW); go_simp; try with_reducible rfl); (try simp only [Act.put, List.setIfInBounds_toArray, List.set_cons_zero, List.set_cons_succ]))
                      (refine takeW (i := 4) (v := ?_) rfl (by kernel_rfl) (by kernel_rfl) (by kernel_rfl) (fun _ _ _ h => h) (by rfl) (by assumption) ?_ ?_; rotate_left; (intro W hW; (try dsimp only at hW); go_simp; try with_reducible rfl); (try simp only [Act.put, List.setIfInBounds_toArray, List.set_cons_zero, List.set_cons_succ]))
                      (refine takeW (i := 5) (v := ?_) rfl (by kernel_rfl) (by kernel_rfl) (by kernel_rfl) (fun _ _ _ h => h) (by rfl) (by assumption) ?_ ?_; rotate_left; (intro W hW; (try dsimp only at hW); go_simp; try with_reducible rfl); (try simp only [Act.put, List.setIfInBounds_toArray, List.set_cons_zero, List.set_cons_succ]))
                      refine takeC2 (i := 6) (j := 10) rfl rfl (by kernel_rfl) (by rfl) (by rfl) (fun K hK => ?_) (fun K hK => ?_)
                      · go_simp; ((with_reducible refine (hcon _ hHeld.2.2.2.2.2.2.2.2.2.2.2).mono ?_); rintro e W6 ⟨⟨⟨x0, x1, xa, xc, xl⟩, rfl, hcu, hx0, hx1, hx2, hfr⟩, hb⟩; simp only at hx0 hx1 hx2 hfr; have hx0 := hx0.symm; have hx1 := hx1.symm; have hx2 := hx2.symm; subst hx0 hx1 hx2; unfold clv; have hB : Below w8.heap.size w8 W6 := hHeld.2.2.2.2.2.2.2.2.2.2.2.trans (hb.mono hHeld.2.2.2.2.2.2.2.2.2.2.2.size); have HG := Lib.hid hcu; have HF : Hid (∀ p, xa = some p → w8.heap.size ≤ p.block) := fun p hp => Nat.le_trans hHeld.2.2.2.2.2.2.2.2.2.2.2.size (hfr p hp); (try have HNE : Hid (vl = [] ∨ ∀ p, xa = some p → p.block ≠ KB) := Or.inr (fun p hp => by have := hfr p hp; have := HK.out.lt; omega)); (try replace HK := Lib.hid (HK.out.keep hb)); have hs : W6.cell? ⟨w.heap.size, 0, none⟩ = some (.int .i64 (n : Int)) ∧ W6.cell? ⟨w.heap.size, 1, none⟩ = some (.int .i64 slot) ∧ W6.cell? ⟨w.heap.size, 2, none⟩ = some (.int .i64 gap) ∧ W6.cell? ⟨w.heap.size, 3, none⟩ = some (.int .i64 win) ∧ W6.cell? ⟨w.heap.size, 4, none⟩ = some (.int .i64 drift) ∧ W6.cell? ⟨w.heap.size, 5, none⟩ = some (.int .i64 delay) ∧ W6.cell? ⟨w.heap.size, 6, none⟩ = some (.slice ca cl.length cc) ∧ W6.cell? ⟨w.heap.size, 7, none⟩ = some (.slice ma ml.length mc) ∧ W6.cell? ⟨g, j * 3, none⟩ = some (.int .i64 (sk slot s0 dr j k)) ∧ W6.cell? ⟨g, j * 3 + 1, none⟩ = some (.int .i64 (k : Int)) ∧ W6.cell? ⟨g, j * 3 + 2, none⟩ = some (.slice a0 (dv slot s0 dr j (k + 1)).length c0) ∧ Below w8.heap.size w8 W6 := ⟨keepCell hB cm_0, keepCell hB cm_1, keepCell hB cm_2, keepCell hB cm_3, keepCell hB cm_4, keepCell hB cm_5, keepCell hB cm_6, keepCell hB cm_7, keepCell hB e0, keepCell hB e1, keepCell hB e2, hB⟩; clear hb hcu hfr hHeld; clear hB); refine hK.out _ _ hs (fun hHeld => ?_); clear hK K
                        (refine takeW (i := 7) (v := ?_) rfl (by kernel_rfl) (by kernel_rfl) (by kernel_rfl) (fun _ _ _ h => h) (by rfl) (by assumption) ?_ ?_; rotate_left; (intro W hW; (try dsimp only at hW); go_simp; try with_reducible rfl); (try simp only [Act.put, List.setIfInBounds_toArray, List.set_cons_zero, List.set_cons_succ]))
                        (refine takeW (i := 8) (v := ?_) rfl (by kernel_rfl) (by kernel_rfl) (by kernel_rfl) (fun _ _ _ h => h) (by rfl) (by assumption) ?_ ?_; rotate_left; (intro W hW; (try dsimp only at hW); go_simp; try with_reducible rfl); (try simp only [Act.put, List.setIfInBounds_toArray, List.set_cons_zero, List.set_cons_succ]))
                        (refine takeW (i := 9) (v := ?_) rfl (by kernel_rfl) (by kernel_rfl) (by kernel_rfl) (fun _ _ _ h => h) (by rfl) (by assumption) ?_ ?_; rotate_left; (intro W hW; (try dsimp only at hW); go_simp; try with_reducible rfl); (try simp only [Act.put, List.setIfInBounds_toArray, List.set_cons_zero, List.set_cons_succ]))
                        (refine takeC (i := 10) rfl (by kernel_rfl) (by rfl) (fun K hK => ?_); go_simp; (have HK : Hid (Blk (W6.alloc (.cells #[.int .i64 0, .int .i64 0, .slice none 0 0] 28)) W6.heap.size 28 #[.int .i64 0, .int .i64 0, .slice none 0 0]) := (Blk.new' rfl : Blk _ _ _ _); have hb : Below W6.heap.size W6 (W6.alloc (.cells #[.int .i64 0, .int .i64 0, .slice none 0 0] 28)) := below1 _ _; have hKlo : w8.heap.size ≤ W6.heap.size := hHeld.2.2.2.2.2.2.2.2.2.2.2.size; (try have HNE := Lib.hid (GoodCk.apart (b := W6.heap.size) HG.out (Nat.le_refl _))); (try replace HG := Lib.hid (HG.out.below hb)); have hB : Below w8.heap.size w8 (W6.alloc (.cells #[.int .i64 0, .int .i64 0, .slice none 0 0] 28)) := hHeld.2.2.2.2.2.2.2.2.2.2.2.trans (hb.mono hHeld.2.2.2.2.2.2.2.2.2.2.2.size); clear hb hHeld; generalize W6.heap.size = KB at *; generalize W6.alloc (.cells #[.int .i64 0, .int .i64 0, .slice none 0 0] 28) = W10 at *; have hs : W10.cell? ⟨w.heap.size, 0, none⟩ = some (.int .i64 (n : Int)) ∧ W10.cell? ⟨w.heap.size, 1, none⟩ = some (.int .i64 slot) ∧ W10.cell? ⟨w.heap.size, 2, none⟩ = some (.int .i64 gap) ∧ W10.cell? ⟨w.heap.size, 3, none⟩ = some (.int .i64 win) ∧ W10.cell? ⟨w.heap.size, 4, none⟩ = some (.int .i64 drift) ∧ W10.cell? ⟨w.heap.size, 5, none⟩ = some (.int .i64 delay) ∧ W10.cell? ⟨w.heap.size, 6, none⟩ = some (.slice ca cl.length cc) ∧ W10.cell? ⟨w.heap.size, 7, none⟩ = some (.slice ma ml.length mc) ∧ W10.cell? ⟨g, j * 3, none⟩ = some (.int .i64 (sk slot s0 dr j k)) ∧ W10.cell? ⟨g, j * 3 + 1, none⟩ = some (.int .i64 (k : Int)) ∧ W10.cell? ⟨g, j * 3 + 2, none⟩ = some (.slice a0 (dv slot s0 dr j (k + 1)).length c0) ∧ Below w8.heap.size w8 W10 := ⟨keepCell hB cm_0, keepCell hB cm_1, keepCell hB cm_2, keepCell hB cm_3, keepCell hB cm_4, keepCell hB cm_5, keepCell hB cm_6, keepCell hB cm_7, keepCell hB e0, keepCell hB e1, keepCell hB e2, hB⟩; clear hB); refine hK.out _ _ hs (fun hHeld => ?_); clear hK K; (try simp only [Act.put, List.setIfInBounds_toArray, List.set_cons_zero, List.set_cons_succ]))
                        (refine takeC (i := 11) rfl (by kernel_rfl) (by rfl) (fun K hK => ?_); obtain ⟨k0, k1, k2⟩ := HK.out.three; have fk0 := HK.out.frozen 0; have fk1 := HK.out.frozen 1; have fk2 := HK.out.frozen 2; go_simp; (have HKX : Hid (Blk (((W10.setCell ⟨KB, 0, none⟩ (.int .i64 v0)).setCell ⟨KB, 1, none⟩ (.int .i64 v1)).setCell ⟨KB, 2, none⟩ (.slice xa vl.length xc)) KB 28 #[.int .i64 v0, .int .i64 v1, .slice xa vl.length xc]) := (by show Blk _ _ _ _; simpa using ((HK.out.set 0 (.int .i64 v0)).set 1 (.int .i64 v1)).set 2 (.slice xa vl.length xc)); have HGX := Lib.hid (GoodCk.far3' HG.out HNE.out (.int .i64 v0) (.int .i64 v1) (.slice xa vl.length xc)); have hB : Below w8.heap.size w8 (((W10.setCell ⟨KB, 0, none⟩ (.int .i64 v0)).setCell ⟨KB, 1, none⟩ (.int .i64 v1)).setCell ⟨KB, 2, none⟩ (.slice xa vl.length xc)) := ((hHeld.2.2.2.2.2.2.2.2.2.2.2.setCell (p := ⟨KB, 0, none⟩) hKlo _).setCell (p := ⟨KB, 1, none⟩) hKlo _).setCell (p := ⟨KB, 2, none⟩) hKlo _; clear k0 k1 k2 fk0 fk1 fk2 hHeld HK HG HNE; generalize (((W10.setCell ⟨KB, 0, none⟩ (.int .i64 v0)).setCell ⟨KB, 1, none⟩ (.int .i64 v1)).setCell ⟨KB, 2, none⟩ (.slice xa vl.length xc)) = W11 at *; have HBE := Lib.hid hB; have hs : W11.cell? ⟨w.heap.size, 0, none⟩ = some (.int .i64 (n : Int)) ∧ W11.cell? ⟨w.heap.size, 1, none⟩ = some (.int .i64 slot) ∧ W11.cell? ⟨w.heap.size, 2, none⟩ = some (.int .i64 gap) ∧ W11.cell? ⟨w.heap.size, 3, none⟩ = some (.int .i64 win) ∧ W11.cell? ⟨w.heap.size, 4, none⟩ = some (.int .i64 drift) ∧ W11.cell? ⟨w.heap.size, 5, none⟩ = some (.int .i64 delay) ∧ W11.cell? ⟨w.heap.size, 6, none⟩ = some (.slice ca cl.length cc) ∧ W11.cell? ⟨w.heap.size, 7, none⟩ = some (.slice ma ml.length mc) ∧ W11.cell? ⟨g, j * 3, none⟩ = some (.int .i64 (sk slot s0 dr j k)) ∧ W11.cell? ⟨g, j * 3 + 1, none⟩ = some (.int .i64 (k : Int)) ∧ W11.cell? ⟨g, j * 3 + 2, none⟩ = some (.slice a0 (dv slot s0 dr j (k + 1)).length c0) ∧ Below w8.heap.size w8 W11 := ⟨keepCell hB cm_0, keepCell hB cm_1, keepCell hB cm_2, keepCell hB cm_3, keepCell hB cm_4, keepCell hB cm_5, keepCell hB cm_6, keepCell hB cm_7, keepCell hB e0, keepCell hB e1, keepCell hB e2, hB⟩; clear hB); refine hK.out _ _ hs (fun hHeld => ?_); clear hK K)
                        (refine takeW (i := 12) (v := ?_) rfl (by kernel_rfl) (by kernel_rfl) (by kernel_rfl) (fun _ _ _ h => h) (by rfl) (by assumption) ?_ ?_; rotate_left; (intro W hW; (try dsimp only at hW); go_simp; try with_reducible rfl); (try simp only [Act.put, List.setIfInBounds_toArray, List.set_cons_zero, List.set_cons_succ]))
                        refine wpAnyH_done (by kernel_rfl) ?_ _
                        go_wp2_with fail
                        go_meet
                        exact ⟨rfl, KB, xa, xc, rfl, ⟨HKX.out, HGX.out, HF.out, HBE.out, hKlo⟩⟩
                      · go_simp; (have HK : Hid (Blk (Wd.alloc (.cells #[.int .i64 0, .int .i64 0, .slice none 0 0] 28)) Wd.heap.size 28 #[.int .i64 0, .int .i64 0, .slice none 0 0]) := (Blk.new' rfl : Blk _ _ _ _); have hb : Below Wd.heap.size Wd (Wd.alloc (.cells #[.int .i64 0, .int .i64 0, .slice none 0 0] 28)) := below1 _ _; have hKlo : w8.heap.size ≤ Wd.heap.size := hHeld.2.2.2.2.2.2.2.2.2.2.2.size; (try have HNE := Lib.hid (GoodCk.apart (b := Wd.heap.size) HG.out (Nat.le_refl _))); (try replace HG := Lib.hid (HG.out.below hb)); have hB : Below w8.heap.size w8 (Wd.alloc (.cells #[.int .i64 0, .int .i64 0, .slice none 0 0] 28)) := hHeld.2.2.2.2.2.2.2.2.2.2.2.trans (hb.mono hHeld.2.2.2.2.2.2.2.2.2.2.2.size); clear hb hHeld; generalize Wd.heap.size = KB at *; generalize Wd.alloc (.cells #[.int .i64 0, .int .i64 0, .slice none 0 0] 28) = W10 at *; have hs : W10.cell? ⟨w.heap.size, 0, none⟩ = some (.int .i64 (n : Int)) ∧ W10.cell? ⟨w.heap.size, 1, none⟩ = some (.int .i64 slot) ∧ W10.cell? ⟨w.heap.size, 2, none⟩ = some (.int .i64 gap) ∧ W10.cell? ⟨w.heap.size, 3, none⟩ = some (.int .i64 win) ∧ W10.cell? ⟨w.heap.size, 4, none⟩ = some (.int .i64 drift) ∧ W10.cell? ⟨w.heap.size, 5, none⟩ = some (.int .i64 delay) ∧ W10.cell? ⟨w.heap.size, 6, none⟩ = some (.slice ca cl.length cc) ∧ W10.cell? ⟨w.heap.size, 7, none⟩ = some (.slice ma ml.length mc) ∧ W10.cell? ⟨g, j * 3, none⟩ = some (.int .i64 (sk slot s0 dr j k)) ∧ W10.cell? ⟨g, j * 3 + 1, none⟩ = some (.int .i64 (k : Int)) ∧ W10.cell? ⟨g, j * 3 + 2, none⟩ = some (.slice a0 (dv slot s0 dr j (k + 1)).length c0) ∧ Below w8.heap.size w8 W10 := ⟨keepCell hB cm_0, keepCell hB cm_1, keepCell hB cm_2, keepCell hB cm_3, keepCell hB cm_4, keepCell hB cm_5, keepCell hB cm_6, keepCell hB cm_7, keepCell hB e0, keepCell hB e1, keepCell hB e2, hB⟩; clear hB); refine hK.out _ _ hs (fun hHeld => ?_); clear hK K; (try simp only [Act.put, List.setIfInBounds_toArray, List.set_cons_zero, List.set_cons_succ])
                        (refine takeC (i := 6) rfl (by kernel_rfl) (by rfl) (fun K hK => ?_); go_simp; ((with_reducible refine (hcon _ hHeld.2.2.2.2.2.2.2.2.2.2.2).mono ?_); rintro e W6 ⟨⟨⟨x0, x1, xa, xc, xl⟩, rfl, hcu, hx0, hx1, hx2, hfr⟩, hb⟩; simp only at hx0 hx1 hx2 hfr; have hx0 := hx0.symm; have hx1 := hx1.symm; have hx2 := hx2.symm; subst hx0 hx1 hx2; unfold clv; have hB : Below w8.heap.size w8 W6 := hHeld.2.2.2.2.2.2.2.2.2.2.2.trans (hb.mono hHeld.2.2.2.2.2.2.2.2.2.2.2.size); have HG := Lib.hid hcu; have HF : Hid (∀ p, xa = some p → w8.heap.size ≤ p.block) := fun p hp => Nat.le_trans hHeld.2.2.2.2.2.2.2.2.2.2.2.size (hfr p hp); (try have HNE : Hid (vl = [] ∨ ∀ p, xa = some p → p.block ≠ KB) := Or.inr (fun p hp => by have := hfr p hp; have := HK.out.lt; omega)); (try replace HK := Lib.hid (HK.out.keep hb)); have hs : W6.cell? ⟨w.heap.size, 0, none⟩ = some (.int .i64 (n : Int)) ∧ W6.cell? ⟨w.heap.size, 1, none⟩ = some (.int .i64 slot) ∧ W6.cell? ⟨w.heap.size, 2, none⟩ = some (.int .i64 gap) ∧ W6.cell? ⟨w.heap.size, 3, none⟩ = some (.int .i64 win) ∧ W6.cell? ⟨w.heap.size, 4, none⟩ = some (.int .i64 drift) ∧ W6.cell? ⟨w.heap.size, 5, none⟩ = some (.int .i64 delay) ∧ W6.cell? ⟨w.heap.size, 6, none⟩ = some (.slice ca cl.length cc) ∧ W6.cell? ⟨w.heap.size, 7, none⟩ = some (.slice ma ml.length mc) ∧ W6.cell? ⟨g, j * 3, none⟩ = some (.int .i64 (sk slot s0 dr j k)) ∧ W6.cell? ⟨g, j * 3 + 1, none⟩ = some (.int .i64 (k : Int)) ∧ W6.cell? ⟨g, j * 3 + 2, none⟩ = some (.slice a0 (dv slot s0 dr j (k + 1)).length c0) ∧ Below w8.heap.size w8 W6 := ⟨keepCell hB cm_0, keepCell hB cm_1, keepCell hB cm_2, keepCell hB cm_3, keepCell hB cm_4, keepCell hB cm_5, keepCell hB cm_6, keepCell hB cm_7, keepCell hB e0, keepCell hB e1, keepCell hB e2, hB⟩; clear hb hcu hfr hHeld; clear hB); refine hK.out _ _ hs (fun hHeld => ?_); clear hK K)
                        (refine takeW (i := 7) (v := ?_) rfl (by kernel_rfl) (by kernel_rfl) (by kernel_rfl) (fun _ _ _ h => h) (by rfl) (by assumption) ?_ ?_; rotate_left; (intro W hW; (try dsimp only at hW); go_simp; try with_reducible rfl); (try simp only [Act.put, List.setIfInBounds_toArray, List.set_cons_zero, List.set_cons_succ]))
                        (refine takeW (i := 8) (v := ?_) rfl (by kernel_rfl) (by kernel_rfl) (by kernel_rfl) (fun _ _ _ h => h) (by rfl) (by assumption) ?_ ?_; rotate_left; (intro W hW; (try dsimp only at hW); go_simp; try with_reducible rfl); (try simp only [Act.put, List.setIfInBounds_toArray, List.set_cons_zero, List.set_cons_succ]))
                        (refine takeW (i := 9) (v := ?_) rfl (by kernel_rfl) (by kernel_rfl) (by kernel_rfl) (fun _ _ _ h => h) (by rfl) (by assumption) ?_ ?_; rotate_left; (intro W hW; (try dsimp only at hW); go_simp; try with_reducible rfl); (try simp only [Act.put, List.setIfInBounds_toArray, List.set_cons_zero, List.set_cons_succ]))
                        (refine takeC (i := 11) rfl (by kernel_rfl) (by rfl) (fun K hK => ?_); obtain ⟨k0, k1, k2⟩ := HK.out.three; have fk0 := HK.out.frozen 0; have fk1 := HK.out.frozen 1; have fk2 := HK.out.frozen 2; go_simp; (have HKX : Hid (Blk (((W6.setCell ⟨KB, 0, none⟩ (.int .i64 v0)).setCell ⟨KB, 1, none⟩ (.int .i64 v1)).setCell ⟨KB, 2, none⟩ (.slice xa vl.length xc)) KB 28 #[.int .i64 v0, .int .i64 v1, .slice xa vl.length xc]) := (by show Blk _ _ _ _; simpa using ((HK.out.set 0 (.int .i64 v0)).set 1 (.int .i64 v1)).set 2 (.slice xa vl.length xc)); have HGX := Lib.hid (GoodCk.far3' HG.out HNE.out (.int .i64 v0) (.int .i64 v1) (.slice xa vl.length xc)); have hB : Below w8.heap.size w8 (((W6.setCell ⟨KB, 0, none⟩ (.int .i64 v0)).setCell ⟨KB, 1, none⟩ (.int .i64 v1)).setCell ⟨KB, 2, none⟩ (.slice xa vl.length xc)) := ((hHeld.2.2.2.2.2.2.2.2.2.2.2.setCell (p := ⟨KB, 0, none⟩) hKlo _).setCell (p := ⟨KB, 1, none⟩) hKlo _).setCell (p := ⟨KB, 2, none⟩) hKlo _; clear k0 k1 k2 fk0 fk1 fk2 hHeld HK HG HNE; generalize (((W6.setCell ⟨KB, 0, none⟩ (.int .i64 v0)).setCell ⟨KB, 1, none⟩ (.int .i64 v1)).setCell ⟨KB, 2, none⟩ (.slice xa vl.length xc)) = W11 at *; have HBE := Lib.hid hB; have hs : W11.cell? ⟨w.heap.size, 0, none⟩ = some (.int .i64 (n : Int)) ∧ W11.cell? ⟨w.heap.size, 1, none⟩ = some (.int .i64 slot) ∧ W11.cell? ⟨w.heap.size, 2, none⟩ = some (.int .i64 gap) ∧ W11.cell? ⟨w.heap.size, 3, none⟩ = some (.int .i64 win) ∧ W11.cell? ⟨w.heap.size, 4, none⟩ = some (.int .i64 drift) ∧ W11.cell? ⟨w.heap.size, 5, none⟩ = some (.int .i64 delay) ∧ W11.cell? ⟨w.heap.size, 6, none⟩ = some (.slice ca cl.length cc) ∧ W11.cell? ⟨w.heap.size, 7, none⟩ = some (.slice ma ml.length mc) ∧ W11.cell? ⟨g, j * 3, none⟩ = some (.int .i64 (sk slot s0 dr j k)) ∧ W11.cell? ⟨g, j * 3 + 1, none⟩ = some (.int .i64 (k : Int)) ∧ W11.cell? ⟨g, j * 3 + 2, none⟩ = some (.slice a0 (dv slot s0 dr j (k + 1)).length c0) ∧ Below w8.heap.size w8 W11 := ⟨keepCell hB cm_0, keepCell hB cm_1, keepCell hB cm_2, keepCell hB cm_3, keepCell hB cm_4, keepCell hB cm_5, keepCell hB cm_6, keepCell hB cm_7, keepCell hB e0, keepCell hB e1, keepCell hB e2, hB⟩; clear hB); refine hK.out _ _ hs (fun hHeld => ?_); clear hK K)
                        (refine takeW (i := 12) (v := ?_) rfl (by kernel_rfl) (by kernel_rfl) (by kernel_rfl) (fun _ _ _ h => h) (by rfl) (by assumption) ?_ ?_; rotate_left; (intro W hW; (try dsimp only at hW); go_simp; try with_reducible rfl); (try simp only [Act.put, List.setIfInBounds_toArray, List.set_cons_zero, List.set_cons_succ]))
                        refine wpAnyH_done (by kernel_rfl) ?_ _
                        go_wp2_with fail
                        go_meet
                        exact ⟨rfl, KB, xa, xc, rfl, ⟨HKX.out, HGX.out, HF.out, HBE.out, hKlo⟩⟩
                    case rest =>
                      clear cm_0 cm_1 cm_2 cm_3 cm_4 cm_5 cm_6 cm_7 zm
                      obtain ⟨rfl, K, xa, xc, rfl, HGO⟩ := hcut
                      obtain ⟨hkb, hkg, hkf, hkB, hK0⟩ := HGO.out
                      simp only at hkb hkg
                      clear e0 e1 e2 hcon HGO
                      (try clear hw1)
                      replace HA := Lib.hid (HA.out.keep hkB)
                      replace HJ := Lib.hid (HJ.out.keep hkB)
                      obtain ⟨k0, k1, k2⟩ := hkb.three
                      obtain ⟨a0, c0, e0, e1, e2, -, -⟩ := HA.out.get hlt2
                      simp only [Nat.lt_irrefl, if_false] at e0 e1 e2
                      have f0 := HA.out.fz (j * 3)
                      have f1 := HA.out.fz (j * 3 + 1)
                      have f2 := HA.out.fz (j * 3 + 2)
                      have HA2 := Lib.hid (HA.out.set3 hlt2 hkg (fun p hp => by have := hkf p hp; have := HG8.out; omega))
                      have HJ2 : Hid (Bx w (((wc.setCell ⟨g, j * 3, none⟩ (.int .i64 v0)).setCell ⟨g, j * 3 + 1, none⟩ (.int .i64 v1)).setCell ⟨g, j * 3 + 2, none⟩ (.slice xa vl.length xc)) [(w.heap.size, 25, #[.int .i64 (n : Int), .int .i64 slot, .int .i64 gap, .int .i64 win, .int .i64 drift, .int .i64 delay, .slice ca cl.length cc, .slice ma ml.length mc])]) := ((HJ.out.far (by simp; omega) (by simp; omega) _).far (by simp; omega) (by simp; omega) _).far (by simp; omega) (by simp; omega) _
                      clear hkg hkf hkB hK0
                      have cm_0 : wc.cell? ⟨w.heap.size, 0, none⟩ = some (.int .i64 (n : Int)) := HJ.out.at 0 0 rfl rfl; have cm_1 : wc.cell? ⟨w.heap.size, 1, none⟩ = some (.int .i64 slot) := HJ.out.at 0 1 rfl rfl; have cm_2 : wc.cell? ⟨w.heap.size, 2, none⟩ = some (.int .i64 gap) := HJ.out.at 0 2 rfl rfl; have cm_3 : wc.cell? ⟨w.heap.size, 3, none⟩ = some (.int .i64 win) := HJ.out.at 0 3 rfl rfl; have cm_4 : wc.cell? ⟨w.heap.size, 4, none⟩ = some (.int .i64 drift) := HJ.out.at 0 4 rfl rfl; have cm_5 : wc.cell? ⟨w.heap.size, 5, none⟩ = some (.int .i64 delay) := HJ.out.at 0 5 rfl rfl; have cm_6 : wc.cell? ⟨w.heap.size, 6, none⟩ = some (.slice ca cl.length cc) := HJ.out.at 0 6 rfl rfl; have cm_7 : wc.cell? ⟨w.heap.size, 7, none⟩ = some (.slice ma ml.length mc) := HJ.out.at 0 7 rfl rfl; have zm : w.heap.size < wc.heap.size := HJ.out.lt 0 rfl
                      go_upto_region 37 with fail
                      clear cm_0 cm_1 cm_2 cm_3 cm_4 cm_5 cm_6 cm_7 zm
                      clear k0 k1 k2 e0 e1 e2 f0 f1 f2 HA HJ
                      generalize ((wc.setCell ⟨g, j * 3, none⟩ (.int .i64 v0)).setCell ⟨g, j * 3 + 1, none⟩ (.int .i64 v1)).setCell ⟨g, j * 3 + 2, none⟩ (.slice xa vl.length xc) = wd at *
                      have HA := HA2
                      have HJ := HJ2
                      clear HA2 HJ2
                      have cm_0 : wd.cell? ⟨w.heap.size, 0, none⟩ = some (.int .i64 (n : Int)) := HJ.out.at 0 0 rfl rfl; have cm_1 : wd.cell? ⟨w.heap.size, 1, none⟩ = some (.int .i64 slot) := HJ.out.at 0 1 rfl rfl; have cm_2 : wd.cell? ⟨w.heap.size, 2, none⟩ = some (.int .i64 gap) := HJ.out.at 0 2 rfl rfl; have cm_3 : wd.cell? ⟨w.heap.size, 3, none⟩ = some (.int .i64 win) := HJ.out.at 0 3 rfl rfl; have cm_4 : wd.cell? ⟨w.heap.size, 4, none⟩ = some (.int .i64 drift) := HJ.out.at 0 4 rfl rfl; have cm_5 : wd.cell? ⟨w.heap.size, 5, none⟩ = some (.int .i64 delay) := HJ.out.at 0 5 rfl rfl; have cm_6 : wd.cell? ⟨w.heap.size, 6, none⟩ = some (.slice ca cl.length cc) := HJ.out.at 0 6 rfl rfl; have cm_7 : wd.cell? ⟨w.heap.size, 7, none⟩ = some (.slice ma ml.length mc) := HJ.out.at 0 7 rfl rfl; have zm : w.heap.size < wd.heap.size := HJ.out.lt 0 rfl
                      go_wp2
                      go_roundw
                      case rel => exact ⟨j + 1, by omega, by go_num, HA.out.congr (fun i _ => upto_succ (A := fun t => Qk n slot s0 dr (k + 1) t) (B := fun t => Vk slot s0 dr k t) (V := (v0, v1, vl)) HV.out i), HJ⟩
                      case measure => simp [intOf]; omega
                · have hjn : j = n := by omega
                  have HA2 : Hid (At wr g n (Qk n slot s0 dr (k + 1))) := HA.out.congr fun i hi => by rw [if_pos (by omega)]
                  have hlj : ¬ j < n := by omega
                  clear HA
                  have cm_0 : wr.cell? ⟨w.heap.size, 0, none⟩ = some (.int .i64 (n : Int)) := HJ.out.at 0 0 rfl rfl; have cm_1 : wr.cell? ⟨w.heap.size, 1, none⟩ = some (.int .i64 slot) := HJ.out.at 0 1 rfl rfl; have cm_2 : wr.cell? ⟨w.heap.size, 2, none⟩ = some (.int .i64 gap) := HJ.out.at 0 2 rfl rfl; have cm_3 : wr.cell? ⟨w.heap.size, 3, none⟩ = some (.int .i64 win) := HJ.out.at 0 3 rfl rfl; have cm_4 : wr.cell? ⟨w.heap.size, 4, none⟩ = some (.int .i64 drift) := HJ.out.at 0 4 rfl rfl; have cm_5 : wr.cell? ⟨w.heap.size, 5, none⟩ = some (.int .i64 delay) := HJ.out.at 0 5 rfl rfl; have cm_6 : wr.cell? ⟨w.heap.size, 6, none⟩ = some (.slice ca cl.length cc) := HJ.out.at 0 6 rfl rfl; have cm_7 : wr.cell? ⟨w.heap.size, 7, none⟩ = some (.slice ma ml.length mc) := HJ.out.at 0 7 rfl rfl; have zm : w.heap.size < wr.heap.size := HJ.out.lt 0 rfl
                  go_wp2
                  go_roundw
                  case rel => exact ⟨k + 1, by omega, by go_num, HA2, HJ⟩
                  case measure => simp [intOf]; omega
        · have hkn : k = n := by omega
          subst hkn
          have HA2 : Hid (At wr g k (fun t => (fin k slot s0 dr t, (k : Int), []))) := HA.out.congr fun i hi => by unfold Qk; rw [if_pos rfl]
          clear HA
          have HCL := Lib.hid (fun i j hi hj => @Tg.Rnd.close k drift slot win start s0 dr HR.out i j hi hj)
          have HFB := Lib.hid (fun i => HR.out.fin_bd i)
          generalize fin k slot s0 dr = f at *
          clear HS1 HS2 HS3 HER HSE HSA HNX HR HS0 HDR HLO HLD
          have HA := HA2
          clear HA2
          have HG := HA.out.lt
          obtain ⟨a0, c0, e0, -, -, -, -⟩ := HA.out.get (i := 0) (by omega)
          simp only [Nat.zero_mul] at e0
          have hlt9 : 0 < k := by omega
          have hk9 : k ≤ 8 := by omega
          have cm_0 : wr.cell? ⟨w.heap.size, 0, none⟩ = some (.int .i64 (k : Int)) := HJ.out.at 0 0 rfl rfl; have cm_1 : wr.cell? ⟨w.heap.size, 1, none⟩ = some (.int .i64 slot) := HJ.out.at 0 1 rfl rfl; have cm_2 : wr.cell? ⟨w.heap.size, 2, none⟩ = some (.int .i64 gap) := HJ.out.at 0 2 rfl rfl; have cm_3 : wr.cell? ⟨w.heap.size, 3, none⟩ = some (.int .i64 win) := HJ.out.at 0 3 rfl rfl; have cm_4 : wr.cell? ⟨w.heap.size, 4, none⟩ = some (.int .i64 drift) := HJ.out.at 0 4 rfl rfl; have cm_5 : wr.cell? ⟨w.heap.size, 5, none⟩ = some (.int .i64 delay) := HJ.out.at 0 5 rfl rfl; have cm_6 : wr.cell? ⟨w.heap.size, 6, none⟩ = some (.slice ca cl.length cc) := HJ.out.at 0 6 rfl rfl; have cm_7 : wr.cell? ⟨w.heap.size, 7, none⟩ = some (.slice ma ml.length mc) := HJ.out.at 0 7 rfl rfl; have zm : w.heap.size < wr.heap.size := HJ.out.lt 0 rfl
          go_upto_region 39 with fail
          go_quiet (fail)
          clear cm_0 cm_1 cm_2 cm_3 cm_4 cm_5 cm_6 cm_7 zm
          clear e0
          generalize hW : World.drewN _ _ = wz at *
          have HA2 : Hid (At wz g k (fun t => (f t, (k : Int), []))) := by show At _ _ _ _; rw [← hW]; exact HA.out.keep (below_drewN (Below.refl _ _) _)
          have HJ2 : Hid (Bx w wz [(w.heap.size, 25, #[.int .i64 (k : Int), .int .i64 slot, .int .i64 gap, .int .i64 win, .int .i64 drift, .int .i64 delay, .slice ca cl.length cc, .slice ma ml.length mc])]) := by show Bx _ _ _; rw [← hW]; exact HJ.out.keep (below_drewN (Below.refl _ _) _)
          clear HA HJ hW
          have HA := HA2
          have HJ := HJ2
          clear HA2 HJ2
          have cm_0 : wz.cell? ⟨w.heap.size, 0, none⟩ = some (.int .i64 (k : Int)) := HJ.out.at 0 0 rfl rfl; have cm_1 : wz.cell? ⟨w.heap.size, 1, none⟩ = some (.int .i64 slot) := HJ.out.at 0 1 rfl rfl; have cm_2 : wz.cell? ⟨w.heap.size, 2, none⟩ = some (.int .i64 gap) := HJ.out.at 0 2 rfl rfl; have cm_3 : wz.cell? ⟨w.heap.size, 3, none⟩ = some (.int .i64 win) := HJ.out.at 0 3 rfl rfl; have cm_4 : wz.cell? ⟨w.heap.size, 4, none⟩ = some (.int .i64 drift) := HJ.out.at 0 4 rfl rfl; have cm_5 : wz.cell? ⟨w.heap.size, 5, none⟩ = some (.int .i64 delay) := HJ.out.at 0 5 rfl rfl; have cm_6 : wz.cell? ⟨w.heap.size, 6, none⟩ = some (.slice ca cl.length cc) := HJ.out.at 0 6 rfl rfl; have cm_7 : wz.cell? ⟨w.heap.size, 7, none⟩ = some (.slice ma ml.length mc) := HJ.out.at 0 7 rfl rfl; have zm : w.heap.size < wz.heap.size := HJ.out.lt 0 rfl
          go_wp2_with fail
          clear cm_0 cm_1 cm_2 cm_3 cm_4 cm_5 cm_6 cm_7 zm
          clear HG
          go_loopw [23, 24, 180] (fun u v i wr => ∃ j t1 t2 : Nat, j ≤ k ∧ t1 < k ∧ t2 < k ∧ i = .int .i64 j ∧ u = .int .i64 (f t1) ∧ v = .int .i64 (f t2) ∧ Hid (At wr g k (fun t => (f t, (k : Int), []))) ∧ Hid (Bx w wr [(w.heap.size, 25, #[.int .i64 (k : Int), .int .i64 slot, .int .i64 gap, .int .i64 win, .int .i64 drift, .int .i64 delay, .slice ca cl.length cc, .slice ma ml.length mc])])) (fun _ _ i _ => k - (intOf i).toNat)
          case atStart => exact ⟨0, 0, 0, Nat.zero_le _, hlt9, hlt9, rfl, rfl, rfl, HA, HJ⟩
          case round =>
            clear HJ HA
            obtain ⟨j, t1, t2, hj, ht1, ht2, rfl, rfl, rfl, HA, HJ⟩ := hrel
            by_cases hlt2 : j < k
            · skip
              obtain ⟨a0, c0, e0, e1, e2, -, -⟩ := HA.out.get hlt2
              simp only [List.length_nil] at e0 e1 e2
              have HB := Lib.hid (below1 wr (.cells #[.int .i64 (f j), .int .i64 (k : Int), .slice a0 0 c0] 28))
              have HX : Hid (Blk (wr.alloc (.cells #[.int .i64 (f j), .int .i64 (k : Int), .slice a0 0 c0] 28)) wr.heap.size 28 #[.int .i64 (f j), .int .i64 (k : Int), .slice a0 0 c0]) := (Blk.new' rfl : Blk _ _ _ _)
              have cm_0 : wr.cell? ⟨w.heap.size, 0, none⟩ = some (.int .i64 (k : Int)) := HJ.out.at 0 0 rfl rfl; have cm_1 : wr.cell? ⟨w.heap.size, 1, none⟩ = some (.int .i64 slot) := HJ.out.at 0 1 rfl rfl; have cm_2 : wr.cell? ⟨w.heap.size, 2, none⟩ = some (.int .i64 gap) := HJ.out.at 0 2 rfl rfl; have cm_3 : wr.cell? ⟨w.heap.size, 3, none⟩ = some (.int .i64 win) := HJ.out.at 0 3 rfl rfl; have cm_4 : wr.cell? ⟨w.heap.size, 4, none⟩ = some (.int .i64 drift) := HJ.out.at 0 4 rfl rfl; have cm_5 : wr.cell? ⟨w.heap.size, 5, none⟩ = some (.int .i64 delay) := HJ.out.at 0 5 rfl rfl; have cm_6 : wr.cell? ⟨w.heap.size, 6, none⟩ = some (.slice ca cl.length cc) := HJ.out.at 0 6 rfl rfl; have cm_7 : wr.cell? ⟨w.heap.size, 7, none⟩ = some (.slice ma ml.length mc) := HJ.out.at 0 7 rfl rfl; have zm : w.heap.size < wr.heap.size := HJ.out.lt 0 rfl
              go_upto_region 43 with fail
              clear cm_0 cm_1 cm_2 cm_3 cm_4 cm_5 cm_6 cm_7 zm
              replace HA := Lib.hid (HA.out.keep HB.out)
              replace HJ := Lib.hid (HJ.out.keep HB.out)
              clear e0 e1 e2 HB
              generalize wr.heap.size = bx at *
              generalize wr.alloc (.cells #[.int .i64 (f j), .int .i64 (k : Int), .slice a0 0 c0] 28) = ws at *
              obtain ⟨x0, x1, x2⟩ := HX.out.three
              obtain ⟨r1, hr1, hrm1⟩ : ∃ r1, r1 < k ∧ min (f t1) (f j) = f r1 := by
                by_cases h : f t1 ≤ f j
                · exact ⟨t1, ht1, Int.min_eq_left h⟩
                · exact ⟨j, hlt2, Int.min_eq_right (by omega)⟩
              obtain ⟨r2, hr2, hrm2⟩ : ∃ r2, r2 < k ∧ max (f t2) (f j) = f r2 := by
                by_cases h : f j ≤ f t2
                · exact ⟨t2, ht2, Int.max_eq_left h⟩
                · exact ⟨j, hlt2, Int.max_eq_right (by omega)⟩
              have HM1 := Lib.hid hrm1
              have HM2 := Lib.hid hrm2
              clear hrm1 hrm2
              go_quiet (fail)
              rw [HM1.out, HM2.out]
              clear x0 x1 x2 HX HM1 HM2
              generalize hW : World.drewN _ _ = wz at *
              have HA2 : Hid (At wz g k (fun t => (f t, (k : Int), []))) := by show At _ _ _ _; rw [← hW]; exact HA.out.keep (below_drewN (Below.refl _ _) _)
              have HJ2 : Hid (Bx w wz [(w.heap.size, 25, #[.int .i64 (k : Int), .int .i64 slot, .int .i64 gap, .int .i64 win, .int .i64 drift, .int .i64 delay, .slice ca cl.length cc, .slice ma ml.length mc])]) := by show Bx _ _ _; rw [← hW]; exact HJ.out.keep (below_drewN (Below.refl _ _) _)
              clear HA HJ hW
              have HA := HA2
              have HJ := HJ2
              clear HA2 HJ2
              have cm_0 : wz.cell? ⟨w.heap.size, 0, none⟩ = some (.int .i64 (k : Int)) := HJ.out.at 0 0 rfl rfl; have cm_1 : wz.cell? ⟨w.heap.size, 1, none⟩ = some (.int .i64 slot) := HJ.out.at 0 1 rfl rfl; have cm_2 : wz.cell? ⟨w.heap.size, 2, none⟩ = some (.int .i64 gap) := HJ.out.at 0 2 rfl rfl; have cm_3 : wz.cell? ⟨w.heap.size, 3, none⟩ = some (.int .i64 win) := HJ.out.at 0 3 rfl rfl; have cm_4 : wz.cell? ⟨w.heap.size, 4, none⟩ = some (.int .i64 drift) := HJ.out.at 0 4 rfl rfl; have cm_5 : wz.cell? ⟨w.heap.size, 5, none⟩ = some (.int .i64 delay) := HJ.out.at 0 5 rfl rfl; have cm_6 : wz.cell? ⟨w.heap.size, 6, none⟩ = some (.slice ca cl.length cc) := HJ.out.at 0 6 rfl rfl; have cm_7 : wz.cell? ⟨w.heap.size, 7, none⟩ = some (.slice ma ml.length mc) := HJ.out.at 0 7 rfl rfl; have zm : w.heap.size < wz.heap.size := HJ.out.lt 0 rfl
              go_wp2
              go_roundw
              case rel => exact ⟨j + 1, r1, r2, by omega, hr1, hr2, by go_num, rfl, rfl, HA, HJ⟩
              case measure => simp [intOf]; omega
            · have hjn : k = j := by omega
              subst hjn
              have hcl := HCL.out t1 t2 ht1 ht2
              have hb1 := HFB.out t1
              have hb2 := HFB.out t2
              have hkd : 0 ≤ (k : Int) * drift := Int.mul_nonneg (by omega) dr0
              have hkd2 : (k : Int) * drift ≤ 8 * 64 := Int.mul_le_mul (by omega) dr1 dr0 (by omega)
              have h6 : 6 * (k : Int) * drift = 6 * ((k : Int) * drift) := Int.mul_assoc ..
              have h60 : 0 ≤ 6 * (k : Int) * drift := by omega
              have h61 : 6 * (k : Int) * drift ≤ 4000 := by omega
              have HF : Hid (f t2 - f t1 ≤ 6 * (k : Int) * drift + 2) := by show _ ≤ _; omega
              clear hcl hkd hkd2 h6
              have cm_0 : wr.cell? ⟨w.heap.size, 0, none⟩ = some (.int .i64 (k : Int)) := HJ.out.at 0 0 rfl rfl; have cm_1 : wr.cell? ⟨w.heap.size, 1, none⟩ = some (.int .i64 slot) := HJ.out.at 0 1 rfl rfl; have cm_2 : wr.cell? ⟨w.heap.size, 2, none⟩ = some (.int .i64 gap) := HJ.out.at 0 2 rfl rfl; have cm_3 : wr.cell? ⟨w.heap.size, 3, none⟩ = some (.int .i64 win) := HJ.out.at 0 3 rfl rfl; have cm_4 : wr.cell? ⟨w.heap.size, 4, none⟩ = some (.int .i64 drift) := HJ.out.at 0 4 rfl rfl; have cm_5 : wr.cell? ⟨w.heap.size, 5, none⟩ = some (.int .i64 delay) := HJ.out.at 0 5 rfl rfl; have cm_6 : wr.cell? ⟨w.heap.size, 6, none⟩ = some (.slice ca cl.length cc) := HJ.out.at 0 6 rfl rfl; have cm_7 : wr.cell? ⟨w.heap.size, 7, none⟩ = some (.slice ma ml.length mc) := HJ.out.at 0 7 rfl rfl; have zm : w.heap.size < wr.heap.size := HJ.out.lt 0 rfl
              go_wp2
              go_ret
              exact ⟨ret_bool (decide_eq_true HF.out), HJ.out.2⟩
end Go.Proofs.Ytimcljlbjnhpnaa
