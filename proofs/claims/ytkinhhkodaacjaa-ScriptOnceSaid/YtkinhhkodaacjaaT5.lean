/- told: the first ones that an iterator tells. few; told of Ops. -/
import Derived.Test.YtkinhhkodaacjaaT3
import Derived.Test.YtkinhhkodaacjaaLA
import Derived.OwnWalkIn
import Derived.Deep.DeepMust
namespace Go.Proofs.Ytkinhhkodaacjaa
open Go.RowKit Go.Shelf
attribute [local go_sem] Oper.semAt_some

/-- Between two rounds: how many are wanted, what came so far. -/
def ToldI (most : Int) (w : World) (pre : List Ho) (W : World) : Prop :=
  Blk W w.heap.size 3 #[.int .i64 most] ∧ Below w.heap.size w W ∧ pre.length ≤ most.toNat ∧
  ∃ v, Blk W (w.heap.size + 1) 27 #[v] ∧ W.ownsRow (w.heap.size + 2) 43 6 v pre.length (pre.flatMap encH)
def ToldX (most : Int) (w : World) (c : Code) (pre : List Ho) (W : World) : Prop :=
  c = .exit 0 ∧ pre.dropLast.length = most.toNat ∧ ToldI most w pre.dropLast W
theorem ToldI.own (most : Int) (w : World) (B : Nat) (hB : w.heap.size ≤ B) : OwnFrom B (ToldI most w) := fun s A A' row hs hg hr => by
  obtain ⟨h1, h2, h3, v, h4, h5⟩ := hs
  have hne : ∀ b t cs, Blk A b t cs → some b ≠ row := fun b t cs hb e => by
    obtain ⟨_, o, ho, hc⟩ := hr b e.symm
    rw [show A.heap[b]? = _ from hb] at ho; cases ho; cases hc
  refine ⟨h1.kept hg (hne _ _ _ h1), h2.grown hg h2.size (fun k e => Nat.le_trans hB (hr k e).1), h3, v, h4.kept hg (hne _ _ _ h4), h5.kept hg ?_⟩
  rcases h5.2 with ⟨rfl, _⟩ | ⟨g, cap, cur, rfl, _, hgb, _⟩
  · exact .inl rfl
  · refine .inr fun e' => ?_
    obtain ⟨_, o, ho, hw⟩ := hr g (by simpa [Value.ownBlock] using e'.symm)
    rw [hgb] at ho; cases ho; cases hw
theorem ToldX.own (most : Int) (w : World) (B : Nat) (hB : w.heap.size ≤ B) (c : Code) : OwnFrom B (ToldX most w c) := fun _ A A' row hs hg hr =>
  ⟨hs.1, hs.2.1, ToldI.own most w B hB _ A A' row hs.2.2 hg hr⟩
def ToldPost (X : List Ho) (most : Int) (w : World) (e : Ending) (w' : World) : Prop :=
  (∃ v, e = .returned v ∧ w'.ownsRow w.heap.size 43 6 v (X.take most.toNat).length ((X.take most.toNat).flatMap encH)) ∧ Below w.heap.size w w'
theorem told_end {w W : World} {D : Nat} {l : List Ho} {X : List Ho} {most : Int} {v : Value} {a0 : Act} (hD : w.heap.size ≤ D) (hK : W.heap[D]? = some (.deferred (some []))) (hB : Below w.heap.size w W)
    (ho : W.ownsRow (w.heap.size + 2) 43 6 v l.length (l.flatMap encH)) (hl : l = X.take most.toNat)
    (ht : a0.tmps[4]? = some v) (hd : a0.defers = [{ target := .collected D, args := #[] }]) :
    bodyPostM Fence.wide 3 Try.prog Try.f15 (ToldPost X most w) Exit.ret a0 W := by
  obtain ⟨tmps, df⟩ := a0
  simp only at ht hd
  subst hd hl
  refine ⟨by simp, .inl ⟨_, _, rfl, run_takeDeferred hK, ?_⟩⟩
  refine ⟨v, by simp [results, Try.f15, go_sem, ht], ⟨v, rfl, ?_⟩, hB.trans (belowK_b (w := w) (Nat.le_refl _) W D _ _ hD hK rfl rfl)⟩
  refine (ownsRow_mono ho (by omega)).kept (grownBy_putObj' W D _) ?_
  rcases ho.2 with ⟨rfl, _⟩ | ⟨g, cap, cur, rfl, _, hgb, _⟩
  · exact .inl rfl
  · refine .inr fun e' => ?_
    have : g = D := by simpa [Value.ownBlock] using e'
    subst this; rw [hgb] at hK; cases hK
theorem own_set {w : World} {base e size n : Nat} {v : Value} {xs : List Value} (h : w.ownsRow base e size v n xs) {p : Addr} (hp : p.block < base) (u : Value) : (w.setCell p u).ownsRow base e size v n xs := by
  refine h.kept (grownBy_setCell w p u) ?_
  rcases h.2 with ⟨rfl, _⟩ | ⟨g, cap, cur, rfl, hg, _, _⟩
  · exact .inl rfl
  · refine .inr fun e' => ?_
    have : g = p.block := by simpa [Value.ownBlock] using e'
    omega

set_option maxRecDepth 100000 in
set_option maxHeartbeats 1600000 in
theorem told_any (gf : Nat) (lb : Array Value) (eg : ∀ args w, (callFunc gf args).run Try.prog w = .ok (.enter gf args) w) (most : Int) (X : List Ho) (N : Nat) (hN : N ≤ 100000) (w : World)
    (hseq : SeqStopsK Fence.wide 2 Try.prog gf lb encQ (KP w.heap.size 0 w.heap.size) (fun xs => xs = X) (fun pre => pre <+: X) N w) :
    Calls Try.prog 15 #[.func (.func gf) #[] lb, .int .i64 most] w (ToldPost X most w) := by
  refine (callsIn_wide (n := 3)).1 ?_
  refine callsIn_of_wp_marks Try.func15 rfl trivial ?_ rfl
  refine wpIn_wide.2 ?_
  simp only [Try.ntmps15, List.size_toArray, List.length_cons, List.length_nil, Nat.reduceAdd, Nat.reduceSub, Array.replicate_succ, Array.replicate_zero, List.push_toArray, List.append_toArray, List.nil_append, List.cons_append]
  have hnf := fun W => run_eql_func_nil (P := Try.prog) W 51 _ _ _ (.func gf) #[] lb Try.underlying51
  go_wp2
  clear hnf
  have h0 : ToldI most w [] ((w.alloc (.cells #[.int .i64 most] 3)).alloc (.cells #[.slice none 0 0] 27)) :=
    ⟨(Blk.new' rfl).alloc _, below2 w _ _, Nat.zero_le _, _, Blk.new' (by simp), World.ownsRow_nil _ _ _ _⟩
  have hsz : ((w.alloc (.cells #[.int .i64 most] 3)).alloc (.cells #[.slice none 0 0] 27)).heap.size = w.heap.size + 2 := by simp
  have hbb := below2 w (.cells #[.int .i64 most] 3) (.cells #[.slice none 0 0] 27)
  generalize (w.alloc (.cells #[.int .i64 most] 3)).alloc (.cells #[.slice none 0 0] 27) = W0 at *
  refine (wpIn_wide (n := 3)).1 ?_
  refine wpIn_rangeFunc_ownH rfl (by omega) (gf := gf) (lb := lb) rfl trivial eg hseq (fun h k => KP.trans h k) (KP.put (by omega) (by omega)) hbb (fun _ => rfl)
    (ToldI most w) (ToldX most w) (ToldI.own most w _ (by omega)) (ToldX.own most w _ (by omega)) h0
    (fun x a' W => ∃ bx, a' = { tmps := #[.func (.func gf) #[] lb, .int .i64 most, undef, .pointer (some ⟨w.heap.size, 0, none⟩), .slice none 0 0, .pointer (some ⟨w.heap.size + 1, 0, none⟩), .pointer (some ⟨bx, 0, none⟩), .func (.func gf) #[] lb, .bool false, .func (.func gf) #[] lb, .agg (encH x).toArray, undef, undef, undef, undef, undef, undef, undef, undef, undef], defers := [] } ∧ Blk W bx 43 (encH x).toArray ∧ w.heap.size + 2 ≤ bx)
    (fun x a' s A B row hs hg hr => by obtain ⟨bx, h1, h2, h3⟩ := hs; exact ⟨bx, h1, Blk.own _ _ _ s A B row h2 hg (fun r e => (hr r e).2), h3⟩)
    ?assign ?body ?done ?stop
  case assign =>
    rintro y pre x W K hI hK
    unfold encQ
    gi_wp2_with (refine wpListIn_storeW W43 rfl rfl rfl (encH x) rfl rfl (encH_one x) rfl ?_)
    have hs4 : w.heap.size + 2 ≤ W.heap.size := by have := hI.2.2.2.choose_spec.1.lt; omega
    exact hK _ _ ((KeepsOthers.alloc _ _).from _) (KP.of_low ((below1 _ _).mono (by omega)) (Nat.le_refl _)) (ToldI.own most w (w.heap.size + 2) (by omega) _ _ _ none hI (World.grownBy_alloc _ _ _) (by intro r h; cases h)) ⟨W.heap.size, rfl, Blk.new' rfl, hs4⟩
  case body =>
    rintro y pre x a' W hl hr ⟨h1, h2, h3, v, h4, h5⟩ ⟨bx, rfl, DX, hbx⟩ hlt
    clear hl hr
    obtain ⟨a, cap, rfl, q1, q2, _⟩ := owns_shape h5
    have HK := Lib.hid DX.list
    have c1 : W.cell? ⟨w.heap.size, 0, none⟩ = some (.int .i64 most) := h1.cell 0
    have c2 : W.cell? ⟨w.heap.size + 1, 0, none⟩ = some (.slice a pre.length cap) := h4.cell 0
    have f2 : W.frozen? ⟨w.heap.size + 1, 0, none⟩ = false := h4.frozen 0
    have hpre : pre.length ≤ 100000 := by omega
    have hz : w.heap.size + 2 ≤ W.heap.size := by have := h4.lt; omega
    clear DX hbx
    by_cases hm : most ≤ (pre.length : Int)
    · have H : ToldX most w (.exit 0) (pre ++ [x]) W := ⟨rfl, by rw [List.dropLast_concat]; omega, by rw [List.dropLast_concat]; exact ⟨h1, h2, h3, _, h4, h5⟩⟩
      have HXX := Lib.hid H
      clear H h1 h2 h3 h4 h5
      generalize pre.length = L at *
      gi_wp2
      exact ⟨(KeepsOthers.refl _).from _, HXX.out⟩
    · have HA := Lib.hid (show (pre ++ [x]).length ≤ most.toNat by simp; omega)
      have H1 := Lib.hid h1
      have H2 := Lib.hid h2
      have H4 := Lib.hid h4
      have H5 := Lib.hid h5
      clear h1 h2 h3 h4 h5
      gi_wp2_with (first
        | (refine wpListIn_loadW W43 rfl rfl rfl (encH x) rfl HK.out ?_)
        | (refine wpListIn_sliceW E27 (by decide) rfl rfl (encH x) rfl rfl ?_)
        | (gi_at_builtin; refine wpListIn_app1 E27 rfl (.tmp 15) (.tmp 17) rfl H5.out (encH x) rfl (encH_one x) rfl rfl (by omega) (by omega) ?_; intro v' w1 ho hg; obtain ⟨a', cap', rfl, r1, r2, _⟩ := owns_shape ho; have HO := Lib.hid ho; have HG := Lib.hid hg; have B1 := Lib.hid (H1.out.kept hg (fun e => ownsRow_ne H5.out (by omega) e.symm)); have B4 := Lib.hid (H4.out.kept hg (fun e => ownsRow_ne H5.out (by omega) e.symm)); have c2' : w1.cell? ⟨w.heap.size + 1, 0, none⟩ = some (.slice a pre.length cap) := B4.out.cell 0; have f2' : w1.frozen? ⟨w.heap.size + 1, 0, none⟩ = false := B4.out.frozen 0; clear ho hg c1 c2 f2))
      have hgo := HG.out
      have hfar : (some (w.heap.size + 1)) ≠ (Value.slice a' (pre.length + 1) cap').ownBlock := fun e => ownsRow_ne HO.out (by omega) e.symm
      have hbg : ∀ {A : World}, Below w.heap.size A W → Below w.heap.size A w1 := fun h => h.grown hgo (by have := h.size; omega) (fun k e => by
        rcases Nat.lt_or_ge k (w.heap.size + 2) with h | h
        · exact absurd e (ownsRow_ne H5.out h)
        · omega)
      refine ⟨((KeepsOthers.of_grownBy hgo ?_).trans (KeepsOthers.setCell _ _ _)).from _, KP.of_low ((hbg (Below.refl _ _)).setCell (by simp) _) (Nat.le_refl _), ?_⟩
      · intro j o e ho
        exact own_cells H5.out e ho
      · refine ⟨B1.out.far (by simp) _, (hbg H2.out).setCell (by simp) _, HA.out, _, B4.out.set 0 _, ?_⟩
        have := own_set HO.out (p := ⟨w.heap.size + 1, 0, none⟩) (by simp) (.slice a' (pre.length + 1) cap')
        simpa using this
  case done =>
    rintro D ys W hD hys ⟨h1, h2, h3, v, h4, h5⟩ hK
    obtain ⟨av, cv, rfl, _⟩ := owns_shape h5
    have c2 : W.cell? ⟨w.heap.size + 1, 0, none⟩ = some _ := h4.cell 0
    have HE := Lib.hid (fun a0 : Act => told_end (a0 := a0) (X := X) (most := most) (by omega) hK h2 h5 (by rw [← hys, List.take_of_length_le h3]))
    clear h1 h2 h3 h4 h5 hK hys
    go_wp2
    exact HE.out _ rfl rfl
  case stop =>
    rintro D c pre W hD hp ⟨rfl, hx, h1, h2, h3, v, h4, h5⟩ hK
    obtain ⟨av, cv, rfl, _⟩ := owns_shape h5
    have c2 : W.cell? ⟨w.heap.size + 1, 0, none⟩ = some _ := h4.cell 0
    have hl : pre.dropLast = X.take most.toNat := by
      have : pre.dropLast <+: X := (List.dropLast_prefix pre).trans hp
      rw [← hx]
      exact (List.prefix_iff_eq_take.1 this)
    have HE := Lib.hid (fun a0 : Act => told_end (a0 := a0) (X := X) (most := most) (by omega) hK h2 h5 hl)
    clear h1 h2 h3 h4 h5 hK hl hx hp
    generalize pre.dropLast.length = dl at *
    refine wpIn_wide.2 ?_
    go_wp2
    exact HE.out _ rfl rfl
end Go.Proofs.Ytkinhhkodaacjaa
namespace Go.Proofs.Ytkinhhkodaacjaa
open Go.RowKit Go.Shelf
open Md

theorem ops_stops (m : Nat) (hn : 1 ≤ m) (g1 g2 n₀ lo hi : Nat) (v : Value) (l : List Ho) (n r s : Int) (w : World)
    (hn₀ : n₀ ≤ w.heap.size) (h1 : w.cell? ⟨g1, 0, none⟩ = some v) (h2 : w.cell? ⟨g2, 0, none⟩ = some (.int .i64 n)) (h3 : w.cell? ⟨g2 + 1, 0, none⟩ = some (.int .i64 r)) (h4 : w.cell? ⟨g2 + 2, 0, none⟩ = some (.int .i64 s)) (b2 : lo ≤ g2 ∧ g2 + 2 < hi) (hL : ∀ W', KP n₀ lo hi w W' → Hos W' v l) :
    SeqStopsK Fence.wide m Try.prog 41 #[.pointer (some ⟨g1, 0, none⟩), .pointer (some ⟨g2, 0, none⟩), .pointer (some ⟨g2 + 1, 0, none⟩), .pointer (some ⟨g2 + 2, 0, none⟩)] encQ (KP n₀ lo hi) (fun xs => xs = ofH l n r s l.length) (fun pre => pre <+: ofH l n r s l.length) l.length w :=
  fun y J Jx W hW hJ _ hY h0 => ops1_in m hn y g1 g2 n₀ lo hi v l n r s J Jx W hJ hY (Nat.le_trans hn₀ hW.size) (keepCell hW h1) (keepCell hW h2) (keepCell hW h3) (keepCell hW h4) b2 (fun W' hW' => hL W' ((KP.of_below hW hn₀).trans hW')) h0

/-- The first ones that Ops tells. -/
theorem told_ops (l : List Ho) (n r s most : Int) (v : Value) (W : World) (g D : Nat) (hl : l.length ≤ 300) (h1 : Blk W g 27 #[v]) (h2 : Blk W D 3 #[.int .i64 n]) (h3 : Blk W (D + 1) 3 #[.int .i64 r]) (h4 : Blk W (D + 2) 3 #[.int .i64 s]) (h : Hos W v l) :
    Calls Try.prog 15 #[.func (.func 41) #[] #[.pointer (some ⟨g, 0, none⟩), .pointer (some ⟨D, 0, none⟩), .pointer (some ⟨D + 1, 0, none⟩), .pointer (some ⟨D + 2, 0, none⟩)], .int .i64 most] W (ToldPost (ofH l n r s l.length) most W) :=
  told_any 41 _ (enters_of Try.func41 (by kernel_rfl) rfl) most (ofH l n r s l.length) l.length (by omega) W
    (ops_stops 2 (by omega) g D W.heap.size 0 W.heap.size v l n r s W (Nat.le_refl _) (h1.cell 0) (h2.cell 0) (h3.cell 0) (h4.cell 0) ⟨by omega, h4.lt⟩ (fun W' hW' => h.below hW'.1))
structure Small (x : Sc) : Prop where
  l1 : x.ups.l.length ≤ 99
  l2 : x.offs.l.length ≤ 99
  l3 : x.gates.l.length ≤ 99
  l4 : x.guards.l.length ≤ 99
  l5 : x.drifts.l.length ≤ 1100
  l6 : x.ops.length ≤ 300
  l7 : x.faults.length ≤ 300
def FewPost (x : Sc) (w : World) (e : Ending) (w' : World) : Prop := (∃ b, e = .returned (.bool b) ∧ (b = true → Small x)) ∧ Below w.heap.size w w'
set_option maxRecDepth 100000 in
set_option maxHeartbeats 1600000 in
theorem few_any (x : Sc) (w : World) (h : GoodSc w x) : Calls Try.prog 6 #[.agg (encSc x).toArray] w (FewPost x w) := by
  have HPF : Hid (∀ w', Below w.heap.size w w' → FewPost x w (.returned (.bool false)) w') := fun w' hb => ⟨⟨_, rfl, fun h => by cases h⟩, hb⟩
  have HPT : Hid (Small x → ∀ w' b, Below w.heap.size w w' → FewPost x w (.returned (.bool b)) w') := fun hs w' b hb => ⟨⟨_, rfl, fun _ => hs⟩, hb⟩
  generalize FewPost x w = POST at *
  have HS := Lib.hid h.ops
  have HD : Hid (∀ z ∈ x.ops, z.d.length ≤ 140737488351232) := fun z hz => (h.opg z hz).d.1.len
  have HX : Hid (Blk (w.alloc (.cells (encSc x).toArray 30)) w.heap.size 30 (encSc x).toArray) := Blk.new' rfl
  have HW0 := Lib.hid (below1 w (.cells (encSc x).toArray 30))
  obtain ⟨h7, h9, h10⟩ : x.ops.length ≤ x.oc ∧ x.oc ≤ 9223372036854775807 ∧ x.ops.length ≤ 140737488351232 := by
    obtain ⟨a, c, e, q1, q2, q3⟩ := h.ops.shape
    simp only [Value.slice.injEq] at e
    exact ⟨by rw [e.2.2]; exact q1, by rw [e.2.2]; exact q2, q3⟩
  clear h
  go_enter Try.func6, Try.ntmps6
  go_upto_region 1 with fail
  change Code.wp _ _ _ _ (w.alloc (.cells (encSc x).toArray 30))
  generalize w.alloc (.cells (encSc x).toArray 30) = W0 at *
  have HLS : Hid (∀ z, x.ops.length = z → (Small x ↔ x.ups.l.length ≤ 99 ∧ x.offs.l.length ≤ 99 ∧ x.gates.l.length ≤ 99 ∧ x.guards.l.length ≤ 99 ∧ x.drifts.l.length ≤ 1100 ∧ z ≤ 300 ∧ x.faults.length ≤ 300)) := fun z e => by subst e; exact ⟨fun s => ⟨s.l1, s.l2, s.l3, s.l4, s.l5, s.l6, s.l7⟩, fun ⟨a, b, c, d, e, f, g⟩ => ⟨a, b, c, d, e, f, g⟩⟩
  have c6 : W0.cell? ⟨w.heap.size, 6, none⟩ = some (.slice x.oa x.ops.length x.oc) := HX.out.list0 rfl
  obtain ⟨L, hL⟩ : ∃ L, x.ops.length = L := ⟨_, rfl⟩
  have HSM := Lib.hid (HLS.out L hL)
  have HLN := Lib.hid hL
  rw [hL] at c6 h7 h10 HS
  clear HLS hL
  have him := imin_le (L : Int) 999
  generalize hm : imin (L : Int) 999 = M0 at *
  have hm' := hm
  clear hm
  obtain ⟨M, rfl⟩ : ∃ M : Nat, M0 = M := ⟨M0.toNat, by omega⟩
  have HMM := Lib.hid hm'
  clear hm'
  go_wp2_with (refine wpList_min rfl rfl rfl rfl ?_; rw [HMM.out])
  clear c6
  go_loopw [3, 14] (fun nv i wr => ∃ (k : Nat) (n : Int), k ≤ M ∧ i = .int .i64 k ∧ nv = .int .i64 n ∧ 0 ≤ n ∧ n ≤ 1048576 ∧ Hid (Below w.heap.size w wr) ∧ Hid (Blk wr w.heap.size 30 (encSc x).toArray)) (fun _ i _ => M - (intOf i).toNat)
  case atStart => exact ⟨0, 0, Nat.zero_le _, rfl, rfl, by omega, by omega, HW0, HX⟩
  case round =>
    rename World => wo
    clear HX HW0
    obtain ⟨k, n, hk, rfl, rfl, hn1, hn2, HW, HX⟩ := hrel
    by_cases hlt : k < M
    · obtain ⟨z, hs⟩ : ∃ z, x.ops[k]? = some z := ⟨_, List.getElem?_eq_getElem (by rw [HLN.out]; omega)⟩
      obtain ⟨b, off, hoa, hbl, hc⟩ := (HS.out.below HW.out).row (by rintro e; rw [e] at hs; simp at hs)
      have HC := Lib.hid (ho_at hc hs)
      have hdl := HD.out z (List.mem_of_getElem? hs)
      rw [hoa]
      have hw1 : IntKind.i64.wrap (n + (z.d.length : Int)) = n + (z.d.length : Int) := IntWalk.i64_in _ (by omega)
      have hq := imin_le (n + (z.d.length : Int)) 1048576
      have HZ5 : Hid ((encH z)[5]? = some (.slice z.a z.d.length z.c)) := rfl
      clear hc hs hoa hbl
      generalize z.d.length = dl at *
      obtain ⟨n1, hn⟩ : ∃ n1, imin (n + (dl : Int)) 1048576 = n1 := ⟨_, rfl⟩
      rw [hn] at hq
      have HN1 := Lib.hid hn
      clear hn
      go_wp2_with (first
        | (refine wpList_loadW W43 rfl rfl rfl (encH z) rfl HC.out ?_)
        | (refine wpList_boxW W43 rfl rfl rfl (encH z) rfl rfl (encH_one z) rfl ?_; go_must (intro W1 HZ hal hz1; have k0 : W1.cell? ⟨wo.heap.size, 5, none⟩ = some (.slice z.a dl z.c) := HZ.list0 HZ5.out; have zz : wo.heap.size < W1.heap.size := (by omega); have HB1 := Lib.hid hal; clear HZ hal))
        | (refine wpList_min rfl rfl rfl rfl ?_; go_must (rw [HN1.out])))
      go_roundw
      case rel => exact ⟨k + 1, n1, by omega, by go_num, rfl, by omega, by omega, HW.out.trans (HB1.out.mono HW.out.size), HX.out.keep HB1.out⟩
      case measure => simp [intOf]; omega
    · obtain rfl : M = k := by omega
      have c1 : wo.cell? ⟨w.heap.size, 1, none⟩ = some (.slice x.ups.a x.ups.l.length x.ups.c) := HX.out.list0 rfl
      have c2 : wo.cell? ⟨w.heap.size, 2, none⟩ = some (.slice x.offs.a x.offs.l.length x.offs.c) := HX.out.list0 rfl
      have c3 : wo.cell? ⟨w.heap.size, 3, none⟩ = some (.slice x.gates.a x.gates.l.length x.gates.c) := HX.out.list0 rfl
      have c4 : wo.cell? ⟨w.heap.size, 4, none⟩ = some (.slice x.guards.a x.guards.l.length x.guards.c) := HX.out.list0 rfl
      have c5 : wo.cell? ⟨w.heap.size, 5, none⟩ = some (.slice x.drifts.a x.drifts.l.length x.drifts.c) := HX.out.list0 rfl
      have c6 : wo.cell? ⟨w.heap.size, 6, none⟩ = some (.slice x.oa L x.oc) := HX.out.list0 (by rw [← HLN.out]; rfl)
      have c7 : wo.cell? ⟨w.heap.size, 7, none⟩ = some (.slice x.fa x.faults.length x.fc) := HX.out.list0 rfl
      generalize x.ups.l.length = L1 at *
      generalize x.offs.l.length = L2 at *
      generalize x.gates.l.length = L3 at *
      generalize x.guards.l.length = L4 at *
      generalize x.drifts.l.length = L5 at *
      generalize x.faults.length = L7 at *
      clear HX HLN HS HD hlt
      by_cases qL1 : (L1 : Int) ≤ 99
      rotate_left
      · have dL1 : decide ((L1 : Int) ≤ 99) = false := by simpa using qL1
        go_wp2
        exact HPF.out _ HW.out
      by_cases qL2 : (L2 : Int) ≤ 99
      rotate_left
      · have dL2 : decide ((L2 : Int) ≤ 99) = false := by simpa using qL2
        go_wp2
        exact HPF.out _ HW.out
      by_cases qL3 : (L3 : Int) ≤ 99
      rotate_left
      · have dL3 : decide ((L3 : Int) ≤ 99) = false := by simpa using qL3
        go_wp2
        exact HPF.out _ HW.out
      by_cases qL4 : (L4 : Int) ≤ 99
      rotate_left
      · have dL4 : decide ((L4 : Int) ≤ 99) = false := by simpa using qL4
        go_wp2
        exact HPF.out _ HW.out
      by_cases qL5 : (L5 : Int) ≤ 1100
      rotate_left
      · have dL5 : decide ((L5 : Int) ≤ 1100) = false := by simpa using qL5
        go_wp2
        exact HPF.out _ HW.out
      by_cases qL : (L : Int) ≤ 300
      rotate_left
      · have dL : decide ((L : Int) ≤ 300) = false := by simpa using qL
        go_wp2
        exact HPF.out _ HW.out
      by_cases qL7 : (L7 : Int) ≤ 300
      rotate_left
      · have dL7 : decide ((L7 : Int) ≤ 300) = false := by simpa using qL7
        go_wp2
        exact HPF.out _ HW.out
      have HSM2 : Hid (Small x) := HSM.out.2 (by omega)
      by_cases qn : n ≤ 9000
      · go_wp2
        exact HPT.out HSM2.out _ _ HW.out
      · have dn : decide (n ≤ 9000) = false := by simpa using qn
        go_wp2
        exact HPF.out _ HW.out
end Go.Proofs.Ytkinhhkodaacjaa
