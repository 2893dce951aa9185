/- told: the first ones that an iterator tells. -/
import Derived.Test.YtjaaldeaknmmbaaS5
import Derived.Test.YtjaaldeaknmmbaaKp
import Derived.OwnWalkIn
import Derived.Deep.DeepMust
namespace Go.Proofs.Ytjaaldeaknmmbaa
open Go.RowKit Go.Shelf
attribute [local go_sem] Oper.semAt_some

/-- Between two rounds: how many are wanted, what came so far. -/
def ToldI (most : Int) (w : World) (pre : List Sn) (W : World) : Prop :=
  Blk W w.heap.size 3 #[.int .i64 most] ∧ Below w.heap.size w W ∧ pre.length ≤ most.toNat ∧
  ∃ v, Blk W (w.heap.size + 1) 22 #[v] ∧ W.ownsRow (w.heap.size + 2) 41 23 v pre.length (pre.flatMap encS)
def ToldX (most : Int) (w : World) (c : Code) (pre : List Sn) (W : World) : Prop :=
  c = .exit 0 ∧ pre.dropLast.length = most.toNat ∧ ToldI most w pre.dropLast W
theorem ToldI.own (most : Int) (w : World) (B : Nat) (hB : w.heap.size ≤ B) : OwnFrom B (ToldI most w) := fun s A A' row hs hg hr => by
  obtain ⟨h1, h2, h3, v, h4, h5⟩ := hs
  have hne : ∀ b t cs, Blk A b t cs → some b ≠ row := fun b t cs hb e => by
    obtain ⟨_, o, ho, hc⟩ := hr b e.symm
    rw [show A.heap[b]? = _ from hb] at ho; cases ho; cases hc
  refine ⟨h1.kept hg (hne _ _ _ h1), h2.grown hg h2.size (fun k e => Nat.le_trans hB (hr k e).1), h3, v, h4.kept hg (hne _ _ _ h4), h5.kept hg ?_⟩
  rcases h5.2 with ⟨rfl, _⟩ | ⟨g, cap, cur, rfl, _, hgb, _⟩
  · exact .inl rfl
  · refine .inr fun e' => ?_
    obtain ⟨_, o, ho, hw⟩ := hr g (by simpa [Value.ownBlock] using e'.symm)
    rw [hgb] at ho; cases ho; cases hw
theorem ToldX.own (most : Int) (w : World) (B : Nat) (hB : w.heap.size ≤ B) (c : Code) : OwnFrom B (ToldX most w c) := fun _ A A' row hs hg hr =>
  ⟨hs.1, hs.2.1, ToldI.own most w B hB _ A A' row hs.2.2 hg hr⟩
def ToldPost (X : List Sn) (most : Int) (w : World) (e : Ending) (w' : World) : Prop :=
  (∃ v, e = .returned v ∧ w'.ownsRow w.heap.size 41 23 v (X.take most.toNat).length ((X.take most.toNat).flatMap encS)) ∧ Below w.heap.size w w'
theorem told_end {w W : World} {D : Nat} {l : List Sn} {X : List Sn} {most : Int} {v : Value} {a0 : Act} (hD : w.heap.size ≤ D) (hK : W.heap[D]? = some (.deferred (some []))) (hB : Below w.heap.size w W)
    (ho : W.ownsRow (w.heap.size + 2) 41 23 v l.length (l.flatMap encS)) (hl : l = X.take most.toNat)
    (ht : a0.tmps[4]? = some v) (hd : a0.defers = [{ target := .collected D, args := #[] }]) :
    bodyPostM Fence.wide 3 Try.prog Try.f13 (ToldPost X most w) Exit.ret a0 W := by
  obtain ⟨tmps, df⟩ := a0
  simp only at ht hd
  subst hd hl
  refine ⟨by simp, .inl ⟨_, _, rfl, run_takeDeferred hK, ?_⟩⟩
  refine ⟨v, by simp [results, Try.f13, go_sem, ht], ⟨v, rfl, ?_⟩, hB.trans (belowK_b (w := w) (Nat.le_refl _) W D _ _ hD hK rfl rfl)⟩
  refine (ownsRow_mono ho (by omega)).kept (grownBy_putObj' W D _) ?_
  rcases ho.2 with ⟨rfl, _⟩ | ⟨g, cap, cur, rfl, _, hgb, _⟩
  · exact .inl rfl
  · refine .inr fun e' => ?_
    have : g = D := by simpa [Value.ownBlock] using e'
    subst this; rw [hgb] at hK; cases hK
theorem own_set {w : World} {base e size n : Nat} {v : Value} {xs : List Value} (h : w.ownsRow base e size v n xs) {p : Addr} (hp : p.block < base) (u : Value) : (w.setCell p u).ownsRow base e size v n xs := by
  refine h.kept (grownBy_setCell w p u) ?_
  rcases h.2 with ⟨rfl, _⟩ | ⟨g, cap, cur, rfl, hg, _, _⟩
  · exact .inl rfl
  · refine .inr fun e' => ?_
    have : g = p.block := by simpa [Value.ownBlock] using e'
    omega

set_option maxRecDepth 100000 in
set_option maxHeartbeats 1600000 in
theorem told_any (gf : Nat) (lb : Array Value) (eg : ∀ args w, (callFunc gf args).run Try.prog w = .ok (.enter gf args) w) (most : Int) (X : List Sn) (N : Nat) (hN : N ≤ 100000) (w : World)
    (hseq : SeqStopsK Fence.wide 2 Try.prog gf lb encQ (KP w.heap.size 0 w.heap.size) (fun xs => xs = X) (fun pre => pre <+: X) N w) :
    Calls Try.prog 13 #[.func (.func gf) #[] lb, .int .i64 most] w (ToldPost X most w) := by
  refine (callsIn_wide (n := 3)).1 ?_
  refine callsIn_of_wp_marks Try.func13 rfl trivial ?_ rfl
  refine wpIn_wide.2 ?_
  simp only [Try.ntmps13, List.size_toArray, List.length_cons, List.length_nil, Nat.reduceAdd, Nat.reduceSub, Array.replicate_succ, Array.replicate_zero, List.push_toArray, List.append_toArray, List.nil_append, List.cons_append]
  have hnf := fun W => run_eql_func_nil (P := Try.prog) W 46 _ _ _ (.func gf) #[] lb Try.underlying46
  go_wp2
  clear hnf
  have h0 : ToldI most w [] ((w.alloc (.cells #[.int .i64 most] 3)).alloc (.cells #[.slice none 0 0] 22)) :=
    ⟨(Blk.new' rfl).alloc _, below2 w _ _, Nat.zero_le _, _, Blk.new' (by simp), World.ownsRow_nil _ _ _ _⟩
  have hsz : ((w.alloc (.cells #[.int .i64 most] 3)).alloc (.cells #[.slice none 0 0] 22)).heap.size = w.heap.size + 2 := by simp
  have hbb := below2 w (.cells #[.int .i64 most] 3) (.cells #[.slice none 0 0] 22)
  generalize (w.alloc (.cells #[.int .i64 most] 3)).alloc (.cells #[.slice none 0 0] 22) = W0 at *
  refine (wpIn_wide (n := 3)).1 ?_
  refine wpIn_rangeFunc_ownH rfl (by omega) (gf := gf) (lb := lb) rfl trivial eg hseq (fun h k => KP.trans h k) (KP.put (by omega) (by omega)) hbb (fun _ => rfl)
    (ToldI most w) (ToldX most w) (ToldI.own most w _ (by omega)) (ToldX.own most w _ (by omega)) h0
    (fun x a' W => ∃ bx, a' = { tmps := #[.func (.func gf) #[] lb, .int .i64 most, undef, .pointer (some ⟨w.heap.size, 0, none⟩), .slice none 0 0, .pointer (some ⟨w.heap.size + 1, 0, none⟩), .pointer (some ⟨bx, 0, none⟩), .func (.func gf) #[] lb, .bool false, .func (.func gf) #[] lb, .agg (encS x).toArray, undef, undef, undef, undef, undef, undef, undef, undef, undef], defers := [] } ∧ Blk W bx 41 (encS x).toArray ∧ w.heap.size + 2 ≤ bx)
    (fun x a' s A B row hs hg hr => by obtain ⟨bx, h1, h2, h3⟩ := hs; exact ⟨bx, h1, Blk.own _ _ _ s A B row h2 hg (fun r e => (hr r e).2), h3⟩)
    ?assign ?body ?done ?stop
  case assign =>
    rintro y pre x W K hI hK
    unfold encQ
    gi_wp2_with (refine wpListIn_storeW W41 rfl rfl rfl (encS x) rfl rfl (encS_one x) rfl ?_)
    have hs4 : w.heap.size + 2 ≤ W.heap.size := by have := hI.2.2.2.choose_spec.1.lt; omega
    exact hK _ _ ((KeepsOthers.alloc _ _).from _) (KP.of_low ((below1 _ _).mono (by omega)) (Nat.le_refl _)) (ToldI.own most w (w.heap.size + 2) (by omega) _ _ _ none hI (World.grownBy_alloc _ _ _) (by intro r h; cases h)) ⟨W.heap.size, rfl, Blk.new' rfl, hs4⟩
  case body =>
    rintro y pre x a' W hl hr ⟨h1, h2, h3, v, h4, h5⟩ ⟨bx, rfl, DX, hbx⟩ hlt
    clear hl hr
    obtain ⟨a, cap, rfl, q1, q2, _⟩ := owns_shape h5
    have HK := Lib.hid DX.list
    have c1 : W.cell? ⟨w.heap.size, 0, none⟩ = some (.int .i64 most) := h1.cell 0
    have c2 : W.cell? ⟨w.heap.size + 1, 0, none⟩ = some (.slice a pre.length cap) := h4.cell 0
    have f2 : W.frozen? ⟨w.heap.size + 1, 0, none⟩ = false := h4.frozen 0
    have hpre : pre.length ≤ 100000 := by omega
    have hz : w.heap.size + 2 ≤ W.heap.size := by have := h4.lt; omega
    clear DX hbx
    by_cases hm : most ≤ (pre.length : Int)
    · have H : ToldX most w (.exit 0) (pre ++ [x]) W := ⟨rfl, by rw [List.dropLast_concat]; omega, by rw [List.dropLast_concat]; exact ⟨h1, h2, h3, _, h4, h5⟩⟩
      have HXX := Lib.hid H
      clear H h1 h2 h3 h4 h5
      generalize pre.length = L at *
      gi_wp2
      exact ⟨(KeepsOthers.refl _).from _, HXX.out⟩
    · have HA := Lib.hid (show (pre ++ [x]).length ≤ most.toNat by simp; omega)
      have H1 := Lib.hid h1
      have H2 := Lib.hid h2
      have H4 := Lib.hid h4
      have H5 := Lib.hid h5
      clear h1 h2 h3 h4 h5
      gi_wp2_with (first
        | (refine wpListIn_loadW W41 rfl rfl rfl (encS x) rfl HK.out ?_)
        | (refine wpListIn_sliceW E22 (by decide) rfl rfl (encS x) rfl rfl ?_)
        | (gi_at_builtin; refine wpListIn_app1 E22 rfl (.tmp 15) (.tmp 17) rfl H5.out (encS x) rfl (encS_one x) rfl rfl (by omega) (by omega) ?_; intro v' w1 ho hg; obtain ⟨a', cap', rfl, r1, r2, _⟩ := owns_shape ho; have HO := Lib.hid ho; have HG := Lib.hid hg; have B1 := Lib.hid (H1.out.kept hg (fun e => ownsRow_ne H5.out (by omega) e.symm)); have B4 := Lib.hid (H4.out.kept hg (fun e => ownsRow_ne H5.out (by omega) e.symm)); have c2' : w1.cell? ⟨w.heap.size + 1, 0, none⟩ = some (.slice a pre.length cap) := B4.out.cell 0; have f2' : w1.frozen? ⟨w.heap.size + 1, 0, none⟩ = false := B4.out.frozen 0; clear ho hg c1 c2 f2))
      have hgo := HG.out
      have hfar : (some (w.heap.size + 1)) ≠ (Value.slice a' (pre.length + 1) cap').ownBlock := fun e => ownsRow_ne HO.out (by omega) e.symm
      have hbg : ∀ {A : World}, Below w.heap.size A W → Below w.heap.size A w1 := fun h => h.grown hgo (by have := h.size; omega) (fun k e => by
        rcases Nat.lt_or_ge k (w.heap.size + 2) with h | h
        · exact absurd e (ownsRow_ne H5.out h)
        · omega)
      refine ⟨((KeepsOthers.of_grownBy hgo ?_).trans (KeepsOthers.setCell _ _ _)).from _, KP.of_low ((hbg (Below.refl _ _)).setCell (by simp) _) (Nat.le_refl _), ?_⟩
      · intro j o e ho
        exact own_cells H5.out e ho
      · refine ⟨B1.out.far (by simp) _, (hbg H2.out).setCell (by simp) _, HA.out, _, B4.out.set 0 _, ?_⟩
        have := own_set HO.out (p := ⟨w.heap.size + 1, 0, none⟩) (by simp) (.slice a' (pre.length + 1) cap')
        simpa using this
  case done =>
    rintro D ys W hD hys ⟨h1, h2, h3, v, h4, h5⟩ hK
    obtain ⟨av, cv, rfl, _⟩ := owns_shape h5
    have c2 : W.cell? ⟨w.heap.size + 1, 0, none⟩ = some _ := h4.cell 0
    have HE := Lib.hid (fun a0 : Act => told_end (a0 := a0) (X := X) (most := most) (by omega) hK h2 h5 (by rw [← hys, List.take_of_length_le h3]))
    clear h1 h2 h3 h4 h5 hK hys
    go_wp2
    exact HE.out _ rfl rfl
  case stop =>
    rintro D c pre W hD hp ⟨rfl, hx, h1, h2, h3, v, h4, h5⟩ hK
    obtain ⟨av, cv, rfl, _⟩ := owns_shape h5
    have c2 : W.cell? ⟨w.heap.size + 1, 0, none⟩ = some _ := h4.cell 0
    have hl : pre.dropLast = X.take most.toNat := by
      have : pre.dropLast <+: X := (List.dropLast_prefix pre).trans hp
      rw [← hx]
      exact (List.prefix_iff_eq_take.1 this)
    have HE := Lib.hid (fun a0 : Act => told_end (a0 := a0) (X := X) (most := most) (by omega) hK h2 h5 hl)
    clear h1 h2 h3 h4 h5 hK hl hx hp
    generalize pre.dropLast.length = dl at *
    refine wpIn_wide.2 ?_
    go_wp2
    exact HE.out _ rfl rfl
end Go.Proofs.Ytjaaldeaknmmbaa
