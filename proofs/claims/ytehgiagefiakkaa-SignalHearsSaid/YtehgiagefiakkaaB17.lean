/- told: the first ones that an iterator tells. -/
import Derived.Test.YtehgiagefiakkaaB12
import Derived.Test.YtehgiagefiakkaaB7
import Derived.Test.YtehgiagefiakkaaOwnIn
namespace Go.Proofs.Ytehgiagefiakkaa
open Go.RowKit Go.Shelf
open Sched (Sp bad)
open Sig
attribute [local go_sem] Oper.semAt_some

theorem run_equalIn_func_nil {P : Program} (w : World) (d : Nat) (t : TypeId) (ps rs : Array TypeId) (v : Bool) (f : Fn) (fi ca : Array Value) (h : P.underlying t = some (.func ps rs v)) :
    (Op.equalIn (d + 1) t (.func f fi ca) .nilFunc).run P w = .ok false w := by
  simp [Op.equalIn, run_underlying h]
theorem run_eql_func_nil {P : Program} (w : World) (t : TypeId) (ps rs : Array TypeId) (v : Bool) (f : Fn) (fi ca : Array Value) (h : P.underlying t = some (.func ps rs v)) :
    (binOp .eql t (.func f fi ca) .nilFunc).run P w = .ok (.bool false) w := by
  simp only [binOp]
  simp [Op.equal, Op.maxDepth, run_equalIn_func_nil w 9999 t ps rs v f fi ca h]
theorem ownsRow_cells {w : World} {base : Nat} {e : TypeId} {size : Nat} {v : Value} {n : Nat} {xs : List Value} (h : w.ownsRow base e size v n xs) {j : Nat} {o : Obj} (hj : v.ownBlock = some j) (ho : w.heap[j]? = some o) : o.isCells = true := by
  rcases h.2 with ⟨rfl, _⟩ | ⟨g, cap, cur, rfl, hg, hh, _⟩
  · simp [Value.ownBlock] at hj
  · have : g = j := by simpa [Value.ownBlock] using hj
    subst this; rw [hh] at ho; cases ho; rfl
theorem grownBy_setCell (W : World) (p : Addr) (v : Value) : W.grownBy (W.setCell p v) (some p.block) :=
  ⟨rfl, rfl, rfl, by simp, fun k _ hk => Below.heap_setCell _ _ _ k (fun e => hk (by rw [e]))⟩
theorem KP.of_low {n₀ hi : Nat} {A B : World} (h : Below n₀ A B) (hn : hi ≤ n₀) : KP n₀ 0 hi A B := ⟨h, fun b _ h2 _ => h.block b (Nat.lt_of_lt_of_le h2 hn)⟩

/-- Between two rounds: how many are wanted, what came so far. -/
def ToldI (most : Int) (w : World) (pre : List Nat) (W : World) : Prop :=
  Blk W w.heap.size 3 #[.int .i64 most] ∧ Below w.heap.size w W ∧ pre.length ≤ most.toNat ∧
  ∃ v, Blk W (w.heap.size + 1) 51 #[v] ∧ W.ownsRow (w.heap.size + 2) 3 1 v pre.length (pre.map encI64)
def ToldX (most : Int) (w : World) (c : Code) (pre : List Nat) (W : World) : Prop :=
  c = .exit 0 ∧ pre.dropLast.length = most.toNat ∧ ToldI most w pre.dropLast W
theorem ToldI.own (most : Int) (w : World) (B : Nat) (hB : w.heap.size ≤ B) : OwnFrom B (ToldI most w) := fun s A A' row hs hg hr => by
  obtain ⟨h1, h2, h3, v, h4, h5⟩ := hs
  have hne : ∀ b t cs, Blk A b t cs → some b ≠ row := fun b t cs hb e => by
    obtain ⟨_, o, ho, hc⟩ := hr b e.symm
    rw [show A.heap[b]? = _ from hb] at ho; cases ho; cases hc
  refine ⟨h1.kept hg (hne _ _ _ h1), h2.grown hg h2.size (fun k e => Nat.le_trans hB (hr k e).1), h3, v, h4.kept hg (hne _ _ _ h4), h5.kept hg ?_⟩
  rcases h5.2 with ⟨rfl, _⟩ | ⟨g, cap, cur, rfl, _, hgb, _⟩
  · exact .inl rfl
  · refine .inr fun e' => ?_
    obtain ⟨_, o, ho, hw⟩ := hr g (by simpa [Value.ownBlock] using e'.symm)
    rw [hgb] at ho; cases ho; cases hw
theorem ToldX.own (most : Int) (w : World) (B : Nat) (hB : w.heap.size ≤ B) (c : Code) : OwnFrom B (ToldX most w c) := fun _ A A' row hs hg hr =>
  ⟨hs.1, hs.2.1, ToldI.own most w B hB _ A A' row hs.2.2 hg hr⟩

def ToldPost (X : List Nat) (most : Int) (w : World) (e : Ending) (w' : World) : Prop :=
  (∃ v, e = .returned v ∧ w'.ownsRow w.heap.size 3 1 v (X.take most.toNat).length ((X.take most.toNat).map encI64)) ∧ Below w.heap.size w w'

theorem told_end {w W : World} {D : Nat} {l : List Nat} {X : List Nat} {most : Int} {v : Value} {a0 : Act} (hD : w.heap.size ≤ D) (hK : W.heap[D]? = some (.deferred (some []))) (hB : Below w.heap.size w W)
    (ho : W.ownsRow (w.heap.size + 2) 3 1 v l.length (l.map encI64)) (hl : l = X.take most.toNat)
    (ht : a0.tmps[4]? = some v) (hd : a0.defers = [{ target := .collected D, args := #[] }]) :
    bodyPostM Fence.wide 3 Try.prog Try.f27 (ToldPost X most w) Exit.ret a0 W := by
  obtain ⟨tmps, df⟩ := a0
  simp only at ht hd
  subst hd hl
  refine ⟨by simp, .inl ⟨_, _, rfl, run_takeDeferred hK, ?_⟩⟩
  refine ⟨v, by simp [results, Try.f27, go_sem, ht], ⟨v, rfl, ?_⟩, hB.trans (belowK_b (w := w) (Nat.le_refl _) W D _ _ hD hK rfl rfl)⟩
  refine (owns_base ho (by omega)).kept (grownBy_putObj' W D _) ?_
  rcases ho.2 with ⟨rfl, _⟩ | ⟨g, cap, cur, rfl, _, hgb, _⟩
  · exact .inl rfl
  · refine .inr fun e' => ?_
    have : g = D := by simpa [Value.ownBlock] using e'
    subst this; rw [hgb] at hK; cases hK

set_option maxRecDepth 100000 in
set_option maxHeartbeats 3200000 in
theorem told_any (gf : Nat) (lb : Array Value) (eg : ∀ args w, (callFunc gf args).run Try.prog w = .ok (.enter gf args) w) (most : Int) (X : List Nat) (N : Nat) (hN : N * 8 ≤ 140737488355328) (w : World)
    (hseq : SeqStopsK Fence.wide 2 Try.prog gf lb encN (KP w.heap.size 0 w.heap.size) (fun xs => xs = X) (fun pre => pre <+: X) N w) :
    Calls Try.prog 27 #[.func (.func gf) #[] lb, .int .i64 most] w (ToldPost X most w) := by
  refine (callsIn_wide (n := 3)).1 ?_
  refine callsIn_of_wp_marks Try.func27 rfl trivial ?_ rfl
  refine wpIn_wide.2 ?_
  simp only [Try.ntmps27, List.size_toArray, List.length_cons, List.length_nil, Nat.reduceAdd, Nat.reduceSub, Array.replicate_succ, Array.replicate_zero, List.push_toArray, List.append_toArray, List.nil_append, List.cons_append]
  have hnf := fun W => run_eql_func_nil (P := Try.prog) W 54 _ _ _ (.func gf) #[] lb Try.underlying54
  go_wp2
  clear hnf
  have h0 : ToldI most w [] ((w.alloc (.cells #[.int .i64 most] 3)).alloc (.cells #[.slice none 0 0] 51)) :=
    ⟨(Blk.new' rfl).alloc _, below2 w _ _, Nat.zero_le _, _, Blk.new' (by simp), World.ownsRow_nil _ _ _ _⟩
  have hsz : ((w.alloc (.cells #[.int .i64 most] 3)).alloc (.cells #[.slice none 0 0] 51)).heap.size = w.heap.size + 2 := by simp
  have hbb := below2 w (.cells #[.int .i64 most] 3) (.cells #[.slice none 0 0] 51)
  generalize (w.alloc (.cells #[.int .i64 most] 3)).alloc (.cells #[.slice none 0 0] 51) = W0 at *
  refine (wpIn_wide (n := 3)).1 ?_
  refine wpIn_rangeFunc_ownF rfl (by omega) (gf := gf) (lb := lb) rfl trivial eg hseq (fun h k => KP.trans h k) (KP.put (by omega) (by omega)) hbb (fun _ => rfl)
    (ToldI most w) (ToldX most w) (ToldI.own most w _ (by omega)) (ToldX.own most w _ (by omega)) h0
    ?a1 ?assign ?body ?done ?stop
  case assign =>
    intro l x W K hK
    unfold encN
    gi_wp2
    exact hK
  case body =>
    rintro y pre x W ⟨h1, h2, h3, v, h4, h5⟩ hlt
    obtain ⟨a, cap, rfl, q1, q2, _⟩ := owns_shape h5
    have c1 : W.cell? ⟨w.heap.size, 0, none⟩ = some (.int .i64 most) := h1.cell 0
    have c2 : W.cell? ⟨w.heap.size + 1, 0, none⟩ = some (.slice a pre.length cap) := h4.cell 0
    have f2 := h4.frozen 0
    have hpre : pre.length * 8 ≤ 140737488355328 := by omega
    by_cases hm : most ≤ (pre.length : Int)
    · have H : ToldX most w (.exit 0) (pre ++ [x]) W := ⟨rfl, by rw [List.dropLast_concat]; omega, by rw [List.dropLast_concat]; exact ⟨h1, h2, h3, _, h4, h5⟩⟩
      have HX := Lib.hid H
      clear H h1 h2 h3 h4 h5
      generalize pre.length = L at *
      gi_wp2
      exact ⟨KeepsOthers.refl _, HX.out⟩
    · have HA := Lib.hid (show most.toNat ≥ (pre ++ [x]).length by simp; omega)
      have H1 := Lib.hid h1
      have H2 := Lib.hid h2
      have H4 := Lib.hid h4
      have H5 := Lib.hid h5
      have hlo : w.heap.size + 2 ≤ W.heap.size := by have := h4.lt; omega
      clear h1 h2 h3 h4 h5
      gi_wp2_with (gi_at_builtin; refine wpListIn_app1 E51 rfl (.tmp 15) (.tmp 17) rfl H5.out [.int .i64 (x : Int)] rfl (by simp [Value.oneCell']) rfl rfl (by omega) (by omega) ?_; intro v' w1 ho hg; obtain ⟨a', cap', rfl, r1, r2, _⟩ := owns_shape ho; have HO := Lib.hid ho; have HG := Lib.hid hg; have B1 := Lib.hid (H1.out.kept hg (fun e => ownsRow_ne H5.out (by omega) e.symm)); have B4 := Lib.hid (H4.out.kept hg (fun e => ownsRow_ne H5.out (by omega) e.symm)); have c2' : w1.cell? ⟨w.heap.size + 1, 0, none⟩ = some (.slice a pre.length cap) := B4.out.cell 0; have f2' := B4.out.frozen 0; clear ho hg c1 c2 f2)
      have hgo := HG.out
      have hfar : (some (w.heap.size + 1)) ≠ (Value.slice a' (pre.length + 1) cap').ownBlock := fun e => ownsRow_ne HO.out (by omega) e.symm
      have hb1 : Below w.heap.size w w1 := H2.out.grown hgo (by omega) (fun k e => by
        rcases Nat.lt_or_ge k (w.heap.size + 2) with h | h
        · exact absurd e (ownsRow_ne H5.out h)
        · omega)
      refine ⟨(KeepsOthers.of_grownBy hgo ?_).trans (KeepsOthers.setCell _ _ _), KP.of_low ?_ (Nat.le_refl _), ?_⟩
      · intro j o e ho
        exact ownsRow_cells H5.out e ho
      · exact ((Below.refl _ _).grown hgo (by omega) (fun k e => by
          rcases Nat.lt_or_ge k (w.heap.size + 2) with h | h
          · exact absurd e (ownsRow_ne H5.out h)
          · omega)).setCell (by simp) _
      · refine ⟨B1.out.far (by simp) _, hb1.setCell (by simp) _, HA.out, _, B4.out.set 0 _, ?_⟩
        have := HO.out.kept (grownBy_setCell w1 ⟨w.heap.size + 1, 0, none⟩ (.slice a' (pre.length + 1) cap')) (Or.inr hfar.symm)
        simpa [encI64] using this
  case done =>
    rintro D ys W hD hys ⟨h1, h2, h3, v, h4, h5⟩ hK
    obtain ⟨av, cv, rfl, _⟩ := owns_shape h5
    have c2 : W.cell? ⟨w.heap.size + 1, 0, none⟩ = some _ := h4.cell 0
    have HE := Lib.hid (fun a0 : Act => told_end (a0 := a0) (X := X) (most := most) (by omega) hK h2 h5 (by rw [← hys, List.take_of_length_le h3]))
    clear h1 h2 h3 h4 h5 hK hys
    go_wp2
    exact HE.out _ rfl rfl
  case stop =>
    rintro D c pre W hD hp ⟨rfl, hx, h1, h2, h3, v, h4, h5⟩ hK
    obtain ⟨av, cv, rfl, _⟩ := owns_shape h5
    have c2 : W.cell? ⟨w.heap.size + 1, 0, none⟩ = some _ := h4.cell 0
    have hl : pre.dropLast = X.take most.toNat := by
      have : pre.dropLast <+: X := (List.dropLast_prefix pre).trans hp
      rw [← hx]
      exact (List.prefix_iff_eq_take.1 this)
    have HE := Lib.hid (fun a0 : Act => told_end (a0 := a0) (X := X) (most := most) (by omega) hK h2 h5 hl)
    clear h1 h2 h3 h4 h5 hK hl hx hp
    generalize pre.dropLast.length = dl at *
    refine wpIn_wide.2 ?_
    go_wp2
    exact HE.out _ rfl rfl

set_option maxRecDepth 100000 in
/-- The first ones that are heard. -/
theorem told_heard (l : List Sg) (a : Option Addr) (L c : Nat) (hlen : l.length * 8 ≤ 140737488355328) (sf st th most : Int) (W : World) (D : Nat) (hD : W.heap.size = D) (h : Sgs W (.slice a L c) l) :
    Calls Try.prog 27 #[.func (.func 44) #[] #[.pointer (some ⟨D, 0, none⟩), .pointer (some ⟨D + 1 + 1, 0, none⟩), .pointer (some ⟨D + 1, 0, none⟩)], .int .i64 most]
      (((W.alloc (.cells #[.slice a L c] 37)).alloc (.cells #[.int .i64 sf, .int .i64 st] 23)).alloc (.cells #[.int .i64 th] 3)) fun e w' =>
        (∃ a' c' n', e = .returned (.slice a' n' c') ∧ n' = ((hitsTo l (sf, st) th l.length).take most.toNat).length ∧ w'.ownsRow D 3 1 (.slice a' n' c') n' (((hitsTo l (sf, st) th l.length).take most.toNat).map encI64)) ∧ Below W.heap.size W w' := by
  subst hD
  have hb := below3 W (.cells #[.slice a L c] 37) (.cells #[.int .i64 sf, .int .i64 st] 23) (.cells #[.int .i64 th] 3)
  have c1 : (((W.alloc (.cells #[.slice a L c] 37)).alloc (.cells #[.int .i64 sf, .int .i64 st] 23)).alloc (.cells #[.int .i64 th] 3)).cell? ⟨W.heap.size, 0, none⟩ = some (.slice a L c) := by go_simp
  have c2 : (((W.alloc (.cells #[.slice a L c] 37)).alloc (.cells #[.int .i64 sf, .int .i64 st] 23)).alloc (.cells #[.int .i64 th] 3)).cell? ⟨W.heap.size + 1 + 1, 0, none⟩ = some (.int .i64 th) := by go_simp
  have c3 : (((W.alloc (.cells #[.slice a L c] 37)).alloc (.cells #[.int .i64 sf, .int .i64 st] 23)).alloc (.cells #[.int .i64 th] 3)).cell? ⟨W.heap.size + 1, 0, none⟩ = some (.int .i64 sf) := by go_simp
  have c4 : (((W.alloc (.cells #[.slice a L c] 37)).alloc (.cells #[.int .i64 sf, .int .i64 st] 23)).alloc (.cells #[.int .i64 th] 3)).cell? ⟨W.heap.size + 1, 1, none⟩ = some (.int .i64 st) := by go_simp
  have hz : (((W.alloc (.cells #[.slice a L c] 37)).alloc (.cells #[.int .i64 sf, .int .i64 st] 23)).alloc (.cells #[.int .i64 th] 3)).heap.size = W.heap.size + 3 := by simp
  generalize ((W.alloc (.cells #[.slice a L c] 37)).alloc (.cells #[.int .i64 sf, .int .i64 st] 23)).alloc (.cells #[.int .i64 th] 3) = W3 at *
  refine (told_any 44 _ (enters_of Try.func44 (by kernel_rfl) rfl) most (hitsTo l (sf, st) th l.length) l.length hlen W3
    (heard_stops 2 (by omega) W.heap.size (W.heap.size + 1 + 1) (W.heap.size + 1) W3.heap.size 0 W3.heap.size (.slice a L c) l (sf, st) th W3 (Nat.le_refl _) c1 c2 ⟨c3, c4⟩ (by omega) (by omega)
      (fun W' hW' => h.below (hb.trans (hW'.mono (by omega)))))).mono ?_
  rintro e w' ⟨⟨v, rfl, ho⟩, hb'⟩
  obtain ⟨a', c', rfl, _⟩ := owns_shape ho
  exact ⟨⟨a', c', _, rfl, rfl, owns_base ho (by omega)⟩, hb.trans (hb'.mono (by omega))⟩
end Go.Proofs.Ytehgiagefiakkaa
