/- told: the first pairs that an iterator tells. -/
import Derived.Test.YtiahmhmchppjgaaQ7
import Derived.Sort.CutIn
import Derived.OwnWalkIn
namespace Go.Proofs.Ytiahmhmchppjgaa
open Go.RowKit Go.Shelf
open Sched (Sp bad)
attribute [local go_sem] Oper.semAt_some

theorem wpListIn_app {F : Fence} {nF : Nat} {P : Program} {w : World} {ops : Array Oper} {rest : List Oper} {o : Oper} {a : Act} {Q : Exit → Act → World → Prop} {base : Nat} {t e : TypeId} {z : Value} {size bytes : Nat} (E : Elem P t e z size bytes)
    (hgd : o.guard = none) (s x : Operand) (ho : o.op = .call { callee := .builtin .append, args := #[s, x], argTypes := #[t, t] })
    {v : Value} {n : Nat} {xs : List Value} (hown : w.ownsRow base e size v n xs) {sv : Value} {m : Nat} {news : List Value} (hsrc : Src w sv m news size) (hs : a.eval s = v) (hx : a.eval x = sv) (hby : (n + m) * bytes ≤ 140737488355328) (hbase : base ≤ w.heap.size)
    (h : ∀ v' w', w'.ownsRow base e size v' (n + m) (xs ++ news) → w.grownBy w' v.ownBlock → (v' = .slice none 0 0 ↔ v = .slice none 0 0 ∧ m = 0) → wpListIn F nF P ops Q rest (a.put o.dst v') w') : wpListIn F nF P ops Q (o :: rest) a w := by
  refine wpListIn_plain hgd fun _ hK => ?_
  obtain ⟨v', w', hr, h2, h3, h4⟩ := run_app (ty := o.type) E hown hsrc hby hbase
  unfold Oper.wpIn
  refine ⟨?_, ?_⟩
  · simp [Oper.about, ho, resolve, Target.leads, Sem.run_pure]
  · rw [Oper.semAt_plain F _ _ (by rw [ho]; intro c hc'; cases hc')]
    simp [execOp, ho, resolve, invoke, builtin, hs, hx, hr, Result.andThen]
    exact hK _ _ (h v' w' h2 h3 h4)

/-- 'append(xs, x)': x of size cells cs, which the walk has laid in a new block. -/
theorem wpListIn_app1 {F : Fence} {nF : Nat} {P : Program} {w : World} {ops : Array Oper} {rest : List Oper} {o : Oper} {a : Act} {Q : Exit → Act → World → Prop} {base : Nat} {t e te : TypeId} {z : Value} {size bytes : Nat} (E : Elem P t e z size bytes)
    (hgd : o.guard = none) (s x : Operand) (ho : o.op = .call { callee := .builtin .append, args := #[s, x], argTypes := #[t, t] })
    {v : Value} {n : Nat} {xs : List Value} (hown : w.ownsRow base e size v n xs) (cs : List Value) (hcs : cs.length = size) (h1 : ∀ u ∈ cs, u.oneCell' = true)
    (hs : a.eval s = v) (hx : a.eval x = .slice (some ⟨w.heap.size, 0, none⟩) 1 1) (hby : (n + 1) * bytes ≤ 140737488355328) (hbase : base ≤ w.heap.size)
    (h : ∀ v' w', w'.ownsRow base e size v' (n + 1) (xs ++ cs) → w.grownBy w' v.ownBlock → wpListIn F nF P ops Q rest (a.put o.dst v') w') : wpListIn F nF P ops Q (o :: rest) a (w.alloc (.cells cs.toArray te)) := by
  have hsrc : Src (w.alloc (.cells cs.toArray te)) (.slice (some ⟨w.heap.size, 0, none⟩) 1 1) 1 cs size :=
    ⟨_, _, rfl, by omega, h1, .inr ⟨_, rfl, fun j u hu => by
      rw [Addr.add_lit, World.cell?_alloc_at _ _ _ _ rfl]
      simpa using hu⟩⟩
  refine wpListIn_app E hgd s x ho (hown.alloc _) hsrc hs hx hby (by simp; omega) fun v' w' ho' hg _ => h v' w' ho' ?_
  exact ⟨hg.os, hg.tape, hg.output, by have := hg.size; simp at this; omega, fun k hk hne => (hg.block k (by simp; omega) hne).trans (Below.heap_alloc _ _ _ hk)⟩

theorem slots_any (s l nn f t : Int) (w : World) :
    Calls Try.prog 32 #[.agg #[.int .i64 s, .int .i64 l, .int .i64 nn], .agg #[.int .i64 f, .int .i64 t]] w fun e w' => e = .returned (.func (.func 43) #[] #[.pointer (some ⟨w.heap.size, 0, none⟩), .pointer (some ⟨w.heap.size + 1, 0, none⟩)]) ∧
      (w.alloc (.cells #[.int .i64 s, .int .i64 l, .int .i64 nn] 40)).alloc (.cells #[.int .i64 f, .int .i64 t] 23) = w' := by
  go_enter Try.func32, Try.ntmps32
  go_wp2
  go_ret
  exact ⟨rfl, rfl⟩
theorem slots_stops (n : Nat) (hn : 1 ≤ n) (g1 g2 n₀ : Nat) (s l nn f t : Int) (w : World) (hn₀ : n₀ ≤ w.heap.size) (h1 : w.cell? ⟨g1, 0, none⟩ = some (.int .i64 s) ∧ w.cell? ⟨g1, 1, none⟩ = some (.int .i64 l) ∧ w.cell? ⟨g1, 2, none⟩ = some (.int .i64 nn))
    (h2 : w.cell? ⟨g2, 0, none⟩ = some (.int .i64 f) ∧ w.cell? ⟨g2, 1, none⟩ = some (.int .i64 t)) (b1 : g1 < n₀) (b2 : g2 < n₀) :
    SeqStopsK Fence.wide n Try.prog 43 #[.pointer (some ⟨g1, 0, none⟩), .pointer (some ⟨g2, 0, none⟩)] encP (fun A B => Below n₀ A B) (fun xs => xs = slotsS s l nn f t) (fun pre => pre <+: slotsS s l nn f t) (cntS s l f t) w :=
  fun y J Jx W hW hJ _ hY h0 => slots1_in n hn y g1 g2 n₀ s l nn f t J Jx W hJ hY (Nat.le_trans hn₀ hW.size) ⟨keepCell hW h1.1, keepCell hW h1.2.1, keepCell hW h1.2.2⟩ ⟨keepCell hW h2.1, keepCell hW h2.2⟩ b1 b2 h0

/-- The first number, and whether the numbers rise by one. -/
def stepP (st : Nat × Int × Bool) (x : Int × Sp) : Nat × Int × Bool :=
  (st.1 + 1, if st.1 = 0 then x.1 else st.2.1, st.2.2 && (x.1 == wrap64 ((if st.1 = 0 then x.1 else st.2.1) + (st.1 : Int))))
def stP (pre : List (Int × Sp)) : Nat × Int × Bool := pre.foldl stepP (0, 0, true)
theorem stP_snoc (pre : List (Int × Sp)) (x : Int × Sp) : stP (pre ++ [x]) = stepP (stP pre) x := by
  unfold stP; rw [List.foldl_append]; rfl
theorem stP_len : ∀ (pre : List (Int × Sp)) (st : Nat × Int × Bool), (pre.foldl stepP st).1 = st.1 + pre.length
  | [], _ => by simp
  | x :: pre, st => by simp only [List.foldl_cons, List.length_cons]; rw [stP_len pre]; unfold stepP; dsimp only; omega
theorem stP_fst (pre : List (Int × Sp)) : (stP pre).1 = pre.length := by unfold stP; rw [stP_len]; simp
theorem encP_len (l : List (Int × Sp)) : (l.map (·.2)).length = l.length := List.length_map ..

/-- Between two rounds. -/
def ToldI (most : Int) (w : World) (pre : List (Int × Sp)) (W : World) : Prop :=
  Blk W w.heap.size 3 #[.int .i64 most] ∧ Below w.heap.size w W ∧ pre.length ≤ most.toNat ∧
  Blk W (w.heap.size + 2) 3 #[.int .i64 (stP pre).2.1] ∧ Blk W (w.heap.size + 3) 4 #[.bool (stP pre).2.2] ∧
  ∃ v, Blk W (w.heap.size + 1) 29 #[v] ∧ W.ownsRow (w.heap.size + 4) 23 2 v pre.length ((pre.map (·.2)).flatMap encSp)
def ToldX (most : Int) (w : World) (c : Code) (pre : List (Int × Sp)) (W : World) : Prop :=
  c = .exit 0 ∧ pre.dropLast.length = most.toNat ∧ ToldI most w pre.dropLast W
theorem ToldI.own (most : Int) (w : World) (B : Nat) (hB : w.heap.size ≤ B) : OwnFrom B (ToldI most w) := fun s A A' row hs hg hr => by
  obtain ⟨h1, h2, h3, h6, h7, v, h4, h5⟩ := hs
  have hne : ∀ b t cs, Blk A b t cs → some b ≠ row := fun b t cs hb e => by
    obtain ⟨_, o, ho, hc⟩ := hr b e.symm
    rw [show A.heap[b]? = _ from hb] at ho; cases ho; cases hc
  refine ⟨h1.kept hg (hne _ _ _ h1), h2.grown hg h2.size (fun k e => Nat.le_trans hB (hr k e).1), h3, h6.kept hg (hne _ _ _ h6), h7.kept hg (hne _ _ _ h7), v, h4.kept hg (hne _ _ _ h4), h5.kept hg ?_⟩
  rcases h5.2 with ⟨rfl, _⟩ | ⟨g, cap, cur, rfl, _, hgb, _⟩
  · exact .inl rfl
  · refine .inr fun e' => ?_
    obtain ⟨_, o, ho, hw⟩ := hr g (by simpa [Value.ownBlock] using e'.symm)
    rw [hgb] at ho; cases ho; cases hw
theorem ToldX.own (most : Int) (w : World) (B : Nat) (hB : w.heap.size ≤ B) (c : Code) : OwnFrom B (ToldX most w c) := fun _ A A' row hs hg hr =>
  ⟨hs.1, hs.2.1, ToldI.own most w B hB _ A A' row hs.2.2 hg hr⟩
def ToldPost (X : List (Int × Sp)) (most : Int) (w : World) (e : Ending) (w' : World) : Prop :=
  (∃ v, e = .returned (.tuple #[.int .i64 (stP (X.take most.toNat)).2.1, v, .bool (stP (X.take most.toNat)).2.2]) ∧ w'.ownsRow w.heap.size 23 2 v (X.take most.toNat).length (((X.take most.toNat).map (·.2)).flatMap encSp)) ∧ Below w.heap.size w w'
theorem told_end {w W : World} {D : Nat} {l : List (Int × Sp)} {X : List (Int × Sp)} {most : Int} {v : Value} {a0 : Act} (hD : w.heap.size ≤ D) (hK : W.heap[D]? = some (.deferred (some []))) (hB : Below w.heap.size w W)
    (ho : W.ownsRow (w.heap.size + 4) 23 2 v l.length ((l.map (·.2)).flatMap encSp)) (hl : l = X.take most.toNat)
    (ht4 : a0.tmps[4]? = some (.int .i64 (stP l).2.1)) (ht5 : a0.tmps[5]? = some v) (ht6 : a0.tmps[6]? = some (.bool (stP l).2.2)) (hd : a0.defers = [{ target := .collected D, args := #[] }]) :
    bodyPostM Fence.wide 3 Try.prog Try.f31 (ToldPost X most w) Exit.ret a0 W := by
  obtain ⟨tmps, df⟩ := a0
  simp only at ht4 ht5 ht6 hd
  subst hd hl
  refine ⟨by simp, .inl ⟨_, _, rfl, run_takeDeferred hK, ?_⟩⟩
  refine ⟨.tuple #[.int .i64 (stP (X.take most.toNat)).2.1, v, .bool (stP (X.take most.toNat)).2.2], by simp [results, Try.f31, go_sem, ht4, ht5, ht6], ⟨v, rfl, ?_⟩, hB.trans (belowK_b (w := w) (Nat.le_refl _) W D _ _ hD hK rfl rfl)⟩
  refine (ownsRow_mono ho (by omega)).kept (grownBy_putObj' W D _) ?_
  rcases ho.2 with ⟨rfl, _⟩ | ⟨g, cap, cur, rfl, _, hgb, _⟩
  · exact .inl rfl
  · refine .inr fun e' => ?_
    have : g = D := by simpa [Value.ownBlock] using e'
    subst this; rw [hgb] at hK; cases hK

/-- A round's memory ahead of the append. -/
def Mid (most : Int) (w : World) (pre : List (Int × Sp)) (x : Int × Sp) (bx : Nat) (v : Value) (W W1 : World) : Prop :=
  Blk W1 w.heap.size 3 #[.int .i64 most] ∧ Below w.heap.size w W1 ∧ Blk W1 (w.heap.size + 2) 3 #[.int .i64 (stP (pre ++ [x])).2.1] ∧ Blk W1 (w.heap.size + 3) 4 #[.bool (stP (pre ++ [x])).2.2] ∧
  Blk W1 (w.heap.size + 1) 29 #[v] ∧ W1.ownsRow (w.heap.size + 4) 23 2 v pre.length ((pre.map (·.2)).flatMap encSp) ∧ Blk W1 bx 23 #[.int .i64 x.2.1, .int .i64 x.2.2] ∧ KeepsOthers W W1 ∧ Below w.heap.size W W1 ∧ W1.heap.size = W.heap.size
theorem own_set {w : World} {base e size n : Nat} {v : Value} {xs : List Value} (h : w.ownsRow base e size v n xs) {p : Addr} (hp : p.block < base) (u : Value) : (w.setCell p u).ownsRow base e size v n xs := by
  refine h.kept (grownBy_setCell w p u) ?_
  rcases h.2 with ⟨rfl, _⟩ | ⟨g, cap, cur, rfl, hg, _, _⟩
  · exact .inl rfl
  · refine .inr fun e' => ?_
    have : g = p.block := by simpa [Value.ownBlock] using e'
    omega
theorem mid_ok {most : Int} {w : World} {pre : List (Int × Sp)} {x : Int × Sp} {bx : Nat} {v : Value} {W : World} {F : Int} {K : Bool} (h1 : Blk W w.heap.size 3 #[.int .i64 most]) (h2 : Below w.heap.size w W)
    (h6 : Blk W (w.heap.size + 2) 3 #[.int .i64 F]) (h7 : Blk W (w.heap.size + 3) 4 #[.bool K]) (h4 : Blk W (w.heap.size + 1) 29 #[v]) (h5 : W.ownsRow (w.heap.size + 4) 23 2 v pre.length ((pre.map (·.2)).flatMap encSp))
    (hx : Blk W bx 23 #[.int .i64 x.2.1, .int .i64 x.2.2]) (hbx : w.heap.size + 4 ≤ bx) (b : Bool) (e1 : F = (stP (pre ++ [x])).2.1) (e2 : b = (stP (pre ++ [x])).2.2) :
    Mid most w pre x bx v W (W.setCell ⟨w.heap.size + 1 + 1 + 1, 0, none⟩ (.bool b)) := by
  subst e1 e2
  exact ⟨h1.far (by simp; omega) _, h2.setCell (by simp; omega) _, h6.far (by simp) _, h7.set 0 _, h4.far (by simp) _, own_set h5 (by simp) _, hx.far (by simp; omega) _, KeepsOthers.setCell _ _ _, (Below.refl _ _).setCell (by simp; omega) _, by simp⟩
theorem mid_first {most : Int} {w : World} {pre : List (Int × Sp)} {x : Int × Sp} {bx : Nat} {v : Value} {W : World} {F : Int} {K : Bool} (h1 : Blk W w.heap.size 3 #[.int .i64 most]) (h2 : Below w.heap.size w W)
    (h6 : Blk W (w.heap.size + 2) 3 #[.int .i64 F]) (h7 : Blk W (w.heap.size + 3) 4 #[.bool K]) (h4 : Blk W (w.heap.size + 1) 29 #[v]) (h5 : W.ownsRow (w.heap.size + 4) 23 2 v pre.length ((pre.map (·.2)).flatMap encSp))
    (hx : Blk W bx 23 #[.int .i64 x.2.1, .int .i64 x.2.2]) (hbx : w.heap.size + 4 ≤ bx) (b : Bool) (e1 : x.1 = (stP (pre ++ [x])).2.1) (e2 : b = (stP (pre ++ [x])).2.2) :
    Mid most w pre x bx v W ((W.setCell ⟨w.heap.size + 1 + 1, 0, none⟩ (.int .i64 x.1)).setCell ⟨w.heap.size + 1 + 1 + 1, 0, none⟩ (.bool b)) := by
  obtain ⟨q1, q2, q3, q4, q5, q6, q7, q8, q9, q10⟩ := mid_ok (h1.far (p := ⟨w.heap.size + 1 + 1, 0, none⟩) (by simp; omega) (.int .i64 x.1)) (h2.setCell (by simp; omega) _) (h6.set 0 (.int .i64 x.1)) (h7.far (by simp) _) (h4.far (by simp) _) (own_set h5 (by simp) _) (hx.far (by simp; omega) _) hbx b e1 e2
  exact ⟨q1, q2, q3, q4, q5, q6, q7, (KeepsOthers.setCell _ _ _).trans q8, ((Below.refl _ _).setCell (by simp; omega) _).trans (q9.mono (Nat.le_refl _)), q10.trans (by simp)⟩

set_option maxRecDepth 100000 in
set_option maxHeartbeats 1200000 in
theorem told_any (gf : Nat) (lb : Array Value) (eg : ∀ args w, (callFunc gf args).run Try.prog w = .ok (.enter gf args) w) (most : Int) (hm1 : most ≤ 255) (X : List (Int × Sp)) (N : Nat) (w : World)
    (hseq : SeqStopsK Fence.wide 2 Try.prog gf lb encP (fun A B => Below w.heap.size A B) (fun xs => xs = X) (fun pre => pre <+: X) N w) :
    Calls Try.prog 31 #[.func (.func gf) #[] lb, .int .i64 most] w (ToldPost X most w) := by
  refine (callsIn_wide (n := 3)).1 ?_
  refine callsIn_of_wp_marks Try.func31 rfl trivial ?_ rfl
  refine wpIn_wide.2 ?_
  simp only [Try.ntmps31, List.size_toArray, List.length_cons, List.length_nil, Nat.reduceAdd, Nat.reduceSub, Array.replicate_succ, Array.replicate_zero, List.push_toArray, List.append_toArray, List.nil_append, List.cons_append]
  have hnf := fun W => run_eql_func_nil (P := Try.prog) W 51 _ _ _ (.func gf) #[] lb Try.underlying51
  go_wp2
  clear hnf
  have h0 : ToldI most w [] ((((((w.alloc (.cells #[.int .i64 most] 3)).alloc (.cells #[.slice none 0 0] 29)).alloc (.cells #[.int .i64 0] 3)).alloc (.cells #[.bool true] 4)))) :=
    ⟨(((Blk.new' rfl).alloc _).alloc _).alloc _, ((below2 w _ _).alloc (by simp; omega) _).alloc (by simp; omega) _, Nat.zero_le _, (Blk.new' (by simp)).alloc _, Blk.new' (by simp), _, ((Blk.new' (by simp)).alloc _).alloc _, World.ownsRow_nil _ _ _ _⟩
  have hsz : ((((((w.alloc (.cells #[.int .i64 most] 3)).alloc (.cells #[.slice none 0 0] 29)).alloc (.cells #[.int .i64 0] 3)).alloc (.cells #[.bool true] 4)))).heap.size = w.heap.size + 4 := by simp
  have hbb : Below w.heap.size w ((((((w.alloc (.cells #[.int .i64 most] 3)).alloc (.cells #[.slice none 0 0] 29)).alloc (.cells #[.int .i64 0] 3)).alloc (.cells #[.bool true] 4)))) := h0.2.1
  generalize ((((((w.alloc (.cells #[.int .i64 most] 3)).alloc (.cells #[.slice none 0 0] 29)).alloc (.cells #[.int .i64 0] 3)).alloc (.cells #[.bool true] 4)))) = W0 at *
  refine (wpIn_wide (n := 3)).1 ?_
  refine wpIn_rangeFunc_ownH rfl (by omega) (gf := gf) (lb := lb) rfl trivial eg hseq (fun h k => Below.trans h k) (fun W l o o' hl h hc hw => belowK_b (by omega) W l o o' hl h hc hw) hbb (fun _ => rfl)
    (ToldI most w) (ToldX most w) (ToldI.own most w _ (by omega)) (ToldX.own most w _ (by omega)) h0
    (fun x a' W => ∃ bx, a' = { tmps := #[.func (.func gf) #[] lb, .int .i64 most, undef, .pointer (some ⟨w.heap.size, 0, none⟩), .int .i64 0, .slice none 0 0, .bool false, .pointer (some ⟨w.heap.size + 1, 0, none⟩), .pointer (some ⟨w.heap.size + 1 + 1, 0, none⟩), .pointer (some ⟨w.heap.size + 1 + 1 + 1, 0, none⟩), .int .i64 x.1, .pointer (some ⟨bx, 0, none⟩), .func (.func gf) #[] lb, .bool false, .func (.func gf) #[] lb, .int .i64 x.1, .agg #[.int .i64 x.2.1, .int .i64 x.2.2], undef, undef, undef, undef, undef, undef, undef, undef, undef, undef, undef, undef, undef, undef, undef, undef, undef, undef, undef, undef, undef, undef, undef, undef], defers := [] } ∧ Blk W bx 23 #[.int .i64 x.2.1, .int .i64 x.2.2] ∧ w.heap.size + 4 ≤ bx)
    (fun x a' s A B row hs hg hr => by obtain ⟨bx, h1, h2, h3⟩ := hs; exact ⟨bx, h1, Blk.own _ _ _ s A B row h2 hg (fun r e => (hr r e).2), h3⟩)
    ?assign ?body ?done ?stop
  case assign =>
    rintro y pre x W K hI hK
    unfold encP
    gi_wp2
    have hs4 : w.heap.size + 4 ≤ W.heap.size := by have := hI.2.2.2.2.1.lt; omega
    exact hK _ _ ((KeepsOthers.alloc _ _).from _) ((below1 _ _).mono (by omega)) (ToldI.own most w (w.heap.size + 4) (by omega) _ _ _ none hI (World.grownBy_alloc _ _ _) (by intro r h; cases h)) ⟨W.heap.size, rfl, Blk.new' rfl, hs4⟩
  case body =>
    rintro y pre x a' W hl hr ⟨h1, h2, h3, h6, h7, v, h4, h5⟩ ⟨bx, rfl, DX, hbx⟩ hlt
    clear hl hr
    obtain ⟨a, cap, rfl, q1, q2, _⟩ := owns_shape h5
    have HX := Lib.hid DX
    have hX := trivial
    have c1 : W.cell? ⟨w.heap.size, 0, none⟩ = some (.int .i64 most) := h1.cell 0
    have c2 : W.cell? ⟨w.heap.size + 1, 0, none⟩ = some (.slice a pre.length cap) := h4.cell 0
    have c3 : W.cell? ⟨w.heap.size + 1 + 1, 0, none⟩ = some (.int .i64 (stP pre).2.1) := h6.cell 0
    have c4 : W.cell? ⟨w.heap.size + 1 + 1 + 1, 0, none⟩ = some (.bool (stP pre).2.2) := h7.cell 0
    have f2 : W.frozen? ⟨w.heap.size + 1, 0, none⟩ = false := h4.frozen 0
    have f3 : W.frozen? ⟨w.heap.size + 1 + 1, 0, none⟩ = false := h6.frozen 0
    have f4 : W.frozen? ⟨w.heap.size + 1 + 1 + 1, 0, none⟩ = false := h7.frozen 0
    have HSN := Lib.hid (stP_snoc pre x)
    have HSF := Lib.hid (stP_fst pre)
    have hpre : pre.length ≤ 255 := by omega
    have hz : w.heap.size + 4 ≤ W.heap.size := by have := h7.lt; omega
    have hbx2 := DX.lt
    clear DX
    by_cases hm : most ≤ (pre.length : Int)
    · have H : ToldX most w (.exit 0) (pre ++ [x]) W := ⟨rfl, by rw [List.dropLast_concat]; omega, by rw [List.dropLast_concat]; exact ⟨h1, h2, h3, h6, h7, _, h4, h5⟩⟩
      have HXX := Lib.hid H
      clear H h1 h2 h3 h4 h5 h6 h7
      generalize pre.length = L at *
      gi_wp2
      exact ⟨(KeepsOthers.refl _).from _, HXX.out⟩
    · have HA := Lib.hid (show (pre ++ [x]).length ≤ most.toNat by simp; omega)
      have HBX := Lib.hid hbx
      have HM1 := Lib.hid (fun b e1 e2 => mid_first h1 h2 h6 h7 h4 h5 HX.out hbx (x := x) b e1 e2)
      have HM2 := Lib.hid (fun b e1 e2 => mid_ok h1 h2 h6 h7 h4 h5 HX.out hbx (x := x) b e1 e2)
      have G0 : ¬ most ≤ (pre.length : Int) := hm
      clear h1 h2 h3 h4 h5 h6 h7 hX
      have HP := Lib.hid hpre
      have HZ := Lib.hid hz
      clear hpre hz hbx
      by_cases hq : pre.length = 0
      · have e0 : stP pre = (0, 0, true) := by cases pre with | nil => rfl | cons => simp at hq
        have E1 := HSN.out
        rw [e0] at E1 c3 c4
        simp only [stepP, if_true, Bool.true_and] at E1
        rw [hq] at c2 hm
        have HQ := Lib.hid hq
        clear hq e0
        have HE1 := Lib.hid E1
        clear E1
        gi_upto_region 12 with fail
        have HM := Lib.hid (HM1.out (x.1 == wrap64 x.1) (by rw [HE1.out]) (by rw [HE1.out]; simp))
        generalize (W.setCell ⟨w.heap.size + 1 + 1, 0, none⟩ (.int .i64 x.1)).setCell ⟨w.heap.size + 1 + 1 + 1, 0, none⟩ (.bool (x.1 == wrap64 x.1)) = W1 at *
        obtain ⟨m1, m2, m3, m4, m5, m6, m7, m8, m9, m10⟩ := HM.out
        clear HM HX HM1 HM2 c1 c2 c3 c4 f2 f3 f4
        obtain ⟨x0, x1⟩ := m7.two
        have c2 : W1.cell? ⟨w.heap.size + 1, 0, none⟩ = some (.slice a pre.length cap) := m5.cell 0
        have f2 : W1.frozen? ⟨w.heap.size + 1, 0, none⟩ = false := m5.frozen 0
        have hz1 : w.heap.size + 4 ≤ W1.heap.size := by rw [m10]; exact HZ.out
        have hb1x : bx < W1.heap.size := m7.lt
        have H1 := Lib.hid m1
        have H2 := Lib.hid m2
        have H3 := Lib.hid m3
        have H4 := Lib.hid m4
        have H5 := Lib.hid m5
        have H6 := Lib.hid m6
        have H8 := Lib.hid m8
        have H9 := Lib.hid m9
        clear m1 m2 m3 m4 m5 m6 m7 m8 m9 m10
        gi_wp2_with (gi_at_builtin; refine wpListIn_app1 E29 rfl (.tmp 34) (.tmp 36) rfl H6.out [.int .i64 x.2.1, .int .i64 x.2.2] rfl (by simp [Value.oneCell']) rfl rfl (by have := HP.out; omega) (by omega) ?_; intro v' w1 ho hg; obtain ⟨a', cap', rfl, r1, r2, _⟩ := owns_shape ho; have HO := Lib.hid ho; have HG := Lib.hid hg; have B1 := Lib.hid (H1.out.kept hg (fun e => ownsRow_ne H6.out (by omega) e.symm)); have B5 := Lib.hid (H5.out.kept hg (fun e => ownsRow_ne H6.out (by omega) e.symm)); have B3 := Lib.hid (H3.out.kept hg (fun e => ownsRow_ne H6.out (by omega) e.symm)); have B4 := Lib.hid (H4.out.kept hg (fun e => ownsRow_ne H6.out (by omega) e.symm)); have c2' : w1.cell? ⟨w.heap.size + 1, 0, none⟩ = some (.slice a pre.length cap) := B5.out.cell 0; have f2' : w1.frozen? ⟨w.heap.size + 1, 0, none⟩ = false := B5.out.frozen 0; clear ho hg c2 f2)
        have hgo := HG.out
        have hfar : (some (w.heap.size + 1)) ≠ (Value.slice a' (pre.length + 1) cap').ownBlock := fun e => ownsRow_ne HO.out (by omega) e.symm
        have hbg : ∀ {A : World}, Below w.heap.size A W1 → Below w.heap.size A w1 := fun h => h.grown hgo (by have := h.size; omega) (fun k e => by
          rcases Nat.lt_or_ge k (w.heap.size + 4) with h | h
          · exact absurd e (ownsRow_ne H6.out h)
          · omega)
        refine ⟨((H8.out.trans (KeepsOthers.of_grownBy hgo ?_)).trans (KeepsOthers.setCell _ _ _)).from _, (hbg H9.out).setCell (by simp) _, ?_⟩
        · intro j o e ho
          exact own_cells H6.out e ho
        · refine ⟨B1.out.far (by simp) _, (hbg H2.out).setCell (by simp) _, HA.out, B3.out.far (by simp) _, B4.out.far (by simp) _, _, B5.out.set 0 _, ?_⟩
          have := own_set HO.out (p := ⟨w.heap.size + 1, 0, none⟩) (by simp) (.slice a' (pre.length + 1) cap')
          simpa [encSp] using this
      · have E1 := HSN.out
        have E2 := HSF.out
        have hq0 : ¬ (stP pre).1 = 0 := by omega
        simp only [stepP, if_neg hq0] at E1
        rw [E2] at E1
        have hq2 : ((pre.length : Int) == 0) = false := by rw [beq_eq_false_iff_ne]; omega
        have hq3 : decide ((pre.length : Int) = 0) = false := decide_eq_false (by omega)
        have HE1 := Lib.hid E1
        clear E1 E2 hq0
        generalize (stP pre).2.1 = F at *
        generalize (stP pre).2.2 = K at *
        cases K with
        | false =>
          gi_upto_region 12 with fail
          have HM := Lib.hid (HM2.out false (by rw [HE1.out]) (by rw [HE1.out]; simp))
          generalize W.setCell ⟨w.heap.size + 1 + 1 + 1, 0, none⟩ (.bool false) = W1 at *
          obtain ⟨m1, m2, m3, m4, m5, m6, m7, m8, m9, m10⟩ := HM.out
          clear HM HX HM1 HM2 c1 c2 c3 c4 f2 f3 f4
          obtain ⟨x0, x1⟩ := m7.two
          have c2 : W1.cell? ⟨w.heap.size + 1, 0, none⟩ = some (.slice a pre.length cap) := m5.cell 0
          have f2 : W1.frozen? ⟨w.heap.size + 1, 0, none⟩ = false := m5.frozen 0
          have hz1 : w.heap.size + 4 ≤ W1.heap.size := by rw [m10]; exact HZ.out
          have hb1x : bx < W1.heap.size := m7.lt
          have H1 := Lib.hid m1
          have H2 := Lib.hid m2
          have H3 := Lib.hid m3
          have H4 := Lib.hid m4
          have H5 := Lib.hid m5
          have H6 := Lib.hid m6
          have H8 := Lib.hid m8
          have H9 := Lib.hid m9
          clear m1 m2 m3 m4 m5 m6 m7 m8 m9 m10
          gi_wp2_with (gi_at_builtin; refine wpListIn_app1 E29 rfl (.tmp 34) (.tmp 36) rfl H6.out [.int .i64 x.2.1, .int .i64 x.2.2] rfl (by simp [Value.oneCell']) rfl rfl (by have := HP.out; omega) (by omega) ?_; intro v' w1 ho hg; obtain ⟨a', cap', rfl, r1, r2, _⟩ := owns_shape ho; have HO := Lib.hid ho; have HG := Lib.hid hg; have B1 := Lib.hid (H1.out.kept hg (fun e => ownsRow_ne H6.out (by omega) e.symm)); have B5 := Lib.hid (H5.out.kept hg (fun e => ownsRow_ne H6.out (by omega) e.symm)); have B3 := Lib.hid (H3.out.kept hg (fun e => ownsRow_ne H6.out (by omega) e.symm)); have B4 := Lib.hid (H4.out.kept hg (fun e => ownsRow_ne H6.out (by omega) e.symm)); have c2' : w1.cell? ⟨w.heap.size + 1, 0, none⟩ = some (.slice a pre.length cap) := B5.out.cell 0; have f2' : w1.frozen? ⟨w.heap.size + 1, 0, none⟩ = false := B5.out.frozen 0; clear ho hg c2 f2)
          have hgo := HG.out
          have hfar : (some (w.heap.size + 1)) ≠ (Value.slice a' (pre.length + 1) cap').ownBlock := fun e => ownsRow_ne HO.out (by omega) e.symm
          have hbg : ∀ {A : World}, Below w.heap.size A W1 → Below w.heap.size A w1 := fun h => h.grown hgo (by have := h.size; omega) (fun k e => by
            rcases Nat.lt_or_ge k (w.heap.size + 4) with h | h
            · exact absurd e (ownsRow_ne H6.out h)
            · omega)
          refine ⟨((H8.out.trans (KeepsOthers.of_grownBy hgo ?_)).trans (KeepsOthers.setCell _ _ _)).from _, (hbg H9.out).setCell (by simp) _, ?_⟩
          · intro j o e ho
            exact own_cells H6.out e ho
          · refine ⟨B1.out.far (by simp) _, (hbg H2.out).setCell (by simp) _, HA.out, B3.out.far (by simp) _, B4.out.far (by simp) _, _, B5.out.set 0 _, ?_⟩
            have := own_set HO.out (p := ⟨w.heap.size + 1, 0, none⟩) (by simp) (.slice a' (pre.length + 1) cap')
            simpa [encSp] using this
        | true =>
          gi_upto_region 12 with fail
          have HM := Lib.hid (HM2.out (x.1 == wrap64 (F + (pre.length : Int))) (by rw [HE1.out]) (by rw [HE1.out]; simp))
          generalize W.setCell ⟨w.heap.size + 1 + 1 + 1, 0, none⟩ (.bool (x.1 == wrap64 (F + (pre.length : Int)))) = W1 at *
          obtain ⟨m1, m2, m3, m4, m5, m6, m7, m8, m9, m10⟩ := HM.out
          clear HM HX HM1 HM2 c1 c2 c3 c4 f2 f3 f4
          obtain ⟨x0, x1⟩ := m7.two
          have c2 : W1.cell? ⟨w.heap.size + 1, 0, none⟩ = some (.slice a pre.length cap) := m5.cell 0
          have f2 : W1.frozen? ⟨w.heap.size + 1, 0, none⟩ = false := m5.frozen 0
          have hz1 : w.heap.size + 4 ≤ W1.heap.size := by rw [m10]; exact HZ.out
          have hb1x : bx < W1.heap.size := m7.lt
          have H1 := Lib.hid m1
          have H2 := Lib.hid m2
          have H3 := Lib.hid m3
          have H4 := Lib.hid m4
          have H5 := Lib.hid m5
          have H6 := Lib.hid m6
          have H8 := Lib.hid m8
          have H9 := Lib.hid m9
          clear m1 m2 m3 m4 m5 m6 m7 m8 m9 m10
          gi_wp2_with (gi_at_builtin; refine wpListIn_app1 E29 rfl (.tmp 34) (.tmp 36) rfl H6.out [.int .i64 x.2.1, .int .i64 x.2.2] rfl (by simp [Value.oneCell']) rfl rfl (by have := HP.out; omega) (by omega) ?_; intro v' w1 ho hg; obtain ⟨a', cap', rfl, r1, r2, _⟩ := owns_shape ho; have HO := Lib.hid ho; have HG := Lib.hid hg; have B1 := Lib.hid (H1.out.kept hg (fun e => ownsRow_ne H6.out (by omega) e.symm)); have B5 := Lib.hid (H5.out.kept hg (fun e => ownsRow_ne H6.out (by omega) e.symm)); have B3 := Lib.hid (H3.out.kept hg (fun e => ownsRow_ne H6.out (by omega) e.symm)); have B4 := Lib.hid (H4.out.kept hg (fun e => ownsRow_ne H6.out (by omega) e.symm)); have c2' : w1.cell? ⟨w.heap.size + 1, 0, none⟩ = some (.slice a pre.length cap) := B5.out.cell 0; have f2' : w1.frozen? ⟨w.heap.size + 1, 0, none⟩ = false := B5.out.frozen 0; clear ho hg c2 f2)
          have hgo := HG.out
          have hfar : (some (w.heap.size + 1)) ≠ (Value.slice a' (pre.length + 1) cap').ownBlock := fun e => ownsRow_ne HO.out (by omega) e.symm
          have hbg : ∀ {A : World}, Below w.heap.size A W1 → Below w.heap.size A w1 := fun h => h.grown hgo (by have := h.size; omega) (fun k e => by
            rcases Nat.lt_or_ge k (w.heap.size + 4) with h | h
            · exact absurd e (ownsRow_ne H6.out h)
            · omega)
          refine ⟨((H8.out.trans (KeepsOthers.of_grownBy hgo ?_)).trans (KeepsOthers.setCell _ _ _)).from _, (hbg H9.out).setCell (by simp) _, ?_⟩
          · intro j o e ho
            exact own_cells H6.out e ho
          · refine ⟨B1.out.far (by simp) _, (hbg H2.out).setCell (by simp) _, HA.out, B3.out.far (by simp) _, B4.out.far (by simp) _, _, B5.out.set 0 _, ?_⟩
            have := own_set HO.out (p := ⟨w.heap.size + 1, 0, none⟩) (by simp) (.slice a' (pre.length + 1) cap')
            simpa [encSp] using this
  case done =>
    rintro D ys W hD hys ⟨h1, h2, h3, h6, h7, v, h4, h5⟩ hK
    obtain ⟨av, cv, rfl, _⟩ := owns_shape h5
    have c2 : W.cell? ⟨w.heap.size + 1, 0, none⟩ = some _ := h4.cell 0
    have c3 : W.cell? ⟨w.heap.size + 1 + 1, 0, none⟩ = some _ := h6.cell 0
    have c4 : W.cell? ⟨w.heap.size + 1 + 1 + 1, 0, none⟩ = some _ := h7.cell 0
    have HE := Lib.hid (fun (a0 : Act) (n : Nat) => told_end (a0 := a0) (D := D) (l := ys) (X := X) (most := most) (w := w) (W := W.drewN n) (by omega) hK (below_drewN h2 n) h5 (by rw [← hys, List.take_of_length_le h3]))
    clear h1 h2 h3 h4 h5 h6 h7 hK hys
    go_upto_region 13 with fail
    refine wp_region_noPanic ?_
    go_quiet (fail)
    refine NoPanic.normal ?_
    go_wp2
    exact HE.out _ _ rfl rfl rfl rfl
  case stop =>
    rintro D c pre W hD hp ⟨rfl, hx, h1, h2, h3, h6, h7, v, h4, h5⟩ hK
    obtain ⟨av, cv, rfl, _⟩ := owns_shape h5
    have c2 : W.cell? ⟨w.heap.size + 1, 0, none⟩ = some _ := h4.cell 0
    have c3 : W.cell? ⟨w.heap.size + 1 + 1, 0, none⟩ = some _ := h6.cell 0
    have c4 : W.cell? ⟨w.heap.size + 1 + 1 + 1, 0, none⟩ = some _ := h7.cell 0
    have hl : pre.dropLast = X.take most.toNat := by
      have : pre.dropLast <+: X := (List.dropLast_prefix pre).trans hp
      rw [← hx]
      exact (List.prefix_iff_eq_take.1 this)
    have HE := Lib.hid (fun (a0 : Act) (n : Nat) => told_end (a0 := a0) (D := D) (l := pre.dropLast) (X := X) (most := most) (w := w) (W := W.drewN n) (by omega) hK (below_drewN h2 n) h5 hl)
    clear h1 h2 h3 h4 h5 h6 h7 hK hl hx hp
    generalize (stP pre.dropLast).2.1 = F at *
    generalize (stP pre.dropLast).2.2 = K at *
    generalize pre.dropLast.length = dl at *
    refine wpIn_wide.2 ?_
    go_upto_region 13 with fail
    refine wp_region_noPanic ?_
    go_quiet (fail)
    refine NoPanic.normal ?_
    go_wp2
    exact HE.out _ _ rfl rfl rfl rfl
end Go.Proofs.Ytiahmhmchppjgaa
